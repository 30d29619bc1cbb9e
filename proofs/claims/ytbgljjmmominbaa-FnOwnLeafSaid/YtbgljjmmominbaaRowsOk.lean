/- Contracts: whether rows are ok (program and reference). -/
import Derived.Test.YtbgljjmmominbaaStr
namespace Go.Proofs.Ytbgljjmmominbaa
set_option linter.unusedVariables false
open Go.RowKit Pl
/-- a row of nobody's, or of somebody's -/
def rowOk (r : Orow) : Bool := (r.u == 0 && r.f == 0 && !r.b) || (inB r.u 1 5 && inB r.f 1 50)
def rowsOk (rs : List Orow) : Bool := decide (rs.length = 8) && rs.all rowOk
theorem rowOk_blank {r : Orow} (h : (r.u == 0 && r.f == 0 && !r.b) = true) : r = r0 := by
  obtain ⟨u, f, b⟩ := r
  simp at h
  obtain ⟨⟨rfl, rfl⟩, rfl⟩ := h
  rfl
theorem rows_bad {rs : List Orow} {k : Nat} (hk : k < rs.length) (h : rowOk (rs.getD k r0) = false) : rowsOk rs = false := by
  unfold rowsOk
  rw [getD_get rs r0 hk] at h
  have : rs.all rowOk = false := by
    rw [List.all_eq_false]
    exact ⟨rs[k], List.getElem_mem hk, by rw [h]; decide⟩
  rw [this]; simp
theorem rows_good {rs : List Orow} (h : ∀ j, j < rs.length → rowOk (rs.getD j r0) = true) : rowsOk rs = decide (rs.length = 8) := by
  unfold rowsOk
  have : rs.all rowOk = true := by
    rw [List.all_eq_true]
    intro x hx
    obtain ⟨j, hj, rfl⟩ := List.getElem_of_mem hx
    have := h j hj
    rwa [getD_get rs r0 hj] at this
  rw [this]; simp
/-- what a row is -/
theorem row_cases (u f : Int) (b : Bool) : (u = 0 ∧ f = 0 ∧ b = false ∧ rowOk ⟨u, f, b⟩ = true) ∨ (u = 0 ∧ f = 0 ∧ b = true ∧ rowOk ⟨u, f, b⟩ = false) ∨ (u = 0 ∧ (f == 0) = false ∧ rowOk ⟨u, f, b⟩ = false) ∨
    ((u == 0) = false ∧ inB u 1 5 = false ∧ rowOk ⟨u, f, b⟩ = false) ∨ ((u == 0) = false ∧ inB u 1 5 = true ∧ inB f 1 50 = false ∧ rowOk ⟨u, f, b⟩ = false) ∨ ((u == 0) = false ∧ inB u 1 5 = true ∧ inB f 1 50 = true ∧ rowOk ⟨u, f, b⟩ = true) := by
  by_cases hu : u = 0
  · subst hu
    by_cases hf : f = 0
    · subst hf
      cases b
      · exact .inl ⟨rfl, rfl, rfl, rfl⟩
      · exact .inr (.inl ⟨rfl, rfl, rfl, rfl⟩)
    · refine .inr (.inr (.inl ⟨rfl, by simpa using hf, ?_⟩))
      simp [rowOk, hf, inB]
  · have h0 : (u == 0) = false := by simpa using hu
    cases h1 : inB u 1 5
    · exact .inr (.inr (.inr (.inl ⟨h0, rfl, by simp [rowOk, h0, h1]⟩)))
    · cases h2 : inB f 1 50
      · exact .inr (.inr (.inr (.inr (.inl ⟨h0, rfl, rfl, by simp [rowOk, h0, h1, h2]⟩))))
      · exact .inr (.inr (.inr (.inr (.inr ⟨h0, rfl, rfl, by simp [rowOk, h0, h1, h2]⟩))))
set_option maxHeartbeats 4000000 in
theorem OwnOk_any (A : Option Addr) (n c L : Nat) (rs : List Orow) (w : World) (hl : rs.length = n) (hr : RV w L A (flatR rs)) (hn : n ≤ 1500000) : Calls Try.prog 31 #[.slice A n c] w fun e w' => e = .returned (.bool (rowsOk rs)) ∧ Below w.heap.size w w' := by
  have HL := Lib.hid hl
  have HR := Lib.hid hr
  clear hl hr
  obtain ⟨V, hV⟩ : ∃ V, V = rowsOk rs := ⟨_, rfl⟩
  rw [← hV]
  have HV := Lib.hid hV
  clear hV
  go_enter Try.func31, Try.ntmps31
  go_wp2_with fail
  go_loopw [7] (fun i wr => ∃ k : Nat, k ≤ n ∧ i = .int .i64 (k : Int) ∧ (∀ j, j < k → rowOk (rs.getD j r0) = true) ∧ Below w.heap.size w wr) (fun i _ => n - (intOf i).toNat)
  case atStart => exact ⟨0, by omega, rfl, fun j hj => by omega, Below.refl _ _⟩
  case round =>
    obtain ⟨k, hk, rfl, hall0, hb⟩ := hrel
    have hall := Lib.hid hall0
    have B := Lib.hid hb
    clear hb hall0
    have hsz : w.heap.size ≤ wr.heap.size := B.out.size
    by_cases hlt : k < n
    · obtain ⟨b, o, rfl, _, hbs, h1, h2, h3⟩ := (HR.out.below B.out).atR (j := k) (by rw [HL.out]; exact hlt)
      have hnext := Lib.hid (show rowOk (rs.getD k r0) = true → ∀ j, j < k + 1 → rowOk (rs.getD j r0) = true from fun h j hj => by
        by_cases e : j = k
        · rw [e]; exact h
        · exact hall.out j (by omega))
      have hfin := Lib.hid (show rowOk (rs.getD k r0) = false → V = false from fun h => by rw [HV.out]; exact rows_bad (by rw [HL.out]; exact hlt) h)
      clear hall
      generalize rs.getD k r0 = r at *
      obtain ⟨u, f, bb⟩ := r
      rcases row_cases u f bb with ⟨rfl, rfl, rfl, gg⟩ | ⟨rfl, rfl, rfl, gg⟩ | ⟨rfl, g1, gg⟩ | ⟨g1, g2, gg⟩ | ⟨g1, g2, g3, gg⟩ | ⟨g1, g2, g3, gg⟩
      · go_wp2_with (first | (go_at_call 75; refine (isUser_any _ _).mono ?_; rintro e w' ⟨rfl, rfl⟩) | (go_at_call 76; refine (isFace_any _ _).mono ?_; rintro e w' ⟨rfl, rfl⟩))
        go_roundw
        case rel => exact ⟨k + 1, by omega, by go_num, hnext.out gg, B.out.alloc hsz _⟩
        case measure => simp [intOf]; omega
      · go_wp2_with (first | (go_at_call 75; refine (isUser_any _ _).mono ?_; rintro e w' ⟨rfl, rfl⟩) | (go_at_call 76; refine (isFace_any _ _).mono ?_; rintro e w' ⟨rfl, rfl⟩))
        go_ret
        exact ⟨ret_bool (hfin.out gg).symm, B.out.alloc hsz _⟩
      · go_wp2_with (first | (go_at_call 75; refine (isUser_any _ _).mono ?_; rintro e w' ⟨rfl, rfl⟩) | (go_at_call 76; refine (isFace_any _ _).mono ?_; rintro e w' ⟨rfl, rfl⟩))
        go_ret
        exact ⟨ret_bool (hfin.out gg).symm, B.out.alloc hsz _⟩
      · go_wp2_with (first | (go_at_call 75; refine (isUser_any _ _).mono ?_; rintro e w' ⟨rfl, rfl⟩) | (go_at_call 76; refine (isFace_any _ _).mono ?_; rintro e w' ⟨rfl, rfl⟩))
        go_ret
        exact ⟨ret_bool (hfin.out gg).symm, B.out.alloc hsz _⟩
      · go_wp2_with (first | (go_at_call 75; refine (isUser_any _ _).mono ?_; rintro e w' ⟨rfl, rfl⟩) | (go_at_call 76; refine (isFace_any _ _).mono ?_; rintro e w' ⟨rfl, rfl⟩))
        go_ret
        exact ⟨ret_bool (hfin.out gg).symm, B.out.alloc hsz _⟩
      · go_wp2_with (first | (go_at_call 75; refine (isUser_any _ _).mono ?_; rintro e w' ⟨rfl, rfl⟩) | (go_at_call 76; refine (isFace_any _ _).mono ?_; rintro e w' ⟨rfl, rfl⟩))
        go_roundw
        case rel => exact ⟨k + 1, by omega, by go_num, hnext.out gg, B.out.alloc hsz _⟩
        case measure => simp [intOf]; omega
    · have hv : V = decide (n = 8) := by
        rw [HV.out, rows_good (fun j hj => hall.out j (by have := HL.out; omega)), HL.out]
      subst hv
      clear hall
      go_wp2_with fail
      go_ret
      exact ⟨ret_bool (by simp only [Bool.beq_eq_decide_eq]; congr 1; simp only [eq_iff_iff]; omega), B.out⟩
set_option maxHeartbeats 4000000 in
theorem sOwnOk_any (A : Option Addr) (n c L : Nat) (rs : List Orow) (w : World) (hl : rs.length = n) (hr : RV w L A (flatR rs)) (hn : n ≤ 1500000) : Calls Try.prog 30 #[.slice A n c] w fun e w' => e = .returned (.bool (rowsOk rs)) ∧ Below w.heap.size w w' := by
  have HL := Lib.hid hl
  have HR := Lib.hid hr
  clear hl hr
  obtain ⟨V, hV⟩ : ∃ V, V = rowsOk rs := ⟨_, rfl⟩
  rw [← hV]
  have HV := Lib.hid hV
  clear hV
  by_cases hn8 : (n == 8) = false
  · have hv : V = false := by
      rw [HV.out]
      unfold rowsOk
      rw [HL.out]
      simp at hn8
      simp [hn8]
    subst hv
    have e8 : ((n : Int) == 8) = false := by simp at hn8 ⊢; omega
    clear hn8
    go_enter Try.func30, Try.ntmps30
    go_wp2_with fail
    go_ret
    exact ⟨rfl, Below.refl _ _⟩
  obtain rfl : n = 8 := by simpa using hn8
  clear hn8
  go_enter Try.func30, Try.ntmps30
  go_wp2_with fail
  go_loopw [3] (fun i wr => ∃ k : Nat, k ≤ 8 ∧ i = .int .i64 (k : Int) ∧ (∀ j, j < k → rowOk (rs.getD j r0) = true) ∧ Below w.heap.size w wr) (fun i _ => 8 - (intOf i).toNat)
  case atStart => exact ⟨0, by omega, rfl, fun j hj => by omega, Below.refl _ _⟩
  case round =>
    obtain ⟨k, hk, rfl, hall0, hb⟩ := hrel
    have hall := Lib.hid hall0
    have B := Lib.hid hb
    clear hb hall0
    have hsz : w.heap.size ≤ wr.heap.size := B.out.size
    by_cases hlt : k < 8
    · obtain ⟨b, o, rfl, _, hbs, h1, h2, h3⟩ := (HR.out.below B.out).atR (j := k) (by rw [HL.out]; exact hlt)
      have hnext := Lib.hid (show rowOk (rs.getD k r0) = true → ∀ j, j < k + 1 → rowOk (rs.getD j r0) = true from fun h j hj => by
        by_cases e : j = k
        · rw [e]; exact h
        · exact hall.out j (by omega))
      have hfin := Lib.hid (show rowOk (rs.getD k r0) = false → V = false from fun h => by rw [HV.out]; exact rows_bad (by rw [HL.out]; exact hlt) h)
      clear hall
      generalize rs.getD k r0 = r at *
      obtain ⟨u, f, bb⟩ := r
      rcases row_cases u f bb with ⟨rfl, rfl, rfl, gg⟩ | ⟨rfl, rfl, rfl, gg⟩ | ⟨rfl, g1, gg⟩ | ⟨g1, g2, gg⟩ | ⟨g1, g2, g3, gg⟩ | ⟨g1, g2, g3, gg⟩
      · go_wp2_with (go_at_call 72; refine (l1In_any _ _ _ _).mono ?_; rintro e w' ⟨rfl, rfl⟩)
        go_roundw
        case rel => exact ⟨k + 1, by omega, by go_num, hnext.out gg, B.out.alloc hsz _⟩
        case measure => simp [intOf]; omega
      · go_wp2_with (go_at_call 72; refine (l1In_any _ _ _ _).mono ?_; rintro e w' ⟨rfl, rfl⟩)
        go_ret
        exact ⟨ret_bool (hfin.out gg).symm, B.out.alloc hsz _⟩
      · go_wp2_with (go_at_call 72; refine (l1In_any _ _ _ _).mono ?_; rintro e w' ⟨rfl, rfl⟩)
        go_ret
        exact ⟨ret_bool (hfin.out gg).symm, B.out.alloc hsz _⟩
      · have g1n : (u != 0) = true := by simp only [bne, g1]; rfl
        go_wp2_with (go_at_call 72; refine (l1In_any _ _ _ _).mono ?_; rintro e w' ⟨rfl, rfl⟩)
        go_ret
        exact ⟨ret_bool (hfin.out gg).symm, B.out.alloc hsz _⟩
      · have g1n : (u != 0) = true := by simp only [bne, g1]; rfl
        go_wp2_with (go_at_call 72; refine (l1In_any _ _ _ _).mono ?_; rintro e w' ⟨rfl, rfl⟩)
        go_ret
        exact ⟨ret_bool (hfin.out gg).symm, B.out.alloc hsz _⟩
      · have g1n : (u != 0) = true := by simp only [bne, g1]; rfl
        go_wp2_with (go_at_call 72; refine (l1In_any _ _ _ _).mono ?_; rintro e w' ⟨rfl, rfl⟩)
        go_roundw
        case rel => exact ⟨k + 1, by omega, by go_num, hnext.out gg, B.out.alloc hsz _⟩
        case measure => simp [intOf]; omega
    · have hv : V = true := by
        rw [HV.out, rows_good (fun j hj => hall.out j (by have := HL.out; omega)), HL.out]; rfl
      subst hv
      clear hall
      go_wp2_with fail
      go_ret
      exact ⟨ret_bool (by rfl), B.out⟩
end Go.Proofs.Ytbgljjmmominbaa
