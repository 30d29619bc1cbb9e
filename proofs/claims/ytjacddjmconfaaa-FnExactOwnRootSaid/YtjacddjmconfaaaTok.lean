/- Contracts: whether leaves are ok (program and reference). -/
import Derived.Test.YtjacddjmconfaaaLeaf
namespace Go.Proofs.Ytjacddjmconfaaa
set_option linter.unusedVariables false
open Go.RowKit Pl

theorem TreOkF_any (n : Int) (w : World) : Calls Try.prog 50 #[.int .i64 n] w fun e w' => e = .returned (.bool (!okI n)) ∧ w = w' := by
  go_enter Try.func50, Try.ntmps50
  go_wp2_with (go_at_call 51; refine (MixOk_any _ _).mono ?_; rintro e w' ⟨rfl, rfl⟩)
  go_ret
  exact ⟨rfl, rfl⟩

/-- the first leaf that is not ok -/
def BadAt (xs : List Int) (w : World) (e : Ending) (w' : World) : Prop := ∃ r : Int, 0 ≤ r ∧ e = .returned (.int .i64 r) ∧ w = w'

theorem IndexFunc_all (A : Option Addr) (n c L : Nat) (xs : List Int) (w : World) (hl : xs.length = n) (hr : RI w L A xs) (hn : n ≤ 2000000) (h : ∀ j, j < xs.length → okI (xs.getD j 0) = true) :
    Calls Try.prog 78 #[.slice A n c, .func (.func 50) #[] #[]] w fun e w' => e = .returned (.int .i64 (-1)) ∧ w = w' := by
  subst hl
  have H := Lib.hid h
  clear h
  go_enter Try.func78, Try.ntmps78
  go_wp2
  go_loop [8] (fun i => ∃ k : Nat, k ≤ xs.length ∧ i = .int .i64 k) (fun i => xs.length - (intOf i).toNat)
  case atStart => exact ⟨0, by omega, rfl⟩
  case round =>
    obtain ⟨k, hk, rfl⟩ := hrel
    by_cases hlt : k < xs.length
    · obtain ⟨b, o, rfl, _, _, hcell⟩ := hr.at_ hlt
      have hz := H.out k hlt
      clear hr H
      generalize xs.getD k 0 = z at *
      go_wp2_with (go_at_call 50; refine (TreOkF_any _ _).mono ?_; rintro e w' ⟨rfl, rfl⟩)
      go_round
      case rel => exact ⟨k + 1, by omega, by go_num⟩
      case measure => simp [intOf]; omega
    · clear hr H
      go_wp2
      go_ret
      exact ⟨rfl, rfl⟩
theorem IndexFunc_bad (A : Option Addr) (n c L : Nat) (xs : List Int) (w : World) (hl : xs.length = n) (hr : RI w L A xs) (hn : n ≤ 2000000) (h : ∃ j, j < xs.length ∧ okI (xs.getD j 0) = false) :
    Calls Try.prog 78 #[.slice A n c, .func (.func 50) #[] #[]] w (BadAt xs w) := by
  subst hl
  have H := Lib.hid h
  clear h
  go_enter Try.func78, Try.ntmps78
  go_wp2
  go_loop [8] (fun i => ∃ k : Nat, k ≤ xs.length ∧ i = .int .i64 k ∧ ∀ j, j < k → okI (xs.getD j 0) = true) (fun i => xs.length - (intOf i).toNat)
  case atStart => exact ⟨0, by omega, rfl, fun j hj => by omega⟩
  case round =>
    obtain ⟨k, hk, rfl, hall0⟩ := hrel
    have hall := Lib.hid hall0
    clear hall0
    by_cases hlt : k < xs.length
    · obtain ⟨b, o, rfl, _, _, hcell⟩ := hr.at_ hlt
      clear hr
      cases hz0 : okI (xs.getD k 0)
      · clear hall H
        generalize xs.getD k 0 = z at *
        go_wp2_with (go_at_call 50; refine (TreOkF_any _ _).mono ?_; rintro e w' ⟨rfl, rfl⟩)
        go_ret
        exact ⟨_, by omega, rfl, rfl⟩
      · have hall' : Hid (∀ j, j < k + 1 → okI (xs.getD j 0) = true) := Lib.hid (fun j hj => by
          by_cases e : j = k
          · rw [e]; exact hz0
          · exact hall.out j (by omega))
        clear hall H
        generalize xs.getD k 0 = z at *
        go_wp2_with (go_at_call 50; refine (TreOkF_any _ _).mono ?_; rintro e w' ⟨rfl, rfl⟩)
        go_round
        case rel => exact ⟨k + 1, by omega, by go_num, hall'.out⟩
        case measure => simp [intOf]; omega
    · exfalso
      obtain ⟨j, hj, hz⟩ := H.out
      rw [hall.out j (by omega)] at hz
      cases hz

theorem okL_all {xs : List Int} (h : okL xs = true) : ∀ j, j < xs.length → okI (xs.getD j 0) = true := fun j hj => by
  refine (okL_iff.1 h).2 _ ?_
  simp [List.getD, List.getElem?_eq_getElem hj]
theorem okL_bad {xs : List Int} (h : okL xs = false) (hl : xs.length ≤ 40) : ∃ j, j < xs.length ∧ okI (xs.getD j 0) = false := by
  apply Classical.byContradiction
  intro hno
  have : okL xs = true := okL_iff.2 ⟨hl, fun x hx => by
    obtain ⟨j, hj, rfl⟩ := List.getElem_of_mem hx
    cases e : okI xs[j]
    · exact absurd ⟨j, hj, by simpa [List.getD, List.getElem?_eq_getElem hj] using e⟩ hno
    · rfl⟩
  rw [h] at this
  cases this

theorem ContainsFunc_no (A : Option Addr) (n c L : Nat) (xs : List Int) (w : World) (hl : xs.length = n) (hr : RI w L A xs) (hn : n ≤ 40) (h : okL xs = true) :
    Calls Try.prog 49 #[.slice A n c, .func (.func 50) #[] #[]] w fun e w' => e = .returned (.bool false) ∧ w = w' := by
  have H := Lib.hid h
  clear h
  have HL := Lib.hid hl
  clear hl
  go_enter Try.func49, Try.ntmps49
  go_wp2_with (go_at_call 78; refine (IndexFunc_all _ _ _ L xs _ HL.out hr (by omega) (okL_all H.out)).mono ?_; rintro e w' ⟨rfl, rfl⟩)
  go_ret
  exact ⟨rfl, rfl⟩
theorem ContainsFunc_yes (A : Option Addr) (n c L : Nat) (xs : List Int) (w : World) (hl : xs.length = n) (hr : RI w L A xs) (hn : n ≤ 40) (h : okL xs = false) :
    Calls Try.prog 49 #[.slice A n c, .func (.func 50) #[] #[]] w fun e w' => e = .returned (.bool true) ∧ w = w' := by
  have H := Lib.hid h
  clear h
  have HL := Lib.hid hl
  clear hl
  go_enter Try.func49, Try.ntmps49
  go_wp2_with (go_at_call 78; refine (IndexFunc_bad _ _ _ L xs _ HL.out hr (by omega) (okL_bad H.out (by have := HL.out; omega))).mono ?_; rintro e w' ⟨r, h0, rfl, rfl⟩)
  go_ret
  exact ⟨ret_bool (by simp), rfl⟩

theorem TreOk_any (A : Option Addr) (n c L : Nat) (xs : List Int) (w : World) (hl : xs.length = n) (hr : RI w L A xs) (hn : n ≤ 2000000) :
    Calls Try.prog 20 #[.slice A n c] w fun e w' => e = .returned (.bool (okL xs)) ∧ w = w' := by
  by_cases h40 : n ≤ 40
  · cases h : okL xs
    · have H := Lib.hid h
      have HL := Lib.hid hl
      clear h hl
      go_enter Try.func20, Try.ntmps20
      go_wp2_with (go_at_call 49; refine (ContainsFunc_yes _ _ _ L xs _ HL.out hr (by omega) H.out).mono ?_; rintro e w' ⟨rfl, rfl⟩)
      go_ret
      exact ⟨rfl, rfl⟩
    · have H := Lib.hid h
      have HL := Lib.hid hl
      clear h hl
      go_enter Try.func20, Try.ntmps20
      go_wp2_with (go_at_call 49; refine (ContainsFunc_no _ _ _ L xs _ HL.out hr (by omega) H.out).mono ?_; rintro e w' ⟨rfl, rfl⟩)
      go_ret
      exact ⟨rfl, rfl⟩
  · have e : okL xs = false := by
      cases e : okL xs
      · rfl
      · have := (okL_iff.1 e).1; omega
    rw [e]
    clear hl e
    have h41 : 40 < n := by omega
    clear h40
    go_enter Try.func20, Try.ntmps20
    go_wp2
    go_ret
    exact ⟨rfl, rfl⟩

set_option maxHeartbeats 400000 in
theorem sTreOk_any (A : Option Addr) (n c L : Nat) (xs : List Int) (w : World) (hl : xs.length = n) (hr : RI w L A xs) (hn : n ≤ 2000000) :
    Calls Try.prog 19 #[.slice A n c] w fun e w' => e = .returned (.bool (okL xs)) ∧ w = w' := by
  subst hl
  by_cases h40 : xs.length ≤ 40
  · obtain ⟨V, hV⟩ : ∃ V, V = okL xs := ⟨_, rfl⟩
    rw [← hV]
    have HV := Lib.hid hV
    clear hV
    go_enter Try.func19, Try.ntmps19
    go_wp2
    go_loop [3] (fun i => ∃ k : Nat, k ≤ xs.length ∧ i = .int .i64 k ∧ ∀ j, j < k → okI (xs.getD j 0) = true) (fun i => xs.length - (intOf i).toNat)
    case atStart => exact ⟨0, by omega, rfl, fun j hj => by omega⟩
    case round =>
      obtain ⟨k, hk, rfl, hall0⟩ := hrel
      have hall := Lib.hid hall0
      clear hall0
      by_cases hlt : k < xs.length
      · obtain ⟨b, o, rfl, _, _, hcell⟩ := hr.at_ hlt
        clear hr
        cases hz0 : okI (xs.getD k 0)
        · have hfin : Hid (V = false) := Lib.hid (by
            rw [HV.out]
            cases e : okL xs
            · rfl
            · rw [okL_all e k hlt] at hz0; cases hz0)
          clear hall HV
          generalize xs.getD k 0 = z at *
          go_wp2_with (go_at_call 48; refine (sMixOk_any _ _).mono ?_; rintro e w' ⟨rfl, rfl⟩)
          go_ret
          exact ⟨ret_bool hfin.out.symm, rfl⟩
        · have hall' : Hid (∀ j, j < k + 1 → okI (xs.getD j 0) = true) := Lib.hid (fun j hj => by
            by_cases e : j = k
            · rw [e]; exact hz0
            · exact hall.out j (by omega))
          clear hall
          generalize xs.getD k 0 = z at *
          go_wp2_with (go_at_call 48; refine (sMixOk_any _ _).mono ?_; rintro e w' ⟨rfl, rfl⟩)
          go_round
          case rel => exact ⟨k + 1, by omega, by go_num, hall'.out⟩
          case measure => simp [intOf]; omega
      · have hfin : Hid (V = true) := Lib.hid (by
          rw [HV.out]
          cases e : okL xs
          · obtain ⟨j, hj, hz⟩ := okL_bad e h40
            rw [hall.out j (by omega)] at hz
            cases hz
          · rfl)
        clear hr hall HV
        go_wp2
        go_ret
        exact ⟨ret_bool hfin.out.symm, rfl⟩
  · have e : okL xs = false := by
      cases e : okL xs
      · rfl
      · have := (okL_iff.1 e).1; omega
    rw [e]
    clear e
    have h41 : 40 < xs.length := by omega
    clear h40
    go_enter Try.func19, Try.ntmps19
    go_wp2
    go_ret
    exact ⟨rfl, rfl⟩
end Go.Proofs.Ytjacddjmconfaaa
