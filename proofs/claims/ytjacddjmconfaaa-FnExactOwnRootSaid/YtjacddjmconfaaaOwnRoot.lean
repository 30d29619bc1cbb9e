/- Contracts: the leaves of rows, and their root. -/
import Derived.Test.YtjacddjmconfaaaRowsOk
import Derived.Test.YtjacddjmconfaaaLeafB
import Derived.Test.YtjacddjmconfaaaRoot
namespace Go.Proofs.Ytjacddjmconfaaa
set_option linter.unusedVariables false
open Go.RowKit Pl
/-- the first k rows' leaves -/
def lvP (rs : List Orow) : Nat → List Int
  | 0 => []
  | k + 1 => lvP rs k ++ [ownLeaf (k : Int) (rs.getD k r0).u (rs.getD k r0).f (rs.getD k r0).b]
def leavesR (rs : List Orow) : List Int := lvP rs rs.length
theorem lvP_step (rs : List Orow) (k : Nat) : lvP rs (k + 1) = lvP rs k ++ [ownLeaf (k : Int) (rs.getD k r0).u (rs.getD k r0).f (rs.getD k r0).b] := rfl
theorem ownLeaf_ok (t u f : Int) (b : Bool) : okI (ownLeaf t u f b) = true := by
  unfold ownLeaf
  split
  · exact mixLeaf_ok _
  · rfl
theorem lvP_ok (rs : List Orow) (k : Nat) : (lvP rs k).length = k ∧ ∀ x ∈ lvP rs k, okI x = true := by
  induction k with
  | zero => exact ⟨rfl, fun x h => by simp [lvP] at h⟩
  | succ k ih =>
    refine ⟨by rw [lvP]; simp [ih.1], fun x hx => ?_⟩
    rw [lvP] at hx
    rcases List.mem_append.1 hx with h | h
    · exact ih.2 x h
    · rw [List.mem_singleton.1 h]; exact ownLeaf_ok _ _ _ _
theorem rowsOk_len {rs : List Orow} (h : rowsOk rs = true) : rs.length = 8 := by
  unfold rowsOk at h
  simp at h
  exact h.1
theorem leavesR_ok {rs : List Orow} (h : rowsOk rs = true) : okL (leavesR rs) = true ∧ (leavesR rs).length = 8 := by
  have h8 := rowsOk_len h
  have := lvP_ok rs rs.length
  exact ⟨okL_iff.2 ⟨by rw [leavesR, this.1]; omega, this.2⟩, by rw [leavesR, this.1]; exact h8⟩
def ownRoot (rs : List Orow) : Int := if rowsOk rs = true then root (leavesR rs) else 0
set_option maxHeartbeats 1000000 in
theorem leaves_any (A : Option Addr) (n c L : Nat) (rs : List Orow) (w : World) (hl : rs.length = n) (hr : RV w L A (flatR rs)) (hn : n ≤ 1500000) : Calls Try.prog 72 #[.slice A n c] w (OwnRes w (leavesR rs)) := by
  have HL := Lib.hid hl
  have HR := Lib.hid hr
  clear hl hr
  go_enter Try.func72, Try.ntmps72
  go_wp2_with fail
  go_loopw [3, 8] (fun o i wr => ∃ (k : Nat) (A' : Option Addr) (c' : Nat), k ≤ n ∧ i = .int .i64 (k : Int) ∧ o = .slice A' k c' ∧ OwnI wr w.heap.size A' k c' (lvP rs k) ∧ Below w.heap.size w wr) (fun _ i _ => n - (intOf i).toNat)
  case atStart => exact ⟨0, none, 0, by omega, rfl, rfl, World.ownsRow_nil _ _ _ _, Below.refl _ _⟩
  case round =>
    obtain ⟨k, A', c', hk, rfl, rfl, ho, hb⟩ := hrel
    have O := Lib.hid ho
    have B := Lib.hid hb
    clear ho hb
    by_cases hlt : k < n
    · obtain ⟨b, o, rfl, _, hbs, h1, h2, h3⟩ := (HR.out.below B.out).atR (j := k) (by rw [HL.out]; exact hlt)
      have hs := Lib.hid (lvP_step rs k)
      generalize rs.getD k r0 = e1 at *
      go_wp2_with fail
      refine (OwnLeaf_any _ _ _ _ _).mono ?_
      rintro e w2 ⟨rfl, hb2⟩
      have O2 := Lib.hid (owns_over (World.ownsRow.alloc O.out _) hb2)
      have B2 := Lib.hid (below_at (B.out.alloc B.out.size _) hb2)
      have hsz : w.heap.size ≤ w2.heap.size := B2.out.size
      clear hb2 h1 h2 h3
      go_wp2_with (at_builtin; refine wpList_push rfl _ _ rfl w.heap.size A' k c' _ _ w2.heap.size rfl rfl (World.ownsRow.alloc O2.out _) (heap_alloc_new _ _) (by omega) (by simp; omega) ?_; intro g c2 w3 hown3 hb3 hg3; have O3 := Lib.hid hown3; have B3 := Lib.hid ((B2.out.alloc hsz _).trans hb3); clear hown3 hb3 hg3)
      go_roundw
      case rel => exact ⟨k + 1, _, c2, by omega, by go_num, rfl, by rw [hs.out]; exact O3.out, B3.out⟩
      case measure => simp [intOf]; omega
    · obtain rfl : k = n := by omega
      go_wp2_with fail
      go_ret
      exact ⟨_, _, _, rfl, by rw [leavesR, HL.out]; exact own_len O.out, by rw [leavesR, HL.out]; exact O.out, B.out⟩
set_option maxHeartbeats 1000000 in
theorem l5Leaves_any (A : Option Addr) (n c L : Nat) (rs : List Orow) (w : World) (hl : rs.length = n) (hr : RV w L A (flatR rs)) (hn : n ≤ 1500000) : Calls Try.prog 70 #[.slice A n c] w (OwnRes w (leavesR rs)) := by
  have HL := Lib.hid hl
  have HR := Lib.hid hr
  clear hl hr
  go_enter Try.func70, Try.ntmps70
  go_wp2_with fail
  go_loopw [3, 4] (fun o i wr => ∃ (k : Nat) (A' : Option Addr) (c' : Nat), k ≤ n ∧ i = .int .i64 (k : Int) ∧ o = .slice A' k c' ∧ OwnI wr w.heap.size A' k c' (lvP rs k) ∧ Below w.heap.size w wr) (fun _ i _ => n - (intOf i).toNat)
  case atStart => exact ⟨0, _, _, by omega, rfl, rfl, own_lit w _ [] _ (Nat.le_refl _) rfl (by simp), (Below.refl _ _).alloc (Nat.le_refl _) _⟩
  case round =>
    obtain ⟨k, A', c', hk, rfl, rfl, ho, hb⟩ := hrel
    have O := Lib.hid ho
    have B := Lib.hid hb
    clear ho hb
    by_cases hlt : k < n
    · obtain ⟨b, o, rfl, _, hbs, h1, h2, h3⟩ := (HR.out.below B.out).atR (j := k) (by rw [HL.out]; exact hlt)
      have hs := Lib.hid (lvP_step rs k)
      generalize rs.getD k r0 = e1 at *
      go_wp2_with fail
      refine (sOwnLeaf_any _ _ _ _ _).mono ?_
      rintro e w2 ⟨rfl, hb2⟩
      have O2 := Lib.hid (owns_over (O.out) hb2)
      have B2 := Lib.hid (below_at (B.out) hb2)
      have hsz : w.heap.size ≤ w2.heap.size := B2.out.size
      clear hb2 h1 h2 h3
      go_wp2_with (at_builtin; refine wpList_push rfl _ _ rfl w.heap.size A' k c' _ _ w2.heap.size rfl rfl (World.ownsRow.alloc O2.out _) (heap_alloc_new _ _) (by omega) (by simp; omega) ?_; intro g c2 w3 hown3 hb3 hg3; have O3 := Lib.hid hown3; have B3 := Lib.hid ((B2.out.alloc hsz _).trans hb3); clear hown3 hb3 hg3)
      go_roundw
      case rel => exact ⟨k + 1, _, c2, by omega, by go_num, rfl, by rw [hs.out]; exact O3.out, B3.out⟩
      case measure => simp [intOf]; omega
    · obtain rfl : k = n := by omega
      go_wp2_with fail
      go_ret
      exact ⟨_, _, _, rfl, by rw [leavesR, HL.out]; exact own_len O.out, by rw [leavesR, HL.out]; exact O.out, B.out⟩
set_option maxHeartbeats 1000000 in
theorem OwnRoot_any (A : Option Addr) (n c L : Nat) (rs : List Orow) (w : World) (hl : rs.length = n) (hr : RV w L A (flatR rs)) (hn : n ≤ 1500000) : Calls Try.prog 43 #[.slice A n c] w fun e w' => e = .returned (.int .i64 (ownRoot rs)) ∧ Below w.heap.size w w' := by
  have HL := Lib.hid hl
  have HR := Lib.hid hr
  clear hl hr
  cases hR : rowsOk rs
  · have hv : ownRoot rs = 0 := by simp [ownRoot, hR]
    rw [hv]
    go_enter Try.func43, Try.ntmps43
    go_wp2_with fail
    refine (OwnOk_any _ _ _ _ rs _ HL.out HR.out hn).mono ?_
    rw [hR]
    rintro e w2 ⟨rfl, hb2⟩
    go_wp2_with fail
    go_ret
    exact ⟨rfl, hb2⟩
  · have hok := leavesR_ok hR
    have hv : ownRoot rs = treeRoot (leavesR rs) := by simp [ownRoot, hR, treeRoot, hok.1]
    rw [hv]
    clear hv
    go_enter Try.func43, Try.ntmps43
    go_wp2_with fail
    refine (OwnOk_any _ _ _ _ rs _ HL.out HR.out hn).mono ?_
    rw [hR]
    rintro e w2 ⟨rfl, hb2⟩
    have B2 := Lib.hid hb2
    clear hb2
    go_wp2_with fail
    refine (leaves_any _ _ _ _ rs _ HL.out (HR.out.below B2.out) hn).mono ?_
    rintro e w3 ⟨A3, n3, c3, rfl, hl3, ho3, hb3⟩
    have B3 := Lib.hid (below_at B2.out hb3)
    have hl8 : (leavesR rs).length = n3 := hl3
    obtain rfl : n3 = 8 := by rw [← hl3, hok.2]
    clear hb3
    go_wp2_with fail
    refine (TreRoot_any _ _ _ _ (leavesR rs) _ hl8 (own_cap ho3) (RK.of_own ho3) (by omega)).mono ?_
    rintro e w4 ⟨rfl, d, rfl⟩
    go_wp2_with fail
    go_ret
    exact ⟨rfl, below_drewN B3.out _⟩
set_option maxHeartbeats 1000000 in
theorem sOwnRoot_any (A : Option Addr) (n c L : Nat) (rs : List Orow) (w : World) (hl : rs.length = n) (hr : RV w L A (flatR rs)) (hn : n ≤ 1500000) : Calls Try.prog 41 #[.slice A n c] w fun e w' => e = .returned (.int .i64 (ownRoot rs)) ∧ Below w.heap.size w w' := by
  have HL := Lib.hid hl
  have HR := Lib.hid hr
  clear hl hr
  cases hR : rowsOk rs
  · have hv : ownRoot rs = 0 := by simp [ownRoot, hR]
    rw [hv]
    go_enter Try.func41, Try.ntmps41
    go_wp2_with fail
    refine (sOwnOk_any _ _ _ _ rs _ HL.out HR.out hn).mono ?_
    rw [hR]
    rintro e w2 ⟨rfl, hb2⟩
    go_wp2_with fail
    go_ret
    exact ⟨rfl, hb2⟩
  · have hok := leavesR_ok hR
    have hv : ownRoot rs = root (leavesR rs) := by simp [ownRoot, hR]
    rw [hv]
    clear hv
    go_enter Try.func41, Try.ntmps41
    go_wp2_with fail
    refine (sOwnOk_any _ _ _ _ rs _ HL.out HR.out hn).mono ?_
    rw [hR]
    rintro e w2 ⟨rfl, hb2⟩
    have B2 := Lib.hid hb2
    clear hb2
    go_wp2_with fail
    refine (l5Leaves_any _ _ _ _ rs _ HL.out (HR.out.below B2.out) hn).mono ?_
    rintro e w3 ⟨A3, n3, c3, rfl, hl3, ho3, hb3⟩
    have B3 := Lib.hid (below_at B2.out hb3)
    have hl8 : (leavesR rs).length = n3 := hl3
    obtain rfl : n3 = 8 := by rw [← hl3, hok.2]
    clear hb3
    go_wp2_with fail
    refine (l2Root_any 8 _ _ _ _ (leavesR rs) _ (by omega) hl8 (own_cap ho3) (RK.of_own ho3) hok.1).mono ?_
    rintro e w4 ⟨rfl, d, rfl⟩
    go_wp2_with fail
    go_ret
    exact ⟨rfl, below_drewN B3.out _⟩
end Go.Proofs.Ytjacddjmconfaaa
