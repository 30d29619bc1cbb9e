/- The walk of FnEntCap. -/
import Derived.Test.YtbgljjmmominbaaLaw
import Derived.Test.YtbgljjmmominbaaEnt
namespace Go.Proofs.Ytbgljjmmominbaa
set_option linter.unusedVariables false
open Go.RowKit Pl

set_option maxHeartbeats 1000000 in
theorem DrawEntCap_any (w : World) (A : Option Addr) (n c : Nat) (bs : List Int) (h : Bytes w A n c bs) (hn : n ≤ 140737488351232) : Calls Try.prog 52 #[.slice A n c] w (NumRes w (-1) 51) := by
  go_enter Try.func52, Try.ntmps52
  go_wp2_with fail
  refine (open_any _ A n c bs h hn).mono ?_
  rintro e w1 ⟨rfl, hr1, hb1⟩
  have hs1 := hr1.lt
  go_wp2_with fail
  refine (pick_any _ _ _ _ hr1 (by omega) (by omega)).mono ?_
  rintro e w2 ⟨v, rfl, hv1, _, hr2, hg2⟩
  have hv := hv1 (by omega)
  clear hv1
  have hs2 := hg2.size
  go_wp2_with fail
  refine (pick_any _ _ _ _ (hr2.alloc _) (by omega) (by omega)).mono ?_
  rintro e w3 ⟨x, rfl, hx1, _, hr3, hg3⟩
  have hx := hx1 (by omega)
  obtain ⟨z, hz, hm⟩ := table_at [0, 1, 4, 5, 10, 50, 51, -1, (v : Int)] _ rfl (block_kept (new_block w2 _) hg3 (by omega)) (v := x) (by simp; omega)
  have hm' : -1 ≤ z ∧ z ≤ 51 := by simp at hm; omega
  have HG := Lib.hid (hb1.trans (below_of_grown (grownBy_trans (grownBy_alloc hg2 _) hg3) (by omega)))
  clear hx1 hm hg2 hg3 hb1 h
  go_wp2_with fail
  go_ret
  exact ⟨z, rfl, hm'.1, hm'.2, HG.out⟩
theorem capI_val {f : Int} (h0 : 1 ≤ f) (h1 : f ≤ 50) : capI f = f + f / 5 := capI_yes (by simp [inB]; omega)
set_option maxHeartbeats 1000000 in
theorem walkFnEntCap (a0 : Option Addr) (len0 cap0 : Nat) (z0 : List Int) (w : World) (w0 : InK .u8 w a0 len0 cap0 z0) : Calls Try.prog 12 #[.slice a0 len0 cap0] w (True_ w) := by
  have hlen : len0 ≤ 9223372036854775807 := by have := w0.cap; have := w0.top; unfold maxLen at this; omega
  by_cases hbig : len0 ≤ 1048576
  · have HB := Lib.hid w0.bytes
    clear w0
    go_enter Try.func12, Try.ntmps12
    go_wp2_with fail
    refine (DrawEntCap_any _ _ _ _ _ HB.out (by omega)).mono ?_
    rintro e w1 ⟨n, rfl, n0, n1, hb1⟩
    have HG := Lib.hid hb1
    clear hb1
    by_cases h2 : 1 ≤ n ∧ n ≤ 50
    · obtain ⟨h2, h3⟩ := h2
      have k1 : n ≤ capI n := by rw [capI_val h2 h3]; omega
      have k2 : 5 * (capI n - n) ≤ n := by rw [capI_val h2 h3]; omega
      have k3 : n - 5 < 5 * (capI n - n) := by rw [capI_val h2 h3]; omega
      have k4 : capI n ≤ 60 := by rw [capI_val h2 h3]; omega
      by_cases h50 : n = 50
      · subst h50
        go_wp2_with (first | (go_at_call 53; refine (EntCap_any _ _).mono ?_; rintro e w' ⟨rfl, rfl⟩) | (go_at_call 54; refine (sEntCap_any _ _).mono ?_; rintro e w' ⟨rfl, rfl⟩))
        go_ret
        exact ⟨rfl, HG.out⟩
      · have k5 : capI n < capI (n + 1) := by rw [capI_val h2 h3, capI_val (by omega) (by omega)]; omega
        have e5 : (n == 50) = false := by simpa using h50
        go_wp2_with (first | (go_at_call 53; refine (EntCap_any _ _).mono ?_; rintro e w' ⟨rfl, rfl⟩) | (go_at_call 54; refine (sEntCap_any _ _).mono ?_; rintro e w' ⟨rfl, rfl⟩))
        go_ret
        exact ⟨rfl, HG.out⟩
    · have k0 : capI n = 0 := capI_no (by simp [inB]; omega)
      have h3 : n < 1 ∨ 50 < n := by omega
      clear h2
      go_wp2_with (first | (go_at_call 53; refine (EntCap_any _ _).mono ?_; rw [k0]; rintro e w' ⟨rfl, rfl⟩) | (go_at_call 54; refine (sEntCap_any _ _).mono ?_; rw [k0]; rintro e w' ⟨rfl, rfl⟩) | (go_at_call 55; refine (swOk_any _).mono ?_; rintro e w' ⟨rfl, rfl⟩))
      all_goals
        go_ret
        exact ⟨rfl, HG.out⟩
  · have hb : 1048576 < len0 := by omega
    clear w0 hbig
    go_enter Try.func12, Try.ntmps12
    go_wp2_with fail
    go_ret
    exact ⟨rfl, Below.refl _ _⟩
end Go.Proofs.Ytbgljjmmominbaa
