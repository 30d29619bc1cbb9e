/- The walk of FnTreCheck. -/
import Derived.Test.YtandjjbfhcifiaaDrawsB
import Derived.Test.YtandjjbfhcifiaaPlainE
namespace Go.Proofs.Ytandjjbfhcifiaa
set_option linter.unusedVariables false
open Go.RowKit Pl

set_option maxHeartbeats 2000000 in
theorem walkFnTreCheck (a0 : Option Addr) (len0 cap0 : Nat) (z0 : List Int) (w : World) (w0 : InK .u8 w a0 len0 cap0 z0) : Calls Try.prog 9 #[.slice a0 len0 cap0] w (True_ w) := by
  have hlen : len0 ≤ 9223372036854775807 := by have := w0.cap; have := w0.top; unfold maxLen at this; omega
  by_cases hbig : len0 ≤ 1048576
  · have HB := Lib.hid w0.bytes
    clear w0
    go_enter Try.func9, Try.ntmps9
    go_wp2_with fail
    refine (DrawTreCheck_any _ _ _ _ _ HB.out (by omega)).mono ?_
    rintro e w1 ⟨r, n, i, leaf, A, m, c, p, rfl, hp, hm, hc, hn, hr, hb⟩
    have HP := Lib.hid hp
    have HR := Lib.hid hr
    have HBe := Lib.hid hb
    clear hp hr hb
    obtain ⟨x, k, hX⟩ : ∃ x k, treUp n i leaf p = (x, k) := ⟨_, _, rfl⟩
    have HX := Lib.hid hX
    cases k
    · clear hX
      go_wp2_with (first
        | (go_at_call 39; refine (TreCheck_any _ _ _ _ _ _ _ _ p _ HP.out hc (by omega) HR.out).mono ?_; rw [HX.out]; rintro e w' ⟨rfl, rfl⟩)
        | (go_at_call 41; refine (sTreCheck_any _ _ _ _ _ _ _ _ p _ HP.out hc (by omega) HR.out).mono ?_; rw [HX.out]; rintro e w' ⟨rfl, rfl⟩)
        | (go_at_call 42; refine (TreUp_any _ _ _ _ _ _ _ p _ HP.out hc (by omega) HR.out).mono ?_; rw [HX.out]; rintro e w' ⟨rfl, rfl⟩)
        | (go_at_call 22; refine (swOk_any _).mono ?_; rintro e w' ⟨rfl, rfl⟩))
      go_ret
      exact ⟨rfl, HBe.out⟩
    · obtain ⟨x0, x1⟩ := treUp_rng hX
      clear hX
      cases hxr : x == r
      · go_wp2_with (first
          | (go_at_call 39; refine (TreCheck_any _ _ _ _ _ _ _ _ p _ HP.out hc (by omega) HR.out).mono ?_; rw [HX.out]; rintro e w' ⟨rfl, rfl⟩)
          | (go_at_call 41; refine (sTreCheck_any _ _ _ _ _ _ _ _ p _ HP.out hc (by omega) HR.out).mono ?_; rw [HX.out]; rintro e w' ⟨rfl, rfl⟩)
          | (go_at_call 42; refine (TreUp_any _ _ _ _ _ _ _ p _ HP.out hc (by omega) HR.out).mono ?_; rw [HX.out]; rintro e w' ⟨rfl, rfl⟩)
          | (go_at_call 22; refine (swOk_any _).mono ?_; rintro e w' ⟨rfl, rfl⟩))
        go_ret
        exact ⟨rfl, HBe.out⟩
      · obtain rfl : x = r := by simpa using hxr
        clear hxr
        have hne : (x == (x + 1) % 65521) = false := by simp; omega
        go_wp2_with (first
          | (go_at_call 39; refine (TreCheck_any _ _ _ _ _ _ _ _ p _ HP.out hc (by omega) HR.out).mono ?_; rw [HX.out]; rintro e w' ⟨rfl, rfl⟩)
          | (go_at_call 41; refine (sTreCheck_any _ _ _ _ _ _ _ _ p _ HP.out hc (by omega) HR.out).mono ?_; rw [HX.out]; rintro e w' ⟨rfl, rfl⟩)
          | (go_at_call 42; refine (TreUp_any _ _ _ _ _ _ _ p _ HP.out hc (by omega) HR.out).mono ?_; rw [HX.out]; rintro e w' ⟨rfl, rfl⟩)
          | (go_at_call 22; refine (swOk_any _).mono ?_; rintro e w' ⟨rfl, rfl⟩))
        go_ret
        exact ⟨rfl, HBe.out⟩
  · have hb : 1048576 < len0 := by omega
    clear w0 hbig
    go_enter Try.func9, Try.ntmps9
    go_wp2_with fail
    go_ret
    exact ⟨rfl, Below.refl _ _⟩
end Go.Proofs.Ytandjjbfhcifiaa
