/- The walk of FnTreUp. -/
import Derived.Test.YtandjjbfhcifiaaDrawsB
import Derived.Test.YtandjjbfhcifiaaPlainE
namespace Go.Proofs.Ytandjjbfhcifiaa
set_option linter.unusedVariables false
open Go.RowKit Pl

set_option maxHeartbeats 2000000 in
theorem walkFnTreUp (a0 : Option Addr) (len0 cap0 : Nat) (z0 : List Int) (w : World) (w0 : InK .u8 w a0 len0 cap0 z0) : Calls Try.prog 10 #[.slice a0 len0 cap0] w (True_ w) := by
  have hlen : len0 ≤ 9223372036854775807 := by have := w0.cap; have := w0.top; unfold maxLen at this; omega
  by_cases hbig : len0 ≤ 1048576
  · have HB := Lib.hid w0.bytes
    clear w0
    go_enter Try.func10, Try.ntmps10
    go_wp2_with fail
    refine (DrawTreUp_any _ _ _ _ _ HB.out (by omega)).mono ?_
    rintro e w1 ⟨n, i, leaf, A, m, c, p, rfl, hp, hm, hc, n0, n1, i0, i1, hr, hb⟩
    have HP := Lib.hid hp
    have HR := Lib.hid hr
    have HBe := Lib.hid hb
    clear hp hr hb
    obtain ⟨x, k, hX⟩ : ∃ x k, treUp n i leaf p = (x, k) := ⟨_, _, rfl⟩
    have HX := Lib.hid hX
    cases k
    · obtain rfl := treUp_zero hX
      clear hX
      go_wp2_with (first
        | (go_at_call 42; refine (TreUp_any _ _ _ _ _ _ _ p _ HP.out hc (by omega) HR.out).mono ?_; rw [HX.out]; rintro e w' ⟨rfl, rfl⟩)
        | (go_at_call 44; refine (sTreUp_any _ _ _ _ _ _ _ p _ HP.out hc (by omega) HR.out).mono ?_; rw [HX.out]; rintro e w' ⟨rfl, rfl⟩)
        | (go_at_call 22; refine (swOk_any _).mono ?_; rintro e w' ⟨rfl, rfl⟩))
      go_ret
      exact ⟨rfl, HBe.out⟩
    · by_cases hn1 : n = 1
      · subst hn1
        obtain ⟨rfl, rfl⟩ := treUp_one hX
        obtain rfl : m = 0 := HP.out.symm
        clear hX
        go_wp2_with (first
          | (go_at_call 42; refine (TreUp_any _ _ _ _ _ _ _ [] _ HP.out hc (by omega) HR.out).mono ?_; rw [HX.out]; rintro e w' ⟨rfl, rfl⟩)
          | (go_at_call 44; refine (sTreUp_any _ _ _ _ _ _ _ [] _ HP.out hc (by omega) HR.out).mono ?_; rw [HX.out]; rintro e w' ⟨rfl, rfl⟩))
        go_ret
        exact ⟨rfl, HBe.out⟩
      · obtain ⟨p0, q, rfl, hq, h2, h3, h4, h5, hL, hRt⟩ := treUp_parts hX hn1
        have hg1 : (n == 1) = false := by simpa using hn1
        have HPm := HP.out
        rw [app_len] at HPm
        subst HPm
        obtain ⟨b, o, rfl, _, _, hcell⟩ := HR.out.at_ (j := p0.length) (by rw [app_len]; omega)
        rw [app_get] at hcell
        have T := Lib.hid (show RI w1 w.heap.size (some ⟨b, o, none⟩) p0 by have := HR.out.take p0.length; simpa using this)
        have s1 := splitI_pos n
        have s2 := splitI_lt h2
        clear hX hn1
        go_wp2_with fail
        refine (TreUp_any _ _ _ _ _ _ _ (p0 ++ [q]) _ HP.out hc (by omega) HR.out).mono ?_
        rw [HX.out]
        rintro e w' ⟨rfl, rfl⟩
        go_wp2_with fail
        refine (sTreUp_any _ _ _ _ _ _ _ (p0 ++ [q]) _ HP.out hc (by omega) HR.out).mono ?_
        rw [HX.out]
        rintro e w' ⟨rfl, rfl⟩
        by_cases hi : i < splitI n
        · obtain ⟨y, hy, rfl⟩ := hL hi
          have HY := Lib.hid hy
          clear hL hRt hy
          go_wp2_with (first
            | (go_at_call 27; refine (TreSplit_yes _ _ (by omega) (by omega)).mono ?_; rintro e w' ⟨rfl, rfl⟩)
            | (go_at_call 42; refine (TreUp_any _ _ _ _ _ _ _ p0 _ rfl (by omega) (by omega) T.out).mono ?_; rw [HY.out]; rintro e w' ⟨rfl, rfl⟩)
            | (go_at_call 18; refine (MixPair_any _ _ _).mono ?_; rintro e w' ⟨rfl, rfl⟩))
          go_ret
          exact ⟨rfl, HBe.out⟩
        · have hi' : splitI n ≤ i := by omega
          obtain ⟨y, hy, rfl⟩ := hRt hi'
          have HY := Lib.hid hy
          clear hL hRt hy hi
          go_wp2_with (first
            | (go_at_call 27; refine (TreSplit_yes _ _ (by omega) (by omega)).mono ?_; rintro e w' ⟨rfl, rfl⟩)
            | (go_at_call 42; refine (TreUp_any _ _ _ _ _ _ _ p0 _ rfl (by omega) (by omega) T.out).mono ?_; rw [HY.out]; rintro e w' ⟨rfl, rfl⟩)
            | (go_at_call 18; refine (MixPair_any _ _ _).mono ?_; rintro e w' ⟨rfl, rfl⟩))
          go_ret
          exact ⟨rfl, HBe.out⟩
  · have hb : 1048576 < len0 := by omega
    clear w0 hbig
    go_enter Try.func10, Try.ntmps10
    go_wp2_with fail
    go_ret
    exact ⟨rfl, Below.refl _ _⟩
end Go.Proofs.Ytandjjbfhcifiaa
