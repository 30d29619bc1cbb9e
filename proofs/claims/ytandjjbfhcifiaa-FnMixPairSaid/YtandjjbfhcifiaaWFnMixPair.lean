/- The walk of FnMixPair. -/
import Derived.Test.YtandjjbfhcifiaaLaw
import Derived.Test.YtandjjbfhcifiaaPlainC
namespace Go.Proofs.Ytandjjbfhcifiaa
set_option linter.unusedVariables false
open Go.RowKit Pl

theorem mix_tell_left {a b c : Int} (ha : okI a = true) (hb : okI b = true) (hc : okI c = true) : (c != a) = false ∨ ((c != a) = true ∧ (b != 57330) = false) ∨ ((c != a) = true ∧ (b != 57330) = true ∧ (mixPairI c b == mixPairI a b) = false) := by
  by_cases h1 : c = a
  · left; simp [h1]
  · by_cases h2 : b = 57330
    · right; left; simp [h1, h2]
    · right; right
      have := pair_left ha hb hc h1 h2
      rw [mixPair_yes ha hb, mixPair_yes hc hb]
      simp [h1, h2, this]
theorem mix_tell_right {a b c : Int} (ha : okI a = true) (hb : okI b = true) (hc : okI c = true) : (c != b) = false ∨ ((c != b) = true ∧ (a != 65394) = false) ∨ ((c != b) = true ∧ (a != 65394) = true ∧ (mixPairI a c == mixPairI a b) = false) := by
  by_cases h1 : c = b
  · left; simp [h1]
  · by_cases h2 : a = 65394
    · right; left; simp [h1, h2]
    · right; right
      have := pair_right ha hb hc h1 h2
      rw [mixPair_yes ha hb, mixPair_yes ha hc]
      simp [h1, h2, this]

set_option maxHeartbeats 4000000 in
theorem walkFnMixPair (a0 : Option Addr) (len0 cap0 : Nat) (z0 : List Int) (a1 : Option Addr) (len1 cap1 : Nat) (z1 : List Int) (w : World) (w0 : InK .u8 w a0 len0 cap0 z0) (w1 : InK .u8 w a1 len1 cap1 z1) :
    Calls Try.prog 3 #[.slice a0 len0 cap0, .slice a1 len1 cap1] w (True_ w) := by
  have hlen0 : len0 ≤ 9223372036854775807 := by have := w0.cap; have := w0.top; unfold maxLen at this; omega
  have hlen1 : len1 ≤ 9223372036854775807 := by have := w1.cap; have := w1.top; unfold maxLen at this; omega
  by_cases hb0 : len0 ≤ 1048576
  · by_cases hb1 : len1 ≤ 1048576
    · have H0 := Lib.hid w0.bytes
      have H1 := Lib.hid w1
      clear w0 w1
      go_enter Try.func3, Try.ntmps3
      go_wp2_with fail
      refine (DrawMixPair_any _ _ _ _ _ H0.out (by omega)).mono ?_
      rintro e w2 ⟨a, b, rfl, hb2⟩
      have B2 := Lib.hid hb2
      clear hb2
      go_wp2_with fail
      refine (DrawMixOk_any _ _ _ _ _ (H1.out.below B2.out).bytes (by omega)).mono ?_
      rintro e w3 ⟨c, rfl, hb3⟩
      have B3 := Lib.hid (B2.out.trans (hb3.mono B2.out.size))
      clear hb3
      have m0 : mixPairI 0 0 = 31 := by decide
      have m1 : (mixPairI 0 0 == 31) = true := by decide
      by_cases hok : okI a = true ∧ okI b = true
      · obtain ⟨ha, hb⟩ := hok
        have hmo : okI (mixPairI a b) = true := by rw [mixPair_yes ha hb]; exact pair_ok a b
        cases hc : okI c
        · go_wp2_with (first
            | (go_at_call 18; refine (MixPair_any _ _ _).mono ?_; rintro e w' ⟨rfl, rfl⟩) | (go_at_call 19; refine (sMixPair_any _ _ _).mono ?_; rintro e w' ⟨rfl, rfl⟩)
            | (go_at_call 20; refine (MixOk_any _ _).mono ?_; rintro e w' ⟨rfl, rfl⟩) | (go_at_call 21; refine (sMixOk_any _ _).mono ?_; rintro e w' ⟨rfl, rfl⟩)
            | (go_at_call 22; refine (swOk_any _).mono ?_; rintro e w' ⟨rfl, rfl⟩))
          go_ret
          exact ⟨rfl, B3.out⟩
        · have X1 := mix_tell_left ha hb hc
          have X2 := mix_tell_right ha hb hc
          rcases X1 with q1 | ⟨q1, q2⟩ | ⟨q1, q2, q3⟩
          all_goals
            rcases X2 with q4 | ⟨q4, q5⟩ | ⟨q4, q5, q6⟩
            all_goals
              go_wp2_with (first
            | (go_at_call 18; refine (MixPair_any _ _ _).mono ?_; rintro e w' ⟨rfl, rfl⟩) | (go_at_call 19; refine (sMixPair_any _ _ _).mono ?_; rintro e w' ⟨rfl, rfl⟩)
            | (go_at_call 20; refine (MixOk_any _ _).mono ?_; rintro e w' ⟨rfl, rfl⟩) | (go_at_call 21; refine (sMixOk_any _ _).mono ?_; rintro e w' ⟨rfl, rfl⟩)
            | (go_at_call 22; refine (swOk_any _).mono ?_; rintro e w' ⟨rfl, rfl⟩))
              go_ret
              exact ⟨rfl, B3.out⟩
      · have hm0 : (mixPairI a b == 0) = true := by unfold mixPairI; rw [if_neg hok]; rfl
        have h' : okI a = false ∨ (okI a = true ∧ okI b = false) := by
          cases ha : okI a <;> cases hb : okI b <;> simp_all
        clear hok
        rcases h' with ha | ⟨ha, hb⟩
        all_goals
          go_wp2_with (first
            | (go_at_call 18; refine (MixPair_any _ _ _).mono ?_; rintro e w' ⟨rfl, rfl⟩) | (go_at_call 19; refine (sMixPair_any _ _ _).mono ?_; rintro e w' ⟨rfl, rfl⟩)
            | (go_at_call 20; refine (MixOk_any _ _).mono ?_; rintro e w' ⟨rfl, rfl⟩) | (go_at_call 21; refine (sMixOk_any _ _).mono ?_; rintro e w' ⟨rfl, rfl⟩)
            | (go_at_call 22; refine (swOk_any _).mono ?_; rintro e w' ⟨rfl, rfl⟩))
          go_ret
          exact ⟨rfl, B3.out⟩
    · have hb : 1048576 < len1 := by omega
      clear w0 w1 hb1
      go_enter Try.func3, Try.ntmps3
      go_wp2_with fail
      go_ret
      exact ⟨rfl, Below.refl _ _⟩
  · have hb : 1048576 < len0 := by omega
    clear w0 w1 hb0
    go_enter Try.func3, Try.ntmps3
    go_wp2_with fail
    go_ret
    exact ⟨rfl, Below.refl _ _⟩
end Go.Proofs.Ytandjjbfhcifiaa
