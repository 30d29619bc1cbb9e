/- The walk of FnConProof. -/
import Derived.Test.YtandjjbfhcifiaaLaw
import Derived.Test.YtandjjbfhcifiaaPlainD
import Derived.Test.YtandjjbfhcifiaaSame
namespace Go.Proofs.Ytandjjbfhcifiaa
set_option linter.unusedVariables false
open Go.RowKit Pl

set_option maxHeartbeats 1000000 in
theorem walkFnConProof (a0 : Option Addr) (len0 cap0 : Nat) (z0 : List Int) (w : World) (w0 : InK .u8 w a0 len0 cap0 z0) : Calls Try.prog 13 #[.slice a0 len0 cap0] w (True_ w) := by
  have hlen : len0 ≤ 9223372036854775807 := by have := w0.cap; have := w0.top; unfold maxLen at this; omega
  by_cases hbig : len0 ≤ 1048576
  · have HB := Lib.hid w0.bytes
    clear w0
    go_enter Try.func13, Try.ntmps13
    go_wp2_with fail
    refine (DrawConProof_any _ _ _ _ _ HB.out (by omega)).mono ?_
    rintro e w1 ⟨A, n, c, xs, i, rfl, i0, i1, L⟩
    have HL := Lib.hid L
    have hn := L.few
    have hnc := L.cap
    have HLen := Lib.hid L.len
    have HR := Lib.hid L.reads
    clear L
    go_wp2_with fail
    refine (ConProof_any _ _ _ _ _ xs _ HLen.out hnc (by omega) HR.out).mono ?_
    rintro e w2 ⟨A1, n1, c1, rfl, hn1, own1, hb1⟩
    have HP1 := Lib.hid (RK.of_own own1)
    have HB1 := Lib.hid hb1
    have HC1 := Lib.hid (own_cap own1)
    clear own1 hb1
    go_wp2_with fail
    refine (sConProof_any _ _ _ _ _ xs _ HLen.out hnc (by omega) (HR.out.below HB1.out)).mono ?_
    rintro e w3 ⟨A2, n2, c2, rfl, hn2, own2, hb2⟩
    obtain rfl : n1 = n2 := hn1.symm.trans hn2
    have HP2 := Lib.hid (RK.of_own own2)
    have HB2 := Lib.hid hb2
    have HN := Lib.hid hn1
    have HRx := Lib.hid ((HR.out.below HB1.out).below HB2.out)
    have HPx := Lib.hid (HP1.out.below HB2.out)
    have HBx := Lib.hid ((HL.out.below.trans (HB1.out.mono HL.out.below.size)).trans (HB2.out.mono (by have := HL.out.below.size; have := HB1.out.size; omega)))
    have hp6 : n1 ≤ 100 := by
      rw [← hn1]
      by_cases hg : okL xs = true ∧ inB i 1 (xs.length : Int) = true
      · obtain ⟨hg1, hg2⟩ := hg
        have hg3 := inB_iff.1 hg2
        obtain ⟨k, rfl⟩ := Int.eq_ofNat_of_zero_le (show 0 ≤ i by omega)
        rw [conProof_yes hg1 hg2]
        have := grow_len xs k true (by omega) (by omega)
        have := okL_len hg1
        omega
      · rw [conProof_no hg]; simp
    clear own2 hb2 hn1 hn2 HP1
    go_wp2_with fail
    refine (swInts_same _ _ _ _ _ _ _ (conProof xs i) _ HN.out (by omega) HPx.out HP2.out).mono ?_
    rintro e w4 ⟨rfl, k4, rfl⟩
    by_cases hbad : okL xs = false ∨ i < 1 ∨ (xs.length : Int) < i
    · have hp0 : n1 = 0 := by rw [← HN.out, growth_none hbad]; rfl
      subst hp0
      rw [HLen.out] at hbad
      have hbad' : okL xs = false ∨ (okL xs = true ∧ i < 1) ∨ (okL xs = true ∧ 1 ≤ i ∧ (n : Int) < i) := by
        cases hx : okL xs
        · exact .inl rfl
        · simp only [hx] at hbad
          right
          by_cases h1 : i < 1
          · exact .inl ⟨rfl, h1⟩
          · exact .inr ⟨rfl, by omega, by simp at hbad; omega⟩
      clear hbad
      rcases hbad' with h1 | ⟨h1, h2⟩ | ⟨h1, h2, h3⟩
      all_goals
        go_wp2_with (first
          | (go_at_call 31; refine (sTreOk_any _ _ _ _ xs _ HLen.out (HRx.out.drewN _) (by omega)).mono ?_; rintro e w' ⟨rfl, rfl⟩)
          | (go_at_call 22; refine (swOk_any _).mono ?_; rintro e w' ⟨rfl, rfl⟩))
        go_ret
        exact ⟨rfl, below_drewN HBx.out _⟩
    · have hok : okL xs = true := by
        cases hx : okL xs
        · exact absurd (.inl hx) hbad
        · rfl
      have hi0 : 1 ≤ i := by omega
      have hin : i ≤ n := by have := HLen.out; omega
      obtain ⟨m, rfl⟩ := Int.eq_ofNat_of_zero_le (show 0 ≤ i by omega)
      have hm1 : 1 ≤ m := by omega
      have hm2 : m ≤ n := by omega
      have HO := Lib.hid hok
      have hn1 : 1 ≤ n := by omega
      have S := growth_shows hok (m := m) hm1 (by rw [HLen.out]; exact hm2)
      rw [HLen.out] at S
      obtain ⟨b, o, rfl, _, _, _⟩ := HRx.out.at_ (j := 0) (by rw [HLen.out]; omega)
      have T1 := Lib.hid (HRx.out.take m)
      have L1 := Lib.hid (show (xs.take m).length = m by have := HLen.out; simp; omega)
      have hmc : m ≤ c := by omega
      have hq : m = n → n1 = 0 := fun e => by rw [← HN.out, e, ← HLen.out, growth_same hok (by rw [HLen.out]; exact hn1)]; rfl
      have hend : m < n ∨ (m = n ∧ n1 = 0) := by
        by_cases e : m = n
        · exact .inr ⟨e, hq e⟩
        · exact .inl (by omega)
      clear hbad hok hq
      rcases hend with hlt | ⟨rfl, rfl⟩
      all_goals
        go_wp2_with (go_at_call 31; refine (sTreOk_any _ _ _ _ xs _ HLen.out (HRx.out.drewN _) (by omega)).mono ?_; rw [HO.out]; rintro e w' ⟨rfl, rfl⟩)
        refine (TreRoot_any _ _ _ _ (xs.take m) _ L1.out (by omega) (T1.out.drewN _) (by omega)).mono ?_
        rintro e w5 ⟨rfl, m5, rfl⟩
        go_wp2_with fail
        refine (TreRoot_any _ _ _ _ xs _ HLen.out (by omega) (HRx.out.drewN _) (by omega)).mono ?_
        rintro e w6 ⟨rfl, m6, rfl⟩
        go_wp2_with fail
        refine (ConCheck_any _ _ _ _ _ _ _ _ (conProof xs m) _ HN.out HC1.out (by omega) (HPx.out.drewN _)).mono ?_
        rintro e w7 ⟨rfl, hb7⟩
        go_wp2_with fail
        go_ret
        exact ⟨rfl, (below_drewN HBx.out _).trans (hb7.mono (by have := HBx.out.size; simpa using this))⟩
  · have hb : 1048576 < len0 := by omega
    clear w0 hbig
    go_enter Try.func13, Try.ntmps13
    go_wp2_with fail
    go_ret
    exact ⟨rfl, Below.refl _ _⟩
end Go.Proofs.Ytandjjbfhcifiaa
