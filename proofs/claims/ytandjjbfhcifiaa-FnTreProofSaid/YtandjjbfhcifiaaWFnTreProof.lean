/- The walk of FnTreProof. -/
import Derived.Test.YtandjjbfhcifiaaLaw
import Derived.Test.YtandjjbfhcifiaaPlainD
import Derived.Test.YtandjjbfhcifiaaSame
namespace Go.Proofs.Ytandjjbfhcifiaa
set_option linter.unusedVariables false
open Go.RowKit Pl

set_option maxHeartbeats 4000000 in
theorem walkFnTreProof (a0 : Option Addr) (len0 cap0 : Nat) (z0 : List Int) (w : World) (w0 : InK .u8 w a0 len0 cap0 z0) : Calls Try.prog 8 #[.slice a0 len0 cap0] w (True_ w) := by
  have hlen : len0 ≤ 9223372036854775807 := by have := w0.cap; have := w0.top; unfold maxLen at this; omega
  by_cases hbig : len0 ≤ 1048576
  · have HB := Lib.hid w0.bytes
    clear w0
    go_enter Try.func8, Try.ntmps8
    go_wp2_with fail
    refine (DrawTreProof_any _ _ _ _ _ HB.out (by omega)).mono ?_
    rintro e w1 ⟨A, n, c, xs, i, rfl, i0, i1, L⟩
    have HL := Lib.hid L
    have hn := L.few
    have hnc := L.cap
    have HLen := Lib.hid L.len
    have HR := Lib.hid L.reads
    clear L
    go_wp2_with fail
    refine (TreProof_any _ _ _ _ _ xs _ HLen.out hnc (by omega) HR.out).mono ?_
    rintro e w2 ⟨A1, n1, c1, rfl, hn1, own1, hb1⟩
    have HP1 := Lib.hid (RK.of_own own1)
    have HB1 := Lib.hid hb1
    have HC1 := Lib.hid (own_cap own1)
    clear own1 hb1
    go_wp2_with fail
    refine (sTreProof_any _ _ _ _ _ xs _ HLen.out hnc (by omega) (HR.out.below HB1.out)).mono ?_
    rintro e w3 ⟨A2, n2, c2, rfl, hn2, own2, hb2⟩
    obtain rfl : n1 = n2 := hn1.symm.trans hn2
    have HP2 := Lib.hid (RK.of_own own2)
    have HB2 := Lib.hid hb2
    have HN := Lib.hid hn1
    have HRx := Lib.hid ((HR.out.below HB1.out).below HB2.out)
    have HPx := Lib.hid (HP1.out.below HB2.out)
    have HBx := Lib.hid ((HL.out.below.trans (HB1.out.mono HL.out.below.size)).trans (HB2.out.mono (by have := HL.out.below.size; have := HB1.out.size; omega)))
    have hp6 : n1 ≤ 6 := by
      rw [← hn1]
      by_cases hg : okL xs = true ∧ inB i 0 ((xs.length : Int) - 1) = true
      · rw [treProof_yes hg.1 hg.2]; exact (incl_ok xs hg.1 i.toNat).2.2
      · rw [treProof_no hg]; simp
    clear own2 hb2 hn1 hn2 HP1
    go_wp2_with fail
    refine (swInts_same _ _ _ _ _ _ _ (treProof xs i) _ HN.out (by omega) HPx.out HP2.out).mono ?_
    rintro e w4 ⟨rfl, k4, rfl⟩
    by_cases hbad : okL xs = false ∨ i < 0 ∨ (xs.length : Int) ≤ i
    · have hp0 : n1 = 0 := by rw [← HN.out, proof_none hbad]; rfl
      subst hp0
      rw [HLen.out] at hbad
      have hbad' : okL xs = false ∨ (okL xs = true ∧ i < 0) ∨ (okL xs = true ∧ 0 ≤ i ∧ (n : Int) ≤ i) := by
        cases hx : okL xs
        · exact .inl rfl
        · simp only [hx] at hbad
          right
          by_cases h1 : i < 0
          · exact .inl ⟨rfl, h1⟩
          · exact .inr ⟨rfl, by omega, by simp at hbad; omega⟩
      clear hbad
      rcases hbad' with h1 | ⟨h1, h2⟩ | ⟨h1, h2, h3⟩
      all_goals
        go_wp2_with (first
          | (go_at_call 31; refine (sTreOk_any _ _ _ _ xs _ HLen.out (HRx.out.drewN _) (by omega)).mono ?_; rintro e w' ⟨rfl, rfl⟩)
          | (go_at_call 22; refine (swOk_any _).mono ?_; rintro e w' ⟨rfl, rfl⟩))
        go_ret
        exact ⟨rfl, below_drewN HBx.out _⟩
    · have hok : okL xs = true := by
        cases hx : okL xs
        · exact absurd (.inl hx) hbad
        · rfl
      have hi0 : 0 ≤ i := by omega
      have hin : i < n := by have := HLen.out; omega
      have HO := Lib.hid hok
      have S := Lib.hid (proof_shows hok hi0 (by rw [HLen.out]; exact hin))
      have PL := Lib.hid (proof_len hok hi0 (by rw [HLen.out]; exact hin))
      clear hbad hok
      go_wp2_with (go_at_call 31; refine (sTreOk_any _ _ _ _ xs _ HLen.out (HRx.out.drewN _) (by omega)).mono ?_; rw [HO.out]; rintro e w' ⟨rfl, rfl⟩)
      go_loop [6, 7] (fun hi k => ∃ h kk : Nat, hi = .int .i64 (h : Int) ∧ k = .int .i64 (kk : Int) ∧ Hid (kk = 2 ^ h) ∧ kk ≤ 100 ∧ h < kk) (fun _ k => 128 - (intOf k).toNat)
      case atStart => exact ⟨0, 1, rfl, rfl, rfl, by omega, by omega⟩
      case round =>
        obtain ⟨h, kk, rfl, rfl, hpow, hk1, hk2⟩ := hrel
        by_cases hlt : kk < n
        · have hpow' : Hid (2 * kk = 2 ^ (h + 1)) := Lib.hid (by rw [hpow.out, Nat.pow_succ]; omega)
          clear hpow
          go_wp2
          go_round
          case rel => exact ⟨h + 1, 2 * kk, by go_num, by go_num, hpow'.out, by have := okL_len HO.out; have := HLen.out; omega, by omega⟩
          case measure => simp [intOf]; omega
        · have PL2 := PL.out h (by rw [HLen.out, ← hpow.out]; omega)
          rw [HN.out, HLen.out] at PL2
          obtain ⟨pl1, pl2⟩ := PL2
          obtain ⟨b, o, rfl, _, _, hcell⟩ := HRx.out.at_ (j := i.toNat) (by rw [HLen.out]; omega)
          have S2 := S.out
          rw [HLen.out] at S2
          obtain ⟨j, rfl⟩ := Int.eq_ofNat_of_zero_le hi0
          rw [Int.toNat_natCast] at S2 hcell
          generalize xs.getD j 0 = z at *
          have d1 : decide ((n1 : Int) ≤ (h : Int)) = true := by simp; omega
          have d2 : decide (n1 ≤ h) = true := by simp; omega
          have hpo := hpow.out
          have hge : n ≤ kk := by omega
          clear hpow hpo PL S hlt
          by_cases hn2 : n < 2
          · have d3 : decide ((n : Int) < 2) = true := by simp; omega
            go_wp2_with fail
            go_quiet (first
              | (go_at_call 33; apply quiet_add; (with_reducible exact TreRoot_any _ _ _ _ xs _ HLen.out (by omega) (HRx.out.drewN _) (by omega)))
              | (go_at_call 39; apply quiet_add_left; (with_reducible exact TreCheck_any _ _ _ _ _ _ _ _ (treProof xs j) _ HN.out HC1.out (by omega) (HPx.out.drewN _))))
            go_wp2_with fail
            go_ret
            exact ⟨rfl, below_drewN (below_drewN HBx.out _) _⟩
          · have d3 : decide ((n : Int) < 2) = false := by simp; omega
            have d4 : decide ((0 : Int) < (n1 : Int)) = true := by simp; omega
            have d5 : decide (0 < n1) = true := by simp; omega
            go_wp2_with fail
            go_quiet (first
              | (go_at_call 33; apply quiet_add; (with_reducible exact TreRoot_any _ _ _ _ xs _ HLen.out (by omega) (HRx.out.drewN _) (by omega)))
              | (go_at_call 39; apply quiet_add_left; (with_reducible exact TreCheck_any _ _ _ _ _ _ _ _ (treProof xs j) _ HN.out HC1.out (by omega) (HPx.out.drewN _))))
            go_wp2_with fail
            go_ret
            exact ⟨rfl, below_drewN (below_drewN HBx.out _) _⟩
  · have hb : 1048576 < len0 := by omega
    clear w0 hbig
    go_enter Try.func8, Try.ntmps8
    go_wp2_with fail
    go_ret
    exact ⟨rfl, Below.refl _ _⟩
end Go.Proofs.Ytandjjbfhcifiaa
