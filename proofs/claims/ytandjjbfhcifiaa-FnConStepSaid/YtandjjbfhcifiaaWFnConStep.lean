/- The walk of FnConStep. -/
import Derived.Test.YtandjjbfhcifiaaLaw
import Derived.Test.YtandjjbfhcifiaaPlainD
import Derived.Test.YtandjjbfhcifiaaSame
import Derived.Deep.RegionWith
namespace Go.Proofs.Ytandjjbfhcifiaa
set_option linter.unusedVariables false
attribute [local go_sem ↓] Go.wp_at_zero Go.wp_at_succ
open Go.RowKit Pl

theorem below_at {w a b : World} (h : Below w.heap.size w a) (k : Below a.heap.size a b) : Below w.heap.size w b := h.trans (k.mono h.size)
set_option maxHeartbeats 4000000 in
theorem walkFnConStep (a0 : Option Addr) (len0 cap0 : Nat) (z0 : List Int) (w : World) (w0 : InK .u8 w a0 len0 cap0 z0) : Calls Try.prog 15 #[.slice a0 len0 cap0] w (True_ w) := by
  have hlen : len0 ≤ 9223372036854775807 := by have := w0.cap; have := w0.top; unfold maxLen at this; omega
  by_cases hbig : len0 ≤ 1048576
  · have HB := Lib.hid w0.bytes
    clear w0
    go_enter Try.func15, Try.ntmps15
    go_wp2_with fail
    refine (DrawConProof_any _ _ _ _ _ HB.out (by omega)).mono ?_
    rintro e w1 ⟨A, n, c, xs, i, rfl, i0, i1, L⟩
    have HL := Lib.hid L
    have hn := L.few
    have hnc := L.cap
    have HLen := Lib.hid L.len
    have HR := Lib.hid L.reads
    clear L
    go_wp2_with fail
    refine (ConProof_any _ _ _ _ _ xs _ HLen.out hnc (by omega) HR.out).mono ?_
    rintro e w2 ⟨A1, n1, c1, rfl, hn1, own1, hb1⟩
    have HP1 := Lib.hid (RK.of_own own1)
    have HB1 := Lib.hid hb1
    have HC1 := Lib.hid (own_cap own1)
    clear own1 hb1
    go_wp2_with fail
    refine (sConProof_any _ _ _ _ _ xs _ HLen.out hnc (by omega) (HR.out.below HB1.out)).mono ?_
    rintro e w3 ⟨A2, n2, c2, rfl, hn2, own2, hb2⟩
    obtain rfl : n1 = n2 := hn1.symm.trans hn2
    have HP2 := Lib.hid (RK.of_own own2)
    have HB2 := Lib.hid hb2
    have HN := Lib.hid hn1
    have HRx := Lib.hid ((HR.out.below HB1.out).below HB2.out)
    have HPx := Lib.hid (HP1.out.below HB2.out)
    have HBx := Lib.hid ((HL.out.below.trans (HB1.out.mono HL.out.below.size)).trans (HB2.out.mono (by have := HL.out.below.size; have := HB1.out.size; omega)))
    have hp6 : n1 ≤ 100 := by
      rw [← hn1]
      by_cases hg : okL xs = true ∧ inB i 1 (xs.length : Int) = true
      · obtain ⟨hg1, hg2⟩ := hg
        have hg3 := inB_iff.1 hg2
        obtain ⟨k, rfl⟩ := Int.eq_ofNat_of_zero_le (show 0 ≤ i by omega)
        rw [conProof_yes hg1 hg2]
        have := grow_len xs k true (by omega) (by omega)
        have := okL_len hg1
        omega
      · rw [conProof_no hg]; simp
    clear own2 hb2 hn1 hn2 HP1
    go_wp2_with fail
    refine (swInts_same _ _ _ _ _ _ _ (conProof xs i) _ HN.out (by omega) HPx.out HP2.out).mono ?_
    rintro e w4 ⟨rfl, k4, rfl⟩
    by_cases hbad : okL xs = false ∨ i < 1 ∨ (xs.length : Int) < i
    · have hp0 : n1 = 0 := by rw [← HN.out, growth_none hbad]; rfl
      subst hp0
      rw [HLen.out] at hbad
      have hbad' : okL xs = false ∨ (okL xs = true ∧ i < 1) ∨ (okL xs = true ∧ 1 ≤ i ∧ (n : Int) < i) := by
        cases hx : okL xs
        · exact .inl rfl
        · simp only [hx] at hbad
          right
          by_cases h1 : i < 1
          · exact .inl ⟨rfl, h1⟩
          · exact .inr ⟨rfl, by omega, by simp at hbad; omega⟩
      clear hbad
      rcases hbad' with h1 | ⟨h1, h2⟩ | ⟨h1, h2, h3⟩
      all_goals
        go_wp2_with (first
          | (go_at_call 31; refine (sTreOk_any _ _ _ _ xs _ HLen.out (HRx.out.drewN _) (by omega)).mono ?_; rintro e w' ⟨rfl, rfl⟩)
          | (go_at_call 22; refine (swOk_any _).mono ?_; rintro e w' ⟨rfl, rfl⟩))
        go_ret
        exact ⟨rfl, below_drewN HBx.out _⟩
    · have hok : okL xs = true := by
        cases hx : okL xs
        · exact absurd (.inl hx) hbad
        · rfl
      have hi0 : 1 ≤ i := by omega
      have hin : i ≤ n := by have := HLen.out; omega
      obtain ⟨m, rfl⟩ := Int.eq_ofNat_of_zero_le (show 0 ≤ i by omega)
      have hm1 : 1 ≤ m := by omega
      have hm2 : m ≤ n := by omega
      have HO := Lib.hid hok
      have hn1 : 1 ≤ n := by omega
      obtain ⟨b, o, rfl, _, _, _⟩ := HRx.out.at_ (j := 0) (by rw [HLen.out]; omega)
      have hmc : m ≤ c := by omega
      have hm40 : n ≤ 40 := by have := okL_len HO.out; have := HLen.out; omega
      have L0 := Lib.hid HLen.out
      clear hbad hok
      have d1 : decide ((m : Int) < 1) = false := by simp; omega
      have d2 : decide (n < m) = false := by simp; omega
      have d3 : decide ((n : Int) < (m : Int)) = false := by simp; omega
      go_wp2_with (go_at_call 31; refine (sTreOk_any _ _ _ _ xs _ HLen.out (HRx.out.drewN _) (by omega)).mono ?_; rw [HO.out]; rintro e w' ⟨rfl, rfl⟩)
      go_loopw [7] (fun i wr => ∃ k : Nat, i = .int .i64 (k : Int) ∧ 1 ≤ k ∧ k ≤ m + 1 ∧ Below w.heap.size w wr ∧ RI wr w.heap.size (some ⟨b, o, none⟩) xs) (fun i _ => m + 1 - (intOf i).toNat)
      case atStart => exact ⟨1, rfl, by omega, by omega, below_drewN HBx.out _, HRx.out.drewN _⟩
      case round =>
        obtain ⟨k, rfl, k1, km, HBw0, HRw0⟩ := hrel
        have HBw := Lib.hid HBw0
        have HRw := Lib.hid HRw0
        clear HBw0 HRw0
        by_cases hkm : k ≤ m
        · have S1 := growth_shows (okL_take HO.out m) (m := k) k1 (by have := HLen.out; simp; omega)
          have S2 := growth_shows HO.out (m := k) k1 (by have := HLen.out; omega)
          rw [List.take_take, Nat.min_eq_left hkm, show (xs.take m).length = m by have := HLen.out; simp; omega] at S1
          rw [HLen.out] at S2
          have Lk := Lib.hid (show (xs.take k).length = k by have := HLen.out; simp; omega)
          have Lm := Lib.hid (show (xs.take m).length = m by have := HLen.out; simp; omega)
          have hkc : k ≤ c := by omega
          have hkn : k ≤ n := by omega
          have R1 := Lib.hid (HRw.out.take k)
          have R2 := Lib.hid (HRw.out.take m)
          have S1' := Lib.hid S1
          have S2' := Lib.hid S2
          clear S1 S2
          have tok1 : True := trivial
          have tok2 : True := trivial
          have tok3 : True := trivial
          have tok4 : True := trivial
          have tok5 : True := trivial
          have tok6 : True := trivial
          have tok7 : True := trivial
          have tok8 : True := trivial
          go_wp2_with fail
          go_region_held3 (fun _ => True) (trivial)
            (first
            | (go_at_call 33; have _t := tok1; refine Calls.mono (TreRoot_any _ k _ w.heap.size (xs.take k) _ Lk.out (by omega) R1.out (by omega)) ?_; rintro e w5 ⟨rfl, d1, rfl⟩; clear tok1)
            | (go_at_call 33; have _t := tok2; refine Calls.mono (TreRoot_any _ m _ w.heap.size (xs.take m) _ Lm.out (by omega) R2.out (by omega)) ?_; rintro e w5 ⟨rfl, d2, rfl⟩; clear tok2)
            | (go_at_call 49; have _t := tok3; refine Calls.mono (ConProof_any _ m _ w.heap.size _ (xs.take m) _ Lm.out (by omega) (by omega) R2.out) ?_; rintro e w5 ⟨Ap, np, cp, rfl, hnp, ownp, hbp⟩; have NP := Lib.hid hnp; have OP := Lib.hid ownp; have BP := Lib.hid hbp; clear tok3 hnp ownp hbp)
            | (go_at_call 51; have _t := tok4; refine Calls.mono (ConCheck_any _ _ _ _ _ _ _ _ (conProof (xs.take m) k) _ NP.out (own_cap OP.out) (by rw [← NP.out]; have := conProof_few (xs.take m) k; omega) (RK.of_own OP.out)) ?_; rw [S1'.out]; rintro e w6 ⟨rfl, hbc⟩; have BC := Lib.hid hbc; have R5 := Lib.hid (((R1.out.drewN _).below BP.out).below hbc); have R6 := Lib.hid (((HRw.out.drewN _).below BP.out).below hbc); clear tok4 hbc)
            | (go_at_call 33; have _t := tok5; refine Calls.mono (TreRoot_any _ k _ w.heap.size (xs.take k) _ Lk.out (by omega) R5.out (by omega)) ?_; rintro e w7 ⟨rfl, d5, rfl⟩; clear tok5)
            | (go_at_call 33; have _t := tok6; refine Calls.mono (TreRoot_any _ n _ w.heap.size xs _ L0.out (by omega) R6.out (by omega)) ?_; rintro e w7 ⟨rfl, d6, rfl⟩; clear tok6)
            | (go_at_call 49; have _t := tok7; refine Calls.mono (ConProof_any _ n _ w.heap.size _ xs _ L0.out (by omega) (by omega) R6.out) ?_; rintro e w7 ⟨Aq, nq, cq, rfl, hnq, ownq, hbq⟩; have NQ := Lib.hid hnq; have OQ := Lib.hid ownq; have BQ := Lib.hid hbq; clear tok7 hnq ownq hbq)
            | (go_at_call 51; have _t := tok8; refine Calls.mono (ConCheck_any _ _ _ _ _ _ _ _ (conProof xs k) _ NQ.out (own_cap OQ.out) (by rw [← NQ.out]; have := conProof_few xs k; omega) (RK.of_own OQ.out)) ?_; rw [S2'.out]; rintro e w8 ⟨rfl, hbd⟩; have BD := Lib.hid hbd; clear tok8 hbd))
          have HB1 := Lib.hid (below_at (below_at (below_at (below_at (below_drewN HBw.out _) BP.out) BC.out |> (below_drewN · _)) BQ.out) BD.out)
          have HR9 := Lib.hid (((R6.out.drewN _).below BQ.out).below BD.out)
          go_wp2_with fail
          go_roundw
          case rel => first | exact ⟨k + 1, by go_num, by omega, by omega, HB1.out, HR9.out⟩ | ((repeat apply Exists.intro); exact ⟨⟨k + 1, by go_num, by omega, by omega, HB1.out, HR9.out⟩, rfl⟩)
          case measure => simp [intOf]; omega
        · go_wp2_with (go_at_call 22; refine (swOk_any _).mono ?_; rintro e w' ⟨rfl, rfl⟩)
          go_ret
          exact ⟨rfl, HBw.out⟩
  · have hb : 1048576 < len0 := by omega
    clear w0 hbig
    go_enter Try.func15, Try.ntmps15
    go_wp2_with fail
    go_ret
    exact ⟨rfl, Below.refl _ _⟩
end Go.Proofs.Ytandjjbfhcifiaa
