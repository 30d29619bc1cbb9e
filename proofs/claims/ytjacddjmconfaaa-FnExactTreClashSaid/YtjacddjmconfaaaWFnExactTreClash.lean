/- The walk of FnExactTreClash. -/
import Derived.Test.YtjacddjmconfaaaEx2
import Derived.Test.YtjacddjmconfaaaClashC
namespace Go.Proofs.Ytjacddjmconfaaa
set_option linter.unusedVariables false
open Go.RowKit Pl
theorem treClash_few (xs : List Int) (i leaf : Int) (p : List Int) : (treClash xs i leaf p).length ≤ 4 := by
  by_cases h : clashG xs i leaf p
  · obtain ⟨_, _, _, _, e, _⟩ := treClash_law h
    rw [e]; simp
  · rw [treClash_no h]; simp
set_option maxHeartbeats 8000000 in
theorem walkFnExactTreClash (a0 : Option Addr) (len0 cap0 : Nat) (z0 : List Int) (a1 : Int) (a2 : Int) (a3 : Option Addr) (len3 cap3 : Nat) (z3 : List Int) (w : World) (q0 : InK .i64 w a0 len0 cap0 z0) (q1 : (Lit.int .i64 a1).wf = true) (q2 : (Lit.int .i64 a2).wf = true) (q3 : InK .i64 w a3 len3 cap3 z3) : Calls Try.prog 11 #[.slice a0 len0 cap0, .int .i64 a1, .int .i64 a2, .slice a3 len3 cap3] w (True_ w) := by
  have hlen0 : len0 ≤ 9223372036854775807 := by have := q0.cap; have := q0.top; unfold maxLen at this; omega
  have hlen3 : len3 ≤ 9223372036854775807 := by have := q3.cap; have := q3.top; unfold maxLen at this; omega
  have hfew : Hid ((treClash z0 a1 a2 z3).length ≤ 4) := Lib.hid (treClash_few z0 a1 a2 z3)
  have HI0 := Lib.hid q0
  have HI3 := Lib.hid q3
  by_cases hbig : len0 ≤ 1048576 ∧ len3 ≤ 1048576
  · obtain ⟨hbig0, hbig3⟩ := hbig
    clear q0 q3
    have B0 := Lib.hid (Below.refl w.heap.size w)
    go_enter Try.func11, Try.ntmps11
    go_wp2_with fail
    refine (copyI_any _ _ _ _ _ _ HI0.out B0.out (by omega)).mono ?_
    rintro e v1 ⟨A1, c1, rfl, hc1, ho1, hb1⟩
    have D1 := Lib.hid hb1
    have O1 := Lib.hid ho1
    have Y1 := Lib.hid (lies_of ho1)
    clear hb1 ho1
    have B1 := Lib.hid (below_at B0.out D1.out)
    have hs1 : w.heap.size ≤ v1.heap.size := (D1.out).size
    go_wp2_with fail
    refine (copyI_any _ _ _ _ _ _ HI3.out B1.out (by omega)).mono ?_
    rintro e v2 ⟨A2, c2, rfl, hc2, ho2, hb2⟩
    have D2 := Lib.hid hb2
    have O2 := Lib.hid ho2
    have Y2 := Lib.hid (lies_of ho2)
    clear hb2 ho2
    have O1_2 := Lib.hid (owns_over O1.out D2.out)
    have B2 := Lib.hid (below_at B1.out D2.out)
    have hs2 : v1.heap.size ≤ v2.heap.size := (D2.out).size
    go_wp2_with fail
    refine (sTreClash_any _ _ _ _ _ _ 0 z0 z3 a1 a2 _ HI0.out.len hc1 (by omega) ((RK.of_own O1_2.out).less (Nat.zero_le _)) HI3.out.len hc2 (by omega) ((RK.of_own O2.out).less (Nat.zero_le _))).mono ?_
    rintro e v3 ⟨A3, n3, c3, rfl, hn3, ho3, hb3⟩
    have N3 := Lib.hid hn3
    have D3 := Lib.hid hb3
    have O3 := Lib.hid ho3
    have Y3 := Lib.hid (lies_of ho3)
    clear hb3 ho3 hn3
    have O1_3 := Lib.hid (owns_over O1_2.out D3.out)
    have O2_3 := Lib.hid (owns_over O2.out D3.out)
    have B3 := Lib.hid (below_at B2.out D3.out)
    have hs3 : v2.heap.size ≤ v3.heap.size := (D3.out).size
    go_wp2_with fail
    refine (copyI_any _ _ _ _ _ _ HI0.out B3.out (by omega)).mono ?_
    rintro e v4 ⟨A4, c4, rfl, hc4, ho4, hb4⟩
    have D4 := Lib.hid hb4
    have O4 := Lib.hid ho4
    have Y4 := Lib.hid (lies_of ho4)
    clear hb4 ho4
    have O3_4 := Lib.hid (owns_over O3.out D4.out)
    have B4 := Lib.hid (below_at B3.out D4.out)
    have hs4 : v3.heap.size ≤ v4.heap.size := (D4.out).size
    go_wp2_with fail
    refine (copyI_any _ _ _ _ _ _ HI3.out B4.out (by omega)).mono ?_
    rintro e v5 ⟨A5, c5, rfl, hc5, ho5, hb5⟩
    have D5 := Lib.hid hb5
    have O5 := Lib.hid ho5
    have Y5 := Lib.hid (lies_of ho5)
    clear hb5 ho5
    have O3_5 := Lib.hid (owns_over O3_4.out D5.out)
    have O4_5 := Lib.hid (owns_over O4.out D5.out)
    have B5 := Lib.hid (below_at B4.out D5.out)
    have hs5 : v4.heap.size ≤ v5.heap.size := (D5.out).size
    go_wp2_with fail
    refine (TreClash_any _ _ _ _ _ _ 0 z0 z3 a1 a2 _ HI0.out.len hc4 (by omega) ((RK.of_own O4_5.out).less (Nat.zero_le _)) HI3.out.len hc5 (by omega) ((RK.of_own O5.out).less (Nat.zero_le _))).mono ?_
    rintro e v6 ⟨A6, n6, c6, rfl, hn6, ho6, hb6⟩
    have N6 := Lib.hid hn6
    have D6 := Lib.hid hb6
    have O6 := Lib.hid ho6
    have Y6 := Lib.hid (lies_of ho6)
    clear hb6 ho6 hn6
    have O3_6 := Lib.hid (owns_over O3_5.out D6.out)
    have O4_6 := Lib.hid (owns_over O4_5.out D6.out)
    have O5_6 := Lib.hid (owns_over O5.out D6.out)
    have B6 := Lib.hid (below_at B5.out D6.out)
    have hs6 : v5.heap.size ≤ v6.heap.size := (D6.out).size
    obtain rfl : n3 = n6 := N3.out.symm.trans N6.out
    have hn : n3 ≤ 4 := by have := hfew.out; have := N3.out; omega
    go_wp2_with fail
    refine (eqI_same _ _ _ _ _ _ _ (treClash z0 a1 a2 z3) _ N6.out (by omega) O6.out O3_6.out).mono ?_
    rintro e v7 ⟨rfl, hb7⟩
    have D7 := Lib.hid hb7
    clear hb7
    have O3_7 := Lib.hid (owns_over O3_6.out D7.out)
    have O4_7 := Lib.hid (owns_over O4_6.out D7.out)
    have O5_7 := Lib.hid (owns_over O5_6.out D7.out)
    have O6_7 := Lib.hid (owns_over O6.out D7.out)
    have B7 := Lib.hid (below_at B6.out D7.out)
    have hs7 : v6.heap.size ≤ v7.heap.size := (D7.out).size
    go_wp2_with fail
    refine (copyI_any _ _ _ _ _ _ HI0.out B7.out (by omega)).mono ?_
    rintro e v8 ⟨A8, c8, rfl, hc8, ho8, hb8⟩
    have D8 := Lib.hid hb8
    have O8 := Lib.hid ho8
    have Y8 := Lib.hid (lies_of ho8)
    clear hb8 ho8
    have O3_8 := Lib.hid (owns_over O3_7.out D8.out)
    have O4_8 := Lib.hid (owns_over O4_7.out D8.out)
    have O5_8 := Lib.hid (owns_over O5_7.out D8.out)
    have O6_8 := Lib.hid (owns_over O6_7.out D8.out)
    have B8 := Lib.hid (below_at B7.out D8.out)
    have hs8 : v7.heap.size ≤ v8.heap.size := (D8.out).size
    go_wp2_with fail
    refine (eqI_same _ _ _ _ _ _ _ z0 _ HI0.out.len (by omega) O4_8.out O8.out).mono ?_
    rintro e v9 ⟨rfl, hb9⟩
    have D9 := Lib.hid hb9
    clear hb9
    have O3_9 := Lib.hid (owns_over O3_8.out D9.out)
    have O4_9 := Lib.hid (owns_over O4_8.out D9.out)
    have O5_9 := Lib.hid (owns_over O5_8.out D9.out)
    have O6_9 := Lib.hid (owns_over O6_8.out D9.out)
    have O8_9 := Lib.hid (owns_over O8.out D9.out)
    have B9 := Lib.hid (below_at B8.out D9.out)
    have hs9 : v8.heap.size ≤ v9.heap.size := (D9.out).size
    go_wp2_with fail
    refine (copyI_any _ _ _ _ _ _ HI3.out B9.out (by omega)).mono ?_
    rintro e v10 ⟨A10, c10, rfl, hc10, ho10, hb10⟩
    have D10 := Lib.hid hb10
    have O10 := Lib.hid ho10
    have Y10 := Lib.hid (lies_of ho10)
    clear hb10 ho10
    have O3_10 := Lib.hid (owns_over O3_9.out D10.out)
    have O4_10 := Lib.hid (owns_over O4_9.out D10.out)
    have O5_10 := Lib.hid (owns_over O5_9.out D10.out)
    have O6_10 := Lib.hid (owns_over O6_9.out D10.out)
    have B10 := Lib.hid (below_at B9.out D10.out)
    have hs10 : v9.heap.size ≤ v10.heap.size := (D10.out).size
    go_wp2_with fail
    refine (eqI_same _ _ _ _ _ _ _ z3 _ HI3.out.len (by omega) O5_10.out O10.out).mono ?_
    rintro e v11 ⟨rfl, hb11⟩
    have D11 := Lib.hid hb11
    clear hb11
    have O3_11 := Lib.hid (owns_over O3_10.out D11.out)
    have O4_11 := Lib.hid (owns_over O4_10.out D11.out)
    have O5_11 := Lib.hid (owns_over O5_10.out D11.out)
    have O6_11 := Lib.hid (owns_over O6_10.out D11.out)
    have O10_11 := Lib.hid (owns_over O10.out D11.out)
    have B11 := Lib.hid (below_at B10.out D11.out)
    have hs11 : v10.heap.size ≤ v11.heap.size := (D11.out).size
    go_wp2_with fail
    refine (markI_any _ _ _ _ _ (1) _ O4_11.out (by omega) (by omega) (by omega)).mono ?_
    rintro e v12 ⟨rfl, ho12, hb12, hg12⟩
    have G12 := Lib.hid hg12
    have M12 := Lib.hid ho12
    clear ho12 hb12 hg12
    have O3_12 := Lib.hid (owns_apart O3_11.out G12.out Y3.out Y4.out (by omega))
    have O5_12 := Lib.hid (owns_apart O5_11.out G12.out Y5.out Y4.out (by omega))
    have O6_12 := Lib.hid (owns_apart O6_11.out G12.out Y6.out Y4.out (by omega))
    have B12 := Lib.hid (below_row B11.out G12.out Y4.out (by omega))
    have hs12 : v11.heap.size ≤ v12.heap.size := G12.out.size
    go_wp2_with fail
    refine (markI_any _ _ _ _ _ (1 + (len0 : Int)) _ O5_12.out (by omega) (by omega) (by omega)).mono ?_
    rintro e v13 ⟨rfl, ho13, hb13, hg13⟩
    have G13 := Lib.hid hg13
    have M13 := Lib.hid ho13
    clear ho13 hb13 hg13
    have O3_13 := Lib.hid (owns_apart O3_12.out G13.out Y3.out Y5.out (by omega))
    have M12_13 := Lib.hid (owns_apart M12.out G13.out Y4.out Y5.out (by omega))
    have O6_13 := Lib.hid (owns_apart O6_12.out G13.out Y6.out Y5.out (by omega))
    have B13 := Lib.hid (below_row B12.out G13.out Y5.out (by omega))
    have hs13 : v12.heap.size ≤ v13.heap.size := G13.out.size
    go_wp2_with fail
    refine (eqI_same _ _ _ _ _ _ _ (treClash z0 a1 a2 z3) _ N6.out (by omega) O6_13.out O3_13.out).mono ?_
    rintro e v14 ⟨rfl, hb14⟩
    have D14 := Lib.hid hb14
    clear hb14
    have O3_14 := Lib.hid (owns_over O3_13.out D14.out)
    have O6_14 := Lib.hid (owns_over O6_13.out D14.out)
    have B14 := Lib.hid (below_at B13.out D14.out)
    have hs14 : v13.heap.size ≤ v14.heap.size := (D14.out).size
    go_wp2_with fail
    refine (markI_any _ _ _ _ _ (1) _ O6_14.out (by omega) (by omega) (by omega)).mono ?_
    rintro e v15 ⟨rfl, ho15, hb15, hg15⟩
    have G15 := Lib.hid hg15
    have M15 := Lib.hid ho15
    clear ho15 hb15 hg15
    have O3_15 := Lib.hid (owns_apart O3_14.out G15.out Y3.out Y6.out (by omega))
    have B15 := Lib.hid (below_row B14.out G15.out Y6.out (by omega))
    have hs15 : v14.heap.size ≤ v15.heap.size := G15.out.size
    go_wp2_with fail
    refine (heldI_any _ _ _ _ (1) _ M15.out (by omega) (by omega) (by omega)).mono ?_
    rintro e v16 ⟨rfl, hb16⟩
    have D16 := Lib.hid hb16
    clear hb16
    have O3_16 := Lib.hid (owns_over O3_15.out D16.out)
    have M15_16 := Lib.hid (owns_over M15.out D16.out)
    have B16 := Lib.hid (below_at B15.out D16.out)
    have hs16 : v15.heap.size ≤ v16.heap.size := (D16.out).size
    go_wp2_with fail
    refine (copyI_any _ _ _ _ _ _ HI0.out B16.out (by omega)).mono ?_
    rintro e v17 ⟨A17, c17, rfl, hc17, ho17, hb17⟩
    have D17 := Lib.hid hb17
    have O17 := Lib.hid ho17
    have Y17 := Lib.hid (lies_of ho17)
    clear hb17 ho17
    have O3_17 := Lib.hid (owns_over O3_16.out D17.out)
    have M15_17 := Lib.hid (owns_over M15_16.out D17.out)
    have B17 := Lib.hid (below_at B16.out D17.out)
    have hs17 : v16.heap.size ≤ v17.heap.size := (D17.out).size
    go_wp2_with fail
    refine (copyI_any _ _ _ _ _ _ HI3.out B17.out (by omega)).mono ?_
    rintro e v18 ⟨A18, c18, rfl, hc18, ho18, hb18⟩
    have D18 := Lib.hid hb18
    have O18 := Lib.hid ho18
    have Y18 := Lib.hid (lies_of ho18)
    clear hb18 ho18
    have O3_18 := Lib.hid (owns_over O3_17.out D18.out)
    have M15_18 := Lib.hid (owns_over M15_17.out D18.out)
    have O17_18 := Lib.hid (owns_over O17.out D18.out)
    have B18 := Lib.hid (below_at B17.out D18.out)
    have hs18 : v17.heap.size ≤ v18.heap.size := (D18.out).size
    go_wp2_with fail
    refine (TreClash_any _ _ _ _ _ _ 0 z0 z3 a1 a2 _ HI0.out.len hc17 (by omega) ((RK.of_own O17_18.out).less (Nat.zero_le _)) HI3.out.len hc18 (by omega) ((RK.of_own O18.out).less (Nat.zero_le _))).mono ?_
    rintro e v19 ⟨A19, n19, c19, rfl, hn19, ho19, hb19⟩
    have N19 := Lib.hid hn19
    have D19 := Lib.hid hb19
    have O19 := Lib.hid ho19
    have Y19 := Lib.hid (lies_of ho19)
    clear hb19 ho19 hn19
    have O3_19 := Lib.hid (owns_over O3_18.out D19.out)
    have M15_19 := Lib.hid (owns_over M15_18.out D19.out)
    have O17_19 := Lib.hid (owns_over O17_18.out D19.out)
    have O18_19 := Lib.hid (owns_over O18.out D19.out)
    have B19 := Lib.hid (below_at B18.out D19.out)
    have hs19 : v18.heap.size ≤ v19.heap.size := (D19.out).size
    obtain rfl : n3 = n19 := N3.out.symm.trans N19.out
    go_wp2_with fail
    refine (eqI_same _ _ _ _ _ _ _ (treClash z0 a1 a2 z3) _ N19.out (by omega) O19.out O3_19.out).mono ?_
    rintro e v20 ⟨rfl, hb20⟩
    have D20 := Lib.hid hb20
    clear hb20
    have O3_20 := Lib.hid (owns_over O3_19.out D20.out)
    have M15_20 := Lib.hid (owns_over M15_19.out D20.out)
    have O19_20 := Lib.hid (owns_over O19.out D20.out)
    have B20 := Lib.hid (below_at B19.out D20.out)
    have hs20 : v19.heap.size ≤ v20.heap.size := (D20.out).size
    go_wp2_with fail
    refine (heldI_any _ _ _ _ (1) _ M15_20.out (by omega) (by omega) (by omega)).mono ?_
    rintro e v21 ⟨rfl, hb21⟩
    have D21 := Lib.hid hb21
    clear hb21
    have O3_21 := Lib.hid (owns_over O3_20.out D21.out)
    have M15_21 := Lib.hid (owns_over M15_20.out D21.out)
    have B21 := Lib.hid (below_at B20.out D21.out)
    have hs21 : v20.heap.size ≤ v21.heap.size := (D21.out).size
    go_wp2_with fail
    go_ret
    exact ⟨rfl, B21.out⟩
  · have hb : 1048576 < len0 ∨ (len0 ≤ 1048576 ∧ 1048576 < len3) := by omega
    clear q0 q3 hbig HI0 HI3
    rcases hb with hb | ⟨hb, hb2⟩
    all_goals
      go_enter Try.func11, Try.ntmps11
      go_wp2_with fail
      go_ret
      exact ⟨rfl, Below.refl _ _⟩
end Go.Proofs.Ytjacddjmconfaaa
