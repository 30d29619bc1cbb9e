/- The walk of FnExactOwnPut. -/
import Derived.Test.YtbgljjmmominbaaEx3
import Derived.Test.YtbgljjmmominbaaPut
import Derived.Test.YtbgljjmmominbaaBox
namespace Go.Proofs.Ytbgljjmmominbaa
set_option linter.unusedVariables false
open Go.RowKit Pl
theorem ownPut_len (rs : List Orow) (e : Ent) : (ownPut rs e).1.length = rs.length := by
  unfold ownPut
  split
  · exact List.length_set
  · rfl
set_option maxHeartbeats 8000000 in
theorem walkFnExactOwnPut (a0 : Option Addr) (len0 cap0 : Nat) (z0 : List Orow) (a1k a1t a1u a1p : Int) (w : World) (q0 : InR w a0 len0 cap0 z0) (q1 : (Lit.int .i64 a1k).wf = true ∧ (Lit.int .i64 a1t).wf = true ∧ (Lit.int .i64 a1u).wf = true ∧ (Lit.int .i64 a1p).wf = true) : Calls Try.prog 11 #[.slice a0 len0 cap0, .agg #[.int .i64 a1k, .int .i64 a1t, .int .i64 a1u, .int .i64 a1p]] w (True_ w) := by
  have hlen0 : len0 ≤ 9223372036854775807 := by have := q0.cap; have := q0.top; unfold maxLen at this; omega
  have HI0 := Lib.hid q0
  by_cases hbig : len0 ≤ 1048576
  · have hbig0 := hbig
    clear q0
    have B0 := Lib.hid ((Below.refl w.heap.size w).alloc (Nat.le_refl _) (.cells #[.int .i64 a1k, .int .i64 a1t, .int .i64 a1u, .int .i64 a1p] 23))
    have X0 := Lib.hid (Box.new w a1k a1t a1u a1p 23)
    have hs0 : w.heap.size < (w.alloc (.cells #[.int .i64 a1k, .int .i64 a1t, .int .i64 a1u, .int .i64 a1p] 23)).heap.size := by simp
    go_enter Try.func11, Try.ntmps11
    go_wp2_with fail
    refine (szR_any _ _ _ _ (by omega)).mono ?_
    rw [if_pos (show (len0 : Int) ≤ 1048576 by omega)]
    rintro e v0 ⟨rfl, rfl⟩
    obtain ⟨x1, x2, x3, x4, _⟩ := X0.out
    go_wp2_with fail
    go_region_held3 (fun w' => w'.cell? ⟨w.heap.size, 0, none⟩ = some (.int .i64 a1k) ∧ w'.cell? ⟨w.heap.size, 1, none⟩ = some (.int .i64 a1t) ∧ w'.cell? ⟨w.heap.size, 2, none⟩ = some (.int .i64 a1u) ∧ w'.cell? ⟨w.heap.size, 3, none⟩ = some (.int .i64 a1p)) (first | exact X0.out.cells | exact X1.out.cells | exact X2.out.cells | exact X3.out.cells)
      (first
      | (go_at_call 27; refine Calls.mono (copyR_any _ _ _ _ _ _ HI0.out B0.out.drew (by omega)) ?_; rintro e v1 ⟨A1, c1, rfl, hc1, ho1, hb1⟩; have D1 := Lib.hid (below_drewN1 hb1); have O1 := Lib.hid ho1; have Y1 := Lib.hid (lies_of ho1); clear hb1 ho1; have X1 := Lib.hid (X0.out.below D1.out); have B1 := Lib.hid (below_at B0.out D1.out); have hs1 : (w.alloc (.cells #[.int .i64 a1k, .int .i64 a1t, .int .i64 a1u, .int .i64 a1p] 23)).heap.size ≤ v1.heap.size := (D1.out).size)
      | (go_at_call 20; refine Calls.mono (toEntEntry_any _ _ _ _ _) ?_; rintro e v2 ⟨rfl, hb2⟩; have D2 := Lib.hid hb2; clear hb2; have X2 := Lib.hid (X1.out.below D2.out); have O1_2 := Lib.hid (owns_over O1.out D2.out); have B2 := Lib.hid (below_at B1.out D2.out); have hs2 : v1.heap.size ≤ v2.heap.size := (D2.out).size)
      | (go_at_call 49; refine Calls.mono (sOwnPut_any _ _ _ 0 z0 _ _ _ _ _ HI0.out.len ((RV.of_own O1_2.out).less (Nat.zero_le _)) (fun e => by subst e; exact owns_none O1_2.out) (by omega)) ?_; rintro e v3 ⟨A3, n3, c3, rfl, hn3, ho3, hb3⟩; have N3 := Lib.hid hn3; have D3 := Lib.hid hb3; have O3 := Lib.hid ho3; have Y3 := Lib.hid (lies_of ho3); clear hb3 ho3 hn3; have X3 := Lib.hid (X2.out.below D3.out); have O1_3 := Lib.hid (owns_over O1_2.out D3.out); have B3 := Lib.hid (below_at B2.out D3.out); have hs3 : v2.heap.size ≤ v3.heap.size := (D3.out).size))
    clear x1 x2 x3 x4
    go_wp2_with fail
    refine (copyR_any _ _ _ _ _ _ HI0.out B3.out (by omega)).mono ?_
    rintro e v4 ⟨A4, c4, rfl, hc4, ho4, hb4⟩
    have D4 := Lib.hid hb4
    have O4 := Lib.hid ho4
    have Y4 := Lib.hid (lies_of ho4)
    clear hb4 ho4
    have X4 := Lib.hid (X3.out.below D4.out)
    have O3_4 := Lib.hid (owns_over O3.out D4.out)
    have B4 := Lib.hid (below_at B3.out D4.out)
    have hs4 : v3.heap.size ≤ v4.heap.size := (D4.out).size
    obtain ⟨x1, x2, x3, x4, _⟩ := X4.out
    go_wp2_with fail
    clear x1 x2 x3 x4
    refine (toEntEntry_any _ _ _ _ _).mono ?_
    rintro e v5 ⟨rfl, hb5⟩
    have D5 := Lib.hid hb5
    clear hb5
    have X5 := Lib.hid (X4.out.below D5.out)
    have O3_5 := Lib.hid (owns_over O3_4.out D5.out)
    have O4_5 := Lib.hid (owns_over O4.out D5.out)
    have B5 := Lib.hid (below_at B4.out D5.out)
    have hs5 : v4.heap.size ≤ v5.heap.size := (D5.out).size
    go_wp2_with fail
    refine (OwnPut_any _ _ _ 0 z0 _ _ _ _ _ HI0.out.len ((RV.of_own O4_5.out).less (Nat.zero_le _)) (fun e => by subst e; exact owns_none O4_5.out) (by omega)).mono ?_
    rintro e v6 ⟨A6, n6, c6, rfl, hn6, ho6, hb6⟩
    have N6 := Lib.hid hn6
    have D6 := Lib.hid hb6
    have O6 := Lib.hid ho6
    have Y6 := Lib.hid (lies_of ho6)
    clear hb6 ho6 hn6
    have X6 := Lib.hid (X5.out.below D6.out)
    have O3_6 := Lib.hid (owns_over O3_5.out D6.out)
    have O4_6 := Lib.hid (owns_over O4_5.out D6.out)
    have B6 := Lib.hid (below_at B5.out D6.out)
    have hs6 : v5.heap.size ≤ v6.heap.size := (D6.out).size
    obtain rfl : n3 = n6 := N3.out.symm.trans N6.out
    have hn : n3 ≤ 1048576 := by have h1 := N3.out; have h2 := HI0.out.len; rw [ownPut_len] at h1; omega
    go_wp2_with fail
    refine (eqR_same _ _ _ _ _ _ _ ((ownPut z0 ⟨a1k, a1t, a1u, a1p⟩).1) _ N6.out (by omega) O6.out O3_6.out).mono ?_
    rintro e v7 ⟨rfl, hb7⟩
    have D7 := Lib.hid hb7
    clear hb7
    have X7 := Lib.hid (X6.out.below D7.out)
    have O3_7 := Lib.hid (owns_over O3_6.out D7.out)
    have O4_7 := Lib.hid (owns_over O4_6.out D7.out)
    have O6_7 := Lib.hid (owns_over O6.out D7.out)
    have B7 := Lib.hid (below_at B6.out D7.out)
    have hs7 : v6.heap.size ≤ v7.heap.size := (D7.out).size
    go_wp2_with fail
    refine (copyR_any _ _ _ _ _ _ HI0.out B7.out (by omega)).mono ?_
    rintro e v8 ⟨A8, c8, rfl, hc8, ho8, hb8⟩
    have D8 := Lib.hid hb8
    have O8 := Lib.hid ho8
    have Y8 := Lib.hid (lies_of ho8)
    clear hb8 ho8
    have X8 := Lib.hid (X7.out.below D8.out)
    have O3_8 := Lib.hid (owns_over O3_7.out D8.out)
    have O4_8 := Lib.hid (owns_over O4_7.out D8.out)
    have O6_8 := Lib.hid (owns_over O6_7.out D8.out)
    have B8 := Lib.hid (below_at B7.out D8.out)
    have hs8 : v7.heap.size ≤ v8.heap.size := (D8.out).size
    go_wp2_with fail
    refine (eqR_same _ _ _ _ _ _ _ z0 _ HI0.out.len (by omega) O4_8.out O8.out).mono ?_
    rintro e v9 ⟨rfl, hb9⟩
    have D9 := Lib.hid hb9
    clear hb9
    have X9 := Lib.hid (X8.out.below D9.out)
    have O3_9 := Lib.hid (owns_over O3_8.out D9.out)
    have O4_9 := Lib.hid (owns_over O4_8.out D9.out)
    have O6_9 := Lib.hid (owns_over O6_8.out D9.out)
    have O8_9 := Lib.hid (owns_over O8.out D9.out)
    have B9 := Lib.hid (below_at B8.out D9.out)
    have hs9 : v8.heap.size ≤ v9.heap.size := (D9.out).size
    go_wp2_with fail
    refine (markR_any _ _ _ _ _ (1) _ O4_9.out (by omega) (by omega) (by omega)).mono ?_
    rintro e v10 ⟨rfl, ho10, hb10, hg10⟩
    have G10 := Lib.hid hg10
    have M10 := Lib.hid ho10
    clear ho10 hb10 hg10
    have O3_10 := Lib.hid (owns_apart O3_9.out G10.out Y3.out Y4.out (by omega))
    have O6_10 := Lib.hid (owns_apart O6_9.out G10.out Y6.out Y4.out (by omega))
    have X10 := Lib.hid (X9.out.apart G10.out Y4.out (by omega))
    have B10 := Lib.hid (below_row B9.out G10.out Y4.out (by omega))
    have hs10 : v9.heap.size ≤ v10.heap.size := G10.out.size
    go_wp2_with fail
    refine (eqR_same _ _ _ _ _ _ _ ((ownPut z0 ⟨a1k, a1t, a1u, a1p⟩).1) _ N6.out (by omega) O6_10.out O3_10.out).mono ?_
    rintro e v11 ⟨rfl, hb11⟩
    have D11 := Lib.hid hb11
    clear hb11
    have X11 := Lib.hid (X10.out.below D11.out)
    have O3_11 := Lib.hid (owns_over O3_10.out D11.out)
    have O6_11 := Lib.hid (owns_over O6_10.out D11.out)
    have B11 := Lib.hid (below_at B10.out D11.out)
    have hs11 : v10.heap.size ≤ v11.heap.size := (D11.out).size
    go_wp2_with fail
    refine (markR_any _ _ _ _ _ (1) _ O6_11.out (by omega) (by omega) (by omega)).mono ?_
    rintro e v12 ⟨rfl, ho12, hb12, hg12⟩
    have G12 := Lib.hid hg12
    have M12 := Lib.hid ho12
    clear ho12 hb12 hg12
    have O3_12 := Lib.hid (owns_apart O3_11.out G12.out Y3.out Y6.out (by omega))
    have X12 := Lib.hid (X11.out.apart G12.out Y6.out (by omega))
    have B12 := Lib.hid (below_row B11.out G12.out Y6.out (by omega))
    have hs12 : v11.heap.size ≤ v12.heap.size := G12.out.size
    go_wp2_with fail
    refine (heldR_any _ _ _ _ (1) _ M12.out (by omega) (by omega) (by omega)).mono ?_
    rintro e v13 ⟨rfl, hb13⟩
    have D13 := Lib.hid hb13
    clear hb13
    have X13 := Lib.hid (X12.out.below D13.out)
    have O3_13 := Lib.hid (owns_over O3_12.out D13.out)
    have M12_13 := Lib.hid (owns_over M12.out D13.out)
    have B13 := Lib.hid (below_at B12.out D13.out)
    have hs13 : v12.heap.size ≤ v13.heap.size := (D13.out).size
    obtain ⟨x1, x2, x3, x4, _⟩ := X13.out
    go_wp2_with fail
    go_region_held3 (fun w' => w'.cell? ⟨w.heap.size, 0, none⟩ = some (.int .i64 a1k) ∧ w'.cell? ⟨w.heap.size, 1, none⟩ = some (.int .i64 a1t) ∧ w'.cell? ⟨w.heap.size, 2, none⟩ = some (.int .i64 a1u) ∧ w'.cell? ⟨w.heap.size, 3, none⟩ = some (.int .i64 a1p)) (first | exact X13.out.cells | exact X14.out.cells | exact X15.out.cells | exact X16.out.cells)
      (first
      | (go_at_call 27; refine Calls.mono (copyR_any _ _ _ _ _ _ HI0.out B13.out.drew (by omega)) ?_; rintro e v14 ⟨A14, c14, rfl, hc14, ho14, hb14⟩; have D14 := Lib.hid (below_drewN1 hb14); have O14 := Lib.hid ho14; have Y14 := Lib.hid (lies_of ho14); clear hb14 ho14; have X14 := Lib.hid (X13.out.below D14.out); have O3_14 := Lib.hid (owns_over O3_13.out D14.out); have M12_14 := Lib.hid (owns_over M12_13.out D14.out); have B14 := Lib.hid (below_at B13.out D14.out); have hs14 : v13.heap.size ≤ v14.heap.size := (D14.out).size)
      | (go_at_call 20; refine Calls.mono (toEntEntry_any _ _ _ _ _) ?_; rintro e v15 ⟨rfl, hb15⟩; have D15 := Lib.hid hb15; clear hb15; have X15 := Lib.hid (X14.out.below D15.out); have O3_15 := Lib.hid (owns_over O3_14.out D15.out); have M12_15 := Lib.hid (owns_over M12_14.out D15.out); have O14_15 := Lib.hid (owns_over O14.out D15.out); have B15 := Lib.hid (below_at B14.out D15.out); have hs15 : v14.heap.size ≤ v15.heap.size := (D15.out).size)
      | (go_at_call 50; refine Calls.mono (OwnPut_any _ _ _ 0 z0 _ _ _ _ _ HI0.out.len ((RV.of_own O14_15.out).less (Nat.zero_le _)) (fun e => by subst e; exact owns_none O14_15.out) (by omega)) ?_; rintro e v16 ⟨A16, n16, c16, rfl, hn16, ho16, hb16⟩; have N16 := Lib.hid hn16; have D16 := Lib.hid hb16; have O16 := Lib.hid ho16; have Y16 := Lib.hid (lies_of ho16); clear hb16 ho16 hn16; have X16 := Lib.hid (X15.out.below D16.out); have O3_16 := Lib.hid (owns_over O3_15.out D16.out); have M12_16 := Lib.hid (owns_over M12_15.out D16.out); have O14_16 := Lib.hid (owns_over O14_15.out D16.out); have B16 := Lib.hid (below_at B15.out D16.out); have hs16 : v15.heap.size ≤ v16.heap.size := (D16.out).size))
    clear x1 x2 x3 x4
    obtain rfl : n3 = n16 := N3.out.symm.trans N16.out
    go_wp2_with fail
    refine (eqR_same _ _ _ _ _ _ _ ((ownPut z0 ⟨a1k, a1t, a1u, a1p⟩).1) _ N16.out (by omega) O16.out O3_16.out).mono ?_
    rintro e v17 ⟨rfl, hb17⟩
    have D17 := Lib.hid hb17
    clear hb17
    have X17 := Lib.hid (X16.out.below D17.out)
    have O3_17 := Lib.hid (owns_over O3_16.out D17.out)
    have M12_17 := Lib.hid (owns_over M12_16.out D17.out)
    have O16_17 := Lib.hid (owns_over O16.out D17.out)
    have B17 := Lib.hid (below_at B16.out D17.out)
    have hs17 : v16.heap.size ≤ v17.heap.size := (D17.out).size
    go_wp2_with fail
    refine (heldR_any _ _ _ _ (1) _ M12_17.out (by omega) (by omega) (by omega)).mono ?_
    rintro e v18 ⟨rfl, hb18⟩
    have D18 := Lib.hid hb18
    clear hb18
    have X18 := Lib.hid (X17.out.below D18.out)
    have O3_18 := Lib.hid (owns_over O3_17.out D18.out)
    have M12_18 := Lib.hid (owns_over M12_17.out D18.out)
    have B18 := Lib.hid (below_at B17.out D18.out)
    have hs18 : v17.heap.size ≤ v18.heap.size := (D18.out).size
    go_wp2_with fail
    go_ret
    exact ⟨rfl, B18.out⟩
  · have hb : 1048576 < len0 := by omega
    clear q0 hbig HI0
    go_enter Try.func11, Try.ntmps11
    go_wp2_with fail
    refine (szR_any _ _ _ _ (by omega)).mono ?_
    rw [if_neg (show ¬ (len0 : Int) ≤ 1048576 by omega)]
    rintro e v0 ⟨rfl, rfl⟩
    go_wp2_with fail
    go_ret
    exact ⟨rfl, (Below.refl _ _).alloc (Nat.le_refl _) _⟩
end Go.Proofs.Ytbgljjmmominbaa
