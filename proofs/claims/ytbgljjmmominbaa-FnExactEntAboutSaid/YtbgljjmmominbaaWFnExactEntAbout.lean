/- The walk of FnExactEntAbout. -/
import Derived.Test.YtbgljjmmominbaaEx3
import Derived.Test.YtbgljjmmominbaaOf
namespace Go.Proofs.Ytbgljjmmominbaa
set_option linter.unusedVariables false
open Go.RowKit Pl
set_option maxHeartbeats 8000000 in
theorem walkFnExactEntAbout (a0 : Option Addr) (len0 cap0 : Nat) (z0 : List Ent) (a1 : Int) (w : World) (q0 : InE w a0 len0 cap0 z0) (q1 : (Lit.int .i64 a1).wf = true) : Calls Try.prog 7 #[.slice a0 len0 cap0, .int .i64 a1] w (True_ w) := by
  have hlen0 : len0 ≤ 9223372036854775807 := by have := q0.cap; have := q0.top; unfold maxLen at this; omega
  have HI0 := Lib.hid q0
  by_cases hbig : len0 ≤ 1048576
  · have hbig0 := hbig
    clear q0
    have B0 := Lib.hid (Below.refl w.heap.size w)
    go_enter Try.func7, Try.ntmps7
    go_wp2_with fail
    refine (szE_any _ _ _ _ (by omega)).mono ?_
    rw [if_pos (show (len0 : Int) ≤ 1048576 by omega)]
    rintro e v0 ⟨rfl, rfl⟩
    go_wp2_with fail
    refine (copyE_any _ _ _ _ _ _ HI0.out B0.out (by omega)).mono ?_
    rintro e v1 ⟨A1, c1, rfl, hc1, ho1, hb1⟩
    have D1 := Lib.hid hb1
    have O1 := Lib.hid ho1
    have Y1 := Lib.hid (lies_of ho1)
    clear hb1 ho1
    have B1 := Lib.hid (below_at B0.out D1.out)
    have hs1 : w.heap.size ≤ v1.heap.size := (D1.out).size
    go_wp2_with fail
    refine (sEntAbout_any _ _ _ 0 z0 a1 _ HI0.out.len ((RV.of_own O1.out).less (Nat.zero_le _)) (by omega)).mono ?_
    rintro e v2 ⟨A2, n2, c2, rfl, hn2, ho2, hb2⟩
    have N2 := Lib.hid hn2
    have D2 := Lib.hid hb2
    have O2 := Lib.hid ho2
    have Y2 := Lib.hid (lies_of ho2)
    clear hb2 ho2 hn2
    have O1_2 := Lib.hid (owns_over O1.out D2.out)
    have B2 := Lib.hid (below_at B1.out D2.out)
    have hs2 : v1.heap.size ≤ v2.heap.size := (D2.out).size
    go_wp2_with fail
    refine (copyE_any _ _ _ _ _ _ HI0.out B2.out (by omega)).mono ?_
    rintro e v3 ⟨A3, c3, rfl, hc3, ho3, hb3⟩
    have D3 := Lib.hid hb3
    have O3 := Lib.hid ho3
    have Y3 := Lib.hid (lies_of ho3)
    clear hb3 ho3
    have O2_3 := Lib.hid (owns_over O2.out D3.out)
    have B3 := Lib.hid (below_at B2.out D3.out)
    have hs3 : v2.heap.size ≤ v3.heap.size := (D3.out).size
    go_wp2_with fail
    refine (EntAbout_any _ _ _ 0 z0 a1 _ HI0.out.len ((RV.of_own O3.out).less (Nat.zero_le _)) (by omega)).mono ?_
    rintro e v4 ⟨A4, n4, c4, rfl, hn4, ho4, hb4⟩
    have N4 := Lib.hid hn4
    have D4 := Lib.hid hb4
    have O4 := Lib.hid ho4
    have Y4 := Lib.hid (lies_of ho4)
    clear hb4 ho4 hn4
    have O2_4 := Lib.hid (owns_over O2_3.out D4.out)
    have O3_4 := Lib.hid (owns_over O3.out D4.out)
    have B4 := Lib.hid (below_at B3.out D4.out)
    have hs4 : v3.heap.size ≤ v4.heap.size := (D4.out).size
    obtain rfl : n2 = n4 := N2.out.symm.trans N4.out
    have hn : n2 ≤ 1048576 := by have h1 := N2.out; have h2 := HI0.out.len; have h3 := List.length_filter_le (fun e : Ent => e.t == a1) z0; unfold aboutE at h1; omega
    go_wp2_with fail
    refine (eqE_same _ _ _ _ _ _ _ (aboutE z0 a1) _ N4.out (by omega) O4.out O2_4.out).mono ?_
    rintro e v5 ⟨rfl, hb5⟩
    have D5 := Lib.hid hb5
    clear hb5
    have O2_5 := Lib.hid (owns_over O2_4.out D5.out)
    have O3_5 := Lib.hid (owns_over O3_4.out D5.out)
    have O4_5 := Lib.hid (owns_over O4.out D5.out)
    have B5 := Lib.hid (below_at B4.out D5.out)
    have hs5 : v4.heap.size ≤ v5.heap.size := (D5.out).size
    go_wp2_with fail
    refine (copyE_any _ _ _ _ _ _ HI0.out B5.out (by omega)).mono ?_
    rintro e v6 ⟨A6, c6, rfl, hc6, ho6, hb6⟩
    have D6 := Lib.hid hb6
    have O6 := Lib.hid ho6
    have Y6 := Lib.hid (lies_of ho6)
    clear hb6 ho6
    have O2_6 := Lib.hid (owns_over O2_5.out D6.out)
    have O3_6 := Lib.hid (owns_over O3_5.out D6.out)
    have O4_6 := Lib.hid (owns_over O4_5.out D6.out)
    have B6 := Lib.hid (below_at B5.out D6.out)
    have hs6 : v5.heap.size ≤ v6.heap.size := (D6.out).size
    go_wp2_with fail
    refine (eqE_same _ _ _ _ _ _ _ z0 _ HI0.out.len (by omega) O3_6.out O6.out).mono ?_
    rintro e v7 ⟨rfl, hb7⟩
    have D7 := Lib.hid hb7
    clear hb7
    have O2_7 := Lib.hid (owns_over O2_6.out D7.out)
    have O3_7 := Lib.hid (owns_over O3_6.out D7.out)
    have O4_7 := Lib.hid (owns_over O4_6.out D7.out)
    have O6_7 := Lib.hid (owns_over O6.out D7.out)
    have B7 := Lib.hid (below_at B6.out D7.out)
    have hs7 : v6.heap.size ≤ v7.heap.size := (D7.out).size
    go_wp2_with fail
    refine (markE_any _ _ _ _ _ (1) _ O3_7.out (by omega) (by omega) (by omega)).mono ?_
    rintro e v8 ⟨rfl, ho8, hb8, hg8⟩
    have G8 := Lib.hid hg8
    have M8 := Lib.hid ho8
    clear ho8 hb8 hg8
    have O2_8 := Lib.hid (owns_apart O2_7.out G8.out Y2.out Y3.out (by omega))
    have O4_8 := Lib.hid (owns_apart O4_7.out G8.out Y4.out Y3.out (by omega))
    have B8 := Lib.hid (below_row B7.out G8.out Y3.out (by omega))
    have hs8 : v7.heap.size ≤ v8.heap.size := G8.out.size
    go_wp2_with fail
    refine (eqE_same _ _ _ _ _ _ _ (aboutE z0 a1) _ N4.out (by omega) O4_8.out O2_8.out).mono ?_
    rintro e v9 ⟨rfl, hb9⟩
    have D9 := Lib.hid hb9
    clear hb9
    have O2_9 := Lib.hid (owns_over O2_8.out D9.out)
    have O4_9 := Lib.hid (owns_over O4_8.out D9.out)
    have B9 := Lib.hid (below_at B8.out D9.out)
    have hs9 : v8.heap.size ≤ v9.heap.size := (D9.out).size
    go_wp2_with fail
    refine (markE_any _ _ _ _ _ (1) _ O4_9.out (by omega) (by omega) (by omega)).mono ?_
    rintro e v10 ⟨rfl, ho10, hb10, hg10⟩
    have G10 := Lib.hid hg10
    have M10 := Lib.hid ho10
    clear ho10 hb10 hg10
    have O2_10 := Lib.hid (owns_apart O2_9.out G10.out Y2.out Y4.out (by omega))
    have B10 := Lib.hid (below_row B9.out G10.out Y4.out (by omega))
    have hs10 : v9.heap.size ≤ v10.heap.size := G10.out.size
    go_wp2_with fail
    refine (heldE_any _ _ _ _ (1) _ M10.out (by omega) (by omega) (by omega)).mono ?_
    rintro e v11 ⟨rfl, hb11⟩
    have D11 := Lib.hid hb11
    clear hb11
    have O2_11 := Lib.hid (owns_over O2_10.out D11.out)
    have M10_11 := Lib.hid (owns_over M10.out D11.out)
    have B11 := Lib.hid (below_at B10.out D11.out)
    have hs11 : v10.heap.size ≤ v11.heap.size := (D11.out).size
    go_wp2_with fail
    refine (copyE_any _ _ _ _ _ _ HI0.out B11.out (by omega)).mono ?_
    rintro e v12 ⟨A12, c12, rfl, hc12, ho12, hb12⟩
    have D12 := Lib.hid hb12
    have O12 := Lib.hid ho12
    have Y12 := Lib.hid (lies_of ho12)
    clear hb12 ho12
    have O2_12 := Lib.hid (owns_over O2_11.out D12.out)
    have M10_12 := Lib.hid (owns_over M10_11.out D12.out)
    have B12 := Lib.hid (below_at B11.out D12.out)
    have hs12 : v11.heap.size ≤ v12.heap.size := (D12.out).size
    go_wp2_with fail
    refine (EntAbout_any _ _ _ 0 z0 a1 _ HI0.out.len ((RV.of_own O12.out).less (Nat.zero_le _)) (by omega)).mono ?_
    rintro e v13 ⟨A13, n13, c13, rfl, hn13, ho13, hb13⟩
    have N13 := Lib.hid hn13
    have D13 := Lib.hid hb13
    have O13 := Lib.hid ho13
    have Y13 := Lib.hid (lies_of ho13)
    clear hb13 ho13 hn13
    have O2_13 := Lib.hid (owns_over O2_12.out D13.out)
    have M10_13 := Lib.hid (owns_over M10_12.out D13.out)
    have O12_13 := Lib.hid (owns_over O12.out D13.out)
    have B13 := Lib.hid (below_at B12.out D13.out)
    have hs13 : v12.heap.size ≤ v13.heap.size := (D13.out).size
    obtain rfl : n2 = n13 := N2.out.symm.trans N13.out
    go_wp2_with fail
    refine (eqE_same _ _ _ _ _ _ _ (aboutE z0 a1) _ N13.out (by omega) O13.out O2_13.out).mono ?_
    rintro e v14 ⟨rfl, hb14⟩
    have D14 := Lib.hid hb14
    clear hb14
    have O2_14 := Lib.hid (owns_over O2_13.out D14.out)
    have M10_14 := Lib.hid (owns_over M10_13.out D14.out)
    have O13_14 := Lib.hid (owns_over O13.out D14.out)
    have B14 := Lib.hid (below_at B13.out D14.out)
    have hs14 : v13.heap.size ≤ v14.heap.size := (D14.out).size
    go_wp2_with fail
    refine (heldE_any _ _ _ _ (1) _ M10_14.out (by omega) (by omega) (by omega)).mono ?_
    rintro e v15 ⟨rfl, hb15⟩
    have D15 := Lib.hid hb15
    clear hb15
    have O2_15 := Lib.hid (owns_over O2_14.out D15.out)
    have M10_15 := Lib.hid (owns_over M10_14.out D15.out)
    have B15 := Lib.hid (below_at B14.out D15.out)
    have hs15 : v14.heap.size ≤ v15.heap.size := (D15.out).size
    go_wp2_with fail
    go_ret
    exact ⟨rfl, B15.out⟩
  · have hb : 1048576 < len0 := by omega
    clear q0 hbig HI0
    go_enter Try.func7, Try.ntmps7
    go_wp2_with fail
    refine (szE_any _ _ _ _ (by omega)).mono ?_
    rw [if_neg (show ¬ (len0 : Int) ≤ 1048576 by omega)]
    rintro e v0 ⟨rfl, rfl⟩
    go_wp2_with fail
    go_ret
    exact ⟨rfl, Below.refl _ _⟩
end Go.Proofs.Ytbgljjmmominbaa
