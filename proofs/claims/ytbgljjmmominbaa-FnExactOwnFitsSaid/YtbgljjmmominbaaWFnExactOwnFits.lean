/- The walk of FnExactOwnFits. -/
import Derived.Test.YtbgljjmmominbaaEx3
import Derived.Test.YtbgljjmmominbaaFits
import Derived.Test.YtbgljjmmominbaaBox
namespace Go.Proofs.Ytbgljjmmominbaa
set_option linter.unusedVariables false
open Go.RowKit Pl
set_option maxHeartbeats 8000000 in
theorem walkFnExactOwnFits (a0 : Option Addr) (len0 cap0 : Nat) (z0 : List Orow) (a1k a1t a1u a1p : Int) (w : World) (q0 : InR w a0 len0 cap0 z0) (q1 : (Lit.int .i64 a1k).wf = true ∧ (Lit.int .i64 a1t).wf = true ∧ (Lit.int .i64 a1u).wf = true ∧ (Lit.int .i64 a1p).wf = true) : Calls Try.prog 10 #[.slice a0 len0 cap0, .agg #[.int .i64 a1k, .int .i64 a1t, .int .i64 a1u, .int .i64 a1p]] w (True_ w) := by
  have hlen0 : len0 ≤ 9223372036854775807 := by have := q0.cap; have := q0.top; unfold maxLen at this; omega
  have HI0 := Lib.hid q0
  by_cases hbig : len0 ≤ 1048576
  · have hbig0 := hbig
    clear q0
    have B0 := Lib.hid ((Below.refl w.heap.size w).alloc (Nat.le_refl _) (.cells #[.int .i64 a1k, .int .i64 a1t, .int .i64 a1u, .int .i64 a1p] 23))
    have X0 := Lib.hid (Box.new w a1k a1t a1u a1p 23)
    have hs0 : w.heap.size < (w.alloc (.cells #[.int .i64 a1k, .int .i64 a1t, .int .i64 a1u, .int .i64 a1p] 23)).heap.size := by simp
    go_enter Try.func10, Try.ntmps10
    go_wp2_with fail
    refine (szR_any _ _ _ _ (by omega)).mono ?_
    rw [if_pos (show (len0 : Int) ≤ 1048576 by omega)]
    rintro e v0 ⟨rfl, rfl⟩
    obtain ⟨x1, x2, x3, x4, _⟩ := X0.out
    go_wp2_with fail
    go_region_held3 (fun w' => w'.cell? ⟨w.heap.size, 0, none⟩ = some (.int .i64 a1k) ∧ w'.cell? ⟨w.heap.size, 1, none⟩ = some (.int .i64 a1t) ∧ w'.cell? ⟨w.heap.size, 2, none⟩ = some (.int .i64 a1u) ∧ w'.cell? ⟨w.heap.size, 3, none⟩ = some (.int .i64 a1p)) (first | exact X0.out.cells | exact X1.out.cells | exact X2.out.cells | exact X3.out.cells)
      (first
      | (go_at_call 27; refine Calls.mono (copyR_any _ _ _ _ _ _ HI0.out B0.out.drew (by omega)) ?_; rintro e v1 ⟨A1, c1, rfl, hc1, ho1, hb1⟩; have D1 := Lib.hid (below_drewN1 hb1); have O1 := Lib.hid ho1; have Y1 := Lib.hid (lies_of ho1); clear hb1 ho1; have X1 := Lib.hid (X0.out.below D1.out); have B1 := Lib.hid (below_at B0.out D1.out); have hs1 : (w.alloc (.cells #[.int .i64 a1k, .int .i64 a1t, .int .i64 a1u, .int .i64 a1p] 23)).heap.size ≤ v1.heap.size := (D1.out).size)
      | (go_at_call 20; refine Calls.mono (toEntEntry_any _ _ _ _ _) ?_; rintro e v2 ⟨rfl, hb2⟩; have D2 := Lib.hid hb2; clear hb2; have X2 := Lib.hid (X1.out.below D2.out); have O1_2 := Lib.hid (owns_over O1.out D2.out); have B2 := Lib.hid (below_at B1.out D2.out); have hs2 : v1.heap.size ≤ v2.heap.size := (D2.out).size)
      | (go_at_call 47; refine Calls.mono (sOwnFits_any _ _ _ 0 z0 _ _ _ _ _ HI0.out.len ((RV.of_own O1_2.out).less (Nat.zero_le _)) (by omega)) ?_; rintro e v3 ⟨rfl, hb3⟩; have D3 := Lib.hid hb3; clear hb3; have X3 := Lib.hid (X2.out.below D3.out); have O1_3 := Lib.hid (owns_over O1_2.out D3.out); have B3 := Lib.hid (below_at B2.out D3.out); have hs3 : v2.heap.size ≤ v3.heap.size := (D3.out).size))
    clear x1 x2 x3 x4
    go_wp2_with fail
    refine (copyR_any _ _ _ _ _ _ HI0.out B3.out (by omega)).mono ?_
    rintro e v4 ⟨A4, c4, rfl, hc4, ho4, hb4⟩
    have D4 := Lib.hid hb4
    have O4 := Lib.hid ho4
    have Y4 := Lib.hid (lies_of ho4)
    clear hb4 ho4
    have X4 := Lib.hid (X3.out.below D4.out)
    have B4 := Lib.hid (below_at B3.out D4.out)
    have hs4 : v3.heap.size ≤ v4.heap.size := (D4.out).size
    obtain ⟨x1, x2, x3, x4, _⟩ := X4.out
    go_wp2_with fail
    clear x1 x2 x3 x4
    refine (toEntEntry_any _ _ _ _ _).mono ?_
    rintro e v5 ⟨rfl, hb5⟩
    have D5 := Lib.hid hb5
    clear hb5
    have X5 := Lib.hid (X4.out.below D5.out)
    have O4_5 := Lib.hid (owns_over O4.out D5.out)
    have B5 := Lib.hid (below_at B4.out D5.out)
    have hs5 : v4.heap.size ≤ v5.heap.size := (D5.out).size
    go_wp2_with fail
    refine (OwnFits_any _ _ _ 0 z0 _ _ _ _ _ HI0.out.len ((RV.of_own O4_5.out).less (Nat.zero_le _)) (by omega)).mono ?_
    rintro e v6 ⟨rfl, hb6⟩
    have D6 := Lib.hid hb6
    clear hb6
    have X6 := Lib.hid (X5.out.below D6.out)
    have O4_6 := Lib.hid (owns_over O4_5.out D6.out)
    have B6 := Lib.hid (below_at B5.out D6.out)
    have hs6 : v5.heap.size ≤ v6.heap.size := (D6.out).size
    go_wp2_with fail
    refine (copyR_any _ _ _ _ _ _ HI0.out B6.out (by omega)).mono ?_
    rintro e v7 ⟨A7, c7, rfl, hc7, ho7, hb7⟩
    have D7 := Lib.hid hb7
    have O7 := Lib.hid ho7
    have Y7 := Lib.hid (lies_of ho7)
    clear hb7 ho7
    have X7 := Lib.hid (X6.out.below D7.out)
    have O4_7 := Lib.hid (owns_over O4_6.out D7.out)
    have B7 := Lib.hid (below_at B6.out D7.out)
    have hs7 : v6.heap.size ≤ v7.heap.size := (D7.out).size
    go_wp2_with fail
    refine (eqR_same _ _ _ _ _ _ _ z0 _ HI0.out.len (by omega) O4_7.out O7.out).mono ?_
    rintro e v8 ⟨rfl, hb8⟩
    have D8 := Lib.hid hb8
    clear hb8
    have X8 := Lib.hid (X7.out.below D8.out)
    have O4_8 := Lib.hid (owns_over O4_7.out D8.out)
    have O7_8 := Lib.hid (owns_over O7.out D8.out)
    have B8 := Lib.hid (below_at B7.out D8.out)
    have hs8 : v7.heap.size ≤ v8.heap.size := (D8.out).size
    go_wp2_with fail
    go_ret
    exact ⟨rfl, B8.out⟩
  · have hb : 1048576 < len0 := by omega
    clear q0 hbig HI0
    go_enter Try.func10, Try.ntmps10
    go_wp2_with fail
    refine (szR_any _ _ _ _ (by omega)).mono ?_
    rw [if_neg (show ¬ (len0 : Int) ≤ 1048576 by omega)]
    rintro e v0 ⟨rfl, rfl⟩
    go_wp2_with fail
    go_ret
    exact ⟨rfl, (Below.refl _ _).alloc (Nat.le_refl _) _⟩
end Go.Proofs.Ytbgljjmmominbaa
