/- The walk of FnExactOwnOk. -/
import Derived.Test.YtbgljjmmominbaaEx3
import Derived.Test.YtbgljjmmominbaaRowsOk
namespace Go.Proofs.Ytbgljjmmominbaa
set_option linter.unusedVariables false
open Go.RowKit Pl
set_option maxHeartbeats 8000000 in
theorem walkFnExactOwnOk (a0 : Option Addr) (len0 cap0 : Nat) (z0 : List Orow) (w : World) (q0 : InR w a0 len0 cap0 z0) : Calls Try.prog 6 #[.slice a0 len0 cap0] w (True_ w) := by
  have hlen0 : len0 ≤ 9223372036854775807 := by have := q0.cap; have := q0.top; unfold maxLen at this; omega
  have HI0 := Lib.hid q0
  by_cases hbig : len0 ≤ 1048576
  · have hbig0 := hbig
    clear q0
    have B0 := Lib.hid (Below.refl w.heap.size w)
    go_enter Try.func6, Try.ntmps6
    go_wp2_with fail
    refine (szR_any _ _ _ _ (by omega)).mono ?_
    rw [if_pos (show (len0 : Int) ≤ 1048576 by omega)]
    rintro e v0 ⟨rfl, rfl⟩
    go_wp2_with fail
    refine (copyR_any _ _ _ _ _ _ HI0.out B0.out (by omega)).mono ?_
    rintro e v1 ⟨A1, c1, rfl, hc1, ho1, hb1⟩
    have D1 := Lib.hid hb1
    have O1 := Lib.hid ho1
    have Y1 := Lib.hid (lies_of ho1)
    clear hb1 ho1
    have B1 := Lib.hid (below_at B0.out D1.out)
    have hs1 : w.heap.size ≤ v1.heap.size := (D1.out).size
    go_wp2_with fail
    refine (sOwnOk_any _ _ _ 0 z0 _ HI0.out.len ((RV.of_own O1.out).less (Nat.zero_le _)) (by omega)).mono ?_
    rintro e v2 ⟨rfl, hb2⟩
    have D2 := Lib.hid hb2
    clear hb2
    have O1_2 := Lib.hid (owns_over O1.out D2.out)
    have B2 := Lib.hid (below_at B1.out D2.out)
    have hs2 : v1.heap.size ≤ v2.heap.size := (D2.out).size
    go_wp2_with fail
    refine (copyR_any _ _ _ _ _ _ HI0.out B2.out (by omega)).mono ?_
    rintro e v3 ⟨A3, c3, rfl, hc3, ho3, hb3⟩
    have D3 := Lib.hid hb3
    have O3 := Lib.hid ho3
    have Y3 := Lib.hid (lies_of ho3)
    clear hb3 ho3
    have B3 := Lib.hid (below_at B2.out D3.out)
    have hs3 : v2.heap.size ≤ v3.heap.size := (D3.out).size
    go_wp2_with fail
    refine (OwnOk_any _ _ _ 0 z0 _ HI0.out.len ((RV.of_own O3.out).less (Nat.zero_le _)) (by omega)).mono ?_
    rintro e v4 ⟨rfl, hb4⟩
    have D4 := Lib.hid hb4
    clear hb4
    have O3_4 := Lib.hid (owns_over O3.out D4.out)
    have B4 := Lib.hid (below_at B3.out D4.out)
    have hs4 : v3.heap.size ≤ v4.heap.size := (D4.out).size
    go_wp2_with fail
    refine (copyR_any _ _ _ _ _ _ HI0.out B4.out (by omega)).mono ?_
    rintro e v5 ⟨A5, c5, rfl, hc5, ho5, hb5⟩
    have D5 := Lib.hid hb5
    have O5 := Lib.hid ho5
    have Y5 := Lib.hid (lies_of ho5)
    clear hb5 ho5
    have O3_5 := Lib.hid (owns_over O3_4.out D5.out)
    have B5 := Lib.hid (below_at B4.out D5.out)
    have hs5 : v4.heap.size ≤ v5.heap.size := (D5.out).size
    go_wp2_with fail
    refine (eqR_same _ _ _ _ _ _ _ z0 _ HI0.out.len (by omega) O3_5.out O5.out).mono ?_
    rintro e v6 ⟨rfl, hb6⟩
    have D6 := Lib.hid hb6
    clear hb6
    have O3_6 := Lib.hid (owns_over O3_5.out D6.out)
    have O5_6 := Lib.hid (owns_over O5.out D6.out)
    have B6 := Lib.hid (below_at B5.out D6.out)
    have hs6 : v5.heap.size ≤ v6.heap.size := (D6.out).size
    go_wp2_with fail
    go_ret
    exact ⟨rfl, B6.out⟩
  · have hb : 1048576 < len0 := by omega
    clear q0 hbig HI0
    go_enter Try.func6, Try.ntmps6
    go_wp2_with fail
    refine (szR_any _ _ _ _ (by omega)).mono ?_
    rw [if_neg (show ¬ (len0 : Int) ≤ 1048576 by omega)]
    rintro e v0 ⟨rfl, rfl⟩
    go_wp2_with fail
    go_ret
    exact ⟨rfl, Below.refl _ _⟩
end Go.Proofs.Ytbgljjmmominbaa
