/- The walk of FnExactConCheck. -/
import Derived.Test.YtjacddjmconfaaaEx
import Derived.Test.YtjacddjmconfaaaCon
namespace Go.Proofs.Ytjacddjmconfaaa
set_option linter.unusedVariables false
open Go.RowKit Pl
set_option maxHeartbeats 1000000 in
theorem walkFnExactConCheck (a0 : Int) (a1 : Int) (a2 : Int) (a3 : Int) (a4 : Option Addr) (len4 cap4 : Nat) (z4 : List Int) (w : World) (w0 : (Lit.int .i64 a0).wf = true) (w1 : (Lit.int .i64 a1).wf = true) (w2 : (Lit.int .i64 a2).wf = true) (w3 : (Lit.int .i64 a3).wf = true) (w4 : InK .i64 w a4 len4 cap4 z4) : Calls Try.prog 7 #[.int .i64 a0, .int .i64 a1, .int .i64 a2, .int .i64 a3, .slice a4 len4 cap4] w (True_ w) := by
  have hlen : len4 ≤ 9223372036854775807 := by have := w4.cap; have := w4.top; unfold maxLen at this; omega
  by_cases hbig : len4 ≤ 1048576
  · have HI := Lib.hid w4
    clear w4
    go_enter Try.func7, Try.ntmps7
    go_wp2_with fail
    refine (copy_any _ _ _ _ _ _ HI.out (Below.refl _ _) (by omega)).mono ?_
    rintro e w1 ⟨A1, c1, rfl, hc1⟩
    have C1 := Lib.hid hc1
    have B1 := Lib.hid hc1.below
    clear hc1
    go_wp2_with fail
    refine (sConCheck_any _ a0 a1 a2 a3 _ _ _ z4 _ HI.out.len C1.out.cap (by omega) C1.out.reads).mono ?_
    rintro e w2 ⟨rfl, d2, rfl⟩
    have B2 := Lib.hid (below_drewN B1.out d2)
    go_wp2_with fail
    refine (copy_any _ _ _ _ _ _ HI.out B2.out (by omega)).mono ?_
    rintro e w3 ⟨A3, c3, rfl, hc3⟩
    have C3 := Lib.hid hc3
    have B3 := Lib.hid (below_on B2.out (Nat.le_refl _) hc3.below)
    clear hc3
    go_wp2_with fail
    refine (ConCheck_any _ a0 a1 a2 a3 _ _ _ z4 _ HI.out.len C3.out.cap (by omega) C3.out.reads).mono ?_
    rintro e w4 ⟨rfl, hb4⟩
    have B4 := Lib.hid (below_on B3.out (Nat.le_refl _) hb4)
    go_wp2_with fail
    refine (copy_any _ _ _ _ _ _ HI.out B4.out (by omega)).mono ?_
    rintro e w5 ⟨A5, c5, rfl, hc5⟩
    have C5 := Lib.hid hc5
    have B5 := Lib.hid (below_on B4.out (Nat.le_refl _) hc5.below)
    have R5 := Lib.hid (RK.below (C3.out.reads.below hb4) hc5.below)
    clear hc5
    go_wp2_with fail
    refine (eqIntS_same _ _ _ _ _ _ _ z4 _ HI.out.len (by omega) R5.out C5.out.reads).mono ?_
    rintro e w6 ⟨rfl, d6, rfl⟩
    go_wp2_with fail
    go_ret
    exact ⟨rfl, below_drewN B5.out d6⟩
  · have hb : 1048576 < len4 := by omega
    clear w4 hbig
    go_enter Try.func7, Try.ntmps7
    go_wp2_with fail
    go_ret
    exact ⟨rfl, Below.refl _ _⟩
end Go.Proofs.Ytjacddjmconfaaa
