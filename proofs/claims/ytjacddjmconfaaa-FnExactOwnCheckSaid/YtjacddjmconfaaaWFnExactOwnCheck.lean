/- The walk of FnExactOwnCheck. -/
import Derived.Test.YtjacddjmconfaaaEx
import Derived.Test.YtjacddjmconfaaaOwnChk
namespace Go.Proofs.Ytjacddjmconfaaa
set_option linter.unusedVariables false
open Go.RowKit Pl
set_option maxHeartbeats 1000000 in
theorem walkFnExactOwnCheck (a0 a1 a2u a2f : Int) (a2b : Bool) (a3 : Option Addr) (len3 cap3 : Nat) (z3 : List Int) (w : World) (w0 : (Lit.int .i64 a0).wf = true) (w1 : (Lit.int .i64 a1).wf = true) (w2 : (Lit.int .i64 a2u).wf = true ∧ (Lit.int .i64 a2f).wf = true) (w3 : InK .i64 w a3 len3 cap3 z3) :
    Calls Try.prog 12 #[.int .i64 a0, .int .i64 a1, .agg #[.int .i64 a2u, .int .i64 a2f, .bool a2b], .slice a3 len3 cap3] w (True_ w) := by
  have hlen : len3 ≤ 9223372036854775807 := by have := w3.cap; have := w3.top; unfold maxLen at this; omega
  clear w0 w1 w2
  by_cases hbig : len3 ≤ 1048576
  · have HI := Lib.hid w3
    clear w3
    have B0 : Hid (Below w.heap.size w (w.alloc (.cells #[.int .i64 a2u, .int .i64 a2f, .bool a2b] 37))) := Lib.hid ((Below.refl _ _).alloc (Nat.le_refl _) _)
    go_enter Try.func12, Try.ntmps12
    go_wp2_with fail
    refine (toOwnRow_any _ _ _ _).mono ?_
    rintro e w1 ⟨rfl, h1⟩
    have D1 := Lib.hid h1
    have B1 := Lib.hid (B0.out.trans (h1.mono (by simp)))
    clear h1
    go_wp2_with fail
    refine (copy_any _ _ _ _ _ _ HI.out B1.out (by omega)).mono ?_
    rintro e w2 ⟨A2, c2, rfl, hc2⟩
    have C2 := Lib.hid hc2
    have D2 := Lib.hid (below_on D1.out (Nat.le_refl _) hc2.below)
    have B2 := Lib.hid (below_on B1.out (Nat.le_refl _) hc2.below)
    clear hc2
    go_wp2_with fail
    refine (sOwnCheck_any _ _ _ _ _ _ _ _ _ z3 _ HI.out.len C2.out.cap (by omega) C2.out.reads).mono ?_
    rintro e w3 ⟨rfl, h3⟩
    have D3 := Lib.hid (below_on D2.out (Nat.le_refl _) h3)
    have B3 := Lib.hid (below_on B2.out (Nat.le_refl _) h3)
    clear h3
    go_wp2_with fail
    refine (copy_any _ _ _ _ _ _ HI.out B3.out (by omega)).mono ?_
    rintro e w4 ⟨A4, c4, rfl, hc4⟩
    have C4 := Lib.hid hc4
    have D4 := Lib.hid (below_on D3.out (Nat.le_refl _) hc4.below)
    have B4 := Lib.hid (below_on B3.out (Nat.le_refl _) hc4.below)
    clear hc4
    obtain ⟨c0, c1, c2⟩ := kept3 D4.out
    go_wp2_with fail
    refine (toOwnRow_any _ _ _ _).mono ?_
    rintro e w5 ⟨rfl, h5⟩
    have R5 := Lib.hid (C4.out.reads.below h5)
    have B5 := Lib.hid (below_on B4.out (Nat.le_refl _) h5)
    clear c0 c1 c2
    go_wp2_with fail
    refine (OwnCheck_any _ _ _ _ _ _ _ _ _ z3 _ HI.out.len C4.out.cap (by omega) R5.out).mono ?_
    rintro e w6 ⟨rfl, h6⟩
    have R6 := Lib.hid (R5.out.below h6)
    have B6 := Lib.hid (below_on B5.out (Nat.le_refl _) h6)
    clear h5 h6
    go_wp2_with fail
    refine (copy_any _ _ _ _ _ _ HI.out B6.out (by omega)).mono ?_
    rintro e w7 ⟨A7, c7, rfl, hc7⟩
    have C7 := Lib.hid hc7
    have B7 := Lib.hid (below_on B6.out (Nat.le_refl _) hc7.below)
    have R7 := Lib.hid (R6.out.below hc7.below)
    clear hc7
    go_wp2_with fail
    refine (eqIntS_same _ _ _ _ _ _ _ z3 _ HI.out.len (by omega) R7.out C7.out.reads).mono ?_
    rintro e w8 ⟨rfl, d8, rfl⟩
    go_wp2_with fail
    go_ret
    exact ⟨rfl, below_drewN B7.out d8⟩
  · have hb : 1048576 < len3 := by omega
    clear w3 hbig
    go_enter Try.func12, Try.ntmps12
    go_wp2_with fail
    go_ret
    exact ⟨rfl, by go_grown⟩
end Go.Proofs.Ytjacddjmconfaaa
