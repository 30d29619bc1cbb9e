/- The walk of FnExactEntLeaf. -/
import Derived.Test.YtbgljjmmominbaaEx
import Derived.Test.YtbgljjmmominbaaLeafB
namespace Go.Proofs.Ytbgljjmmominbaa
set_option linter.unusedVariables false
open Go.RowKit Pl
theorem walkFnExactEntLeaf (a0k a0t a0u a0p : Int) (w : World) (w0 : (Lit.int .i64 a0k).wf = true ∧ (Lit.int .i64 a0t).wf = true ∧ (Lit.int .i64 a0u).wf = true ∧ (Lit.int .i64 a0p).wf = true) : Calls Try.prog 3 #[.agg #[.int .i64 a0k, .int .i64 a0t, .int .i64 a0u, .int .i64 a0p]] w (True_ w) := by
  go_enter Try.func3, Try.ntmps3
  go_wp2_with fail
  refine (toEntEntry_any _ _ _ _ _).mono ?_
  rintro e w1 ⟨rfl, h1⟩
  have D1 := Lib.hid h1
  obtain ⟨c0, c1, c2, c3⟩ := kept4 h1
  clear h1
  go_wp2_with fail
  refine (sEntLeaf_any _ _ _ _ _).mono ?_
  rintro e w2 ⟨rfl, h2⟩
  have D2 := Lib.hid (below_on D1.out (Nat.le_refl _) h2)
  clear c0 c1 c2 c3
  obtain ⟨c0, c1, c2, c3⟩ := kept4 D2.out
  clear h2
  go_wp2_with fail
  refine (toEntEntry_any _ _ _ _ _).mono ?_
  rintro e w3 ⟨rfl, h3⟩
  have D3 := Lib.hid (below_on D2.out (Nat.le_refl _) h3)
  clear h3 c0 c1 c2 c3
  go_wp2_with fail
  refine (EntLeaf_any _ _ _ _ _).mono ?_
  rintro e w4 ⟨rfl, h4⟩
  have D4 := Lib.hid (below_on D3.out (Nat.le_refl _) h4)
  clear h4
  go_wp2_with fail
  go_ret
  exact ⟨rfl, ((Below.refl _ _).alloc (Nat.le_refl _) _).trans (D4.out.mono (by simp))⟩
end Go.Proofs.Ytbgljjmmominbaa
