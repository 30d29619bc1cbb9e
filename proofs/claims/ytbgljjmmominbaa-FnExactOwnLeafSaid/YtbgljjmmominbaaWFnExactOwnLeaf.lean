/- The walk of FnExactOwnLeaf. -/
import Derived.Test.YtbgljjmmominbaaEx
import Derived.Test.YtbgljjmmominbaaLeafB
namespace Go.Proofs.Ytbgljjmmominbaa
set_option linter.unusedVariables false
open Go.RowKit Pl
theorem walkFnExactOwnLeaf (a0 a1u a1f : Int) (a1b : Bool) (w : World) (w0 : (Lit.int .i64 a0).wf = true) (w1 : (Lit.int .i64 a1u).wf = true ∧ (Lit.int .i64 a1f).wf = true) : Calls Try.prog 4 #[.int .i64 a0, .agg #[.int .i64 a1u, .int .i64 a1f, .bool a1b]] w (True_ w) := by
  go_enter Try.func4, Try.ntmps4
  go_wp2_with fail
  refine (toOwnRow_any _ _ _ _).mono ?_
  rintro e w1 ⟨rfl, h1⟩
  have D1 := Lib.hid h1
  obtain ⟨c0, c1, c2⟩ := kept3 h1
  clear h1
  go_wp2_with fail
  refine (sOwnLeaf_any _ _ _ _ _).mono ?_
  rintro e w2 ⟨rfl, h2⟩
  have D2 := Lib.hid (below_on D1.out (Nat.le_refl _) h2)
  clear c0 c1 c2
  obtain ⟨c0, c1, c2⟩ := kept3 D2.out
  clear h2
  go_wp2_with fail
  refine (toOwnRow_any _ _ _ _).mono ?_
  rintro e w3 ⟨rfl, h3⟩
  have D3 := Lib.hid (below_on D2.out (Nat.le_refl _) h3)
  clear h3 c0 c1 c2
  go_wp2_with fail
  refine (OwnLeaf_any _ _ _ _ _).mono ?_
  rintro e w4 ⟨rfl, h4⟩
  have D4 := Lib.hid (below_on D3.out (Nat.le_refl _) h4)
  clear h4
  go_wp2_with fail
  go_ret
  exact ⟨rfl, ((Below.refl _ _).alloc (Nat.le_refl _) _).trans (D4.out.mono (by simp))⟩
end Go.Proofs.Ytbgljjmmominbaa
