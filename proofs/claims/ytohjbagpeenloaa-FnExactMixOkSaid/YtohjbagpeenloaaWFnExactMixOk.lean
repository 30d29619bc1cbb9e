/- The walk of FnExactMixOk. -/
import Derived.Test.YtohjbagpeenloaaRow
import Derived.Test.YtohjbagpeenloaaHash
namespace Go.Proofs.Ytohjbagpeenloaa
set_option linter.unusedVariables false
open Go.RowKit Pl
def True_ (w : World) (e : Ending) (w' : World) : Prop := e = .returned (.bool true) ∧ Below w.heap.size w w'
theorem walkFnExactMixOk (a0 : Int) (w : World) (w0 : (Lit.int .i64 a0).wf = true) : Calls Try.prog 4 #[.int .i64 a0] w (True_ w) := by
  go_enter Try.func4, Try.ntmps4
  go_wp2_with (first | (go_at_call 10; refine (MixOk_any _ _).mono ?_; rintro e w' ⟨rfl, rfl⟩) | (go_at_call 9; refine (sMixOk_any _ _).mono ?_; rintro e w' ⟨rfl, rfl⟩))
  go_ret
  exact ⟨rfl, Below.refl _ _⟩
end Go.Proofs.Ytohjbagpeenloaa
