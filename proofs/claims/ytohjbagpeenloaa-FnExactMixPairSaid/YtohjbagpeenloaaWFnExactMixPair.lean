/- The walk of FnExactMixPair. -/
import Derived.Test.YtohjbagpeenloaaRow
import Derived.Test.YtohjbagpeenloaaHash
namespace Go.Proofs.Ytohjbagpeenloaa
set_option linter.unusedVariables false
open Go.RowKit Pl
def True_ (w : World) (e : Ending) (w' : World) : Prop := e = .returned (.bool true) ∧ Below w.heap.size w w'
theorem walkFnExactMixPair (a0 a1 : Int) (w : World) (w0 : (Lit.int .i64 a0).wf = true) (w1 : (Lit.int .i64 a1).wf = true) : Calls Try.prog 6 #[.int .i64 a0, .int .i64 a1] w (True_ w) := by
  go_enter Try.func6, Try.ntmps6
  go_wp2_with (first | (go_at_call 14; refine (MixPair_any _ _ _).mono ?_; rintro e w' ⟨rfl, rfl⟩) | (go_at_call 13; refine (sMixPair_any _ _ _).mono ?_; rintro e w' ⟨rfl, rfl⟩))
  go_ret
  exact ⟨rfl, Below.refl _ _⟩
end Go.Proofs.Ytohjbagpeenloaa
