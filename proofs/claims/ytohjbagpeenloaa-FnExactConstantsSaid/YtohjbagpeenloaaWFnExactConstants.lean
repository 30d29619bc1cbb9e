/- The walk of FnExactConstants. -/
import Derived.Test.YtohjbagpeenloaaRow
import Derived.Test.YtohjbagpeenloaaHash
namespace Go.Proofs.Ytohjbagpeenloaa
set_option linter.unusedVariables false
open Go.RowKit Pl
def True_ (w : World) (e : Ending) (w' : World) : Prop := e = .returned (.bool true) ∧ Below w.heap.size w w'
theorem walkFnExactConstants (w : World) : Calls Try.prog 3 #[] w (True_ w) := by
  go_enter Try.func3, Try.ntmps3
  go_wp2_with (first | (fail))
  go_ret
  exact ⟨rfl, Below.refl _ _⟩
end Go.Proofs.Ytohjbagpeenloaa
