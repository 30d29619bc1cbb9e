/- Contracts: whether leaves are ok (program and reference). -/
import Derived.Test.YtbgljjmmominbaaLeaf
namespace Go.Proofs.Ytbgljjmmominbaa
set_option linter.unusedVariables false
open Go.RowKit Pl

/-- the first leaf that is not ok -/
def BadAt (xs : List Int) (w : World) (e : Ending) (w' : World) : Prop := ∃ r : Int, 0 ≤ r ∧ e = .returned (.int .i64 r) ∧ w = w'

theorem okL_all {xs : List Int} (h : okL xs = true) : ∀ j, j < xs.length → okI (xs.getD j 0) = true := fun j hj => by
  refine (okL_iff.1 h).2 _ ?_
  simp [List.getD, List.getElem?_eq_getElem hj]
theorem okL_bad {xs : List Int} (h : okL xs = false) (hl : xs.length ≤ 40) : ∃ j, j < xs.length ∧ okI (xs.getD j 0) = false := by
  apply Classical.byContradiction
  intro hno
  have : okL xs = true := okL_iff.2 ⟨hl, fun x hx => by
    obtain ⟨j, hj, rfl⟩ := List.getElem_of_mem hx
    cases e : okI xs[j]
    · exact absurd ⟨j, hj, by simpa [List.getD, List.getElem?_eq_getElem hj] using e⟩ hno
    · rfl⟩
  rw [h] at this
  cases this

end Go.Proofs.Ytbgljjmmominbaa
