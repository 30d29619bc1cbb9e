/- An entry that came in by value, boxed: its cells while other memory turns. -/
import Derived.Test.YtbgljjmmominbaaStr
import Derived.Test.YtbgljjmmominbaaKeep
namespace Go.Proofs.Ytbgljjmmominbaa
set_option linter.unusedVariables false
open Go.RowKit
structure Box (H : Nat) (w : World) (k t u p : Int) : Prop where
  c1 : w.cell? ⟨H, 0, none⟩ = some (.int .i64 k)
  c2 : w.cell? ⟨H, 1, none⟩ = some (.int .i64 t)
  c3 : w.cell? ⟨H, 2, none⟩ = some (.int .i64 u)
  c4 : w.cell? ⟨H, 3, none⟩ = some (.int .i64 p)
  lt : H < w.heap.size
theorem Box.cells {H : Nat} {w : World} {k t u p : Int} (h : Box H w k t u p) : w.cell? ⟨H, 0, none⟩ = some (.int .i64 k) ∧ w.cell? ⟨H, 1, none⟩ = some (.int .i64 t) ∧ w.cell? ⟨H, 2, none⟩ = some (.int .i64 u) ∧ w.cell? ⟨H, 3, none⟩ = some (.int .i64 p) := ⟨h.c1, h.c2, h.c3, h.c4⟩
theorem Box.new (w : World) (k t u p : Int) (T : TypeId) : Box w.heap.size (w.alloc (.cells #[.int .i64 k, .int .i64 t, .int .i64 u, .int .i64 p] T)) k t u p := by
  have hn := heap_alloc_new w (.cells #[.int .i64 k, .int .i64 t, .int .i64 u, .int .i64 p] T)
  refine ⟨?_, ?_, ?_, ?_, by simp⟩
  all_goals
    rw [cell_of_row _ _ _ _ _ _ hn]; rfl
theorem Box.below {H : Nat} {w w' : World} {k t u p : Int} (h : Box H w k t u p) (hb : Below w.heap.size w w') : Box H w' k t u p :=
  ⟨(hb.cell (p := ⟨H, 0, none⟩) h.lt).trans h.c1, (hb.cell (p := ⟨H, 1, none⟩) h.lt).trans h.c2, (hb.cell (p := ⟨H, 2, none⟩) h.lt).trans h.c3, (hb.cell (p := ⟨H, 3, none⟩) h.lt).trans h.c4, Nat.lt_of_lt_of_le h.lt hb.size⟩
theorem Box.apart {H c d : Nat} {w w' : World} {v : Value} {k t u p : Int} (h : Box H w k t u p) (hg : w.grownBy w' v.ownBlock) (hv : Lies v c d) (hd : H < c) : Box H w' k t u p := by
  have hne : some H ≠ v.ownBlock := fun e => by have := hv H e.symm; omega
  exact ⟨(hg.cell_far ⟨H, 0, none⟩ h.lt hne).trans h.c1, (hg.cell_far ⟨H, 1, none⟩ h.lt hne).trans h.c2, (hg.cell_far ⟨H, 2, none⟩ h.lt hne).trans h.c3, (hg.cell_far ⟨H, 3, none⟩ h.lt hne).trans h.c4, Nat.lt_of_lt_of_le h.lt hg.size⟩
end Go.Proofs.Ytbgljjmmominbaa
