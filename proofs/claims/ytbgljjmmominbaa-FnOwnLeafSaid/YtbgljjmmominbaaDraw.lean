/- Contracts: small draws (reference, layer 20). -/
import Derived.Test.YtbgljjmmominbaaRead
namespace Go.Proofs.Ytbgljjmmominbaa
set_option linter.unusedVariables false
open Go.RowKit Pl

/-- a table of numbers that the call itself has laid, read at some place -/
theorem table_at (l : List Int) (cs : Array Value) (hcs : cs = (l.map (Value.int .i64)).toArray) {w : World} {H : Nat} {v : Nat} (h : w.heap[H]? = some (.cells cs 3 (0, 0))) (hv : v < l.length) :
    ∃ z : Int, w.cell? ⟨H, v, none⟩ = some (.int .i64 z) ∧ z ∈ l := by
  subst hcs
  refine ⟨l[v], ?_, List.getElem_mem _⟩
  rw [cell_of_row w H v _ _ _ h]
  simp [hv]
theorem new_block (w : World) (o : Obj) : (w.alloc o).heap[w.heap.size]? = some o := heap_alloc_new w o
theorem block_kept {w w' : World} {g H : Nat} {o : Obj} (h : w.heap[H]? = some o) (hg : w.grownBy w' (some g)) (hne : H ≠ g) : w'.heap[H]? = some o :=
  (hg.block H (Array.getElem?_eq_some_iff.1 h).1 (by simpa using hne)).trans h

/-- a bool, and what has been read -/
def OddRes (w : World) (g P : Nat) (e : Ending) (w' : World) : Prop := ∃ b : Bool, e = .returned (.bool b) ∧ Rd w' g (P + 1) ∧ w.grownBy w' (some g)
theorem odd_any (w : World) (g P : Nat) (n : Int) (h : Rd w g P) (hP : P ≤ 1000000) (hn : n ≤ 1000000) (hn0 : 0 ≤ n) : Calls Try.prog 91 #[.pointer (some ⟨g, 0, none⟩), .int .i64 n] w (OddRes w g P) := by
  go_enter Try.func91, Try.ntmps91
  go_wp2_with (go_at_call 82; refine (pick_any _ g P _ h hP (by omega)).mono ?_; rintro e w1 ⟨v, rfl, hv1, hv2, hr, hg⟩)
  go_ret
  exact ⟨_, rfl, hr, hg⟩

/-- a number, whichever; and what has been read -/
def MixRes (w : World) (g P : Nat) (e : Ending) (w' : World) : Prop := ∃ v : Int, e = .returned (.int .i64 v) ∧ Rd w' g (P + 4) ∧ w.grownBy w' (some g)
end Go.Proofs.Ytbgljjmmominbaa
