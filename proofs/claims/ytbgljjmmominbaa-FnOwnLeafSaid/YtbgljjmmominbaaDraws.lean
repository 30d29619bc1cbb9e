/- Contracts: what the laws draw (reference, layer 20), the simple ones. -/
import Derived.Test.YtbgljjmmominbaaLeaves
namespace Go.Proofs.Ytbgljjmmominbaa
set_option linter.unusedVariables false
open Go.RowKit Pl

/-- a number, whichever -/
def AnyNum (w : World) (e : Ending) (w' : World) : Prop := ∃ v : Int, e = .returned (.int .i64 v) ∧ Below w.heap.size w w'
/-- two numbers, whichever -/
def TwoNums (w : World) (e : Ending) (w' : World) : Prop := ∃ u v : Int, e = .returned (.tuple #[.int .i64 u, .int .i64 v]) ∧ Below w.heap.size w w'
/-- numbers in new memory -/
structure List_ (w w' : World) (A : Option Addr) (n c : Nat) (xs : List Int) : Prop where
  len : xs.length = n
  few : n ≤ 100
  cap : n ≤ c
  reads : RI w' w.heap.size A xs
  below : Below w.heap.size w w'
def ListRes (w : World) (e : Ending) (w' : World) : Prop := ∃ A n c xs, e = .returned (.slice A n c) ∧ List_ w w' A n c xs
/-- numbers in new memory, and one number from lo on, hi at most -/
def ListNum (w : World) (lo hi : Int) (e : Ending) (w' : World) : Prop := ∃ (A : Option Addr) (n c : Nat) (xs : List Int) (i : Int), e = .returned (.tuple #[.slice A n c, .int .i64 i]) ∧ lo ≤ i ∧ i ≤ hi ∧ List_ w w' A n c xs

theorem list_of_leaves {w w1 w2 : World} {A : Option Addr} {n c : Nat} {xs : List Int} (hb1 : Below w.heap.size w w1) (hl : xs.length = n) (hn : n ≤ 100) (ho : OwnI w2 w1.heap.size A n c xs) (hg : w1.grownBy w2 (some w.heap.size)) : List_ w w2 A n c xs :=
  ⟨hl, hn, own_cap ho, (RK.of_own ho).less hb1.size, hb1.trans (below_of_grown hg hb1.size)⟩
theorem List_.read {w w1 w2 : World} {A : Option Addr} {n c : Nat} {xs : List Int} (h : List_ w w1 A n c xs) (hr : RI w2 w.heap.size A xs) (hb : Below w.heap.size w1 w2) : List_ w w2 A n c xs := ⟨h.len, h.few, h.cap, hr, h.below.trans hb⟩
end Go.Proofs.Ytbgljjmmominbaa
