/- Rows of the call's own, kept while other memory turns. -/
import Derived.Test.YtbgljjmmominbaaMem
namespace Go.Proofs.Ytbgljjmmominbaa
set_option linter.unusedVariables false
open Go.RowKit
section
variable {w w' : World} {base : Nat} {e : TypeId} {s : Nat} {v : Value} {n : Nat} {xs : List Value}
theorem owns_over (h : w.ownsRow base e s v n xs) (hb : Below w.heap.size w w') : w'.ownsRow base e s v n xs := by
  refine ⟨h.1, ?_⟩
  rcases h.2 with h1 | ⟨g, cap, cur, hv, hB, hg, hr⟩
  · exact .inl h1
  · refine .inr ⟨g, cap, cur, hv, hB, ?_, hr⟩
    rw [hb.block g (by
      rcases Nat.lt_or_ge g w.heap.size with hlt | hge
      · exact hlt
      · rw [Array.getElem?_eq_none hge] at hg; cases hg)]
    exact hg
/-- a row's block lies from lo on, below hi -/
def Lies (v : Value) (lo hi : Nat) : Prop := ∀ k, v.ownBlock = some k → lo ≤ k ∧ k < hi
theorem lies_of (h : w.ownsRow base e s v n xs) : Lies v base w.heap.size := fun k hk => World.ownsRow.lt h k hk
theorem owns_apart {u : Value} {a b c d : Nat} (h : w.ownsRow base e s v n xs) (hg : w.grownBy w' u.ownBlock) (hv : Lies v a b) (hu : Lies u c d) (hd : b ≤ c ∨ d ≤ a) : w'.ownsRow base e s v n xs :=
  World.ownsRow.kept h hg (by
    cases h1 : v.ownBlock with
    | none => exact .inl rfl
    | some k1 =>
      right
      cases h2 : u.ownBlock with
      | none => simp
      | some k2 =>
        have := hv k1 h1
        have := hu k2 h2
        simp; omega)
theorem below_row {u : Value} {W : World} {c d : Nat} (h : Below W.heap.size W w) (hg : w.grownBy w' u.ownBlock) (hu : Lies u c d) (hc : W.heap.size ≤ c) : Below W.heap.size W w' :=
  h.grown hg h.size (fun k hk => by have := hu k hk; omega)
theorem below_at {w a b : World} (h : Below w.heap.size w a) (k : Below a.heap.size a b) : Below w.heap.size w b := h.trans (k.mono h.size)
end
end Go.Proofs.Ytbgljjmmominbaa
