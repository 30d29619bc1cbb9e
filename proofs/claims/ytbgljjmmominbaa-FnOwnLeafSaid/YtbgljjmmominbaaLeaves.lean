/- Contracts: leaves drawn (reference, layer 20). -/
import Derived.Test.YtbgljjmmominbaaOpen
namespace Go.Proofs.Ytbgljjmmominbaa
set_option linter.unusedVariables false
open Go.RowKit Pl

theorem mem_rng {l : List Int} {z lo hi : Int} (h : z ∈ l) (hl : ∀ x ∈ l, lo ≤ x ∧ x ≤ hi) : lo ≤ z ∧ z ≤ hi := hl z h

/-- after some rounds: a row of the call's own with n numbers, and what the reader has read -/
structure Grew (w : World) (g B P : Nat) (w' : World) (A : Option Addr) (n c : Nat) (ys : List Int) : Prop where
  own : OwnI w' B A n c ys
  len : ys.length = n
  rd : Rd w' g P
  grown : w.grownBy w' (some g)
  size : B ≤ w'.heap.size
theorem Grew.start {w w' : World} {g P : Nat} (hr : Rd w' g P) (hg : w.grownBy w' (some g)) : Grew w g w.heap.size P (w'.alloc (.cells #[] 3)) (some ⟨w'.heap.size, 0, none⟩) 0 0 [] :=
  ⟨own_lit w' _ [] _ hg.size rfl (by decide), rfl, hr.alloc _, grownBy_alloc hg _, by have := hg.size; simp; omega⟩
theorem Grew.read {w w1 w2 : World} {g B P Q n c : Nat} {A : Option Addr} {ys : List Int} (h : Grew w g B P w1 A n c ys) (hr : Rd w2 g Q) (hg : w1.grownBy w2 (some g)) (hB : g < B) : Grew w g B Q w2 A n c ys :=
  ⟨own_kept h.own hg hB, h.len, hr, grownBy_trans h.grown hg, by have := h.size; have := hg.size; omega⟩
theorem Grew.alloc {w w1 : World} {g B P n c : Nat} {A : Option Addr} {ys : List Int} (h : Grew w g B P w1 A n c ys) (o : Obj) : Grew w g B P (w1.alloc o) A n c ys :=
  ⟨World.ownsRow.alloc h.own o, h.len, h.rd.alloc o, grownBy_alloc h.grown o, by have := h.size; simp; omega⟩
theorem Grew.push {w w1 w2 : World} {g B P n c n' c' : Nat} {A A' : Option Addr} {ys ys' : List Int} (h : Grew w g B P w1 A n c ys) (ho : OwnI w2 B A' n' c' ys') (hl : ys'.length = n') (hb : Below B w1 w2) (hg : g < B) (hB : w.heap.size ≤ B) : Grew w g B P w2 A' n' c' ys' :=
  ⟨ho, hl, h.rd.below hb hg, grownBy_below h.grown hb hB, by have := h.size; have := hb.size; omega⟩
theorem Grew.more {w w1 : World} {g B P Q n c : Nat} {A : Option Addr} {ys : List Int} (h : Grew w g B P w1 A n c ys) (hP : P ≤ Q) : Grew w g B Q w1 A n c ys := ⟨h.own, h.len, h.rd.more hP, h.grown, h.size⟩

end Go.Proofs.Ytbgljjmmominbaa
