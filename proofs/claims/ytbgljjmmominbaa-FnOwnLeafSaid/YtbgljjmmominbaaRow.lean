/- What a row's proof stands on: arguments that came in, opened. No function of the program in sight. -/
import Derived.Test.YtbgljjmmominbaaRows
import Derived.WalkKit
import Derived.ProofKit
import Derived.OpenShut
import Derived.ShutString
import Derived.ChangeOld
import Derived.Below
import Derived.Test.YtbgljjmmominbaaMem
namespace Go.Proofs.Ytbgljjmmominbaa
open Go.ChangeShapes Go.WideShapes Go.ChangeAt Go.RowKit
set_option linter.unusedVariables false

theorem own : ownKnob Try.prog.godebug = none := by kernel_rfl
theorem laidOut : laidOutB Try.prog = true := by kernel_rfl

/-- A slice of numbers that came in: it reads as xs, each fitting its kind. -/
structure InK (k : IntKind) (w : World) (A : Option Addr) (n c : Nat) (xs : List Int) : Prop where
  len : xs.length = n
  cap : n ≤ c
  top : c ≤ maxLen
  reads : RK k w 0 A xs
  wf : ∀ j, j < n → (Lit.int k (xs.getD j 0)).wf = true
theorem inK_nil (k : IntKind) (w : World) : InK k w none 0 0 [] := ⟨rfl, Nat.le_refl _, by unfold maxLen; omega, RK.nil, fun j h => by omega⟩
theorem inK_of {k : IntKind} {w : World} {x : Addr} {l c : Nat} {zs : List Int} (hl : l ≤ c) (hm : c ≤ maxLen) (hz : zs.length = c)
    (hcell : ∀ i, i < zs.length → w.cell? (x.add i) = some (.int k (zs.getD i 0))) (hwz : ∀ n ∈ zs, (Lit.int k n).wf = true) : InK k w (some x) l c (zs.take l) := by
  refine ⟨by simp; omega, hl, hm, fun hp => ?_, fun j hj => ?_⟩
  · have hp' : 0 < l ∧ 0 < zs.length := by simp at hp; omega
    have h0 := hcell 0 hp'.2
    obtain ⟨b, o, s⟩ := x
    have hs : s = none := by simpa [Addr.add] using World.cell?_spot h0
    subst hs
    refine ⟨b, o, rfl, Nat.zero_le _, World.block_lt_of_cell? _ (a := ⟨b, o, none⟩) (by simpa [Addr.add] using h0), fun j hj => ?_⟩
    have hjl : j < l := by simp at hj; omega
    have hjz : j < zs.length := by omega
    have h1 := hcell j hjz
    have e : (⟨b, o, none⟩ : Addr).add j = ⟨b, o + j, none⟩ := by unfold Addr.add; split <;> simp_all
    rw [e] at h1
    rw [h1]
    simp [List.getD, hjl]
  · have hjz : j < zs.length := by omega
    have e : (zs.take l).getD j 0 = zs[j] := by simp [List.getD, hj, hjz]
    rw [e]
    exact hwz _ (List.getElem_mem _)
theorem InK.below {k : IntKind} {w w' : World} {A : Option Addr} {n c : Nat} {xs : List Int} (h : InK k w A n c xs) (hb : Below w.heap.size w w') : InK k w' A n c xs := ⟨h.len, h.cap, h.top, h.reads.below hb, h.wf⟩
end Go.Proofs.Ytbgljjmmominbaa
