/-
  No cell of these rows narrows 'for every input' (looked for: loops, veiled, ifaces, maps, wideKeys, modest, calm, conditions, laid).
  DERIVED. THE GIVEN ROWS OF THIS SEAT. 16 by the template 'for every input the law returns true; each argument reads behind the call as it read before'; 0 by the template 'total and deterministic' (their statements: YtbgljjmmominbaaTotals.lean).
  GIVEN WITH THE SEED: the statements are not yours to turn. If you find one false, say at which input.
  Laid BY PROGRAM, IN A SANDBOX (cutbox-rows.mjs): the forced cells as the released guide's own fill.sh prints them over the translation 7fff5186b52bf7db… (all of the seat's roots in one cut). By AI agents, Wed Nov 11 2026. No macro, syntax, notation, axiom, sorry.
-/
import Derived.Test.YtbgljjmmominbaaChecked
import GoSem.Claim
import GoSem.ClaimJoined
import GoSem.ClaimMapViews
import Derived.JoinedTies
import Derived.KernelRfl
namespace Go.Proofs.Ytbgljjmmominbaa
/- THE CELL 'sum', in the pinned program and in every row, IS THE sha256 OF THE DUMP (.gsa) THAT YtbgljjmmominbaaProg.lean LOADS. Nothing in Lean hashes anything: it is a label: what it is worth is what the hold of that sum in a sandbox is worth. -/
noncomputable def Try.pinned : Pinned := { name := "ytbgljjmmominbaa", sum := "7fff5186b52bf7db16d9df1af01db9927bb705cf9f5910f606e7577b1e4ed5cd", checked := Try.checked }
namespace Rows
def none {H : Type} : Left H := { results := [], args := [] }

/-- 'laws.FnExactEntLeaf': WHATEVER THE INPUT: true; the input reads as it did. -/
def fnExactEntLeafSpec : ChangeSpec := { name := "fnExactEntLeaf", fn := fun _ => fun
  | [d] => { results := [.lit (.bool true)], args := [d] }
  | _ => none }
def fnExactEntLeafRow : OpenClaim := { program := "ytbgljjmmominbaa", sum := "7fff5186b52bf7db16d9df1af01db9927bb705cf9f5910f606e7577b1e4ed5cd", func := "loop.example/stileway/laws.FnExactEntLeaf", spec := "fnExactEntLeaf", apart := false }
def FnExactEntLeafSaid : Prop := fnExactEntLeafRow.holds Try.pinned (OpenSpec.ofChange fnExactEntLeafSpec)

/-- ITS FALSE NEIGHBOUR: 'it returns false'. Refute it at one input. -/
def fnExactEntLeafWrong : ChangeSpec := { name := "fnExactEntLeaf", fn := fun _ => fun
  | [d] => { results := [.lit (.bool false)], args := [d] }
  | _ => none }
def FnExactEntLeafWrongFalsely : Prop := fnExactEntLeafRow.holds Try.pinned (OpenSpec.ofChange fnExactEntLeafWrong)

/-- 'laws.FnExactOwnLeaf': WHATEVER THE INPUT: true; the input reads as it did. -/
def fnExactOwnLeafSpec : ChangeSpec := { name := "fnExactOwnLeaf", fn := fun _ => fun
  | [d1, d2] => { results := [.lit (.bool true)], args := [d1, d2] }
  | _ => none }
def fnExactOwnLeafRow : OpenClaim := { program := "ytbgljjmmominbaa", sum := "7fff5186b52bf7db16d9df1af01db9927bb705cf9f5910f606e7577b1e4ed5cd", func := "loop.example/stileway/laws.FnExactOwnLeaf", spec := "fnExactOwnLeaf", apart := false }
def FnExactOwnLeafSaid : Prop := fnExactOwnLeafRow.holds Try.pinned (OpenSpec.ofChange fnExactOwnLeafSpec)

/-- ITS FALSE NEIGHBOUR: 'it returns false'. Refute it at one input. -/
def fnExactOwnLeafWrong : ChangeSpec := { name := "fnExactOwnLeaf", fn := fun _ => fun
  | [d1, d2] => { results := [.lit (.bool false)], args := [d1, d2] }
  | _ => none }
def FnExactOwnLeafWrongFalsely : Prop := fnExactOwnLeafRow.holds Try.pinned (OpenSpec.ofChange fnExactOwnLeafWrong)

/-- 'laws.FnExactOwnCount': WHATEVER THE INPUT: true; the input reads as it did. -/
def fnExactOwnCountSpec : ChangeSpec := { name := "fnExactOwnCount", fn := fun _ => fun
  | [d1, d2] => { results := [.lit (.bool true)], args := [d1, d2] }
  | _ => none }
def fnExactOwnCountRow : OpenClaim := { program := "ytbgljjmmominbaa", sum := "7fff5186b52bf7db16d9df1af01db9927bb705cf9f5910f606e7577b1e4ed5cd", func := "loop.example/stileway/laws.FnExactOwnCount", spec := "fnExactOwnCount", apart := false }
def FnExactOwnCountSaid : Prop := fnExactOwnCountRow.holds Try.pinned (OpenSpec.ofChange fnExactOwnCountSpec)

/-- ITS FALSE NEIGHBOUR: 'it returns false'. Refute it at one input. -/
def fnExactOwnCountWrong : ChangeSpec := { name := "fnExactOwnCount", fn := fun _ => fun
  | [d1, d2] => { results := [.lit (.bool false)], args := [d1, d2] }
  | _ => none }
def FnExactOwnCountWrongFalsely : Prop := fnExactOwnCountRow.holds Try.pinned (OpenSpec.ofChange fnExactOwnCountWrong)

/-- 'laws.FnExactOwnOk': WHATEVER THE INPUT: true; the input reads as it did. -/
def fnExactOwnOkSpec : ChangeSpec := { name := "fnExactOwnOk", fn := fun _ => fun
  | [d] => { results := [.lit (.bool true)], args := [d] }
  | _ => none }
def fnExactOwnOkRow : OpenClaim := { program := "ytbgljjmmominbaa", sum := "7fff5186b52bf7db16d9df1af01db9927bb705cf9f5910f606e7577b1e4ed5cd", func := "loop.example/stileway/laws.FnExactOwnOk", spec := "fnExactOwnOk", apart := false }
def FnExactOwnOkSaid : Prop := fnExactOwnOkRow.holds Try.pinned (OpenSpec.ofChange fnExactOwnOkSpec)

/-- ITS FALSE NEIGHBOUR: 'it returns false'. Refute it at one input. -/
def fnExactOwnOkWrong : ChangeSpec := { name := "fnExactOwnOk", fn := fun _ => fun
  | [d] => { results := [.lit (.bool false)], args := [d] }
  | _ => none }
def FnExactOwnOkWrongFalsely : Prop := fnExactOwnOkRow.holds Try.pinned (OpenSpec.ofChange fnExactOwnOkWrong)

/-- 'laws.FnExactEntAbout': WHATEVER THE INPUT: true; the input reads as it did. -/
def fnExactEntAboutSpec : ChangeSpec := { name := "fnExactEntAbout", fn := fun _ => fun
  | [d1, d2] => { results := [.lit (.bool true)], args := [d1, d2] }
  | _ => none }
def fnExactEntAboutRow : OpenClaim := { program := "ytbgljjmmominbaa", sum := "7fff5186b52bf7db16d9df1af01db9927bb705cf9f5910f606e7577b1e4ed5cd", func := "loop.example/stileway/laws.FnExactEntAbout", spec := "fnExactEntAbout", apart := false }
def FnExactEntAboutSaid : Prop := fnExactEntAboutRow.holds Try.pinned (OpenSpec.ofChange fnExactEntAboutSpec)

/-- ITS FALSE NEIGHBOUR: 'it returns false'. Refute it at one input. -/
def fnExactEntAboutWrong : ChangeSpec := { name := "fnExactEntAbout", fn := fun _ => fun
  | [d1, d2] => { results := [.lit (.bool false)], args := [d1, d2] }
  | _ => none }
def FnExactEntAboutWrongFalsely : Prop := fnExactEntAboutRow.holds Try.pinned (OpenSpec.ofChange fnExactEntAboutWrong)

/-- 'laws.FnExactOwnOf': WHATEVER THE INPUT: true; the input reads as it did. -/
def fnExactOwnOfSpec : ChangeSpec := { name := "fnExactOwnOf", fn := fun _ => fun
  | [d1, d2] => { results := [.lit (.bool true)], args := [d1, d2] }
  | _ => none }
def fnExactOwnOfRow : OpenClaim := { program := "ytbgljjmmominbaa", sum := "7fff5186b52bf7db16d9df1af01db9927bb705cf9f5910f606e7577b1e4ed5cd", func := "loop.example/stileway/laws.FnExactOwnOf", spec := "fnExactOwnOf", apart := false }
def FnExactOwnOfSaid : Prop := fnExactOwnOfRow.holds Try.pinned (OpenSpec.ofChange fnExactOwnOfSpec)

/-- ITS FALSE NEIGHBOUR: 'it returns false'. Refute it at one input. -/
def fnExactOwnOfWrong : ChangeSpec := { name := "fnExactOwnOf", fn := fun _ => fun
  | [d1, d2] => { results := [.lit (.bool false)], args := [d1, d2] }
  | _ => none }
def FnExactOwnOfWrongFalsely : Prop := fnExactOwnOfRow.holds Try.pinned (OpenSpec.ofChange fnExactOwnOfWrong)

/-- 'laws.FnExactEntLeaves': WHATEVER THE INPUT: true; the input reads as it did. -/
def fnExactEntLeavesSpec : ChangeSpec := { name := "fnExactEntLeaves", fn := fun _ => fun
  | [d] => { results := [.lit (.bool true)], args := [d] }
  | _ => none }
def fnExactEntLeavesRow : OpenClaim := { program := "ytbgljjmmominbaa", sum := "7fff5186b52bf7db16d9df1af01db9927bb705cf9f5910f606e7577b1e4ed5cd", func := "loop.example/stileway/laws.FnExactEntLeaves", spec := "fnExactEntLeaves", apart := false }
def FnExactEntLeavesSaid : Prop := fnExactEntLeavesRow.holds Try.pinned (OpenSpec.ofChange fnExactEntLeavesSpec)

/-- ITS FALSE NEIGHBOUR: 'it returns false'. Refute it at one input. -/
def fnExactEntLeavesWrong : ChangeSpec := { name := "fnExactEntLeaves", fn := fun _ => fun
  | [d] => { results := [.lit (.bool false)], args := [d] }
  | _ => none }
def FnExactEntLeavesWrongFalsely : Prop := fnExactEntLeavesRow.holds Try.pinned (OpenSpec.ofChange fnExactEntLeavesWrong)

/-- 'laws.FnExactOwnFits': WHATEVER THE INPUT: true; the input reads as it did. -/
def fnExactOwnFitsSpec : ChangeSpec := { name := "fnExactOwnFits", fn := fun _ => fun
  | [d1, d2] => { results := [.lit (.bool true)], args := [d1, d2] }
  | _ => none }
def fnExactOwnFitsRow : OpenClaim := { program := "ytbgljjmmominbaa", sum := "7fff5186b52bf7db16d9df1af01db9927bb705cf9f5910f606e7577b1e4ed5cd", func := "loop.example/stileway/laws.FnExactOwnFits", spec := "fnExactOwnFits", apart := false }
def FnExactOwnFitsSaid : Prop := fnExactOwnFitsRow.holds Try.pinned (OpenSpec.ofChange fnExactOwnFitsSpec)

/-- ITS FALSE NEIGHBOUR: 'it returns false'. Refute it at one input. -/
def fnExactOwnFitsWrong : ChangeSpec := { name := "fnExactOwnFits", fn := fun _ => fun
  | [d1, d2] => { results := [.lit (.bool false)], args := [d1, d2] }
  | _ => none }
def FnExactOwnFitsWrongFalsely : Prop := fnExactOwnFitsRow.holds Try.pinned (OpenSpec.ofChange fnExactOwnFitsWrong)

/-- 'laws.FnExactOwnPut': WHATEVER THE INPUT: true; the input reads as it did. -/
def fnExactOwnPutSpec : ChangeSpec := { name := "fnExactOwnPut", fn := fun _ => fun
  | [d1, d2] => { results := [.lit (.bool true)], args := [d1, d2] }
  | _ => none }
def fnExactOwnPutRow : OpenClaim := { program := "ytbgljjmmominbaa", sum := "7fff5186b52bf7db16d9df1af01db9927bb705cf9f5910f606e7577b1e4ed5cd", func := "loop.example/stileway/laws.FnExactOwnPut", spec := "fnExactOwnPut", apart := false }
def FnExactOwnPutSaid : Prop := fnExactOwnPutRow.holds Try.pinned (OpenSpec.ofChange fnExactOwnPutSpec)

/-- ITS FALSE NEIGHBOUR: 'it returns false'. Refute it at one input. -/
def fnExactOwnPutWrong : ChangeSpec := { name := "fnExactOwnPut", fn := fun _ => fun
  | [d1, d2] => { results := [.lit (.bool false)], args := [d1, d2] }
  | _ => none }
def FnExactOwnPutWrongFalsely : Prop := fnExactOwnPutRow.holds Try.pinned (OpenSpec.ofChange fnExactOwnPutWrong)

/-- 'laws.FnEntCap': WHATEVER THE INPUT: true; the input reads as it did. -/
def fnEntCapSpec : ChangeSpec := { name := "fnEntCap", fn := fun _ => fun
  | [d] => { results := [.lit (.bool true)], args := [d] }
  | _ => none }
def fnEntCapRow : OpenClaim := { program := "ytbgljjmmominbaa", sum := "7fff5186b52bf7db16d9df1af01db9927bb705cf9f5910f606e7577b1e4ed5cd", func := "loop.example/stileway/laws.FnEntCap", spec := "fnEntCap", apart := false }
def FnEntCapSaid : Prop := fnEntCapRow.holds Try.pinned (OpenSpec.ofChange fnEntCapSpec)

/-- ITS FALSE NEIGHBOUR: 'it returns false'. Refute it at one input. -/
def fnEntCapWrong : ChangeSpec := { name := "fnEntCap", fn := fun _ => fun
  | [d] => { results := [.lit (.bool false)], args := [d] }
  | _ => none }
def FnEntCapWrongFalsely : Prop := fnEntCapRow.holds Try.pinned (OpenSpec.ofChange fnEntCapWrong)

/-- 'laws.FnOwnLeaf': WHATEVER THE INPUT: true; the input reads as it did. -/
def fnOwnLeafSpec : ChangeSpec := { name := "fnOwnLeaf", fn := fun _ => fun
  | [d] => { results := [.lit (.bool true)], args := [d] }
  | _ => none }
def fnOwnLeafRow : OpenClaim := { program := "ytbgljjmmominbaa", sum := "7fff5186b52bf7db16d9df1af01db9927bb705cf9f5910f606e7577b1e4ed5cd", func := "loop.example/stileway/laws.FnOwnLeaf", spec := "fnOwnLeaf", apart := false }
def FnOwnLeafSaid : Prop := fnOwnLeafRow.holds Try.pinned (OpenSpec.ofChange fnOwnLeafSpec)

/-- ITS FALSE NEIGHBOUR: 'it returns false'. Refute it at one input. -/
def fnOwnLeafWrong : ChangeSpec := { name := "fnOwnLeaf", fn := fun _ => fun
  | [d] => { results := [.lit (.bool false)], args := [d] }
  | _ => none }
def FnOwnLeafWrongFalsely : Prop := fnOwnLeafRow.holds Try.pinned (OpenSpec.ofChange fnOwnLeafWrong)

/-- 'laws.FnEntAbout': WHATEVER THE INPUT: true; the input reads as it did. -/
def fnEntAboutSpec : ChangeSpec := { name := "fnEntAbout", fn := fun _ => fun
  | [d] => { results := [.lit (.bool true)], args := [d] }
  | _ => none }
def fnEntAboutRow : OpenClaim := { program := "ytbgljjmmominbaa", sum := "7fff5186b52bf7db16d9df1af01db9927bb705cf9f5910f606e7577b1e4ed5cd", func := "loop.example/stileway/laws.FnEntAbout", spec := "fnEntAbout", apart := false }
def FnEntAboutSaid : Prop := fnEntAboutRow.holds Try.pinned (OpenSpec.ofChange fnEntAboutSpec)

/-- ITS FALSE NEIGHBOUR: 'it returns false'. Refute it at one input. -/
def fnEntAboutWrong : ChangeSpec := { name := "fnEntAbout", fn := fun _ => fun
  | [d] => { results := [.lit (.bool false)], args := [d] }
  | _ => none }
def FnEntAboutWrongFalsely : Prop := fnEntAboutRow.holds Try.pinned (OpenSpec.ofChange fnEntAboutWrong)

/-- 'laws.FnEntLeaf': WHATEVER THE INPUT: true; the input reads as it did. -/
def fnEntLeafSpec : ChangeSpec := { name := "fnEntLeaf", fn := fun _ => fun
  | [d1, d2] => { results := [.lit (.bool true)], args := [d1, d2] }
  | _ => none }
def fnEntLeafRow : OpenClaim := { program := "ytbgljjmmominbaa", sum := "7fff5186b52bf7db16d9df1af01db9927bb705cf9f5910f606e7577b1e4ed5cd", func := "loop.example/stileway/laws.FnEntLeaf", spec := "fnEntLeaf", apart := false }
def FnEntLeafSaid : Prop := fnEntLeafRow.holds Try.pinned (OpenSpec.ofChange fnEntLeafSpec)

/-- ITS FALSE NEIGHBOUR: 'it returns false'. Refute it at one input. -/
def fnEntLeafWrong : ChangeSpec := { name := "fnEntLeaf", fn := fun _ => fun
  | [d1, d2] => { results := [.lit (.bool false)], args := [d1, d2] }
  | _ => none }
def FnEntLeafWrongFalsely : Prop := fnEntLeafRow.holds Try.pinned (OpenSpec.ofChange fnEntLeafWrong)

/-- 'laws.FnOwnOf': WHATEVER THE INPUT: true; the input reads as it did. -/
def fnOwnOfSpec : ChangeSpec := { name := "fnOwnOf", fn := fun _ => fun
  | [d] => { results := [.lit (.bool true)], args := [d] }
  | _ => none }
def fnOwnOfRow : OpenClaim := { program := "ytbgljjmmominbaa", sum := "7fff5186b52bf7db16d9df1af01db9927bb705cf9f5910f606e7577b1e4ed5cd", func := "loop.example/stileway/laws.FnOwnOf", spec := "fnOwnOf", apart := false }
def FnOwnOfSaid : Prop := fnOwnOfRow.holds Try.pinned (OpenSpec.ofChange fnOwnOfSpec)

/-- ITS FALSE NEIGHBOUR: 'it returns false'. Refute it at one input. -/
def fnOwnOfWrong : ChangeSpec := { name := "fnOwnOf", fn := fun _ => fun
  | [d] => { results := [.lit (.bool false)], args := [d] }
  | _ => none }
def FnOwnOfWrongFalsely : Prop := fnOwnOfRow.holds Try.pinned (OpenSpec.ofChange fnOwnOfWrong)

/-- 'laws.FnOwnFold': WHATEVER THE INPUT: true; the input reads as it did. -/
def fnOwnFoldSpec : ChangeSpec := { name := "fnOwnFold", fn := fun _ => fun
  | [d] => { results := [.lit (.bool true)], args := [d] }
  | _ => none }
def fnOwnFoldRow : OpenClaim := { program := "ytbgljjmmominbaa", sum := "7fff5186b52bf7db16d9df1af01db9927bb705cf9f5910f606e7577b1e4ed5cd", func := "loop.example/stileway/laws.FnOwnFold", spec := "fnOwnFold", apart := false }
def FnOwnFoldSaid : Prop := fnOwnFoldRow.holds Try.pinned (OpenSpec.ofChange fnOwnFoldSpec)

/-- ITS FALSE NEIGHBOUR: 'it returns false'. Refute it at one input. -/
def fnOwnFoldWrong : ChangeSpec := { name := "fnOwnFold", fn := fun _ => fun
  | [d] => { results := [.lit (.bool false)], args := [d] }
  | _ => none }
def FnOwnFoldWrongFalsely : Prop := fnOwnFoldRow.holds Try.pinned (OpenSpec.ofChange fnOwnFoldWrong)

/-- 'laws.FnOwnFits': WHATEVER THE INPUT: true; the input reads as it did. -/
def fnOwnFitsSpec : ChangeSpec := { name := "fnOwnFits", fn := fun _ => fun
  | [d] => { results := [.lit (.bool true)], args := [d] }
  | _ => none }
def fnOwnFitsRow : OpenClaim := { program := "ytbgljjmmominbaa", sum := "7fff5186b52bf7db16d9df1af01db9927bb705cf9f5910f606e7577b1e4ed5cd", func := "loop.example/stileway/laws.FnOwnFits", spec := "fnOwnFits", apart := false }
def FnOwnFitsSaid : Prop := fnOwnFitsRow.holds Try.pinned (OpenSpec.ofChange fnOwnFitsSpec)

/-- ITS FALSE NEIGHBOUR: 'it returns false'. Refute it at one input. -/
def fnOwnFitsWrong : ChangeSpec := { name := "fnOwnFits", fn := fun _ => fun
  | [d] => { results := [.lit (.bool false)], args := [d] }
  | _ => none }
def FnOwnFitsWrongFalsely : Prop := fnOwnFitsRow.holds Try.pinned (OpenSpec.ofChange fnOwnFitsWrong)

/- THE SECOND FORM. 'bulk': how many values and letters a reading holds, each counted each time it is reached (what is shared counts as often as it is met; a slice's spare places count too). A statement '..UptoSaid' is the law's where the arguments, and the package variables that the reading takes, are together of bulk at most 1048576: NARROWER than '..Said'. Prove '..Said' where nothing that the law and all that it calls make is longer than what came in: it says more and counts as full. Else prove '..UptoSaid'. A law counts once. -/
mutual
def uptoBulk {H : Type} : DataW H → Nat
  | .lit (.string bytes) => bytes.length + 1
  | .lit _ => 1
  | .nil => 1
  | .ptr d => uptoBulk d + 1
  | .slice elems spare => uptoBulkAll elems + uptoBulkAll spare + 1
  | .agg parts => uptoBulkAll parts + 1
  | .iface _ d => uptoBulk d + 1
  | .map entries => uptoBulkEntries entries + 1
  | .held _ => 1
def uptoBulkAll {H : Type} : List (DataW H) → Nat
  | [] => 0
  | d :: r => uptoBulk d + uptoBulkAll r
def uptoBulkEntries {H : Type} : List (Lit × DataW H) → Nat
  | [] => 0
  | x :: r => uptoBulkEntry x + uptoBulkEntries r
def uptoBulkEntry {H : Type} : Lit × DataW H → Nat
  | (.string bytes, d) => bytes.length + uptoBulk d + 1
  | (_, d) => uptoBulk d + 1
 end
def uptoSmall : (H : Type) → List (DataW H) → Bool := fun _ ds => decide (uptoBulkAll ds ≤ 1048576)
def OpenSpec.upto (s : _root_.Go.ChangeSpec) : _root_.Go.OpenSpec := { _root_.Go.OpenSpec.ofChange s with cond := some uptoSmall }

/-- 'laws.FnExactEntLeaf', WHERE WHAT IT READS IS OF BULK AT MOST 1048576: true; the input reads as it did. -/
def fnExactEntLeafUptoRow : OpenClaim := { program := "ytbgljjmmominbaa", sum := "7fff5186b52bf7db16d9df1af01db9927bb705cf9f5910f606e7577b1e4ed5cd", func := "loop.example/stileway/laws.FnExactEntLeaf", spec := "fnExactEntLeaf", apart := false, narrowed := true }
def FnExactEntLeafUptoSaid : Prop := fnExactEntLeafUptoRow.holds Try.pinned (OpenSpec.upto fnExactEntLeafSpec)

/-- 'laws.FnExactOwnLeaf', WHERE WHAT IT READS IS OF BULK AT MOST 1048576: true; the input reads as it did. -/
def fnExactOwnLeafUptoRow : OpenClaim := { program := "ytbgljjmmominbaa", sum := "7fff5186b52bf7db16d9df1af01db9927bb705cf9f5910f606e7577b1e4ed5cd", func := "loop.example/stileway/laws.FnExactOwnLeaf", spec := "fnExactOwnLeaf", apart := false, narrowed := true }
def FnExactOwnLeafUptoSaid : Prop := fnExactOwnLeafUptoRow.holds Try.pinned (OpenSpec.upto fnExactOwnLeafSpec)

/-- 'laws.FnExactOwnCount', WHERE WHAT IT READS IS OF BULK AT MOST 1048576: true; the input reads as it did. -/
def fnExactOwnCountUptoRow : OpenClaim := { program := "ytbgljjmmominbaa", sum := "7fff5186b52bf7db16d9df1af01db9927bb705cf9f5910f606e7577b1e4ed5cd", func := "loop.example/stileway/laws.FnExactOwnCount", spec := "fnExactOwnCount", apart := false, narrowed := true }
def FnExactOwnCountUptoSaid : Prop := fnExactOwnCountUptoRow.holds Try.pinned (OpenSpec.upto fnExactOwnCountSpec)

/-- 'laws.FnExactOwnOk', WHERE WHAT IT READS IS OF BULK AT MOST 1048576: true; the input reads as it did. -/
def fnExactOwnOkUptoRow : OpenClaim := { program := "ytbgljjmmominbaa", sum := "7fff5186b52bf7db16d9df1af01db9927bb705cf9f5910f606e7577b1e4ed5cd", func := "loop.example/stileway/laws.FnExactOwnOk", spec := "fnExactOwnOk", apart := false, narrowed := true }
def FnExactOwnOkUptoSaid : Prop := fnExactOwnOkUptoRow.holds Try.pinned (OpenSpec.upto fnExactOwnOkSpec)

/-- 'laws.FnExactEntAbout', WHERE WHAT IT READS IS OF BULK AT MOST 1048576: true; the input reads as it did. -/
def fnExactEntAboutUptoRow : OpenClaim := { program := "ytbgljjmmominbaa", sum := "7fff5186b52bf7db16d9df1af01db9927bb705cf9f5910f606e7577b1e4ed5cd", func := "loop.example/stileway/laws.FnExactEntAbout", spec := "fnExactEntAbout", apart := false, narrowed := true }
def FnExactEntAboutUptoSaid : Prop := fnExactEntAboutUptoRow.holds Try.pinned (OpenSpec.upto fnExactEntAboutSpec)

/-- 'laws.FnExactOwnOf', WHERE WHAT IT READS IS OF BULK AT MOST 1048576: true; the input reads as it did. -/
def fnExactOwnOfUptoRow : OpenClaim := { program := "ytbgljjmmominbaa", sum := "7fff5186b52bf7db16d9df1af01db9927bb705cf9f5910f606e7577b1e4ed5cd", func := "loop.example/stileway/laws.FnExactOwnOf", spec := "fnExactOwnOf", apart := false, narrowed := true }
def FnExactOwnOfUptoSaid : Prop := fnExactOwnOfUptoRow.holds Try.pinned (OpenSpec.upto fnExactOwnOfSpec)

/-- 'laws.FnExactEntLeaves', WHERE WHAT IT READS IS OF BULK AT MOST 1048576: true; the input reads as it did. -/
def fnExactEntLeavesUptoRow : OpenClaim := { program := "ytbgljjmmominbaa", sum := "7fff5186b52bf7db16d9df1af01db9927bb705cf9f5910f606e7577b1e4ed5cd", func := "loop.example/stileway/laws.FnExactEntLeaves", spec := "fnExactEntLeaves", apart := false, narrowed := true }
def FnExactEntLeavesUptoSaid : Prop := fnExactEntLeavesUptoRow.holds Try.pinned (OpenSpec.upto fnExactEntLeavesSpec)

/-- 'laws.FnExactOwnFits', WHERE WHAT IT READS IS OF BULK AT MOST 1048576: true; the input reads as it did. -/
def fnExactOwnFitsUptoRow : OpenClaim := { program := "ytbgljjmmominbaa", sum := "7fff5186b52bf7db16d9df1af01db9927bb705cf9f5910f606e7577b1e4ed5cd", func := "loop.example/stileway/laws.FnExactOwnFits", spec := "fnExactOwnFits", apart := false, narrowed := true }
def FnExactOwnFitsUptoSaid : Prop := fnExactOwnFitsUptoRow.holds Try.pinned (OpenSpec.upto fnExactOwnFitsSpec)

/-- 'laws.FnExactOwnPut', WHERE WHAT IT READS IS OF BULK AT MOST 1048576: true; the input reads as it did. -/
def fnExactOwnPutUptoRow : OpenClaim := { program := "ytbgljjmmominbaa", sum := "7fff5186b52bf7db16d9df1af01db9927bb705cf9f5910f606e7577b1e4ed5cd", func := "loop.example/stileway/laws.FnExactOwnPut", spec := "fnExactOwnPut", apart := false, narrowed := true }
def FnExactOwnPutUptoSaid : Prop := fnExactOwnPutUptoRow.holds Try.pinned (OpenSpec.upto fnExactOwnPutSpec)

/-- 'laws.FnEntCap', WHERE WHAT IT READS IS OF BULK AT MOST 1048576: true; the input reads as it did. -/
def fnEntCapUptoRow : OpenClaim := { program := "ytbgljjmmominbaa", sum := "7fff5186b52bf7db16d9df1af01db9927bb705cf9f5910f606e7577b1e4ed5cd", func := "loop.example/stileway/laws.FnEntCap", spec := "fnEntCap", apart := false, narrowed := true }
def FnEntCapUptoSaid : Prop := fnEntCapUptoRow.holds Try.pinned (OpenSpec.upto fnEntCapSpec)

/-- 'laws.FnOwnLeaf', WHERE WHAT IT READS IS OF BULK AT MOST 1048576: true; the input reads as it did. -/
def fnOwnLeafUptoRow : OpenClaim := { program := "ytbgljjmmominbaa", sum := "7fff5186b52bf7db16d9df1af01db9927bb705cf9f5910f606e7577b1e4ed5cd", func := "loop.example/stileway/laws.FnOwnLeaf", spec := "fnOwnLeaf", apart := false, narrowed := true }
def FnOwnLeafUptoSaid : Prop := fnOwnLeafUptoRow.holds Try.pinned (OpenSpec.upto fnOwnLeafSpec)

/-- 'laws.FnEntAbout', WHERE WHAT IT READS IS OF BULK AT MOST 1048576: true; the input reads as it did. -/
def fnEntAboutUptoRow : OpenClaim := { program := "ytbgljjmmominbaa", sum := "7fff5186b52bf7db16d9df1af01db9927bb705cf9f5910f606e7577b1e4ed5cd", func := "loop.example/stileway/laws.FnEntAbout", spec := "fnEntAbout", apart := false, narrowed := true }
def FnEntAboutUptoSaid : Prop := fnEntAboutUptoRow.holds Try.pinned (OpenSpec.upto fnEntAboutSpec)

/-- 'laws.FnEntLeaf', WHERE WHAT IT READS IS OF BULK AT MOST 1048576: true; the input reads as it did. -/
def fnEntLeafUptoRow : OpenClaim := { program := "ytbgljjmmominbaa", sum := "7fff5186b52bf7db16d9df1af01db9927bb705cf9f5910f606e7577b1e4ed5cd", func := "loop.example/stileway/laws.FnEntLeaf", spec := "fnEntLeaf", apart := false, narrowed := true }
def FnEntLeafUptoSaid : Prop := fnEntLeafUptoRow.holds Try.pinned (OpenSpec.upto fnEntLeafSpec)

/-- 'laws.FnOwnOf', WHERE WHAT IT READS IS OF BULK AT MOST 1048576: true; the input reads as it did. -/
def fnOwnOfUptoRow : OpenClaim := { program := "ytbgljjmmominbaa", sum := "7fff5186b52bf7db16d9df1af01db9927bb705cf9f5910f606e7577b1e4ed5cd", func := "loop.example/stileway/laws.FnOwnOf", spec := "fnOwnOf", apart := false, narrowed := true }
def FnOwnOfUptoSaid : Prop := fnOwnOfUptoRow.holds Try.pinned (OpenSpec.upto fnOwnOfSpec)

/-- 'laws.FnOwnFold', WHERE WHAT IT READS IS OF BULK AT MOST 1048576: true; the input reads as it did. -/
def fnOwnFoldUptoRow : OpenClaim := { program := "ytbgljjmmominbaa", sum := "7fff5186b52bf7db16d9df1af01db9927bb705cf9f5910f606e7577b1e4ed5cd", func := "loop.example/stileway/laws.FnOwnFold", spec := "fnOwnFold", apart := false, narrowed := true }
def FnOwnFoldUptoSaid : Prop := fnOwnFoldUptoRow.holds Try.pinned (OpenSpec.upto fnOwnFoldSpec)

/-- 'laws.FnOwnFits', WHERE WHAT IT READS IS OF BULK AT MOST 1048576: true; the input reads as it did. -/
def fnOwnFitsUptoRow : OpenClaim := { program := "ytbgljjmmominbaa", sum := "7fff5186b52bf7db16d9df1af01db9927bb705cf9f5910f606e7577b1e4ed5cd", func := "loop.example/stileway/laws.FnOwnFits", spec := "fnOwnFits", apart := false, narrowed := true }
def FnOwnFitsUptoSaid : Prop := fnOwnFitsUptoRow.holds Try.pinned (OpenSpec.upto fnOwnFitsSpec)

end Rows
end Go.Proofs.Ytbgljjmmominbaa
