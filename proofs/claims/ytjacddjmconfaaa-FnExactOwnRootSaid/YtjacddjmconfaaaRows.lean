/-
  No cell of these rows narrows 'for every input' (looked for: loops, veiled, ifaces, maps, wideKeys, modest, calm, conditions, laid).
  DERIVED. THE GIVEN ROWS OF THIS SEAT. 12 by the template 'for every input the law returns true; each argument reads behind the call as it read before'; 0 by the template 'total and deterministic' (their statements: YtjacddjmconfaaaTotals.lean).
  GIVEN WITH THE SEED: the statements are not yours to turn. If you find one false, say at which input.
  Laid BY PROGRAM, IN A SANDBOX (cutbox-rows.mjs): the forced cells as the released guide's own fill.sh prints them over the translation 8ee188aa38f3086b… (all of the seat's roots in one cut). By AI agents, Wed Nov 11 2026. No macro, syntax, notation, axiom, sorry.
-/
import Derived.Test.YtjacddjmconfaaaChecked
import GoSem.Claim
import GoSem.ClaimJoined
import GoSem.ClaimMapViews
import Derived.JoinedTies
import Derived.KernelRfl
namespace Go.Proofs.Ytjacddjmconfaaa
/- THE CELL 'sum', in the pinned program and in every row, IS THE sha256 OF THE DUMP (.gsa) THAT YtjacddjmconfaaaProg.lean LOADS. Nothing in Lean hashes anything: it is a label: what it is worth is what the hold of that sum in a sandbox is worth. -/
noncomputable def Try.pinned : Pinned := { name := "ytjacddjmconfaaa", sum := "8ee188aa38f3086b15047b9fed0e746d9e8dd65cf5ea2e3c2fcf4cb5694467e5", checked := Try.checked }
namespace Rows
def none {H : Type} : Left H := { results := [], args := [] }

/-- 'laws.FnExactMixLeaf': WHATEVER THE INPUT: true; the input reads as it did. -/
def fnExactMixLeafSpec : ChangeSpec := { name := "fnExactMixLeaf", fn := fun _ => fun
  | [d] => { results := [.lit (.bool true)], args := [d] }
  | _ => none }
def fnExactMixLeafRow : OpenClaim := { program := "ytjacddjmconfaaa", sum := "8ee188aa38f3086b15047b9fed0e746d9e8dd65cf5ea2e3c2fcf4cb5694467e5", func := "loop.example/stileway/laws.FnExactMixLeaf", spec := "fnExactMixLeaf", apart := false }
def FnExactMixLeafSaid : Prop := fnExactMixLeafRow.holds Try.pinned (OpenSpec.ofChange fnExactMixLeafSpec)

/-- ITS FALSE NEIGHBOUR: 'it returns false'. Refute it at one input. -/
def fnExactMixLeafWrong : ChangeSpec := { name := "fnExactMixLeaf", fn := fun _ => fun
  | [d] => { results := [.lit (.bool false)], args := [d] }
  | _ => none }
def FnExactMixLeafWrongFalsely : Prop := fnExactMixLeafRow.holds Try.pinned (OpenSpec.ofChange fnExactMixLeafWrong)

/-- 'laws.FnExactTreOk': WHATEVER THE INPUT: true; the input reads as it did. -/
def fnExactTreOkSpec : ChangeSpec := { name := "fnExactTreOk", fn := fun _ => fun
  | [d] => { results := [.lit (.bool true)], args := [d] }
  | _ => none }
def fnExactTreOkRow : OpenClaim := { program := "ytjacddjmconfaaa", sum := "8ee188aa38f3086b15047b9fed0e746d9e8dd65cf5ea2e3c2fcf4cb5694467e5", func := "loop.example/stileway/laws.FnExactTreOk", spec := "fnExactTreOk", unfollowed := true, recurses := true, apart := false }
def FnExactTreOkSaid : Prop := fnExactTreOkRow.holds Try.pinned (OpenSpec.ofChange fnExactTreOkSpec)

/-- ITS FALSE NEIGHBOUR: 'it returns false'. Refute it at one input. -/
def fnExactTreOkWrong : ChangeSpec := { name := "fnExactTreOk", fn := fun _ => fun
  | [d] => { results := [.lit (.bool false)], args := [d] }
  | _ => none }
def FnExactTreOkWrongFalsely : Prop := fnExactTreOkRow.holds Try.pinned (OpenSpec.ofChange fnExactTreOkWrong)

/-- 'laws.FnExactTreRoot': WHATEVER THE INPUT: true; the input reads as it did. -/
def fnExactTreRootSpec : ChangeSpec := { name := "fnExactTreRoot", fn := fun _ => fun
  | [d] => { results := [.lit (.bool true)], args := [d] }
  | _ => none }
def fnExactTreRootRow : OpenClaim := { program := "ytjacddjmconfaaa", sum := "8ee188aa38f3086b15047b9fed0e746d9e8dd65cf5ea2e3c2fcf4cb5694467e5", func := "loop.example/stileway/laws.FnExactTreRoot", spec := "fnExactTreRoot", unfollowed := true, recurses := true, apart := false }
def FnExactTreRootSaid : Prop := fnExactTreRootRow.holds Try.pinned (OpenSpec.ofChange fnExactTreRootSpec)

/-- ITS FALSE NEIGHBOUR: 'it returns false'. Refute it at one input. -/
def fnExactTreRootWrong : ChangeSpec := { name := "fnExactTreRoot", fn := fun _ => fun
  | [d] => { results := [.lit (.bool false)], args := [d] }
  | _ => none }
def FnExactTreRootWrongFalsely : Prop := fnExactTreRootRow.holds Try.pinned (OpenSpec.ofChange fnExactTreRootWrong)

/-- 'laws.FnExactTreUp': WHATEVER THE INPUT: true; the input reads as it did. -/
def fnExactTreUpSpec : ChangeSpec := { name := "fnExactTreUp", fn := fun _ => fun
  | [d1, d2, d3, d4] => { results := [.lit (.bool true)], args := [d1, d2, d3, d4] }
  | _ => none }
def fnExactTreUpRow : OpenClaim := { program := "ytjacddjmconfaaa", sum := "8ee188aa38f3086b15047b9fed0e746d9e8dd65cf5ea2e3c2fcf4cb5694467e5", func := "loop.example/stileway/laws.FnExactTreUp", spec := "fnExactTreUp", unfollowed := true, recurses := true, apart := false }
def FnExactTreUpSaid : Prop := fnExactTreUpRow.holds Try.pinned (OpenSpec.ofChange fnExactTreUpSpec)

/-- ITS FALSE NEIGHBOUR: 'it returns false'. Refute it at one input. -/
def fnExactTreUpWrong : ChangeSpec := { name := "fnExactTreUp", fn := fun _ => fun
  | [d1, d2, d3, d4] => { results := [.lit (.bool false)], args := [d1, d2, d3, d4] }
  | _ => none }
def FnExactTreUpWrongFalsely : Prop := fnExactTreUpRow.holds Try.pinned (OpenSpec.ofChange fnExactTreUpWrong)

/-- 'laws.FnExactConCheck': WHATEVER THE INPUT: true; the input reads as it did. -/
def fnExactConCheckSpec : ChangeSpec := { name := "fnExactConCheck", fn := fun _ => fun
  | [d1, d2, d3, d4, d5] => { results := [.lit (.bool true)], args := [d1, d2, d3, d4, d5] }
  | _ => none }
def fnExactConCheckRow : OpenClaim := { program := "ytjacddjmconfaaa", sum := "8ee188aa38f3086b15047b9fed0e746d9e8dd65cf5ea2e3c2fcf4cb5694467e5", func := "loop.example/stileway/laws.FnExactConCheck", spec := "fnExactConCheck", unfollowed := true, recurses := true, apart := false }
def FnExactConCheckSaid : Prop := fnExactConCheckRow.holds Try.pinned (OpenSpec.ofChange fnExactConCheckSpec)

/-- ITS FALSE NEIGHBOUR: 'it returns false'. Refute it at one input. -/
def fnExactConCheckWrong : ChangeSpec := { name := "fnExactConCheck", fn := fun _ => fun
  | [d1, d2, d3, d4, d5] => { results := [.lit (.bool false)], args := [d1, d2, d3, d4, d5] }
  | _ => none }
def FnExactConCheckWrongFalsely : Prop := fnExactConCheckRow.holds Try.pinned (OpenSpec.ofChange fnExactConCheckWrong)

/-- 'laws.FnExactTreCheck': WHATEVER THE INPUT: true; the input reads as it did. -/
def fnExactTreCheckSpec : ChangeSpec := { name := "fnExactTreCheck", fn := fun _ => fun
  | [d1, d2, d3, d4, d5] => { results := [.lit (.bool true)], args := [d1, d2, d3, d4, d5] }
  | _ => none }
def fnExactTreCheckRow : OpenClaim := { program := "ytjacddjmconfaaa", sum := "8ee188aa38f3086b15047b9fed0e746d9e8dd65cf5ea2e3c2fcf4cb5694467e5", func := "loop.example/stileway/laws.FnExactTreCheck", spec := "fnExactTreCheck", unfollowed := true, recurses := true, apart := false }
def FnExactTreCheckSaid : Prop := fnExactTreCheckRow.holds Try.pinned (OpenSpec.ofChange fnExactTreCheckSpec)

/-- ITS FALSE NEIGHBOUR: 'it returns false'. Refute it at one input. -/
def fnExactTreCheckWrong : ChangeSpec := { name := "fnExactTreCheck", fn := fun _ => fun
  | [d1, d2, d3, d4, d5] => { results := [.lit (.bool false)], args := [d1, d2, d3, d4, d5] }
  | _ => none }
def FnExactTreCheckWrongFalsely : Prop := fnExactTreCheckRow.holds Try.pinned (OpenSpec.ofChange fnExactTreCheckWrong)

/-- 'laws.FnExactTreProof': WHATEVER THE INPUT: true; the input reads as it did. -/
def fnExactTreProofSpec : ChangeSpec := { name := "fnExactTreProof", fn := fun _ => fun
  | [d1, d2] => { results := [.lit (.bool true)], args := [d1, d2] }
  | _ => none }
def fnExactTreProofRow : OpenClaim := { program := "ytjacddjmconfaaa", sum := "8ee188aa38f3086b15047b9fed0e746d9e8dd65cf5ea2e3c2fcf4cb5694467e5", func := "loop.example/stileway/laws.FnExactTreProof", spec := "fnExactTreProof", unfollowed := true, recurses := true, apart := false }
def FnExactTreProofSaid : Prop := fnExactTreProofRow.holds Try.pinned (OpenSpec.ofChange fnExactTreProofSpec)

/-- ITS FALSE NEIGHBOUR: 'it returns false'. Refute it at one input. -/
def fnExactTreProofWrong : ChangeSpec := { name := "fnExactTreProof", fn := fun _ => fun
  | [d1, d2] => { results := [.lit (.bool false)], args := [d1, d2] }
  | _ => none }
def FnExactTreProofWrongFalsely : Prop := fnExactTreProofRow.holds Try.pinned (OpenSpec.ofChange fnExactTreProofWrong)

/-- 'laws.FnExactConProof': WHATEVER THE INPUT: true; the input reads as it did. -/
def fnExactConProofSpec : ChangeSpec := { name := "fnExactConProof", fn := fun _ => fun
  | [d1, d2] => { results := [.lit (.bool true)], args := [d1, d2] }
  | _ => none }
def fnExactConProofRow : OpenClaim := { program := "ytjacddjmconfaaa", sum := "8ee188aa38f3086b15047b9fed0e746d9e8dd65cf5ea2e3c2fcf4cb5694467e5", func := "loop.example/stileway/laws.FnExactConProof", spec := "fnExactConProof", unfollowed := true, recurses := true, apart := false }
def FnExactConProofSaid : Prop := fnExactConProofRow.holds Try.pinned (OpenSpec.ofChange fnExactConProofSpec)

/-- ITS FALSE NEIGHBOUR: 'it returns false'. Refute it at one input. -/
def fnExactConProofWrong : ChangeSpec := { name := "fnExactConProof", fn := fun _ => fun
  | [d1, d2] => { results := [.lit (.bool false)], args := [d1, d2] }
  | _ => none }
def FnExactConProofWrongFalsely : Prop := fnExactConProofRow.holds Try.pinned (OpenSpec.ofChange fnExactConProofWrong)

/-- 'laws.FnExactTreClash': WHATEVER THE INPUT: true; the input reads as it did. -/
def fnExactTreClashSpec : ChangeSpec := { name := "fnExactTreClash", fn := fun _ => fun
  | [d1, d2, d3, d4] => { results := [.lit (.bool true)], args := [d1, d2, d3, d4] }
  | _ => none }
def fnExactTreClashRow : OpenClaim := { program := "ytjacddjmconfaaa", sum := "8ee188aa38f3086b15047b9fed0e746d9e8dd65cf5ea2e3c2fcf4cb5694467e5", func := "loop.example/stileway/laws.FnExactTreClash", spec := "fnExactTreClash", unfollowed := true, recurses := true, apart := false }
def FnExactTreClashSaid : Prop := fnExactTreClashRow.holds Try.pinned (OpenSpec.ofChange fnExactTreClashSpec)

/-- ITS FALSE NEIGHBOUR: 'it returns false'. Refute it at one input. -/
def fnExactTreClashWrong : ChangeSpec := { name := "fnExactTreClash", fn := fun _ => fun
  | [d1, d2, d3, d4] => { results := [.lit (.bool false)], args := [d1, d2, d3, d4] }
  | _ => none }
def FnExactTreClashWrongFalsely : Prop := fnExactTreClashRow.holds Try.pinned (OpenSpec.ofChange fnExactTreClashWrong)

/-- 'laws.FnExactOwnCheck': WHATEVER THE INPUT: true; the input reads as it did. -/
def fnExactOwnCheckSpec : ChangeSpec := { name := "fnExactOwnCheck", fn := fun _ => fun
  | [d1, d2, d3, d4] => { results := [.lit (.bool true)], args := [d1, d2, d3, d4] }
  | _ => none }
def fnExactOwnCheckRow : OpenClaim := { program := "ytjacddjmconfaaa", sum := "8ee188aa38f3086b15047b9fed0e746d9e8dd65cf5ea2e3c2fcf4cb5694467e5", func := "loop.example/stileway/laws.FnExactOwnCheck", spec := "fnExactOwnCheck", unfollowed := true, recurses := true, apart := false }
def FnExactOwnCheckSaid : Prop := fnExactOwnCheckRow.holds Try.pinned (OpenSpec.ofChange fnExactOwnCheckSpec)

/-- ITS FALSE NEIGHBOUR: 'it returns false'. Refute it at one input. -/
def fnExactOwnCheckWrong : ChangeSpec := { name := "fnExactOwnCheck", fn := fun _ => fun
  | [d1, d2, d3, d4] => { results := [.lit (.bool false)], args := [d1, d2, d3, d4] }
  | _ => none }
def FnExactOwnCheckWrongFalsely : Prop := fnExactOwnCheckRow.holds Try.pinned (OpenSpec.ofChange fnExactOwnCheckWrong)

/-- 'laws.FnExactOwnRoot': WHATEVER THE INPUT: true; the input reads as it did. -/
def fnExactOwnRootSpec : ChangeSpec := { name := "fnExactOwnRoot", fn := fun _ => fun
  | [d] => { results := [.lit (.bool true)], args := [d] }
  | _ => none }
def fnExactOwnRootRow : OpenClaim := { program := "ytjacddjmconfaaa", sum := "8ee188aa38f3086b15047b9fed0e746d9e8dd65cf5ea2e3c2fcf4cb5694467e5", func := "loop.example/stileway/laws.FnExactOwnRoot", spec := "fnExactOwnRoot", unfollowed := true, recurses := true, apart := false }
def FnExactOwnRootSaid : Prop := fnExactOwnRootRow.holds Try.pinned (OpenSpec.ofChange fnExactOwnRootSpec)

/-- ITS FALSE NEIGHBOUR: 'it returns false'. Refute it at one input. -/
def fnExactOwnRootWrong : ChangeSpec := { name := "fnExactOwnRoot", fn := fun _ => fun
  | [d] => { results := [.lit (.bool false)], args := [d] }
  | _ => none }
def FnExactOwnRootWrongFalsely : Prop := fnExactOwnRootRow.holds Try.pinned (OpenSpec.ofChange fnExactOwnRootWrong)

/-- 'laws.FnExactEntOk': WHATEVER THE INPUT: true; the input reads as it did. -/
def fnExactEntOkSpec : ChangeSpec := { name := "fnExactEntOk", fn := fun _ => fun
  | [d] => { results := [.lit (.bool true)], args := [d] }
  | _ => none }
def fnExactEntOkRow : OpenClaim := { program := "ytjacddjmconfaaa", sum := "8ee188aa38f3086b15047b9fed0e746d9e8dd65cf5ea2e3c2fcf4cb5694467e5", func := "loop.example/stileway/laws.FnExactEntOk", spec := "fnExactEntOk", apart := false }
def FnExactEntOkSaid : Prop := fnExactEntOkRow.holds Try.pinned (OpenSpec.ofChange fnExactEntOkSpec)

/-- ITS FALSE NEIGHBOUR: 'it returns false'. Refute it at one input. -/
def fnExactEntOkWrong : ChangeSpec := { name := "fnExactEntOk", fn := fun _ => fun
  | [d] => { results := [.lit (.bool false)], args := [d] }
  | _ => none }
def FnExactEntOkWrongFalsely : Prop := fnExactEntOkRow.holds Try.pinned (OpenSpec.ofChange fnExactEntOkWrong)

/- THE SECOND FORM. 'bulk': how many values and letters a reading holds, each counted each time it is reached (what is shared counts as often as it is met; a slice's spare places count too). A statement '..UptoSaid' is the law's where the arguments, and the package variables that the reading takes, are together of bulk at most 1048576: NARROWER than '..Said'. Prove '..Said' where nothing that the law and all that it calls make is longer than what came in: it says more and counts as full. Else prove '..UptoSaid'. A law counts once. -/
mutual
def uptoBulk {H : Type} : DataW H → Nat
  | .lit (.string bytes) => bytes.length + 1
  | .lit _ => 1
  | .nil => 1
  | .ptr d => uptoBulk d + 1
  | .slice elems spare => uptoBulkAll elems + uptoBulkAll spare + 1
  | .agg parts => uptoBulkAll parts + 1
  | .iface _ d => uptoBulk d + 1
  | .map entries => uptoBulkEntries entries + 1
  | .held _ => 1
def uptoBulkAll {H : Type} : List (DataW H) → Nat
  | [] => 0
  | d :: r => uptoBulk d + uptoBulkAll r
def uptoBulkEntries {H : Type} : List (Lit × DataW H) → Nat
  | [] => 0
  | x :: r => uptoBulkEntry x + uptoBulkEntries r
def uptoBulkEntry {H : Type} : Lit × DataW H → Nat
  | (.string bytes, d) => bytes.length + uptoBulk d + 1
  | (_, d) => uptoBulk d + 1
 end
def uptoSmall : (H : Type) → List (DataW H) → Bool := fun _ ds => decide (uptoBulkAll ds ≤ 1048576)
def OpenSpec.upto (s : _root_.Go.ChangeSpec) : _root_.Go.OpenSpec := { _root_.Go.OpenSpec.ofChange s with cond := some uptoSmall }

/-- 'laws.FnExactMixLeaf', WHERE WHAT IT READS IS OF BULK AT MOST 1048576: true; the input reads as it did. -/
def fnExactMixLeafUptoRow : OpenClaim := { program := "ytjacddjmconfaaa", sum := "8ee188aa38f3086b15047b9fed0e746d9e8dd65cf5ea2e3c2fcf4cb5694467e5", func := "loop.example/stileway/laws.FnExactMixLeaf", spec := "fnExactMixLeaf", apart := false, narrowed := true }
def FnExactMixLeafUptoSaid : Prop := fnExactMixLeafUptoRow.holds Try.pinned (OpenSpec.upto fnExactMixLeafSpec)

/-- 'laws.FnExactTreOk', WHERE WHAT IT READS IS OF BULK AT MOST 1048576: true; the input reads as it did. -/
def fnExactTreOkUptoRow : OpenClaim := { program := "ytjacddjmconfaaa", sum := "8ee188aa38f3086b15047b9fed0e746d9e8dd65cf5ea2e3c2fcf4cb5694467e5", func := "loop.example/stileway/laws.FnExactTreOk", spec := "fnExactTreOk", unfollowed := true, recurses := true, apart := false, narrowed := true }
def FnExactTreOkUptoSaid : Prop := fnExactTreOkUptoRow.holds Try.pinned (OpenSpec.upto fnExactTreOkSpec)

/-- 'laws.FnExactTreRoot', WHERE WHAT IT READS IS OF BULK AT MOST 1048576: true; the input reads as it did. -/
def fnExactTreRootUptoRow : OpenClaim := { program := "ytjacddjmconfaaa", sum := "8ee188aa38f3086b15047b9fed0e746d9e8dd65cf5ea2e3c2fcf4cb5694467e5", func := "loop.example/stileway/laws.FnExactTreRoot", spec := "fnExactTreRoot", unfollowed := true, recurses := true, apart := false, narrowed := true }
def FnExactTreRootUptoSaid : Prop := fnExactTreRootUptoRow.holds Try.pinned (OpenSpec.upto fnExactTreRootSpec)

/-- 'laws.FnExactTreUp', WHERE WHAT IT READS IS OF BULK AT MOST 1048576: true; the input reads as it did. -/
def fnExactTreUpUptoRow : OpenClaim := { program := "ytjacddjmconfaaa", sum := "8ee188aa38f3086b15047b9fed0e746d9e8dd65cf5ea2e3c2fcf4cb5694467e5", func := "loop.example/stileway/laws.FnExactTreUp", spec := "fnExactTreUp", unfollowed := true, recurses := true, apart := false, narrowed := true }
def FnExactTreUpUptoSaid : Prop := fnExactTreUpUptoRow.holds Try.pinned (OpenSpec.upto fnExactTreUpSpec)

/-- 'laws.FnExactConCheck', WHERE WHAT IT READS IS OF BULK AT MOST 1048576: true; the input reads as it did. -/
def fnExactConCheckUptoRow : OpenClaim := { program := "ytjacddjmconfaaa", sum := "8ee188aa38f3086b15047b9fed0e746d9e8dd65cf5ea2e3c2fcf4cb5694467e5", func := "loop.example/stileway/laws.FnExactConCheck", spec := "fnExactConCheck", unfollowed := true, recurses := true, apart := false, narrowed := true }
def FnExactConCheckUptoSaid : Prop := fnExactConCheckUptoRow.holds Try.pinned (OpenSpec.upto fnExactConCheckSpec)

/-- 'laws.FnExactTreCheck', WHERE WHAT IT READS IS OF BULK AT MOST 1048576: true; the input reads as it did. -/
def fnExactTreCheckUptoRow : OpenClaim := { program := "ytjacddjmconfaaa", sum := "8ee188aa38f3086b15047b9fed0e746d9e8dd65cf5ea2e3c2fcf4cb5694467e5", func := "loop.example/stileway/laws.FnExactTreCheck", spec := "fnExactTreCheck", unfollowed := true, recurses := true, apart := false, narrowed := true }
def FnExactTreCheckUptoSaid : Prop := fnExactTreCheckUptoRow.holds Try.pinned (OpenSpec.upto fnExactTreCheckSpec)

/-- 'laws.FnExactTreProof', WHERE WHAT IT READS IS OF BULK AT MOST 1048576: true; the input reads as it did. -/
def fnExactTreProofUptoRow : OpenClaim := { program := "ytjacddjmconfaaa", sum := "8ee188aa38f3086b15047b9fed0e746d9e8dd65cf5ea2e3c2fcf4cb5694467e5", func := "loop.example/stileway/laws.FnExactTreProof", spec := "fnExactTreProof", unfollowed := true, recurses := true, apart := false, narrowed := true }
def FnExactTreProofUptoSaid : Prop := fnExactTreProofUptoRow.holds Try.pinned (OpenSpec.upto fnExactTreProofSpec)

/-- 'laws.FnExactConProof', WHERE WHAT IT READS IS OF BULK AT MOST 1048576: true; the input reads as it did. -/
def fnExactConProofUptoRow : OpenClaim := { program := "ytjacddjmconfaaa", sum := "8ee188aa38f3086b15047b9fed0e746d9e8dd65cf5ea2e3c2fcf4cb5694467e5", func := "loop.example/stileway/laws.FnExactConProof", spec := "fnExactConProof", unfollowed := true, recurses := true, apart := false, narrowed := true }
def FnExactConProofUptoSaid : Prop := fnExactConProofUptoRow.holds Try.pinned (OpenSpec.upto fnExactConProofSpec)

/-- 'laws.FnExactTreClash', WHERE WHAT IT READS IS OF BULK AT MOST 1048576: true; the input reads as it did. -/
def fnExactTreClashUptoRow : OpenClaim := { program := "ytjacddjmconfaaa", sum := "8ee188aa38f3086b15047b9fed0e746d9e8dd65cf5ea2e3c2fcf4cb5694467e5", func := "loop.example/stileway/laws.FnExactTreClash", spec := "fnExactTreClash", unfollowed := true, recurses := true, apart := false, narrowed := true }
def FnExactTreClashUptoSaid : Prop := fnExactTreClashUptoRow.holds Try.pinned (OpenSpec.upto fnExactTreClashSpec)

/-- 'laws.FnExactOwnCheck', WHERE WHAT IT READS IS OF BULK AT MOST 1048576: true; the input reads as it did. -/
def fnExactOwnCheckUptoRow : OpenClaim := { program := "ytjacddjmconfaaa", sum := "8ee188aa38f3086b15047b9fed0e746d9e8dd65cf5ea2e3c2fcf4cb5694467e5", func := "loop.example/stileway/laws.FnExactOwnCheck", spec := "fnExactOwnCheck", unfollowed := true, recurses := true, apart := false, narrowed := true }
def FnExactOwnCheckUptoSaid : Prop := fnExactOwnCheckUptoRow.holds Try.pinned (OpenSpec.upto fnExactOwnCheckSpec)

/-- 'laws.FnExactOwnRoot', WHERE WHAT IT READS IS OF BULK AT MOST 1048576: true; the input reads as it did. -/
def fnExactOwnRootUptoRow : OpenClaim := { program := "ytjacddjmconfaaa", sum := "8ee188aa38f3086b15047b9fed0e746d9e8dd65cf5ea2e3c2fcf4cb5694467e5", func := "loop.example/stileway/laws.FnExactOwnRoot", spec := "fnExactOwnRoot", unfollowed := true, recurses := true, apart := false, narrowed := true }
def FnExactOwnRootUptoSaid : Prop := fnExactOwnRootUptoRow.holds Try.pinned (OpenSpec.upto fnExactOwnRootSpec)

/-- 'laws.FnExactEntOk', WHERE WHAT IT READS IS OF BULK AT MOST 1048576: true; the input reads as it did. -/
def fnExactEntOkUptoRow : OpenClaim := { program := "ytjacddjmconfaaa", sum := "8ee188aa38f3086b15047b9fed0e746d9e8dd65cf5ea2e3c2fcf4cb5694467e5", func := "loop.example/stileway/laws.FnExactEntOk", spec := "fnExactEntOk", apart := false, narrowed := true }
def FnExactEntOkUptoSaid : Prop := fnExactEntOkUptoRow.holds Try.pinned (OpenSpec.upto fnExactEntOkSpec)

end Rows
end Go.Proofs.Ytjacddjmconfaaa
