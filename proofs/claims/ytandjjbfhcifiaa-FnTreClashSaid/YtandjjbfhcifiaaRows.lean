/-
  No cell of these rows narrows 'for every input' (looked for: loops, veiled, ifaces, maps, wideKeys, modest, calm, conditions, laid).
  DERIVED. THE GIVEN ROWS OF THIS SEAT. 13 by the template 'for every input the law returns true; each argument reads behind the call as it read before'; 0 by the template 'total and deterministic' (their statements: YtandjjbfhcifiaaTotals.lean).
  GIVEN WITH THE SEED: the statements are not yours to turn. If you find one false, say at which input.
  Laid BY PROGRAM, IN A SANDBOX (cutbox-rows.mjs): the forced cells as the released guide's own fill.sh prints them over the translation 59a5810f203a5760… (all of the seat's roots in one cut). By AI agents, Wed Nov 11 2026. No macro, syntax, notation, axiom, sorry.
-/
import Derived.Test.YtandjjbfhcifiaaChecked
import GoSem.Claim
import GoSem.ClaimJoined
import GoSem.ClaimMapViews
import Derived.JoinedTies
import Derived.KernelRfl
namespace Go.Proofs.Ytandjjbfhcifiaa
/- THE CELL 'sum', in the pinned program and in every row, IS THE sha256 OF THE DUMP (.gsa) THAT YtandjjbfhcifiaaProg.lean LOADS. Nothing in Lean hashes anything: it is a label: what it is worth is what the hold of that sum in a sandbox is worth. -/
noncomputable def Try.pinned : Pinned := { name := "ytandjjbfhcifiaa", sum := "59a5810f203a5760088f37e66afcaa74b26ad554348fec598e5e93840a9b65ff", checked := Try.checked }
namespace Rows
def none {H : Type} : Left H := { results := [], args := [] }

/-- 'laws.FnMixPair': WHATEVER THE INPUT: true; the input reads as it did. -/
def fnMixPairSpec : ChangeSpec := { name := "fnMixPair", fn := fun _ => fun
  | [d1, d2] => { results := [.lit (.bool true)], args := [d1, d2] }
  | _ => none }
def fnMixPairRow : OpenClaim := { program := "ytandjjbfhcifiaa", sum := "59a5810f203a5760088f37e66afcaa74b26ad554348fec598e5e93840a9b65ff", func := "loop.example/stileway/laws.FnMixPair", spec := "fnMixPair", apart := false }
def FnMixPairSaid : Prop := fnMixPairRow.holds Try.pinned (OpenSpec.ofChange fnMixPairSpec)

/-- ITS FALSE NEIGHBOUR: 'it returns false'. Refute it at one input. -/
def fnMixPairWrong : ChangeSpec := { name := "fnMixPair", fn := fun _ => fun
  | [d1, d2] => { results := [.lit (.bool false)], args := [d1, d2] }
  | _ => none }
def FnMixPairWrongFalsely : Prop := fnMixPairRow.holds Try.pinned (OpenSpec.ofChange fnMixPairWrong)

/-- 'laws.FnMixLeaf': WHATEVER THE INPUT: true; the input reads as it did. -/
def fnMixLeafSpec : ChangeSpec := { name := "fnMixLeaf", fn := fun _ => fun
  | [d] => { results := [.lit (.bool true)], args := [d] }
  | _ => none }
def fnMixLeafRow : OpenClaim := { program := "ytandjjbfhcifiaa", sum := "59a5810f203a5760088f37e66afcaa74b26ad554348fec598e5e93840a9b65ff", func := "loop.example/stileway/laws.FnMixLeaf", spec := "fnMixLeaf", apart := false }
def FnMixLeafSaid : Prop := fnMixLeafRow.holds Try.pinned (OpenSpec.ofChange fnMixLeafSpec)

/-- ITS FALSE NEIGHBOUR: 'it returns false'. Refute it at one input. -/
def fnMixLeafWrong : ChangeSpec := { name := "fnMixLeaf", fn := fun _ => fun
  | [d] => { results := [.lit (.bool false)], args := [d] }
  | _ => none }
def FnMixLeafWrongFalsely : Prop := fnMixLeafRow.holds Try.pinned (OpenSpec.ofChange fnMixLeafWrong)

/-- 'laws.FnTreSplit': WHATEVER THE INPUT: true; the input reads as it did. -/
def fnTreSplitSpec : ChangeSpec := { name := "fnTreSplit", fn := fun _ => fun
  | [d] => { results := [.lit (.bool true)], args := [d] }
  | _ => none }
def fnTreSplitRow : OpenClaim := { program := "ytandjjbfhcifiaa", sum := "59a5810f203a5760088f37e66afcaa74b26ad554348fec598e5e93840a9b65ff", func := "loop.example/stileway/laws.FnTreSplit", spec := "fnTreSplit", apart := false }
def FnTreSplitSaid : Prop := fnTreSplitRow.holds Try.pinned (OpenSpec.ofChange fnTreSplitSpec)

/-- ITS FALSE NEIGHBOUR: 'it returns false'. Refute it at one input. -/
def fnTreSplitWrong : ChangeSpec := { name := "fnTreSplit", fn := fun _ => fun
  | [d] => { results := [.lit (.bool false)], args := [d] }
  | _ => none }
def FnTreSplitWrongFalsely : Prop := fnTreSplitRow.holds Try.pinned (OpenSpec.ofChange fnTreSplitWrong)

/-- 'laws.FnTreOk': WHATEVER THE INPUT: true; the input reads as it did. -/
def fnTreOkSpec : ChangeSpec := { name := "fnTreOk", fn := fun _ => fun
  | [d] => { results := [.lit (.bool true)], args := [d] }
  | _ => none }
def fnTreOkRow : OpenClaim := { program := "ytandjjbfhcifiaa", sum := "59a5810f203a5760088f37e66afcaa74b26ad554348fec598e5e93840a9b65ff", func := "loop.example/stileway/laws.FnTreOk", spec := "fnTreOk", unfollowed := true, recurses := true, apart := false }
def FnTreOkSaid : Prop := fnTreOkRow.holds Try.pinned (OpenSpec.ofChange fnTreOkSpec)

/-- ITS FALSE NEIGHBOUR: 'it returns false'. Refute it at one input. -/
def fnTreOkWrong : ChangeSpec := { name := "fnTreOk", fn := fun _ => fun
  | [d] => { results := [.lit (.bool false)], args := [d] }
  | _ => none }
def FnTreOkWrongFalsely : Prop := fnTreOkRow.holds Try.pinned (OpenSpec.ofChange fnTreOkWrong)

/-- 'laws.FnTreRoot': WHATEVER THE INPUT: true; the input reads as it did. -/
def fnTreRootSpec : ChangeSpec := { name := "fnTreRoot", fn := fun _ => fun
  | [d] => { results := [.lit (.bool true)], args := [d] }
  | _ => none }
def fnTreRootRow : OpenClaim := { program := "ytandjjbfhcifiaa", sum := "59a5810f203a5760088f37e66afcaa74b26ad554348fec598e5e93840a9b65ff", func := "loop.example/stileway/laws.FnTreRoot", spec := "fnTreRoot", unfollowed := true, recurses := true, apart := false }
def FnTreRootSaid : Prop := fnTreRootRow.holds Try.pinned (OpenSpec.ofChange fnTreRootSpec)

/-- ITS FALSE NEIGHBOUR: 'it returns false'. Refute it at one input. -/
def fnTreRootWrong : ChangeSpec := { name := "fnTreRoot", fn := fun _ => fun
  | [d] => { results := [.lit (.bool false)], args := [d] }
  | _ => none }
def FnTreRootWrongFalsely : Prop := fnTreRootRow.holds Try.pinned (OpenSpec.ofChange fnTreRootWrong)

/-- 'laws.FnTreProof': WHATEVER THE INPUT: true; the input reads as it did. -/
def fnTreProofSpec : ChangeSpec := { name := "fnTreProof", fn := fun _ => fun
  | [d] => { results := [.lit (.bool true)], args := [d] }
  | _ => none }
def fnTreProofRow : OpenClaim := { program := "ytandjjbfhcifiaa", sum := "59a5810f203a5760088f37e66afcaa74b26ad554348fec598e5e93840a9b65ff", func := "loop.example/stileway/laws.FnTreProof", spec := "fnTreProof", unfollowed := true, recurses := true, apart := false }
def FnTreProofSaid : Prop := fnTreProofRow.holds Try.pinned (OpenSpec.ofChange fnTreProofSpec)

/-- ITS FALSE NEIGHBOUR: 'it returns false'. Refute it at one input. -/
def fnTreProofWrong : ChangeSpec := { name := "fnTreProof", fn := fun _ => fun
  | [d] => { results := [.lit (.bool false)], args := [d] }
  | _ => none }
def FnTreProofWrongFalsely : Prop := fnTreProofRow.holds Try.pinned (OpenSpec.ofChange fnTreProofWrong)

/-- 'laws.FnTreCheck': WHATEVER THE INPUT: true; the input reads as it did. -/
def fnTreCheckSpec : ChangeSpec := { name := "fnTreCheck", fn := fun _ => fun
  | [d] => { results := [.lit (.bool true)], args := [d] }
  | _ => none }
def fnTreCheckRow : OpenClaim := { program := "ytandjjbfhcifiaa", sum := "59a5810f203a5760088f37e66afcaa74b26ad554348fec598e5e93840a9b65ff", func := "loop.example/stileway/laws.FnTreCheck", spec := "fnTreCheck", unfollowed := true, recurses := true, apart := false }
def FnTreCheckSaid : Prop := fnTreCheckRow.holds Try.pinned (OpenSpec.ofChange fnTreCheckSpec)

/-- ITS FALSE NEIGHBOUR: 'it returns false'. Refute it at one input. -/
def fnTreCheckWrong : ChangeSpec := { name := "fnTreCheck", fn := fun _ => fun
  | [d] => { results := [.lit (.bool false)], args := [d] }
  | _ => none }
def FnTreCheckWrongFalsely : Prop := fnTreCheckRow.holds Try.pinned (OpenSpec.ofChange fnTreCheckWrong)

/-- 'laws.FnTreUp': WHATEVER THE INPUT: true; the input reads as it did. -/
def fnTreUpSpec : ChangeSpec := { name := "fnTreUp", fn := fun _ => fun
  | [d] => { results := [.lit (.bool true)], args := [d] }
  | _ => none }
def fnTreUpRow : OpenClaim := { program := "ytandjjbfhcifiaa", sum := "59a5810f203a5760088f37e66afcaa74b26ad554348fec598e5e93840a9b65ff", func := "loop.example/stileway/laws.FnTreUp", spec := "fnTreUp", unfollowed := true, recurses := true, apart := false }
def FnTreUpSaid : Prop := fnTreUpRow.holds Try.pinned (OpenSpec.ofChange fnTreUpSpec)

/-- ITS FALSE NEIGHBOUR: 'it returns false'. Refute it at one input. -/
def fnTreUpWrong : ChangeSpec := { name := "fnTreUp", fn := fun _ => fun
  | [d] => { results := [.lit (.bool false)], args := [d] }
  | _ => none }
def FnTreUpWrongFalsely : Prop := fnTreUpRow.holds Try.pinned (OpenSpec.ofChange fnTreUpWrong)

/-- 'laws.FnTreClash': WHATEVER THE INPUT: true; the input reads as it did. -/
def fnTreClashSpec : ChangeSpec := { name := "fnTreClash", fn := fun _ => fun
  | [d] => { results := [.lit (.bool true)], args := [d] }
  | _ => none }
def fnTreClashRow : OpenClaim := { program := "ytandjjbfhcifiaa", sum := "59a5810f203a5760088f37e66afcaa74b26ad554348fec598e5e93840a9b65ff", func := "loop.example/stileway/laws.FnTreClash", spec := "fnTreClash", unfollowed := true, recurses := true, apart := false }
def FnTreClashSaid : Prop := fnTreClashRow.holds Try.pinned (OpenSpec.ofChange fnTreClashSpec)

/-- ITS FALSE NEIGHBOUR: 'it returns false'. Refute it at one input. -/
def fnTreClashWrong : ChangeSpec := { name := "fnTreClash", fn := fun _ => fun
  | [d] => { results := [.lit (.bool false)], args := [d] }
  | _ => none }
def FnTreClashWrongFalsely : Prop := fnTreClashRow.holds Try.pinned (OpenSpec.ofChange fnTreClashWrong)

/-- 'laws.FnTreOther': WHATEVER THE INPUT: true; the input reads as it did. -/
def fnTreOtherSpec : ChangeSpec := { name := "fnTreOther", fn := fun _ => fun
  | [d] => { results := [.lit (.bool true)], args := [d] }
  | _ => none }
def fnTreOtherRow : OpenClaim := { program := "ytandjjbfhcifiaa", sum := "59a5810f203a5760088f37e66afcaa74b26ad554348fec598e5e93840a9b65ff", func := "loop.example/stileway/laws.FnTreOther", spec := "fnTreOther", unfollowed := true, recurses := true, apart := false }
def FnTreOtherSaid : Prop := fnTreOtherRow.holds Try.pinned (OpenSpec.ofChange fnTreOtherSpec)

/-- ITS FALSE NEIGHBOUR: 'it returns false'. Refute it at one input. -/
def fnTreOtherWrong : ChangeSpec := { name := "fnTreOther", fn := fun _ => fun
  | [d] => { results := [.lit (.bool false)], args := [d] }
  | _ => none }
def FnTreOtherWrongFalsely : Prop := fnTreOtherRow.holds Try.pinned (OpenSpec.ofChange fnTreOtherWrong)

/-- 'laws.FnConProof': WHATEVER THE INPUT: true; the input reads as it did. -/
def fnConProofSpec : ChangeSpec := { name := "fnConProof", fn := fun _ => fun
  | [d] => { results := [.lit (.bool true)], args := [d] }
  | _ => none }
def fnConProofRow : OpenClaim := { program := "ytandjjbfhcifiaa", sum := "59a5810f203a5760088f37e66afcaa74b26ad554348fec598e5e93840a9b65ff", func := "loop.example/stileway/laws.FnConProof", spec := "fnConProof", unfollowed := true, recurses := true, apart := false }
def FnConProofSaid : Prop := fnConProofRow.holds Try.pinned (OpenSpec.ofChange fnConProofSpec)

/-- ITS FALSE NEIGHBOUR: 'it returns false'. Refute it at one input. -/
def fnConProofWrong : ChangeSpec := { name := "fnConProof", fn := fun _ => fun
  | [d] => { results := [.lit (.bool false)], args := [d] }
  | _ => none }
def FnConProofWrongFalsely : Prop := fnConProofRow.holds Try.pinned (OpenSpec.ofChange fnConProofWrong)

/-- 'laws.FnConCheck': WHATEVER THE INPUT: true; the input reads as it did. -/
def fnConCheckSpec : ChangeSpec := { name := "fnConCheck", fn := fun _ => fun
  | [d] => { results := [.lit (.bool true)], args := [d] }
  | _ => none }
def fnConCheckRow : OpenClaim := { program := "ytandjjbfhcifiaa", sum := "59a5810f203a5760088f37e66afcaa74b26ad554348fec598e5e93840a9b65ff", func := "loop.example/stileway/laws.FnConCheck", spec := "fnConCheck", unfollowed := true, recurses := true, apart := false }
def FnConCheckSaid : Prop := fnConCheckRow.holds Try.pinned (OpenSpec.ofChange fnConCheckSpec)

/-- ITS FALSE NEIGHBOUR: 'it returns false'. Refute it at one input. -/
def fnConCheckWrong : ChangeSpec := { name := "fnConCheck", fn := fun _ => fun
  | [d] => { results := [.lit (.bool false)], args := [d] }
  | _ => none }
def FnConCheckWrongFalsely : Prop := fnConCheckRow.holds Try.pinned (OpenSpec.ofChange fnConCheckWrong)

/-- 'laws.FnConStep': WHATEVER THE INPUT: true; the input reads as it did. -/
def fnConStepSpec : ChangeSpec := { name := "fnConStep", fn := fun _ => fun
  | [d] => { results := [.lit (.bool true)], args := [d] }
  | _ => none }
def fnConStepRow : OpenClaim := { program := "ytandjjbfhcifiaa", sum := "59a5810f203a5760088f37e66afcaa74b26ad554348fec598e5e93840a9b65ff", func := "loop.example/stileway/laws.FnConStep", spec := "fnConStep", unfollowed := true, recurses := true, apart := false }
def FnConStepSaid : Prop := fnConStepRow.holds Try.pinned (OpenSpec.ofChange fnConStepSpec)

/-- ITS FALSE NEIGHBOUR: 'it returns false'. Refute it at one input. -/
def fnConStepWrong : ChangeSpec := { name := "fnConStep", fn := fun _ => fun
  | [d] => { results := [.lit (.bool false)], args := [d] }
  | _ => none }
def FnConStepWrongFalsely : Prop := fnConStepRow.holds Try.pinned (OpenSpec.ofChange fnConStepWrong)

/- THE SECOND FORM. 'bulk': how many values and letters a reading holds, each counted each time it is reached (what is shared counts as often as it is met; a slice's spare places count too). A statement '..UptoSaid' is the law's where the arguments, and the package variables that the reading takes, are together of bulk at most 1048576: NARROWER than '..Said'. Prove '..Said' where nothing that the law and all that it calls make is longer than what came in: it says more and counts as full. Else prove '..UptoSaid'. A law counts once. -/
mutual
def uptoBulk {H : Type} : DataW H → Nat
  | .lit (.string bytes) => bytes.length + 1
  | .lit _ => 1
  | .nil => 1
  | .ptr d => uptoBulk d + 1
  | .slice elems spare => uptoBulkAll elems + uptoBulkAll spare + 1
  | .agg parts => uptoBulkAll parts + 1
  | .iface _ d => uptoBulk d + 1
  | .map entries => uptoBulkEntries entries + 1
  | .held _ => 1
def uptoBulkAll {H : Type} : List (DataW H) → Nat
  | [] => 0
  | d :: r => uptoBulk d + uptoBulkAll r
def uptoBulkEntries {H : Type} : List (Lit × DataW H) → Nat
  | [] => 0
  | x :: r => uptoBulkEntry x + uptoBulkEntries r
def uptoBulkEntry {H : Type} : Lit × DataW H → Nat
  | (.string bytes, d) => bytes.length + uptoBulk d + 1
  | (_, d) => uptoBulk d + 1
 end
def uptoSmall : (H : Type) → List (DataW H) → Bool := fun _ ds => decide (uptoBulkAll ds ≤ 1048576)
def OpenSpec.upto (s : _root_.Go.ChangeSpec) : _root_.Go.OpenSpec := { _root_.Go.OpenSpec.ofChange s with cond := some uptoSmall }

/-- 'laws.FnMixPair', WHERE WHAT IT READS IS OF BULK AT MOST 1048576: true; the input reads as it did. -/
def fnMixPairUptoRow : OpenClaim := { program := "ytandjjbfhcifiaa", sum := "59a5810f203a5760088f37e66afcaa74b26ad554348fec598e5e93840a9b65ff", func := "loop.example/stileway/laws.FnMixPair", spec := "fnMixPair", apart := false, narrowed := true }
def FnMixPairUptoSaid : Prop := fnMixPairUptoRow.holds Try.pinned (OpenSpec.upto fnMixPairSpec)

/-- 'laws.FnMixLeaf', WHERE WHAT IT READS IS OF BULK AT MOST 1048576: true; the input reads as it did. -/
def fnMixLeafUptoRow : OpenClaim := { program := "ytandjjbfhcifiaa", sum := "59a5810f203a5760088f37e66afcaa74b26ad554348fec598e5e93840a9b65ff", func := "loop.example/stileway/laws.FnMixLeaf", spec := "fnMixLeaf", apart := false, narrowed := true }
def FnMixLeafUptoSaid : Prop := fnMixLeafUptoRow.holds Try.pinned (OpenSpec.upto fnMixLeafSpec)

/-- 'laws.FnTreSplit', WHERE WHAT IT READS IS OF BULK AT MOST 1048576: true; the input reads as it did. -/
def fnTreSplitUptoRow : OpenClaim := { program := "ytandjjbfhcifiaa", sum := "59a5810f203a5760088f37e66afcaa74b26ad554348fec598e5e93840a9b65ff", func := "loop.example/stileway/laws.FnTreSplit", spec := "fnTreSplit", apart := false, narrowed := true }
def FnTreSplitUptoSaid : Prop := fnTreSplitUptoRow.holds Try.pinned (OpenSpec.upto fnTreSplitSpec)

/-- 'laws.FnTreOk', WHERE WHAT IT READS IS OF BULK AT MOST 1048576: true; the input reads as it did. -/
def fnTreOkUptoRow : OpenClaim := { program := "ytandjjbfhcifiaa", sum := "59a5810f203a5760088f37e66afcaa74b26ad554348fec598e5e93840a9b65ff", func := "loop.example/stileway/laws.FnTreOk", spec := "fnTreOk", unfollowed := true, recurses := true, apart := false, narrowed := true }
def FnTreOkUptoSaid : Prop := fnTreOkUptoRow.holds Try.pinned (OpenSpec.upto fnTreOkSpec)

/-- 'laws.FnTreRoot', WHERE WHAT IT READS IS OF BULK AT MOST 1048576: true; the input reads as it did. -/
def fnTreRootUptoRow : OpenClaim := { program := "ytandjjbfhcifiaa", sum := "59a5810f203a5760088f37e66afcaa74b26ad554348fec598e5e93840a9b65ff", func := "loop.example/stileway/laws.FnTreRoot", spec := "fnTreRoot", unfollowed := true, recurses := true, apart := false, narrowed := true }
def FnTreRootUptoSaid : Prop := fnTreRootUptoRow.holds Try.pinned (OpenSpec.upto fnTreRootSpec)

/-- 'laws.FnTreProof', WHERE WHAT IT READS IS OF BULK AT MOST 1048576: true; the input reads as it did. -/
def fnTreProofUptoRow : OpenClaim := { program := "ytandjjbfhcifiaa", sum := "59a5810f203a5760088f37e66afcaa74b26ad554348fec598e5e93840a9b65ff", func := "loop.example/stileway/laws.FnTreProof", spec := "fnTreProof", unfollowed := true, recurses := true, apart := false, narrowed := true }
def FnTreProofUptoSaid : Prop := fnTreProofUptoRow.holds Try.pinned (OpenSpec.upto fnTreProofSpec)

/-- 'laws.FnTreCheck', WHERE WHAT IT READS IS OF BULK AT MOST 1048576: true; the input reads as it did. -/
def fnTreCheckUptoRow : OpenClaim := { program := "ytandjjbfhcifiaa", sum := "59a5810f203a5760088f37e66afcaa74b26ad554348fec598e5e93840a9b65ff", func := "loop.example/stileway/laws.FnTreCheck", spec := "fnTreCheck", unfollowed := true, recurses := true, apart := false, narrowed := true }
def FnTreCheckUptoSaid : Prop := fnTreCheckUptoRow.holds Try.pinned (OpenSpec.upto fnTreCheckSpec)

/-- 'laws.FnTreUp', WHERE WHAT IT READS IS OF BULK AT MOST 1048576: true; the input reads as it did. -/
def fnTreUpUptoRow : OpenClaim := { program := "ytandjjbfhcifiaa", sum := "59a5810f203a5760088f37e66afcaa74b26ad554348fec598e5e93840a9b65ff", func := "loop.example/stileway/laws.FnTreUp", spec := "fnTreUp", unfollowed := true, recurses := true, apart := false, narrowed := true }
def FnTreUpUptoSaid : Prop := fnTreUpUptoRow.holds Try.pinned (OpenSpec.upto fnTreUpSpec)

/-- 'laws.FnTreClash', WHERE WHAT IT READS IS OF BULK AT MOST 1048576: true; the input reads as it did. -/
def fnTreClashUptoRow : OpenClaim := { program := "ytandjjbfhcifiaa", sum := "59a5810f203a5760088f37e66afcaa74b26ad554348fec598e5e93840a9b65ff", func := "loop.example/stileway/laws.FnTreClash", spec := "fnTreClash", unfollowed := true, recurses := true, apart := false, narrowed := true }
def FnTreClashUptoSaid : Prop := fnTreClashUptoRow.holds Try.pinned (OpenSpec.upto fnTreClashSpec)

/-- 'laws.FnTreOther', WHERE WHAT IT READS IS OF BULK AT MOST 1048576: true; the input reads as it did. -/
def fnTreOtherUptoRow : OpenClaim := { program := "ytandjjbfhcifiaa", sum := "59a5810f203a5760088f37e66afcaa74b26ad554348fec598e5e93840a9b65ff", func := "loop.example/stileway/laws.FnTreOther", spec := "fnTreOther", unfollowed := true, recurses := true, apart := false, narrowed := true }
def FnTreOtherUptoSaid : Prop := fnTreOtherUptoRow.holds Try.pinned (OpenSpec.upto fnTreOtherSpec)

/-- 'laws.FnConProof', WHERE WHAT IT READS IS OF BULK AT MOST 1048576: true; the input reads as it did. -/
def fnConProofUptoRow : OpenClaim := { program := "ytandjjbfhcifiaa", sum := "59a5810f203a5760088f37e66afcaa74b26ad554348fec598e5e93840a9b65ff", func := "loop.example/stileway/laws.FnConProof", spec := "fnConProof", unfollowed := true, recurses := true, apart := false, narrowed := true }
def FnConProofUptoSaid : Prop := fnConProofUptoRow.holds Try.pinned (OpenSpec.upto fnConProofSpec)

/-- 'laws.FnConCheck', WHERE WHAT IT READS IS OF BULK AT MOST 1048576: true; the input reads as it did. -/
def fnConCheckUptoRow : OpenClaim := { program := "ytandjjbfhcifiaa", sum := "59a5810f203a5760088f37e66afcaa74b26ad554348fec598e5e93840a9b65ff", func := "loop.example/stileway/laws.FnConCheck", spec := "fnConCheck", unfollowed := true, recurses := true, apart := false, narrowed := true }
def FnConCheckUptoSaid : Prop := fnConCheckUptoRow.holds Try.pinned (OpenSpec.upto fnConCheckSpec)

/-- 'laws.FnConStep', WHERE WHAT IT READS IS OF BULK AT MOST 1048576: true; the input reads as it did. -/
def fnConStepUptoRow : OpenClaim := { program := "ytandjjbfhcifiaa", sum := "59a5810f203a5760088f37e66afcaa74b26ad554348fec598e5e93840a9b65ff", func := "loop.example/stileway/laws.FnConStep", spec := "fnConStep", unfollowed := true, recurses := true, apart := false, narrowed := true }
def FnConStepUptoSaid : Prop := fnConStepUptoRow.holds Try.pinned (OpenSpec.upto fnConStepSpec)

end Rows
end Go.Proofs.Ytandjjbfhcifiaa
