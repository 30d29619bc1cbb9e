/-
  No cell of these rows narrows 'for every input' (looked for: loops, veiled, ifaces, maps, wideKeys, modest, calm, conditions, laid).
  DERIVED. THE GIVEN ROWS OF THIS SEAT. 6 by the template 'for every input the law returns true; each argument reads behind the call as it read before'; 0 by the template 'total and deterministic' (their statements: YtohjbagpeenloaaTotals.lean).
  GIVEN WITH THE SEED: the statements are not yours to turn. If you find one false, say at which input.
  Laid BY PROGRAM, IN A SANDBOX (cutbox-rows.mjs): the forced cells as the released guide's own fill.sh prints them over the translation 06b2409a368b8a64… (all of the seat's roots in one cut). By AI agents, Wed Nov 11 2026. No macro, syntax, notation, axiom, sorry.
-/
import Derived.Test.YtohjbagpeenloaaChecked
import GoSem.Claim
import GoSem.ClaimJoined
import GoSem.ClaimMapViews
import Derived.JoinedTies
import Derived.KernelRfl
namespace Go.Proofs.Ytohjbagpeenloaa
/- THE CELL 'sum', in the pinned program and in every row, IS THE sha256 OF THE DUMP (.gsa) THAT YtohjbagpeenloaaProg.lean LOADS. Nothing in Lean hashes anything: it is a label: what it is worth is what the hold of that sum in a sandbox is worth. -/
noncomputable def Try.pinned : Pinned := { name := "ytohjbagpeenloaa", sum := "06b2409a368b8a648bd510f350571a1b7180d5912da1b2ece6ba81dcf58d9401", checked := Try.checked }
namespace Rows
def none {H : Type} : Left H := { results := [], args := [] }

/-- 'laws.FnExactConstants': WHATEVER THE INPUT: true; the input reads as it did. -/
def fnExactConstantsSpec : ChangeSpec := { name := "fnExactConstants", fn := fun _ => fun
  | [] => { results := [.lit (.bool true)], args := [] }
  | _ => none }
def fnExactConstantsRow : OpenClaim := { program := "ytohjbagpeenloaa", sum := "06b2409a368b8a648bd510f350571a1b7180d5912da1b2ece6ba81dcf58d9401", func := "loop.example/stileway/laws.FnExactConstants", spec := "fnExactConstants", apart := false }
def FnExactConstantsSaid : Prop := fnExactConstantsRow.holds Try.pinned (OpenSpec.ofChange fnExactConstantsSpec)

/-- ITS FALSE NEIGHBOUR: 'it returns false'. Refute it at one input. -/
def fnExactConstantsWrong : ChangeSpec := { name := "fnExactConstants", fn := fun _ => fun
  | [] => { results := [.lit (.bool false)], args := [] }
  | _ => none }
def FnExactConstantsWrongFalsely : Prop := fnExactConstantsRow.holds Try.pinned (OpenSpec.ofChange fnExactConstantsWrong)

/-- 'laws.FnExactMixOk': WHATEVER THE INPUT: true; the input reads as it did. -/
def fnExactMixOkSpec : ChangeSpec := { name := "fnExactMixOk", fn := fun _ => fun
  | [d] => { results := [.lit (.bool true)], args := [d] }
  | _ => none }
def fnExactMixOkRow : OpenClaim := { program := "ytohjbagpeenloaa", sum := "06b2409a368b8a648bd510f350571a1b7180d5912da1b2ece6ba81dcf58d9401", func := "loop.example/stileway/laws.FnExactMixOk", spec := "fnExactMixOk", apart := false }
def FnExactMixOkSaid : Prop := fnExactMixOkRow.holds Try.pinned (OpenSpec.ofChange fnExactMixOkSpec)

/-- ITS FALSE NEIGHBOUR: 'it returns false'. Refute it at one input. -/
def fnExactMixOkWrong : ChangeSpec := { name := "fnExactMixOk", fn := fun _ => fun
  | [d] => { results := [.lit (.bool false)], args := [d] }
  | _ => none }
def FnExactMixOkWrongFalsely : Prop := fnExactMixOkRow.holds Try.pinned (OpenSpec.ofChange fnExactMixOkWrong)

/-- 'laws.FnExactEntCap': WHATEVER THE INPUT: true; the input reads as it did. -/
def fnExactEntCapSpec : ChangeSpec := { name := "fnExactEntCap", fn := fun _ => fun
  | [d] => { results := [.lit (.bool true)], args := [d] }
  | _ => none }
def fnExactEntCapRow : OpenClaim := { program := "ytohjbagpeenloaa", sum := "06b2409a368b8a648bd510f350571a1b7180d5912da1b2ece6ba81dcf58d9401", func := "loop.example/stileway/laws.FnExactEntCap", spec := "fnExactEntCap", apart := false }
def FnExactEntCapSaid : Prop := fnExactEntCapRow.holds Try.pinned (OpenSpec.ofChange fnExactEntCapSpec)

/-- ITS FALSE NEIGHBOUR: 'it returns false'. Refute it at one input. -/
def fnExactEntCapWrong : ChangeSpec := { name := "fnExactEntCap", fn := fun _ => fun
  | [d] => { results := [.lit (.bool false)], args := [d] }
  | _ => none }
def FnExactEntCapWrongFalsely : Prop := fnExactEntCapRow.holds Try.pinned (OpenSpec.ofChange fnExactEntCapWrong)

/-- 'laws.FnExactMixPair': WHATEVER THE INPUT: true; the input reads as it did. -/
def fnExactMixPairSpec : ChangeSpec := { name := "fnExactMixPair", fn := fun _ => fun
  | [d1, d2] => { results := [.lit (.bool true)], args := [d1, d2] }
  | _ => none }
def fnExactMixPairRow : OpenClaim := { program := "ytohjbagpeenloaa", sum := "06b2409a368b8a648bd510f350571a1b7180d5912da1b2ece6ba81dcf58d9401", func := "loop.example/stileway/laws.FnExactMixPair", spec := "fnExactMixPair", apart := false }
def FnExactMixPairSaid : Prop := fnExactMixPairRow.holds Try.pinned (OpenSpec.ofChange fnExactMixPairSpec)

/-- ITS FALSE NEIGHBOUR: 'it returns false'. Refute it at one input. -/
def fnExactMixPairWrong : ChangeSpec := { name := "fnExactMixPair", fn := fun _ => fun
  | [d1, d2] => { results := [.lit (.bool false)], args := [d1, d2] }
  | _ => none }
def FnExactMixPairWrongFalsely : Prop := fnExactMixPairRow.holds Try.pinned (OpenSpec.ofChange fnExactMixPairWrong)

/-- 'laws.FnExactTreSplit': WHATEVER THE INPUT: true; the input reads as it did. -/
def fnExactTreSplitSpec : ChangeSpec := { name := "fnExactTreSplit", fn := fun _ => fun
  | [d] => { results := [.lit (.bool true)], args := [d] }
  | _ => none }
def fnExactTreSplitRow : OpenClaim := { program := "ytohjbagpeenloaa", sum := "06b2409a368b8a648bd510f350571a1b7180d5912da1b2ece6ba81dcf58d9401", func := "loop.example/stileway/laws.FnExactTreSplit", spec := "fnExactTreSplit", apart := false }
def FnExactTreSplitSaid : Prop := fnExactTreSplitRow.holds Try.pinned (OpenSpec.ofChange fnExactTreSplitSpec)

/-- ITS FALSE NEIGHBOUR: 'it returns false'. Refute it at one input. -/
def fnExactTreSplitWrong : ChangeSpec := { name := "fnExactTreSplit", fn := fun _ => fun
  | [d] => { results := [.lit (.bool false)], args := [d] }
  | _ => none }
def FnExactTreSplitWrongFalsely : Prop := fnExactTreSplitRow.holds Try.pinned (OpenSpec.ofChange fnExactTreSplitWrong)

/-- 'laws.FnTreCheck': WHATEVER THE INPUT: true; the input reads as it did. -/
def fnTreCheckSpec : ChangeSpec := { name := "fnTreCheck", fn := fun _ => fun
  | [d] => { results := [.lit (.bool true)], args := [d] }
  | _ => none }
def fnTreCheckRow : OpenClaim := { program := "ytohjbagpeenloaa", sum := "06b2409a368b8a648bd510f350571a1b7180d5912da1b2ece6ba81dcf58d9401", func := "loop.example/stileway/laws.FnTreCheck", spec := "fnTreCheck", unfollowed := true, recurses := true, apart := false }
def FnTreCheckSaid : Prop := fnTreCheckRow.holds Try.pinned (OpenSpec.ofChange fnTreCheckSpec)

/-- ITS FALSE NEIGHBOUR: 'it returns false'. Refute it at one input. -/
def fnTreCheckWrong : ChangeSpec := { name := "fnTreCheck", fn := fun _ => fun
  | [d] => { results := [.lit (.bool false)], args := [d] }
  | _ => none }
def FnTreCheckWrongFalsely : Prop := fnTreCheckRow.holds Try.pinned (OpenSpec.ofChange fnTreCheckWrong)

/- THE SECOND FORM. 'bulk': how many values and letters a reading holds, each counted each time it is reached (what is shared counts as often as it is met; a slice's spare places count too). A statement '..UptoSaid' is the law's where the arguments, and the package variables that the reading takes, are together of bulk at most 1048576: NARROWER than '..Said'. Prove '..Said' where nothing that the law and all that it calls make is longer than what came in: it says more and counts as full. Else prove '..UptoSaid'. A law counts once. -/
mutual
def uptoBulk {H : Type} : DataW H → Nat
  | .lit (.string bytes) => bytes.length + 1
  | .lit _ => 1
  | .nil => 1
  | .ptr d => uptoBulk d + 1
  | .slice elems spare => uptoBulkAll elems + uptoBulkAll spare + 1
  | .agg parts => uptoBulkAll parts + 1
  | .iface _ d => uptoBulk d + 1
  | .map entries => uptoBulkEntries entries + 1
  | .held _ => 1
def uptoBulkAll {H : Type} : List (DataW H) → Nat
  | [] => 0
  | d :: r => uptoBulk d + uptoBulkAll r
def uptoBulkEntries {H : Type} : List (Lit × DataW H) → Nat
  | [] => 0
  | x :: r => uptoBulkEntry x + uptoBulkEntries r
def uptoBulkEntry {H : Type} : Lit × DataW H → Nat
  | (.string bytes, d) => bytes.length + uptoBulk d + 1
  | (_, d) => uptoBulk d + 1
 end
def uptoSmall : (H : Type) → List (DataW H) → Bool := fun _ ds => decide (uptoBulkAll ds ≤ 1048576)
def OpenSpec.upto (s : _root_.Go.ChangeSpec) : _root_.Go.OpenSpec := { _root_.Go.OpenSpec.ofChange s with cond := some uptoSmall }

/-- 'laws.FnExactConstants', WHERE WHAT IT READS IS OF BULK AT MOST 1048576: true; the input reads as it did. -/
def fnExactConstantsUptoRow : OpenClaim := { program := "ytohjbagpeenloaa", sum := "06b2409a368b8a648bd510f350571a1b7180d5912da1b2ece6ba81dcf58d9401", func := "loop.example/stileway/laws.FnExactConstants", spec := "fnExactConstants", apart := false, narrowed := true }
def FnExactConstantsUptoSaid : Prop := fnExactConstantsUptoRow.holds Try.pinned (OpenSpec.upto fnExactConstantsSpec)

/-- 'laws.FnExactMixOk', WHERE WHAT IT READS IS OF BULK AT MOST 1048576: true; the input reads as it did. -/
def fnExactMixOkUptoRow : OpenClaim := { program := "ytohjbagpeenloaa", sum := "06b2409a368b8a648bd510f350571a1b7180d5912da1b2ece6ba81dcf58d9401", func := "loop.example/stileway/laws.FnExactMixOk", spec := "fnExactMixOk", apart := false, narrowed := true }
def FnExactMixOkUptoSaid : Prop := fnExactMixOkUptoRow.holds Try.pinned (OpenSpec.upto fnExactMixOkSpec)

/-- 'laws.FnExactEntCap', WHERE WHAT IT READS IS OF BULK AT MOST 1048576: true; the input reads as it did. -/
def fnExactEntCapUptoRow : OpenClaim := { program := "ytohjbagpeenloaa", sum := "06b2409a368b8a648bd510f350571a1b7180d5912da1b2ece6ba81dcf58d9401", func := "loop.example/stileway/laws.FnExactEntCap", spec := "fnExactEntCap", apart := false, narrowed := true }
def FnExactEntCapUptoSaid : Prop := fnExactEntCapUptoRow.holds Try.pinned (OpenSpec.upto fnExactEntCapSpec)

/-- 'laws.FnExactMixPair', WHERE WHAT IT READS IS OF BULK AT MOST 1048576: true; the input reads as it did. -/
def fnExactMixPairUptoRow : OpenClaim := { program := "ytohjbagpeenloaa", sum := "06b2409a368b8a648bd510f350571a1b7180d5912da1b2ece6ba81dcf58d9401", func := "loop.example/stileway/laws.FnExactMixPair", spec := "fnExactMixPair", apart := false, narrowed := true }
def FnExactMixPairUptoSaid : Prop := fnExactMixPairUptoRow.holds Try.pinned (OpenSpec.upto fnExactMixPairSpec)

/-- 'laws.FnExactTreSplit', WHERE WHAT IT READS IS OF BULK AT MOST 1048576: true; the input reads as it did. -/
def fnExactTreSplitUptoRow : OpenClaim := { program := "ytohjbagpeenloaa", sum := "06b2409a368b8a648bd510f350571a1b7180d5912da1b2ece6ba81dcf58d9401", func := "loop.example/stileway/laws.FnExactTreSplit", spec := "fnExactTreSplit", apart := false, narrowed := true }
def FnExactTreSplitUptoSaid : Prop := fnExactTreSplitUptoRow.holds Try.pinned (OpenSpec.upto fnExactTreSplitSpec)

/-- 'laws.FnTreCheck', WHERE WHAT IT READS IS OF BULK AT MOST 1048576: true; the input reads as it did. -/
def fnTreCheckUptoRow : OpenClaim := { program := "ytohjbagpeenloaa", sum := "06b2409a368b8a648bd510f350571a1b7180d5912da1b2ece6ba81dcf58d9401", func := "loop.example/stileway/laws.FnTreCheck", spec := "fnTreCheck", unfollowed := true, recurses := true, apart := false, narrowed := true }
def FnTreCheckUptoSaid : Prop := fnTreCheckUptoRow.holds Try.pinned (OpenSpec.upto fnTreCheckSpec)

end Rows
end Go.Proofs.Ytohjbagpeenloaa
