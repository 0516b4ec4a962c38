/-
  No cell of these rows narrows 'for every input' (looked for: loops, veiled, ifaces, maps, wideKeys, modest, calm, conditions, laid).
  DERIVED. THE GIVEN ROWS OF THIS SEAT. 11 by the template 'for every input the law returns true; each argument reads behind the call as it read before'; 0 by the template 'total and deterministic' (their statements: YtfggfblneggncaaTotals.lean).
  GIVEN WITH THE SEED: the statements are not yours to turn. If you find one false, say at which input.
  Laid BY PROGRAM, IN A SANDBOX (cutbox-rows.mjs): the forced cells as the released guide's own fill.sh prints them over the translation 7e4b5d12ebdae912… (all of the seat's roots in one cut). By AI agents, Wed Nov 11 2026. No macro, syntax, notation, axiom, sorry.
-/
import Derived.Test.YtfggfblneggncaaChecked
import GoSem.Claim
import GoSem.ClaimJoined
import GoSem.ClaimMapViews
import Derived.JoinedTies
import Derived.KernelRfl
namespace Go.Proofs.Ytfggfblneggncaa
/- THE CELL 'sum', in the pinned program and in every row, IS THE sha256 OF THE DUMP (.gsa) THAT YtfggfblneggncaaProg.lean LOADS. Nothing in Lean hashes anything: it is a label: what it is worth is what the hold of that sum in a sandbox is worth. -/
noncomputable def Try.pinned : Pinned := { name := "ytfggfblneggncaa", sum := "7e4b5d12ebdae91283b11e2e4d82b3fd9cc1252e06e65e5a15ac537d4c749987", checked := Try.checked }
namespace Rows
def none {H : Type} : Left H := { results := [], args := [] }

/-- 'laws.FnExactLadderValid': WHATEVER THE INPUT: true; the input reads as it did. -/
def fnExactLadderValidSpec : ChangeSpec := { name := "fnExactLadderValid", fn := fun _ => fun
  | [d] => { results := [.lit (.bool true)], args := [d] }
  | _ => none }
def fnExactLadderValidRow : OpenClaim := { program := "ytfggfblneggncaa", sum := "7e4b5d12ebdae91283b11e2e4d82b3fd9cc1252e06e65e5a15ac537d4c749987", func := "loop.example/disclosurecontrol/laws.FnExactLadderValid", spec := "fnExactLadderValid", apart := false }
def FnExactLadderValidSaid : Prop := fnExactLadderValidRow.holds Try.pinned (OpenSpec.ofChange fnExactLadderValidSpec)

/-- ITS FALSE NEIGHBOUR: 'it returns false'. Refute it at one input. -/
def fnExactLadderValidWrong : ChangeSpec := { name := "fnExactLadderValid", fn := fun _ => fun
  | [d] => { results := [.lit (.bool false)], args := [d] }
  | _ => none }
def FnExactLadderValidWrongFalsely : Prop := fnExactLadderValidRow.holds Try.pinned (OpenSpec.ofChange fnExactLadderValidWrong)

/-- 'laws.FnLadder': WHATEVER THE INPUT: true; the input reads as it did. -/
def fnLadderSpec : ChangeSpec := { name := "fnLadder", fn := fun _ => fun
  | [d1, d2] => { results := [.lit (.bool true)], args := [d1, d2] }
  | _ => none }
def fnLadderRow : OpenClaim := { program := "ytfggfblneggncaa", sum := "7e4b5d12ebdae91283b11e2e4d82b3fd9cc1252e06e65e5a15ac537d4c749987", func := "loop.example/disclosurecontrol/laws.FnLadder", spec := "fnLadder", apart := false }
def FnLadderSaid : Prop := fnLadderRow.holds Try.pinned (OpenSpec.ofChange fnLadderSpec)

/-- ITS FALSE NEIGHBOUR: 'it returns false'. Refute it at one input. -/
def fnLadderWrong : ChangeSpec := { name := "fnLadder", fn := fun _ => fun
  | [d1, d2] => { results := [.lit (.bool false)], args := [d1, d2] }
  | _ => none }
def FnLadderWrongFalsely : Prop := fnLadderRow.holds Try.pinned (OpenSpec.ofChange fnLadderWrong)

/-- 'laws.FnExactLadderCode': WHATEVER THE INPUT: true; the input reads as it did. -/
def fnExactLadderCodeSpec : ChangeSpec := { name := "fnExactLadderCode", fn := fun _ => fun
  | [d1, d2, d3] => { results := [.lit (.bool true)], args := [d1, d2, d3] }
  | _ => none }
def fnExactLadderCodeRow : OpenClaim := { program := "ytfggfblneggncaa", sum := "7e4b5d12ebdae91283b11e2e4d82b3fd9cc1252e06e65e5a15ac537d4c749987", func := "loop.example/disclosurecontrol/laws.FnExactLadderCode", spec := "fnExactLadderCode", apart := false }
def FnExactLadderCodeSaid : Prop := fnExactLadderCodeRow.holds Try.pinned (OpenSpec.ofChange fnExactLadderCodeSpec)

/-- ITS FALSE NEIGHBOUR: 'it returns false'. Refute it at one input. -/
def fnExactLadderCodeWrong : ChangeSpec := { name := "fnExactLadderCode", fn := fun _ => fun
  | [d1, d2, d3] => { results := [.lit (.bool false)], args := [d1, d2, d3] }
  | _ => none }
def FnExactLadderCodeWrongFalsely : Prop := fnExactLadderCodeRow.holds Try.pinned (OpenSpec.ofChange fnExactLadderCodeWrong)

/-- 'laws.FnExactLadderGroups': WHATEVER THE INPUT: true; the input reads as it did. -/
def fnExactLadderGroupsSpec : ChangeSpec := { name := "fnExactLadderGroups", fn := fun _ => fun
  | [d1, d2] => { results := [.lit (.bool true)], args := [d1, d2] }
  | _ => none }
def fnExactLadderGroupsRow : OpenClaim := { program := "ytfggfblneggncaa", sum := "7e4b5d12ebdae91283b11e2e4d82b3fd9cc1252e06e65e5a15ac537d4c749987", func := "loop.example/disclosurecontrol/laws.FnExactLadderGroups", spec := "fnExactLadderGroups", apart := false }
def FnExactLadderGroupsSaid : Prop := fnExactLadderGroupsRow.holds Try.pinned (OpenSpec.ofChange fnExactLadderGroupsSpec)

/-- ITS FALSE NEIGHBOUR: 'it returns false'. Refute it at one input. -/
def fnExactLadderGroupsWrong : ChangeSpec := { name := "fnExactLadderGroups", fn := fun _ => fun
  | [d1, d2] => { results := [.lit (.bool false)], args := [d1, d2] }
  | _ => none }
def FnExactLadderGroupsWrongFalsely : Prop := fnExactLadderGroupsRow.holds Try.pinned (OpenSpec.ofChange fnExactLadderGroupsWrong)

/-- 'laws.FnLadderFlat': WHATEVER THE INPUT: true; the input reads as it did. -/
def fnLadderFlatSpec : ChangeSpec := { name := "fnLadderFlat", fn := fun _ => fun
  | [d] => { results := [.lit (.bool true)], args := [d] }
  | _ => none }
def fnLadderFlatRow : OpenClaim := { program := "ytfggfblneggncaa", sum := "7e4b5d12ebdae91283b11e2e4d82b3fd9cc1252e06e65e5a15ac537d4c749987", func := "loop.example/disclosurecontrol/laws.FnLadderFlat", spec := "fnLadderFlat", apart := false }
def FnLadderFlatSaid : Prop := fnLadderFlatRow.holds Try.pinned (OpenSpec.ofChange fnLadderFlatSpec)

/-- ITS FALSE NEIGHBOUR: 'it returns false'. Refute it at one input. -/
def fnLadderFlatWrong : ChangeSpec := { name := "fnLadderFlat", fn := fun _ => fun
  | [d] => { results := [.lit (.bool false)], args := [d] }
  | _ => none }
def FnLadderFlatWrongFalsely : Prop := fnLadderFlatRow.holds Try.pinned (OpenSpec.ofChange fnLadderFlatWrong)

/-- 'laws.FnLadderCode': WHATEVER THE INPUT: true; the input reads as it did. -/
def fnLadderCodeSpec : ChangeSpec := { name := "fnLadderCode", fn := fun _ => fun
  | [d] => { results := [.lit (.bool true)], args := [d] }
  | _ => none }
def fnLadderCodeRow : OpenClaim := { program := "ytfggfblneggncaa", sum := "7e4b5d12ebdae91283b11e2e4d82b3fd9cc1252e06e65e5a15ac537d4c749987", func := "loop.example/disclosurecontrol/laws.FnLadderCode", spec := "fnLadderCode", apart := false }
def FnLadderCodeSaid : Prop := fnLadderCodeRow.holds Try.pinned (OpenSpec.ofChange fnLadderCodeSpec)

/-- ITS FALSE NEIGHBOUR: 'it returns false'. Refute it at one input. -/
def fnLadderCodeWrong : ChangeSpec := { name := "fnLadderCode", fn := fun _ => fun
  | [d] => { results := [.lit (.bool false)], args := [d] }
  | _ => none }
def FnLadderCodeWrongFalsely : Prop := fnLadderCodeRow.holds Try.pinned (OpenSpec.ofChange fnLadderCodeWrong)

/-- 'laws.FnLadderFirst': WHATEVER THE INPUT: true; the input reads as it did. -/
def fnLadderFirstSpec : ChangeSpec := { name := "fnLadderFirst", fn := fun _ => fun
  | [d] => { results := [.lit (.bool true)], args := [d] }
  | _ => none }
def fnLadderFirstRow : OpenClaim := { program := "ytfggfblneggncaa", sum := "7e4b5d12ebdae91283b11e2e4d82b3fd9cc1252e06e65e5a15ac537d4c749987", func := "loop.example/disclosurecontrol/laws.FnLadderFirst", spec := "fnLadderFirst", apart := false }
def FnLadderFirstSaid : Prop := fnLadderFirstRow.holds Try.pinned (OpenSpec.ofChange fnLadderFirstSpec)

/-- ITS FALSE NEIGHBOUR: 'it returns false'. Refute it at one input. -/
def fnLadderFirstWrong : ChangeSpec := { name := "fnLadderFirst", fn := fun _ => fun
  | [d] => { results := [.lit (.bool false)], args := [d] }
  | _ => none }
def FnLadderFirstWrongFalsely : Prop := fnLadderFirstRow.holds Try.pinned (OpenSpec.ofChange fnLadderFirstWrong)

/-- 'laws.FnLadderLeast': WHATEVER THE INPUT: true; the input reads as it did. -/
def fnLadderLeastSpec : ChangeSpec := { name := "fnLadderLeast", fn := fun _ => fun
  | [d1, d2] => { results := [.lit (.bool true)], args := [d1, d2] }
  | _ => none }
def fnLadderLeastRow : OpenClaim := { program := "ytfggfblneggncaa", sum := "7e4b5d12ebdae91283b11e2e4d82b3fd9cc1252e06e65e5a15ac537d4c749987", func := "loop.example/disclosurecontrol/laws.FnLadderLeast", spec := "fnLadderLeast", apart := false }
def FnLadderLeastSaid : Prop := fnLadderLeastRow.holds Try.pinned (OpenSpec.ofChange fnLadderLeastSpec)

/-- ITS FALSE NEIGHBOUR: 'it returns false'. Refute it at one input. -/
def fnLadderLeastWrong : ChangeSpec := { name := "fnLadderLeast", fn := fun _ => fun
  | [d1, d2] => { results := [.lit (.bool false)], args := [d1, d2] }
  | _ => none }
def FnLadderLeastWrongFalsely : Prop := fnLadderLeastRow.holds Try.pinned (OpenSpec.ofChange fnLadderLeastWrong)

/-- 'laws.FnLadderSame': WHATEVER THE INPUT: true; the input reads as it did. -/
def fnLadderSameSpec : ChangeSpec := { name := "fnLadderSame", fn := fun _ => fun
  | [d] => { results := [.lit (.bool true)], args := [d] }
  | _ => none }
def fnLadderSameRow : OpenClaim := { program := "ytfggfblneggncaa", sum := "7e4b5d12ebdae91283b11e2e4d82b3fd9cc1252e06e65e5a15ac537d4c749987", func := "loop.example/disclosurecontrol/laws.FnLadderSame", spec := "fnLadderSame", apart := false }
def FnLadderSameSaid : Prop := fnLadderSameRow.holds Try.pinned (OpenSpec.ofChange fnLadderSameSpec)

/-- ITS FALSE NEIGHBOUR: 'it returns false'. Refute it at one input. -/
def fnLadderSameWrong : ChangeSpec := { name := "fnLadderSame", fn := fun _ => fun
  | [d] => { results := [.lit (.bool false)], args := [d] }
  | _ => none }
def FnLadderSameWrongFalsely : Prop := fnLadderSameRow.holds Try.pinned (OpenSpec.ofChange fnLadderSameWrong)

/-- 'laws.FnLadderGroups': WHATEVER THE INPUT: true; the input reads as it did. -/
def fnLadderGroupsSpec : ChangeSpec := { name := "fnLadderGroups", fn := fun _ => fun
  | [d] => { results := [.lit (.bool true)], args := [d] }
  | _ => none }
def fnLadderGroupsRow : OpenClaim := { program := "ytfggfblneggncaa", sum := "7e4b5d12ebdae91283b11e2e4d82b3fd9cc1252e06e65e5a15ac537d4c749987", func := "loop.example/disclosurecontrol/laws.FnLadderGroups", spec := "fnLadderGroups", apart := false }
def FnLadderGroupsSaid : Prop := fnLadderGroupsRow.holds Try.pinned (OpenSpec.ofChange fnLadderGroupsSpec)

/-- ITS FALSE NEIGHBOUR: 'it returns false'. Refute it at one input. -/
def fnLadderGroupsWrong : ChangeSpec := { name := "fnLadderGroups", fn := fun _ => fun
  | [d] => { results := [.lit (.bool false)], args := [d] }
  | _ => none }
def FnLadderGroupsWrongFalsely : Prop := fnLadderGroupsRow.holds Try.pinned (OpenSpec.ofChange fnLadderGroupsWrong)

/-- 'laws.FnLadderGroupsCodes': WHATEVER THE INPUT: true; the input reads as it did. -/
def fnLadderGroupsCodesSpec : ChangeSpec := { name := "fnLadderGroupsCodes", fn := fun _ => fun
  | [d] => { results := [.lit (.bool true)], args := [d] }
  | _ => none }
def fnLadderGroupsCodesRow : OpenClaim := { program := "ytfggfblneggncaa", sum := "7e4b5d12ebdae91283b11e2e4d82b3fd9cc1252e06e65e5a15ac537d4c749987", func := "loop.example/disclosurecontrol/laws.FnLadderGroupsCodes", spec := "fnLadderGroupsCodes", apart := false }
def FnLadderGroupsCodesSaid : Prop := fnLadderGroupsCodesRow.holds Try.pinned (OpenSpec.ofChange fnLadderGroupsCodesSpec)

/-- ITS FALSE NEIGHBOUR: 'it returns false'. Refute it at one input. -/
def fnLadderGroupsCodesWrong : ChangeSpec := { name := "fnLadderGroupsCodes", fn := fun _ => fun
  | [d] => { results := [.lit (.bool false)], args := [d] }
  | _ => none }
def FnLadderGroupsCodesWrongFalsely : Prop := fnLadderGroupsCodesRow.holds Try.pinned (OpenSpec.ofChange fnLadderGroupsCodesWrong)

/- THE SECOND FORM. 'bulk': how many values and letters a reading holds, each counted each time it is reached (what is shared counts as often as it is met; a slice's spare places count too). A statement '..UptoSaid' is the law's where the arguments, and the package variables that the reading takes, are together of bulk at most 1048576: NARROWER than '..Said'. Prove '..Said' where nothing that the law and all that it calls make is longer than what came in: it says more and counts as full. Else prove '..UptoSaid'. A law counts once. -/
mutual
def uptoBulk {H : Type} : DataW H → Nat
  | .lit (.string bytes) => bytes.length + 1
  | .lit _ => 1
  | .nil => 1
  | .ptr d => uptoBulk d + 1
  | .slice elems spare => uptoBulkAll elems + uptoBulkAll spare + 1
  | .agg parts => uptoBulkAll parts + 1
  | .iface _ d => uptoBulk d + 1
  | .map entries => uptoBulkEntries entries + 1
  | .held _ => 1
def uptoBulkAll {H : Type} : List (DataW H) → Nat
  | [] => 0
  | d :: r => uptoBulk d + uptoBulkAll r
def uptoBulkEntries {H : Type} : List (Lit × DataW H) → Nat
  | [] => 0
  | x :: r => uptoBulkEntry x + uptoBulkEntries r
def uptoBulkEntry {H : Type} : Lit × DataW H → Nat
  | (.string bytes, d) => bytes.length + uptoBulk d + 1
  | (_, d) => uptoBulk d + 1
 end
def uptoSmall : (H : Type) → List (DataW H) → Bool := fun _ ds => decide (uptoBulkAll ds ≤ 1048576)
def OpenSpec.upto (s : _root_.Go.ChangeSpec) : _root_.Go.OpenSpec := { _root_.Go.OpenSpec.ofChange s with cond := some uptoSmall }

/-- 'laws.FnExactLadderValid', WHERE WHAT IT READS IS OF BULK AT MOST 1048576: true; the input reads as it did. -/
def fnExactLadderValidUptoRow : OpenClaim := { program := "ytfggfblneggncaa", sum := "7e4b5d12ebdae91283b11e2e4d82b3fd9cc1252e06e65e5a15ac537d4c749987", func := "loop.example/disclosurecontrol/laws.FnExactLadderValid", spec := "fnExactLadderValid", apart := false, narrowed := true }
def FnExactLadderValidUptoSaid : Prop := fnExactLadderValidUptoRow.holds Try.pinned (OpenSpec.upto fnExactLadderValidSpec)

/-- 'laws.FnLadder', WHERE WHAT IT READS IS OF BULK AT MOST 1048576: true; the input reads as it did. -/
def fnLadderUptoRow : OpenClaim := { program := "ytfggfblneggncaa", sum := "7e4b5d12ebdae91283b11e2e4d82b3fd9cc1252e06e65e5a15ac537d4c749987", func := "loop.example/disclosurecontrol/laws.FnLadder", spec := "fnLadder", apart := false, narrowed := true }
def FnLadderUptoSaid : Prop := fnLadderUptoRow.holds Try.pinned (OpenSpec.upto fnLadderSpec)

/-- 'laws.FnExactLadderCode', WHERE WHAT IT READS IS OF BULK AT MOST 1048576: true; the input reads as it did. -/
def fnExactLadderCodeUptoRow : OpenClaim := { program := "ytfggfblneggncaa", sum := "7e4b5d12ebdae91283b11e2e4d82b3fd9cc1252e06e65e5a15ac537d4c749987", func := "loop.example/disclosurecontrol/laws.FnExactLadderCode", spec := "fnExactLadderCode", apart := false, narrowed := true }
def FnExactLadderCodeUptoSaid : Prop := fnExactLadderCodeUptoRow.holds Try.pinned (OpenSpec.upto fnExactLadderCodeSpec)

/-- 'laws.FnExactLadderGroups', WHERE WHAT IT READS IS OF BULK AT MOST 1048576: true; the input reads as it did. -/
def fnExactLadderGroupsUptoRow : OpenClaim := { program := "ytfggfblneggncaa", sum := "7e4b5d12ebdae91283b11e2e4d82b3fd9cc1252e06e65e5a15ac537d4c749987", func := "loop.example/disclosurecontrol/laws.FnExactLadderGroups", spec := "fnExactLadderGroups", apart := false, narrowed := true }
def FnExactLadderGroupsUptoSaid : Prop := fnExactLadderGroupsUptoRow.holds Try.pinned (OpenSpec.upto fnExactLadderGroupsSpec)

/-- 'laws.FnLadderFlat', WHERE WHAT IT READS IS OF BULK AT MOST 1048576: true; the input reads as it did. -/
def fnLadderFlatUptoRow : OpenClaim := { program := "ytfggfblneggncaa", sum := "7e4b5d12ebdae91283b11e2e4d82b3fd9cc1252e06e65e5a15ac537d4c749987", func := "loop.example/disclosurecontrol/laws.FnLadderFlat", spec := "fnLadderFlat", apart := false, narrowed := true }
def FnLadderFlatUptoSaid : Prop := fnLadderFlatUptoRow.holds Try.pinned (OpenSpec.upto fnLadderFlatSpec)

/-- 'laws.FnLadderCode', WHERE WHAT IT READS IS OF BULK AT MOST 1048576: true; the input reads as it did. -/
def fnLadderCodeUptoRow : OpenClaim := { program := "ytfggfblneggncaa", sum := "7e4b5d12ebdae91283b11e2e4d82b3fd9cc1252e06e65e5a15ac537d4c749987", func := "loop.example/disclosurecontrol/laws.FnLadderCode", spec := "fnLadderCode", apart := false, narrowed := true }
def FnLadderCodeUptoSaid : Prop := fnLadderCodeUptoRow.holds Try.pinned (OpenSpec.upto fnLadderCodeSpec)

/-- 'laws.FnLadderFirst', WHERE WHAT IT READS IS OF BULK AT MOST 1048576: true; the input reads as it did. -/
def fnLadderFirstUptoRow : OpenClaim := { program := "ytfggfblneggncaa", sum := "7e4b5d12ebdae91283b11e2e4d82b3fd9cc1252e06e65e5a15ac537d4c749987", func := "loop.example/disclosurecontrol/laws.FnLadderFirst", spec := "fnLadderFirst", apart := false, narrowed := true }
def FnLadderFirstUptoSaid : Prop := fnLadderFirstUptoRow.holds Try.pinned (OpenSpec.upto fnLadderFirstSpec)

/-- 'laws.FnLadderLeast', WHERE WHAT IT READS IS OF BULK AT MOST 1048576: true; the input reads as it did. -/
def fnLadderLeastUptoRow : OpenClaim := { program := "ytfggfblneggncaa", sum := "7e4b5d12ebdae91283b11e2e4d82b3fd9cc1252e06e65e5a15ac537d4c749987", func := "loop.example/disclosurecontrol/laws.FnLadderLeast", spec := "fnLadderLeast", apart := false, narrowed := true }
def FnLadderLeastUptoSaid : Prop := fnLadderLeastUptoRow.holds Try.pinned (OpenSpec.upto fnLadderLeastSpec)

/-- 'laws.FnLadderSame', WHERE WHAT IT READS IS OF BULK AT MOST 1048576: true; the input reads as it did. -/
def fnLadderSameUptoRow : OpenClaim := { program := "ytfggfblneggncaa", sum := "7e4b5d12ebdae91283b11e2e4d82b3fd9cc1252e06e65e5a15ac537d4c749987", func := "loop.example/disclosurecontrol/laws.FnLadderSame", spec := "fnLadderSame", apart := false, narrowed := true }
def FnLadderSameUptoSaid : Prop := fnLadderSameUptoRow.holds Try.pinned (OpenSpec.upto fnLadderSameSpec)

/-- 'laws.FnLadderGroups', WHERE WHAT IT READS IS OF BULK AT MOST 1048576: true; the input reads as it did. -/
def fnLadderGroupsUptoRow : OpenClaim := { program := "ytfggfblneggncaa", sum := "7e4b5d12ebdae91283b11e2e4d82b3fd9cc1252e06e65e5a15ac537d4c749987", func := "loop.example/disclosurecontrol/laws.FnLadderGroups", spec := "fnLadderGroups", apart := false, narrowed := true }
def FnLadderGroupsUptoSaid : Prop := fnLadderGroupsUptoRow.holds Try.pinned (OpenSpec.upto fnLadderGroupsSpec)

/-- 'laws.FnLadderGroupsCodes', WHERE WHAT IT READS IS OF BULK AT MOST 1048576: true; the input reads as it did. -/
def fnLadderGroupsCodesUptoRow : OpenClaim := { program := "ytfggfblneggncaa", sum := "7e4b5d12ebdae91283b11e2e4d82b3fd9cc1252e06e65e5a15ac537d4c749987", func := "loop.example/disclosurecontrol/laws.FnLadderGroupsCodes", spec := "fnLadderGroupsCodes", apart := false, narrowed := true }
def FnLadderGroupsCodesUptoSaid : Prop := fnLadderGroupsCodesUptoRow.holds Try.pinned (OpenSpec.upto fnLadderGroupsCodesSpec)

end Rows
end Go.Proofs.Ytfggfblneggncaa
