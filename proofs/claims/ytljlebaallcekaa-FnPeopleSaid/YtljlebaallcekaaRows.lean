/-
  No cell of these rows narrows 'for every input' (looked for: loops, veiled, ifaces, maps, wideKeys, modest, calm, conditions, laid).
  DERIVED. THE GIVEN ROWS OF THIS SEAT. 8 by the template 'for every input the law returns true; each argument reads behind the call as it read before'; 0 by the template 'total and deterministic' (their statements: YtljlebaallcekaaTotals.lean).
  GIVEN WITH THE SEED: the statements are not yours to turn. If you find one false, say at which input.
  Laid BY PROGRAM, IN A SANDBOX (cutbox-rows.mjs): the forced cells as the released guide's own fill.sh prints them over the translation 0744f9923f6007ac… (all of the seat's roots in one cut). By AI agents, Wed Nov 11 2026. No macro, syntax, notation, axiom, sorry.
-/
import Derived.Test.YtljlebaallcekaaChecked
import GoSem.Claim
import GoSem.ClaimJoined
import GoSem.ClaimMapViews
import Derived.JoinedTies
import Derived.KernelRfl
namespace Go.Proofs.Ytljlebaallcekaa
/- THE CELL 'sum', in the pinned program and in every row, IS THE sha256 OF THE DUMP (.gsa) THAT YtljlebaallcekaaProg.lean LOADS. Nothing in Lean hashes anything: it is a label: what it is worth is what the hold of that sum in a sandbox is worth. -/
noncomputable def Try.pinned : Pinned := { name := "ytljlebaallcekaa", sum := "0744f9923f6007ac15e3ed2e203192f8a3a4282f28c6e9aa0febb15e81af3bd2", checked := Try.checked }
namespace Rows
def none {H : Type} : Left H := { results := [], args := [] }

/-- 'laws.FnExactConstants': WHATEVER THE INPUT: true; the input reads as it did. -/
def fnExactConstantsSpec : ChangeSpec := { name := "fnExactConstants", fn := fun _ => fun
  | [] => { results := [.lit (.bool true)], args := [] }
  | _ => none }
def fnExactConstantsRow : OpenClaim := { program := "ytljlebaallcekaa", sum := "0744f9923f6007ac15e3ed2e203192f8a3a4282f28c6e9aa0febb15e81af3bd2", func := "loop.example/disclosurecontrol/laws.FnExactConstants", spec := "fnExactConstants", apart := false }
def FnExactConstantsSaid : Prop := fnExactConstantsRow.holds Try.pinned (OpenSpec.ofChange fnExactConstantsSpec)

/-- ITS FALSE NEIGHBOUR: 'it returns false'. Refute it at one input. -/
def fnExactConstantsWrong : ChangeSpec := { name := "fnExactConstants", fn := fun _ => fun
  | [] => { results := [.lit (.bool false)], args := [] }
  | _ => none }
def FnExactConstantsWrongFalsely : Prop := fnExactConstantsRow.holds Try.pinned (OpenSpec.ofChange fnExactConstantsWrong)

/-- 'laws.FnExactPeopleBand': WHATEVER THE INPUT: true; the input reads as it did. -/
def fnExactPeopleBandSpec : ChangeSpec := { name := "fnExactPeopleBand", fn := fun _ => fun
  | [d] => { results := [.lit (.bool true)], args := [d] }
  | _ => none }
def fnExactPeopleBandRow : OpenClaim := { program := "ytljlebaallcekaa", sum := "0744f9923f6007ac15e3ed2e203192f8a3a4282f28c6e9aa0febb15e81af3bd2", func := "loop.example/disclosurecontrol/laws.FnExactPeopleBand", spec := "fnExactPeopleBand", apart := false }
def FnExactPeopleBandSaid : Prop := fnExactPeopleBandRow.holds Try.pinned (OpenSpec.ofChange fnExactPeopleBandSpec)

/-- ITS FALSE NEIGHBOUR: 'it returns false'. Refute it at one input. -/
def fnExactPeopleBandWrong : ChangeSpec := { name := "fnExactPeopleBand", fn := fun _ => fun
  | [d] => { results := [.lit (.bool false)], args := [d] }
  | _ => none }
def FnExactPeopleBandWrongFalsely : Prop := fnExactPeopleBandRow.holds Try.pinned (OpenSpec.ofChange fnExactPeopleBandWrong)

/-- 'laws.FnExactPersonValid': WHATEVER THE INPUT: true; the input reads as it did. -/
def fnExactPersonValidSpec : ChangeSpec := { name := "fnExactPersonValid", fn := fun _ => fun
  | [d] => { results := [.lit (.bool true)], args := [d] }
  | _ => none }
def fnExactPersonValidRow : OpenClaim := { program := "ytljlebaallcekaa", sum := "0744f9923f6007ac15e3ed2e203192f8a3a4282f28c6e9aa0febb15e81af3bd2", func := "loop.example/disclosurecontrol/laws.FnExactPersonValid", spec := "fnExactPersonValid", apart := false }
def FnExactPersonValidSaid : Prop := fnExactPersonValidRow.holds Try.pinned (OpenSpec.ofChange fnExactPersonValidSpec)

/-- ITS FALSE NEIGHBOUR: 'it returns false'. Refute it at one input. -/
def fnExactPersonValidWrong : ChangeSpec := { name := "fnExactPersonValid", fn := fun _ => fun
  | [d] => { results := [.lit (.bool false)], args := [d] }
  | _ => none }
def FnExactPersonValidWrongFalsely : Prop := fnExactPersonValidRow.holds Try.pinned (OpenSpec.ofChange fnExactPersonValidWrong)

/-- 'laws.FnPeopleBand': WHATEVER THE INPUT: true; the input reads as it did. -/
def fnPeopleBandSpec : ChangeSpec := { name := "fnPeopleBand", fn := fun _ => fun
  | [d] => { results := [.lit (.bool true)], args := [d] }
  | _ => none }
def fnPeopleBandRow : OpenClaim := { program := "ytljlebaallcekaa", sum := "0744f9923f6007ac15e3ed2e203192f8a3a4282f28c6e9aa0febb15e81af3bd2", func := "loop.example/disclosurecontrol/laws.FnPeopleBand", spec := "fnPeopleBand", apart := false }
def FnPeopleBandSaid : Prop := fnPeopleBandRow.holds Try.pinned (OpenSpec.ofChange fnPeopleBandSpec)

/-- ITS FALSE NEIGHBOUR: 'it returns false'. Refute it at one input. -/
def fnPeopleBandWrong : ChangeSpec := { name := "fnPeopleBand", fn := fun _ => fun
  | [d] => { results := [.lit (.bool false)], args := [d] }
  | _ => none }
def FnPeopleBandWrongFalsely : Prop := fnPeopleBandRow.holds Try.pinned (OpenSpec.ofChange fnPeopleBandWrong)

/-- 'laws.FnPeopleBandRises': WHATEVER THE INPUT: true; the input reads as it did. -/
def fnPeopleBandRisesSpec : ChangeSpec := { name := "fnPeopleBandRises", fn := fun _ => fun
  | [d] => { results := [.lit (.bool true)], args := [d] }
  | _ => none }
def fnPeopleBandRisesRow : OpenClaim := { program := "ytljlebaallcekaa", sum := "0744f9923f6007ac15e3ed2e203192f8a3a4282f28c6e9aa0febb15e81af3bd2", func := "loop.example/disclosurecontrol/laws.FnPeopleBandRises", spec := "fnPeopleBandRises", apart := false }
def FnPeopleBandRisesSaid : Prop := fnPeopleBandRisesRow.holds Try.pinned (OpenSpec.ofChange fnPeopleBandRisesSpec)

/-- ITS FALSE NEIGHBOUR: 'it returns false'. Refute it at one input. -/
def fnPeopleBandRisesWrong : ChangeSpec := { name := "fnPeopleBandRises", fn := fun _ => fun
  | [d] => { results := [.lit (.bool false)], args := [d] }
  | _ => none }
def FnPeopleBandRisesWrongFalsely : Prop := fnPeopleBandRisesRow.holds Try.pinned (OpenSpec.ofChange fnPeopleBandRisesWrong)

/-- 'laws.FnPerson': WHATEVER THE INPUT: true; the input reads as it did. -/
def fnPersonSpec : ChangeSpec := { name := "fnPerson", fn := fun _ => fun
  | [d] => { results := [.lit (.bool true)], args := [d] }
  | _ => none }
def fnPersonRow : OpenClaim := { program := "ytljlebaallcekaa", sum := "0744f9923f6007ac15e3ed2e203192f8a3a4282f28c6e9aa0febb15e81af3bd2", func := "loop.example/disclosurecontrol/laws.FnPerson", spec := "fnPerson", apart := false }
def FnPersonSaid : Prop := fnPersonRow.holds Try.pinned (OpenSpec.ofChange fnPersonSpec)

/-- ITS FALSE NEIGHBOUR: 'it returns false'. Refute it at one input. -/
def fnPersonWrong : ChangeSpec := { name := "fnPerson", fn := fun _ => fun
  | [d] => { results := [.lit (.bool false)], args := [d] }
  | _ => none }
def FnPersonWrongFalsely : Prop := fnPersonRow.holds Try.pinned (OpenSpec.ofChange fnPersonWrong)

/-- 'laws.FnExactPeopleValid': WHATEVER THE INPUT: true; the input reads as it did. -/
def fnExactPeopleValidSpec : ChangeSpec := { name := "fnExactPeopleValid", fn := fun _ => fun
  | [d] => { results := [.lit (.bool true)], args := [d] }
  | _ => none }
def fnExactPeopleValidRow : OpenClaim := { program := "ytljlebaallcekaa", sum := "0744f9923f6007ac15e3ed2e203192f8a3a4282f28c6e9aa0febb15e81af3bd2", func := "loop.example/disclosurecontrol/laws.FnExactPeopleValid", spec := "fnExactPeopleValid", apart := false }
def FnExactPeopleValidSaid : Prop := fnExactPeopleValidRow.holds Try.pinned (OpenSpec.ofChange fnExactPeopleValidSpec)

/-- ITS FALSE NEIGHBOUR: 'it returns false'. Refute it at one input. -/
def fnExactPeopleValidWrong : ChangeSpec := { name := "fnExactPeopleValid", fn := fun _ => fun
  | [d] => { results := [.lit (.bool false)], args := [d] }
  | _ => none }
def FnExactPeopleValidWrongFalsely : Prop := fnExactPeopleValidRow.holds Try.pinned (OpenSpec.ofChange fnExactPeopleValidWrong)

/-- 'laws.FnPeople': WHATEVER THE INPUT: true; the input reads as it did. -/
def fnPeopleSpec : ChangeSpec := { name := "fnPeople", fn := fun _ => fun
  | [d1, d2] => { results := [.lit (.bool true)], args := [d1, d2] }
  | _ => none }
def fnPeopleRow : OpenClaim := { program := "ytljlebaallcekaa", sum := "0744f9923f6007ac15e3ed2e203192f8a3a4282f28c6e9aa0febb15e81af3bd2", func := "loop.example/disclosurecontrol/laws.FnPeople", spec := "fnPeople", apart := false }
def FnPeopleSaid : Prop := fnPeopleRow.holds Try.pinned (OpenSpec.ofChange fnPeopleSpec)

/-- ITS FALSE NEIGHBOUR: 'it returns false'. Refute it at one input. -/
def fnPeopleWrong : ChangeSpec := { name := "fnPeople", fn := fun _ => fun
  | [d1, d2] => { results := [.lit (.bool false)], args := [d1, d2] }
  | _ => none }
def FnPeopleWrongFalsely : Prop := fnPeopleRow.holds Try.pinned (OpenSpec.ofChange fnPeopleWrong)

/- THE SECOND FORM. 'bulk': how many values and letters a reading holds, each counted each time it is reached (what is shared counts as often as it is met; a slice's spare places count too). A statement '..UptoSaid' is the law's where the arguments, and the package variables that the reading takes, are together of bulk at most 1048576: NARROWER than '..Said'. Prove '..Said' where nothing that the law and all that it calls make is longer than what came in: it says more and counts as full. Else prove '..UptoSaid'. A law counts once. -/
mutual
def uptoBulk {H : Type} : DataW H → Nat
  | .lit (.string bytes) => bytes.length + 1
  | .lit _ => 1
  | .nil => 1
  | .ptr d => uptoBulk d + 1
  | .slice elems spare => uptoBulkAll elems + uptoBulkAll spare + 1
  | .agg parts => uptoBulkAll parts + 1
  | .iface _ d => uptoBulk d + 1
  | .map entries => uptoBulkEntries entries + 1
  | .held _ => 1
def uptoBulkAll {H : Type} : List (DataW H) → Nat
  | [] => 0
  | d :: r => uptoBulk d + uptoBulkAll r
def uptoBulkEntries {H : Type} : List (Lit × DataW H) → Nat
  | [] => 0
  | x :: r => uptoBulkEntry x + uptoBulkEntries r
def uptoBulkEntry {H : Type} : Lit × DataW H → Nat
  | (.string bytes, d) => bytes.length + uptoBulk d + 1
  | (_, d) => uptoBulk d + 1
 end
def uptoSmall : (H : Type) → List (DataW H) → Bool := fun _ ds => decide (uptoBulkAll ds ≤ 1048576)
def OpenSpec.upto (s : _root_.Go.ChangeSpec) : _root_.Go.OpenSpec := { _root_.Go.OpenSpec.ofChange s with cond := some uptoSmall }

/-- 'laws.FnExactConstants', WHERE WHAT IT READS IS OF BULK AT MOST 1048576: true; the input reads as it did. -/
def fnExactConstantsUptoRow : OpenClaim := { program := "ytljlebaallcekaa", sum := "0744f9923f6007ac15e3ed2e203192f8a3a4282f28c6e9aa0febb15e81af3bd2", func := "loop.example/disclosurecontrol/laws.FnExactConstants", spec := "fnExactConstants", apart := false, narrowed := true }
def FnExactConstantsUptoSaid : Prop := fnExactConstantsUptoRow.holds Try.pinned (OpenSpec.upto fnExactConstantsSpec)

/-- 'laws.FnExactPeopleBand', WHERE WHAT IT READS IS OF BULK AT MOST 1048576: true; the input reads as it did. -/
def fnExactPeopleBandUptoRow : OpenClaim := { program := "ytljlebaallcekaa", sum := "0744f9923f6007ac15e3ed2e203192f8a3a4282f28c6e9aa0febb15e81af3bd2", func := "loop.example/disclosurecontrol/laws.FnExactPeopleBand", spec := "fnExactPeopleBand", apart := false, narrowed := true }
def FnExactPeopleBandUptoSaid : Prop := fnExactPeopleBandUptoRow.holds Try.pinned (OpenSpec.upto fnExactPeopleBandSpec)

/-- 'laws.FnExactPersonValid', WHERE WHAT IT READS IS OF BULK AT MOST 1048576: true; the input reads as it did. -/
def fnExactPersonValidUptoRow : OpenClaim := { program := "ytljlebaallcekaa", sum := "0744f9923f6007ac15e3ed2e203192f8a3a4282f28c6e9aa0febb15e81af3bd2", func := "loop.example/disclosurecontrol/laws.FnExactPersonValid", spec := "fnExactPersonValid", apart := false, narrowed := true }
def FnExactPersonValidUptoSaid : Prop := fnExactPersonValidUptoRow.holds Try.pinned (OpenSpec.upto fnExactPersonValidSpec)

/-- 'laws.FnPeopleBand', WHERE WHAT IT READS IS OF BULK AT MOST 1048576: true; the input reads as it did. -/
def fnPeopleBandUptoRow : OpenClaim := { program := "ytljlebaallcekaa", sum := "0744f9923f6007ac15e3ed2e203192f8a3a4282f28c6e9aa0febb15e81af3bd2", func := "loop.example/disclosurecontrol/laws.FnPeopleBand", spec := "fnPeopleBand", apart := false, narrowed := true }
def FnPeopleBandUptoSaid : Prop := fnPeopleBandUptoRow.holds Try.pinned (OpenSpec.upto fnPeopleBandSpec)

/-- 'laws.FnPeopleBandRises', WHERE WHAT IT READS IS OF BULK AT MOST 1048576: true; the input reads as it did. -/
def fnPeopleBandRisesUptoRow : OpenClaim := { program := "ytljlebaallcekaa", sum := "0744f9923f6007ac15e3ed2e203192f8a3a4282f28c6e9aa0febb15e81af3bd2", func := "loop.example/disclosurecontrol/laws.FnPeopleBandRises", spec := "fnPeopleBandRises", apart := false, narrowed := true }
def FnPeopleBandRisesUptoSaid : Prop := fnPeopleBandRisesUptoRow.holds Try.pinned (OpenSpec.upto fnPeopleBandRisesSpec)

/-- 'laws.FnPerson', WHERE WHAT IT READS IS OF BULK AT MOST 1048576: true; the input reads as it did. -/
def fnPersonUptoRow : OpenClaim := { program := "ytljlebaallcekaa", sum := "0744f9923f6007ac15e3ed2e203192f8a3a4282f28c6e9aa0febb15e81af3bd2", func := "loop.example/disclosurecontrol/laws.FnPerson", spec := "fnPerson", apart := false, narrowed := true }
def FnPersonUptoSaid : Prop := fnPersonUptoRow.holds Try.pinned (OpenSpec.upto fnPersonSpec)

/-- 'laws.FnExactPeopleValid', WHERE WHAT IT READS IS OF BULK AT MOST 1048576: true; the input reads as it did. -/
def fnExactPeopleValidUptoRow : OpenClaim := { program := "ytljlebaallcekaa", sum := "0744f9923f6007ac15e3ed2e203192f8a3a4282f28c6e9aa0febb15e81af3bd2", func := "loop.example/disclosurecontrol/laws.FnExactPeopleValid", spec := "fnExactPeopleValid", apart := false, narrowed := true }
def FnExactPeopleValidUptoSaid : Prop := fnExactPeopleValidUptoRow.holds Try.pinned (OpenSpec.upto fnExactPeopleValidSpec)

/-- 'laws.FnPeople', WHERE WHAT IT READS IS OF BULK AT MOST 1048576: true; the input reads as it did. -/
def fnPeopleUptoRow : OpenClaim := { program := "ytljlebaallcekaa", sum := "0744f9923f6007ac15e3ed2e203192f8a3a4282f28c6e9aa0febb15e81af3bd2", func := "loop.example/disclosurecontrol/laws.FnPeople", spec := "fnPeople", apart := false, narrowed := true }
def FnPeopleUptoSaid : Prop := fnPeopleUptoRow.holds Try.pinned (OpenSpec.upto fnPeopleSpec)

end Rows
end Go.Proofs.Ytljlebaallcekaa
