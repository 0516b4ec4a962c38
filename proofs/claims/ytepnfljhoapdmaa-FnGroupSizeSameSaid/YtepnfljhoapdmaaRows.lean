/-
  No cell of these rows narrows 'for every input' (looked for: loops, veiled, ifaces, maps, wideKeys, modest, calm, conditions, laid).
  DERIVED. THE GIVEN ROWS OF THIS SEAT. 7 by the template 'for every input the law returns true; each argument reads behind the call as it read before'; 0 by the template 'total and deterministic' (their statements: YtepnfljhoapdmaaTotals.lean).
  GIVEN WITH THE SEED: the statements are not yours to turn. If you find one false, say at which input.
  Laid BY PROGRAM, IN A SANDBOX (cutbox-rows.mjs): the forced cells as the released guide's own fill.sh prints them over the translation eea57fdb4c390f39… (all of the seat's roots in one cut). By AI agents, Wed Nov 11 2026. No macro, syntax, notation, axiom, sorry.
-/
import Derived.Test.YtepnfljhoapdmaaChecked
import GoSem.Claim
import GoSem.ClaimJoined
import GoSem.ClaimMapViews
import Derived.JoinedTies
import Derived.KernelRfl
namespace Go.Proofs.Ytepnfljhoapdmaa
/- THE CELL 'sum', in the pinned program and in every row, IS THE sha256 OF THE DUMP (.gsa) THAT YtepnfljhoapdmaaProg.lean LOADS. Nothing in Lean hashes anything: it is a label: what it is worth is what the hold of that sum in a sandbox is worth. -/
noncomputable def Try.pinned : Pinned := { name := "ytepnfljhoapdmaa", sum := "eea57fdb4c390f39cb5776dfeb3daa0f0e6cdded2d292b9677a02bc617b4c657", checked := Try.checked }
namespace Rows
def none {H : Type} : Left H := { results := [], args := [] }

/-- 'laws.FnGroupLeastAdd': WHATEVER THE INPUT: true; the input reads as it did. -/
def fnGroupLeastAddSpec : ChangeSpec := { name := "fnGroupLeastAdd", fn := fun _ => fun
  | [d1, d2] => { results := [.lit (.bool true)], args := [d1, d2] }
  | _ => none }
def fnGroupLeastAddRow : OpenClaim := { program := "ytepnfljhoapdmaa", sum := "eea57fdb4c390f39cb5776dfeb3daa0f0e6cdded2d292b9677a02bc617b4c657", func := "loop.example/disclosurecontrol/laws.FnGroupLeastAdd", spec := "fnGroupLeastAdd", plainKeys := false, apart := false }
def FnGroupLeastAddSaid : Prop := fnGroupLeastAddRow.holds Try.pinned (OpenSpec.ofChange fnGroupLeastAddSpec)

/-- ITS FALSE NEIGHBOUR: 'it returns false'. Refute it at one input. -/
def fnGroupLeastAddWrong : ChangeSpec := { name := "fnGroupLeastAdd", fn := fun _ => fun
  | [d1, d2] => { results := [.lit (.bool false)], args := [d1, d2] }
  | _ => none }
def FnGroupLeastAddWrongFalsely : Prop := fnGroupLeastAddRow.holds Try.pinned (OpenSpec.ofChange fnGroupLeastAddWrong)

/-- 'laws.FnExactGroupMany': WHATEVER THE INPUT: true; the input reads as it did. -/
def fnExactGroupManySpec : ChangeSpec := { name := "fnExactGroupMany", fn := fun _ => fun
  | [d1, d2, d3] => { results := [.lit (.bool true)], args := [d1, d2, d3] }
  | _ => none }
def fnExactGroupManyRow : OpenClaim := { program := "ytepnfljhoapdmaa", sum := "eea57fdb4c390f39cb5776dfeb3daa0f0e6cdded2d292b9677a02bc617b4c657", func := "loop.example/disclosurecontrol/laws.FnExactGroupMany", spec := "fnExactGroupMany", plainKeys := false, apart := false }
def FnExactGroupManySaid : Prop := fnExactGroupManyRow.holds Try.pinned (OpenSpec.ofChange fnExactGroupManySpec)

/-- ITS FALSE NEIGHBOUR: 'it returns false'. Refute it at one input. -/
def fnExactGroupManyWrong : ChangeSpec := { name := "fnExactGroupMany", fn := fun _ => fun
  | [d1, d2, d3] => { results := [.lit (.bool false)], args := [d1, d2, d3] }
  | _ => none }
def FnExactGroupManyWrongFalsely : Prop := fnExactGroupManyRow.holds Try.pinned (OpenSpec.ofChange fnExactGroupManyWrong)

/-- 'laws.FnGroupManyAdd': WHATEVER THE INPUT: true; the input reads as it did. -/
def fnGroupManyAddSpec : ChangeSpec := { name := "fnGroupManyAdd", fn := fun _ => fun
  | [d1, d2] => { results := [.lit (.bool true)], args := [d1, d2] }
  | _ => none }
def fnGroupManyAddRow : OpenClaim := { program := "ytepnfljhoapdmaa", sum := "eea57fdb4c390f39cb5776dfeb3daa0f0e6cdded2d292b9677a02bc617b4c657", func := "loop.example/disclosurecontrol/laws.FnGroupManyAdd", spec := "fnGroupManyAdd", plainKeys := false, apart := false }
def FnGroupManyAddSaid : Prop := fnGroupManyAddRow.holds Try.pinned (OpenSpec.ofChange fnGroupManyAddSpec)

/-- ITS FALSE NEIGHBOUR: 'it returns false'. Refute it at one input. -/
def fnGroupManyAddWrong : ChangeSpec := { name := "fnGroupManyAdd", fn := fun _ => fun
  | [d1, d2] => { results := [.lit (.bool false)], args := [d1, d2] }
  | _ => none }
def FnGroupManyAddWrongFalsely : Prop := fnGroupManyAddRow.holds Try.pinned (OpenSpec.ofChange fnGroupManyAddWrong)

/-- 'laws.FnExactGroupSize': WHATEVER THE INPUT: true; the input reads as it did. -/
def fnExactGroupSizeSpec : ChangeSpec := { name := "fnExactGroupSize", fn := fun _ => fun
  | [d1, d2, d3, d4] => { results := [.lit (.bool true)], args := [d1, d2, d3, d4] }
  | _ => none }
def fnExactGroupSizeRow : OpenClaim := { program := "ytepnfljhoapdmaa", sum := "eea57fdb4c390f39cb5776dfeb3daa0f0e6cdded2d292b9677a02bc617b4c657", func := "loop.example/disclosurecontrol/laws.FnExactGroupSize", spec := "fnExactGroupSize", plainKeys := false, apart := false }
def FnExactGroupSizeSaid : Prop := fnExactGroupSizeRow.holds Try.pinned (OpenSpec.ofChange fnExactGroupSizeSpec)

/-- ITS FALSE NEIGHBOUR: 'it returns false'. Refute it at one input. -/
def fnExactGroupSizeWrong : ChangeSpec := { name := "fnExactGroupSize", fn := fun _ => fun
  | [d1, d2, d3, d4] => { results := [.lit (.bool false)], args := [d1, d2, d3, d4] }
  | _ => none }
def FnExactGroupSizeWrongFalsely : Prop := fnExactGroupSizeRow.holds Try.pinned (OpenSpec.ofChange fnExactGroupSizeWrong)

/-- 'laws.FnGroupSizeAdd': WHATEVER THE INPUT: true; the input reads as it did. -/
def fnGroupSizeAddSpec : ChangeSpec := { name := "fnGroupSizeAdd", fn := fun _ => fun
  | [d] => { results := [.lit (.bool true)], args := [d] }
  | _ => none }
def fnGroupSizeAddRow : OpenClaim := { program := "ytepnfljhoapdmaa", sum := "eea57fdb4c390f39cb5776dfeb3daa0f0e6cdded2d292b9677a02bc617b4c657", func := "loop.example/disclosurecontrol/laws.FnGroupSizeAdd", spec := "fnGroupSizeAdd", plainKeys := false, apart := false }
def FnGroupSizeAddSaid : Prop := fnGroupSizeAddRow.holds Try.pinned (OpenSpec.ofChange fnGroupSizeAddSpec)

/-- ITS FALSE NEIGHBOUR: 'it returns false'. Refute it at one input. -/
def fnGroupSizeAddWrong : ChangeSpec := { name := "fnGroupSizeAdd", fn := fun _ => fun
  | [d] => { results := [.lit (.bool false)], args := [d] }
  | _ => none }
def FnGroupSizeAddWrongFalsely : Prop := fnGroupSizeAddRow.holds Try.pinned (OpenSpec.ofChange fnGroupSizeAddWrong)

/-- 'laws.FnGroupSizeFiner': WHATEVER THE INPUT: true; the input reads as it did. -/
def fnGroupSizeFinerSpec : ChangeSpec := { name := "fnGroupSizeFiner", fn := fun _ => fun
  | [d] => { results := [.lit (.bool true)], args := [d] }
  | _ => none }
def fnGroupSizeFinerRow : OpenClaim := { program := "ytepnfljhoapdmaa", sum := "eea57fdb4c390f39cb5776dfeb3daa0f0e6cdded2d292b9677a02bc617b4c657", func := "loop.example/disclosurecontrol/laws.FnGroupSizeFiner", spec := "fnGroupSizeFiner", plainKeys := false, apart := false }
def FnGroupSizeFinerSaid : Prop := fnGroupSizeFinerRow.holds Try.pinned (OpenSpec.ofChange fnGroupSizeFinerSpec)

/-- ITS FALSE NEIGHBOUR: 'it returns false'. Refute it at one input. -/
def fnGroupSizeFinerWrong : ChangeSpec := { name := "fnGroupSizeFiner", fn := fun _ => fun
  | [d] => { results := [.lit (.bool false)], args := [d] }
  | _ => none }
def FnGroupSizeFinerWrongFalsely : Prop := fnGroupSizeFinerRow.holds Try.pinned (OpenSpec.ofChange fnGroupSizeFinerWrong)

/-- 'laws.FnGroupSizeSame': WHATEVER THE INPUT: true; the input reads as it did. -/
def fnGroupSizeSameSpec : ChangeSpec := { name := "fnGroupSizeSame", fn := fun _ => fun
  | [d] => { results := [.lit (.bool true)], args := [d] }
  | _ => none }
def fnGroupSizeSameRow : OpenClaim := { program := "ytepnfljhoapdmaa", sum := "eea57fdb4c390f39cb5776dfeb3daa0f0e6cdded2d292b9677a02bc617b4c657", func := "loop.example/disclosurecontrol/laws.FnGroupSizeSame", spec := "fnGroupSizeSame", plainKeys := false, apart := false }
def FnGroupSizeSameSaid : Prop := fnGroupSizeSameRow.holds Try.pinned (OpenSpec.ofChange fnGroupSizeSameSpec)

/-- ITS FALSE NEIGHBOUR: 'it returns false'. Refute it at one input. -/
def fnGroupSizeSameWrong : ChangeSpec := { name := "fnGroupSizeSame", fn := fun _ => fun
  | [d] => { results := [.lit (.bool false)], args := [d] }
  | _ => none }
def FnGroupSizeSameWrongFalsely : Prop := fnGroupSizeSameRow.holds Try.pinned (OpenSpec.ofChange fnGroupSizeSameWrong)

/- THE SECOND FORM. 'bulk': how many values and letters a reading holds, each counted each time it is reached (what is shared counts as often as it is met; a slice's spare places count too). A statement '..UptoSaid' is the law's where the arguments, and the package variables that the reading takes, are together of bulk at most 1048576: NARROWER than '..Said'. Prove '..Said' where nothing that the law and all that it calls make is longer than what came in: it says more and counts as full. Else prove '..UptoSaid'. A law counts once. -/
mutual
def uptoBulk {H : Type} : DataW H → Nat
  | .lit (.string bytes) => bytes.length + 1
  | .lit _ => 1
  | .nil => 1
  | .ptr d => uptoBulk d + 1
  | .slice elems spare => uptoBulkAll elems + uptoBulkAll spare + 1
  | .agg parts => uptoBulkAll parts + 1
  | .iface _ d => uptoBulk d + 1
  | .map entries => uptoBulkEntries entries + 1
  | .held _ => 1
def uptoBulkAll {H : Type} : List (DataW H) → Nat
  | [] => 0
  | d :: r => uptoBulk d + uptoBulkAll r
def uptoBulkEntries {H : Type} : List (Lit × DataW H) → Nat
  | [] => 0
  | x :: r => uptoBulkEntry x + uptoBulkEntries r
def uptoBulkEntry {H : Type} : Lit × DataW H → Nat
  | (.string bytes, d) => bytes.length + uptoBulk d + 1
  | (_, d) => uptoBulk d + 1
 end
def uptoSmall : (H : Type) → List (DataW H) → Bool := fun _ ds => decide (uptoBulkAll ds ≤ 1048576)
def OpenSpec.upto (s : _root_.Go.ChangeSpec) : _root_.Go.OpenSpec := { _root_.Go.OpenSpec.ofChange s with cond := some uptoSmall }

/-- 'laws.FnGroupLeastAdd', WHERE WHAT IT READS IS OF BULK AT MOST 1048576: true; the input reads as it did. -/
def fnGroupLeastAddUptoRow : OpenClaim := { program := "ytepnfljhoapdmaa", sum := "eea57fdb4c390f39cb5776dfeb3daa0f0e6cdded2d292b9677a02bc617b4c657", func := "loop.example/disclosurecontrol/laws.FnGroupLeastAdd", spec := "fnGroupLeastAdd", plainKeys := false, apart := false, narrowed := true }
def FnGroupLeastAddUptoSaid : Prop := fnGroupLeastAddUptoRow.holds Try.pinned (OpenSpec.upto fnGroupLeastAddSpec)

/-- 'laws.FnExactGroupMany', WHERE WHAT IT READS IS OF BULK AT MOST 1048576: true; the input reads as it did. -/
def fnExactGroupManyUptoRow : OpenClaim := { program := "ytepnfljhoapdmaa", sum := "eea57fdb4c390f39cb5776dfeb3daa0f0e6cdded2d292b9677a02bc617b4c657", func := "loop.example/disclosurecontrol/laws.FnExactGroupMany", spec := "fnExactGroupMany", plainKeys := false, apart := false, narrowed := true }
def FnExactGroupManyUptoSaid : Prop := fnExactGroupManyUptoRow.holds Try.pinned (OpenSpec.upto fnExactGroupManySpec)

/-- 'laws.FnGroupManyAdd', WHERE WHAT IT READS IS OF BULK AT MOST 1048576: true; the input reads as it did. -/
def fnGroupManyAddUptoRow : OpenClaim := { program := "ytepnfljhoapdmaa", sum := "eea57fdb4c390f39cb5776dfeb3daa0f0e6cdded2d292b9677a02bc617b4c657", func := "loop.example/disclosurecontrol/laws.FnGroupManyAdd", spec := "fnGroupManyAdd", plainKeys := false, apart := false, narrowed := true }
def FnGroupManyAddUptoSaid : Prop := fnGroupManyAddUptoRow.holds Try.pinned (OpenSpec.upto fnGroupManyAddSpec)

/-- 'laws.FnExactGroupSize', WHERE WHAT IT READS IS OF BULK AT MOST 1048576: true; the input reads as it did. -/
def fnExactGroupSizeUptoRow : OpenClaim := { program := "ytepnfljhoapdmaa", sum := "eea57fdb4c390f39cb5776dfeb3daa0f0e6cdded2d292b9677a02bc617b4c657", func := "loop.example/disclosurecontrol/laws.FnExactGroupSize", spec := "fnExactGroupSize", plainKeys := false, apart := false, narrowed := true }
def FnExactGroupSizeUptoSaid : Prop := fnExactGroupSizeUptoRow.holds Try.pinned (OpenSpec.upto fnExactGroupSizeSpec)

/-- 'laws.FnGroupSizeAdd', WHERE WHAT IT READS IS OF BULK AT MOST 1048576: true; the input reads as it did. -/
def fnGroupSizeAddUptoRow : OpenClaim := { program := "ytepnfljhoapdmaa", sum := "eea57fdb4c390f39cb5776dfeb3daa0f0e6cdded2d292b9677a02bc617b4c657", func := "loop.example/disclosurecontrol/laws.FnGroupSizeAdd", spec := "fnGroupSizeAdd", plainKeys := false, apart := false, narrowed := true }
def FnGroupSizeAddUptoSaid : Prop := fnGroupSizeAddUptoRow.holds Try.pinned (OpenSpec.upto fnGroupSizeAddSpec)

/-- 'laws.FnGroupSizeFiner', WHERE WHAT IT READS IS OF BULK AT MOST 1048576: true; the input reads as it did. -/
def fnGroupSizeFinerUptoRow : OpenClaim := { program := "ytepnfljhoapdmaa", sum := "eea57fdb4c390f39cb5776dfeb3daa0f0e6cdded2d292b9677a02bc617b4c657", func := "loop.example/disclosurecontrol/laws.FnGroupSizeFiner", spec := "fnGroupSizeFiner", plainKeys := false, apart := false, narrowed := true }
def FnGroupSizeFinerUptoSaid : Prop := fnGroupSizeFinerUptoRow.holds Try.pinned (OpenSpec.upto fnGroupSizeFinerSpec)

/-- 'laws.FnGroupSizeSame', WHERE WHAT IT READS IS OF BULK AT MOST 1048576: true; the input reads as it did. -/
def fnGroupSizeSameUptoRow : OpenClaim := { program := "ytepnfljhoapdmaa", sum := "eea57fdb4c390f39cb5776dfeb3daa0f0e6cdded2d292b9677a02bc617b4c657", func := "loop.example/disclosurecontrol/laws.FnGroupSizeSame", spec := "fnGroupSizeSame", plainKeys := false, apart := false, narrowed := true }
def FnGroupSizeSameUptoSaid : Prop := fnGroupSizeSameUptoRow.holds Try.pinned (OpenSpec.upto fnGroupSizeSameSpec)

end Rows
end Go.Proofs.Ytepnfljhoapdmaa
