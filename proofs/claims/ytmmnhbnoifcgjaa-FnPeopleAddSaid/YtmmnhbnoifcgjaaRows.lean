/-
  No cell of these rows narrows 'for every input' (looked for: loops, veiled, ifaces, maps, wideKeys, modest, calm, conditions, laid).
  DERIVED. THE GIVEN ROWS OF THIS SEAT. 10 by the template 'for every input the law returns true; each argument reads behind the call as it read before'; 0 by the template 'total and deterministic' (their statements: YtmmnhbnoifcgjaaTotals.lean).
  GIVEN WITH THE SEED: the statements are not yours to turn. If you find one false, say at which input.
  Laid BY PROGRAM, IN A SANDBOX (cutbox-rows.mjs): the forced cells as the released guide's own fill.sh prints them over the translation 22ec14c16d336881… (all of the seat's roots in one cut). By AI agents, Wed Nov 11 2026. No macro, syntax, notation, axiom, sorry.
-/
import Derived.Test.YtmmnhbnoifcgjaaChecked
import GoSem.Claim
import GoSem.ClaimJoined
import GoSem.ClaimMapViews
import Derived.JoinedTies
import Derived.KernelRfl
namespace Go.Proofs.Ytmmnhbnoifcgjaa
/- THE CELL 'sum', in the pinned program and in every row, IS THE sha256 OF THE DUMP (.gsa) THAT YtmmnhbnoifcgjaaProg.lean LOADS. Nothing in Lean hashes anything: it is a label: what it is worth is what the hold of that sum in a sandbox is worth. -/
noncomputable def Try.pinned : Pinned := { name := "ytmmnhbnoifcgjaa", sum := "22ec14c16d3368813469ef30c4941335b0d4bea233bae9a75388809a5d4f3f4e", checked := Try.checked }
namespace Rows
def none {H : Type} : Left H := { results := [], args := [] }

/-- 'laws.FnExactPeopleMany': WHATEVER THE INPUT: true; the input reads as it did. -/
def fnExactPeopleManySpec : ChangeSpec := { name := "fnExactPeopleMany", fn := fun _ => fun
  | [d1, d2, d3, d4] => { results := [.lit (.bool true)], args := [d1, d2, d3, d4] }
  | _ => none }
def fnExactPeopleManyRow : OpenClaim := { program := "ytmmnhbnoifcgjaa", sum := "22ec14c16d3368813469ef30c4941335b0d4bea233bae9a75388809a5d4f3f4e", func := "loop.example/disclosurecontrol/laws.FnExactPeopleMany", spec := "fnExactPeopleMany", apart := false }
def FnExactPeopleManySaid : Prop := fnExactPeopleManyRow.holds Try.pinned (OpenSpec.ofChange fnExactPeopleManySpec)

/-- ITS FALSE NEIGHBOUR: 'it returns false'. Refute it at one input. -/
def fnExactPeopleManyWrong : ChangeSpec := { name := "fnExactPeopleMany", fn := fun _ => fun
  | [d1, d2, d3, d4] => { results := [.lit (.bool false)], args := [d1, d2, d3, d4] }
  | _ => none }
def FnExactPeopleManyWrongFalsely : Prop := fnExactPeopleManyRow.holds Try.pinned (OpenSpec.ofChange fnExactPeopleManyWrong)

/-- 'laws.FnExactPeoplePay': WHATEVER THE INPUT: true; the input reads as it did. -/
def fnExactPeoplePaySpec : ChangeSpec := { name := "fnExactPeoplePay", fn := fun _ => fun
  | [d1, d2, d3, d4] => { results := [.lit (.bool true)], args := [d1, d2, d3, d4] }
  | _ => none }
def fnExactPeoplePayRow : OpenClaim := { program := "ytmmnhbnoifcgjaa", sum := "22ec14c16d3368813469ef30c4941335b0d4bea233bae9a75388809a5d4f3f4e", func := "loop.example/disclosurecontrol/laws.FnExactPeoplePay", spec := "fnExactPeoplePay", apart := false }
def FnExactPeoplePaySaid : Prop := fnExactPeoplePayRow.holds Try.pinned (OpenSpec.ofChange fnExactPeoplePaySpec)

/-- ITS FALSE NEIGHBOUR: 'it returns false'. Refute it at one input. -/
def fnExactPeoplePayWrong : ChangeSpec := { name := "fnExactPeoplePay", fn := fun _ => fun
  | [d1, d2, d3, d4] => { results := [.lit (.bool false)], args := [d1, d2, d3, d4] }
  | _ => none }
def FnExactPeoplePayWrongFalsely : Prop := fnExactPeoplePayRow.holds Try.pinned (OpenSpec.ofChange fnExactPeoplePayWrong)

/-- 'laws.FnPeopleMany': WHATEVER THE INPUT: true; the input reads as it did. -/
def fnPeopleManySpec : ChangeSpec := { name := "fnPeopleMany", fn := fun _ => fun
  | [d1, d2] => { results := [.lit (.bool true)], args := [d1, d2] }
  | _ => none }
def fnPeopleManyRow : OpenClaim := { program := "ytmmnhbnoifcgjaa", sum := "22ec14c16d3368813469ef30c4941335b0d4bea233bae9a75388809a5d4f3f4e", func := "loop.example/disclosurecontrol/laws.FnPeopleMany", spec := "fnPeopleMany", apart := false }
def FnPeopleManySaid : Prop := fnPeopleManyRow.holds Try.pinned (OpenSpec.ofChange fnPeopleManySpec)

/-- ITS FALSE NEIGHBOUR: 'it returns false'. Refute it at one input. -/
def fnPeopleManyWrong : ChangeSpec := { name := "fnPeopleMany", fn := fun _ => fun
  | [d1, d2] => { results := [.lit (.bool false)], args := [d1, d2] }
  | _ => none }
def FnPeopleManyWrongFalsely : Prop := fnPeopleManyRow.holds Try.pinned (OpenSpec.ofChange fnPeopleManyWrong)

/-- 'laws.FnPeopleManyAny': WHATEVER THE INPUT: true; the input reads as it did. -/
def fnPeopleManyAnySpec : ChangeSpec := { name := "fnPeopleManyAny", fn := fun _ => fun
  | [d] => { results := [.lit (.bool true)], args := [d] }
  | _ => none }
def fnPeopleManyAnyRow : OpenClaim := { program := "ytmmnhbnoifcgjaa", sum := "22ec14c16d3368813469ef30c4941335b0d4bea233bae9a75388809a5d4f3f4e", func := "loop.example/disclosurecontrol/laws.FnPeopleManyAny", spec := "fnPeopleManyAny", apart := false }
def FnPeopleManyAnySaid : Prop := fnPeopleManyAnyRow.holds Try.pinned (OpenSpec.ofChange fnPeopleManyAnySpec)

/-- ITS FALSE NEIGHBOUR: 'it returns false'. Refute it at one input. -/
def fnPeopleManyAnyWrong : ChangeSpec := { name := "fnPeopleManyAny", fn := fun _ => fun
  | [d] => { results := [.lit (.bool false)], args := [d] }
  | _ => none }
def FnPeopleManyAnyWrongFalsely : Prop := fnPeopleManyAnyRow.holds Try.pinned (OpenSpec.ofChange fnPeopleManyAnyWrong)

/-- 'laws.FnPeopleAdd': WHATEVER THE INPUT: true; the input reads as it did. -/
def fnPeopleAddSpec : ChangeSpec := { name := "fnPeopleAdd", fn := fun _ => fun
  | [d1, d2] => { results := [.lit (.bool true)], args := [d1, d2] }
  | _ => none }
def fnPeopleAddRow : OpenClaim := { program := "ytmmnhbnoifcgjaa", sum := "22ec14c16d3368813469ef30c4941335b0d4bea233bae9a75388809a5d4f3f4e", func := "loop.example/disclosurecontrol/laws.FnPeopleAdd", spec := "fnPeopleAdd", apart := false }
def FnPeopleAddSaid : Prop := fnPeopleAddRow.holds Try.pinned (OpenSpec.ofChange fnPeopleAddSpec)

/-- ITS FALSE NEIGHBOUR: 'it returns false'. Refute it at one input. -/
def fnPeopleAddWrong : ChangeSpec := { name := "fnPeopleAdd", fn := fun _ => fun
  | [d1, d2] => { results := [.lit (.bool false)], args := [d1, d2] }
  | _ => none }
def FnPeopleAddWrongFalsely : Prop := fnPeopleAddRow.holds Try.pinned (OpenSpec.ofChange fnPeopleAddWrong)

/-- 'laws.FnPeopleOrder': WHATEVER THE INPUT: true; the input reads as it did. -/
def fnPeopleOrderSpec : ChangeSpec := { name := "fnPeopleOrder", fn := fun _ => fun
  | [d1, d2] => { results := [.lit (.bool true)], args := [d1, d2] }
  | _ => none }
def fnPeopleOrderRow : OpenClaim := { program := "ytmmnhbnoifcgjaa", sum := "22ec14c16d3368813469ef30c4941335b0d4bea233bae9a75388809a5d4f3f4e", func := "loop.example/disclosurecontrol/laws.FnPeopleOrder", spec := "fnPeopleOrder", apart := false }
def FnPeopleOrderSaid : Prop := fnPeopleOrderRow.holds Try.pinned (OpenSpec.ofChange fnPeopleOrderSpec)

/-- ITS FALSE NEIGHBOUR: 'it returns false'. Refute it at one input. -/
def fnPeopleOrderWrong : ChangeSpec := { name := "fnPeopleOrder", fn := fun _ => fun
  | [d1, d2] => { results := [.lit (.bool false)], args := [d1, d2] }
  | _ => none }
def FnPeopleOrderWrongFalsely : Prop := fnPeopleOrderRow.holds Try.pinned (OpenSpec.ofChange fnPeopleOrderWrong)

/-- 'laws.FnPeopleTwice': WHATEVER THE INPUT: true; the input reads as it did. -/
def fnPeopleTwiceSpec : ChangeSpec := { name := "fnPeopleTwice", fn := fun _ => fun
  | [d] => { results := [.lit (.bool true)], args := [d] }
  | _ => none }
def fnPeopleTwiceRow : OpenClaim := { program := "ytmmnhbnoifcgjaa", sum := "22ec14c16d3368813469ef30c4941335b0d4bea233bae9a75388809a5d4f3f4e", func := "loop.example/disclosurecontrol/laws.FnPeopleTwice", spec := "fnPeopleTwice", apart := false }
def FnPeopleTwiceSaid : Prop := fnPeopleTwiceRow.holds Try.pinned (OpenSpec.ofChange fnPeopleTwiceSpec)

/-- ITS FALSE NEIGHBOUR: 'it returns false'. Refute it at one input. -/
def fnPeopleTwiceWrong : ChangeSpec := { name := "fnPeopleTwice", fn := fun _ => fun
  | [d] => { results := [.lit (.bool false)], args := [d] }
  | _ => none }
def FnPeopleTwiceWrongFalsely : Prop := fnPeopleTwiceRow.holds Try.pinned (OpenSpec.ofChange fnPeopleTwiceWrong)

/-- 'laws.FnPeoplePayAny': WHATEVER THE INPUT: true; the input reads as it did. -/
def fnPeoplePayAnySpec : ChangeSpec := { name := "fnPeoplePayAny", fn := fun _ => fun
  | [d] => { results := [.lit (.bool true)], args := [d] }
  | _ => none }
def fnPeoplePayAnyRow : OpenClaim := { program := "ytmmnhbnoifcgjaa", sum := "22ec14c16d3368813469ef30c4941335b0d4bea233bae9a75388809a5d4f3f4e", func := "loop.example/disclosurecontrol/laws.FnPeoplePayAny", spec := "fnPeoplePayAny", apart := false }
def FnPeoplePayAnySaid : Prop := fnPeoplePayAnyRow.holds Try.pinned (OpenSpec.ofChange fnPeoplePayAnySpec)

/-- ITS FALSE NEIGHBOUR: 'it returns false'. Refute it at one input. -/
def fnPeoplePayAnyWrong : ChangeSpec := { name := "fnPeoplePayAny", fn := fun _ => fun
  | [d] => { results := [.lit (.bool false)], args := [d] }
  | _ => none }
def FnPeoplePayAnyWrongFalsely : Prop := fnPeoplePayAnyRow.holds Try.pinned (OpenSpec.ofChange fnPeoplePayAnyWrong)

/-- 'laws.FnPeoplePayBands': WHATEVER THE INPUT: true; the input reads as it did. -/
def fnPeoplePayBandsSpec : ChangeSpec := { name := "fnPeoplePayBands", fn := fun _ => fun
  | [d] => { results := [.lit (.bool true)], args := [d] }
  | _ => none }
def fnPeoplePayBandsRow : OpenClaim := { program := "ytmmnhbnoifcgjaa", sum := "22ec14c16d3368813469ef30c4941335b0d4bea233bae9a75388809a5d4f3f4e", func := "loop.example/disclosurecontrol/laws.FnPeoplePayBands", spec := "fnPeoplePayBands", apart := false }
def FnPeoplePayBandsSaid : Prop := fnPeoplePayBandsRow.holds Try.pinned (OpenSpec.ofChange fnPeoplePayBandsSpec)

/-- ITS FALSE NEIGHBOUR: 'it returns false'. Refute it at one input. -/
def fnPeoplePayBandsWrong : ChangeSpec := { name := "fnPeoplePayBands", fn := fun _ => fun
  | [d] => { results := [.lit (.bool false)], args := [d] }
  | _ => none }
def FnPeoplePayBandsWrongFalsely : Prop := fnPeoplePayBandsRow.holds Try.pinned (OpenSpec.ofChange fnPeoplePayBandsWrong)

/-- 'laws.FnPeoplePay': WHATEVER THE INPUT: true; the input reads as it did. -/
def fnPeoplePaySpec : ChangeSpec := { name := "fnPeoplePay", fn := fun _ => fun
  | [d1, d2] => { results := [.lit (.bool true)], args := [d1, d2] }
  | _ => none }
def fnPeoplePayRow : OpenClaim := { program := "ytmmnhbnoifcgjaa", sum := "22ec14c16d3368813469ef30c4941335b0d4bea233bae9a75388809a5d4f3f4e", func := "loop.example/disclosurecontrol/laws.FnPeoplePay", spec := "fnPeoplePay", apart := false }
def FnPeoplePaySaid : Prop := fnPeoplePayRow.holds Try.pinned (OpenSpec.ofChange fnPeoplePaySpec)

/-- ITS FALSE NEIGHBOUR: 'it returns false'. Refute it at one input. -/
def fnPeoplePayWrong : ChangeSpec := { name := "fnPeoplePay", fn := fun _ => fun
  | [d1, d2] => { results := [.lit (.bool false)], args := [d1, d2] }
  | _ => none }
def FnPeoplePayWrongFalsely : Prop := fnPeoplePayRow.holds Try.pinned (OpenSpec.ofChange fnPeoplePayWrong)

/- THE SECOND FORM. 'bulk': how many values and letters a reading holds, each counted each time it is reached (what is shared counts as often as it is met; a slice's spare places count too). A statement '..UptoSaid' is the law's where the arguments, and the package variables that the reading takes, are together of bulk at most 1048576: NARROWER than '..Said'. Prove '..Said' where nothing that the law and all that it calls make is longer than what came in: it says more and counts as full. Else prove '..UptoSaid'. A law counts once. -/
mutual
def uptoBulk {H : Type} : DataW H → Nat
  | .lit (.string bytes) => bytes.length + 1
  | .lit _ => 1
  | .nil => 1
  | .ptr d => uptoBulk d + 1
  | .slice elems spare => uptoBulkAll elems + uptoBulkAll spare + 1
  | .agg parts => uptoBulkAll parts + 1
  | .iface _ d => uptoBulk d + 1
  | .map entries => uptoBulkEntries entries + 1
  | .held _ => 1
def uptoBulkAll {H : Type} : List (DataW H) → Nat
  | [] => 0
  | d :: r => uptoBulk d + uptoBulkAll r
def uptoBulkEntries {H : Type} : List (Lit × DataW H) → Nat
  | [] => 0
  | x :: r => uptoBulkEntry x + uptoBulkEntries r
def uptoBulkEntry {H : Type} : Lit × DataW H → Nat
  | (.string bytes, d) => bytes.length + uptoBulk d + 1
  | (_, d) => uptoBulk d + 1
 end
def uptoSmall : (H : Type) → List (DataW H) → Bool := fun _ ds => decide (uptoBulkAll ds ≤ 1048576)
def OpenSpec.upto (s : _root_.Go.ChangeSpec) : _root_.Go.OpenSpec := { _root_.Go.OpenSpec.ofChange s with cond := some uptoSmall }

/-- 'laws.FnExactPeopleMany', WHERE WHAT IT READS IS OF BULK AT MOST 1048576: true; the input reads as it did. -/
def fnExactPeopleManyUptoRow : OpenClaim := { program := "ytmmnhbnoifcgjaa", sum := "22ec14c16d3368813469ef30c4941335b0d4bea233bae9a75388809a5d4f3f4e", func := "loop.example/disclosurecontrol/laws.FnExactPeopleMany", spec := "fnExactPeopleMany", apart := false, narrowed := true }
def FnExactPeopleManyUptoSaid : Prop := fnExactPeopleManyUptoRow.holds Try.pinned (OpenSpec.upto fnExactPeopleManySpec)

/-- 'laws.FnExactPeoplePay', WHERE WHAT IT READS IS OF BULK AT MOST 1048576: true; the input reads as it did. -/
def fnExactPeoplePayUptoRow : OpenClaim := { program := "ytmmnhbnoifcgjaa", sum := "22ec14c16d3368813469ef30c4941335b0d4bea233bae9a75388809a5d4f3f4e", func := "loop.example/disclosurecontrol/laws.FnExactPeoplePay", spec := "fnExactPeoplePay", apart := false, narrowed := true }
def FnExactPeoplePayUptoSaid : Prop := fnExactPeoplePayUptoRow.holds Try.pinned (OpenSpec.upto fnExactPeoplePaySpec)

/-- 'laws.FnPeopleMany', WHERE WHAT IT READS IS OF BULK AT MOST 1048576: true; the input reads as it did. -/
def fnPeopleManyUptoRow : OpenClaim := { program := "ytmmnhbnoifcgjaa", sum := "22ec14c16d3368813469ef30c4941335b0d4bea233bae9a75388809a5d4f3f4e", func := "loop.example/disclosurecontrol/laws.FnPeopleMany", spec := "fnPeopleMany", apart := false, narrowed := true }
def FnPeopleManyUptoSaid : Prop := fnPeopleManyUptoRow.holds Try.pinned (OpenSpec.upto fnPeopleManySpec)

/-- 'laws.FnPeopleManyAny', WHERE WHAT IT READS IS OF BULK AT MOST 1048576: true; the input reads as it did. -/
def fnPeopleManyAnyUptoRow : OpenClaim := { program := "ytmmnhbnoifcgjaa", sum := "22ec14c16d3368813469ef30c4941335b0d4bea233bae9a75388809a5d4f3f4e", func := "loop.example/disclosurecontrol/laws.FnPeopleManyAny", spec := "fnPeopleManyAny", apart := false, narrowed := true }
def FnPeopleManyAnyUptoSaid : Prop := fnPeopleManyAnyUptoRow.holds Try.pinned (OpenSpec.upto fnPeopleManyAnySpec)

/-- 'laws.FnPeopleAdd', WHERE WHAT IT READS IS OF BULK AT MOST 1048576: true; the input reads as it did. -/
def fnPeopleAddUptoRow : OpenClaim := { program := "ytmmnhbnoifcgjaa", sum := "22ec14c16d3368813469ef30c4941335b0d4bea233bae9a75388809a5d4f3f4e", func := "loop.example/disclosurecontrol/laws.FnPeopleAdd", spec := "fnPeopleAdd", apart := false, narrowed := true }
def FnPeopleAddUptoSaid : Prop := fnPeopleAddUptoRow.holds Try.pinned (OpenSpec.upto fnPeopleAddSpec)

/-- 'laws.FnPeopleOrder', WHERE WHAT IT READS IS OF BULK AT MOST 1048576: true; the input reads as it did. -/
def fnPeopleOrderUptoRow : OpenClaim := { program := "ytmmnhbnoifcgjaa", sum := "22ec14c16d3368813469ef30c4941335b0d4bea233bae9a75388809a5d4f3f4e", func := "loop.example/disclosurecontrol/laws.FnPeopleOrder", spec := "fnPeopleOrder", apart := false, narrowed := true }
def FnPeopleOrderUptoSaid : Prop := fnPeopleOrderUptoRow.holds Try.pinned (OpenSpec.upto fnPeopleOrderSpec)

/-- 'laws.FnPeopleTwice', WHERE WHAT IT READS IS OF BULK AT MOST 1048576: true; the input reads as it did. -/
def fnPeopleTwiceUptoRow : OpenClaim := { program := "ytmmnhbnoifcgjaa", sum := "22ec14c16d3368813469ef30c4941335b0d4bea233bae9a75388809a5d4f3f4e", func := "loop.example/disclosurecontrol/laws.FnPeopleTwice", spec := "fnPeopleTwice", apart := false, narrowed := true }
def FnPeopleTwiceUptoSaid : Prop := fnPeopleTwiceUptoRow.holds Try.pinned (OpenSpec.upto fnPeopleTwiceSpec)

/-- 'laws.FnPeoplePayAny', WHERE WHAT IT READS IS OF BULK AT MOST 1048576: true; the input reads as it did. -/
def fnPeoplePayAnyUptoRow : OpenClaim := { program := "ytmmnhbnoifcgjaa", sum := "22ec14c16d3368813469ef30c4941335b0d4bea233bae9a75388809a5d4f3f4e", func := "loop.example/disclosurecontrol/laws.FnPeoplePayAny", spec := "fnPeoplePayAny", apart := false, narrowed := true }
def FnPeoplePayAnyUptoSaid : Prop := fnPeoplePayAnyUptoRow.holds Try.pinned (OpenSpec.upto fnPeoplePayAnySpec)

/-- 'laws.FnPeoplePayBands', WHERE WHAT IT READS IS OF BULK AT MOST 1048576: true; the input reads as it did. -/
def fnPeoplePayBandsUptoRow : OpenClaim := { program := "ytmmnhbnoifcgjaa", sum := "22ec14c16d3368813469ef30c4941335b0d4bea233bae9a75388809a5d4f3f4e", func := "loop.example/disclosurecontrol/laws.FnPeoplePayBands", spec := "fnPeoplePayBands", apart := false, narrowed := true }
def FnPeoplePayBandsUptoSaid : Prop := fnPeoplePayBandsUptoRow.holds Try.pinned (OpenSpec.upto fnPeoplePayBandsSpec)

/-- 'laws.FnPeoplePay', WHERE WHAT IT READS IS OF BULK AT MOST 1048576: true; the input reads as it did. -/
def fnPeoplePayUptoRow : OpenClaim := { program := "ytmmnhbnoifcgjaa", sum := "22ec14c16d3368813469ef30c4941335b0d4bea233bae9a75388809a5d4f3f4e", func := "loop.example/disclosurecontrol/laws.FnPeoplePay", spec := "fnPeoplePay", apart := false, narrowed := true }
def FnPeoplePayUptoSaid : Prop := fnPeoplePayUptoRow.holds Try.pinned (OpenSpec.upto fnPeoplePaySpec)

end Rows
end Go.Proofs.Ytmmnhbnoifcgjaa
