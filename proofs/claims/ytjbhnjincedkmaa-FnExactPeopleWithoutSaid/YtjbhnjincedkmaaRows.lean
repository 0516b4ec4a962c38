/-
  No cell of these rows narrows 'for every input' (looked for: loops, veiled, ifaces, maps, wideKeys, modest, calm, conditions, laid).
  DERIVED. THE GIVEN ROWS OF THIS SEAT. 4 by the template 'for every input the law returns true; each argument reads behind the call as it read before'; 0 by the template 'total and deterministic' (their statements: YtjbhnjincedkmaaTotals.lean).
  GIVEN WITH THE SEED: the statements are not yours to turn. If you find one false, say at which input.
  Laid BY PROGRAM, IN A SANDBOX (cutbox-rows.mjs): the forced cells as the released guide's own fill.sh prints them over the translation 25a8f6f4a9f9cde0… (all of the seat's roots in one cut). By AI agents, Wed Nov 11 2026. No macro, syntax, notation, axiom, sorry.
-/
import Derived.Test.YtjbhnjincedkmaaChecked
import GoSem.Claim
import GoSem.ClaimJoined
import GoSem.ClaimMapViews
import Derived.JoinedTies
import Derived.KernelRfl
namespace Go.Proofs.Ytjbhnjincedkmaa
/- THE CELL 'sum', in the pinned program and in every row, IS THE sha256 OF THE DUMP (.gsa) THAT YtjbhnjincedkmaaProg.lean LOADS. Nothing in Lean hashes anything: it is a label: what it is worth is what the hold of that sum in a sandbox is worth. -/
noncomputable def Try.pinned : Pinned := { name := "ytjbhnjincedkmaa", sum := "25a8f6f4a9f9cde0fb3b0c0d4a405af42635daed4bc2bbf67c7392b5d6ca76b0", checked := Try.checked }
namespace Rows
def none {H : Type} : Left H := { results := [], args := [] }

/-- 'laws.FnPeopleWithoutTwo': WHATEVER THE INPUT: true; the input reads as it did. -/
def fnPeopleWithoutTwoSpec : ChangeSpec := { name := "fnPeopleWithoutTwo", fn := fun _ => fun
  | [d] => { results := [.lit (.bool true)], args := [d] }
  | _ => none }
def fnPeopleWithoutTwoRow : OpenClaim := { program := "ytjbhnjincedkmaa", sum := "25a8f6f4a9f9cde0fb3b0c0d4a405af42635daed4bc2bbf67c7392b5d6ca76b0", func := "loop.example/disclosurecontrol/laws.FnPeopleWithoutTwo", spec := "fnPeopleWithoutTwo", apart := false }
def FnPeopleWithoutTwoSaid : Prop := fnPeopleWithoutTwoRow.holds Try.pinned (OpenSpec.ofChange fnPeopleWithoutTwoSpec)

/-- ITS FALSE NEIGHBOUR: 'it returns false'. Refute it at one input. -/
def fnPeopleWithoutTwoWrong : ChangeSpec := { name := "fnPeopleWithoutTwo", fn := fun _ => fun
  | [d] => { results := [.lit (.bool false)], args := [d] }
  | _ => none }
def FnPeopleWithoutTwoWrongFalsely : Prop := fnPeopleWithoutTwoRow.holds Try.pinned (OpenSpec.ofChange fnPeopleWithoutTwoWrong)

/-- 'laws.FnExactPeopleWithout': WHATEVER THE INPUT: true; the input reads as it did. -/
def fnExactPeopleWithoutSpec : ChangeSpec := { name := "fnExactPeopleWithout", fn := fun _ => fun
  | [d1, d2] => { results := [.lit (.bool true)], args := [d1, d2] }
  | _ => none }
def fnExactPeopleWithoutRow : OpenClaim := { program := "ytjbhnjincedkmaa", sum := "25a8f6f4a9f9cde0fb3b0c0d4a405af42635daed4bc2bbf67c7392b5d6ca76b0", func := "loop.example/disclosurecontrol/laws.FnExactPeopleWithout", spec := "fnExactPeopleWithout", apart := false }
def FnExactPeopleWithoutSaid : Prop := fnExactPeopleWithoutRow.holds Try.pinned (OpenSpec.ofChange fnExactPeopleWithoutSpec)

/-- ITS FALSE NEIGHBOUR: 'it returns false'. Refute it at one input. -/
def fnExactPeopleWithoutWrong : ChangeSpec := { name := "fnExactPeopleWithout", fn := fun _ => fun
  | [d1, d2] => { results := [.lit (.bool false)], args := [d1, d2] }
  | _ => none }
def FnExactPeopleWithoutWrongFalsely : Prop := fnExactPeopleWithoutRow.holds Try.pinned (OpenSpec.ofChange fnExactPeopleWithoutWrong)

/-- 'laws.FnPeopleOwn': WHATEVER THE INPUT: true; the input reads as it did. -/
def fnPeopleOwnSpec : ChangeSpec := { name := "fnPeopleOwn", fn := fun _ => fun
  | [d] => { results := [.lit (.bool true)], args := [d] }
  | _ => none }
def fnPeopleOwnRow : OpenClaim := { program := "ytjbhnjincedkmaa", sum := "25a8f6f4a9f9cde0fb3b0c0d4a405af42635daed4bc2bbf67c7392b5d6ca76b0", func := "loop.example/disclosurecontrol/laws.FnPeopleOwn", spec := "fnPeopleOwn", apart := false }
def FnPeopleOwnSaid : Prop := fnPeopleOwnRow.holds Try.pinned (OpenSpec.ofChange fnPeopleOwnSpec)

/-- ITS FALSE NEIGHBOUR: 'it returns false'. Refute it at one input. -/
def fnPeopleOwnWrong : ChangeSpec := { name := "fnPeopleOwn", fn := fun _ => fun
  | [d] => { results := [.lit (.bool false)], args := [d] }
  | _ => none }
def FnPeopleOwnWrongFalsely : Prop := fnPeopleOwnRow.holds Try.pinned (OpenSpec.ofChange fnPeopleOwnWrong)

/-- 'laws.FnPeopleWithout': WHATEVER THE INPUT: true; the input reads as it did. -/
def fnPeopleWithoutSpec : ChangeSpec := { name := "fnPeopleWithout", fn := fun _ => fun
  | [d] => { results := [.lit (.bool true)], args := [d] }
  | _ => none }
def fnPeopleWithoutRow : OpenClaim := { program := "ytjbhnjincedkmaa", sum := "25a8f6f4a9f9cde0fb3b0c0d4a405af42635daed4bc2bbf67c7392b5d6ca76b0", func := "loop.example/disclosurecontrol/laws.FnPeopleWithout", spec := "fnPeopleWithout", apart := false }
def FnPeopleWithoutSaid : Prop := fnPeopleWithoutRow.holds Try.pinned (OpenSpec.ofChange fnPeopleWithoutSpec)

/-- ITS FALSE NEIGHBOUR: 'it returns false'. Refute it at one input. -/
def fnPeopleWithoutWrong : ChangeSpec := { name := "fnPeopleWithout", fn := fun _ => fun
  | [d] => { results := [.lit (.bool false)], args := [d] }
  | _ => none }
def FnPeopleWithoutWrongFalsely : Prop := fnPeopleWithoutRow.holds Try.pinned (OpenSpec.ofChange fnPeopleWithoutWrong)

/- THE SECOND FORM. 'bulk': how many values and letters a reading holds, each counted each time it is reached (what is shared counts as often as it is met; a slice's spare places count too). A statement '..UptoSaid' is the law's where the arguments, and the package variables that the reading takes, are together of bulk at most 1048576: NARROWER than '..Said'. Prove '..Said' where nothing that the law and all that it calls make is longer than what came in: it says more and counts as full. Else prove '..UptoSaid'. A law counts once. -/
mutual
def uptoBulk {H : Type} : DataW H → Nat
  | .lit (.string bytes) => bytes.length + 1
  | .lit _ => 1
  | .nil => 1
  | .ptr d => uptoBulk d + 1
  | .slice elems spare => uptoBulkAll elems + uptoBulkAll spare + 1
  | .agg parts => uptoBulkAll parts + 1
  | .iface _ d => uptoBulk d + 1
  | .map entries => uptoBulkEntries entries + 1
  | .held _ => 1
def uptoBulkAll {H : Type} : List (DataW H) → Nat
  | [] => 0
  | d :: r => uptoBulk d + uptoBulkAll r
def uptoBulkEntries {H : Type} : List (Lit × DataW H) → Nat
  | [] => 0
  | x :: r => uptoBulkEntry x + uptoBulkEntries r
def uptoBulkEntry {H : Type} : Lit × DataW H → Nat
  | (.string bytes, d) => bytes.length + uptoBulk d + 1
  | (_, d) => uptoBulk d + 1
 end
def uptoSmall : (H : Type) → List (DataW H) → Bool := fun _ ds => decide (uptoBulkAll ds ≤ 1048576)
def OpenSpec.upto (s : _root_.Go.ChangeSpec) : _root_.Go.OpenSpec := { _root_.Go.OpenSpec.ofChange s with cond := some uptoSmall }

/-- 'laws.FnPeopleWithoutTwo', WHERE WHAT IT READS IS OF BULK AT MOST 1048576: true; the input reads as it did. -/
def fnPeopleWithoutTwoUptoRow : OpenClaim := { program := "ytjbhnjincedkmaa", sum := "25a8f6f4a9f9cde0fb3b0c0d4a405af42635daed4bc2bbf67c7392b5d6ca76b0", func := "loop.example/disclosurecontrol/laws.FnPeopleWithoutTwo", spec := "fnPeopleWithoutTwo", apart := false, narrowed := true }
def FnPeopleWithoutTwoUptoSaid : Prop := fnPeopleWithoutTwoUptoRow.holds Try.pinned (OpenSpec.upto fnPeopleWithoutTwoSpec)

/-- 'laws.FnExactPeopleWithout', WHERE WHAT IT READS IS OF BULK AT MOST 1048576: true; the input reads as it did. -/
def fnExactPeopleWithoutUptoRow : OpenClaim := { program := "ytjbhnjincedkmaa", sum := "25a8f6f4a9f9cde0fb3b0c0d4a405af42635daed4bc2bbf67c7392b5d6ca76b0", func := "loop.example/disclosurecontrol/laws.FnExactPeopleWithout", spec := "fnExactPeopleWithout", apart := false, narrowed := true }
def FnExactPeopleWithoutUptoSaid : Prop := fnExactPeopleWithoutUptoRow.holds Try.pinned (OpenSpec.upto fnExactPeopleWithoutSpec)

/-- 'laws.FnPeopleOwn', WHERE WHAT IT READS IS OF BULK AT MOST 1048576: true; the input reads as it did. -/
def fnPeopleOwnUptoRow : OpenClaim := { program := "ytjbhnjincedkmaa", sum := "25a8f6f4a9f9cde0fb3b0c0d4a405af42635daed4bc2bbf67c7392b5d6ca76b0", func := "loop.example/disclosurecontrol/laws.FnPeopleOwn", spec := "fnPeopleOwn", apart := false, narrowed := true }
def FnPeopleOwnUptoSaid : Prop := fnPeopleOwnUptoRow.holds Try.pinned (OpenSpec.upto fnPeopleOwnSpec)

/-- 'laws.FnPeopleWithout', WHERE WHAT IT READS IS OF BULK AT MOST 1048576: true; the input reads as it did. -/
def fnPeopleWithoutUptoRow : OpenClaim := { program := "ytjbhnjincedkmaa", sum := "25a8f6f4a9f9cde0fb3b0c0d4a405af42635daed4bc2bbf67c7392b5d6ca76b0", func := "loop.example/disclosurecontrol/laws.FnPeopleWithout", spec := "fnPeopleWithout", apart := false, narrowed := true }
def FnPeopleWithoutUptoSaid : Prop := fnPeopleWithoutUptoRow.holds Try.pinned (OpenSpec.upto fnPeopleWithoutSpec)

end Rows
end Go.Proofs.Ytjbhnjincedkmaa
