/-
  No cell of these rows narrows 'for every input' (looked for: loops, veiled, ifaces, maps, wideKeys, modest, calm, conditions, laid).
  DERIVED. THE GIVEN ROWS OF THIS SEAT. 10 by the template 'for every input the law returns true; each argument reads behind the call as it read before'; 0 by the template 'total and deterministic' (their statements: YtddadkjpkmdmiaaTotals.lean).
  GIVEN WITH THE SEED: the statements are not yours to turn. If you find one false, say at which input.
  Laid BY PROGRAM, IN A SANDBOX (cutbox-rows.mjs): the forced cells as the released guide's own fill.sh prints them over the translation a9465e3094915648… (all of the seat's roots in one cut). By AI agents, Wed Nov 11 2026. No macro, syntax, notation, axiom, sorry.
-/
import Derived.Test.YtddadkjpkmdmiaaChecked
import GoSem.Claim
import GoSem.ClaimJoined
import GoSem.ClaimMapViews
import Derived.JoinedTies
import Derived.KernelRfl
namespace Go.Proofs.Ytddadkjpkmdmiaa
/- THE CELL 'sum', in the pinned program and in every row, IS THE sha256 OF THE DUMP (.gsa) THAT YtddadkjpkmdmiaaProg.lean LOADS. Nothing in Lean hashes anything: it is a label: what it is worth is what the hold of that sum in a sandbox is worth. -/
noncomputable def Try.pinned : Pinned := { name := "ytddadkjpkmdmiaa", sum := "a9465e309491564836a04d92b421d3d92c6e455b92ed13982b40b08df44bb45f", checked := Try.checked }
namespace Rows
def none {H : Type} : Left H := { results := [], args := [] }

/-- 'laws.FnExactRecodeValid': WHATEVER THE INPUT: true; the input reads as it did. -/
def fnExactRecodeValidSpec : ChangeSpec := { name := "fnExactRecodeValid", fn := fun _ => fun
  | [d1, d2] => { results := [.lit (.bool true)], args := [d1, d2] }
  | _ => none }
def fnExactRecodeValidRow : OpenClaim := { program := "ytddadkjpkmdmiaa", sum := "a9465e309491564836a04d92b421d3d92c6e455b92ed13982b40b08df44bb45f", func := "loop.example/disclosurecontrol/laws.FnExactRecodeValid", spec := "fnExactRecodeValid", apart := false }
def FnExactRecodeValidSaid : Prop := fnExactRecodeValidRow.holds Try.pinned (OpenSpec.ofChange fnExactRecodeValidSpec)

/-- ITS FALSE NEIGHBOUR: 'it returns false'. Refute it at one input. -/
def fnExactRecodeValidWrong : ChangeSpec := { name := "fnExactRecodeValid", fn := fun _ => fun
  | [d1, d2] => { results := [.lit (.bool false)], args := [d1, d2] }
  | _ => none }
def FnExactRecodeValidWrongFalsely : Prop := fnExactRecodeValidRow.holds Try.pinned (OpenSpec.ofChange fnExactRecodeValidWrong)

/-- 'laws.FnExactRecodeFiner': WHATEVER THE INPUT: true; the input reads as it did. -/
def fnExactRecodeFinerSpec : ChangeSpec := { name := "fnExactRecodeFiner", fn := fun _ => fun
  | [d1, d2, d3] => { results := [.lit (.bool true)], args := [d1, d2, d3] }
  | _ => none }
def fnExactRecodeFinerRow : OpenClaim := { program := "ytddadkjpkmdmiaa", sum := "a9465e309491564836a04d92b421d3d92c6e455b92ed13982b40b08df44bb45f", func := "loop.example/disclosurecontrol/laws.FnExactRecodeFiner", spec := "fnExactRecodeFiner", apart := false }
def FnExactRecodeFinerSaid : Prop := fnExactRecodeFinerRow.holds Try.pinned (OpenSpec.ofChange fnExactRecodeFinerSpec)

/-- ITS FALSE NEIGHBOUR: 'it returns false'. Refute it at one input. -/
def fnExactRecodeFinerWrong : ChangeSpec := { name := "fnExactRecodeFiner", fn := fun _ => fun
  | [d1, d2, d3] => { results := [.lit (.bool false)], args := [d1, d2, d3] }
  | _ => none }
def FnExactRecodeFinerWrongFalsely : Prop := fnExactRecodeFinerRow.holds Try.pinned (OpenSpec.ofChange fnExactRecodeFinerWrong)

/-- 'laws.FnRecode': WHATEVER THE INPUT: true; the input reads as it did. -/
def fnRecodeSpec : ChangeSpec := { name := "fnRecode", fn := fun _ => fun
  | [d] => { results := [.lit (.bool true)], args := [d] }
  | _ => none }
def fnRecodeRow : OpenClaim := { program := "ytddadkjpkmdmiaa", sum := "a9465e309491564836a04d92b421d3d92c6e455b92ed13982b40b08df44bb45f", func := "loop.example/disclosurecontrol/laws.FnRecode", spec := "fnRecode", apart := false }
def FnRecodeSaid : Prop := fnRecodeRow.holds Try.pinned (OpenSpec.ofChange fnRecodeSpec)

/-- ITS FALSE NEIGHBOUR: 'it returns false'. Refute it at one input. -/
def fnRecodeWrong : ChangeSpec := { name := "fnRecode", fn := fun _ => fun
  | [d] => { results := [.lit (.bool false)], args := [d] }
  | _ => none }
def FnRecodeWrongFalsely : Prop := fnRecodeRow.holds Try.pinned (OpenSpec.ofChange fnRecodeWrong)

/-- 'laws.FnRecodeFiner': WHATEVER THE INPUT: true; the input reads as it did. -/
def fnRecodeFinerSpec : ChangeSpec := { name := "fnRecodeFiner", fn := fun _ => fun
  | [d] => { results := [.lit (.bool true)], args := [d] }
  | _ => none }
def fnRecodeFinerRow : OpenClaim := { program := "ytddadkjpkmdmiaa", sum := "a9465e309491564836a04d92b421d3d92c6e455b92ed13982b40b08df44bb45f", func := "loop.example/disclosurecontrol/laws.FnRecodeFiner", spec := "fnRecodeFiner", apart := false }
def FnRecodeFinerSaid : Prop := fnRecodeFinerRow.holds Try.pinned (OpenSpec.ofChange fnRecodeFinerSpec)

/-- ITS FALSE NEIGHBOUR: 'it returns false'. Refute it at one input. -/
def fnRecodeFinerWrong : ChangeSpec := { name := "fnRecodeFiner", fn := fun _ => fun
  | [d] => { results := [.lit (.bool false)], args := [d] }
  | _ => none }
def FnRecodeFinerWrongFalsely : Prop := fnRecodeFinerRow.holds Try.pinned (OpenSpec.ofChange fnRecodeFinerWrong)

/-- 'laws.FnRecodeFinerLeast': WHATEVER THE INPUT: true; the input reads as it did. -/
def fnRecodeFinerLeastSpec : ChangeSpec := { name := "fnRecodeFinerLeast", fn := fun _ => fun
  | [d1, d2] => { results := [.lit (.bool true)], args := [d1, d2] }
  | _ => none }
def fnRecodeFinerLeastRow : OpenClaim := { program := "ytddadkjpkmdmiaa", sum := "a9465e309491564836a04d92b421d3d92c6e455b92ed13982b40b08df44bb45f", func := "loop.example/disclosurecontrol/laws.FnRecodeFinerLeast", spec := "fnRecodeFinerLeast", apart := false }
def FnRecodeFinerLeastSaid : Prop := fnRecodeFinerLeastRow.holds Try.pinned (OpenSpec.ofChange fnRecodeFinerLeastSpec)

/-- ITS FALSE NEIGHBOUR: 'it returns false'. Refute it at one input. -/
def fnRecodeFinerLeastWrong : ChangeSpec := { name := "fnRecodeFinerLeast", fn := fun _ => fun
  | [d1, d2] => { results := [.lit (.bool false)], args := [d1, d2] }
  | _ => none }
def FnRecodeFinerLeastWrongFalsely : Prop := fnRecodeFinerLeastRow.holds Try.pinned (OpenSpec.ofChange fnRecodeFinerLeastWrong)

/-- 'laws.FnRecodeChain': WHATEVER THE INPUT: true; the input reads as it did. -/
def fnRecodeChainSpec : ChangeSpec := { name := "fnRecodeChain", fn := fun _ => fun
  | [d1, d2] => { results := [.lit (.bool true)], args := [d1, d2] }
  | _ => none }
def fnRecodeChainRow : OpenClaim := { program := "ytddadkjpkmdmiaa", sum := "a9465e309491564836a04d92b421d3d92c6e455b92ed13982b40b08df44bb45f", func := "loop.example/disclosurecontrol/laws.FnRecodeChain", spec := "fnRecodeChain", apart := false }
def FnRecodeChainSaid : Prop := fnRecodeChainRow.holds Try.pinned (OpenSpec.ofChange fnRecodeChainSpec)

/-- ITS FALSE NEIGHBOUR: 'it returns false'. Refute it at one input. -/
def fnRecodeChainWrong : ChangeSpec := { name := "fnRecodeChain", fn := fun _ => fun
  | [d1, d2] => { results := [.lit (.bool false)], args := [d1, d2] }
  | _ => none }
def FnRecodeChainWrongFalsely : Prop := fnRecodeChainRow.holds Try.pinned (OpenSpec.ofChange fnRecodeChainWrong)

/-- 'laws.FnRecodeOnce': WHATEVER THE INPUT: true; the input reads as it did. -/
def fnRecodeOnceSpec : ChangeSpec := { name := "fnRecodeOnce", fn := fun _ => fun
  | [d] => { results := [.lit (.bool true)], args := [d] }
  | _ => none }
def fnRecodeOnceRow : OpenClaim := { program := "ytddadkjpkmdmiaa", sum := "a9465e309491564836a04d92b421d3d92c6e455b92ed13982b40b08df44bb45f", func := "loop.example/disclosurecontrol/laws.FnRecodeOnce", spec := "fnRecodeOnce", apart := false }
def FnRecodeOnceSaid : Prop := fnRecodeOnceRow.holds Try.pinned (OpenSpec.ofChange fnRecodeOnceSpec)

/-- ITS FALSE NEIGHBOUR: 'it returns false'. Refute it at one input. -/
def fnRecodeOnceWrong : ChangeSpec := { name := "fnRecodeOnce", fn := fun _ => fun
  | [d] => { results := [.lit (.bool false)], args := [d] }
  | _ => none }
def FnRecodeOnceWrongFalsely : Prop := fnRecodeOnceRow.holds Try.pinned (OpenSpec.ofChange fnRecodeOnceWrong)

/-- 'laws.FnRecodePeople': WHATEVER THE INPUT: true; the input reads as it did. -/
def fnRecodePeopleSpec : ChangeSpec := { name := "fnRecodePeople", fn := fun _ => fun
  | [d] => { results := [.lit (.bool true)], args := [d] }
  | _ => none }
def fnRecodePeopleRow : OpenClaim := { program := "ytddadkjpkmdmiaa", sum := "a9465e309491564836a04d92b421d3d92c6e455b92ed13982b40b08df44bb45f", func := "loop.example/disclosurecontrol/laws.FnRecodePeople", spec := "fnRecodePeople", apart := false }
def FnRecodePeopleSaid : Prop := fnRecodePeopleRow.holds Try.pinned (OpenSpec.ofChange fnRecodePeopleSpec)

/-- ITS FALSE NEIGHBOUR: 'it returns false'. Refute it at one input. -/
def fnRecodePeopleWrong : ChangeSpec := { name := "fnRecodePeople", fn := fun _ => fun
  | [d] => { results := [.lit (.bool false)], args := [d] }
  | _ => none }
def FnRecodePeopleWrongFalsely : Prop := fnRecodePeopleRow.holds Try.pinned (OpenSpec.ofChange fnRecodePeopleWrong)

/-- 'laws.FnRecodeNone': WHATEVER THE INPUT: true; the input reads as it did. -/
def fnRecodeNoneSpec : ChangeSpec := { name := "fnRecodeNone", fn := fun _ => fun
  | [d] => { results := [.lit (.bool true)], args := [d] }
  | _ => none }
def fnRecodeNoneRow : OpenClaim := { program := "ytddadkjpkmdmiaa", sum := "a9465e309491564836a04d92b421d3d92c6e455b92ed13982b40b08df44bb45f", func := "loop.example/disclosurecontrol/laws.FnRecodeNone", spec := "fnRecodeNone", apart := false }
def FnRecodeNoneSaid : Prop := fnRecodeNoneRow.holds Try.pinned (OpenSpec.ofChange fnRecodeNoneSpec)

/-- ITS FALSE NEIGHBOUR: 'it returns false'. Refute it at one input. -/
def fnRecodeNoneWrong : ChangeSpec := { name := "fnRecodeNone", fn := fun _ => fun
  | [d] => { results := [.lit (.bool false)], args := [d] }
  | _ => none }
def FnRecodeNoneWrongFalsely : Prop := fnRecodeNoneRow.holds Try.pinned (OpenSpec.ofChange fnRecodeNoneWrong)

/-- 'laws.FnRecodePay': WHATEVER THE INPUT: true; the input reads as it did. -/
def fnRecodePaySpec : ChangeSpec := { name := "fnRecodePay", fn := fun _ => fun
  | [d] => { results := [.lit (.bool true)], args := [d] }
  | _ => none }
def fnRecodePayRow : OpenClaim := { program := "ytddadkjpkmdmiaa", sum := "a9465e309491564836a04d92b421d3d92c6e455b92ed13982b40b08df44bb45f", func := "loop.example/disclosurecontrol/laws.FnRecodePay", spec := "fnRecodePay", apart := false }
def FnRecodePaySaid : Prop := fnRecodePayRow.holds Try.pinned (OpenSpec.ofChange fnRecodePaySpec)

/-- ITS FALSE NEIGHBOUR: 'it returns false'. Refute it at one input. -/
def fnRecodePayWrong : ChangeSpec := { name := "fnRecodePay", fn := fun _ => fun
  | [d] => { results := [.lit (.bool false)], args := [d] }
  | _ => none }
def FnRecodePayWrongFalsely : Prop := fnRecodePayRow.holds Try.pinned (OpenSpec.ofChange fnRecodePayWrong)

/- THE SECOND FORM. 'bulk': how many values and letters a reading holds, each counted each time it is reached (what is shared counts as often as it is met; a slice's spare places count too). A statement '..UptoSaid' is the law's where the arguments, and the package variables that the reading takes, are together of bulk at most 1048576: NARROWER than '..Said'. Prove '..Said' where nothing that the law and all that it calls make is longer than what came in: it says more and counts as full. Else prove '..UptoSaid'. A law counts once. -/
mutual
def uptoBulk {H : Type} : DataW H → Nat
  | .lit (.string bytes) => bytes.length + 1
  | .lit _ => 1
  | .nil => 1
  | .ptr d => uptoBulk d + 1
  | .slice elems spare => uptoBulkAll elems + uptoBulkAll spare + 1
  | .agg parts => uptoBulkAll parts + 1
  | .iface _ d => uptoBulk d + 1
  | .map entries => uptoBulkEntries entries + 1
  | .held _ => 1
def uptoBulkAll {H : Type} : List (DataW H) → Nat
  | [] => 0
  | d :: r => uptoBulk d + uptoBulkAll r
def uptoBulkEntries {H : Type} : List (Lit × DataW H) → Nat
  | [] => 0
  | x :: r => uptoBulkEntry x + uptoBulkEntries r
def uptoBulkEntry {H : Type} : Lit × DataW H → Nat
  | (.string bytes, d) => bytes.length + uptoBulk d + 1
  | (_, d) => uptoBulk d + 1
 end
def uptoSmall : (H : Type) → List (DataW H) → Bool := fun _ ds => decide (uptoBulkAll ds ≤ 1048576)
def OpenSpec.upto (s : _root_.Go.ChangeSpec) : _root_.Go.OpenSpec := { _root_.Go.OpenSpec.ofChange s with cond := some uptoSmall }

/-- 'laws.FnExactRecodeValid', WHERE WHAT IT READS IS OF BULK AT MOST 1048576: true; the input reads as it did. -/
def fnExactRecodeValidUptoRow : OpenClaim := { program := "ytddadkjpkmdmiaa", sum := "a9465e309491564836a04d92b421d3d92c6e455b92ed13982b40b08df44bb45f", func := "loop.example/disclosurecontrol/laws.FnExactRecodeValid", spec := "fnExactRecodeValid", apart := false, narrowed := true }
def FnExactRecodeValidUptoSaid : Prop := fnExactRecodeValidUptoRow.holds Try.pinned (OpenSpec.upto fnExactRecodeValidSpec)

/-- 'laws.FnExactRecodeFiner', WHERE WHAT IT READS IS OF BULK AT MOST 1048576: true; the input reads as it did. -/
def fnExactRecodeFinerUptoRow : OpenClaim := { program := "ytddadkjpkmdmiaa", sum := "a9465e309491564836a04d92b421d3d92c6e455b92ed13982b40b08df44bb45f", func := "loop.example/disclosurecontrol/laws.FnExactRecodeFiner", spec := "fnExactRecodeFiner", apart := false, narrowed := true }
def FnExactRecodeFinerUptoSaid : Prop := fnExactRecodeFinerUptoRow.holds Try.pinned (OpenSpec.upto fnExactRecodeFinerSpec)

/-- 'laws.FnRecode', WHERE WHAT IT READS IS OF BULK AT MOST 1048576: true; the input reads as it did. -/
def fnRecodeUptoRow : OpenClaim := { program := "ytddadkjpkmdmiaa", sum := "a9465e309491564836a04d92b421d3d92c6e455b92ed13982b40b08df44bb45f", func := "loop.example/disclosurecontrol/laws.FnRecode", spec := "fnRecode", apart := false, narrowed := true }
def FnRecodeUptoSaid : Prop := fnRecodeUptoRow.holds Try.pinned (OpenSpec.upto fnRecodeSpec)

/-- 'laws.FnRecodeFiner', WHERE WHAT IT READS IS OF BULK AT MOST 1048576: true; the input reads as it did. -/
def fnRecodeFinerUptoRow : OpenClaim := { program := "ytddadkjpkmdmiaa", sum := "a9465e309491564836a04d92b421d3d92c6e455b92ed13982b40b08df44bb45f", func := "loop.example/disclosurecontrol/laws.FnRecodeFiner", spec := "fnRecodeFiner", apart := false, narrowed := true }
def FnRecodeFinerUptoSaid : Prop := fnRecodeFinerUptoRow.holds Try.pinned (OpenSpec.upto fnRecodeFinerSpec)

/-- 'laws.FnRecodeFinerLeast', WHERE WHAT IT READS IS OF BULK AT MOST 1048576: true; the input reads as it did. -/
def fnRecodeFinerLeastUptoRow : OpenClaim := { program := "ytddadkjpkmdmiaa", sum := "a9465e309491564836a04d92b421d3d92c6e455b92ed13982b40b08df44bb45f", func := "loop.example/disclosurecontrol/laws.FnRecodeFinerLeast", spec := "fnRecodeFinerLeast", apart := false, narrowed := true }
def FnRecodeFinerLeastUptoSaid : Prop := fnRecodeFinerLeastUptoRow.holds Try.pinned (OpenSpec.upto fnRecodeFinerLeastSpec)

/-- 'laws.FnRecodeChain', WHERE WHAT IT READS IS OF BULK AT MOST 1048576: true; the input reads as it did. -/
def fnRecodeChainUptoRow : OpenClaim := { program := "ytddadkjpkmdmiaa", sum := "a9465e309491564836a04d92b421d3d92c6e455b92ed13982b40b08df44bb45f", func := "loop.example/disclosurecontrol/laws.FnRecodeChain", spec := "fnRecodeChain", apart := false, narrowed := true }
def FnRecodeChainUptoSaid : Prop := fnRecodeChainUptoRow.holds Try.pinned (OpenSpec.upto fnRecodeChainSpec)

/-- 'laws.FnRecodeOnce', WHERE WHAT IT READS IS OF BULK AT MOST 1048576: true; the input reads as it did. -/
def fnRecodeOnceUptoRow : OpenClaim := { program := "ytddadkjpkmdmiaa", sum := "a9465e309491564836a04d92b421d3d92c6e455b92ed13982b40b08df44bb45f", func := "loop.example/disclosurecontrol/laws.FnRecodeOnce", spec := "fnRecodeOnce", apart := false, narrowed := true }
def FnRecodeOnceUptoSaid : Prop := fnRecodeOnceUptoRow.holds Try.pinned (OpenSpec.upto fnRecodeOnceSpec)

/-- 'laws.FnRecodePeople', WHERE WHAT IT READS IS OF BULK AT MOST 1048576: true; the input reads as it did. -/
def fnRecodePeopleUptoRow : OpenClaim := { program := "ytddadkjpkmdmiaa", sum := "a9465e309491564836a04d92b421d3d92c6e455b92ed13982b40b08df44bb45f", func := "loop.example/disclosurecontrol/laws.FnRecodePeople", spec := "fnRecodePeople", apart := false, narrowed := true }
def FnRecodePeopleUptoSaid : Prop := fnRecodePeopleUptoRow.holds Try.pinned (OpenSpec.upto fnRecodePeopleSpec)

/-- 'laws.FnRecodeNone', WHERE WHAT IT READS IS OF BULK AT MOST 1048576: true; the input reads as it did. -/
def fnRecodeNoneUptoRow : OpenClaim := { program := "ytddadkjpkmdmiaa", sum := "a9465e309491564836a04d92b421d3d92c6e455b92ed13982b40b08df44bb45f", func := "loop.example/disclosurecontrol/laws.FnRecodeNone", spec := "fnRecodeNone", apart := false, narrowed := true }
def FnRecodeNoneUptoSaid : Prop := fnRecodeNoneUptoRow.holds Try.pinned (OpenSpec.upto fnRecodeNoneSpec)

/-- 'laws.FnRecodePay', WHERE WHAT IT READS IS OF BULK AT MOST 1048576: true; the input reads as it did. -/
def fnRecodePayUptoRow : OpenClaim := { program := "ytddadkjpkmdmiaa", sum := "a9465e309491564836a04d92b421d3d92c6e455b92ed13982b40b08df44bb45f", func := "loop.example/disclosurecontrol/laws.FnRecodePay", spec := "fnRecodePay", apart := false, narrowed := true }
def FnRecodePayUptoSaid : Prop := fnRecodePayUptoRow.holds Try.pinned (OpenSpec.upto fnRecodePaySpec)

end Rows
end Go.Proofs.Ytddadkjpkmdmiaa
