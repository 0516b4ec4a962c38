/-
  No cell of these rows narrows 'for every input' (looked for: loops, veiled, ifaces, maps, wideKeys, modest, calm, conditions, laid).
  DERIVED. THE GIVEN ROWS OF THIS SEAT. 6 by the template 'for every input the law returns true; each argument reads behind the call as it read before'; 0 by the template 'total and deterministic' (their statements: YtbfblomabjmnmaaTotals.lean).
  GIVEN WITH THE SEED: the statements are not yours to turn. If you find one false, say at which input.
  Laid BY PROGRAM, IN A SANDBOX (cutbox-rows.mjs): the forced cells as the released guide's own fill.sh prints them over the translation 956c77abdfd0d982… (all of the seat's roots in one cut). By AI agents, Wed Nov 11 2026. No macro, syntax, notation, axiom, sorry.
-/
import Derived.Test.YtbfblomabjmnmaaChecked
import GoSem.Claim
import GoSem.ClaimJoined
import GoSem.ClaimMapViews
import Derived.JoinedTies
import Derived.KernelRfl
namespace Go.Proofs.Ytbfblomabjmnmaa
/- THE CELL 'sum', in the pinned program and in every row, IS THE sha256 OF THE DUMP (.gsa) THAT YtbfblomabjmnmaaProg.lean LOADS. Nothing in Lean hashes anything: it is a label: what it is worth is what the hold of that sum in a sandbox is worth. -/
noncomputable def Try.pinned : Pinned := { name := "ytbfblomabjmnmaa", sum := "956c77abdfd0d9828eff85cc4eb0b14ba5629e670b33fb9c1ce607aa80e6c172", checked := Try.checked }
namespace Rows
def none {H : Type} : Left H := { results := [], args := [] }

/-- 'laws.FnLadderMergeSwap': WHATEVER THE INPUT: true; the input reads as it did. -/
def fnLadderMergeSwapSpec : ChangeSpec := { name := "fnLadderMergeSwap", fn := fun _ => fun
  | [d] => { results := [.lit (.bool true)], args := [d] }
  | _ => none }
def fnLadderMergeSwapRow : OpenClaim := { program := "ytbfblomabjmnmaa", sum := "956c77abdfd0d9828eff85cc4eb0b14ba5629e670b33fb9c1ce607aa80e6c172", func := "loop.example/disclosurecontrol/laws.FnLadderMergeSwap", spec := "fnLadderMergeSwap", apart := false }
def FnLadderMergeSwapSaid : Prop := fnLadderMergeSwapRow.holds Try.pinned (OpenSpec.ofChange fnLadderMergeSwapSpec)

/-- ITS FALSE NEIGHBOUR: 'it returns false'. Refute it at one input. -/
def fnLadderMergeSwapWrong : ChangeSpec := { name := "fnLadderMergeSwap", fn := fun _ => fun
  | [d] => { results := [.lit (.bool false)], args := [d] }
  | _ => none }
def FnLadderMergeSwapWrongFalsely : Prop := fnLadderMergeSwapRow.holds Try.pinned (OpenSpec.ofChange fnLadderMergeSwapWrong)

/-- 'laws.FnLadderMergeSame': WHATEVER THE INPUT: true; the input reads as it did. -/
def fnLadderMergeSameSpec : ChangeSpec := { name := "fnLadderMergeSame", fn := fun _ => fun
  | [d] => { results := [.lit (.bool true)], args := [d] }
  | _ => none }
def fnLadderMergeSameRow : OpenClaim := { program := "ytbfblomabjmnmaa", sum := "956c77abdfd0d9828eff85cc4eb0b14ba5629e670b33fb9c1ce607aa80e6c172", func := "loop.example/disclosurecontrol/laws.FnLadderMergeSame", spec := "fnLadderMergeSame", apart := false }
def FnLadderMergeSameSaid : Prop := fnLadderMergeSameRow.holds Try.pinned (OpenSpec.ofChange fnLadderMergeSameSpec)

/-- ITS FALSE NEIGHBOUR: 'it returns false'. Refute it at one input. -/
def fnLadderMergeSameWrong : ChangeSpec := { name := "fnLadderMergeSame", fn := fun _ => fun
  | [d] => { results := [.lit (.bool false)], args := [d] }
  | _ => none }
def FnLadderMergeSameWrongFalsely : Prop := fnLadderMergeSameRow.holds Try.pinned (OpenSpec.ofChange fnLadderMergeSameWrong)

/-- 'laws.FnLadderGroupsMerge': WHATEVER THE INPUT: true; the input reads as it did. -/
def fnLadderGroupsMergeSpec : ChangeSpec := { name := "fnLadderGroupsMerge", fn := fun _ => fun
  | [d] => { results := [.lit (.bool true)], args := [d] }
  | _ => none }
def fnLadderGroupsMergeRow : OpenClaim := { program := "ytbfblomabjmnmaa", sum := "956c77abdfd0d9828eff85cc4eb0b14ba5629e670b33fb9c1ce607aa80e6c172", func := "loop.example/disclosurecontrol/laws.FnLadderGroupsMerge", spec := "fnLadderGroupsMerge", apart := false }
def FnLadderGroupsMergeSaid : Prop := fnLadderGroupsMergeRow.holds Try.pinned (OpenSpec.ofChange fnLadderGroupsMergeSpec)

/-- ITS FALSE NEIGHBOUR: 'it returns false'. Refute it at one input. -/
def fnLadderGroupsMergeWrong : ChangeSpec := { name := "fnLadderGroupsMerge", fn := fun _ => fun
  | [d] => { results := [.lit (.bool false)], args := [d] }
  | _ => none }
def FnLadderGroupsMergeWrongFalsely : Prop := fnLadderGroupsMergeRow.holds Try.pinned (OpenSpec.ofChange fnLadderGroupsMergeWrong)

/-- 'laws.FnLadderMergeAll': WHATEVER THE INPUT: true; the input reads as it did. -/
def fnLadderMergeAllSpec : ChangeSpec := { name := "fnLadderMergeAll", fn := fun _ => fun
  | [d] => { results := [.lit (.bool true)], args := [d] }
  | _ => none }
def fnLadderMergeAllRow : OpenClaim := { program := "ytbfblomabjmnmaa", sum := "956c77abdfd0d9828eff85cc4eb0b14ba5629e670b33fb9c1ce607aa80e6c172", func := "loop.example/disclosurecontrol/laws.FnLadderMergeAll", spec := "fnLadderMergeAll", apart := false }
def FnLadderMergeAllSaid : Prop := fnLadderMergeAllRow.holds Try.pinned (OpenSpec.ofChange fnLadderMergeAllSpec)

/-- ITS FALSE NEIGHBOUR: 'it returns false'. Refute it at one input. -/
def fnLadderMergeAllWrong : ChangeSpec := { name := "fnLadderMergeAll", fn := fun _ => fun
  | [d] => { results := [.lit (.bool false)], args := [d] }
  | _ => none }
def FnLadderMergeAllWrongFalsely : Prop := fnLadderMergeAllRow.holds Try.pinned (OpenSpec.ofChange fnLadderMergeAllWrong)

/-- 'laws.FnExactLadderMerge': WHATEVER THE INPUT: true; the input reads as it did. -/
def fnExactLadderMergeSpec : ChangeSpec := { name := "fnExactLadderMerge", fn := fun _ => fun
  | [d1, d2, d3] => { results := [.lit (.bool true)], args := [d1, d2, d3] }
  | _ => none }
def fnExactLadderMergeRow : OpenClaim := { program := "ytbfblomabjmnmaa", sum := "956c77abdfd0d9828eff85cc4eb0b14ba5629e670b33fb9c1ce607aa80e6c172", func := "loop.example/disclosurecontrol/laws.FnExactLadderMerge", spec := "fnExactLadderMerge", apart := false }
def FnExactLadderMergeSaid : Prop := fnExactLadderMergeRow.holds Try.pinned (OpenSpec.ofChange fnExactLadderMergeSpec)

/-- ITS FALSE NEIGHBOUR: 'it returns false'. Refute it at one input. -/
def fnExactLadderMergeWrong : ChangeSpec := { name := "fnExactLadderMerge", fn := fun _ => fun
  | [d1, d2, d3] => { results := [.lit (.bool false)], args := [d1, d2, d3] }
  | _ => none }
def FnExactLadderMergeWrongFalsely : Prop := fnExactLadderMergeRow.holds Try.pinned (OpenSpec.ofChange fnExactLadderMergeWrong)

/-- 'laws.FnLadderMerge': WHATEVER THE INPUT: true; the input reads as it did. -/
def fnLadderMergeSpec : ChangeSpec := { name := "fnLadderMerge", fn := fun _ => fun
  | [d] => { results := [.lit (.bool true)], args := [d] }
  | _ => none }
def fnLadderMergeRow : OpenClaim := { program := "ytbfblomabjmnmaa", sum := "956c77abdfd0d9828eff85cc4eb0b14ba5629e670b33fb9c1ce607aa80e6c172", func := "loop.example/disclosurecontrol/laws.FnLadderMerge", spec := "fnLadderMerge", apart := false }
def FnLadderMergeSaid : Prop := fnLadderMergeRow.holds Try.pinned (OpenSpec.ofChange fnLadderMergeSpec)

/-- ITS FALSE NEIGHBOUR: 'it returns false'. Refute it at one input. -/
def fnLadderMergeWrong : ChangeSpec := { name := "fnLadderMerge", fn := fun _ => fun
  | [d] => { results := [.lit (.bool false)], args := [d] }
  | _ => none }
def FnLadderMergeWrongFalsely : Prop := fnLadderMergeRow.holds Try.pinned (OpenSpec.ofChange fnLadderMergeWrong)

/- THE SECOND FORM. 'bulk': how many values and letters a reading holds, each counted each time it is reached (what is shared counts as often as it is met; a slice's spare places count too). A statement '..UptoSaid' is the law's where the arguments, and the package variables that the reading takes, are together of bulk at most 1048576: NARROWER than '..Said'. Prove '..Said' where nothing that the law and all that it calls make is longer than what came in: it says more and counts as full. Else prove '..UptoSaid'. A law counts once. -/
mutual
def uptoBulk {H : Type} : DataW H → Nat
  | .lit (.string bytes) => bytes.length + 1
  | .lit _ => 1
  | .nil => 1
  | .ptr d => uptoBulk d + 1
  | .slice elems spare => uptoBulkAll elems + uptoBulkAll spare + 1
  | .agg parts => uptoBulkAll parts + 1
  | .iface _ d => uptoBulk d + 1
  | .map entries => uptoBulkEntries entries + 1
  | .held _ => 1
def uptoBulkAll {H : Type} : List (DataW H) → Nat
  | [] => 0
  | d :: r => uptoBulk d + uptoBulkAll r
def uptoBulkEntries {H : Type} : List (Lit × DataW H) → Nat
  | [] => 0
  | x :: r => uptoBulkEntry x + uptoBulkEntries r
def uptoBulkEntry {H : Type} : Lit × DataW H → Nat
  | (.string bytes, d) => bytes.length + uptoBulk d + 1
  | (_, d) => uptoBulk d + 1
 end
def uptoSmall : (H : Type) → List (DataW H) → Bool := fun _ ds => decide (uptoBulkAll ds ≤ 1048576)
def OpenSpec.upto (s : _root_.Go.ChangeSpec) : _root_.Go.OpenSpec := { _root_.Go.OpenSpec.ofChange s with cond := some uptoSmall }

/-- 'laws.FnLadderMergeSwap', WHERE WHAT IT READS IS OF BULK AT MOST 1048576: true; the input reads as it did. -/
def fnLadderMergeSwapUptoRow : OpenClaim := { program := "ytbfblomabjmnmaa", sum := "956c77abdfd0d9828eff85cc4eb0b14ba5629e670b33fb9c1ce607aa80e6c172", func := "loop.example/disclosurecontrol/laws.FnLadderMergeSwap", spec := "fnLadderMergeSwap", apart := false, narrowed := true }
def FnLadderMergeSwapUptoSaid : Prop := fnLadderMergeSwapUptoRow.holds Try.pinned (OpenSpec.upto fnLadderMergeSwapSpec)

/-- 'laws.FnLadderMergeSame', WHERE WHAT IT READS IS OF BULK AT MOST 1048576: true; the input reads as it did. -/
def fnLadderMergeSameUptoRow : OpenClaim := { program := "ytbfblomabjmnmaa", sum := "956c77abdfd0d9828eff85cc4eb0b14ba5629e670b33fb9c1ce607aa80e6c172", func := "loop.example/disclosurecontrol/laws.FnLadderMergeSame", spec := "fnLadderMergeSame", apart := false, narrowed := true }
def FnLadderMergeSameUptoSaid : Prop := fnLadderMergeSameUptoRow.holds Try.pinned (OpenSpec.upto fnLadderMergeSameSpec)

/-- 'laws.FnLadderGroupsMerge', WHERE WHAT IT READS IS OF BULK AT MOST 1048576: true; the input reads as it did. -/
def fnLadderGroupsMergeUptoRow : OpenClaim := { program := "ytbfblomabjmnmaa", sum := "956c77abdfd0d9828eff85cc4eb0b14ba5629e670b33fb9c1ce607aa80e6c172", func := "loop.example/disclosurecontrol/laws.FnLadderGroupsMerge", spec := "fnLadderGroupsMerge", apart := false, narrowed := true }
def FnLadderGroupsMergeUptoSaid : Prop := fnLadderGroupsMergeUptoRow.holds Try.pinned (OpenSpec.upto fnLadderGroupsMergeSpec)

/-- 'laws.FnLadderMergeAll', WHERE WHAT IT READS IS OF BULK AT MOST 1048576: true; the input reads as it did. -/
def fnLadderMergeAllUptoRow : OpenClaim := { program := "ytbfblomabjmnmaa", sum := "956c77abdfd0d9828eff85cc4eb0b14ba5629e670b33fb9c1ce607aa80e6c172", func := "loop.example/disclosurecontrol/laws.FnLadderMergeAll", spec := "fnLadderMergeAll", apart := false, narrowed := true }
def FnLadderMergeAllUptoSaid : Prop := fnLadderMergeAllUptoRow.holds Try.pinned (OpenSpec.upto fnLadderMergeAllSpec)

/-- 'laws.FnExactLadderMerge', WHERE WHAT IT READS IS OF BULK AT MOST 1048576: true; the input reads as it did. -/
def fnExactLadderMergeUptoRow : OpenClaim := { program := "ytbfblomabjmnmaa", sum := "956c77abdfd0d9828eff85cc4eb0b14ba5629e670b33fb9c1ce607aa80e6c172", func := "loop.example/disclosurecontrol/laws.FnExactLadderMerge", spec := "fnExactLadderMerge", apart := false, narrowed := true }
def FnExactLadderMergeUptoSaid : Prop := fnExactLadderMergeUptoRow.holds Try.pinned (OpenSpec.upto fnExactLadderMergeSpec)

/-- 'laws.FnLadderMerge', WHERE WHAT IT READS IS OF BULK AT MOST 1048576: true; the input reads as it did. -/
def fnLadderMergeUptoRow : OpenClaim := { program := "ytbfblomabjmnmaa", sum := "956c77abdfd0d9828eff85cc4eb0b14ba5629e670b33fb9c1ce607aa80e6c172", func := "loop.example/disclosurecontrol/laws.FnLadderMerge", spec := "fnLadderMerge", apart := false, narrowed := true }
def FnLadderMergeUptoSaid : Prop := fnLadderMergeUptoRow.holds Try.pinned (OpenSpec.upto fnLadderMergeSpec)

end Rows
end Go.Proofs.Ytbfblomabjmnmaa
