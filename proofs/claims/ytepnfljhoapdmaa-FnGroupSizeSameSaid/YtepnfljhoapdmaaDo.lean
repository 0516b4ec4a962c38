/- Contracts of the draws of people, a ladder and a recoding: what they leave. -/
import Derived.Test.YtepnfljhoapdmaaDa
namespace Go.Proofs.Ytepnfljhoapdmaa
open Go.RowKit
set_option linter.unusedVariables false

/-- What a draw of people, a ladder and a recoding leaves. -/
def DrpPost (w : World) (e : Ending) (w' : World) : Prop :=
  ∃ (A : Option Addr) (n c : Nat) (L : List Pers) (B : Option Addr) (m d : Nat) (R : List Rw) (a j s : Int), e = .returned (.tuple #[.slice A n c, .slice B m d, .agg #[.int .i64 a, .int .i64 j, .int .i64 s]]) ∧
    L.length = n ∧ n ≤ 10 ∧ Ppl w' A c L ∧ R.length = m ∧ m ≤ 4 ∧ (∀ r ∈ R, r.s.length ≤ 4) ∧ Lad w' B d R ∧ Below w.heap.size w w'
theorem ppl_own_m {w : World} {B c n : Nat} {A : Option Addr} {L : List Pers} (hn : L.length = n) (h : w.ownsRow B 31 4 (.slice A n c) n (pcells L)) : Ppl w A c L := by subst hn; exact ppl_own h

end Go.Proofs.Ytepnfljhoapdmaa
