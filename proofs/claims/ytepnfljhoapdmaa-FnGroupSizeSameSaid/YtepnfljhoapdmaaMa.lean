/- Words for memory: a slice that holds cells; what stays over new blocks. No conditions. -/
import Derived.Test.YtepnfljhoapdmaaPa
namespace Go.Proofs.Ytepnfljhoapdmaa
open Go.RowKit

/-- A slice with the address A holds the cells xs (A is asked for only if there is a cell). -/
def Seen (w : World) (A : Option Addr) (xs : List Value) : Prop :=
  0 < xs.length → ∃ b o, A = some ⟨b, o, none⟩ ∧ b < w.heap.size ∧ ∀ j u, xs[j]? = some u → w.cell? ⟨b, o + j, none⟩ = some u

theorem Seen.nil (w : World) (A : Option Addr) : Seen w A [] := fun h => absurd h (by simp)
theorem Seen.below {w w' : World} {A : Option Addr} {xs : List Value} (h : Seen w A xs) (hb : Below w.heap.size w w') : Seen w' A xs := fun h0 => by
  obtain ⟨b, o, e, hlt, hc⟩ := h h0
  exact ⟨b, o, e, Nat.lt_of_lt_of_le hlt hb.size, fun j u hu => (hb.cell (p := ⟨b, o + j, none⟩) hlt).trans (hc j u hu)⟩

end Go.Proofs.Ytepnfljhoapdmaa
