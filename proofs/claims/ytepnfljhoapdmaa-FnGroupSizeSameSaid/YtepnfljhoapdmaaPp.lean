/- A slice that holds persons. -/
import Derived.Test.YtepnfljhoapdmaaPe
namespace Go.Proofs.Ytepnfljhoapdmaa
open Go.RowKit
set_option linter.unusedVariables false

/-- The slice '.slice A _ c' holds the persons L. -/
def Ppl (w : World) (A : Option Addr) (c : Nat) (L : List Pers) : Prop := Seen w A (pcells L) ∧ L.length ≤ c ∧ c ≤ 9223372036854775807 ∧ (A = none → c = 0)
theorem Ppl.below {w w' : World} {A : Option Addr} {c : Nat} {L : List Pers} (h : Ppl w A c L) (hb : Below w.heap.size w w') : Ppl w' A c L := ⟨h.1.below hb, h.2⟩
theorem ppl_own {w : World} {B c : Nat} {A : Option Addr} {L : List Pers} (h : w.ownsRow B 31 4 (.slice A L.length c) L.length (pcells L)) : Ppl w A c L := by
  refine ⟨fun h0 => ?_, ?_⟩
  · have hpos : 0 < L.length := by rw [pcells_length] at h0; omega
    obtain ⟨g, cap, hv, _, hlt⟩ := h.form hpos
    injection hv with hA _ hc
    subst hA hc
    refine ⟨g, 0, rfl, hlt, fun j u hu => ?_⟩
    have hj : j < L.length * 4 := by
      rw [← pcells_length]
      rcases Nat.lt_or_ge j (pcells L).length with h | h
      · exact h
      · rw [List.getElem?_eq_none h] at hu; cases hu
    rw [Nat.zero_add, h.cellAt j hj]
    exact hu
  · rcases h.2 with ⟨hv, hn⟩ | ⟨g, cap, cur, hv, _, _, hnc, hcm, _⟩
    · injection hv with _ _ hc
      exact ⟨by omega, by omega, fun _ => hc⟩
    · injection hv with hA _ hc
      unfold maxLen at hcm
      exact ⟨by omega, by omega, fun e => by rw [hA] at e; cases e⟩

/-- What a draw of people leaves. -/
def DrawnPost (m : Nat) (w : World) (e : Ending) (w' : World) : Prop := ∃ A c L, e = .returned (.slice A L.length c) ∧ Ppl w' A c L ∧ L.length ≤ m ∧ Below w.heap.size w w'

end Go.Proofs.Ytepnfljhoapdmaa
