/- Small facts on what lies beside the reader. -/
import Derived.Test.YtepnfljhoapdmaaRo
namespace Go.Proofs.Ytepnfljhoapdmaa
open Go.RowKit
set_option linter.unusedVariables false

/-- A cell of another block behind a pick. -/
theorem later_cell {w w' : World} {g h i : Nat} {cs : Array Value} {t : TypeId} {fr : Nat × Nat} (hg : w.grownBy w' (some g)) (hb : w.heap[h]? = some (.cells cs t fr)) (hne : h ≠ g) : w'.cell? ⟨h, i, none⟩ = cs[i]? := by
  have hlt : h < w.heap.size := by
    rcases Nat.lt_or_ge h w.heap.size with hlt | hge
    · exact hlt
    · rw [Array.getElem?_eq_none hge] at hb; cases hb
  exact cell_of_row w' h i cs t fr ((hg.block h hlt (fun e => hne (by injection e))).trans hb)

theorem two_of {v : Int} (h0 : 0 ≤ v) (h1 : v < 2) (a b : Value) : ∃ x, #[a, b][v.toNat]? = some x ∧ (x = a ∨ x = b) := by
  rcases (show v = 0 ∨ v = 1 by omega) with rfl | rfl
  · exact ⟨a, rfl, .inl rfl⟩
  · exact ⟨b, rfl, .inr rfl⟩
theorem three_of {v : Int} (h0 : 0 ≤ v) (h1 : v < 3) (a b c : Value) : ∃ x, #[a, b, c][v.toNat]? = some x ∧ (x = a ∨ x = b ∨ x = c) := by
  rcases (show v = 0 ∨ v = 1 ∨ v = 2 by omega) with rfl | rfl | rfl
  · exact ⟨a, rfl, .inl rfl⟩
  · exact ⟨b, rfl, .inr (.inl rfl)⟩
  · exact ⟨c, rfl, .inr (.inr rfl)⟩

theorem below_grown {B : Nat} {w w1 w2 : World} {g : Nat} (h : Below B w w1) (hg : w1.grownBy w2 (some g)) (hB : B ≤ w.heap.size) (hB' : B ≤ g) : Below B w w2 :=
  h.grown hg (Nat.le_trans hB h.size) (fun k hk => by injection hk with hk; omega)

end Go.Proofs.Ytepnfljhoapdmaa
