/- Contract of DrawPeopleBand: some number from -1 to 1000. -/
import Derived.Test.YtljlebaallcekaaRo
namespace Go.Proofs.Ytljlebaallcekaa
open Go.RowKit
set_option linter.unusedVariables false

/-- A cell of another block behind a pick. -/
theorem later_cell {w w' : World} {g h i : Nat} {cs : Array Value} {t : TypeId} {fr : Nat × Nat} (hg : w.grownBy w' (some g)) (hb : w.heap[h]? = some (.cells cs t fr)) (hne : h ≠ g) : w'.cell? ⟨h, i, none⟩ = cs[i]? := by
  have hlt : h < w.heap.size := by
    rcases Nat.lt_or_ge h w.heap.size with hlt | hge
    · exact hlt
    · rw [Array.getElem?_eq_none hge] at hb; cases hb
  exact cell_of_row w' h i cs t fr ((hg.block h hlt (fun e => hne (by injection e))).trans hb)

theorem two_of {v : Int} (h0 : 0 ≤ v) (h1 : v < 2) (a b : Value) : ∃ x, #[a, b][v.toNat]? = some x ∧ (x = a ∨ x = b) := by
  rcases (show v = 0 ∨ v = 1 by omega) with rfl | rfl
  · exact ⟨a, rfl, .inl rfl⟩
  · exact ⟨b, rfl, .inr rfl⟩
theorem three_of {v : Int} (h0 : 0 ≤ v) (h1 : v < 3) (a b c : Value) : ∃ x, #[a, b, c][v.toNat]? = some x ∧ (x = a ∨ x = b ∨ x = c) := by
  rcases (show v = 0 ∨ v = 1 ∨ v = 2 by omega) with rfl | rfl | rfl
  · exact ⟨a, rfl, .inl rfl⟩
  · exact ⟨b, rfl, .inr (.inl rfl)⟩
  · exact ⟨c, rfl, .inr (.inr rfl)⟩

theorem below_grown {B : Nat} {w w1 w2 : World} {g : Nat} (h : Below B w w1) (hg : w1.grownBy w2 (some g)) (hB : B ≤ w.heap.size) (hB' : B ≤ g) : Below B w w2 :=
  h.grown hg (Nat.le_trans hB h.size) (fun k hk => by injection hk with hk; omega)

set_option maxHeartbeats 800000 in
theorem drawPeopleBand_any (A : Option Addr) (n c : Nat) (w : World) (hin : BytesIn w A n c) : Calls Try.prog 16 #[.slice A n c] w fun e w' =>
    ∃ x : Int, e = .returned (.int .i64 x) ∧ (-1 ≤ x ∧ x ≤ 1000) ∧ Below w.heap.size w w' := by
  go_enter Try.func16, Try.ntmps16
  go_wp2_with fail
  refine (l6Open_any A n c w hin).mono ?_
  rintro e w1 ⟨g, rfl, hr1, hb1⟩
  go_wp2_with fail
  refine (pick_any _ g 0 10 _ hr1 (by omega) (by omega)).mono ?_
  rintro e w2 ⟨v, rfl, ⟨p0, p1, p2⟩, hr2, hg2⟩
  have hb2 := below_grown hb1 hg2 (Nat.le_refl _) hr1.1
  cases hv : (v == 0)
  · go_wp2_with fail
    refine (pick_any _ g 1 200 _ hr2 (by omega) (by omega)).mono ?_
    rintro e w3 ⟨u, rfl, ⟨q0, q1, q2⟩, hr3, hg3⟩
    have hb3 := below_grown hb2 hg3 (Nat.le_refl _) hr1.1
    have q3 := q2 (by omega)
    go_wp2
    go_ret
    exact ⟨_, rfl, by omega, hb3⟩
  · go_wp2_with fail
    refine (pick_any _ g 1 3 _ (hr2.below (below_new _ _)) (by omega) (by omega)).mono ?_
    rintro e w3 ⟨u, rfl, ⟨q0, q1, q2⟩, hr3, hg3⟩
    have q3 := q2 (by omega)
    have hne : w2.heap.size ≠ g := by have := hr2.lt; omega
    have hb3 := below_grown (hb2.trans ((below_new _ _).mono hb2.size)) hg3 (Nat.le_refl _) hr1.1
    obtain ⟨x, hx, hx'⟩ := three_of q0 q3 (.int .i64 (-1)) (.int .i64 1000) (.int .i64 999)
    have hc := (later_cell (i := u.toNat) hg3 (heap_alloc_new _ _) hne).trans hx
    have hxi : ∃ y : Int, x = .int .i64 y ∧ -1 ≤ y ∧ y ≤ 1000 := by
      rcases hx' with rfl | rfl | rfl
      · exact ⟨_, rfl, by omega, by omega⟩
      · exact ⟨_, rfl, by omega, by omega⟩
      · exact ⟨_, rfl, by omega, by omega⟩
    obtain ⟨y, rfl, hy0, hy1⟩ := hxi
    clear hx hx'
    go_wp2
    go_ret
    exact ⟨y, rfl, ⟨hy0, hy1⟩, hb3⟩

end Go.Proofs.Ytljlebaallcekaa
