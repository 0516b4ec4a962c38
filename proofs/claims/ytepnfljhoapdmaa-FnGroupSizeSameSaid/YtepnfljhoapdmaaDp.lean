/- Contract of l91Person: a valid person. -/
import Derived.Test.YtepnfljhoapdmaaDh
import Derived.Maps.AppendAt
namespace Go.Proofs.Ytepnfljhoapdmaa
open Go.RowKit
set_option linter.unusedVariables false

def PersonPost (base g p : Nat) (w : World) (e : Ending) (w' : World) : Prop :=
  ∃ a j s q : Int, e = .returned (.agg #[.int .i64 a, .int .i64 j, .int .i64 s, .int .i64 q]) ∧ okB ⟨a, j, s, q⟩ = true ∧ Rdr base w' g (p + 5) ∧ w.grownBy w' (some g)

theorem cell_four {w : World} {g : Nat} {a b c d : Value} {t : TypeId} (h : w.heap[g]? = some (.cells #[a, b, c, d] t (0, 0))) :
    (w.cell? ⟨g, 0, none⟩ = some a ∧ w.cell? ⟨g, 1, none⟩ = some b ∧ w.cell? ⟨g, 2, none⟩ = some c ∧ w.cell? ⟨g, 3, none⟩ = some d) ∧
    w.frozen? ⟨g, 0, none⟩ = false ∧ w.frozen? ⟨g, 1, none⟩ = false ∧ w.frozen? ⟨g, 2, none⟩ = false ∧ w.frozen? ⟨g, 3, none⟩ = false :=
  ⟨⟨cell_of_row w g 0 _ _ _ h, cell_of_row w g 1 _ _ _ h, cell_of_row w g 2 _ _ _ h, cell_of_row w g 3 _ _ _ h⟩, frozen_of_row w g 0 _ _ h, frozen_of_row w g 1 _ _ h, frozen_of_row w g 2 _ _ h, frozen_of_row w g 3 _ _ h⟩
/-- Four stores into a box of four cells. -/
theorem heap_put4 {w : World} {g : Nat} {a b c d a' b' c' d' : Value} {t : TypeId} (h : w.heap[g]? = some (.cells #[a, b, c, d] t (0, 0))) :
    ((((w.setCell ⟨g, 0, none⟩ a').setCell ⟨g, 1, none⟩ b').setCell ⟨g, 2, none⟩ c').setCell ⟨g, 3, none⟩ d').heap[g]? = some (.cells #[a', b', c', d'] t (0, 0)) := by
  have h1 := heap_setCell_same w g 0 _ _ a' h
  have h2 := heap_setCell_same _ g 1 _ _ b' h1
  have h3 := heap_setCell_same _ g 2 _ _ c' h2
  have h4 := heap_setCell_same _ g 3 _ _ d' h3
  rw [h4]
  simp
theorem grown_put4 (w : World) (g : Nat) (a b c d : Value) (row : Option Nat) (B : Nat) (hB : B ≤ g) {w0 : World} (h : w0.grownBy w row) (h0 : w0.heap.size = B) :
    w0.grownBy ((((w.setCell ⟨g, 0, none⟩ a).setCell ⟨g, 1, none⟩ b).setCell ⟨g, 2, none⟩ c).setCell ⟨g, 3, none⟩ d) row := by
  have e : ∀ (x : World) (i : Nat) (v : Value), (x.setCell ⟨g, i, none⟩ v).heap.size = x.heap.size := fun x i v => by simp [World.setCell]
  refine ⟨h.os, h.tape, h.output, by rw [e, e, e, e]; exact h.size, fun k hk hne => ?_⟩
  have hkg : k ≠ g := by omega
  rw [Below.heap_setCell _ _ _ k hkg, Below.heap_setCell _ _ _ k hkg, Below.heap_setCell _ _ _ k hkg, Below.heap_setCell _ _ _ k hkg]
  exact h.block k hk hne

set_option maxHeartbeats 800000 in
theorem l91Person_any (base g p : Nat) (w : World) (h : Rdr base w g p) (hp : p ≤ 999000) : Calls Try.prog 53 #[.pointer (some ⟨g, 0, none⟩)] w (PersonPost base g p w) := by
  have hlt := h.lt
  go_enter Try.func53, Try.ntmps53
  go_wp2_with fail
  refine (pick_any base g p 4 _ (h.below (below_new _ _)) (by omega) (by omega)).mono ?_
  rintro e w1 ⟨a, rfl, ⟨a0, _, a2⟩, hr1, hg1⟩
  have a3 := a2 (by omega)
  clear a2
  go_wp2_with fail
  refine (pick_any base g (p + 1) 3 _ hr1 (by omega) (by omega)).mono ?_
  rintro e w2 ⟨j, rfl, ⟨j0, _, j2⟩, hr2, hg2⟩
  have j3 := j2 (by omega)
  clear j2
  go_wp2_with fail
  refine (pick_any base g (p + 1 + 1) 2 _ hr2 (by omega) (by omega)).mono ?_
  rintro e w3 ⟨s, rfl, ⟨s0, _, s2⟩, hr3, hg3⟩
  have s3 := s2 (by omega)
  clear s2
  go_wp2_with fail
  refine (pick_any base g (p + 1 + 1 + 1) 10 _ hr3 (by omega) (by omega)).mono ?_
  rintro e w4 ⟨x, rfl, ⟨x0, _, x2⟩, hr4, hg4⟩
  have x3 := x2 (by omega)
  clear x2
  go_wp2_with fail
  refine (pick_any base g (p + 1 + 1 + 1 + 1) 100 _ hr4 (by omega) (by omega)).mono ?_
  rintro e w5 ⟨y, rfl, ⟨y0, _, y2⟩, hr5, hg5⟩
  have y3 := y2 (by omega)
  clear y2
  have hg := (((hg1.trans hg2).trans hg3).trans hg4).trans hg5
  have hG := (World.grownBy_alloc w _ (some g)).trans hg
  have hne : w.heap.size ≠ g := by omega
  have hblk := (hg.block w.heap.size (by simp) (fun e => hne (by injection e))).trans (heap_alloc_new _ _)
  obtain ⟨⟨c0, c1, c2, c3⟩, f0, f1, f2, f3⟩ := cell_four hblk
  have HR := Lib.hid (show Rdr base _ g (p + 5) from (hr5.keep (w' := (((w5.setCell ⟨w.heap.size, 0, none⟩ (.int .i64 a)).setCell ⟨w.heap.size, 1, none⟩ (.int .i64 j)).setCell ⟨w.heap.size, 2, none⟩ (.int .i64 s)).setCell ⟨w.heap.size, 3, none⟩ (.int .i64 (x * 100 + y)))
    (((((Below.refl _ _).setCell (by have := h.1; show _ ≤ w.heap.size; omega) _).setCell (by have := h.1; show _ ≤ w.heap.size; omega) _).setCell (by have := h.1; show _ ≤ w.heap.size; omega) _).setCell (by have := h.1; show _ ≤ w.heap.size; omega) _)
    (by rw [Below.heap_setCell _ _ _ g (fun e => hne e.symm), Below.heap_setCell _ _ _ g (fun e => hne e.symm), Below.heap_setCell _ _ _ g (fun e => hne e.symm), Below.heap_setCell _ _ _ g (fun e => hne e.symm)])))
  have HG := Lib.hid (grown_put4 w5 w.heap.size (.int .i64 a) (.int .i64 j) (.int .i64 s) (.int .i64 (x * 100 + y)) (some g) w.heap.size (Nat.le_refl _) hG rfl)
  have HB := Lib.hid hblk
  clear hg hG hblk hg1 hg2 hg3 hg4 hg5 hr1 hr2 hr3 hr4 hr5
  go_wp2
  refine bodyPost_ret (v := .agg #[.int .i64 a, .int .i64 j, .int .i64 s, .int .i64 (x * 100 + y)]) (by simp [results, Try.results53, go_sem, c0, c1, c2, c3]) rfl ?_
  exact ⟨a, j, s, x * 100 + y, rfl, okB_mk (by omega) (by omega) (by omega) (by omega), HR.out, HG.out⟩

/-- Block B holds just the cells cs. -/
def Boxd (w : World) (B : Nat) (t : TypeId) (cs : Array Value) : Prop := w.heap[B]? = some (.cells cs t (0, 0))
section
variable {w w' : World} {B g : Nat} {t : TypeId} {cs : Array Value}
theorem Boxd.lt (h : Boxd w B t cs) : B < w.heap.size := by
  rcases Nat.lt_or_ge B w.heap.size with hlt | hge
  · exact hlt
  · unfold Boxd at h; rw [Array.getElem?_eq_none hge] at h; cases h
theorem Boxd.new (w : World) (t : TypeId) (cs : Array Value) : Boxd (w.alloc (.cells cs t)) w.heap.size t cs := heap_alloc_new w _
theorem Boxd.grown (h : Boxd w B t cs) (hg : w.grownBy w' (some g)) (hne : B ≠ g) : Boxd w' B t cs := (hg.block B h.lt (fun e => hne (by injection e))).trans h
theorem Boxd.below (h : Boxd w B t cs) (hb : Below w.heap.size w w') : Boxd w' B t cs := (hb.block B h.lt).trans h
theorem Boxd.alloc (h : Boxd w B t cs) (o : Obj) : Boxd (w.alloc o) B t cs := h.below (below_new w o)
theorem Boxd.set (h : Boxd w B t cs) (i : Nat) (v : Value) : Boxd (w.setCell ⟨B, i, none⟩ v) B t (cs.setIfInBounds i v) := heap_setCell_same w B i cs t v h
theorem Boxd.far (h : Boxd w B t cs) {B' : Nat} (hne : B ≠ B') (i : Nat) (v : Value) : Boxd (w.setCell ⟨B', i, none⟩ v) B t cs := (Below.heap_setCell w ⟨B', i, none⟩ v B hne).trans h
end

end Go.Proofs.Ytepnfljhoapdmaa
