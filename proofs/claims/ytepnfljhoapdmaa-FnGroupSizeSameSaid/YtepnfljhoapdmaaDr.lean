/- Contract of l91Recode: some recoding. -/
import Derived.Test.YtepnfljhoapdmaaDl
import Derived.Test.YtepnfljhoapdmaaBx
namespace Go.Proofs.Ytepnfljhoapdmaa
open Go.RowKit
set_option linter.unusedVariables false

/-- What l91Recode leaves (m: the ladder's length). -/
def RcdPost (base g p m : Nat) (w : World) (e : Ending) (w' : World) : Prop :=
  ∃ (a j s : Int) (q : Nat), e = .returned (.agg #[.int .i64 a, .int .i64 j, .int .i64 s]) ∧ (-1 ≤ a ∧ a ≤ m + 1) ∧ (0 ≤ j ∧ j ≤ 2) ∧ (0 ≤ s ∧ s ≤ 1) ∧ Rdr base w' g q ∧ q ≤ p + 5 ∧ w.grownBy w' (some g)

/-- One store into a block that is new since w. -/
theorem set_new {base g q B : Nat} {w w4 : World} (hr : Rdr base w4 g q) (hG : w.grownBy w4 (some g)) (hB : w.heap.size ≤ B) (hg : g < w.heap.size) (i : Nat) (v : Value) : Rdr base (w4.setCell ⟨B, i, none⟩ v) g q ∧ w.grownBy (w4.setCell ⟨B, i, none⟩ v) (some g) :=
  ⟨hr.keep ((Below.refl _ _).setCell (by have := hr.1; show base ≤ B; omega) _) (Below.heap_setCell w4 ⟨B, i, none⟩ _ g (by show g ≠ B; omega)),
    hG.os, hG.tape, hG.output, by simpa [World.setCell] using hG.size, fun k hk hne => (Below.heap_setCell w4 ⟨B, i, none⟩ v k (by show k ≠ B; omega)).trans (hG.block k hk hne)⟩
theorem put_new {base g q B : Nat} {w w4 : World} (hr : Rdr base w4 g q) (hG : w.grownBy w4 (some g)) (hB : w.heap.size ≤ B) (hg : g < w.heap.size) (a b c : Value) : Rdr base (((w4.setCell ⟨B, 0, none⟩ a).setCell ⟨B, 1, none⟩ b).setCell ⟨B, 2, none⟩ c) g q ∧ w.grownBy (((w4.setCell ⟨B, 0, none⟩ a).setCell ⟨B, 1, none⟩ b).setCell ⟨B, 2, none⟩ c) (some g) := by
  obtain ⟨h1, g1⟩ := set_new hr hG hB hg 0 a
  obtain ⟨h2, g2⟩ := set_new h1 g1 hB hg 1 b
  exact set_new h2 g2 hB hg 2 c

set_option maxRecDepth 100000 in
set_option maxHeartbeats 3200000 in
theorem l91Recode_any (base g p : Nat) (A : Option Addr) (m c : Nat) (w : World) (h : Rdr base w g p) (hp : p ≤ 900000) (hm : m ≤ 100) : Calls Try.prog 45 #[.pointer (some ⟨g, 0, none⟩), .slice A m c] w (RcdPost base g p m w) := by
  have hltg := h.lt
  go_enter Try.func45, Try.ntmps45
  go_wp2_with fail
  refine (pick_any base g p ((m : Int) + 1) _ (h.below (below_new _ _)) (by omega) (by omega)).mono ?_
  rintro e w1 ⟨a, rfl, ⟨a0, _, a2⟩, hr1, hg1⟩
  have a3 := a2 (by omega)
  go_wp2_with fail
  refine (pick_any base g (p + 1) 2 _ hr1 (by omega) (by omega)).mono ?_
  rintro e w2 ⟨j, rfl, ⟨j0, _, j2⟩, hr2, hg2⟩
  have j3 := j2 (by omega)
  go_wp2_with fail
  refine (pick_any base g (p + 1 + 1) 2 _ hr2 (by omega) (by omega)).mono ?_
  rintro e w3 ⟨s, rfl, ⟨s0, _, s2⟩, hr3, hg3⟩
  have s3 := s2 (by omega)
  have hg13 := (hg1.trans hg2).trans hg3
  have x3 : Boxd w3 w.heap.size 26 #[.int .i64 0, .int .i64 0, .int .i64 0] := (Boxd.new w _ _).grown hg13 (by omega)
  have hG3 := (World.grownBy_alloc w _ (some g)).trans hg13
  have hz3 := hG3.size
  have hx3 := x3.lt
  have y3 := Boxd.new w3 26 #[.int .i64 a, .int .i64 j, .int .i64 s]
  have hlt3 := hr3.lt
  clear a2 j2 s2 hg1 hg2 hg3 hr1 hr2 hg13
  go_wp2_with fail
  refine (pick_any base g (p + 1 + 1 + 1) 50 _ (hr3.below (below_new _ _)) (by omega) (by omega)).mono ?_
  rintro e w4 ⟨t, rfl, ⟨t0, _, _⟩, hr4, hg4⟩
  have x4 := (x3.alloc (.cells #[.int .i64 a, .int .i64 j, .int .i64 s] 26)).grown hg4 (by omega)
  have y4 := y3.grown hg4 (by omega)
  have hG4 := (hG3.trans (World.grownBy_alloc w3 _ _)).trans hg4
  have hz4 := hg4.size
  simp at hz4
  have hne : ¬ w.heap.size = w3.heap.size := by omega
  have hne' : ¬ w3.heap.size = w.heap.size := by omega
  clear x3 y3 hg4 hr3
  cases c0 : (t == 0)
  · cases c1 : (t == 1)
    · obtain ⟨⟨c0', c1', c2'⟩, f0, f1, f2⟩ := cell_three x4
      obtain ⟨⟨d0, d1, d2⟩, e0, e1, e2⟩ := cell_three y4
      have HP := Lib.hid (put_new hr4 hG4 (Nat.le_refl _) hltg (.int .i64 a) (.int .i64 j) (.int .i64 s))
      clear x4 y4 hr4 hG4
      go_wp2
      refine bodyPost_ret (v := .agg #[.int .i64 a, .int .i64 j, .int .i64 s]) (by simp [results, Try.results45, go_sem, c0', c1', c2']) rfl ?_
      exact ⟨a, j, s, p + 4, rfl, by omega, by omega, by omega, HP.out.1, by omega, HP.out.2⟩
    · obtain ⟨⟨c0', c1', c2'⟩, f0, f1, f2⟩ := cell_three x4
      obtain ⟨⟨d0, d1, d2⟩, e0, e1, e2⟩ := cell_three y4
      obtain ⟨hr5, hG5⟩ := set_new hr4 hG4 (show w.heap.size ≤ w3.heap.size by omega) hltg 1 (.int .i64 2)
      have HP := Lib.hid (put_new hr5 hG5 (Nat.le_refl _) hltg (.int .i64 a) (.int .i64 2) (.int .i64 s))
      clear x4 y4 hr4 hG4 hr5 hG5
      go_wp2
      refine bodyPost_ret (v := .agg #[.int .i64 a, .int .i64 2, .int .i64 s]) (by simp [results, Try.results45, go_sem, c0', c1', c2']) rfl ?_
      exact ⟨a, 2, s, p + 4, rfl, by omega, by omega, by omega, HP.out.1, by omega, HP.out.2⟩
  · have hnb : w4.heap.size ≠ g := by have := hr4.lt; omega
    go_wp2_with fail
    refine (pick_any base g (p + 1 + 1 + 1 + 1) 2 _ (hr4.below (below_new _ _)) (by omega) (by omega)).mono ?_
    rintro e w5 ⟨u, rfl, ⟨u0, _, u2⟩, hr5, hg5⟩
    have u3 := u2 (by omega)
    have x5 := (x4.alloc _).grown hg5 (by omega)
    have y5 := (y4.alloc _).grown hg5 (by omega)
    have hG5 := (hG4.trans (World.grownBy_alloc w4 _ _)).trans hg5
    obtain ⟨x, hx, hx'⟩ := two_of u0 u3 (.int .i64 (-1)) (.int .i64 ((m : Int) + 1))
    have hc := (later_cell (i := u.toNat) hg5 (heap_alloc_new _ _) hnb).trans hx
    obtain ⟨y, rfl, y0, y1⟩ : ∃ y : Int, x = .int .i64 y ∧ -1 ≤ y ∧ y ≤ m + 1 := by rcases hx' with rfl | rfl <;> exact ⟨_, rfl, by omega, by omega⟩
    obtain ⟨⟨c0', c1', c2'⟩, f0, f1, f2⟩ := cell_three x5
    obtain ⟨⟨d0, d1, d2⟩, e0, e1, e2⟩ := cell_three y5
    obtain ⟨hr6, hG6⟩ := set_new hr5 hG5 (show w.heap.size ≤ w3.heap.size by omega) hltg 0 (.int .i64 y)
    have HP := Lib.hid (put_new hr6 hG6 (Nat.le_refl _) hltg (.int .i64 y) (.int .i64 j) (.int .i64 s))
    clear x4 y4 x5 y5 hx hx' hr4 hG4 hr5 hG5 hr6 hG6 u2 hg5
    go_wp2
    refine bodyPost_ret (v := .agg #[.int .i64 y, .int .i64 j, .int .i64 s]) (by simp [results, Try.results45, go_sem, c0', c1', c2']) rfl ?_
    exact ⟨y, j, s, p + 5, rfl, ⟨y0, y1⟩, by omega, by omega, HP.out.1, by omega, HP.out.2⟩

end Go.Proofs.Ytepnfljhoapdmaa
