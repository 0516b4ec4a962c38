/- Contract of DrawPeopleWithout: some people and a number. -/
import Derived.Test.YtjbhnjincedkmaaSl
import Derived.Deep.RegionWith
namespace Go.Proofs.Ytjbhnjincedkmaa
open Go.RowKit
set_option linter.unusedVariables false

theorem new_at (w : World) (cs : Array Value) (t : TypeId) (i : Nat) : (w.alloc (.cells cs t)).cell? ⟨w.heap.size, i, none⟩ = cs[i]? := cell_of_row _ _ _ _ _ _ (heap_alloc_new w _)

/-- What DrawPeopleWithout leaves. -/
def WoDrawn (w : World) (e : Ending) (w' : World) : Prop :=
  ∃ (A : Option Addr) (c : Nat) (L : List Pers) (m : Nat) (k : Int), e = .returned (.tuple #[.slice A m c, .int .i64 k]) ∧ L.length = m ∧ m ≤ 8 ∧ Ppl w' A c L ∧ Below w.heap.size w w'

set_option maxRecDepth 100000 in
set_option maxHeartbeats 3200000 in
theorem drawPeopleWithout_any (A : Option Addr) (n c : Nat) (w : World) (hin : BytesIn w A n c) : Calls Try.prog 7 #[.slice A n c] w (WoDrawn w) := by
  go_enter Try.func7, Try.ntmps7
  go_wp2_with fail
  refine (l6Open_any A n c w hin).mono ?_
  rintro e w1 ⟨g, rfl, hr1, hb1⟩
  have hlt1 := hr1.lt
  have hBg := hr1.1
  go_wp2_with fail
  refine (l91People_any _ g 0 8 _ hr1 (by omega) (by omega) (by omega)).mono ?_
  rintro e w2 ⟨A2, c2, L, q, rfl, ho2, hm, hr2, hq, hg2⟩
  have hb2 := below_grown hb1 hg2 (Nat.le_refl _) hBg
  obtain ⟨m, hL⟩ : ∃ m, L.length = m := ⟨_, rfl⟩
  rw [hL] at ho2 hm ⊢
  have HL := Lib.hid hL
  clear hL
  have hng : (Value.slice A2 m c2).ownBlock ≠ some g := fun e => by have := (ho2.lt g e).1; omega
  by_cases h0 : m = 0
  · have e0 : ((m : Int) == 0) = true := by simp; omega
    have m0 : m ≤ 0 := by omega
    clear h0
    have hnb : w2.heap.size ≠ g := by have := hr2.lt; omega
    have bN := below_new w2 (.cells #[.int .i64 (-1), .int .i64 (m : Int)] 3)
    have HA := Lib.hid (show Rdr w.heap.size w2.drew g q ∧ w2.drew.ownsRow w1.heap.size 36 4 (.slice A2 m c2) m (pcells L) ∧ Below w.heap.size w w2.drew from ⟨hr2, ho2, hb2.drew⟩)
    have HB := Lib.hid (show Rdr w.heap.size (w2.alloc (.cells #[.int .i64 (-1), .int .i64 (m : Int)] 3)).drew g q ∧ (w2.alloc (.cells #[.int .i64 (-1), .int .i64 (m : Int)] 3)).drew.ownsRow w1.heap.size 36 4 (.slice A2 m c2) m (pcells L) ∧ Below w.heap.size w (w2.alloc (.cells #[.int .i64 (-1), .int .i64 (m : Int)] 3)).drew ∧ (w2.alloc (.cells #[.int .i64 (-1), .int .i64 (m : Int)] 3)).drew.heap[w2.heap.size]? = some (.cells #[.int .i64 (-1), .int .i64 (m : Int)] 3 (0, 0)) from ⟨hr2.below bN.drew, ho2.alloc _, (hb2.trans (bN.mono hb2.size)).drew, heap_alloc_new w2 _⟩)
    clear bN ho2 hb2 hg2 hr2 hb1 hr1
    go_wp2
    go_region_with (first | (go_at_call 20; refine (pick_any _ g q 2 w2.drew HA.out.1 (by omega) (by omega)).mono ?_; rintro e w7 ⟨u, rfl, ⟨u0, _, u2⟩, hr7, hg7⟩; have u3 := u2 (by omega); obtain ⟨x, hx, hx'⟩ := two_of u0 u3 (.int .i64 (-1)) (.int .i64 (m : Int)); have hc := (new_at w7 #[.int .i64 (-1), .int .i64 (m : Int)] 3 u.toNat).trans hx; obtain ⟨y, rfl⟩ : ∃ y : Int, x = .int .i64 y := (by rcases hx' with rfl | rfl <;> exact ⟨_, rfl⟩); have HH := Lib.hid (And.intro ((HA.out.2.1.kept hg7 (.inr hng)).alloc (.cells #[.int .i64 (-1), .int .i64 (m : Int)] 3)) (below2 (below_grown HA.out.2.2 hg7 (Nat.le_refl _) hBg) (below_new w7 (.cells #[.int .i64 (-1), .int .i64 (m : Int)] 3)))); clear hx hx' u2 hg7 hr7) | (go_at_call 20; refine (pick_any _ g q 2 (w2.alloc (.cells #[.int .i64 (-1), .int .i64 (m : Int)] 3)).drew HB.out.1 (by omega) (by omega)).mono ?_; rintro e w7 ⟨u, rfl, ⟨u0, _, u2⟩, hr7, hg7⟩; have u3 := u2 (by omega); obtain ⟨x, hx, hx'⟩ := two_of u0 u3 (.int .i64 (-1)) (.int .i64 (m : Int)); have hc := (later_cell (i := u.toNat) hg7 HB.out.2.2.2 hnb).trans hx; obtain ⟨y, rfl⟩ : ∃ y : Int, x = .int .i64 y := (by rcases hx' with rfl | rfl <;> exact ⟨_, rfl⟩); have HH := Lib.hid (And.intro (HB.out.2.1.kept hg7 (.inr hng)) (below_grown HB.out.2.2.1 hg7 (Nat.le_refl _) hBg)); clear hx hx' u2 hg7 hr7))
    all_goals
      go_wp2
      go_ret2
      exact ⟨A2, c2, L, m, y, rfl, HL.out, by omega, ppl_own_n HL.out HH.out.1, HH.out.2⟩
  · have e0 : ((m : Int) == 0) = false := by simp; omega
    have m0 : 1 ≤ m := by omega
    clear h0
    go_wp2_with fail
    refine (pick_any _ g q 16 _ hr2 (by omega) (by omega)).mono ?_
    rintro e w3 ⟨t, rfl, ⟨t0, _, _⟩, hr3, hg3⟩
    have ho3 := ho2.kept hg3 (.inr hng)
    have hb3 := below_grown hb2 hg3 (Nat.le_refl _) hBg
    cases c0 : (t == 0)
    · go_wp2_with fail
      refine (pick_any _ g (q + 1) (m : Int) _ hr3 (by omega) (by omega)).mono ?_
      rintro e w4 ⟨u, rfl, _, hr4, hg4⟩
      have ho4 := ho3.kept hg4 (.inr hng)
      have hb4 := below_grown hb3 hg4 (Nat.le_refl _) hBg
      go_wp2
      go_ret2
      exact ⟨A2, c2, L, m, u, rfl, HL.out, by omega, ppl_own_n HL.out ho4, hb4⟩
    · have hnb : w3.heap.size ≠ g := by have := hr3.lt; omega
      have bN := below_new w3 (.cells #[.int .i64 (-1), .int .i64 (m : Int)] 3)
      have HA := Lib.hid (show Rdr w.heap.size w3.drew g (q + 1) ∧ w3.drew.ownsRow w1.heap.size 36 4 (.slice A2 m c2) m (pcells L) ∧ Below w.heap.size w w3.drew from ⟨hr3, ho3, hb3.drew⟩)
      have HB := Lib.hid (show Rdr w.heap.size (w3.alloc (.cells #[.int .i64 (-1), .int .i64 (m : Int)] 3)).drew g (q + 1) ∧ (w3.alloc (.cells #[.int .i64 (-1), .int .i64 (m : Int)] 3)).drew.ownsRow w1.heap.size 36 4 (.slice A2 m c2) m (pcells L) ∧ Below w.heap.size w (w3.alloc (.cells #[.int .i64 (-1), .int .i64 (m : Int)] 3)).drew ∧ (w3.alloc (.cells #[.int .i64 (-1), .int .i64 (m : Int)] 3)).drew.heap[w3.heap.size]? = some (.cells #[.int .i64 (-1), .int .i64 (m : Int)] 3 (0, 0)) from ⟨hr3.below bN.drew, ho3.alloc _, (hb3.trans (bN.mono hb3.size)).drew, heap_alloc_new w3 _⟩)
      clear bN ho2 hb2 hg2 hr2 hb1 hr1 ho3 hb3 hg3 hr3
      go_wp2
      go_region_with (first | (go_at_call 20; refine (pick_any _ g (q + 1) 2 w3.drew HA.out.1 (by omega) (by omega)).mono ?_; rintro e w7 ⟨u, rfl, ⟨u0, _, u2⟩, hr7, hg7⟩; have u3 := u2 (by omega); obtain ⟨x, hx, hx'⟩ := two_of u0 u3 (.int .i64 (-1)) (.int .i64 (m : Int)); have hc := (new_at w7 #[.int .i64 (-1), .int .i64 (m : Int)] 3 u.toNat).trans hx; obtain ⟨y, rfl⟩ : ∃ y : Int, x = .int .i64 y := (by rcases hx' with rfl | rfl <;> exact ⟨_, rfl⟩); have HH := Lib.hid (And.intro ((HA.out.2.1.kept hg7 (.inr hng)).alloc (.cells #[.int .i64 (-1), .int .i64 (m : Int)] 3)) (below2 (below_grown HA.out.2.2 hg7 (Nat.le_refl _) hBg) (below_new w7 (.cells #[.int .i64 (-1), .int .i64 (m : Int)] 3)))); clear hx hx' u2 hg7 hr7) | (go_at_call 20; refine (pick_any _ g (q + 1) 2 (w3.alloc (.cells #[.int .i64 (-1), .int .i64 (m : Int)] 3)).drew HB.out.1 (by omega) (by omega)).mono ?_; rintro e w7 ⟨u, rfl, ⟨u0, _, u2⟩, hr7, hg7⟩; have u3 := u2 (by omega); obtain ⟨x, hx, hx'⟩ := two_of u0 u3 (.int .i64 (-1)) (.int .i64 (m : Int)); have hc := (later_cell (i := u.toNat) hg7 HB.out.2.2.2 hnb).trans hx; obtain ⟨y, rfl⟩ : ∃ y : Int, x = .int .i64 y := (by rcases hx' with rfl | rfl <;> exact ⟨_, rfl⟩); have HH := Lib.hid (And.intro (HB.out.2.1.kept hg7 (.inr hng)) (below_grown HB.out.2.2.1 hg7 (Nat.le_refl _) hBg)); clear hx hx' u2 hg7 hr7))
      all_goals
        go_wp2
        go_ret2
        exact ⟨A2, c2, L, m, y, rfl, HL.out, by omega, ppl_own_n HL.out HH.out.1, HH.out.2⟩

end Go.Proofs.Ytjbhnjincedkmaa
