/- Contract of DrawLadderMerge: some ladder and two numbers. -/
import Derived.Test.YtbfblomabjmnmaaDl
import Derived.Test.YtbfblomabjmnmaaCr
import Derived.Deep.RegionWith
import Derived.Deep.RegionHeld3
namespace Go.Proofs.Ytbfblomabjmnmaa
open Go.RowKit
set_option linter.unusedVariables false

/-- What DrawLadderMerge leaves. -/
def DmPost (w : World) (e : Ending) (w' : World) : Prop :=
  ∃ A n c R a b, e = .returned (.tuple #[.slice A n c, .int .i64 a, .int .i64 b]) ∧ R.length = n ∧ n ≤ 4 ∧ (∀ r ∈ R, r.s.length ≤ 4) ∧ (0 ≤ a ∧ a ≤ 3) ∧ (-1 ≤ b ∧ b ≤ 4) ∧ Lad w' A c R ∧ Below w.heap.size w w'

theorem LadT.grown {w w' : World} {A : Option Addr} {R : List Rw} {row : Option Nat} (h : LadT w A R) (hg : w.grownBy w' row) (hne : ∀ b o, A = some ⟨b, o, none⟩ → some b ≠ row) (hr : ∀ g, row = some g → ∃ cs t fr, w.heap[g]? = some (.cells cs t fr) ∧ t ≠ 3) : LadT w' A R := by
  refine ⟨fun h0 => ?_, fun r hr' => (h.2 r hr').grown hg hr⟩
  obtain ⟨b, o, e, hlt, hc⟩ := h.1 h0
  exact ⟨b, o, e, Nat.lt_of_lt_of_le hlt hg.size, fun j u hu => (World.cell?_of_block (hg.block b hlt (hne b o e))).trans (hc j u hu)⟩
theorem Lad.grown {w w' : World} {A : Option Addr} {c : Nat} {R : List Rw} {row : Option Nat} (h : Lad w A c R) (hg : w.grownBy w' row) (hne : ∀ b o, A = some ⟨b, o, none⟩ → some b ≠ row) (hr : ∀ g, row = some g → ∃ cs t fr, w.heap[g]? = some (.cells cs t fr) ∧ t ≠ 3) : Lad w' A c R := ⟨h.1.grown hg hne hr, h.2⟩
theorem new_at (w : World) (cs : Array Value) (t : TypeId) (i : Nat) : (w.alloc (.cells cs t)).cell? ⟨w.heap.size, i, none⟩ = cs[i]? := cell_of_row _ _ i _ _ _ (heap_alloc_new w _)

set_option maxRecDepth 100000 in
set_option maxHeartbeats 6400000 in
theorem drawLadderMerge_any (A : Option Addr) (n c : Nat) (w : World) (hin : BytesIn w A n c) : Calls Try.prog 9 #[.slice A n c] w (DmPost w) := by
  go_enter Try.func9, Try.ntmps9
  go_wp2_with fail
  refine (l6Open_any A n c w hin).mono ?_
  rintro e w1 ⟨g, rfl, hr1, hb1⟩
  have hlt1 := hr1.lt
  have hBg := hr1.1
  go_wp2_with fail
  refine (l91Ladder_any _ g 0 _ hr1 (by omega)).mono ?_
  rintro e w2 ⟨A2, n2, c2, R, q, rfl, hR, hn4, hrow, hL2, hr2, hq, hg2⟩
  have hb2 := below_grown hb1 hg2 (Nat.le_refl _) hBg
  have hvg : ∀ b o, A2 = some ⟨b, o, none⟩ → some b ≠ some g := fun b o e => by
    have := (hL2.1.lt b (by rw [e]; rfl)).1
    intro e'
    injection e' with e'
    omega
  have HVG := Lib.hid hvg
  have hLd2 := hL2.lad hR
  have hmd : n2 ≤ c2 := by rw [← hR]; exact hLd2.2.1
  have HR := Lib.hid hR
  have HW := Lib.hid hrow
  clear hvg hR hrow hL2
  cases h3 : ((n2 : Int) == 3)
  · go_wp2_with fail
    refine (pick_any _ g q 4 _ hr2 (by omega) (by omega)).mono ?_
    rintro e w5 ⟨a, rfl, ⟨a0, _, a2⟩, hr5, hg5⟩
    have a3 := a2 (by omega)
    have hLd5 := hLd2.grown hg5 HVG.out (rdr_type hr2)
    have hb5 := below_grown hb2 hg5 (Nat.le_refl _) hBg
    go_wp2_with fail
    refine (pick_any _ g (q + 1) 20 _ hr5 (by omega) (by omega)).mono ?_
    rintro e w6 ⟨t', rfl, ⟨t0', _, _⟩, hr6, hg6⟩
    have hLd6 := hLd5.grown hg6 HVG.out (rdr_type hr5)
    have hb6 := below_grown hb5 hg6 (Nat.le_refl _) hBg
    have hz6 := hb6.size
    have hlt6 := hr6.lt
    cases h0 : (t' == 0)
    · go_wp2_with fail
      refine (pick_any _ g (q + 1 + 1) 4 _ hr6 (by omega) (by omega)).mono ?_
      rintro e w7 ⟨b, rfl, ⟨b0, _, b2⟩, hr7, hg7⟩
      have b3 := b2 (by omega)
      have hLd7 := hLd6.grown hg7 HVG.out (rdr_type hr6)
      have hb7 := below_grown hb6 hg7 (Nat.le_refl _) hBg
      go_wp2
      go_ret3
      exact ⟨A2, n2, c2, R, a, b, rfl, HR.out, by omega, HW.out, by omega, by omega, hLd7, hb7⟩
    · have hnb : w6.heap.size ≠ g := by omega
      have bN := (below_new w6 (.cells #[.int .i64 (-1), .int .i64 4] 3))
      have hra : Rdr w.heap.size w6.drew g (q + 1 + 1) := hr6
      have hrb : Rdr w.heap.size (w6.alloc (.cells #[.int .i64 (-1), .int .i64 4] 3)).drew g (q + 1 + 1) := hr6.below bN.drew
      have hla : Lad w6.drew A2 c2 (R) := hLd6
      have hlb : Lad (w6.alloc (.cells #[.int .i64 (-1), .int .i64 4] 3)).drew A2 c2 (R) := hLd6.below bN.drew
      have hba : Below w.heap.size w w6.drew := hb6.drew
      have hbb : Below w.heap.size w (w6.alloc (.cells #[.int .i64 (-1), .int .i64 4] 3)).drew := (hb6.trans (bN.mono hb6.size)).drew
      have hbx : (w6.alloc (.cells #[.int .i64 (-1), .int .i64 4] 3)).drew.heap[w6.heap.size]? = some (.cells #[.int .i64 (-1), .int .i64 4] 3 (0, 0)) := heap_alloc_new w6 _
      have HA := Lib.hid (And.intro hra (And.intro hla hba))
      have HB := Lib.hid (And.intro hrb (And.intro hlb (And.intro hbb hbx)))
      clear hra hrb hla hlb hba hbb hbx bN hLd5 hLd6 hb5 hb6 hg5 hg6 hr5
      go_wp2
      go_region_with (first | (go_at_call 23; refine (pick_any _ g (q + 1 + 1) 2 w6.drew HA.out.1 (by omega) (by omega)).mono ?_; rintro e w7 ⟨u, rfl, ⟨u0, _, u2⟩, hr7, hg7⟩; have u3 := u2 (by omega); obtain ⟨x, hx, hx'⟩ := two_of u0 u3 (.int .i64 (-1)) (.int .i64 4); have hc := (new_at w7 #[.int .i64 (-1), .int .i64 4] 3 u.toNat).trans hx; obtain ⟨y, rfl, y0, y1⟩ : ∃ y : Int, x = .int .i64 y ∧ -1 ≤ y ∧ y ≤ 4 := (by rcases hx' with rfl | rfl <;> exact ⟨_, rfl, by omega, by omega⟩); have hLd7 := (HA.out.2.1.grown hg7 HVG.out (rdr_type HA.out.1)).below (below_new w7 (.cells #[.int .i64 (-1), .int .i64 4] 3)); have hb7 := below_grown HA.out.2.2 hg7 (Nat.le_refl _) hBg; have hb7 := hb7.trans ((below_new w7 (.cells #[.int .i64 (-1), .int .i64 4] 3)).mono hb7.size); clear hx hx' u2 hg7 hr7) | (go_at_call 23; refine (pick_any _ g (q + 1 + 1) 2 (w6.alloc (.cells #[.int .i64 (-1), .int .i64 4] 3)).drew HB.out.1 (by omega) (by omega)).mono ?_; rintro e w7 ⟨u, rfl, ⟨u0, _, u2⟩, hr7, hg7⟩; have u3 := u2 (by omega); obtain ⟨x, hx, hx'⟩ := two_of u0 u3 (.int .i64 (-1)) (.int .i64 4); have hc := (later_cell (i := u.toNat) hg7 HB.out.2.2.2 hnb).trans hx; obtain ⟨y, rfl, y0, y1⟩ : ∃ y : Int, x = .int .i64 y ∧ -1 ≤ y ∧ y ≤ 4 := (by rcases hx' with rfl | rfl <;> exact ⟨_, rfl, by omega, by omega⟩); have hLd7 := HB.out.2.1.grown hg7 HVG.out (rdr_type HB.out.1); have hb7 := below_grown HB.out.2.2.1 hg7 (Nat.le_refl _) hBg; clear hx hx' u2 hg7 hr7))
      all_goals
        go_wp2
        go_ret3
        exact ⟨A2, n2, c2, R, a, y, rfl, HR.out, by omega, HW.out, by omega, by omega, hLd7, hb7⟩
  · go_wp2_with fail
    refine (pick_any _ g q 3 _ hr2 (by omega) (by omega)).mono ?_
    rintro e w3 ⟨t, rfl, ⟨t0, _, _⟩, hr3, hg3⟩
    have hLd3 := hLd2.grown hg3 HVG.out (rdr_type hr2)
    have hb3 := below_grown hb2 hg3 (Nat.le_refl _) hBg
    by_cases ht : 0 < t
    · have h3n : n2 = 3 := by simp at h3; omega
      have hcut := fun wz : World => cutR_to A2 n2 c2 1 wz (by omega) hmd
      simp only [Int.cast_ofNat_Int] at hcut
      have hLd3' : Lad w3 A2 c2 (R.take 1) := ⟨hLd3.1.take 1, by rw [List.length_take, HR.out]; omega, hLd3.2.2⟩
      have HR1 := Lib.hid (show (R.take 1).length = 1 by rw [List.length_take, HR.out]; omega)
      have HW1 := Lib.hid (fun r hr => HW.out r (List.mem_of_mem_take hr) : ∀ r ∈ R.take 1, r.s.length ≤ 4)
      clear h3n
      go_wp2_with fail
      clear hcut
      refine (pick_any _ g (q + 1) 4 _ hr3 (by omega) (by omega)).mono ?_
      rintro e w5 ⟨a, rfl, ⟨a0, _, a2⟩, hr5, hg5⟩
      have a3 := a2 (by omega)
      have hLd5 := hLd3'.grown hg5 HVG.out (rdr_type hr3)
      have hb5 := below_grown hb3 hg5 (Nat.le_refl _) hBg
      go_wp2_with fail
      refine (pick_any _ g ((q + 1) + 1) 20 _ hr5 (by omega) (by omega)).mono ?_
      rintro e w6 ⟨t', rfl, ⟨t0', _, _⟩, hr6, hg6⟩
      have hLd6 := hLd5.grown hg6 HVG.out (rdr_type hr5)
      have hb6 := below_grown hb5 hg6 (Nat.le_refl _) hBg
      have hz6 := hb6.size
      have hlt6 := hr6.lt
      cases h0 : (t' == 0)
      · go_wp2_with fail
        refine (pick_any _ g ((q + 1) + 1 + 1) 4 _ hr6 (by omega) (by omega)).mono ?_
        rintro e w7 ⟨b, rfl, ⟨b0, _, b2⟩, hr7, hg7⟩
        have b3 := b2 (by omega)
        have hLd7 := hLd6.grown hg7 HVG.out (rdr_type hr6)
        have hb7 := below_grown hb6 hg7 (Nat.le_refl _) hBg
        go_wp2
        go_ret3
        exact ⟨A2, 1, c2, (R.take 1), a, b, rfl, HR1.out, by omega, HW1.out, by omega, by omega, hLd7, hb7⟩
      · have hnb : w6.heap.size ≠ g := by omega
        have bN := (below_new w6 (.cells #[.int .i64 (-1), .int .i64 4] 3))
        have hra : Rdr w.heap.size w6.drew g ((q + 1) + 1 + 1) := hr6
        have hrb : Rdr w.heap.size (w6.alloc (.cells #[.int .i64 (-1), .int .i64 4] 3)).drew g ((q + 1) + 1 + 1) := hr6.below bN.drew
        have hla : Lad w6.drew A2 c2 ((R.take 1)) := hLd6
        have hlb : Lad (w6.alloc (.cells #[.int .i64 (-1), .int .i64 4] 3)).drew A2 c2 ((R.take 1)) := hLd6.below bN.drew
        have hba : Below w.heap.size w w6.drew := hb6.drew
        have hbb : Below w.heap.size w (w6.alloc (.cells #[.int .i64 (-1), .int .i64 4] 3)).drew := (hb6.trans (bN.mono hb6.size)).drew
        have hbx : (w6.alloc (.cells #[.int .i64 (-1), .int .i64 4] 3)).drew.heap[w6.heap.size]? = some (.cells #[.int .i64 (-1), .int .i64 4] 3 (0, 0)) := heap_alloc_new w6 _
        have HA := Lib.hid (And.intro hra (And.intro hla hba))
        have HB := Lib.hid (And.intro hrb (And.intro hlb (And.intro hbb hbx)))
        clear hra hrb hla hlb hba hbb hbx bN hLd5 hLd6 hb5 hb6 hg5 hg6 hr5
        go_wp2
        go_region_with (first | (go_at_call 23; refine (pick_any _ g ((q + 1) + 1 + 1) 2 w6.drew HA.out.1 (by omega) (by omega)).mono ?_; rintro e w7 ⟨u, rfl, ⟨u0, _, u2⟩, hr7, hg7⟩; have u3 := u2 (by omega); obtain ⟨x, hx, hx'⟩ := two_of u0 u3 (.int .i64 (-1)) (.int .i64 4); have hc := (new_at w7 #[.int .i64 (-1), .int .i64 4] 3 u.toNat).trans hx; obtain ⟨y, rfl, y0, y1⟩ : ∃ y : Int, x = .int .i64 y ∧ -1 ≤ y ∧ y ≤ 4 := (by rcases hx' with rfl | rfl <;> exact ⟨_, rfl, by omega, by omega⟩); have hLd7 := (HA.out.2.1.grown hg7 HVG.out (rdr_type HA.out.1)).below (below_new w7 (.cells #[.int .i64 (-1), .int .i64 4] 3)); have hb7 := below_grown HA.out.2.2 hg7 (Nat.le_refl _) hBg; have hb7 := hb7.trans ((below_new w7 (.cells #[.int .i64 (-1), .int .i64 4] 3)).mono hb7.size); clear hx hx' u2 hg7 hr7) | (go_at_call 23; refine (pick_any _ g ((q + 1) + 1 + 1) 2 (w6.alloc (.cells #[.int .i64 (-1), .int .i64 4] 3)).drew HB.out.1 (by omega) (by omega)).mono ?_; rintro e w7 ⟨u, rfl, ⟨u0, _, u2⟩, hr7, hg7⟩; have u3 := u2 (by omega); obtain ⟨x, hx, hx'⟩ := two_of u0 u3 (.int .i64 (-1)) (.int .i64 4); have hc := (later_cell (i := u.toNat) hg7 HB.out.2.2.2 hnb).trans hx; obtain ⟨y, rfl, y0, y1⟩ : ∃ y : Int, x = .int .i64 y ∧ -1 ≤ y ∧ y ≤ 4 := (by rcases hx' with rfl | rfl <;> exact ⟨_, rfl, by omega, by omega⟩); have hLd7 := HB.out.2.1.grown hg7 HVG.out (rdr_type HB.out.1); have hb7 := below_grown HB.out.2.2.1 hg7 (Nat.le_refl _) hBg; clear hx hx' u2 hg7 hr7))
        all_goals
          go_wp2
          go_ret3
          exact ⟨A2, 1, c2, (R.take 1), a, y, rfl, HR1.out, by omega, HW1.out, by omega, by omega, hLd7, hb7⟩
    · go_wp2_with fail
      refine (pick_any _ g (q + 1) 4 _ hr3 (by omega) (by omega)).mono ?_
      rintro e w5 ⟨a, rfl, ⟨a0, _, a2⟩, hr5, hg5⟩
      have a3 := a2 (by omega)
      have hLd5 := hLd3.grown hg5 HVG.out (rdr_type hr3)
      have hb5 := below_grown hb3 hg5 (Nat.le_refl _) hBg
      go_wp2_with fail
      refine (pick_any _ g ((q + 1) + 1) 20 _ hr5 (by omega) (by omega)).mono ?_
      rintro e w6 ⟨t', rfl, ⟨t0', _, _⟩, hr6, hg6⟩
      have hLd6 := hLd5.grown hg6 HVG.out (rdr_type hr5)
      have hb6 := below_grown hb5 hg6 (Nat.le_refl _) hBg
      have hz6 := hb6.size
      have hlt6 := hr6.lt
      cases h0 : (t' == 0)
      · go_wp2_with fail
        refine (pick_any _ g ((q + 1) + 1 + 1) 4 _ hr6 (by omega) (by omega)).mono ?_
        rintro e w7 ⟨b, rfl, ⟨b0, _, b2⟩, hr7, hg7⟩
        have b3 := b2 (by omega)
        have hLd7 := hLd6.grown hg7 HVG.out (rdr_type hr6)
        have hb7 := below_grown hb6 hg7 (Nat.le_refl _) hBg
        go_wp2
        go_ret3
        exact ⟨A2, n2, c2, R, a, b, rfl, HR.out, by omega, HW.out, by omega, by omega, hLd7, hb7⟩
      · have hnb : w6.heap.size ≠ g := by omega
        have bN := (below_new w6 (.cells #[.int .i64 (-1), .int .i64 4] 3))
        have hra : Rdr w.heap.size w6.drew g ((q + 1) + 1 + 1) := hr6
        have hrb : Rdr w.heap.size (w6.alloc (.cells #[.int .i64 (-1), .int .i64 4] 3)).drew g ((q + 1) + 1 + 1) := hr6.below bN.drew
        have hla : Lad w6.drew A2 c2 (R) := hLd6
        have hlb : Lad (w6.alloc (.cells #[.int .i64 (-1), .int .i64 4] 3)).drew A2 c2 (R) := hLd6.below bN.drew
        have hba : Below w.heap.size w w6.drew := hb6.drew
        have hbb : Below w.heap.size w (w6.alloc (.cells #[.int .i64 (-1), .int .i64 4] 3)).drew := (hb6.trans (bN.mono hb6.size)).drew
        have hbx : (w6.alloc (.cells #[.int .i64 (-1), .int .i64 4] 3)).drew.heap[w6.heap.size]? = some (.cells #[.int .i64 (-1), .int .i64 4] 3 (0, 0)) := heap_alloc_new w6 _
        have HA := Lib.hid (And.intro hra (And.intro hla hba))
        have HB := Lib.hid (And.intro hrb (And.intro hlb (And.intro hbb hbx)))
        clear hra hrb hla hlb hba hbb hbx bN hLd5 hLd6 hb5 hb6 hg5 hg6 hr5
        go_wp2
        go_region_with (first | (go_at_call 23; refine (pick_any _ g ((q + 1) + 1 + 1) 2 w6.drew HA.out.1 (by omega) (by omega)).mono ?_; rintro e w7 ⟨u, rfl, ⟨u0, _, u2⟩, hr7, hg7⟩; have u3 := u2 (by omega); obtain ⟨x, hx, hx'⟩ := two_of u0 u3 (.int .i64 (-1)) (.int .i64 4); have hc := (new_at w7 #[.int .i64 (-1), .int .i64 4] 3 u.toNat).trans hx; obtain ⟨y, rfl, y0, y1⟩ : ∃ y : Int, x = .int .i64 y ∧ -1 ≤ y ∧ y ≤ 4 := (by rcases hx' with rfl | rfl <;> exact ⟨_, rfl, by omega, by omega⟩); have hLd7 := (HA.out.2.1.grown hg7 HVG.out (rdr_type HA.out.1)).below (below_new w7 (.cells #[.int .i64 (-1), .int .i64 4] 3)); have hb7 := below_grown HA.out.2.2 hg7 (Nat.le_refl _) hBg; have hb7 := hb7.trans ((below_new w7 (.cells #[.int .i64 (-1), .int .i64 4] 3)).mono hb7.size); clear hx hx' u2 hg7 hr7) | (go_at_call 23; refine (pick_any _ g ((q + 1) + 1 + 1) 2 (w6.alloc (.cells #[.int .i64 (-1), .int .i64 4] 3)).drew HB.out.1 (by omega) (by omega)).mono ?_; rintro e w7 ⟨u, rfl, ⟨u0, _, u2⟩, hr7, hg7⟩; have u3 := u2 (by omega); obtain ⟨x, hx, hx'⟩ := two_of u0 u3 (.int .i64 (-1)) (.int .i64 4); have hc := (later_cell (i := u.toNat) hg7 HB.out.2.2.2 hnb).trans hx; obtain ⟨y, rfl, y0, y1⟩ : ∃ y : Int, x = .int .i64 y ∧ -1 ≤ y ∧ y ≤ 4 := (by rcases hx' with rfl | rfl <;> exact ⟨_, rfl, by omega, by omega⟩); have hLd7 := HB.out.2.1.grown hg7 HVG.out (rdr_type HB.out.1); have hb7 := below_grown HB.out.2.2.1 hg7 (Nat.le_refl _) hBg; clear hx hx' u2 hg7 hr7))
        all_goals
          go_wp2
          go_ret3
          exact ⟨A2, n2, c2, R, a, y, rfl, HR.out, by omega, HW.out, by omega, by omega, hLd7, hb7⟩

end Go.Proofs.Ytbfblomabjmnmaa
