/- Contract of DrawLadderCode: some ladder, level and code. -/
import Derived.Test.YtfggfblneggncaaDl
namespace Go.Proofs.Ytfggfblneggncaa
open Go.RowKit
set_option linter.unusedVariables false

/-- What DrawLadderCode leaves. -/
def LcPost (w : World) (e : Ending) (w' : World) : Prop :=
  ∃ A n c R lv x, e = .returned (.tuple #[.slice A n c, .int .i64 lv, .int .i64 x]) ∧ R.length = n ∧ n ≤ 4 ∧ (∀ r ∈ R, r.s.length ≤ 4) ∧ (-1 ≤ lv ∧ lv ≤ 5) ∧ (0 ≤ x ∧ x ≤ 4) ∧ Lad w' A c R ∧ Below w.heap.size w w'

set_option maxHeartbeats 1600000 in
theorem drawLadderCode_any (A : Option Addr) (n c : Nat) (w : World) (hin : BytesIn w A n c) : Calls Try.prog 24 #[.slice A n c] w (LcPost w) := by
  go_enter Try.func24, Try.ntmps24
  go_wp2_with fail
  refine (l6Open_any A n c w hin).mono ?_
  rintro e w1 ⟨g, rfl, hr1, hb1⟩
  have hlt1 := hr1.lt
  have hBg := hr1.1
  go_wp2_with fail
  refine (l91Ladder_any _ g 0 _ hr1 (by omega)).mono ?_
  rintro e w2 ⟨A2, n2, c2, R, q, rfl, hR, hn4, hrow, hL2, hr2, hq, hg2⟩
  have hb2 := below_grown hb1 hg2 (Nat.le_refl _) hBg
  have hvg : (Value.slice A2 n2 c2).ownBlock = none ∨ (Value.slice A2 n2 c2).ownBlock ≠ some g := by
    cases e : (Value.slice A2 n2 c2).ownBlock with
    | none => exact .inl rfl
    | some b => have := (hL2.1.lt b e).1; exact .inr (fun e' => by injection e' with e'; omega)
  have HVG := Lib.hid hvg
  have HR := Lib.hid hR
  have HW := Lib.hid hrow
  clear hvg hR hrow
  go_wp2_with fail
  refine (pick_any _ g q ((n2 : Int) + 1) _ hr2 (by omega) (by omega)).mono ?_
  rintro e w3 ⟨lv, rfl, ⟨l0, _, l2⟩, hr3, hg3⟩
  have l3 := l2 (by omega)
  have hL3 := hL2.kept hg3 HVG.out (rdr_type hr2)
  have hb3 := below_grown hb2 hg3 (Nat.le_refl _) hBg
  go_wp2_with fail
  refine (pick_any _ g (q + 1) 4 _ hr3 (by omega) (by omega)).mono ?_
  rintro e w4 ⟨x, rfl, ⟨x0, _, x2⟩, hr4, hg4⟩
  have x3 := x2 (by omega)
  have hL4 := hL3.kept hg4 HVG.out (rdr_type hr3)
  have hb4 := below_grown hb3 hg4 (Nat.le_refl _) hBg
  go_wp2_with fail
  refine (pick_any _ g (q + 1 + 1) 20 _ hr4 (by omega) (by omega)).mono ?_
  rintro e w5 ⟨t, rfl, ⟨t0, _, _⟩, hr5, hg5⟩
  have hL5 := hL4.kept hg5 HVG.out (rdr_type hr4)
  have hb5 := below_grown hb4 hg5 (Nat.le_refl _) hBg
  clear l2 x2 hL2 hL3 hL4 hb1 hb2 hb3 hb4 hg2 hg3 hg4 hg5 hr2 hr3 hr4
  cases c0 : (t == 0)
  · cases c1 : (t == 1)
    · go_wp2
      go_ret3
      exact ⟨A2, n2, c2, R, lv, x, rfl, HR.out, hn4, HW.out, by omega, by omega, hL5.lad HR.out, hb5⟩
    · go_wp2
      go_ret3
      exact ⟨A2, n2, c2, R, lv, 4, rfl, HR.out, hn4, HW.out, by omega, by omega, hL5.lad HR.out, hb5⟩
  · have hnb : w5.heap.size ≠ g := by have := hr5.lt; omega
    go_wp2_with fail
    refine (pick_any _ g (q + 1 + 1 + 1) 2 _ (hr5.below (below_new _ _)) (by omega) (by omega)).mono ?_
    rintro e w6 ⟨u, rfl, ⟨u0, _, u2⟩, hr6, hg6⟩
    have u3 := u2 (by omega)
    have hL6 := (hL5.below (below_new _ _)).kept hg6 HVG.out (rdr_type (hr5.below (below_new _ _)))
    have hb6 := below_grown (hb5.trans ((below_new _ _).mono hb5.size)) hg6 (Nat.le_refl _) hBg
    obtain ⟨y, hy, hy'⟩ := two_of u0 u3 (.int .i64 (-1)) (.int .i64 ((n2 : Int) + 1))
    have hc := (later_cell (i := u.toNat) hg6 (heap_alloc_new _ _) hnb).trans hy
    have hxi : ∃ z : Int, y = .int .i64 z ∧ -1 ≤ z ∧ z ≤ 5 := by
      rcases hy' with rfl | rfl
      · exact ⟨_, rfl, by omega, by omega⟩
      · exact ⟨_, rfl, by omega, by omega⟩
    obtain ⟨z, rfl, hz0, hz1⟩ := hxi
    clear hy hy' u2 hL5 hb5
    go_wp2
    go_ret3
    exact ⟨A2, n2, c2, R, z, x, rfl, HR.out, hn4, HW.out, ⟨hz0, hz1⟩, by omega, hL6.lad HR.out, hb6⟩

end Go.Proofs.Ytfggfblneggncaa
