/- Contracts of DrawRecodeValid, DrawRecodeFiner: some ladder and one or two recodings. -/
import Derived.Test.YtddadkjpkmdmiaaDa
import Derived.RegionTactic
import Derived.ChangeAlike
import Derived.Deep.DeepCutAuto
namespace Go.Proofs.Ytddadkjpkmdmiaa
open Go.RowKit
set_option linter.unusedVariables false

def DvrPost (w : World) (e : Ending) (w' : World) : Prop :=
  ∃ (A : Option Addr) (n c : Nat) (R : List Rw) (a j s : Int), e = .returned (.tuple #[.slice A n c, .agg #[.int .i64 a, .int .i64 j, .int .i64 s]]) ∧ R.length = n ∧ n ≤ 4 ∧ (∀ r ∈ R, r.s.length ≤ 4) ∧ (-1 ≤ a ∧ a ≤ 5) ∧ (-1 ≤ j ∧ j ≤ 2) ∧ (-1 ≤ s ∧ s ≤ 2) ∧ Lad w' A c R ∧ Below w.heap.size w w'
def DfrPost (w : World) (e : Ending) (w' : World) : Prop :=
  ∃ (A : Option Addr) (n c : Nat) (R : List Rw) (a j s a' j' s' : Int), e = .returned (.tuple #[.slice A n c, .agg #[.int .i64 a, .int .i64 j, .int .i64 s], .agg #[.int .i64 a', .int .i64 j', .int .i64 s']]) ∧ R.length = n ∧ n ≤ 4 ∧ (∀ r ∈ R, r.s.length ≤ 4) ∧ (-1 ≤ a ∧ a ≤ 5) ∧ (-1 ≤ j ∧ j ≤ 2) ∧ (-1 ≤ s ∧ s ≤ 2) ∧ (-1 ≤ a' ∧ a' ≤ 5) ∧ (-1 ≤ j' ∧ j' ≤ 2) ∧ (-1 ≤ s' ∧ s' ≤ 2) ∧ Lad w' A c R ∧ Below w.heap.size w w'

theorem ladO_set {w : World} {B n G i : Nat} {v u : Value} {R : List Rw} {cs : Array Value} (h : LadO w B v n R) (hx : Boxd w G 28 cs) : LadO (w.setCell ⟨G, i, none⟩ u) B v n R :=
  ⟨h.1.kept (grown_set w G i u) (own_put h.1 hx si_ne_r), fun r hr => (h.2 r hr).grown (grown_set w G i u) (fun g e => by injection e with e; subst e; exact ⟨_, _, _, hx, r_ne_i⟩)⟩

set_option maxRecDepth 100000 in
set_option maxHeartbeats 3200000 in
theorem drawRecodeValid_any (A : Option Addr) (n c : Nat) (w : World) (hin : BytesIn w A n c) : Calls Try.prog 21 #[.slice A n c] w (DvrPost w) := by
  go_enter Try.func21, Try.ntmps21
  go_wp2_with fail
  refine (l6Open_any A n c _ (hin.below (below_new _ _))).mono ?_
  rintro e w1 ⟨g, rfl, hr1, hb1⟩
  have x1 := (Boxd.new w 28 #[.int .i64 0, .int .i64 0, .int .i64 0]).below hb1
  have hb01 := below2 (below_new w (.cells #[.int .i64 0, .int .i64 0, .int .i64 0] 28)) hb1
  have hgB := hr1.1
  simp at hgB
  have hz1 := hb01.size
  have hlt1 := hr1.lt
  go_wp2_with fail
  refine (l91Ladder_any _ g 0 _ hr1 (by omega)).mono ?_
  rintro e w2 ⟨B, m, d, R, q2, rfl, hR, hm4, hrow, hL2, hr2, hq2, hg2⟩
  have HR := Lib.hid hR
  have HW := Lib.hid hrow
  have x2 := x1.grown hg2 (by omega)
  have hb02 := below_grown hb01 hg2 (Nat.le_refl _) (by omega)
  have HVB := Lib.hid (own_not hL2.1 hlt1)
  clear hR hrow hb1 x1 hg2
  go_wp2_with fail
  refine (l91Recode_any _ g q2 B m d _ hr2 (by omega) (by omega)).mono ?_
  rintro e w3 ⟨a, j, s, q3, rfl, ha, hj, hs, hr3, hq3, hg3⟩
  have x3 := x2.grown hg3 (by omega)
  have hL3 := hL2.kept hg3 HVB.out (rdr_type hr2)
  have hb03 := below_grown hb02 hg3 (Nat.le_refl _) (by omega)
  have hz3 := hb03.size
  have hlt3 := hr3.lt
  have hx3 := x3.lt
  have bN := below_new w3 (.cells #[.int .i64 a, .int .i64 j, .int .i64 s] 28)
  have y3 := Boxd.new w3 28 #[.int .i64 a, .int .i64 j, .int .i64 s]
  clear x2 hL2 hr2 hg3
  go_wp2_with fail
  refine (pick_any _ g q3 8 _ (hr3.below bN) (by omega) (by omega)).mono ?_
  rintro e w4 ⟨t, rfl, ⟨t0, _, _⟩, hr4, hg4⟩
  have x4 := (x3.below bN).grown hg4 (by omega)
  have y4 := y3.grown hg4 (by omega)
  have hL4 := (hL3.below bN).kept hg4 HVB.out (rdr_type (hr3.below bN))
  have hb04 := below_grown (hb03.trans (bN.mono hb03.size)) hg4 (Nat.le_refl _) (by omega)
  have hne : ¬ w.heap.size = w3.heap.size := by omega
  have hne' : ¬ w3.heap.size = w.heap.size := by omega
  clear x3 y3 hL3 hr3 hr4 hg4 bN
  cases h0 : (t == 0)
  · obtain ⟨⟨c0, c1, c2⟩, f0, f1, f2⟩ := cell_three x4
    obtain ⟨⟨d0, d1, d2⟩, _⟩ := cell_three y4
    have HB := Lib.hid (below_put3 (w := w4.drew) hb04.drew (Nat.le_refl _) (.int .i64 a) (.int .i64 j) (.int .i64 s))
    have HL := Lib.hid (ladO_put3 (w := w4.drew) (a' := .int .i64 a) (b' := .int .i64 j) (c' := .int .i64 s) hL4 x4)
    clear x4 y4 hL4 hb04
    go_wp2
    go_region
    all_goals
      go_wp2
      refine bodyPost_ret (v := .tuple #[.slice B m d, .agg #[.int .i64 a, .int .i64 j, .int .i64 s]]) (by simp [results, Try.results21, go_sem, c0, c1, c2]) rfl ?_
      exact ⟨B, m, d, R, a, j, s, rfl, HR.out, hm4, HW.out, by omega, by omega, by omega, HL.out.lad HR.out, HB.out⟩
  · have y5 := y4.set 2 (.int .i64 (-1))
    have x5 := x4.far (B' := w3.heap.size) hne 2 (.int .i64 (-1))
    have hL5 := ladO_set (i := 2) (u := .int .i64 (-1)) hL4 y4
    have hb05 : Below w.heap.size w (w4.setCell ⟨w3.heap.size, 2, none⟩ (.int .i64 (-1))) := hb04.setCell (by show w.heap.size ≤ w3.heap.size; omega) _
    simp at y5
    obtain ⟨⟨d0, d1, d2⟩, e0, e1, e2⟩ := cell_three y4
    have HX := Lib.hid (And.intro x5 (And.intro y5 (And.intro hL5 hb05)))
    clear x4 x5 y4 y5 hL4 hL5 hb04 hb05
    go_upto_region 6 with fail
    generalize w4.setCell ⟨w3.heap.size, 2, none⟩ (.int .i64 (-1)) = w5 at HX ⊢
    obtain ⟨x5, y5, hL5, hb05⟩ := HX.out
    clear d0 d1 d2 e0 e1 e2
    obtain ⟨⟨c0, c1, c2⟩, f0, f1, f2⟩ := cell_three x5
    obtain ⟨⟨d0, d1, d2⟩, _⟩ := cell_three y5
    have HB := Lib.hid (below_put3 (w := w5.drew) hb05.drew (Nat.le_refl _) (.int .i64 a) (.int .i64 j) (.int .i64 (-1)))
    have HL := Lib.hid (ladO_put3 (w := w5.drew) (a' := .int .i64 a) (b' := .int .i64 j) (c' := .int .i64 (-1)) hL5 x5)
    clear x5 y5 hL5 hb05 HX
    go_region
    all_goals
      go_wp2
      refine bodyPost_ret (v := .tuple #[.slice B m d, .agg #[.int .i64 a, .int .i64 j, .int .i64 (-1)]]) (by simp [results, Try.results21, go_sem, c0, c1, c2]) rfl ?_
      exact ⟨B, m, d, R, a, j, -1, rfl, HR.out, hm4, HW.out, by omega, by omega, by omega, HL.out.lad HR.out, HB.out⟩

end Go.Proofs.Ytddadkjpkmdmiaa
