/- Contract of DrawRecodeFiner: some ladder and two recodings. -/
import Derived.Test.YtddadkjpkmdmiaaDs
namespace Go.Proofs.Ytddadkjpkmdmiaa
open Go.RowKit
set_option linter.unusedVariables false

theorem boxd_far3 {w : World} {B G : Nat} {t : TypeId} {cs : Array Value} (h : Boxd w B t cs) (hne : B ≠ G) (a b c : Value) : Boxd (((w.setCell ⟨G, 0, none⟩ a).setCell ⟨G, 1, none⟩ b).setCell ⟨G, 2, none⟩ c) B t cs :=
  ((h.far hne 0 a).far hne 1 b).far hne 2 c

/-- The last statement: both recodings are written into their results. -/
theorem dfr_end {w w6 : World} {B : Option Addr} {m d G G' : Nat} {R : List Rw} {o : Nat} {a j s a' j' s' : Int} {u0 u1 u2 v0 v1 v2 : Value} (hL : LadO w6 o (.slice B m d) m R) (hb : Below w.heap.size w w6) (x : Boxd w6 G 28 #[u0, u1, u2]) (x' : Boxd w6 G' 28 #[v0, v1, v2]) (hne : G ≠ G') (hG : w.heap.size ≤ G) (hG' : w.heap.size ≤ G') :
    (LadO ((((((w6.setCell ⟨G, 0, none⟩ (.int .i64 a)).setCell ⟨G, 1, none⟩ (.int .i64 j)).setCell ⟨G, 2, none⟩ (.int .i64 s)).setCell ⟨G', 0, none⟩ (.int .i64 a')).setCell ⟨G', 1, none⟩ (.int .i64 j')).setCell ⟨G', 2, none⟩ (.int .i64 s')) o (.slice B m d) m R ∧
      Below w.heap.size w ((((((w6.setCell ⟨G, 0, none⟩ (.int .i64 a)).setCell ⟨G, 1, none⟩ (.int .i64 j)).setCell ⟨G, 2, none⟩ (.int .i64 s)).setCell ⟨G', 0, none⟩ (.int .i64 a')).setCell ⟨G', 1, none⟩ (.int .i64 j')).setCell ⟨G', 2, none⟩ (.int .i64 s'))) ∧
    (LadO ((((((w6.setCell ⟨G', 0, none⟩ (.int .i64 a')).setCell ⟨G', 1, none⟩ (.int .i64 j')).setCell ⟨G', 2, none⟩ (.int .i64 s')).setCell ⟨G, 0, none⟩ (.int .i64 a)).setCell ⟨G, 1, none⟩ (.int .i64 j)).setCell ⟨G, 2, none⟩ (.int .i64 s)) o (.slice B m d) m R ∧
      Below w.heap.size w ((((((w6.setCell ⟨G', 0, none⟩ (.int .i64 a')).setCell ⟨G', 1, none⟩ (.int .i64 j')).setCell ⟨G', 2, none⟩ (.int .i64 s')).setCell ⟨G, 0, none⟩ (.int .i64 a)).setCell ⟨G, 1, none⟩ (.int .i64 j)).setCell ⟨G, 2, none⟩ (.int .i64 s))) :=
  ⟨⟨ladO_put3 (ladO_put3 hL x) (boxd_far3 x' (fun e => hne e.symm) _ _ _), below_put3 (below_put3 hb hG _ _ _) hG' _ _ _⟩,
    ladO_put3 (ladO_put3 hL x') (boxd_far3 x hne _ _ _), below_put3 (below_put3 hb hG' _ _ _) hG _ _ _⟩

theorem ladO_drew {w : World} {o : Nat} {v : Value} {m : Nat} {R : List Rw} (h : LadO w o v m R) : LadO w.drew o v m R := h

/-- Behind the 'if'. -/
def DfrMid (w : World) (G3 G4 o : Nat) (B : Option Addr) (m d : Nat) (R : List Rw) (a j s : Int) (wx : World) : Prop :=
  ∃ u0 u1 u2 : Int, (-1 ≤ u0 ∧ u0 ≤ 5) ∧ (-1 ≤ u1 ∧ u1 ≤ 2) ∧ (-1 ≤ u2 ∧ u2 ≤ 2) ∧ Boxd wx w.heap.size 28 #[.int .i64 0, .int .i64 0, .int .i64 0] ∧ Boxd wx (w.heap.size + 1) 28 #[.int .i64 0, .int .i64 0, .int .i64 0] ∧ Boxd wx G3 28 #[.int .i64 a, .int .i64 j, .int .i64 s] ∧ Boxd wx G4 28 #[.int .i64 u0, .int .i64 u1, .int .i64 u2] ∧ LadO wx o (.slice B m d) m R ∧ Below w.heap.size w wx

set_option maxRecDepth 100000 in
set_option maxHeartbeats 6400000 in
theorem drawRecodeFiner_any (A : Option Addr) (n c : Nat) (w : World) (hin : BytesIn w A n c) : Calls Try.prog 22 #[.slice A n c] w (DfrPost w) := by
  have b00 := below2 (below_new w (.cells #[.int .i64 0, .int .i64 0, .int .i64 0] 28)) (below_new (w.alloc (.cells #[.int .i64 0, .int .i64 0, .int .i64 0] 28)) (.cells #[.int .i64 0, .int .i64 0, .int .i64 0] 28))
  have xx : Boxd ((w.alloc (.cells #[.int .i64 0, .int .i64 0, .int .i64 0] 28)).alloc (.cells #[.int .i64 0, .int .i64 0, .int .i64 0] 28)) (w.heap.size + 1) 28 #[.int .i64 0, .int .i64 0, .int .i64 0] := by
    have := Boxd.new (w.alloc (.cells #[.int .i64 0, .int .i64 0, .int .i64 0] 28)) 28 #[.int .i64 0, .int .i64 0, .int .i64 0]
    simp at this
    exact this
  go_enter Try.func22, Try.ntmps22
  go_wp2_with fail
  refine (l6Open_any A n c _ (hin.below b00)).mono ?_
  rintro e w1 ⟨g, rfl, hr1, hb1⟩
  have x1 := ((Boxd.new w 28 #[.int .i64 0, .int .i64 0, .int .i64 0]).alloc (.cells #[.int .i64 0, .int .i64 0, .int .i64 0] 28)).below hb1
  have x1' := xx.below hb1
  have hb01 := below2 b00 hb1
  have hgB := hr1.1
  simp at hgB
  have hz1 := hb01.size
  have hlt1 := hr1.lt
  clear xx b00
  go_wp2_with fail
  refine (l91Ladder_any _ g 0 _ hr1 (by omega)).mono ?_
  rintro e w2 ⟨B, m, d, R, q2, rfl, hR, hm4, hrow, hL2, hr2, hq2, hg2⟩
  have HR := Lib.hid hR
  have HW := Lib.hid hrow
  have x2 := x1.grown hg2 (by omega)
  have x2' := x1'.grown hg2 (by omega)
  have hb02 := below_grown hb01 hg2 (Nat.le_refl _) (by omega)
  have HVB := Lib.hid (own_not hL2.1 hlt1)
  clear hR hrow hb1 x1 x1' hg2
  go_wp2_with fail
  refine (l91Recode_any _ g q2 B m d _ hr2 (by omega) (by omega)).mono ?_
  rintro e w3 ⟨a, j, s, q3, rfl, ha, hj, hs, hr3, hq3, hg3⟩
  have x3 := x2.grown hg3 (by omega)
  have x3' := x2'.grown hg3 (by omega)
  have hL3 := hL2.kept hg3 HVB.out (rdr_type hr2)
  have hb03 := below_grown hb02 hg3 (Nat.le_refl _) (by omega)
  have hlt3 := hr3.lt
  have hx3' := x3'.lt
  have bN := below_new w3 (.cells #[.int .i64 a, .int .i64 j, .int .i64 s] 28)
  have y3 := Boxd.new w3 28 #[.int .i64 a, .int .i64 j, .int .i64 s]
  clear x2 x2' hL2 hr2 hg3
  go_wp2_with fail
  refine (l91Recode_any _ g q3 B m d _ (hr3.below bN) (by omega) (by omega)).mono ?_
  rintro e w4 ⟨a', j', s', q4, rfl, ha', hj', hs', hr4, hq4, hg4⟩
  have x4 := (x3.below bN).grown hg4 (by omega)
  have x4' := (x3'.below bN).grown hg4 (by omega)
  have y4 := y3.grown hg4 (by omega)
  have hL4 := (hL3.below bN).kept hg4 HVB.out (rdr_type (hr3.below bN))
  have hb04 := below_grown (hb03.trans (bN.mono hb03.size)) hg4 (Nat.le_refl _) (by omega)
  have hlt4 := hr4.lt
  have hy4 := y4.lt
  have bM := below_new w4 (.cells #[.int .i64 a', .int .i64 j', .int .i64 s'] 28)
  have z4 := Boxd.new w4 28 #[.int .i64 a', .int .i64 j', .int .i64 s']
  clear x3 x3' y3 hL3 hr3 hg4 bN
  go_wp2_with fail
  refine (pick_any _ g q4 2 _ (hr4.below bM) (by omega) (by omega)).mono ?_
  rintro e w5 ⟨t, rfl, ⟨t0, tA, tB⟩, hr5, hg5⟩
  have x5 := (x4.below bM).grown hg5 (by omega)
  have x5' := (x4'.below bM).grown hg5 (by omega)
  have y5 := (y4.below bM).grown hg5 (by omega)
  have z5 := z4.grown hg5 (by omega)
  have hL5 := (hL4.below bM).kept hg5 HVB.out (rdr_type (hr4.below bM))
  have hb05 := below_grown (hb04.trans (bM.mono hb04.size)) hg5 (Nat.le_refl _) (by omega)
  have n1 : ¬ w.heap.size = w3.heap.size := by omega
  have n2 : ¬ w.heap.size = w4.heap.size := by omega
  have n3 : ¬ w.heap.size + 1 = w3.heap.size := by omega
  have n4 : ¬ w.heap.size + 1 = w4.heap.size := by omega
  have n5 : ¬ w3.heap.size = w4.heap.size := by omega
  have n6 : ¬ w3.heap.size = w.heap.size := by omega
  have n7 : ¬ w4.heap.size = w.heap.size := by omega
  have n8 : ¬ w3.heap.size = w.heap.size + 1 := by omega
  have n9 : ¬ w4.heap.size = w.heap.size + 1 := by omega
  have n10 : ¬ w4.heap.size = w3.heap.size := by omega
  clear x4 x4' y4 z4 hL4 hr4 hr5 hg5 bM
  go_upto_if 21 with fail
  go_cut [] (fun wx => DfrMid w w3.heap.size w4.heap.size w1.heap.size B m d R a j s wx)
  case first =>
    cases h0 : (t == 0)
    · go_wp2
      go_meet
      exact ⟨a', j', s', by omega, by omega, by omega, x5, x5', y5, z5, hL5, hb05⟩
    · obtain ⟨⟨d0, d1, d2⟩, dx⟩ := cell_three y5
      obtain ⟨⟨e0, e1, e2⟩, i0, i1, i2⟩ := cell_three z5
      have fin : ∀ u0 u1 u2 : Int, (-1 ≤ u0 ∧ u0 ≤ 5) → (-1 ≤ u1 ∧ u1 ≤ 2) → (-1 ≤ u2 ∧ u2 ≤ 2) → DfrMid w w3.heap.size w4.heap.size w1.heap.size B m d R a j s (((w5.setCell ⟨w4.heap.size, 0, none⟩ (.int .i64 u0)).setCell ⟨w4.heap.size, 1, none⟩ (.int .i64 u1)).setCell ⟨w4.heap.size, 2, none⟩ (.int .i64 u2)) := fun u0 u1 u2 h1 h2 h3 =>
        ⟨u0, u1, u2, h1, h2, h3, boxd_far3 x5 n2 _ _ _, boxd_far3 x5' n4 _ _ _, boxd_far3 y5 n5 _ _ _, heap_put3 z5, ladO_put3 hL5 z5, below_put3 hb05 (by omega) _ _ _⟩
      have FIN := Lib.hid fin
      have HA := Lib.hid (And.intro ha (And.intro hj hs))
      have HA' := Lib.hid (And.intro ha' (And.intro hj' hs'))
      clear fin x5 x5' y5 z5 hL5 hb05 dx tA tB t0 ha hj hs ha' hj' hs' hq2 hq3 hq4 hlt1 hlt3 hlt4 hb01 hb02 hb03 hb04 hz1 hx3' hy4 hgB hr1 HVB n1 n2 n3 n4 n6 n7 n8 n9
      generalize hG2 : w.heap.size + 1 = G2 at *
      generalize hG1 : w.heap.size = G1 at *
      generalize hG3 : w3.heap.size = G3 at *
      generalize hG4 : w4.heap.size = G4 at *
      clear hG1 hG2 hG3 hG4
      rcases Int.lt_or_le a a' with ma | ma <;> rcases Int.lt_or_le j j' with mj | mj <;> rcases Int.lt_or_le s s' with ms | ms
      all_goals
        go_wp2
        go_meet
        exact FIN.out _ _ _ (by have := HA.out; have := HA'.out; omega) (by have := HA.out; have := HA'.out; omega) (by have := HA.out; have := HA'.out; omega)
  case rest =>
    obtain ⟨u0, u1, u2, bu0, bu1, bu2, x6, x6', y6, z6, hL6, hb06⟩ := hcut
    obtain ⟨⟨c0, c1, c2⟩, f0, f1, f2⟩ := cell_three x6
    obtain ⟨⟨k0, k1, k2⟩, l0, l1, l2⟩ := cell_three x6'
    obtain ⟨⟨d0, d1, d2⟩, dx⟩ := cell_three y6
    obtain ⟨⟨e0, e1, e2⟩, ex⟩ := cell_three z6
    have HE := Lib.hid (dfr_end (w6 := wc) (a := a) (j := j) (s := s) (a' := u0) (j' := u1) (s' := u2) hL6 hb06 x6 x6' (by omega) (Nat.le_refl _) (by omega))
    have n11 : ¬ w.heap.size = w.heap.size + 1 := by omega
    have n12 : ¬ w.heap.size + 1 = w.heap.size := by omega
    have bA : -1 ≤ a ∧ a ≤ 5 := by omega
    have bJ : -1 ≤ j ∧ j ≤ 2 := by omega
    have bS : -1 ≤ s ∧ s ≤ 2 := by omega
    have HB := Lib.hid (And.intro bA (And.intro bJ bS))
    have HU := Lib.hid (And.intro bu0 (And.intro bu1 bu2))
    clear tA tB t0 dx ex bA bJ bS bu0 bu1 bu2 ha hj hs ha' hj' hs' hq2 hq3 hq4 hlt1 hlt3 hlt4 hb01 hb02 hb03 hb04 hz1 hx3' hy4 hgB hr1 HVB
    clear x5 x5' y5 z5 hL5 hb05 x6 x6' y6 z6 hL6 hb06
    generalize hG2 : w.heap.size + 1 = G2 at *
    generalize hG1 : w.heap.size = G1 at *
    generalize hG3 : w3.heap.size = G3 at *
    generalize hG4 : w4.heap.size = G4 at *
    go_wp2
    go_region
    go_wp2
    refine bodyPost_ret (v := .tuple #[.slice B m d, .agg #[.int .i64 a, .int .i64 j, .int .i64 s], .agg #[.int .i64 u0, .int .i64 u1, .int .i64 u2]]) (by simp [results, Try.results22, go_sem, c0, c1, c2, k0, k1, k2]) rfl ?_
    subst hG1
    exact ⟨B, m, d, R, a, j, s, u0, u1, u2, rfl, HR.out, hm4, HW.out, HB.out.1, HB.out.2.1, HB.out.2.2, HU.out.1, HU.out.2.1, HU.out.2.2, (ladO_drew HE.out.1.1).lad HR.out, HE.out.1.2.drew⟩

end Go.Proofs.Ytddadkjpkmdmiaa
