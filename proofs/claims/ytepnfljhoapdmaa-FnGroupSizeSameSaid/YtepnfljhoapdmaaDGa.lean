/- Contract of l91At: some people, ladder, recoding and number. -/
import Derived.Test.YtepnfljhoapdmaaDa
import Derived.Deep.RegionWith
import Derived.Deep.RegionHeld3
namespace Go.Proofs.Ytepnfljhoapdmaa
open Go.RowKit
set_option linter.unusedVariables false

/-- What l91At leaves. -/
def AtPost (base g p : Nat) (w : World) (e : Ending) (w' : World) : Prop :=
  ∃ (A : Option Addr) (n c : Nat) (L : List Pers) (B : Option Addr) (m d : Nat) (R : List Rw) (a j s k : Int) (q : Nat), e = .returned (.tuple #[.slice A n c, .slice B m d, .agg #[.int .i64 a, .int .i64 j, .int .i64 s], .int .i64 k]) ∧
    L.length = n ∧ n ≤ 10 ∧ w'.ownsRow w.heap.size 31 4 (.slice A n c) n (pcells L) ∧ R.length = m ∧ m ≤ 4 ∧ (∀ r ∈ R, r.s.length ≤ 4) ∧ LadO w' w.heap.size (.slice B m d) m R ∧ -1 ≤ k ∧ k ≤ n ∧ Rdr base w' g q ∧ w.grownBy w' (some g)

theorem new_at (w : World) (cs : Array Value) (t : TypeId) (i : Nat) : (w.alloc (.cells cs t)).cell? ⟨w.heap.size, i, none⟩ = cs[i]? := cell_of_row _ _ _ _ _ _ (heap_alloc_new w _)
theorem far3 {w : World} {B G : Nat} {t : TypeId} {cs : Array Value} (h : Boxd w B t cs) (hne : B ≠ G) (a b c : Value) : Boxd (((w.setCell ⟨G, 0, none⟩ a).setCell ⟨G, 1, none⟩ b).setCell ⟨G, 2, none⟩ c) B t cs :=
  ((h.far hne 0 a).far hne 1 b).far hne 2 c
theorem boxd_drew {w : World} {B : Nat} {t : TypeId} {cs : Array Value} (h : Boxd w B t cs) : Boxd w.drew B t cs := h

/-- All that is known of a world of l91At: the first result's box G4, the recoding's box G8. -/
structure Knows (base g q o : Nat) (w0 : World) (G4 G8 : Nat) (a j s : Int) (V : Value) (n : Nat) (L : List Pers) (Y : Value) (m : Nat) (R : List Rw) (W : World) : Prop where
  x : Boxd W G4 26 #[.int .i64 0, .int .i64 0, .int .i64 0]
  y : Boxd W G8 26 #[.int .i64 a, .int .i64 j, .int .i64 s]
  ho : W.ownsRow o 31 4 V n (pcells L)
  hL : LadO W o Y m R
  hr : Rdr base W g q
  hG : w0.grownBy W (some g)
section
variable {base g q o : Nat} {w0 : World} {G4 G8 : Nat} {a j s : Int} {V : Value} {n : Nat} {L : List Pers} {Y : Value} {m : Nat} {R : List Rw} {W W' : World}
theorem Knows.drew (h : Knows base g q o w0 G4 G8 a j s V n L Y m R W) : Knows base g q o w0 G4 G8 a j s V n L Y m R W.drew :=
  ⟨h.x, h.y, h.ho, h.hL, h.hr, grown_drewN h.hG 1⟩
theorem Knows.alloc (h : Knows base g q o w0 G4 G8 a j s V n L Y m R W) (ob : Obj) : Knows base g q o w0 G4 G8 a j s V n L Y m R (W.alloc ob) :=
  ⟨h.x.alloc _, h.y.alloc _, h.ho.alloc _, h.hL.below (below_new _ _), h.hr.below (below_new _ _), h.hG.trans (World.grownBy_alloc W _ (some g))⟩
theorem Knows.pick (h : Knows base g q o w0 G4 G8 a j s V n L Y m R W) {q' : Nat} (hr : Rdr base W' g q') (hg : W.grownBy W' (some g)) (h4 : G4 ≠ g) (h8 : G8 ≠ g) (hV : V.ownBlock = none ∨ V.ownBlock ≠ some g) (hY : Y.ownBlock = none ∨ Y.ownBlock ≠ some g) : Knows base g q' o w0 G4 G8 a j s V n L Y m R W' :=
  ⟨h.x.grown hg h4, h.y.grown hg h8, h.ho.kept hg hV, h.hL.kept hg hY (rdr_type h.hr), hr, h.hG.trans hg⟩
/-- The last store. -/
theorem Knows.put (h : Knows base g q o w0 G4 G8 a j s V n L Y m R W) (h0 : w0.heap.size ≤ G4) (hg : g < w0.heap.size) (hne : G8 ≠ G4) (a' b' c' : Value) :
    Boxd (((W.setCell ⟨G4, 0, none⟩ a').setCell ⟨G4, 1, none⟩ b').setCell ⟨G4, 2, none⟩ c') G8 26 #[.int .i64 a, .int .i64 j, .int .i64 s] ∧
    (((W.setCell ⟨G4, 0, none⟩ a').setCell ⟨G4, 1, none⟩ b').setCell ⟨G4, 2, none⟩ c').ownsRow o 31 4 V n (pcells L) ∧
    LadO (((W.setCell ⟨G4, 0, none⟩ a').setCell ⟨G4, 1, none⟩ b').setCell ⟨G4, 2, none⟩ c') o Y m R ∧
    Rdr base (((W.setCell ⟨G4, 0, none⟩ a').setCell ⟨G4, 1, none⟩ b').setCell ⟨G4, 2, none⟩ c') g q ∧ w0.grownBy (((W.setCell ⟨G4, 0, none⟩ a').setCell ⟨G4, 1, none⟩ b').setCell ⟨G4, 2, none⟩ c') (some g) :=
  ⟨far3 h.y hne _ _ _, own_put3 h.ho h.x p_ne_r, ladO_put3 h.hL h.x, put_new h.hr h.hG h0 hg _ _ _⟩
theorem Knows.put_alloc (h : Knows base g q o w0 G4 G8 a j s V n L Y m R W) (h0 : w0.heap.size ≤ G4) (hg : g < w0.heap.size) (hne : G8 ≠ G4) (a' b' c' : Value) (ob : Obj) :
    ((((W.setCell ⟨G4, 0, none⟩ a').setCell ⟨G4, 1, none⟩ b').setCell ⟨G4, 2, none⟩ c').alloc ob).ownsRow o 31 4 V n (pcells L) ∧
    LadO ((((W.setCell ⟨G4, 0, none⟩ a').setCell ⟨G4, 1, none⟩ b').setCell ⟨G4, 2, none⟩ c').alloc ob) o Y m R ∧
    Rdr base ((((W.setCell ⟨G4, 0, none⟩ a').setCell ⟨G4, 1, none⟩ b').setCell ⟨G4, 2, none⟩ c').alloc ob) g q ∧ w0.grownBy ((((W.setCell ⟨G4, 0, none⟩ a').setCell ⟨G4, 1, none⟩ b').setCell ⟨G4, 2, none⟩ c').alloc ob) (some g) := by
  obtain ⟨_, h1, h2, h3, h4⟩ := h.put h0 hg hne a' b' c'
  exact ⟨h1.alloc _, h2.below (below_new _ _), h3.below (below_new _ _), h4.trans (World.grownBy_alloc _ _ (some g))⟩
theorem put_new_cell (G : Nat) (a' b' c' : Value) (cs : Array Value) (t : TypeId) (i : Nat) : ((((W.setCell ⟨G, 0, none⟩ a').setCell ⟨G, 1, none⟩ b').setCell ⟨G, 2, none⟩ c').alloc (.cells cs t)).cell? ⟨W.heap.size, i, none⟩ = cs[i]? := by
  have h := new_at (((W.setCell ⟨G, 0, none⟩ a').setCell ⟨G, 1, none⟩ b').setCell ⟨G, 2, none⟩ c') cs t i
  have e : (((W.setCell ⟨G, 0, none⟩ a').setCell ⟨G, 1, none⟩ b').setCell ⟨G, 2, none⟩ c').heap.size = W.heap.size := by simp [World.setCell]
  rw [e] at h
  exact h
theorem at_mk {base g p q : Nat} {w W : World} {A : Option Addr} {n c : Nat} {L : List Pers} {B : Option Addr} {m d : Nat} {R : List Rw} {a j s y : Int} (hn : L.length = n) (hn10 : n ≤ 10) (hR : R.length = m) (hm : m ≤ 4) (hr : ∀ r ∈ R, r.s.length ≤ 4) (z0 : -1 ≤ y) (z1 : y ≤ n)
    (h : W.ownsRow w.heap.size 31 4 (.slice A n c) n (pcells L) ∧ LadO W w.heap.size (.slice B m d) m R ∧ Rdr base W g q ∧ w.grownBy W (some g)) :
    AtPost base g p w (.returned (.tuple #[.slice A n c, .slice B m d, .agg #[.int .i64 a, .int .i64 j, .int .i64 s], .int .i64 y])) W :=
  ⟨A, n, c, L, B, m, d, R, a, j, s, y, q, rfl, hn, hn10, h.1, hR, hm, hr, h.2.1, z0, z1, h.2.2.1, h.2.2.2⟩
end

set_option maxRecDepth 100000 in
set_option maxHeartbeats 3200000 in
theorem l91At_any (base g p : Nat) (w : World) (h : Rdr base w g p) (hp : p ≤ 700000) : Calls Try.prog 39 #[.pointer (some ⟨g, 0, none⟩)] w (AtPost base g p w) := by
  have hltg := h.lt
  go_enter Try.func39, Try.ntmps39
  go_wp2_with fail
  refine (l91All_any base g p _ (h.below (below_new _ _)) (by omega)).mono ?_
  rintro e w1 ⟨A, n, c, L, B, m, d, R, a, j, s, q1, rfl, hn, hn10, ho1, hR, hm4, hrow, hL1, hr1, hq1, hg1⟩
  have HN := Lib.hid hn
  have HR := Lib.hid hR
  have HW := Lib.hid hrow
  have x1 : Boxd w1 w.heap.size 26 #[.int .i64 0, .int .i64 0, .int .i64 0] := (Boxd.new w _ _).grown hg1 (by omega)
  have hx1 := x1.lt
  have hlt1 := hr1.lt
  have hv1 := own_not ho1 (show g < (w.alloc (.cells #[.int .i64 0, .int .i64 0, .int .i64 0] 26)).heap.size by simp; omega)
  have hv2 := own_not hL1.1 (show g < (w.alloc (.cells #[.int .i64 0, .int .i64 0, .int .i64 0] 26)).heap.size by simp; omega)
  have K1 : Knows base g q1 w.heap.size w w.heap.size w1.heap.size a j s (.slice A n c) n L (.slice B m d) m R (w1.alloc (.cells #[.int .i64 a, .int .i64 j, .int .i64 s] 26)) :=
    ⟨x1.alloc _, Boxd.new w1 _ _, (own_mono ho1 (by simp)).alloc _, (show LadO w1 w.heap.size (.slice B m d) m R from ⟨own_mono hL1.1 (by simp), hL1.2⟩).below (below_new _ _), hr1.below (below_new _ _), ((World.grownBy_alloc w _ (some g)).trans hg1).trans (World.grownBy_alloc w1 _ (some g))⟩
  clear x1 ho1 hL1 hr1 hg1 hn hR hrow h
  by_cases h0 : n = 0
  · have e0 : ((n : Int) == 0) = true := by simp; omega
    have n0 : n ≤ 0 := by omega
    clear h0
    go_upto_region 3 with fail
    have H4 := Lib.hid (show w.heap.size ≤ w.heap.size from Nat.le_refl _)
    have h4g : w.heap.size ≠ g := by omega
    have h8g : w1.heap.size ≠ g := by omega
    have h84 : w1.heap.size ≠ w.heap.size := by omega
    have h48 : w.heap.size ≠ w1.heap.size := by omega
    have hnb : (w1.alloc (.cells #[.int .i64 a, .int .i64 j, .int .i64 s] 26)).heap.size ≠ g := by have := K1.hr.lt; omega
    generalize hG4 : w.heap.size = G4 at *
    generalize hG8 : w1.heap.size = G8 at *
    have HG4 := Lib.hid hG4
    have HLG := Lib.hid (show g < w.heap.size by rw [hG4]; exact hltg)
    have HLE := Lib.hid (show w.heap.size ≤ G4 by rw [hG4]; exact Nat.le_refl _)
    have HV := Lib.hid (And.intro hv1 hv2)
    have HK := Lib.hid (fun (w' : World) (hb : Boxd w' G8 26 #[.int .i64 a, .int .i64 j, .int .i64 s]) => (cell_three hb).1)
    clear hG4 hG8 hv1 hv2 hx1 hlt1 hltg H4
    generalize w1.alloc (.cells #[.int .i64 a, .int .i64 j, .int .i64 s] 26) = W at *
    have KA := Lib.hid (K1.drew)
    have KB := Lib.hid ((K1.alloc (.cells #[.int .i64 (-1), .int .i64 (n : Int)] 3)).drew)
    have HNW := Lib.hid (show (W.alloc (.cells #[.int .i64 (-1), .int .i64 (n : Int)] 3)).drew.heap[W.heap.size]? = some (.cells #[.int .i64 (-1), .int .i64 (n : Int)] 3 (0, 0)) from heap_alloc_new W _)
    have y0 : Boxd W.drew G8 26 #[.int .i64 a, .int .i64 j, .int .i64 s] := KA.out.y
    have y1 : Boxd (W.alloc (.cells #[.int .i64 (-1), .int .i64 (n : Int)] 3)).drew G8 26 #[.int .i64 a, .int .i64 j, .int .i64 s] := KB.out.y
    clear K1
    obtain ⟨⟨a0, a1, a2⟩, _⟩ := cell_three y0
    obtain ⟨⟨b0, b1, b2⟩, _⟩ := cell_three y1
    have ng : ¬ W.heap.size = G4 := by have := KA.out.x.lt; simp at this; omega
    have ng' : ¬ G4 = W.heap.size := fun e => ng e.symm
    go_region_with (first
      | (go_at_call 49; (with_reducible refine (pick_any base g q1 2 W.drew KA.out.hr (by omega) (by omega)).mono ?_); rintro e w7 ⟨u, rfl, ⟨u0, _, u2⟩, hr7, hg7⟩; have u3 := u2 (by omega); obtain ⟨x, hx, hx'⟩ := two_of u0 u3 (.int .i64 (-1)) (.int .i64 (n : Int)); have hc := (new_at w7 #[.int .i64 (-1), .int .i64 (n : Int)] 3 u.toNat).trans hx; obtain ⟨y, rfl, z0, z1⟩ : ∃ y : Int, x = .int .i64 y ∧ -1 ≤ y ∧ y ≤ (n : Int) := (by rcases hx' with rfl | rfl <;> exact ⟨_, rfl, by omega, by omega⟩); have K7 := KA.out.pick hr7 hg7 h4g h8g HV.out.1 HV.out.2; have m4 : ¬ w7.heap.size = G4 := (by have := K7.x.lt; omega); have m4' : ¬ G4 = w7.heap.size := (fun e => m4 e.symm); obtain ⟨⟨k0, k1, k2⟩, _⟩ := cell_three K7.y; have K7a := K7.alloc (.cells #[.int .i64 (-1), .int .i64 (n : Int)] 3); obtain ⟨⟨l0, l1, l2⟩, _⟩ := cell_three K7a.y; have KP := K7a.put HLE.out HLG.out h84 (.int .i64 a) (.int .i64 j) (.int .i64 s); have HP := Lib.hid KP.2; have HQ := Lib.hid (K7.put_alloc HLE.out HLG.out h84 (.int .i64 a) (.int .i64 j) (.int .i64 s) (.cells #[.int .i64 (-1), .int .i64 (n : Int)] 3)); have hc' := put_new_cell (W := w7) G4 (.int .i64 a) (.int .i64 j) (.int .i64 s) #[.int .i64 (-1), .int .i64 (n : Int)] 3 u.toNat; rw [hx] at hc'; obtain ⟨⟨c0, c1, c2⟩, f0, f1, f2⟩ := cell_three K7a.x; obtain ⟨⟨d0, d1, d2⟩, e0, e1, e2⟩ := cell_three K7.x; obtain ⟨⟨r0, r1, r2⟩, _⟩ := cell_three ((heap_put3 (a' := .int .i64 a) (b' := .int .i64 j) (c' := .int .i64 s) K7.x).alloc (.cells #[.int .i64 (-1), .int .i64 (n : Int)] 3)); clear hx hx' u2 hg7 hr7 K7 K7a KP)
      | (go_at_call 49; (with_reducible refine (pick_any base g q1 2 (W.alloc (.cells #[.int .i64 (-1), .int .i64 (n : Int)] 3)).drew KB.out.hr (by omega) (by omega)).mono ?_); rintro e w7 ⟨u, rfl, ⟨u0, _, u2⟩, hr7, hg7⟩; have u3 := u2 (by omega); obtain ⟨x, hx, hx'⟩ := two_of u0 u3 (.int .i64 (-1)) (.int .i64 (n : Int)); have hc := (later_cell (i := u.toNat) hg7 HNW.out hnb).trans hx; obtain ⟨y, rfl, z0, z1⟩ : ∃ y : Int, x = .int .i64 y ∧ -1 ≤ y ∧ y ≤ (n : Int) := (by rcases hx' with rfl | rfl <;> exact ⟨_, rfl, by omega, by omega⟩); have K7 := KB.out.pick hr7 hg7 h4g h8g HV.out.1 HV.out.2; obtain ⟨⟨k0, k1, k2⟩, _⟩ := cell_three K7.y; have KP := K7.put HLE.out HLG.out h84 (.int .i64 a) (.int .i64 j) (.int .i64 s); have HP := Lib.hid KP.2; obtain ⟨⟨c0, c1, c2⟩, f0, f1, f2⟩ := cell_three K7.x; clear hx hx' u2 hg7 hr7 K7 KP))
    all_goals
      go_wp2
      refine bodyPost_ret (v := .tuple #[.slice A n c, .slice B m d, .agg #[.int .i64 a, .int .i64 j, .int .i64 s], .int .i64 y]) (by first | (simp [results, Try.results39, go_sem, c0, c1, c2]; done) | (simp [results, Try.results39, go_sem, r0, r1, r2]; done)) rfl ?_
      have hGG := HG4.out
      subst hGG
      first
        | with_reducible exact at_mk HN.out hn10 HR.out hm4 HW.out z0 z1 HP.out
        | with_reducible exact at_mk HN.out hn10 HR.out hm4 HW.out z0 z1 HQ.out
  · have e0 : ((n : Int) == 0) = false := by simp; omega
    have n0 : 1 ≤ n := by omega
    clear h0
    go_wp2_with fail
    refine (pick_any base g q1 24 _ K1.hr (by omega) (by omega)).mono ?_
    rintro e w2 ⟨t, rfl, ⟨t0, _, _⟩, hr2, hg2⟩
    have K2 := K1.pick hr2 hg2 (by omega) (by omega) hv1 hv2
    clear hr2 hg2 K1
    cases c0 : (t == 0)
    · go_upto_region 4 with fail
      have H4 := Lib.hid (show w.heap.size ≤ w.heap.size from Nat.le_refl _)
      have h4g : w.heap.size ≠ g := by omega
      have h8g : w1.heap.size ≠ g := by omega
      have h84 : w1.heap.size ≠ w.heap.size := by omega
      have h48 : w.heap.size ≠ w1.heap.size := by omega
      have hnb : w2.heap.size ≠ g := by have := K2.hr.lt; omega
      generalize hG4 : w.heap.size = G4 at *
      generalize hG8 : w1.heap.size = G8 at *
      have HG4 := Lib.hid hG4
      have HLG := Lib.hid (show g < w.heap.size by rw [hG4]; exact hltg)
      have HLE := Lib.hid (show w.heap.size ≤ G4 by rw [hG4]; exact Nat.le_refl _)
      have HV := Lib.hid (And.intro hv1 hv2)
      have HK := Lib.hid (fun (w' : World) (hb : Boxd w' G8 26 #[.int .i64 a, .int .i64 j, .int .i64 s]) => (cell_three hb).1)
      clear hG4 hG8 hv1 hv2 hx1 hlt1 hltg H4
      generalize w2 = W at *
      have KA := Lib.hid (K2.drew)
      have y0 : Boxd W.drew G8 26 #[.int .i64 a, .int .i64 j, .int .i64 s] := KA.out.y
      clear K2
      go_region_held3 (fun w' => w'.cell? ⟨G8, 0, none⟩ = some (.int .i64 a) ∧ w'.cell? ⟨G8, 1, none⟩ = some (.int .i64 j) ∧ w'.cell? ⟨G8, 2, none⟩ = some (.int .i64 s)) (first | with_reducible exact HK.out _ y0 | with_reducible exact HK.out _ yp | with_reducible exact HK.out _ yps) (first
        | (go_at_call 49; (with_reducible refine (pick_any base g (q1 + 1) (n : Int) W.drew KA.out.hr (by omega) (by omega)).mono ?_); rintro e w7 ⟨y, rfl, ⟨z0', _, u2⟩, hr7, hg7⟩; have u3 := u2 (by omega); have z0 : -1 ≤ y := (by omega); have z1 : y ≤ (n : Int) := (by omega); have K7 := KA.out.pick hr7 hg7 h4g h8g HV.out.1 HV.out.2; have yp := K7.y; have KP := K7.put HLE.out HLG.out h84 (.int .i64 a) (.int .i64 j) (.int .i64 s); have yps := KP.1; have HP := Lib.hid KP.2; obtain ⟨⟨c0, c1, c2⟩, f0, f1, f2⟩ := cell_three K7.x; clear u2 hg7 hr7 K7 KP))
      all_goals
        go_wp2
        refine bodyPost_ret (v := .tuple #[.slice A n c, .slice B m d, .agg #[.int .i64 a, .int .i64 j, .int .i64 s], .int .i64 y]) (by first | (simp [results, Try.results39, go_sem, c0, c1, c2]; done) | (simp [results, Try.results39, go_sem, r0, r1, r2]; done)) rfl ?_
        have hGG := HG4.out
        subst hGG
        first
          | with_reducible exact at_mk HN.out hn10 HR.out hm4 HW.out z0 z1 HP.out
          | with_reducible exact at_mk HN.out hn10 HR.out hm4 HW.out z0 z1 HQ.out
    · go_upto_region 3 with fail
      have H4 := Lib.hid (show w.heap.size ≤ w.heap.size from Nat.le_refl _)
      have h4g : w.heap.size ≠ g := by omega
      have h8g : w1.heap.size ≠ g := by omega
      have h84 : w1.heap.size ≠ w.heap.size := by omega
      have h48 : w.heap.size ≠ w1.heap.size := by omega
      have hnb : w2.heap.size ≠ g := by have := K2.hr.lt; omega
      generalize hG4 : w.heap.size = G4 at *
      generalize hG8 : w1.heap.size = G8 at *
      have HG4 := Lib.hid hG4
      have HLG := Lib.hid (show g < w.heap.size by rw [hG4]; exact hltg)
      have HLE := Lib.hid (show w.heap.size ≤ G4 by rw [hG4]; exact Nat.le_refl _)
      have HV := Lib.hid (And.intro hv1 hv2)
      have HK := Lib.hid (fun (w' : World) (hb : Boxd w' G8 26 #[.int .i64 a, .int .i64 j, .int .i64 s]) => (cell_three hb).1)
      clear hG4 hG8 hv1 hv2 hx1 hlt1 hltg H4
      generalize w2 = W at *
      have KA := Lib.hid (K2.drew)
      have KB := Lib.hid ((K2.alloc (.cells #[.int .i64 (-1), .int .i64 (n : Int)] 3)).drew)
      have HNW := Lib.hid (show (W.alloc (.cells #[.int .i64 (-1), .int .i64 (n : Int)] 3)).drew.heap[W.heap.size]? = some (.cells #[.int .i64 (-1), .int .i64 (n : Int)] 3 (0, 0)) from heap_alloc_new W _)
      have y0 : Boxd W.drew G8 26 #[.int .i64 a, .int .i64 j, .int .i64 s] := KA.out.y
      have y1 : Boxd (W.alloc (.cells #[.int .i64 (-1), .int .i64 (n : Int)] 3)).drew G8 26 #[.int .i64 a, .int .i64 j, .int .i64 s] := KB.out.y
      clear K2
      obtain ⟨⟨a0, a1, a2⟩, _⟩ := cell_three y0
      obtain ⟨⟨b0, b1, b2⟩, _⟩ := cell_three y1
      have ng : ¬ W.heap.size = G4 := by have := KA.out.x.lt; simp at this; omega
      have ng' : ¬ G4 = W.heap.size := fun e => ng e.symm
      go_region_with (first
        | (go_at_call 49; (with_reducible refine (pick_any base g (q1 + 1) 2 W.drew KA.out.hr (by omega) (by omega)).mono ?_); rintro e w7 ⟨u, rfl, ⟨u0, _, u2⟩, hr7, hg7⟩; have u3 := u2 (by omega); obtain ⟨x, hx, hx'⟩ := two_of u0 u3 (.int .i64 (-1)) (.int .i64 (n : Int)); have hc := (new_at w7 #[.int .i64 (-1), .int .i64 (n : Int)] 3 u.toNat).trans hx; obtain ⟨y, rfl, z0, z1⟩ : ∃ y : Int, x = .int .i64 y ∧ -1 ≤ y ∧ y ≤ (n : Int) := (by rcases hx' with rfl | rfl <;> exact ⟨_, rfl, by omega, by omega⟩); have K7 := KA.out.pick hr7 hg7 h4g h8g HV.out.1 HV.out.2; have m4 : ¬ w7.heap.size = G4 := (by have := K7.x.lt; omega); have m4' : ¬ G4 = w7.heap.size := (fun e => m4 e.symm); obtain ⟨⟨k0, k1, k2⟩, _⟩ := cell_three K7.y; have K7a := K7.alloc (.cells #[.int .i64 (-1), .int .i64 (n : Int)] 3); obtain ⟨⟨l0, l1, l2⟩, _⟩ := cell_three K7a.y; have KP := K7a.put HLE.out HLG.out h84 (.int .i64 a) (.int .i64 j) (.int .i64 s); have HP := Lib.hid KP.2; have HQ := Lib.hid (K7.put_alloc HLE.out HLG.out h84 (.int .i64 a) (.int .i64 j) (.int .i64 s) (.cells #[.int .i64 (-1), .int .i64 (n : Int)] 3)); have hc' := put_new_cell (W := w7) G4 (.int .i64 a) (.int .i64 j) (.int .i64 s) #[.int .i64 (-1), .int .i64 (n : Int)] 3 u.toNat; rw [hx] at hc'; obtain ⟨⟨c0, c1, c2⟩, f0, f1, f2⟩ := cell_three K7a.x; obtain ⟨⟨d0, d1, d2⟩, e0, e1, e2⟩ := cell_three K7.x; obtain ⟨⟨r0, r1, r2⟩, _⟩ := cell_three ((heap_put3 (a' := .int .i64 a) (b' := .int .i64 j) (c' := .int .i64 s) K7.x).alloc (.cells #[.int .i64 (-1), .int .i64 (n : Int)] 3)); clear hx hx' u2 hg7 hr7 K7 K7a KP)
        | (go_at_call 49; (with_reducible refine (pick_any base g (q1 + 1) 2 (W.alloc (.cells #[.int .i64 (-1), .int .i64 (n : Int)] 3)).drew KB.out.hr (by omega) (by omega)).mono ?_); rintro e w7 ⟨u, rfl, ⟨u0, _, u2⟩, hr7, hg7⟩; have u3 := u2 (by omega); obtain ⟨x, hx, hx'⟩ := two_of u0 u3 (.int .i64 (-1)) (.int .i64 (n : Int)); have hc := (later_cell (i := u.toNat) hg7 HNW.out hnb).trans hx; obtain ⟨y, rfl, z0, z1⟩ : ∃ y : Int, x = .int .i64 y ∧ -1 ≤ y ∧ y ≤ (n : Int) := (by rcases hx' with rfl | rfl <;> exact ⟨_, rfl, by omega, by omega⟩); have K7 := KB.out.pick hr7 hg7 h4g h8g HV.out.1 HV.out.2; obtain ⟨⟨k0, k1, k2⟩, _⟩ := cell_three K7.y; have KP := K7.put HLE.out HLG.out h84 (.int .i64 a) (.int .i64 j) (.int .i64 s); have HP := Lib.hid KP.2; obtain ⟨⟨c0, c1, c2⟩, f0, f1, f2⟩ := cell_three K7.x; clear hx hx' u2 hg7 hr7 K7 KP))
      all_goals
        go_wp2
        refine bodyPost_ret (v := .tuple #[.slice A n c, .slice B m d, .agg #[.int .i64 a, .int .i64 j, .int .i64 s], .int .i64 y]) (by first | (simp [results, Try.results39, go_sem, c0, c1, c2]; done) | (simp [results, Try.results39, go_sem, r0, r1, r2]; done)) rfl ?_
        have hGG := HG4.out
        subst hGG
        first
          | with_reducible exact at_mk HN.out hn10 HR.out hm4 HW.out z0 z1 HP.out
          | with_reducible exact at_mk HN.out hn10 HR.out hm4 HW.out z0 z1 HQ.out

end Go.Proofs.Ytepnfljhoapdmaa
