/- Contract of l91People: some list of at most 'most' persons in new memory. -/
import Derived.Test.YtepnfljhoapdmaaDp
import Derived.Test.YtepnfljhoapdmaaMem
import Derived.Deep.RegionHeld3
import Derived.Deep.AppendLies
import Derived.Deep.DeepCutAuto
import Derived.Deep.RegionWith
namespace Go.Proofs.Ytepnfljhoapdmaa
open Go.RowKit
set_option linter.unusedVariables false

/-- What holds at the head of each round: L has been drawn, the reader stands at q, nothing old but the reader has turned. -/
def Drawn (base g : Nat) (w wr : World) (v : Value) (L : List Pers) (q : Nat) : Prop :=
  wr.ownsRow w.heap.size 31 4 v L.length (pcells L) ∧ Rdr base wr g q ∧ w.grownBy wr (some g) ∧ ∀ x ∈ L, okB x = true

section
variable {base g : Nat} {w wr w1 : World} {v v' : Value} {L : List Pers} {q q' : Nat}
theorem Drawn.not_g (h : Drawn base g w wr v L q) (hg : g < w.heap.size) : v.ownBlock ≠ some g := fun e => by have := (h.1.lt g e).1; omega
theorem Drawn.keepG (h : Drawn base g w wr v L q) (hgw : g < w.heap.size) (hg : wr.grownBy w1 (some g)) (hr : Rdr base w1 g q') : Drawn base g w w1 v L q' :=
  ⟨h.1.kept hg (.inr (h.not_g hgw)), hr, h.2.2.1.trans hg, h.2.2.2⟩
theorem Drawn.drew (h : Drawn base g w wr v L q) : Drawn base g w wr.drew v L q := ⟨h.1, h.2.1, ⟨h.2.2.1.os, h.2.2.1.tape, h.2.2.1.output, h.2.2.1.size, h.2.2.1.block⟩, h.2.2.2⟩
theorem Drawn.alloc (h : Drawn base g w wr v L q) (o : Obj) : Drawn base g w (wr.alloc o) v L q :=
  ⟨h.1.alloc o, h.2.1.below (below_new _ _), h.2.2.1.trans (World.grownBy_alloc _ _ _), h.2.2.2⟩
/-- A store into a block that is new and is not the list's own. -/
theorem Drawn.set (h : Drawn base g w wr v L q) (hgw : g < w.heap.size) {B : Nat} (hB : w.heap.size ≤ B) (hv : v.ownBlock ≠ some B) (i : Nat) (u : Value) : Drawn base g w (wr.setCell ⟨B, i, none⟩ u) v L q := by
  have hg := grown_set wr B i u
  refine ⟨h.1.kept hg (.inr hv), h.2.1.keep ((Below.refl _ _).setCell (by have := h.2.1.1; show base ≤ B; omega) _) (Below.heap_setCell wr ⟨B, i, none⟩ u g (by show g ≠ B; omega)), ?_, h.2.2.2⟩
  exact ⟨h.2.2.1.os, h.2.2.1.tape, h.2.2.1.output, by simpa [World.setCell] using h.2.2.1.size, fun k hk hne => (Below.heap_setCell wr ⟨B, i, none⟩ u k (by show k ≠ B; omega)).trans (h.2.2.1.block k hk hne)⟩
/-- One person more, by append. -/
theorem Drawn.more {a j s p : Int} (h : Drawn base g w wr v L q) (hgw : g < w.heap.size) (hok : okB ⟨a, j, s, p⟩ = true)
    (ho : w1.ownsRow w.heap.size 31 4 v' (L.length + 1) (pcells L ++ [.int .i64 a, .int .i64 j, .int .i64 s, .int .i64 p])) (hg : wr.grownBy w1 v.ownBlock) : Drawn base g w w1 v' (L ++ [⟨a, j, s, p⟩]) q := by
  have hsz := h.2.2.1.size
  have hbel : Below w.heap.size wr w1 := (Below.refl _ _).grown hg hsz (fun k hk => (h.1.lt k hk).1)
  refine ⟨?_, h.2.1.keep (hbel.mono (by have := h.2.1.1; omega)) (hbel.block g hgw), ?_, ?_⟩
  · rw [List.length_append, pcells_append]; exact ho
  · exact ⟨hg.os.trans h.2.2.1.os, hg.tape.trans h.2.2.1.tape, hg.output.trans h.2.2.1.output, Nat.le_trans hsz hg.size, fun k hk hne => (hbel.block k hk).trans (h.2.2.1.block k hk hne)⟩
  · intro x hx
    rw [List.mem_append] at hx
    rcases hx with hx | hx
    · exact h.2.2.2 x hx
    · simp at hx; subst hx; exact hok
end

theorem new_cells {w : World} {a b c d : Value} {t : TypeId} : ∀ j u, [a, b, c, d][j]? = some u → (w.alloc (.cells #[a, b, c, d] t)).cell? ((⟨w.heap.size, 0, none⟩ : Addr).add j) = some u := by
  intro j u hj
  have hadd : (⟨w.heap.size, 0, none⟩ : Addr).add j = ⟨w.heap.size, j, none⟩ := by unfold Addr.add; split <;> simp_all
  rw [hadd, World.cell?_alloc_at _ _ _ _ rfl]
  simpa using hj

/-- append(out, p): p lies in a new block of its own. -/
theorem app_one {ops : Array Oper} {rest : List Oper} {o : Oper} {ac : Act} {Q : Exit → Act → World → Prop} {wx : World} (hgd : o.guard = none) (sl x : Operand)
    (ho : o.op = .call { callee := .builtin .append, args := #[sl, x], argTypes := #[23, 23] }) (B : Nat) (v : Value) (L : List Pers) (a j s p : Int) (N : Nat) (hN : N = wx.heap.size) (hs : ac.eval sl = v) (hx : ac.eval x = .slice (some ⟨N, 0, none⟩) 1 1)
    (hown : wx.ownsRow B 31 4 v L.length (pcells L)) (hl : L.length ≤ 1048576) (hB : B ≤ wx.heap.size)
    (h : ∀ v' w', w'.ownsRow B 31 4 v' (L.length + 1) (pcells L ++ [.int .i64 a, .int .i64 j, .int .i64 s, .int .i64 p]) → (wx.alloc (.cells #[.int .i64 a, .int .i64 j, .int .i64 s, .int .i64 p] 31)).grownBy w' v.ownBlock → wpList Try.prog ops Q rest (ac.put o.dst v') w') :
    wpList Try.prog ops Q (o :: rest) ac (wx.alloc (.cells #[.int .i64 a, .int .i64 j, .int .i64 s, .int .i64 p] 31)) := by
  subst hN
  obtain ⟨i0, hi, hz0, hz1, hz2⟩ := info_parts pInfo
  exact wpList_append_own _ hgd sl x 23 ho B 31 i0 _ 4 32 Try.underlying23 hi hz0 hz1 hz2 rfl (by decide) v L.length (pcells L) hs (hown.alloc _) ⟨wx.heap.size, 0, none⟩ 1 1 [.int .i64 a, .int .i64 j, .int .i64 s, .int .i64 p] hx rfl new_cells
    (pcells_one_cell [⟨a, j, s, p⟩]) (by unfold maxLen; omega) (by omega) (by simp; omega) (fun v' w' h2 h3 _ => h v' w' h2 h3)

/-- Behind the 'if' of the round: the box holds a valid person. -/
def Boxed (base g : Nat) (w : World) (v : Value) (L : List Pers) (B q0 : Nat) (wx : World) : Prop :=
  ∃ (a j s y : Int) (q : Nat), okB ⟨a, j, s, y⟩ = true ∧ q ≤ q0 ∧ Boxd wx B 31 #[.int .i64 a, .int .i64 j, .int .i64 s, .int .i64 y] ∧ Drawn base g w wx v L q

/-- The cells of person i of a list of one's own. -/
theorem own_at {w : World} {B g n cap : Nat} {L : List Pers} (h : w.ownsRow B 31 4 (.slice (some ⟨g, 0, none⟩) n cap) L.length (pcells L)) (hn : L.length = n) {i : Nat} {a j s p : Int} (hx : L[i]? = some ⟨a, j, s, p⟩) :
    w.cell? ⟨g, i * 4, none⟩ = some (.int .i64 a) ∧ w.cell? ⟨g, i * 4 + 1, none⟩ = some (.int .i64 j) ∧ w.cell? ⟨g, i * 4 + 2, none⟩ = some (.int .i64 s) ∧ w.cell? ⟨g, i * 4 + 3, none⟩ = some (.int .i64 p) := by
  subst hn
  have hi : i < L.length := by
    rcases Nat.lt_or_ge i L.length with h | h
    · exact h
    · rw [List.getElem?_eq_none h] at hx; cases hx
  obtain ⟨h0, h1, h2, h3⟩ := pcells_at L i _ hx
  exact ⟨(h.cellAt _ (by omega)).trans h0, (h.cellAt _ (by omega)).trans h1, (h.cellAt _ (by omega)).trans h2, (h.cellAt _ (by omega)).trans h3⟩

/-- A store into the first person of a list of one's own. -/
theorem own_set {w : World} {B g n cap : Nat} {L : List Pers} (h : w.ownsRow B 31 4 (.slice (some ⟨g, 0, none⟩) n cap) L.length (pcells L)) (hn : L.length = n) (h0 : 0 < n) (i : Nat) (hi : i < 4) (z : Int) :
    ∃ L', L'.length = n ∧ (w.setCell ⟨g, i, none⟩ (.int .i64 z)).ownsRow B 31 4 (.slice (some ⟨g, 0, none⟩) n cap) L'.length (pcells L') ∧ w.grownBy (w.setCell ⟨g, i, none⟩ (.int .i64 z)) (some g) := by
  subst hn
  obtain ⟨h1, h2⟩ := h.stored i (.int .i64 z)
  rcases L with _ | ⟨x, L⟩
  · simp at h0
  · rw [pcells_cons] at h1
    match i, hi with
    | 0, _ => exact ⟨⟨z, x.j, x.s, x.p⟩ :: L, rfl, h1, h2⟩
    | 1, _ => exact ⟨⟨x.a, z, x.s, x.p⟩ :: L, rfl, h1, h2⟩
    | 2, _ => exact ⟨⟨x.a, x.j, z, x.p⟩ :: L, rfl, h1, h2⟩
    | 3, _ => exact ⟨⟨x.a, x.j, x.s, z⟩ :: L, rfl, h1, h2⟩

/-- The first person of a list of one's own: its cells are there and may be written. -/
theorem own_first {w : World} {B g n cap : Nat} {L : List Pers} (h : w.ownsRow B 31 4 (.slice (some ⟨g, 0, none⟩) n cap) L.length (pcells L)) (hn : L.length = n) (h0 : 0 < n) :
    ((∃ v, w.cell? ⟨g, 0, none⟩ = some v) ∧ (∃ v, w.cell? ⟨g, 2, none⟩ = some v) ∧ (∃ v, w.cell? ⟨g, 3, none⟩ = some v) ∧ (0 : Int) < (n : Int)) ∧ w.frozen? ⟨g, 0, none⟩ = false ∧ w.frozen? ⟨g, 2, none⟩ = false ∧ w.frozen? ⟨g, 3, none⟩ = false := by
  obtain ⟨⟨a, j, s, p⟩, hx⟩ : ∃ x, L[0]? = some x := ⟨_, List.getElem?_eq_getElem (by omega)⟩
  obtain ⟨c0, c1, c2, c3⟩ := own_at h hn hx
  subst hn
  exact ⟨⟨⟨_, c0⟩, ⟨_, c2⟩, ⟨_, c3⟩, by omega⟩, h.frozenAt 0, h.frozenAt 2, h.frozenAt 3⟩

/-- What l91People leaves. -/
def PeoplePost (base g p : Nat) (most : Int) (w : World) (e : Ending) (w' : World) : Prop :=
  ∃ A c L q, e = .returned (.slice A L.length c) ∧ w'.ownsRow w.heap.size 31 4 (.slice A L.length c) L.length (pcells L) ∧ (L.length : Int) ≤ most ∧ Rdr base w' g q ∧ q ≤ p + 2000 ∧ w.grownBy w' (some g)

theorem people_post {base g g' p k c : Nat} {most : Int} {w w1 : World} {L : List Pers} {q : Nat} (hd : w1.ownsRow w.heap.size 31 4 (.slice (some ⟨g', 0, none⟩) k c) L.length (pcells L)) (hr : Rdr base w1 g q) (hg : w.grownBy w1 (some g)) (hL : L.length = k) (hk : 0 < k) (hm : (k : Int) ≤ most) (hq : q ≤ p + 2000) (hgw : g < w.heap.size)
    (i : Nat) (hi : i < 4) (z : Int) : PeoplePost base g p most w (.returned (.slice (some ⟨g', 0, none⟩) k c)) (w1.setCell ⟨g', i, none⟩ (.int .i64 z)) := by
  have hB := (hd.lt g' rfl).1
  obtain ⟨L', hl', ho, hgr⟩ := own_set hd hL hk i hi z
  refine ⟨some ⟨g', 0, none⟩, c, L', q, by rw [hl'], by rw [hl'] at ho ⊢; exact ho, by omega, ?_, hq, ?_⟩
  · exact hr.keep ((Below.refl _ _).setCell (by have := hr.1; show base ≤ g'; omega) _) (Below.heap_setCell w1 ⟨g', i, none⟩ _ g (by show g ≠ g'; omega))
  · exact ⟨hg.os, hg.tape, hg.output, by simpa [World.setCell] using hg.size, fun b hb hne => (Below.heap_setCell w1 ⟨g', i, none⟩ _ b (by show b ≠ g'; omega)).trans (hg.block b hb hne)⟩

set_option maxHeartbeats 1600000 in
theorem l91People_any (base g p : Nat) (most : Int) (w : World) (h : Rdr base w g p) (hp : p ≤ 900000) (h0 : 0 ≤ most) (h1 : most ≤ 100) : Calls Try.prog 43 #[.pointer (some ⟨g, 0, none⟩), .int .i64 most] w (PeoplePost base g p most w) := by
  obtain ⟨i0, hi, hz0, hz1, hz2⟩ := info_parts pInfo
  have hltg := h.lt
  go_enter Try.func43, Try.ntmps43
  go_wp2_with fail
  refine (pick_any base g p (most + 1) _ (h.below (below_new _ _)) (by omega) (by omega)).mono ?_
  rintro e w1 ⟨n, rfl, ⟨n0, _, n2⟩, hr1, hg1⟩
  have n3 := n2 (by omega)
  clear n2
  have hd1 : Drawn base g w w1 (.slice (some ⟨w.heap.size, 0, none⟩) 0 0) [] (p + 1) :=
    ⟨(World.ownsRow_lit w #[] 0 (Nat.le_refl _) (by unfold maxLen; omega) rfl).kept hg1 (.inr (by simp [Value.ownBlock]; omega)), hr1, (World.grownBy_alloc w _ _).trans hg1, by simp⟩
  clear hg1 hr1
  go_wp2_with fail
  go_loopw [5, 7] (fun v i wr => ∃ (k q : Nat) (L : List Pers) (A : Option Addr) (c : Nat), (k : Int) ≤ n ∧ i = .int .i64 k ∧ Hid (L.length = k) ∧ v = .slice A k c ∧ q ≤ p + 1 + 10 * k ∧ Drawn base g w wr v L q) (fun _ i _ => n.toNat - (intOf i).toNat)
  case atStart => exact ⟨0, p + 1, [], _, _, by omega, rfl, rfl, rfl, by omega, hd1⟩
  case round =>
    obtain ⟨k, q, L, A, c, hk, rfl, hL, rfl, hq, hd⟩ := hrel
    by_cases hkn : (k : Int) < n
    · go_wp2_with fail
      refine (l91Person_any base g q _ hd.2.1 (by omega)).mono ?_
      rintro e w2 ⟨a, j, s, y, rfl, hok, hr2, hg2⟩
      have hd2 := hd.keepG hltg hg2 hr2
      have hd2' := hd2.alloc (.cells #[.int .i64 a, .int .i64 j, .int .i64 s, .int .i64 y] 31)
      have b2 := Boxd.new w2 31 #[.int .i64 a, .int .i64 j, .int .i64 s, .int .i64 y]
      have hsz2 := hd2.2.2.1.size
      rcases Nat.eq_zero_or_pos k with hk0 | hk0
      · subst hk0
        go_wp2_with (at_builtin; refine app_one (wx := w2.alloc (.cells #[.int .i64 a, .int .i64 j, .int .i64 s, .int .i64 y] 31)) rfl (.tmp 44) (.tmp 46) rfl w.heap.size (.slice A 0 c) L a j s y (w2.heap.size + 1) (by simp) rfl rfl hd2'.1 (by rw [hL.out]; omega) (by simp; omega) ?_; intro v' w3 hown' hgrow)
        have hd3 := (hd2'.alloc _).more hltg hok hown' hgrow
        obtain ⟨g', cap, hv', _⟩ := hown'.form (by omega)
        have e1 := hL.out
        go_roundw
        case rel => exact ⟨1, q + 5, _, _, _, by omega, rfl, by unfold Hid; rw [List.length_append, e1]; rfl, by rw [hv', e1], by omega, hd3⟩
        case measure => simp [intOf]; omega
      · obtain ⟨g', cap, hv, hB', hlt'⟩ := hd.1.form (by rw [hL.out]; exact hk0)
        rw [hL.out] at hv
        injection hv with hA _ hcc
        subst hA hcc
        have hng : g' ≠ g := by omega
        have hnb : g' ≠ w2.heap.size := by have := hg2.size; omega
        go_wp2_with fail
        refine (pick_any base g (q + 5) 3 _ hd2'.2.1 (by omega) (by omega)).mono ?_
        rintro e w3 ⟨t, rfl, ⟨t0, _, _⟩, hr3, hg3⟩
        have hd3 := hd2'.keepG hltg hg3 hr3
        have b3 := b2.grown hg3 (by omega)
        have hsz3 := hg3.size
        simp at hsz3
        have hsl := hd.not_g hltg
        go_upto_if 28 with fail
        go_cut [] (fun wx => Boxed base g w (.slice (some ⟨g', 0, none⟩) k c) L w2.heap.size (q + 8) wx)
        case first =>
          cases ht : (t == 0)
          · go_wp2
            go_meet
            exact ⟨a, j, s, y, q + 6, hok, by omega, b3, hd3⟩
          · go_wp2_with fail
            refine (pick_any base g (q + 6) k _ hr3 (by omega) (by omega)).mono ?_
            rintro e w4 ⟨u, rfl, ⟨u0, _, u2⟩, hr4, hg4⟩
            have u3 := u2 (by omega)
            have hd4 := hd3.keepG hltg hg4 hr4
            have b4 := b3.grown hg4 (by omega)
            obtain ⟨⟨a', j', s', y'⟩, hx⟩ : ∃ x, L[u.toNat]? = some x := ⟨_, List.getElem?_eq_getElem (by rw [hL.out]; omega)⟩
            obtain ⟨c0, c1, c2, c3⟩ := own_at hd4.1 hL.out hx
            have hok' := hd4.2.2.2 _ (List.mem_of_getElem? hx)
            obtain ⟨_, _, _, y0, y1⟩ := okB_un hok'
            obtain ⟨⟨d0, d1, d2, d3⟩, e0, e1, e2, e3⟩ := cell_four b4
            have HX := Lib.hid hx
            clear hx u2
            have hB2 : w.heap.size ≤ w2.heap.size := hsz2
            have hvb : (Value.slice (some ⟨g', 0, none⟩) k c).ownBlock ≠ some w2.heap.size := by simp only [Value.ownBlock]; intro e; injection e with e; omega
            have hd5 := (((hd4.set hltg hB2 hvb 0 (.int .i64 a')).set hltg hB2 hvb 1 (.int .i64 j')).set hltg hB2 hvb 2 (.int .i64 s')).set hltg hB2 hvb 3 (.int .i64 y')
            have b5 : Boxd _ w2.heap.size 31 #[.int .i64 a', .int .i64 j', .int .i64 s', .int .i64 y'] := heap_put4 b4
            go_wp2
            generalize ((((w4.setCell ⟨w2.heap.size, 0, none⟩ (.int .i64 a')).setCell ⟨w2.heap.size, 1, none⟩ (.int .i64 j')).setCell ⟨w2.heap.size, 2, none⟩ (.int .i64 s')).setCell ⟨w2.heap.size, 3, none⟩ (.int .i64 y')) = w5 at hd5 b5 ⊢
            clear d0 d1 d2 d3 e0 e1 e2 e3 c0 c1 c2 c3
            obtain ⟨⟨d0, d1, d2, d3⟩, e0, e1, e2, e3⟩ := cell_four b5
            have hr5 : Rdr base w5.drew g (q + 7) := hd5.2.1
            have b5' : Boxd w5.drew w2.heap.size 31 #[.int .i64 a', .int .i64 j', .int .i64 s', .int .i64 y'] := b5
            go_region_with (go_at_call 49; refine (pick_any base g (q + 7) 3 _ hr5 (by omega) (by omega)).mono ?_; rintro e w6 ⟨x, rfl, ⟨x0, _, x2⟩, hr6, hg6⟩; have x3 := x2 (by omega); have b6 := b5'.grown hg6 (by omega); obtain ⟨⟨_, _, _, k3⟩, _, _, _, l3⟩ := cell_four b6)
            all_goals
              have ew : (IntKind.i64.wrap (y' + IntKind.i64.wrap (100 * x))).tmod 1000 = (y' + 100 * x) % 1000 := by
                rw [IntWalk.i64_in (100 * x) ⟨by omega, by omega⟩, IntWalk.i64_in (y' + 100 * x) ⟨by omega, by omega⟩, Int.tmod_eq_emod_of_nonneg (by omega)]
              rw [ew]
              clear ew
              have hd6 := (hd5.drew.keepG hltg hg6 hr6).set hltg hB2 hvb 3 (.int .i64 ((y' + 100 * x) % 1000))
              have b6' := b6.set 3 (.int .i64 ((y' + 100 * x) % 1000))
              simp at b6'
              go_wp2
              go_meet
              exact ⟨a', j', s', (y' + 100 * x) % 1000, q + 8, okB_mk (by omega) (by omega) (by omega) (by omega), by omega, b6', hd6⟩
        case rest =>
          obtain ⟨a', j', s', y', q', hok', hq', bx, hdx⟩ := hcut
          obtain ⟨⟨d0, d1, d2, d3⟩, e0, e1, e2, e3⟩ := cell_four bx
          have hszx := hdx.2.2.1.size
          go_wp2_with (at_builtin; refine app_one (wx := wc) rfl (.tmp 44) (.tmp 46) rfl w.heap.size (.slice (some ⟨g', 0, none⟩) k c) L a' j' s' y' (wc.heap.size) rfl rfl rfl hdx.1 (by rw [hL.out]; omega) hszx ?_; intro v' w7 hown' hgrow)
          have hd7 := (hdx.alloc _).more hltg hok' hown' hgrow
          obtain ⟨g1, cap, hv', _⟩ := hown'.form (by omega)
          have e1 := hL.out
          go_roundw
          case rel => exact ⟨k + 1, q', _, _, _, by omega, by go_num, by unfold Hid; rw [List.length_append, e1]; rfl, by rw [hv', e1], by omega, hd7⟩
          case measure => simp [intOf]; omega
    · obtain rfl : n = (k : Int) := by omega
      have e1 := Lib.hid hL.out
      rcases Nat.eq_zero_or_pos k with hk0 | hk0
      · subst hk0
        go_wp2
        go_ret
        refine ⟨A, c, L, q, by rw [e1.out]; rfl, ?_, by rw [e1.out]; omega, hd.2.1, by omega, hd.2.2.1⟩
        have := hd.1
        rw [e1.out] at this ⊢
        exact this
      · obtain ⟨g', cap, hv, hB', hlt'⟩ := hd.1.form (by rw [hL.out]; exact hk0)
        rw [hL.out] at hv
        injection hv with hA _ hcc
        subst hA hcc
        have hng : g' ≠ g := by omega
        go_wp2_with fail
        refine (pick_any base g q 40 _ hd.2.1 (by omega) (by omega)).mono ?_
        rintro e w2 ⟨t, rfl, ⟨t0, _, _⟩, hr2, hg2⟩
        have hd2 := hd.keepG hltg hg2 hr2
        cases c0 : (t == 0)
        · cases c1 : (t == 1)
          · cases c2 : (t == 2)
            · go_wp2
              go_ret
              refine ⟨some ⟨g', 0, none⟩, c, L, q + 1, by rw [e1.out]; rfl, ?_, by rw [e1.out]; omega, hr2, by omega, hd2.2.2.1⟩
              have := hd2.1
              rw [e1.out] at this ⊢
              exact this
            · obtain ⟨⟨⟨m0, d0⟩, ⟨m2, d2⟩, ⟨m3, d3⟩, dk⟩, f0, f2, f3⟩ := own_first hd2.1 hL.out hk0
              go_wp2
              go_ret
              exact people_post hd2.1 hr2 hd2.2.2.1 e1.out (by assumption) (by omega) (by omega) hltg 2 (by omega) 2
          · obtain ⟨⟨⟨m0, d0⟩, ⟨m2, d2⟩, ⟨m3, d3⟩, dk⟩, f0, f2, f3⟩ := own_first hd2.1 hL.out hk0
            go_wp2
            go_ret
            exact people_post hd2.1 hr2 hd2.2.2.1 e1.out (by assumption) (by omega) (by omega) hltg 3 (by omega) 1000
        · have hnb : w2.heap.size ≠ g := by have := hr2.lt; omega
          have hsz2 := hg2.size
          go_wp2_with fail
          refine (pick_any base g (q + 1) 2 _ (hr2.below (below_new _ _)) (by omega) (by omega)).mono ?_
          rintro e w3 ⟨u, rfl, ⟨u0, _, u2⟩, hr3, hg3⟩
          have u3 := u2 (by omega)
          have hd3 := (hd2.alloc _).keepG hltg hg3 hr3
          obtain ⟨x, hx, hx'⟩ := two_of u0 u3 (.int .i64 (-1)) (.int .i64 4)
          have hc := (later_cell (i := u.toNat) hg3 (heap_alloc_new _ _) hnb).trans hx
          obtain ⟨z, rfl⟩ : ∃ z : Int, x = .int .i64 z := by rcases hx' with rfl | rfl <;> exact ⟨_, rfl⟩
          obtain ⟨⟨⟨m0, d0⟩, ⟨m2, d2⟩, ⟨m3, d3⟩, dk⟩, f0, f2, f3⟩ := own_first hd3.1 hL.out hk0
          clear hx hx'
          go_wp2
          go_ret
          exact people_post hd3.1 hr3 hd3.2.2.1 e1.out (by assumption) (by omega) (by omega) hltg 0 (by omega) z

end Go.Proofs.Ytepnfljhoapdmaa
