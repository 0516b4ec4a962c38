/- Contract of l91Ladder: some ladder of at most four rows in new memory. -/
import Derived.Test.YtepnfljhoapdmaaMs
import Derived.Test.YtepnfljhoapdmaaDh
namespace Go.Proofs.Ytepnfljhoapdmaa
open Go.RowKit
set_option linter.unusedVariables false

section
variable {base g p : Nat} {w w' w1 w2 : World} {row : Option Nat}
theorem rdr_grown (h : Rdr base w g p) (hg : w.grownBy w' row) (hrow : ∀ k, row = some k → g < k) : Rdr base w' g p := by
  have hlt := h.lt
  have hb := h.1
  exact h.keep ((Below.refl _ _).grown hg (by omega) (fun k hk => by have := hrow k hk; omega)) (hg.block g hlt (fun e => by have := hrow g e.symm; omega))
theorem grown_own (h : w.grownBy w1 (some g)) (hg : w1.grownBy w2 row) (hrow : ∀ k, row = some k → w.heap.size ≤ k) : w.grownBy w2 (some g) :=
  ⟨hg.os.trans h.os, hg.tape.trans h.tape, hg.output.trans h.output, Nat.le_trans h.size hg.size, fun k hk hne => (hg.block k (Nat.lt_of_lt_of_le hk h.size) (fun e => by have := hrow k e.symm; omega)).trans (h.block k hk hne)⟩
theorem grown_below (h : w.grownBy w1 (some g)) (hb : Below w1.heap.size w1 w2) : w.grownBy w2 (some g) := grown_own h (grown_of_below hb none) (fun k hk => by cases hk)
theorem rd_ne : 73 ≠ 3 := by decide
theorem rdr_type (h : Rdr base w g p) : ∀ k, some g = some k → ∃ cs t fr, w.heap[k]? = some (.cells cs t fr) ∧ t ≠ 3 := by
  intro k e
  injection e with e
  subst e
  obtain ⟨_, A, n, c, z, h, _⟩ := h
  exact ⟨_, _, _, h, rd_ne⟩
end

theorem LadW.o {w : World} {B : Nat} {A : Option Addr} {c n : Nat} {R : List Rw} (h : LadW w B A c R) (hn : R.length = n) {B' : Nat} (hB : B' ≤ B) : LadO w B' (.slice A n c) n R := by
  subst hn
  exact ⟨own_mono h.1 hB, h.2.typed⟩

/-- What l91Ladder leaves. -/
def LdrPost (base g p : Nat) (w : World) (e : Ending) (w' : World) : Prop :=
  ∃ A n c R q, e = .returned (.slice A n c) ∧ R.length = n ∧ n ≤ 4 ∧ (∀ r ∈ R, r.s.length ≤ 4) ∧ LadO w' w.heap.size (.slice A n c) n R ∧ Rdr base w' g q ∧ q ≤ p + 20 ∧ w.grownBy w' (some g)

/-- At the head of each round. -/
def LdrRel (base g p : Nat) (n : Int) (w : World) (v i : Value) (wr : World) : Prop :=
  ∃ (k q m : Nat) (R : List Rw) (A : Option Addr) (c : Nat), (k : Int) ≤ n ∧ i = .int .i64 k ∧ v = .slice A m c ∧ Hid (R.length = m) ∧ m ≤ k ∧ Hid (∀ r ∈ R, r.s.length ≤ 4) ∧ q ≤ p + 1 + 2 * k ∧ LadO wr w.heap.size v m R ∧ Rdr base wr g q ∧ w.grownBy wr (some g)

theorem mer_four {R S : List Rw} {a b : Int} (h : merOk (ss R) a b = true) (e : ss S = merR (ss R) a b) : ∀ r ∈ S, r.s.length ≤ 4 := by
  intro r hr
  have hm : r.s ∈ ss S := List.mem_map_of_mem hr
  rw [e, merR_yes h, List.mem_append] at hm
  rcases hm with hm | hm
  · obtain ⟨k, hk, hk'⟩ := List.getElem_of_mem hm
    have := (stepB_iff.1 (okRow_iff.1 ((ladB_iff.1 (merOk_iff.1 h).1).2 k hk)).1).1
    rw [rowOf_get (List.getElem?_eq_getElem hk), hk'] at this
    omega
  · simp at hm
    rw [hm]
    show 4 ≤ 4
    omega
theorem mer_count {R S : List Rw} {a b : Int} {m n : Nat} (h : merOk (ss R) a b = true) (e : ss S = merR (ss R) a b) (hm : R.length = m) (hn : S.length = n) : n = m + 1 := by
  have := congrArg List.length e
  rw [merR_yes h, ss_length, mer_len, ss_length] at this
  omega

/-- One literal row more. -/
theorem ldr_lit {w5 w8 : World} {B n c q : Nat} {A : Option Addr} {R : List Rw} {v : Value} (s : List Int) (hq : s.length = q) (h : LadO w5 B (.slice A n c) n R)
    (ho : w8.ownsRow B 57 1 v (n + 1) (vals R ++ [.slice (some ⟨w5.heap.size, 0, none⟩) q q]))
    (hg : ((w5.alloc (.cells (ints s).toArray 3)).alloc (.cells #[.slice (some ⟨w5.heap.size, 0, none⟩) q q] 57)).grownBy w8 (Value.slice A n c).ownBlock) :
    LadO w8 B v (n + 1) (R ++ [⟨some ⟨w5.heap.size, 0, none⟩, q, s⟩]) := by
  refine LadO.more ((h.below (below_new _ _)).below (below_new _ _)) (fun r hr => ?_) (by simp only [vals, List.map_cons, List.map_nil, Rw.val, hq]; exact ho) hg
  simp at hr
  subst hr
  exact (intsT_new w5 s).below (below_new _ _)

theorem ldr_post_lit {base g p q k n c : Nat} {w w5 w8 : World} {A : Option Addr} {R : List Rw} {v : Value} (s : List Int) (hk : s.length = k) (h4 : k ≤ 4) (hgw : g < w.heap.size) (hR : R.length = n) (hn : n ≤ 3) (hr : ∀ r ∈ R, r.s.length ≤ 4) (h : LadO w5 w.heap.size (.slice A n c) n R)
    (hrd : Rdr base w5 g q) (hq : q ≤ p + 20) (hgr : w.grownBy w5 (some g))
    (ho : w8.ownsRow w.heap.size 57 1 v (n + 1) (vals R ++ [.slice (some ⟨w5.heap.size, 0, none⟩) k k]))
    (hg : ((w5.alloc (.cells (ints s).toArray 3)).alloc (.cells #[.slice (some ⟨w5.heap.size, 0, none⟩) k k] 57)).grownBy w8 (Value.slice A n c).ownBlock) :
    LdrPost base g p w (.returned v) w8 := by
  obtain ⟨A', c', e⟩ := own_form ho
  have hL := ldr_lit s hk h ho hg
  have hb7 := below2 (below_new w5 (.cells (ints s).toArray 3)) (below_new (w5.alloc (.cells (ints s).toArray 3)) (.cells #[.slice (some ⟨w5.heap.size, 0, none⟩) k k] 57))
  subst e
  refine ⟨A', n + 1, c', _, q, rfl, by simp [hR], by omega, fun r hr' => ?_, hL, rdr_grown (hrd.below hb7) hg (fun i hi => by have := (h.1.lt i hi).1; omega), hq, grown_own (grown_below hgr hb7) hg (fun i hi => (h.1.lt i hi).1)⟩
  rw [List.mem_append] at hr'
  rcases hr' with hr' | hr'
  · exact hr r hr'
  · simp at hr'; subst hr'; show s.length ≤ 4; omega

set_option maxRecDepth 100000 in
set_option maxHeartbeats 3200000 in
theorem l91Ladder_any (base g p : Nat) (w : World) (h : Rdr base w g p) (hp : p ≤ 900000) : Calls Try.prog 44 #[.pointer (some ⟨g, 0, none⟩)] w (LdrPost base g p w) := by
  have hltg := h.lt
  go_enter Try.func44, Try.ntmps44
  go_wp2_with fail
  refine (pick_any base g p 4 _ (h.below (below_new _ _)) (by omega) (by omega)).mono ?_
  rintro e w1 ⟨n, rfl, ⟨n0, _, n2⟩, hr1, hg1⟩
  have n3 := n2 (by omega)
  clear n2
  have hL1 : LadO w1 w.heap.size (.slice (some ⟨w.heap.size, 0, none⟩) 0 0) 0 [] := (ladO_empty w).kept hg1 (.inr (by simp only [Value.ownBlock]; intro e; injection e with e; omega)) (rdr_type (h.below (below_new _ _)))
  have hG1 : w.grownBy w1 (some g) := (World.grownBy_alloc w _ _).trans hg1
  clear hg1
  go_wp2_with fail
  go_loopw [3, 5] (fun v i wr => LdrRel base g p n w v i wr) (fun _ i _ => n.toNat - (intOf i).toNat)
  case atStart => exact ⟨0, p + 1, 0, [], _, _, by omega, rfl, rfl, rfl, by omega, by unfold Hid; simp, by omega, hL1, hr1, hG1⟩
  case round =>
    obtain ⟨k, q, m, R, A, c, hk, rfl, rfl, hR, hmk, hrow, hq, hL, hr, hG⟩ := hrel
    have hvg : (Value.slice A m c).ownBlock = none ∨ (Value.slice A m c).ownBlock ≠ some g := by
      cases e : (Value.slice A m c).ownBlock with
      | none => exact .inl rfl
      | some b => have := (hL.1.lt b e).1; exact .inr (fun e' => by injection e' with e'; omega)
    have HVG := Lib.hid hvg
    clear hvg hL1 hG1 hr1
    by_cases hkn : (k : Int) < n
    · go_wp2_with fail
      refine (pick_any base g q 4 _ hr (by omega) (by omega)).mono ?_
      rintro e w2 ⟨a, rfl, ⟨a0, _, a2⟩, hr2, hg2⟩
      have a3 := a2 (by omega)
      have hL2 := hL.kept hg2 HVG.out (rdr_type hr)
      have hG2 := hG.trans hg2
      go_wp2_with fail
      refine (pick_any base g (q + 1) 4 _ hr2 (by omega) (by omega)).mono ?_
      rintro e w3 ⟨b, rfl, ⟨b0, _, b2⟩, hr3, hg3⟩
      have b3 := b2 (by omega)
      have hL3 := hL2.kept hg3 HVG.out (rdr_type hr2)
      have hG3 := hG2.trans hg3
      clear a2 b2 hL2 hG2 hg2 hg3 hr2
      go_wp2_with fail
      refine (sLadderMerge_any A m c R a b w3 (hL3.lad hR.out).s hR.out (by omega) (fun r hr => by have := hrow.out r hr; omega)).mono ?_
      rintro e w4 ⟨A4, n4, c4, S, rfl, hS, hSs, hW, hb4⟩
      have hr4 := hr3.below hb4
      have hG4 := grown_below hG3 hb4
      cases hok : merOk (ss R) a b
      · have RR : LdrRel base g p n w (.slice A m c) (.int .i64 ((k : Int) + 1)) w4 := ⟨k + 1, q + 2, m, R, A, c, by omega, by go_num, rfl, hR, by omega, hrow, by omega, hL3.below hb4, hr4, hG4⟩
        go_wp2
        go_roundw
        case rel => first | exact RR | ((repeat apply Exists.intro); first | exact ⟨RR, rfl⟩ | exact ⟨RR, rfl, rfl⟩ | exact ⟨RR, rfl, rfl, rfl⟩)
        case measure => simp [intOf]; omega
      · have hc4 := mer_count hok hSs hR.out hS
        have hz3 := hG3.size
        have RR : LdrRel base g p n w (.slice A4 n4 c4) (.int .i64 ((k : Int) + 1)) w4 := ⟨k + 1, q + 2, n4, S, A4, c4, by omega, by go_num, rfl, hS, by omega, mer_four hok hSs, by omega, hW.o hS hz3, hr4, hG4⟩
        clear hc4 hS hSs
        go_wp2
        go_roundw
        case rel => first | exact RR | ((repeat apply Exists.intro); first | exact ⟨RR, rfl⟩ | exact ⟨RR, rfl, rfl⟩ | exact ⟨RR, rfl, rfl, rfl⟩)
        case measure => simp [intOf]; omega
    · go_wp2_with fail
      refine (pick_any base g q 40 _ hr (by omega) (by omega)).mono ?_
      rintro e w5 ⟨t, rfl, ⟨t0, _, _⟩, hr5, hg5⟩
      have hL5 := hL.kept hg5 HVG.out (rdr_type hr)
      have hG5 := hG.trans hg5
      have hz5 := hG5.size
      have hm3 : m ≤ 3 := by omega
      cases c0 : (t == 0)
      · cases c1 : (t == 1)
        · cases c2 : (t == 2)
          · go_wp2
            go_ret
            exact ⟨A, m, c, R, q + 1, rfl, hR.out, by omega, hrow.out, hL5, hr5, by omega, hG5⟩
          · go_wp2_with (at_builtin; refine app_row (w := (w5.alloc (.cells #[.int .i64 0, .int .i64 1, .int .i64 2, .int .i64 3] 3)).alloc (.cells #[.slice (some ⟨w5.heap.size, 0, none⟩) 4 4] 57)) rfl Try.underlying24 siInfo rfl (by decide) (.tmp 43) (.tmp 45) rfl w.heap.size (.slice A m c) (vals R) [.slice (some ⟨w5.heap.size, 0, none⟩) 4 4] (some ⟨w5.heap.size + 1, 0, none⟩) m 1 1 rfl rfl ((hL5.1.alloc _).alloc _) rfl (by have := seen_new (w5.alloc (.cells #[.int .i64 0, .int .i64 1, .int .i64 2, .int .i64 3] 3)) (.slice (some ⟨w5.heap.size, 0, none⟩) 4 4) 57; simpa using this) (fun e => by cases e) (by intro u hu; simp at hu; subst hu; rfl) (by omega) (by omega) (by simp; omega) ?_; intro v' w8 ho hg hat)
            go_ret
            exact ldr_post_lit (k := 4) [0, 1, 2, 3] rfl (by omega) hltg hR.out hm3 hrow.out hL5 hr5 (by omega) hG5 ho hg
        · go_wp2_with (at_builtin; refine app_row (w := (w5.alloc (.cells #[.int .i64 0, .int .i64 1, .int .i64 2] 3)).alloc (.cells #[.slice (some ⟨w5.heap.size, 0, none⟩) 3 3] 57)) rfl Try.underlying24 siInfo rfl (by decide) (.tmp 37) (.tmp 39) rfl w.heap.size (.slice A m c) (vals R) [.slice (some ⟨w5.heap.size, 0, none⟩) 3 3] (some ⟨w5.heap.size + 1, 0, none⟩) m 1 1 rfl rfl ((hL5.1.alloc _).alloc _) rfl (by have := seen_new (w5.alloc (.cells #[.int .i64 0, .int .i64 1, .int .i64 2] 3)) (.slice (some ⟨w5.heap.size, 0, none⟩) 3 3) 57; simpa using this) (fun e => by cases e) (by intro u hu; simp at hu; subst hu; rfl) (by omega) (by omega) (by simp; omega) ?_; intro v' w8 ho hg hat)
          go_ret
          exact ldr_post_lit (k := 3) [0, 1, 2] rfl (by omega) hltg hR.out hm3 hrow.out hL5 hr5 (by omega) hG5 ho hg
      · go_wp2_with (at_builtin; refine app_row (w := (w5.alloc (.cells #[.int .i64 0, .int .i64 0, .int .i64 1, .int .i64 3] 3)).alloc (.cells #[.slice (some ⟨w5.heap.size, 0, none⟩) 4 4] 57)) rfl Try.underlying24 siInfo rfl (by decide) (.tmp 31) (.tmp 33) rfl w.heap.size (.slice A m c) (vals R) [.slice (some ⟨w5.heap.size, 0, none⟩) 4 4] (some ⟨w5.heap.size + 1, 0, none⟩) m 1 1 rfl rfl ((hL5.1.alloc _).alloc _) rfl (by have := seen_new (w5.alloc (.cells #[.int .i64 0, .int .i64 0, .int .i64 1, .int .i64 3] 3)) (.slice (some ⟨w5.heap.size, 0, none⟩) 4 4) 57; simpa using this) (fun e => by cases e) (by intro u hu; simp at hu; subst hu; rfl) (by omega) (by omega) (by simp; omega) ?_; intro v' w8 ho hg hat)
        go_ret
        exact ldr_post_lit (k := 4) [0, 0, 1, 3] rfl (by omega) hltg hR.out hm3 hrow.out hL5 hr5 (by omega) hG5 ho hg

end Go.Proofs.Ytepnfljhoapdmaa
