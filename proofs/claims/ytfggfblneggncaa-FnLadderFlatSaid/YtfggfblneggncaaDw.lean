/- Contract of DrawLadderValid: some ladder of at most seven rows. -/
import Derived.Test.YtfggfblneggncaaDl
namespace Go.Proofs.Ytfggfblneggncaa
open Go.RowKit
set_option linter.unusedVariables false

/-- What DrawLadderValid leaves. -/
def LvPost (w : World) (e : Ending) (w' : World) : Prop :=
  ∃ A n c R, e = .returned (.slice A n c) ∧ R.length = n ∧ n ≤ 7 ∧ (∀ r ∈ R, r.s.length ≤ 4) ∧ Lad w' A c R ∧ Below w.heap.size w w'

/-- Rows behind a drawn ladder. -/
theorem lv_more {w w6 w8 : World} {B n m c : Nat} {A : Option Addr} {R S : List Rw} {v : Value} (hR : R.length = n) (hS : S.length = m) (h7 : n + m ≤ 7) (hr : ∀ r ∈ R, r.s.length ≤ 4) (hr' : ∀ r ∈ S, r.s.length ≤ 4) (h : LadO w6 B (.slice A n c) n R) (hT : ∀ r ∈ S, IntsT w6 r.A r.s)
    (ho : w8.ownsRow B 29 1 v (n + m) (vals R ++ vals S)) (hg : w6.grownBy w8 (Value.slice A n c).ownBlock) (hb : Below w.heap.size w w6) (hB : w.heap.size ≤ B) : LvPost w (.returned v) w8 := by
  obtain ⟨A', c', e⟩ := own_form ho
  subst e
  have hL := h.more hT ho hg
  have hz := hb.size
  refine ⟨A', n + m, c', R ++ S, rfl, by simp [hR, hS], h7, fun r hr1 => ?_, hL.lad (by simp [hR, hS]), hb.grown hg (by omega) (fun k hk => by have := (h.1.lt k hk).1; omega)⟩
  rw [List.mem_append] at hr1
  rcases hr1 with hr1 | hr1
  · exact hr r hr1
  · exact hr' r hr1

/-- Literal rows in memory. -/
theorem intsT_blk {w : World} {b : Nat} {s : List Int} (h : w.heap[b]? = some (.cells (ints s).toArray 3 (0, 0))) : IntsT w (some ⟨b, 0, none⟩) s := fun _ =>
  ⟨b, 0, _, _, rfl, h, fun j x hj => by rw [Nat.zero_add]; simpa using ints_get hj⟩

def rowO (s : List Int) : Obj := .cells (ints s).toArray 3
theorem seen_lit (w : World) (cs : Array Value) (t : TypeId) : Seen (w.alloc (.cells cs t)) (some ⟨w.heap.size, 0, none⟩) cs.toList := fun _ =>
  ⟨w.heap.size, 0, rfl, by simp, fun j u hu => by
    rw [Nat.zero_add, World.cell?_alloc_at _ _ _ _ rfl]
    simpa using hu⟩
theorem size_alloc (w : World) (o : Obj) : (w.alloc o).heap.size = w.heap.size + 1 := by simp

/-- Three rows of zeros behind w, and a slice of them. -/
def zerosW (w : World) : World := (((w.alloc (rowO [0, 0, 0, 0])).alloc (rowO [0, 0, 0, 0])).alloc (rowO [0, 0, 0, 0])).alloc (.cells #[.slice (some ⟨w.heap.size, 0, none⟩) 4 4, .slice (some ⟨w.heap.size + 1, 0, none⟩) 4 4, .slice (some ⟨w.heap.size + 1 + 1, 0, none⟩) 4 4] 29)
def zerosR (w : World) : List Rw := [⟨some ⟨w.heap.size, 0, none⟩, 4, [0, 0, 0, 0]⟩, ⟨some ⟨w.heap.size + 1, 0, none⟩, 4, [0, 0, 0, 0]⟩, ⟨some ⟨w.heap.size + 1 + 1, 0, none⟩, 4, [0, 0, 0, 0]⟩]
theorem zeros_seen (w : World) : Seen (zerosW w) (some ⟨w.heap.size + 1 + 1 + 1, 0, none⟩) (vals (zerosR w)) := by
  have := seen_lit (((w.alloc (rowO [0, 0, 0, 0])).alloc (rowO [0, 0, 0, 0])).alloc (rowO [0, 0, 0, 0])) #[.slice (some ⟨w.heap.size, 0, none⟩) 4 4, .slice (some ⟨w.heap.size + 1, 0, none⟩) 4 4, .slice (some ⟨w.heap.size + 1 + 1, 0, none⟩) 4 4] 29
  rw [size_alloc, size_alloc, size_alloc] at this
  exact this
theorem zeros_below (w : World) : Below w.heap.size w (zerosW w) := below2 (below2 (below2 (below_new _ _) (below_new _ _)) (below_new _ _)) (below_new _ _)
theorem zeros_rows (w : World) : ∀ r ∈ zerosR w, IntsT (zerosW w) r.A r.s ∧ r.s.length ≤ 4 := by
  have h0 := (((intsT_new w [0, 0, 0, 0]).below (below_new _ (rowO [0, 0, 0, 0]))).below (below_new _ (rowO [0, 0, 0, 0]))).below (below_new _ (.cells #[.slice (some ⟨w.heap.size, 0, none⟩) 4 4, .slice (some ⟨w.heap.size + 1, 0, none⟩) 4 4, .slice (some ⟨w.heap.size + 1 + 1, 0, none⟩) 4 4] 29))
  have h1 := ((intsT_new (w.alloc (rowO [0, 0, 0, 0])) [0, 0, 0, 0]).below (below_new _ (rowO [0, 0, 0, 0]))).below (below_new _ (.cells #[.slice (some ⟨w.heap.size, 0, none⟩) 4 4, .slice (some ⟨w.heap.size + 1, 0, none⟩) 4 4, .slice (some ⟨w.heap.size + 1 + 1, 0, none⟩) 4 4] 29))
  have h2 := (intsT_new ((w.alloc (rowO [0, 0, 0, 0])).alloc (rowO [0, 0, 0, 0])) [0, 0, 0, 0]).below (below_new _ (.cells #[.slice (some ⟨w.heap.size, 0, none⟩) 4 4, .slice (some ⟨w.heap.size + 1, 0, none⟩) 4 4, .slice (some ⟨w.heap.size + 1 + 1, 0, none⟩) 4 4] 29))
  rw [size_alloc] at h1
  rw [size_alloc, size_alloc] at h2
  intro r hr
  simp only [zerosR, List.mem_cons, List.not_mem_nil, or_false] at hr
  rcases hr with rfl | rfl | rfl
  · exact ⟨h0, Nat.le_refl 4⟩
  · exact ⟨h1, Nat.le_refl 4⟩
  · exact ⟨h2, Nat.le_refl 4⟩

/-- Four rows behind w, and a slice of them. -/
def fourO (w : World) : Obj := .cells #[.slice (some ⟨w.heap.size, 0, none⟩) 4 4, .slice (some ⟨w.heap.size + 1, 0, none⟩) 4 4, .slice (some ⟨w.heap.size + 1 + 1, 0, none⟩) 4 4, .slice (some ⟨w.heap.size + 1 + 1 + 1, 0, none⟩) 4 4] 29
def fourW0 (w : World) : World := (((w.alloc (rowO [0, 0, 0, 0])).alloc (rowO [0, 1, 1, 3])).alloc (rowO [1, 1, 2, 3])).alloc (rowO [0, 0, 2, 4])
def fourW (w : World) : World := (fourW0 w).alloc (fourO w)
theorem four_size (w : World) : (fourW0 w).heap.size = w.heap.size + 1 + 1 + 1 + 1 := by unfold fourW0; rw [size_alloc, size_alloc, size_alloc, size_alloc]
theorem four_below (w : World) : Below w.heap.size w (fourW w) := below2 (below2 (below2 (below2 (below_new _ _) (below_new _ _)) (below_new _ _)) (below_new _ _)) (below_new _ _)
theorem four_at (w : World) {u : Int} (h0 : 0 ≤ u) (h4 : u < 4) : ∃ s b, s.length = 4 ∧ #[Value.slice (some ⟨w.heap.size, 0, none⟩) 4 4, .slice (some ⟨w.heap.size + 1, 0, none⟩) 4 4, .slice (some ⟨w.heap.size + 1 + 1, 0, none⟩) 4 4, .slice (some ⟨w.heap.size + 1 + 1 + 1, 0, none⟩) 4 4][u.toNat]? = some (.slice (some ⟨b, 0, none⟩) 4 4) ∧ IntsT (fourW w) (some ⟨b, 0, none⟩) s := by
  have h0' := ((((intsT_new w [0, 0, 0, 0]).below (below_new _ (rowO [0, 1, 1, 3]))).below (below_new _ (rowO [1, 1, 2, 3]))).below (below_new _ (rowO [0, 0, 2, 4]))).below (below_new _ (fourO w))
  have h1 := (((intsT_new (w.alloc (rowO [0, 0, 0, 0])) [0, 1, 1, 3]).below (below_new _ (rowO [1, 1, 2, 3]))).below (below_new _ (rowO [0, 0, 2, 4]))).below (below_new _ (fourO w))
  have h2 := ((intsT_new ((w.alloc (rowO [0, 0, 0, 0])).alloc (rowO [0, 1, 1, 3])) [1, 1, 2, 3]).below (below_new _ (rowO [0, 0, 2, 4]))).below (below_new _ (fourO w))
  have h3 := (intsT_new (((w.alloc (rowO [0, 0, 0, 0])).alloc (rowO [0, 1, 1, 3])).alloc (rowO [1, 1, 2, 3])) [0, 0, 2, 4]).below (below_new _ (fourO w))
  rw [size_alloc] at h1
  rw [size_alloc, size_alloc] at h2
  rw [size_alloc, size_alloc, size_alloc] at h3
  rcases (show u = 0 ∨ u = 1 ∨ u = 2 ∨ u = 3 by omega) with rfl | rfl | rfl | rfl
  · exact ⟨_, _, rfl, rfl, h0'⟩
  · exact ⟨_, _, rfl, rfl, h1⟩
  · exact ⟨_, _, rfl, rfl, h2⟩
  · exact ⟨_, _, rfl, rfl, h3⟩

set_option maxRecDepth 100000 in
set_option maxHeartbeats 3200000 in
theorem drawLadderValid_any (A : Option Addr) (n c : Nat) (w : World) (hin : BytesIn w A n c) : Calls Try.prog 19 #[.slice A n c] w (LvPost w) := by
  go_enter Try.func19, Try.ntmps19
  go_wp2_with fail
  refine (l6Open_any A n c w hin).mono ?_
  rintro e w1 ⟨g, rfl, hr1, hb1⟩
  have hlt1 := hr1.lt
  have hBg := hr1.1
  have hz1 := hb1.size
  go_wp2_with fail
  refine (l91Ladder_any _ g 0 _ hr1 (by omega)).mono ?_
  rintro e w2 ⟨A2, n2, c2, R, q, rfl, hR, hn4, hrow, hL2, hr2, hq, hg2⟩
  have hb2 := below_grown hb1 hg2 (Nat.le_refl _) hBg
  have hvg : (Value.slice A2 n2 c2).ownBlock = none ∨ (Value.slice A2 n2 c2).ownBlock ≠ some g := by
    cases e : (Value.slice A2 n2 c2).ownBlock with
    | none => exact .inl rfl
    | some b => have := (hL2.1.lt b e).1; exact .inr (fun e' => by injection e' with e'; omega)
  have HVG := Lib.hid hvg
  have HR := Lib.hid hR
  have HW := Lib.hid hrow
  clear hvg hR hrow
  go_wp2_with fail
  refine (pick_any _ g q 8 _ hr2 (by omega) (by omega)).mono ?_
  rintro e w3 ⟨t, rfl, ⟨t0, _, _⟩, hr3, hg3⟩
  have hL3 := hL2.kept hg3 HVG.out (rdr_type hr2)
  have hb3 := below_grown hb2 hg3 (Nat.le_refl _) hBg
  have hz3 : w1.heap.size ≤ w3.heap.size := Nat.le_trans hg2.size hg3.size
  have hlt3 := hr3.lt
  clear hL2 hb1 hb2 hg2 hg3 hr2
  cases c0 : (t == 0)
  · cases c1 : (t == 1)
    · go_wp2
      go_ret
      exact ⟨A2, n2, c2, R, rfl, HR.out, by omega, HW.out, hL3.lad HR.out, hb3⟩
    · have hLz := hL3.below (zeros_below w3)
      have hbz := hb3.trans ((zeros_below w3).mono hb3.size)
      have hzz := (zeros_below w3).size
      go_wp2_with (at_builtin; refine app_row (w := zerosW w3) rfl Try.underlying22 siInfo rfl (by decide) (.tmp 27) (.tmp 31) rfl w1.heap.size (.slice A2 n2 c2) (vals R) (vals (zerosR w3)) (some ⟨w3.heap.size + 1 + 1 + 1, 0, none⟩) n2 3 3 rfl rfl hLz.1 rfl (zeros_seen w3) (fun e => by cases e) (vals_one _) (by omega) (by omega) (by omega) ?_; intro v' w8 ho hg hat)
      go_ret
      exact lv_more (m := 3) HR.out rfl (by omega) HW.out (fun r hr => (zeros_rows w3 r hr).2) hLz (fun r hr => (zeros_rows w3 r hr).1) ho hg hbz hz1
  · have hL4 := hL3.below (four_below w3)
    have hb4 := hb3.trans ((four_below w3).mono hb3.size)
    have hr4 := hr3.below (four_below w3)
    have h4z := four_size w3
    have hnb : (fourW0 w3).heap.size ≠ g := by omega
    have hz4 := (four_below w3).size
    have H4Z := Lib.hid h4z
    clear h4z
    go_wp2_with fail
    refine (pick_any _ g (q + 1) 4 (fourW w3) hr4 (by omega) (by omega)).mono ?_
    rintro e w6 ⟨u, rfl, ⟨u0, _, u2⟩, hr6, hg6⟩
    have u3 := u2 (by omega)
    have hL6 := hL4.kept hg6 HVG.out (rdr_type hr4)
    have hb6 := below_grown hb4 hg6 (Nat.le_refl _) hBg
    obtain ⟨s, b, hs4, hsb, hT⟩ := four_at w3 u0 u3
    have hT6 := hT.grown hg6 (rdr_type hr4)
    have hc := (later_cell (i := u.toNat) hg6 (heap_alloc_new (fourW0 w3) (fourO w3)) hnb).trans hsb
    rw [H4Z.out] at hc
    have hz6 := hg6.size
    have HS4 := Lib.hid hs4
    clear hs4 hsb hT u2 hL4 hb4 hr4
    have hL7 := hL6.below (below_new w6 (.cells #[.slice (some ⟨b, 0, none⟩) 4 4] 29))
    have hT7 := hT6.below (below_new w6 (.cells #[.slice (some ⟨b, 0, none⟩) 4 4] 29))
    have hb7 := hb6.trans ((below_new w6 (.cells #[.slice (some ⟨b, 0, none⟩) 4 4] 29)).mono hb6.size)
    go_wp2_with (at_builtin; refine app_row (w := w6.alloc (.cells #[.slice (some ⟨b, 0, none⟩) 4 4] 29)) rfl Try.underlying22 siInfo rfl (by decide) (.tmp 13) (.tmp 23) rfl w1.heap.size (.slice A2 n2 c2) (vals R) [.slice (some ⟨b, 0, none⟩) 4 4] (some ⟨w6.heap.size, 0, none⟩) n2 1 1 rfl rfl hL7.1 rfl (seen_new w6 _ _) (fun e => by cases e) (by intro u hu; simp at hu; subst hu; rfl) (by omega) (by omega) (by simp; omega) ?_; intro v' w8 ho hg hat)
    go_ret
    refine lv_more (m := 1) (S := [⟨some ⟨b, 0, none⟩, 4, s⟩]) HR.out rfl (by omega) HW.out (fun r hr => ?_) hL7 (fun r hr => ?_) (by simp only [vals, List.map_cons, List.map_nil, Rw.val, HS4.out]; exact ho) hg hb7 hz1
    · simp at hr; subst hr; show s.length ≤ 4; rw [HS4.out]; exact Nat.le_refl 4
    · simp at hr; subst hr; exact hT7

end Go.Proofs.Ytfggfblneggncaa
