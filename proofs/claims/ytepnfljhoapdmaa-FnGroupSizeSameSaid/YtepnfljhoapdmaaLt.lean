/- Contracts of toIntS, toIntSS: copies of rows in new memory. -/
import Derived.Test.YtepnfljhoapdmaaLr
namespace Go.Proofs.Ytepnfljhoapdmaa
open Go.RowKit
set_option linter.unusedVariables false

/-- make([]int, n); make([][]int, n). -/
theorem make_ints (n : Nat) (h : n ≤ 1099511627776) (w : World) : (Instr.makeSlice 57 (.int .i64 (n : Int)) (.int .i64 (n : Int))).run Try.prog w =
    .ok (.slice (some ⟨w.heap.size, 0, none⟩) n n) (w.alloc (.cells (madeCells #[.int .i64 0] (n * 1)) 3)) := by
  obtain ⟨i0, hi, hz0, hz1, hz2⟩ := info_parts iInfo
  have hr := run_make (P := Try.prog) w 57 3 i0 _ Try.underlying57 hi hz0 .i64 .i64 n n (by omega) (by omega) (by rw [hz2]; omega) (by omega)
  simp only [Int.toNat_natCast, hz1] at hr
  exact hr
theorem make_rows (n : Nat) (h : n ≤ 1099511627776) (w : World) : (Instr.makeSlice 24 (.int .i64 (n : Int)) (.int .i64 (n : Int))).run Try.prog w =
    .ok (.slice (some ⟨w.heap.size, 0, none⟩) n n) (w.alloc (.cells (madeCells #[.slice none 0 0] (n * 1)) 57)) := by
  obtain ⟨i0, hi, hz0, hz1, hz2⟩ := info_parts siInfo
  have hr := run_make (P := Try.prog) w 24 57 i0 _ Try.underlying24 hi hz0 .i64 .i64 n n (by omega) (by omega) (by rw [hz2]; omega) (by omega)
  simp only [Int.toNat_natCast, hz1] at hr
  exact hr

/-- Block g holds n numbers, of which the first k are those of s. -/
def FillI (w : World) (g n : Nat) (s : List Int) (k : Nat) : Prop :=
  ∃ cs : Array Value, w.heap[g]? = some (.cells cs 3 (0, 0)) ∧ cs.size = n ∧ ∀ (j : Nat) (x : Int), s[j]? = some x → j < k → cs[j]? = some (.int .i64 x)
section
variable {w w' : World} {g n k : Nat} {s : List Int}
theorem FillI.lt (h : FillI w g n s k) : g < w.heap.size := by
  obtain ⟨cs, h, _⟩ := h
  exact heap_lt h
theorem FillI.below (h : FillI w g n s k) (hb : Below w.heap.size w w') : FillI w' g n s k := by
  have hlt := h.lt
  obtain ⟨cs, h, h2⟩ := h
  exact ⟨cs, (hb.block g hlt).trans h, h2⟩
theorem FillI.spot (h : FillI w g n s k) (hk : k < n) : (∃ v, w.cell? ⟨g, k, none⟩ = some v) ∧ w.frozen? ⟨g, k, none⟩ = false := by
  obtain ⟨cs, h, hs, _⟩ := h
  exact ⟨⟨cs[k], by rw [cell_of_row w g k cs _ _ h, Array.getElem?_eq_getElem (by omega)]⟩, frozen_of_row w g k cs _ h⟩
theorem FillI.put {x : Int} (h : FillI w g n s k) (hk : k < n) (hx : s[k]? = some x) : FillI (w.setCell ⟨g, k, none⟩ (.int .i64 x)) g n s (k + 1) := by
  obtain ⟨cs, h, hs, hc⟩ := h
  refine ⟨_, heap_setCell_same w g k cs _ _ h, by simpa using hs, fun j y hj hjk => ?_⟩
  rcases Nat.lt_or_ge j k with hlt | hge
  · rw [Array.getElem?_setIfInBounds_ne (by omega)]
    exact hc j y hj hlt
  · obtain rfl : j = k := by omega
    rw [hx] at hj
    injection hj with hj
    subst hj
    simp [Array.getElem?_setIfInBounds]
    omega
theorem FillI.own (h : FillI w g n s n) (hn : s.length = n) (hm : n ≤ 1099511627776) {B : Nat} (hB : B ≤ g) : w.ownsRow B 3 1 (.slice (some ⟨g, 0, none⟩) n n) n (ints s) := by
  obtain ⟨cs, h, hs, hc⟩ := h
  refine ⟨by rw [ints_length]; omega, .inr ⟨g, n, cs, rfl, hB, h, Nat.le_refl _, by unfold maxLen; omega, by omega, ?_⟩⟩
  apply List.ext_getElem?
  intro j
  rw [List.getElem?_take]
  by_cases hj : j < n
  · rw [if_pos (by omega)]
    have e : s[j]? = some s[j] := List.getElem?_eq_getElem (by omega)
    rw [ints_get e, Array.getElem?_toList]
    exact hc j _ e hj
  · rw [if_neg (by omega), List.getElem?_eq_none (by rw [ints_length]; omega)]
end
theorem fillI_new (w : World) (cs : Array Value) (n : Nat) (s : List Int) (h : cs.size = n) : FillI (w.alloc (.cells cs 3)) w.heap.size n s 0 :=
  ⟨cs, heap_alloc_new w _, h, fun j u hu hk => by omega⟩

/-- What toIntS leaves. -/
def ToIPost (s : List Int) (n : Nat) (w : World) (e : Ending) (w' : World) : Prop := ∃ g, e = .returned (.slice (some ⟨g, 0, none⟩) n n) ∧ w.heap.size ≤ g ∧ FillI w' g n s n ∧ Below w.heap.size w w'

set_option maxHeartbeats 800000 in
theorem toIntS_any (A : Option Addr) (n c : Nat) (s : List Int) (w : World) (hA : Seen w A (ints s)) (hs : s.length = n) (hm : n ≤ 1048576) :
    Calls Try.prog 34 #[.slice A n c] w (ToIPost s n w) := by
  rcases seen_any hA with h00 | ⟨b, o, rfl, hlt, hc⟩
  · have hn0 : n = 0 := by rw [← hs, ← ints_length, h00]; rfl
    subst hn0
    clear hA h00
    have hmk : ∀ w : World, (Instr.makeSlice 57 (.int .i64 0) (.int .i64 0)).run Try.prog w = .ok (.slice (some ⟨w.heap.size, 0, none⟩) 0 0) (w.alloc (.cells (madeCells #[.int .i64 0] (0 * 1)) 3)) := fun w => make_ints 0 (by omega) w
    go_enter Try.func34, Try.ntmps34
    go_wp2
    refine wp_loop_rounds 1 ?_
    rw [rounds_succ]
    go_wp2
    go_ret
    exact ⟨_, rfl, Nat.le_refl _, fillI_new _ _ _ _ (by simp [madeCells]), below_new _ _⟩
  · have HS := Lib.hid hs
    have HC := Lib.hid hc
    clear hc hA hs
    have hmk := make_ints n (by omega)
    go_enter Try.func34, Try.ntmps34
    go_wp2
    clear hmk
    go_loopw [4] (fun i wr => ∃ k : Nat, k ≤ n ∧ i = .int .i64 k ∧ FillI wr w.heap.size n s k ∧ Below w.heap.size w wr) (fun i _ => n - (intOf i).toNat)
    case atStart => exact ⟨0, Nat.zero_le _, rfl, fillI_new _ _ _ _ (by simp [madeCells]), below_new _ _⟩
    case round =>
      obtain ⟨k, hk, rfl, hf, hb⟩ := hrel
      by_cases hkn : k < n
      · obtain ⟨x, hx⟩ : ∃ x, s[k]? = some x := ⟨_, List.getElem?_eq_getElem (by rw [HS.out]; exact hkn)⟩
        have HX := Lib.hid hx
        have g0 := (hb.cell (p := ⟨b, o + k, none⟩) hlt).trans (HC.out _ _ (ints_get hx))
        obtain ⟨⟨v, c0⟩, f0⟩ := hf.spot hkn
        clear hx
        go_wp2
        go_roundw
        case rel => exact ⟨k + 1, by omega, by go_num, hf.put hkn HX.out, hb.setCell (Nat.le_refl _) _⟩
        case measure => simp [intOf]; omega
      · obtain rfl : k = n := by omega
        go_wp2
        go_ret
        exact ⟨_, rfl, Nat.le_refl _, hf, hb⟩

/-- A slice of rows that is wholly one's own: the outer cells, each row, no two rows in one block. -/
def RowsO (w : World) (B : Nat) (R : List Rw) : Prop := (∀ r ∈ R, w.ownsRow B 3 1 r.val r.s.length (ints r.s)) ∧ R.Pairwise fun r r' => r.val.ownBlock = none ∨ r.val.ownBlock ≠ r'.val.ownBlock
def LadW (w : World) (B : Nat) (A : Option Addr) (c : Nat) (R : List Rw) : Prop := w.ownsRow B 57 1 (.slice A R.length c) R.length (vals R) ∧ RowsO w B R
section
variable {w w' : World} {B : Nat} {R : List Rw}
theorem RowsO.keep (h : RowsO w B R) {row : Option Nat} (hg : w.grownBy w' row) (hr : ∀ g, row = some g → ∃ cs t fr, w.heap[g]? = some (.cells cs t fr) ∧ t ≠ 3) : RowsO w' B R := by
  refine ⟨fun r hr' => (h.1 r hr').kept hg ?_, h.2⟩
  cases e : r.val.ownBlock with
  | none => exact .inl rfl
  | some b =>
    refine .inr fun e' => ?_
    obtain ⟨cs, hb⟩ := own_type (h.1 r hr') b e
    obtain ⟨cs', t, fr', h', hne⟩ := hr b e'.symm
    rw [hb] at h'
    injection h' with h'
    injection h' with _ ht
    exact hne ht.symm
theorem grown_of_below (hb : Below w.heap.size w w') (row : Option Nat) : w.grownBy w' row := ⟨hb.os, hb.tape, hb.output, hb.size, fun k hk _ => hb.block k hk⟩
theorem RowsO.below (h : RowsO w B R) (hb : Below w.heap.size w w') : RowsO w' B R := h.keep (grown_of_below hb none) (fun g hg => by cases hg)
theorem RowsO.typed (h : RowsO w B R) : ∀ r ∈ R, IntsT w r.A r.s := fun r hr => intsT_own (c := r.c) rfl (h.1 r hr)
theorem RowsO.snoc (h : RowsO w B R) {r : Rw} (ho : w.ownsRow B 3 1 r.val r.s.length (ints r.s)) (hn : ∀ g, r.val.ownBlock = some g → ∀ q ∈ R, q.val.ownBlock = none ∨ q.val.ownBlock ≠ some g) (hs : r.val.ownBlock ≠ none) : RowsO w B (R ++ [r]) := by
  refine ⟨fun q hq => ?_, ?_⟩
  · rw [List.mem_append] at hq
    rcases hq with hq | hq
    · exact h.1 q hq
    · simp at hq; subst hq; exact ho
  · rw [List.pairwise_append]
    refine ⟨h.2, by simp, fun q hq r' hr' => ?_⟩
    simp at hr'
    subst hr'
    cases e : r'.val.ownBlock with
    | none => exact absurd e hs
    | some g => exact hn g e q hq
theorem LadW.lad {A : Option Addr} {c : Nat} (h : LadW w B A c R) : Lad w A c R := by
  obtain ⟨h1, h2, h3⟩ := own_cap h.1
  exact ⟨⟨seen_own h.1, h.2.typed⟩, h1, h2, h3⟩
theorem LadW.below {A : Option Addr} {c : Nat} (h : LadW w B A c R) (hb : Below w.heap.size w w') : LadW w' B A c R :=
  ⟨h.1.kept (grown_of_below hb none) (by cases hv : (Value.slice A R.length c).ownBlock with | none => exact .inl rfl | some g => exact .inr (by simp)), h.2.below hb⟩
end

/-- Block g holds n rows, of which the first k are copies of those of R. -/
def FillR (w : World) (B g n : Nat) (R : List Rw) (k : Nat) : Prop :=
  ∃ (cs : Array Value) (S : List Rw), w.heap[g]? = some (.cells cs 57 (0, 0)) ∧ cs.size = n ∧ S.length = k ∧ (∀ (j : Nat) (r : Rw), S[j]? = some r → cs[j]? = some r.val) ∧ ss S = (ss R).take k ∧ RowsO w B S
section
variable {w w' : World} {B g n k : Nat} {R : List Rw}
theorem FillR.lt (h : FillR w B g n R k) : g < w.heap.size := by
  obtain ⟨cs, S, h, _⟩ := h
  exact heap_lt h
theorem FillR.below (h : FillR w B g n R k) (hb : Below w.heap.size w w') : FillR w' B g n R k := by
  have hlt := h.lt
  obtain ⟨cs, S, h, h1, h2, h3, h4, h5⟩ := h
  exact ⟨cs, S, (hb.block g hlt).trans h, h1, h2, h3, h4, h5.below hb⟩
theorem FillR.spot (h : FillR w B g n R k) (hk : k < n) : (∃ v, w.cell? ⟨g, k, none⟩ = some v) ∧ w.frozen? ⟨g, k, none⟩ = false := by
  obtain ⟨cs, S, h, hs, _⟩ := h
  exact ⟨⟨cs[k], by rw [cell_of_row w g k cs _ _ h, Array.getElem?_eq_getElem (by omega)]⟩, frozen_of_row w g k cs _ h⟩
theorem grown_set1 (w : World) (g i : Nat) (v : Value) : w.grownBy (w.setCell ⟨g, i, none⟩ v) (some g) :=
  ⟨rfl, rfl, rfl, by simp [World.setCell], fun k _ hne => Below.heap_setCell w ⟨g, i, none⟩ v k (fun e => hne (by rw [e]))⟩
/-- A new row of its own, stored. w0: the world before the row was made. -/
theorem FillR.put {w0 : World} {g' q : Nat} {r : Rw} (h : FillR w0 B g n R k) (hb : Below w0.heap.size w0 w) (hk : k < n) (hx : R[k]? = some r) (hq : r.s.length = q) (hqm : q ≤ 1048576) (hg' : w0.heap.size ≤ g') (hB : B ≤ g') (hf : FillI w g' q r.s q) :
    FillR (w.setCell ⟨g, k, none⟩ (.slice (some ⟨g', 0, none⟩) q q)) B g n R (k + 1) := by
  obtain ⟨cs, S, hh, hs, hl, hc, hss, hro⟩ := h
  have hlt := heap_lt hh
  have hh1 := (hb.block g hlt).trans hh
  have hro1 := hro.below hb
  have hgrow := grown_set1 w g k (.slice (some ⟨g', 0, none⟩) q q)
  have hro2 := hro1.keep hgrow (fun g1 e => by injection e with e; subst e; exact ⟨cs, _, _, hh1, si_ne⟩)
  have hown := (hf.own hq (by omega) hB).kept hgrow (.inr (by simp only [Value.ownBlock]; intro e; injection e with e; omega))
  refine ⟨_, S ++ [⟨some ⟨g', 0, none⟩, q, r.s⟩], heap_setCell_same w g k cs _ _ hh1, by simpa using hs, by simp [hl], fun j r' hj => ?_, ?_, hro2.snoc (by simp only [Rw.val, hq]; exact hown) (fun g1 e q' hq' => ?_) (by simp [Rw.val, Value.ownBlock])⟩
  · rcases Nat.lt_or_ge j k with hlt | hge
    · rw [List.getElem?_append_left (by omega)] at hj
      rw [Array.getElem?_setIfInBounds_ne (by omega)]
      exact hc j r' hj
    · rw [List.getElem?_append_right (by omega), hl] at hj
      obtain ⟨d, rfl⟩ : ∃ d, j = k + d := ⟨j - k, by omega⟩
      rw [Nat.add_sub_cancel_left] at hj
      match d, hj with
      | 0, hj =>
        simp at hj
        subst hj
        simp [Array.getElem?_setIfInBounds, Rw.val, hq]
        omega
      | d + 1, hj => simp at hj
  · rw [ss_append, hss, List.take_add_one, ss_at hx]
    rfl
  · simp only [Rw.val, Value.ownBlock] at e
    injection e with e
    cases e2 : q'.val.ownBlock with
    | none => exact .inl rfl
    | some b =>
      have := ((hro.1 q' hq').lt b e2).2
      exact .inr (fun e3 => by injection e3 with e3; omega)
theorem fillR_new (w : World) (cs : Array Value) (n : Nat) (R : List Rw) (h : cs.size = n) : FillR (w.alloc (.cells cs 57)) w.heap.size w.heap.size n R 0 :=
  ⟨cs, [], heap_alloc_new w _, h, rfl, fun j r hj => by simp at hj, rfl, ⟨by simp, by simp⟩⟩
theorem FillR.done (h : FillR w B g n R n) (hn : R.length = n) (hm : n ≤ 1048576) (hB : B ≤ g) : ∃ S, S.length = n ∧ ss S = ss R ∧ LadW w B (some ⟨g, 0, none⟩) n S := by
  obtain ⟨cs, S, hh, hs, hl, hc, hss, hro⟩ := h
  refine ⟨S, hl, by rw [hss, List.take_of_length_le (by rw [ss_length]; omega)], ⟨?_, hro⟩⟩
  refine ⟨by rw [vals_length]; omega, .inr ⟨g, n, cs, by rw [hl], hB, hh, by omega, by unfold maxLen; omega, by omega, ?_⟩⟩
  apply List.ext_getElem?
  intro j
  rw [List.getElem?_take]
  by_cases hj : j < n
  · rw [if_pos (by omega)]
    have e : S[j]? = some S[j] := List.getElem?_eq_getElem (by omega)
    rw [vals_at e, Array.getElem?_toList]
    exact hc j _ e
  · rw [if_neg (by omega), List.getElem?_eq_none (by rw [vals_length]; omega)]
end

/-- What toIntSS leaves. -/
def ToRPost (R : List Rw) (n : Nat) (w : World) (e : Ending) (w' : World) : Prop := ∃ g S, e = .returned (.slice (some ⟨g, 0, none⟩) n n) ∧ S.length = n ∧ ss S = ss R ∧ LadW w' w.heap.size (some ⟨g, 0, none⟩) n S ∧ Below w.heap.size w w'

set_option maxHeartbeats 800000 in
theorem toIntSS_any (A : Option Addr) (n c : Nat) (R : List Rw) (w : World) (hA : LadS w A R) (hs : R.length = n) (hm : n ≤ 1048576) (hrow : ∀ r ∈ R, r.s.length ≤ 1048576) :
    Calls Try.prog 17 #[.slice A n c] w (ToRPost R n w) := by
  rcases seen_any hA.1 with h00 | ⟨b, o, rfl, hlt, hc⟩
  · have hn0 : n = 0 := by rw [← hs, ← vals_length, h00]; rfl
    subst hn0
    have HS := Lib.hid hs
    clear hA h00 hrow hs
    have hmk : ∀ w : World, (Instr.makeSlice 24 (.int .i64 0) (.int .i64 0)).run Try.prog w = .ok (.slice (some ⟨w.heap.size, 0, none⟩) 0 0) (w.alloc (.cells (madeCells #[.slice none 0 0] (0 * 1)) 57)) := fun w => make_rows 0 (by omega) w
    go_enter Try.func17, Try.ntmps17
    go_wp2
    refine wp_loop_rounds 1 ?_
    rw [rounds_succ]
    go_wp2
    go_ret
    obtain ⟨S, h1, h2, h3⟩ := (fillR_new w (madeCells #[.slice none 0 0] (0 * 1)) 0 R (by simp [madeCells])).done HS.out (by omega) (Nat.le_refl _)
    exact ⟨_, S, rfl, h1, h2, h3, below_new _ _⟩
  · have HS := Lib.hid hs
    have HC := Lib.hid hc
    have HA := Lib.hid hA
    have HW := Lib.hid hrow
    clear hc hA hs hrow
    have hmk := make_rows n (by omega)
    go_enter Try.func17, Try.ntmps17
    go_wp2
    clear hmk
    go_loopw [4] (fun i wr => ∃ k : Nat, k ≤ n ∧ i = .int .i64 k ∧ FillR wr w.heap.size w.heap.size n R k ∧ Below w.heap.size w wr) (fun i _ => n - (intOf i).toNat)
    case atStart => exact ⟨0, Nat.zero_le _, rfl, fillR_new _ _ _ _ (by simp [madeCells]), below_new _ _⟩
    case round =>
      obtain ⟨k, hk, rfl, hf, hb⟩ := hrel
      by_cases hkn : k < n
      · obtain ⟨r, hx⟩ : ∃ x, R[k]? = some x := ⟨_, List.getElem?_eq_getElem (by rw [HS.out]; exact hkn)⟩
        have HX := Lib.hid hx
        have g0 := (hb.cell (p := ⟨b, o + k, none⟩) hlt).trans (HC.out _ _ (vals_at hx))
        have hsr := (HA.out.2 r (List.mem_of_getElem? hx)).below hb
        have hlr := HW.out r (List.mem_of_getElem? hx)
        clear hx
        obtain ⟨q, hq⟩ : ∃ q, r.s.length = q := ⟨_, rfl⟩
        unfold Rw.val at g0
        rw [hq] at g0 hlr
        have HQ := Lib.hid hq
        have hz := hb.size
        clear hq
        go_wp2_with (go_at_call 34; refine (toIntS_any _ _ _ r.s _ hsr HQ.out hlr).mono ?_; rintro e w' ⟨g', rfl, hg', hf', hb'⟩; obtain ⟨⟨v, c0⟩, f0⟩ := (hf.below hb').spot hkn)
        have RR := hf.put hb' hkn HX.out HQ.out hlr hg' (by omega) hf'
        go_roundw
        case rel => exact ⟨k + 1, by omega, by go_num, RR, (hb.trans (hb'.mono hb.size)).setCell (Nat.le_refl _) _⟩
        case measure => simp [intOf]; omega
      · obtain rfl : k = n := by omega
        go_wp2
        go_ret
        obtain ⟨S, h1, h2, h3⟩ := hf.done HS.out hm (Nat.le_refl _)
        exact ⟨_, S, rfl, h1, h2, h3, hb⟩

end Go.Proofs.Ytepnfljhoapdmaa
