/- Contracts of markPersonS, heldPersonS: a list of one's own is written, and read again. -/
import Derived.Test.YtjbhnjincedkmaaWi
import Derived.Test.YtjbhnjincedkmaaTo
import Derived.Test.YtjbhnjincedkmaaRd
namespace Go.Proofs.Ytjbhnjincedkmaa
open Go.RowKit
set_option linter.unusedVariables false

/-- Persons of numbers that rise from k on. -/
def markP (k : Int) (n : Nat) : List Pers := (List.range n).map fun i : Nat => ⟨k + 4 * (i : Int), k + 4 * (i : Int) + 1, k + 4 * (i : Int) + 1 + 1, k + 4 * (i : Int) + 1 + 1 + 1⟩
theorem markP_length (k : Int) (n : Nat) : (markP k n).length = n := by simp [markP]
theorem markP_get {k z : Int} {n i : Nat} (h : i < n) (hz : z = k + 4 * (i : Int)) : (markP k n)[i]? = some ⟨z, z + 1, z + 1 + 1, z + 1 + 1 + 1⟩ := by subst hz; simp [markP, List.getElem?_range h]

theorem Filled.more {w : World} {g n : Nat} {L : List Pers} {k : Nat} {a j s p : Int} (h : Filled w g n L k) (hk : k < n) (hx : L[k]? = some ⟨a, j, s, p⟩) (hkl : k < L.length) :
    Filled ((((w.setCell ⟨g, k * 4, none⟩ (.int .i64 a)).setCell ⟨g, k * 4 + 1, none⟩ (.int .i64 j)).setCell ⟨g, k * 4 + 2, none⟩ (.int .i64 s)).setCell ⟨g, k * 4 + 3, none⟩ (.int .i64 p)) g n L (k + 1) := by
  obtain ⟨cs, h, hs, hc⟩ := h
  have h1 := heap_setCell_same w g (k * 4) cs _ (.int .i64 a) h
  have h2 := heap_setCell_same _ g (k * 4 + 1) _ _ (.int .i64 j) h1
  have h3 := heap_setCell_same _ g (k * 4 + 2) _ _ (.int .i64 s) h2
  have h4 := heap_setCell_same _ g (k * 4 + 3) _ _ (.int .i64 p) h3
  refine ⟨_, h4, by simpa using hs, fun i u hu => ?_⟩
  rw [pcells_take_succ hx] at hu
  have hl : (pcells (L.take k)).length = k * 4 := by rw [pcells_length, List.length_take, Nat.min_eq_left (by omega)]
  rcases Nat.lt_or_ge i (k * 4) with hi | hi
  · rw [List.getElem?_append_left (by omega)] at hu
    have := hc i u hu
    rw [Array.getElem?_setIfInBounds_ne (by omega), Array.getElem?_setIfInBounds_ne (by omega), Array.getElem?_setIfInBounds_ne (by omega), Array.getElem?_setIfInBounds_ne (by omega)]
    exact this
  · rw [List.getElem?_append_right (by omega), hl] at hu
    obtain ⟨d, rfl⟩ : ∃ d, i = k * 4 + d := ⟨i - k * 4, by omega⟩
    rw [Nat.add_sub_cancel_left] at hu
    match d, hu with
    | 0, hu => simp at hu; subst hu; simp [Array.getElem?_setIfInBounds]; omega
    | 1, hu => simp at hu; subst hu; simp [Array.getElem?_setIfInBounds]; omega
    | 2, hu => simp at hu; subst hu; simp [Array.getElem?_setIfInBounds]; omega
    | 3, hu => simp at hu; subst hu; simp [Array.getElem?_setIfInBounds]; omega
    | d + 4, hu => simp at hu
/-- A filled block is a list of one's own. -/
theorem Filled.own {w : World} {B g c n : Nat} {L : List Pers} (h : Filled w g c L n) (hn : L.length = n) (hnc : n ≤ c) (hc : c ≤ 9223372036854775807) (hB : B ≤ g) : w.ownsRow B 36 4 (.slice (some ⟨g, 0, none⟩) n c) n (pcells L) := by
  obtain ⟨cs, h, hs, hx⟩ := h
  rw [List.take_of_length_le (by omega)] at hx
  refine ⟨by rw [pcells_length, hn], .inr ⟨g, c, cs, rfl, hB, h, hnc, by unfold maxLen; omega, hs, ?_⟩⟩
  have hl : (pcells L).length = n * 4 := by rw [pcells_length, hn]
  apply List.ext_getElem?
  intro i
  rw [List.getElem?_take]
  by_cases hi : i < n * 4
  · rw [if_pos hi]
    obtain ⟨u, hu⟩ : ∃ u, (pcells L)[i]? = some u := ⟨_, List.getElem?_eq_getElem (by omega)⟩
    rw [hu]
    simpa using hx i u hu
  · rw [if_neg hi, List.getElem?_eq_none (by omega)]
theorem Filled.of_own {w : World} {g c : Nat} {cur : Array Value} (L : List Pers) (h : w.heap[g]? = some (.cells cur 36 (0, 0))) (hs : cur.size = c * 4) : Filled w g c L 0 :=
  ⟨cur, h, hs, fun j u hu => by simp [pcells] at hu⟩

def PMark (B m c : Nat) (A : Option Addr) (k : Int) (w : World) (e : Ending) (w' : World) : Prop :=
  e = .returned (.int .i64 (k + 4 * (m : Int))) ∧ w'.ownsRow B 36 4 (.slice A m c) m (pcells (markP k m)) ∧ w.grownBy w' (Value.slice A m c).ownBlock
def PMarkRel (g m c : Nat) (k : Int) (w : World) (v i : Value) (wr : World) : Prop :=
  ∃ (j : Nat) (z : Int), j ≤ m ∧ i = .int .i64 j ∧ v = .int .i64 z ∧ Hid (z = k + 4 * (j : Int)) ∧ Filled wr g c (markP k m) j ∧ w.grownBy wr (some g)

set_option maxHeartbeats 3200000 in
theorem markPersonS_any (B : Nat) (A : Option Addr) (m c : Nat) (L : List Pers) (k : Int) (w : World) (hown : w.ownsRow B 36 4 (.slice A m c) m (pcells L)) (hm : m ≤ 1048576) (h0 : 0 ≤ k) (h1 : k ≤ 1000) :
    Calls Try.prog 14 #[.slice A m c, .int .i64 k] w (PMark B m c A k w) := by
  rcases Nat.eq_zero_or_pos m with h | hpos
  · subst h
    have HE := Lib.hid (show w.ownsRow B 36 4 (.slice A 0 c) 0 (pcells (markP k 0)) from by
      refine ⟨rfl, ?_⟩
      rcases hown.2 with ⟨h, _⟩ | ⟨g, cap, cur, e1, e2, e3, e4, e5, e6, _⟩
      · exact .inl ⟨h, rfl⟩
      · exact .inr ⟨g, cap, cur, e1, e2, e3, e4, e5, e6, by simp [markP, pcells]⟩)
    clear hown
    go_enter Try.func14, Try.ntmps14
    go_wp2
    refine wp_loop_rounds 1 ?_
    rw [rounds_succ]
    go_wp2
    go_ret
    exact ⟨by simp, HE.out, World.grownBy.refl _ _⟩
  · rcases hown.2 with ⟨_, h⟩ | ⟨g, cap, cur, hv, hBg, hheap, hnc, hcm, hsz, _⟩
    · omega
    injection hv with hA _ hc
    subst hA hc
    unfold maxLen at hcm
    have HF := Lib.hid (Filled.of_own (markP k m) hheap hsz)
    clear hown hheap hsz
    go_enter Try.func14, Try.ntmps14
    go_wp2
    go_loopw [1, 5] (fun v i wr => PMarkRel g m c k w v i wr) (fun _ i _ => m - (intOf i).toNat)
    case atStart => exact ⟨0, k, Nat.zero_le _, rfl, rfl, by unfold Hid; simp, HF.out, World.grownBy.refl _ _⟩
    case round =>
      obtain ⟨j, z, hj, rfl, rfl, hz, hf, hg⟩ := hrel
      by_cases hjm : j < m
      · have hz0 : 0 ≤ z := by have := hz.out; omega
        have hz1 : z ≤ 5000000 := by have := hz.out; omega
        obtain ⟨v0, v1, v2, v3, c0, c1, c2, c3, f0, f1, f2, f3⟩ := hf.spots (show j < c by omega)
        have hf' := hf.more (show j < c by omega) (markP_get hjm hz.out) (by rw [markP_length]; exact hjm)
        have RR : PMarkRel g m c k w (.int .i64 (z + 1 + 1 + 1 + 1)) (.int .i64 ((j : Int) + 1)) ((((wr.setCell ⟨g, j * 4, none⟩ (.int .i64 z)).setCell ⟨g, j * 4 + 1, none⟩ (.int .i64 (z + 1))).setCell ⟨g, j * 4 + 2, none⟩ (.int .i64 (z + 1 + 1))).setCell ⟨g, j * 4 + 3, none⟩ (.int .i64 (z + 1 + 1 + 1))) :=
          ⟨j + 1, z + 1 + 1 + 1 + 1, by omega, by go_num, rfl, by unfold Hid; have := hz.out; omega, hf', (((hg.trans (grown_set _ _ _ _)).trans (grown_set _ _ _ _)).trans (grown_set _ _ _ _)).trans (grown_set _ _ _ _)⟩
        have HR := Lib.hid RR
        clear hf hf' hg RR
        go_wp2
        have RR := HR.out
        go_roundw
        case rel => first | exact RR | ((repeat apply Exists.intro); first | exact ⟨RR, rfl⟩ | exact ⟨RR, rfl, rfl⟩ | exact ⟨RR, rfl, rfl, rfl⟩)
        case measure => simp [intOf]; omega
      · obtain rfl : j = m := by omega
        have H1 := Lib.hid (And.intro (hf.own (markP_length _ _) hnc (by omega) hBg) hg)
        have HZ := Lib.hid hz.out
        clear hf hg
        go_wp2
        go_ret
        exact ⟨by rw [← HZ.out]; rfl, H1.out.1, H1.out.2⟩

set_option maxHeartbeats 3200000 in
theorem heldPersonS_any (A : Option Addr) (m c : Nat) (k : Int) (w : World) (hA : Seen w A (pcells (markP k m))) (hm : m ≤ 1048576) (h0 : 0 ≤ k) (h1 : k ≤ 1000) :
    Calls Try.prog 15 #[.slice A m c, .int .i64 k] w fun e w' => e = .returned (.int .i64 (k + 4 * (m : Int))) ∧ w = w' := by
  have HA := Lib.hid hA
  clear hA
  go_enter Try.func15, Try.ntmps15
  go_wp2
  go_loop [1, 5] (fun v i => ∃ (j : Nat) (z : Int), j ≤ m ∧ i = .int .i64 j ∧ v = .int .i64 z ∧ Hid (z = k + 4 * (j : Int))) (fun _ i => m - (intOf i).toNat)
  case atStart => exact ⟨0, k, Nat.zero_le _, rfl, rfl, by unfold Hid; simp⟩
  case round =>
    obtain ⟨j, z, hj, rfl, rfl, hz⟩ := hrel
    by_cases hjm : j < m
    · obtain ⟨b, o, hAe, _, hc⟩ := HA.out (by rw [pcells_length, markP_length]; omega)
      subst hAe
      have hz0 : 0 ≤ z := by have := hz.out; omega
      have hz1 : z ≤ 5000000 := by have := hz.out; omega
      obtain ⟨g0, g1, g2, g3⟩ := cells_at hc (markP_get hjm hz.out)
      have n0 : (z != z) = false := by simp
      have n1 : (z + 1 != z + 1) = false := by simp
      have n2 : (z + 1 + 1 != z + 1 + 1) = false := by simp
      have n3 : (z + 1 + 1 + 1 != z + 1 + 1 + 1) = false := by simp
      clear hc
      go_wp2
      go_round
      case rel => exact ⟨j + 1, z + 1 + 1 + 1 + 1, by omega, by go_num, rfl, by unfold Hid; have := hz.out; omega⟩
      case measure => simp [intOf]; omega
    · obtain rfl : j = m := by omega
      have HZ := Lib.hid hz.out
      go_wp2
      go_ret
      exact ⟨by rw [← HZ.out]; rfl, rfl⟩

end Go.Proofs.Ytjbhnjincedkmaa
