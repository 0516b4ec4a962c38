/- Contract of toPersonS: a copy of the list in new memory. -/
import Derived.Test.YtepnfljhoapdmaaEx
namespace Go.Proofs.Ytepnfljhoapdmaa
open Go.RowKit

/-- make([]Person, n). -/
theorem make_people (n : Nat) (h : n ≤ 1099511627776) (w : World) : (Instr.makeSlice 23 (.int .i64 (n : Int)) (.int .i64 (n : Int))).run Try.prog w =
    .ok (.slice (some ⟨w.heap.size, 0, none⟩) n n) (w.alloc (.cells (madeCells #[.int .i64 0, .int .i64 0, .int .i64 0, .int .i64 0] (n * 4)) 31)) := by
  obtain ⟨i0, hi, hz0, hz1, hz2⟩ := info_parts pInfo
  have hr := run_make (P := Try.prog) w 23 31 i0 _ Try.underlying23 hi hz0 .i64 .i64 n n (by omega) (by omega) (by rw [hz2]; omega) (by omega)
  simp only [Int.toNat_natCast, hz1] at hr
  exact hr

/-- Block g holds n persons, of which the first k are those of L. -/
def Filled (w : World) (g n : Nat) (L : List Pers) (k : Nat) : Prop :=
  ∃ cs : Array Value, w.heap[g]? = some (.cells cs 31 (0, 0)) ∧ cs.size = n * 4 ∧ ∀ (j : Nat) (u : Value), (pcells (L.take k))[j]? = some u → cs[j]? = some u

theorem Filled.lt {w : World} {g n : Nat} {L : List Pers} {k : Nat} (h : Filled w g n L k) : g < w.heap.size := by
  obtain ⟨cs, h, _⟩ := h
  rcases Nat.lt_or_ge g w.heap.size with hlt | hge
  · exact hlt
  · rw [Array.getElem?_eq_none hge] at h; cases h
theorem Filled.below {w w' : World} {g n : Nat} {L : List Pers} {k : Nat} (h : Filled w g n L k) (hb : Below w.heap.size w w') : Filled w' g n L k := by
  have hlt := h.lt
  obtain ⟨cs, h, h2⟩ := h
  exact ⟨cs, (hb.block g hlt).trans h, h2⟩
theorem Filled.spots {w : World} {g n : Nat} {L : List Pers} {k : Nat} (h : Filled w g n L k) (hk : k < n) : ∃ v0 v1 v2 v3,
    w.cell? ⟨g, k * 4, none⟩ = some v0 ∧ w.cell? ⟨g, k * 4 + 1, none⟩ = some v1 ∧ w.cell? ⟨g, k * 4 + 2, none⟩ = some v2 ∧ w.cell? ⟨g, k * 4 + 3, none⟩ = some v3 ∧
    w.frozen? ⟨g, k * 4, none⟩ = false ∧ w.frozen? ⟨g, k * 4 + 1, none⟩ = false ∧ w.frozen? ⟨g, k * 4 + 2, none⟩ = false ∧ w.frozen? ⟨g, k * 4 + 3, none⟩ = false := by
  obtain ⟨cs, h, hs, _⟩ := h
  have hc : ∀ j, w.cell? ⟨g, j, none⟩ = cs[j]? := fun j => cell_of_row w g j cs _ _ h
  have hf : ∀ j, w.frozen? ⟨g, j, none⟩ = false := fun j => frozen_of_row w g j cs _ h
  have hg : ∀ j, j < cs.size → ∃ v, cs[j]? = some v := fun j hj => ⟨_, Array.getElem?_eq_getElem hj⟩
  obtain ⟨v0, e0⟩ := hg (k * 4) (by omega)
  obtain ⟨v1, e1⟩ := hg (k * 4 + 1) (by omega)
  obtain ⟨v2, e2⟩ := hg (k * 4 + 2) (by omega)
  obtain ⟨v3, e3⟩ := hg (k * 4 + 3) (by omega)
  exact ⟨v0, v1, v2, v3, (hc _).trans e0, (hc _).trans e1, (hc _).trans e2, (hc _).trans e3, hf _, hf _, hf _, hf _⟩
theorem pcells_take_succ {L : List Pers} {k : Nat} {a j s p : Int} (hx : L[k]? = some ⟨a, j, s, p⟩) : pcells (L.take (k + 1)) = pcells (L.take k) ++ [.int .i64 a, .int .i64 j, .int .i64 s, .int .i64 p] := by
  rw [List.take_add_one, hx, pcells_append]; rfl
theorem Filled.put {w : World} {g n : Nat} {L : List Pers} {k : Nat} {a j s p : Int} (h : Filled w g n L k) (hk : k < n) (hx : L[k]? = some ⟨a, j, s, p⟩) (hn : n = L.length) :
    Filled ((((w.setCell ⟨g, k * 4, none⟩ (.int .i64 a)).setCell ⟨g, k * 4 + 1, none⟩ (.int .i64 j)).setCell ⟨g, k * 4 + 2, none⟩ (.int .i64 s)).setCell ⟨g, k * 4 + 3, none⟩ (.int .i64 p)) g n L (k + 1) := by
  obtain ⟨cs, h, hs, hc⟩ := h
  have h1 := heap_setCell_same w g (k * 4) cs _ (.int .i64 a) h
  have h2 := heap_setCell_same _ g (k * 4 + 1) _ _ (.int .i64 j) h1
  have h3 := heap_setCell_same _ g (k * 4 + 2) _ _ (.int .i64 s) h2
  have h4 := heap_setCell_same _ g (k * 4 + 3) _ _ (.int .i64 p) h3
  refine ⟨_, h4, by simpa using hs, fun i u hu => ?_⟩
  rw [pcells_take_succ hx] at hu
  have hl : (pcells (L.take k)).length = k * 4 := by rw [pcells_length, List.length_take, Nat.min_eq_left (by omega)]
  rcases Nat.lt_or_ge i (k * 4) with hi | hi
  · rw [List.getElem?_append_left (by omega)] at hu
    have := hc i u hu
    rw [Array.getElem?_setIfInBounds_ne (by omega), Array.getElem?_setIfInBounds_ne (by omega), Array.getElem?_setIfInBounds_ne (by omega), Array.getElem?_setIfInBounds_ne (by omega)]
    exact this
  · rw [List.getElem?_append_right (by omega), hl] at hu
    obtain ⟨d, rfl⟩ : ∃ d, i = k * 4 + d := ⟨i - k * 4, by omega⟩
    rw [Nat.add_sub_cancel_left] at hu
    match d, hu with
    | 0, hu => simp at hu; subst hu; simp [Array.getElem?_setIfInBounds]; omega
    | 1, hu => simp at hu; subst hu; simp [Array.getElem?_setIfInBounds]; omega
    | 2, hu => simp at hu; subst hu; simp [Array.getElem?_setIfInBounds]; omega
    | 3, hu => simp at hu; subst hu; simp [Array.getElem?_setIfInBounds]; omega
    | d + 4, hu => simp at hu
theorem Filled.seen {w : World} {g n : Nat} {L : List Pers} {k : Nat} (h : Filled w g n L k) (hn : L.length ≤ k) : Seen w (some ⟨g, 0, none⟩) (pcells L) := by
  have hlt := h.lt
  obtain ⟨cs, h, hs, hc⟩ := h
  rw [List.take_of_length_le hn] at hc
  exact fun _ => ⟨g, 0, rfl, hlt, fun j u hu => by rw [Nat.zero_add, cell_of_row w g j cs _ _ h]; exact hc j u hu⟩
theorem Filled.new (w : World) (cs : Array Value) (n : Nat) (L : List Pers) (h : cs.size = n * 4) : Filled (w.alloc (.cells cs 31)) w.heap.size n L 0 :=
  ⟨cs, heap_alloc_new w _, h, fun j u hu => by simp [pcells] at hu⟩

set_option maxHeartbeats 800000 in
theorem toPersonS_any (A : Option Addr) (c : Nat) (L : List Pers) (w : World) (hA : Seen w A (pcells L)) (hm : L.length ≤ 1048576) :
    Calls Try.prog 16 #[.slice A L.length c] w fun e w' => ∃ g, e = .returned (.slice (some ⟨g, 0, none⟩) L.length L.length) ∧ w.heap.size ≤ g ∧ Filled w' g L.length L L.length ∧ Below w.heap.size w w' := by
  rcases seen_cases hA with rfl | ⟨b, o, rfl, hlt, hc⟩
  · have hmk : ∀ w : World, (Instr.makeSlice 23 (.int .i64 0) (.int .i64 0)).run Try.prog w = .ok (.slice (some ⟨w.heap.size, 0, none⟩) 0 0) (w.alloc (.cells (madeCells #[.int .i64 0, .int .i64 0, .int .i64 0, .int .i64 0] (0 * 4)) 31)) := fun w => make_people 0 (by omega) w
    simp only [List.length_nil]
    go_enter Try.func16, Try.ntmps16
    go_wp2
    refine wp_loop_rounds 1 ?_
    rw [rounds_succ]
    go_wp2
    go_ret
    exact ⟨_, rfl, Nat.le_refl _, Filled.new _ _ _ _ (by simp [madeCells]), below_new _ _⟩
  · obtain ⟨n, hn⟩ : ∃ n, n = L.length := ⟨_, rfl⟩
    rw [← hn] at hm ⊢
    have HN := Lib.hid hn
    clear hn
    have HC := Lib.hid hc
    clear hc hA
    have hmk := make_people n (by omega)
    go_enter Try.func16, Try.ntmps16
    go_wp2
    clear hmk
    go_loopw [4] (fun i wr => ∃ k : Nat, k ≤ n ∧ i = .int .i64 k ∧ Filled wr w.heap.size n L k ∧ Below w.heap.size w wr) (fun i _ => n - (intOf i).toNat)
    case atStart => exact ⟨0, Nat.zero_le _, rfl, Filled.new _ _ _ _ (by simp [madeCells]), below_new _ _⟩
    case round =>
      obtain ⟨k, hk, rfl, hf, hb⟩ := hrel
      by_cases hkn : k < n
      · obtain ⟨⟨a, j, s, p⟩, hx⟩ : ∃ x, L[k]? = some x := ⟨_, List.getElem?_eq_getElem (by rw [← HN.out]; exact hkn)⟩
        have HX := Lib.hid hx
        obtain ⟨g0, g1, g2, g3⟩ := cells_later hlt hb (cells_at HC.out hx)
        clear hx
        go_wp2_with (go_at_call 33; refine (toPerson_any _ _ _ _ _).mono ?_; rintro e w' ⟨rfl, hb'⟩; have hf' := hf.below hb'; obtain ⟨v0, v1, v2, v3, c0, c1, c2, c3, f0, f1, f2, f3⟩ := hf'.spots hkn)
        go_roundw
        case rel => exact ⟨k + 1, by omega, by go_num, hf'.put hkn HX.out HN.out, ((((hb.trans (hb'.mono hb.size)).setCell (Nat.le_refl _) _).setCell (Nat.le_refl _) _).setCell (Nat.le_refl _) _).setCell (Nat.le_refl _) _⟩
        case measure => simp [intOf]; omega
      · obtain rfl : k = n := by omega
        go_wp2
        go_ret
        exact ⟨_, rfl, Nat.le_refl _, hf, hb⟩

end Go.Proofs.Ytepnfljhoapdmaa
