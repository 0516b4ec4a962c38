/- Contracts of the reference's l3Same, l3Size. -/
import Derived.Test.YtepnfljhoapdmaaGp
import Derived.Test.YtepnfljhoapdmaaSl
import Derived.Deep.RegionWith
import Derived.Deep.RegionHeld3
import Derived.Deep.QuietTactic
import Derived.BigQuiet
namespace Go.Proofs.Ytepnfljhoapdmaa
open Go.RowKit
set_option linter.unusedVariables false

set_option maxHeartbeats 800000 in
theorem l3Same_any (a j s p a' j' s' p' : Int) (w : World) : Calls Try.prog 48 #[.agg #[.int .i64 a, .int .i64 j, .int .i64 s, .int .i64 p], .agg #[.int .i64 a', .int .i64 j', .int .i64 s', .int .i64 p']] w
    fun e w' => e = .returned (.bool (same3 ⟨a, j, s, p⟩ ⟨a', j', s', p'⟩)) ∧ Below w.heap.size w w' := by
  cases h1 : (a == a') <;> cases h2 : (j == j') <;> cases h3 : (s == s')
  all_goals
    go_enter Try.func48, Try.ntmps48
    go_wp2
    go_ret
    exact ⟨ret_bool (by simp [same3, h1, h2, h3]), below2 (below_new _ _) (below_new _ _)⟩

def GszRel (n : Nat) (L : List Pers) (x : Pers) (w : World) (v i : Value) (wr : World) : Prop :=
  ∃ (k : Nat) (q : Int), k ≤ n ∧ i = .int .i64 k ∧ v = .int .i64 q ∧ 0 ≤ q ∧ q ≤ k ∧ Hid (cnt3 (L.take k) x = q) ∧ Below w.heap.size w wr
theorem cnt3_take {L : List Pers} {k : Nat} {x y : Pers} (hx : L[k]? = some y) : cnt3 (L.take (k + 1)) x = cnt3 (L.take k) x + if same3 y x = true then 1 else 0 := by
  rw [List.take_add_one, hx]; exact cnt3_snoc _ _ _

set_option maxRecDepth 100000 in
set_option maxHeartbeats 3200000 in
theorem l3Size_any (A : Option Addr) (n c i : Nat) (L : List Pers) (x : Pers) (w : World) (hA : Seen w A (pcells L)) (hn : L.length = n) (hm : n ≤ 1048576) (hx : L[i]? = some x) :
    Calls Try.prog 31 #[.slice A n c, .int .i64 (i : Int)] w fun e w' => e = .returned (.int .i64 (cnt3 L x)) ∧ Below w.heap.size w w' := by
  have hi : i < n := by
    rcases Nat.lt_or_ge i n with h | h
    · exact h
    · rw [List.getElem?_eq_none (by omega)] at hx; cases hx
  obtain ⟨b, o, rfl, hlt, hc⟩ := hA (by rw [pcells_length]; omega)
  obtain ⟨a', j', s', p'⟩ := x
  have HK := Lib.hid (fun (w' : World) (h : Below w.heap.size w w') => cells_later hlt h (cells_at hc hx))
  have HX := Lib.hid hx
  have HC := Lib.hid hc
  have HN := Lib.hid hn
  have ii : (i : Int) < (n : Int) := by omega
  clear hx hc hn hA
  go_enter Try.func31, Try.ntmps31
  go_wp2
  go_loopw [5, 6] (fun v t wr => GszRel n L ⟨a', j', s', p'⟩ w v t wr) (fun _ t _ => n - (intOf t).toNat)
  case atStart => exact ⟨0, 0, Nat.zero_le _, rfl, rfl, by omega, by omega, by unfold Hid; rfl, Below.refl _ _⟩
  case round =>
    obtain ⟨k, q, hk, rfl, rfl, q0, q1, hq, hb⟩ := hrel
    by_cases hkn : k < n
    · obtain ⟨⟨a, j, s, p⟩, hy⟩ : ∃ x, L[k]? = some x := ⟨_, List.getElem?_eq_getElem (by rw [HN.out]; exact hkn)⟩
      have HY := Lib.hid hy
      have KEEP := Lib.hid (fun (w' : World) (h : Below wr.heap.size wr w') => (show w'.cell? ⟨b, o + k * 4, none⟩ = some (.int .i64 a) ∧ w'.cell? ⟨b, o + k * 4 + 1, none⟩ = some (.int .i64 j) ∧ w'.cell? ⟨b, o + k * 4 + 2, none⟩ = some (.int .i64 s) ∧ w'.cell? ⟨b, o + k * 4 + 3, none⟩ = some (.int .i64 p) ∧ w'.cell? ⟨b, o + i * 4, none⟩ = some (.int .i64 a') ∧ w'.cell? ⟨b, o + i * 4 + 1, none⟩ = some (.int .i64 j') ∧ w'.cell? ⟨b, o + i * 4 + 2, none⟩ = some (.int .i64 s') ∧ w'.cell? ⟨b, o + i * 4 + 3, none⟩ = some (.int .i64 p') from by
        obtain ⟨k0, k1, k2, k3⟩ := cells_later hlt (below2 hb h) (cells_at HC.out HY.out)
        obtain ⟨l0, l1, l2, l3⟩ := HK.out _ (below2 hb h)
        exact ⟨k0, k1, k2, k3, l0, l1, l2, l3⟩))
      have kk : (k : Int) < (n : Int) := by omega
      have cur : Below wr.heap.size wr wr.drew := (Below.refl _ _).drew
      have HBR := Lib.hid hb
      have ht := cnt3_take (x := ⟨a', j', s', p'⟩) hy
      rw [hq.out] at ht
      have HT := Lib.hid ht
      clear hy hb ht
      cases hs : same3 ⟨a, j, s, p⟩ ⟨a', j', s', p'⟩
      all_goals
        go_wp2
        go_region_held3 (fun w' => w'.cell? ⟨b, o + k * 4, none⟩ = some (.int .i64 a) ∧ w'.cell? ⟨b, o + k * 4 + 1, none⟩ = some (.int .i64 j) ∧ w'.cell? ⟨b, o + k * 4 + 2, none⟩ = some (.int .i64 s) ∧ w'.cell? ⟨b, o + k * 4 + 3, none⟩ = some (.int .i64 p) ∧ w'.cell? ⟨b, o + i * 4, none⟩ = some (.int .i64 a') ∧ w'.cell? ⟨b, o + i * 4 + 1, none⟩ = some (.int .i64 j') ∧ w'.cell? ⟨b, o + i * 4 + 2, none⟩ = some (.int .i64 s') ∧ w'.cell? ⟨b, o + i * 4 + 3, none⟩ = some (.int .i64 p')) (with_reducible exact KEEP.out _ cur)
          (first | (go_at_call 48; (with_reducible refine (l3Same_any a j s p a' j' s' p' _).mono ?_); rintro e w7 ⟨rfl, hb7⟩; rw [hs]; have cur := below2 cur hb7; clear hb7))
        go_wp2
        have hb7 := below2 HBR.out cur
        first
          | (have RR : GszRel n L ⟨a', j', s', p'⟩ w (.int .i64 (q + 1)) (.int .i64 ((k : Int) + 1)) w7 := ⟨k + 1, q + 1, by omega, by go_num, rfl, by omega, by omega, by unfold Hid; rw [HT.out, if_pos hs], hb7⟩
             go_roundw
             case rel => first | exact RR | ((repeat apply Exists.intro); first | exact ⟨RR, rfl⟩ | exact ⟨RR, rfl, rfl⟩ | exact ⟨RR, rfl, rfl, rfl⟩)
             case measure => simp [intOf]; omega)
          | (have RR : GszRel n L ⟨a', j', s', p'⟩ w (.int .i64 q) (.int .i64 ((k : Int) + 1)) w7 := ⟨k + 1, q, by omega, by go_num, rfl, by omega, by omega, by unfold Hid; rw [HT.out, hs]; simp, hb7⟩
             go_roundw
             case rel => first | exact RR | ((repeat apply Exists.intro); first | exact ⟨RR, rfl⟩ | exact ⟨RR, rfl, rfl⟩ | exact ⟨RR, rfl, rfl, rfl⟩)
             case measure => simp [intOf]; omega)
    · have hfin : cnt3 L ⟨a', j', s', p'⟩ = q := by
        have := hq.out
        rw [List.take_of_length_le (by rw [HN.out]; omega)] at this
        exact this
      have HF := Lib.hid hfin
      clear hfin
      go_wp2
      go_ret
      exact ⟨ret_int HF.out.symm, hb⟩

end Go.Proofs.Ytepnfljhoapdmaa
