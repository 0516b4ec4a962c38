/- Walks of the first small laws: FnExactConstants, FnExactPeopleBand, FnExactPersonValid, FnExactPeopleValid. -/
import Derived.Test.YtljlebaallcekaaPw
import Derived.Test.YtljlebaallcekaaBd
import Derived.Test.YtljlebaallcekaaTo
import Derived.Test.YtljlebaallcekaaOpen
namespace Go.Proofs.Ytljlebaallcekaa
open Go.RowKit

set_option maxHeartbeats 400000 in
theorem fnExactConstants_walk (w : World) : Calls Try.prog 3 #[] w fun e w' => e = .returned (.bool true) ∧ Below w.heap.size w w' := by
  go_enter Try.func3, Try.ntmps3
  go_wp2
  go_ret
  exact ⟨rfl, Below.refl _ _⟩

set_option maxHeartbeats 400000 in
theorem fnExactPeopleBand_walk (w : World) (x : Int) (_ : -9223372036854775808 ≤ x) (_ : x ≤ 9223372036854775807) : Calls Try.prog 4 #[.int .i64 x] w fun e w' => e = .returned (.bool true) ∧ Below w.heap.size w w' := by
  have hne : (bandI x != bandI x) = false := by simp
  go_enter Try.func4, Try.ntmps4
  go_wp2_with (first
    | (go_at_call 11; refine (sBand_any _ _).mono ?_; rintro e w' ⟨rfl, rfl⟩)
    | (go_at_call 12; refine (band_any _ _).mono ?_; rintro e w' ⟨rfl, rfl⟩))
  go_ret
  exact ⟨rfl, Below.refl _ _⟩

theorem below2 {w w1 w2 : World} (h1 : Below w.heap.size w w1) (h2 : Below w1.heap.size w1 w2) : Below w.heap.size w w2 := h1.trans (h2.mono h1.size)

/-- A box of four cells, read later. -/
theorem box4 {w w2 : World} {v0 v1 v2 v3 : Value} {t : TypeId} (h : Below (w.alloc (.cells #[v0, v1, v2, v3] t)).heap.size (w.alloc (.cells #[v0, v1, v2, v3] t)) w2) :
    w2.cell? ⟨w.heap.size, 0, none⟩ = some v0 ∧ w2.cell? ⟨w.heap.size, 1, none⟩ = some v1 ∧ w2.cell? ⟨w.heap.size, 2, none⟩ = some v2 ∧ w2.cell? ⟨w.heap.size, 3, none⟩ = some v3 := by
  have e : ∀ i : Nat, w2.cell? ⟨w.heap.size, i, none⟩ = #[v0, v1, v2, v3][i]? := fun i => (h.cell (p := ⟨w.heap.size, i, none⟩) (by simp)).trans (World.cell?_alloc_at _ _ _ _ rfl)
  exact ⟨e 0, e 1, e 2, e 3⟩

set_option maxHeartbeats 400000 in
theorem fnExactPersonValid_walk (w : World) (a j s p : Int) : Calls Try.prog 5 #[.agg #[.int .i64 a, .int .i64 j, .int .i64 s, .int .i64 p]] w fun e w' => e = .returned (.bool true) ∧ Below w.heap.size w w' := by
  have hne : (okB ⟨a, j, s, p⟩ != okB ⟨a, j, s, p⟩) = false := by simp
  go_enter Try.func5, Try.ntmps5
  go_wp2_with fail
  refine (toPerson_any _ _ _ _ _).mono ?_
  rintro e w1 ⟨rfl, hb1⟩
  go_wp2_with fail
  refine (sPersonValid_any _ _ _ _ _).mono ?_
  rintro e w2 ⟨rfl, hb2⟩
  obtain ⟨q0, q1, q2, q3⟩ := box4 (below2 hb1 hb2)
  go_wp2_with fail
  refine (toPerson_any _ _ _ _ _).mono ?_
  rintro e w3 ⟨rfl, hb3⟩
  go_wp2_with fail
  refine (personValid_any _ _ _ _ _).mono ?_
  rintro e w4 ⟨rfl, hb4⟩
  go_wp2
  go_ret
  have hb0 : Below w.heap.size w (w.alloc (.cells #[.int .i64 a, .int .i64 j, .int .i64 s, .int .i64 p] 26)) := below_new _ _
  exact ⟨rfl, below2 hb0 (below2 hb1 (below2 hb2 (below2 hb3 hb4)))⟩

set_option maxHeartbeats 400000 in
theorem fnExactPeopleValid_walk (w : World) (A : Option Addr) (n c : Nat) (hin : PeopleIn w A n c) : Calls Try.prog 9 #[.slice A n c] w fun e w' => e = .returned (.bool true) ∧ Below w.heap.size w w' := by
  obtain ⟨_, hn, L, rfl, hA⟩ := hin
  by_cases hbig : (1048576 : Int) - L.length < 0
  · go_enter Try.func9, Try.ntmps9
    go_wp2_with (go_at_call 18; refine (szPersonS_any _ _ _ _ _ hn (by omega) (by omega)).mono ?_; rintro e w' ⟨rfl, rfl⟩; rw [if_pos (by omega)])
    go_ret
    exact ⟨rfl, Below.refl _ _⟩
  · have hm : L.length ≤ 1048576 := by omega
    have hne : (peopleB L != peopleB L) = false := by simp
    have he : eqAllB L L = true := eqAllB_iff.2 rfl
    go_enter Try.func9, Try.ntmps9
    go_wp2_with fail
    refine (szPersonS_any _ _ _ _ _ hn (by omega) (by omega)).mono ?_
    rintro e w' ⟨rfl, rfl⟩
    rw [if_neg (by omega)]
    go_wp2_with fail
    refine (toPersonS_any A c L _ hA hm).mono ?_
    rintro e w1 ⟨g1, rfl, _, hf1, hb1⟩
    go_wp2_with fail
    refine (sPeopleValid_any _ _ L _ (hf1.seen (Nat.le_refl _)) (by omega)).mono ?_
    rintro e w2 ⟨rfl, hb2⟩
    have hb02 := below2 hb1 hb2
    go_wp2_with fail
    refine (toPersonS_any A c L _ (hA.below hb02) hm).mono ?_
    rintro e w3 ⟨g3, rfl, _, hf3, hb3⟩
    have hb03 := below2 hb02 hb3
    have hs3 := hf3.seen (Nat.le_refl _)
    go_wp2_with fail
    refine (peopleValid_any _ _ L _ hs3 (by omega)).mono ?_
    rintro e w4 ⟨rfl, hb4⟩
    have hb04 := below2 hb03 hb4
    have hs4 := hs3.below hb4
    go_wp2_with fail
    refine (toPersonS_any A c L _ (hA.below hb04) hm).mono ?_
    rintro e w5 ⟨g5, rfl, _, hf5, hb5⟩
    have hb05 := below2 hb04 hb5
    have hs5 := hs4.below hb5
    go_wp2_with fail
    refine (eqPersonS_any _ _ _ _ L L _ hs5 (hf5.seen (Nat.le_refl _)) (by omega) (by omega)).mono ?_
    rintro e w6 ⟨rfl, hb6⟩
    go_wp2
    go_ret
    exact ⟨rfl, below2 hb05 hb6⟩

end Go.Proofs.Ytljlebaallcekaa
