/- Contracts of RecodeValid (program and reference). -/
import Derived.Test.YtepnfljhoapdmaaRp
import Derived.Test.YtepnfljhoapdmaaLv
import Derived.Test.YtepnfljhoapdmaaLw
import Derived.Test.YtepnfljhoapdmaaPv
namespace Go.Proofs.Ytepnfljhoapdmaa
open Go.RowKit
set_option linter.unusedVariables false

theorem recOk_n {R : List Rw} {n : Nat} (hn : R.length = n) (a j s : Int) : recOk (ss R) ⟨a, j, s⟩ = (ladB (ss R) && (decide (0 ≤ a) && (decide (a ≤ (n : Int)) && (sexB j && sexB s)))) := by
  unfold recOk; rw [ss_length, hn]
theorem inB_sex (x : Int) : inB x 0 1 = sexB x := by rw [Bool.eq_iff_iff, inB_iff, sexB_iff]
theorem recOk_in {R : List Rw} {n : Nat} (hn : R.length = n) (a j s : Int) : recOk (ss R) ⟨a, j, s⟩ = (ladB (ss R) && (inB a 0 n && (inB j 0 1 && inB s 0 1))) := by
  rw [recOk_n hn, inB_sex, inB_sex]
  unfold inB
  cases ladB (ss R) <;> cases decide (0 ≤ a) <;> cases decide (a ≤ (n : Int)) <;> rfl

set_option maxHeartbeats 3200000 in
theorem recodeValid_any (A : Option Addr) (n c : Nat) (R : List Rw) (a j s : Int) (w : World) (hA : LadS w A R) (hn : R.length = n) (hm : n ≤ 1099511627776) (hr : ∀ r ∈ R, r.s.length ≤ 1099511627776) :
    Calls Try.prog 41 #[.slice A n c, .agg #[.int .i64 a, .int .i64 j, .int .i64 s]] w fun e w' => e = .returned (.bool (recOk (ss R) ⟨a, j, s⟩)) ∧ Below w.heap.size w w' := by
  have HQ := Lib.hid (recOk_n hn a j s)
  have HA := Lib.hid (hA.below (below_new w (.cells #[.int .i64 a, .int .i64 j, .int .i64 s] 26)))
  have HN := Lib.hid hn
  have HW := Lib.hid hr
  clear hA hn hr
  cases h1 : ladB (ss R) <;> cases h2 : decide (0 ≤ a) <;> cases h3 : decide (a ≤ (n : Int)) <;> cases h4 : sexB j
  all_goals
    go_enter Try.func41, Try.ntmps41
    go_wp2_with (first
      | (go_at_call 51; refine (ladderValid_any _ _ _ R _ HA.out HN.out hm HW.out).mono ?_; rintro e w' ⟨rfl, rfl⟩)
      | (go_at_call 52; refine (isSex_any _ _).mono ?_; rintro e w' ⟨rfl, rfl⟩))
    go_ret
    exact ⟨ret_bool (by rw [HQ.out, h1, h2, h3, h4]; simp), below_new _ _⟩

set_option maxHeartbeats 3200000 in
theorem sRecodeValid_any (A : Option Addr) (n c : Nat) (R : List Rw) (a j s : Int) (w : World) (hA : LadS w A R) (hn : R.length = n) (hm : n ≤ 1099511627776) (hr : ∀ r ∈ R, r.s.length ≤ 1099511627776) :
    Calls Try.prog 56 #[.slice A n c, .agg #[.int .i64 a, .int .i64 j, .int .i64 s]] w fun e w' => e = .returned (.bool (recOk (ss R) ⟨a, j, s⟩)) ∧ Below w.heap.size w w' := by
  have HQ := Lib.hid (recOk_in hn a j s)
  have HA := Lib.hid (hA.below (below_new w (.cells #[.int .i64 a, .int .i64 j, .int .i64 s] 26)))
  have HN := Lib.hid hn
  have HW := Lib.hid hr
  clear hA hn hr
  cases h1 : ladB (ss R) <;> cases h2 : inB a 0 n <;> cases h4 : inB j 0 1
  all_goals
    go_enter Try.func56, Try.ntmps56
    go_wp2_with fail
    refine (sLadderValid_any _ _ _ R _ HA.out HN.out hm HW.out).mono ?_
    rintro e w1 ⟨rfl, hb1⟩
    have hb := below2 (below_new w (.cells #[.int .i64 a, .int .i64 j, .int .i64 s] 26)) hb1
    have hx : w1.heap[w.heap.size]? = some (.cells #[.int .i64 a, .int .i64 j, .int .i64 s] 26 (0, 0)) := (hb1.block _ (by simp)).trans (heap_alloc_new _ _)
    have g0 : w1.cell? ⟨w.heap.size, 0, none⟩ = some (.int .i64 a) := cell_of_row w1 _ 0 _ _ _ hx
    have g1 : w1.cell? ⟨w.heap.size, 1, none⟩ = some (.int .i64 j) := cell_of_row w1 _ 1 _ _ _ hx
    have g2 : w1.cell? ⟨w.heap.size, 2, none⟩ = some (.int .i64 s) := cell_of_row w1 _ 2 _ _ _ hx
    clear hx hb1
    rw [h1]
    go_wp2_with (go_at_call 37; refine (l6In_any _ _ _ _).mono ?_; rintro e w' ⟨rfl, rfl⟩)
    go_ret
    exact ⟨ret_bool (by rw [HQ.out, h1, h2, h4]; simp), hb⟩

end Go.Proofs.Ytepnfljhoapdmaa
