/- Contracts of the program's functions: ladderCode, LadderCode, LadderGroups. -/
import Derived.Test.YtepnfljhoapdmaaLv
import Derived.Test.YtepnfljhoapdmaaLb
namespace Go.Proofs.Ytepnfljhoapdmaa
open Go.RowKit
set_option linter.unusedVariables false

set_option maxHeartbeats 800000 in
theorem ladderCode_any (A : Option Addr) (n c : Nat) (R : List Rw) (lv x : Int) (w : World) (hA : LadS w A R) (hn : R.length = n) (hl : ladB (ss R) = true) (h0 : 0 ≤ lv) (h1 : lv ≤ n) (x0 : 0 ≤ x) (x3 : x ≤ 3) :
    Calls Try.prog 42 #[.slice A n c, .int .i64 lv, .int .i64 x] w fun e w' => e = .returned (.int .i64 (lcode (ss R) lv x)) ∧ w = w' := by
  have hn3 : n ≤ 3 := by have := (ladB_iff.1 hl).1; rw [ss_length, hn] at this; exact this
  by_cases hz : lv = 0
  · subst hz
    rw [lcode_zero]
    clear hA hn hl
    go_enter Try.func42, Try.ntmps42
    go_wp2
    go_ret
    exact ⟨rfl, rfl⟩
  · obtain ⟨k, rfl⟩ : ∃ k : Nat, lv = (k : Int) + 1 := ⟨(lv - 1).toNat, by omega⟩
    rw [lcode_succ]
    obtain ⟨⟨Ar, cr, s⟩, hx⟩ : ∃ r, R[k]? = some r := ⟨_, List.getElem?_eq_getElem (by omega)⟩
    obtain ⟨b, o, rfl, hlt, hc⟩ := hA.1 (by rw [vals_length]; omega)
    have g0 := lad_row hc hx
    have hrow := rowOf_get (ss_at hx)
    have hs := hA.2 _ (List.mem_of_getElem? hx)
    have hst := (stepB_iff.1 (okRow_iff.1 ((ladB_iff.1 hl).2 k (by rw [ss_length]; omega))).1).1
    simp only at g0 hrow hs
    rw [hrow] at hst ⊢
    rw [hst] at g0
    obtain ⟨b', o', rfl, hcell⟩ := row_four hs hst
    have gx := hcell x x0 x3
    obtain ⟨y, hy⟩ : ∃ y, nth s x = y := ⟨_, rfl⟩
    rw [hy] at gx ⊢
    have hne : (((k : Int) + 1) == 0) = false := by simp; omega
    have x4 : x < 4 := by omega
    have k1 : (k : Int) < (n : Int) := by omega
    clear hA hn hl hx hc hrow hs hst hcell hy hz h1
    go_enter Try.func42, Try.ntmps42
    go_wp2
    go_ret
    exact ⟨rfl, rfl⟩

end Go.Proofs.Ytepnfljhoapdmaa
