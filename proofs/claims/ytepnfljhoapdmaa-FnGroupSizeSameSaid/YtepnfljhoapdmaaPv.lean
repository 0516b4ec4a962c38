/- Contracts of the small functions on one person: isSex, PersonValid (program and reference). No conditions. -/
import Derived.Test.YtepnfljhoapdmaaPa
namespace Go.Proofs.Ytepnfljhoapdmaa
open Go.RowKit

set_option maxHeartbeats 400000 in
theorem isSex_any (c : Int) (w : World) : Calls Try.prog 52 #[.int .i64 c] w fun e w' => e = .returned (.bool (sexB c)) ∧ w = w' := by
  cases hd : (c == 0)
  all_goals
    go_enter Try.func52, Try.ntmps52
    go_wp2
    go_ret
    exact ⟨ret_bool (by unfold sexB; rw [hd]; rfl), rfl⟩

set_option maxHeartbeats 1000000 in
theorem personValid_any (a j s p : Int) (w : World) : Calls Try.prog 50 #[.agg #[.int .i64 a, .int .i64 j, .int .i64 s, .int .i64 p]] w fun e w' => e = .returned (.bool (okB ⟨a, j, s, p⟩)) ∧ Below w.heap.size w w' := by
  cases h1 : codeB a <;> cases h2 : codeB j <;> cases h3 : sexB s <;> cases h4 : decide (0 ≤ p)
  all_goals
    go_enter Try.func50, Try.ntmps50
    go_wp2_with (first
      | (go_at_call 58; refine (isCode_any _ _).mono ?_; rintro e w' ⟨rfl, rfl⟩)
      | (go_at_call 52; refine (isSex_any _ _).mono ?_; rintro e w' ⟨rfl, rfl⟩))
    go_ret
    exact ⟨ret_bool (by simp [okB, h1, h2, h3, h4]), below_new _ _⟩

theorem okB_in (a j s p : Int) : (inB a 0 3 && (inB j 0 3 && inB s 0 1) && inB p 0 999) = okB ⟨a, j, s, p⟩ := by
  rw [Bool.eq_iff_iff]; simp [okB_iff, inB_iff]; omega

set_option maxHeartbeats 1000000 in
theorem sPersonValid_any (a j s p : Int) (w : World) : Calls Try.prog 60 #[.agg #[.int .i64 a, .int .i64 j, .int .i64 s, .int .i64 p]] w fun e w' => e = .returned (.bool (okB ⟨a, j, s, p⟩)) ∧ Below w.heap.size w w' := by
  rw [← okB_in]
  cases h1 : inB a 0 3 <;> cases h2 : inB j 0 3 <;> cases h3 : inB s 0 1
  all_goals
    go_enter Try.func60, Try.ntmps60
    go_wp2_with (go_at_call 37; refine (l6In_any _ _ _ _).mono ?_; rintro e w' ⟨rfl, rfl⟩)
    go_ret
    exact ⟨ret_bool (by simp), below_new _ _⟩

end Go.Proofs.Ytepnfljhoapdmaa
