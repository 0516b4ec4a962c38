/- Contracts of the small functions on one person: isCode, isSex, PersonValid, l6In, PeopleBand (program and reference). No conditions. -/
import Derived.Test.YtmmnhbnoifcgjaaProg
import Derived.Test.YtmmnhbnoifcgjaaPl
import Derived.WalkKit
import Derived.WalkSpells
import Derived.WalkLawsBesides
import Derived.Lib.Hide
namespace Go.Proofs.Ytmmnhbnoifcgjaa
open Go.RowKit

theorem ret_bool {a b : Bool} (h : a = b) : Ending.returned (.bool a) = .returned (.bool b) := by rw [h]
theorem ret_int {k : IntKind} {a b : Int} (h : a = b) : Ending.returned (.int k a) = .returned (.int k b) := by rw [h]

/-- n lies from low to high. -/
def inB (n low high : Int) : Bool := decide (low ≤ n) && decide (n ≤ high)
theorem inB_iff {n l h : Int} : inB n l h = true ↔ l ≤ n ∧ n ≤ h := by unfold inB; simp

theorem below2 {w w1 w2 : World} (h1 : Below w.heap.size w w1) (h2 : Below w1.heap.size w1 w2) : Below w.heap.size w w2 := h1.trans (h2.mono h1.size)
theorem below_new (w : World) (o : Obj) : Below w.heap.size w (w.alloc o) := (Below.refl _ _).alloc (Nat.le_refl _) o

set_option maxHeartbeats 400000 in
theorem l6In_any (n l h : Int) (w : World) : Calls Try.prog 34 #[.int .i64 n, .int .i64 l, .int .i64 h] w fun e w' => e = .returned (.bool (inB n l h)) ∧ w = w' := by
  cases hd : decide (l ≤ n)
  all_goals
    go_enter Try.func34, Try.ntmps34
    go_wp2
    go_ret
    exact ⟨ret_bool (by unfold inB; rw [hd]; rfl), rfl⟩

set_option maxHeartbeats 400000 in
theorem isCode_any (c : Int) (w : World) : Calls Try.prog 36 #[.int .i64 c] w fun e w' => e = .returned (.bool (codeB c)) ∧ w = w' := by
  cases hd : decide (0 ≤ c)
  all_goals
    go_enter Try.func36, Try.ntmps36
    go_wp2
    go_ret
    exact ⟨ret_bool (by unfold codeB; rw [hd]; rfl), rfl⟩

set_option maxHeartbeats 400000 in
theorem isSex_any (c : Int) (w : World) : Calls Try.prog 37 #[.int .i64 c] w fun e w' => e = .returned (.bool (sexB c)) ∧ w = w' := by
  cases hd : (c == 0)
  all_goals
    go_enter Try.func37, Try.ntmps37
    go_wp2
    go_ret
    exact ⟨ret_bool (by unfold sexB; rw [hd]; rfl), rfl⟩

set_option maxHeartbeats 1000000 in
theorem personValid_any (a j s p : Int) (w : World) : Calls Try.prog 39 #[.agg #[.int .i64 a, .int .i64 j, .int .i64 s, .int .i64 p]] w fun e w' => e = .returned (.bool (okB ⟨a, j, s, p⟩)) ∧ Below w.heap.size w w' := by
  cases h1 : codeB a <;> cases h2 : codeB j <;> cases h3 : sexB s <;> cases h4 : decide (0 ≤ p)
  all_goals
    go_enter Try.func39, Try.ntmps39
    go_wp2_with (first
      | (go_at_call 36; refine (isCode_any _ _).mono ?_; rintro e w' ⟨rfl, rfl⟩)
      | (go_at_call 37; refine (isSex_any _ _).mono ?_; rintro e w' ⟨rfl, rfl⟩))
    go_ret
    exact ⟨ret_bool (by simp [okB, h1, h2, h3, h4]), below_new _ _⟩

theorem okB_in (a j s p : Int) : (inB a 0 3 && (inB j 0 3 && inB s 0 1) && inB p 0 999) = okB ⟨a, j, s, p⟩ := by
  rw [Bool.eq_iff_iff]; simp [okB_iff, inB_iff]; omega

set_option maxHeartbeats 1000000 in
theorem sPersonValid_any (a j s p : Int) (w : World) : Calls Try.prog 33 #[.agg #[.int .i64 a, .int .i64 j, .int .i64 s, .int .i64 p]] w fun e w' => e = .returned (.bool (okB ⟨a, j, s, p⟩)) ∧ Below w.heap.size w w' := by
  rw [← okB_in]
  cases h1 : inB a 0 3 <;> cases h2 : inB j 0 3 <;> cases h3 : inB s 0 1
  all_goals
    go_enter Try.func33, Try.ntmps33
    go_wp2_with (go_at_call 34; refine (l6In_any _ _ _ _).mono ?_; rintro e w' ⟨rfl, rfl⟩)
    go_ret
    exact ⟨ret_bool (by simp), below_new _ _⟩

end Go.Proofs.Ytmmnhbnoifcgjaa
