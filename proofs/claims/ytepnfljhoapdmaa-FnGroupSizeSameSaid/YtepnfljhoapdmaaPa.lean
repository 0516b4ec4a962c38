/- Contracts of the smallest functions: isCode, l6In. No conditions. -/
import Derived.Test.YtepnfljhoapdmaaProg
import Derived.Test.YtepnfljhoapdmaaPl
import Derived.WalkKit
import Derived.WalkSpells
import Derived.WalkLawsBesides
import Derived.Lib.Hide
namespace Go.Proofs.Ytepnfljhoapdmaa
open Go.RowKit

theorem ret_bool {a b : Bool} (h : a = b) : Ending.returned (.bool a) = .returned (.bool b) := by rw [h]
theorem ret_int {k : IntKind} {a b : Int} (h : a = b) : Ending.returned (.int k a) = .returned (.int k b) := by rw [h]

/-- n lies from low to high. -/
def inB (n low high : Int) : Bool := decide (low ≤ n) && decide (n ≤ high)
theorem inB_iff {n l h : Int} : inB n l h = true ↔ l ≤ n ∧ n ≤ h := by unfold inB; simp

theorem below2 {w w1 w2 : World} (h1 : Below w.heap.size w w1) (h2 : Below w1.heap.size w1 w2) : Below w.heap.size w w2 := h1.trans (h2.mono h1.size)
theorem below_new (w : World) (o : Obj) : Below w.heap.size w (w.alloc o) := (Below.refl _ _).alloc (Nat.le_refl _) o

set_option maxHeartbeats 400000 in
theorem l6In_any (n l h : Int) (w : World) : Calls Try.prog 37 #[.int .i64 n, .int .i64 l, .int .i64 h] w fun e w' => e = .returned (.bool (inB n l h)) ∧ w = w' := by
  cases hd : decide (l ≤ n)
  all_goals
    go_enter Try.func37, Try.ntmps37
    go_wp2
    go_ret
    exact ⟨ret_bool (by unfold inB; rw [hd]; rfl), rfl⟩

set_option maxHeartbeats 400000 in
theorem isCode_any (c : Int) (w : World) : Calls Try.prog 58 #[.int .i64 c] w fun e w' => e = .returned (.bool (codeB c)) ∧ w = w' := by
  cases hd : decide (0 ≤ c)
  all_goals
    go_enter Try.func58, Try.ntmps58
    go_wp2
    go_ret
    exact ⟨ret_bool (by unfold codeB; rw [hd]; rfl), rfl⟩

end Go.Proofs.Ytepnfljhoapdmaa
