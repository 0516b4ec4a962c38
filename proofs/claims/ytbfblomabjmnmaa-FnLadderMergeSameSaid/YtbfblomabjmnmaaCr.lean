/- Parts of a slice of rows: ladder[:k]. -/
import Derived.Test.YtbfblomabjmnmaaLr
namespace Go.Proofs.Ytbfblomabjmnmaa
open Go.RowKit
set_option linter.unusedVariables false

theorem sSI_elem : Try.prog.underlying 23 = some (.slice (Try.prog.elem 23)) := by kernel_rfl
theorem sSI_size (w : World) : (sizeOf (Try.prog.elem 23)).run Try.prog w = .ok 1 w := by kernel_rfl

/-- ladder[:k] -/
theorem cutR_to (A : Option Addr) (n c k : Nat) (w : World) (hk : k ≤ n) (hc : n ≤ c) : (Instr.slice 23 (.slice A n c) none (some (.int .i64 (k : Int))) none).run Try.prog w = .ok (.slice A k c) w := by
  rw [run_slice_h (P := Try.prog) w 23 A n c sSI_elem .i64 k (by omega) (by omega), sSI_size]
  simp [sliced]
  intro _
  cases A <;> simp [Addr.add]

end Go.Proofs.Ytbfblomabjmnmaa
