/- Walk of toRecode (contract). -/
import Derived.Test.YtepnfljhoapdmaaBx
import Derived.Deep.DeepCutAuto
namespace Go.Proofs.Ytepnfljhoapdmaa
open Go.RowKit
set_option linter.unusedVariables false

set_option maxHeartbeats 400000 in
theorem toRecode_any (a j s : Int) (w : World) : Calls Try.prog 18 #[.agg #[.int .i64 a, .int .i64 j, .int .i64 s]] w fun e w' => e = .returned (.agg #[.int .i64 a, .int .i64 j, .int .i64 s]) ∧ Below w.heap.size w w' := by
  go_enter Try.func18, Try.ntmps18
  go_wp2
  exact bodyPost_ret (v := .agg #[.int .i64 a, .int .i64 j, .int .i64 s]) (by simp [results, Try.results18, go_sem]) rfl ⟨rfl, below2 (below2 (below_new _ _) (below_new _ _)) (below_new _ _)⟩

end Go.Proofs.Ytepnfljhoapdmaa
