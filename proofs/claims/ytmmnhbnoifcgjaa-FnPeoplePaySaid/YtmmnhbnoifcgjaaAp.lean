/- Contract of DrawPeoplePay. -/
import Derived.Test.YtmmnhbnoifcgjaaAk
namespace Go.Proofs.Ytmmnhbnoifcgjaa
open Go.RowKit
set_option linter.unusedVariables false

set_option maxHeartbeats 800000 in
theorem drawPeoplePay_any (A : Option Addr) (n c : Nat) (w : World) (hin : BytesIn w A n c) : Calls Try.prog 21 #[.slice A n c] w (ManyPost w) := by
  go_enter Try.func21, Try.ntmps21
  go_wp2_with fail
  refine (drawPeopleMany_any A n c w hin).mono ?_
  rintro e w1 ⟨A1, c1, L, x, y, z, rfl, hP, hm, hb⟩
  go_wp2
  refine bodyPost_ret (results_tmp4 rfl _ _ _) rfl ?_
  exact ⟨A1, c1, L, x, y, z, rfl, hP, hm, hb⟩

end Go.Proofs.Ytmmnhbnoifcgjaa
