/- Contract of the program's PeopleBand, for every number. -/
import Derived.Test.YtmmnhbnoifcgjaaPv
namespace Go.Proofs.Ytmmnhbnoifcgjaa
open Go.RowKit

set_option maxHeartbeats 400000 in
theorem band_any (n : Int) (w : World) : Calls Try.prog 22 #[.int .i64 n] w fun e w' => e = .returned (.int .i64 (bandI n)) ∧ w = w' := by
  by_cases h1 : n < 0
  · have hf := Lib.hid (show bandI n = -1 by unfold bandI; rw [if_neg (by omega)])
    have hd : decide (n < 0) = true := by simpa using h1
    go_enter Try.func22, Try.ntmps22
    go_wp2
    go_ret
    exact ⟨ret_int hf.out.symm, rfl⟩
  · have hd : decide (n < 0) = false := by simpa using h1
    by_cases h2 : 999 < n
    · have hf := Lib.hid (show bandI n = -1 by unfold bandI; rw [if_neg (by omega)])
      go_enter Try.func22, Try.ntmps22
      go_wp2
      go_ret
      exact ⟨ret_int hf.out.symm, rfl⟩
    · have hf := Lib.hid (show bandI n = n / 100 by unfold bandI; rw [if_pos (by omega)])
      go_enter Try.func22, Try.ntmps22
      go_wp2
      go_ret
      exact ⟨ret_int hf.out.symm, rfl⟩

end Go.Proofs.Ytmmnhbnoifcgjaa
