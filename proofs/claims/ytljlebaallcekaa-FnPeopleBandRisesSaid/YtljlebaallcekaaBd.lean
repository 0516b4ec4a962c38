/- Contracts of PeopleBand (program and reference), for every number. -/
import Derived.Test.YtljlebaallcekaaPv
namespace Go.Proofs.Ytljlebaallcekaa
open Go.RowKit

set_option maxHeartbeats 400000 in
theorem band_any (n : Int) (w : World) : Calls Try.prog 12 #[.int .i64 n] w fun e w' => e = .returned (.int .i64 (bandI n)) ∧ w = w' := by
  by_cases h1 : n < 0
  · have hf := Lib.hid (show bandI n = -1 by unfold bandI; rw [if_neg (by omega)])
    have hd : decide (n < 0) = true := by simpa using h1
    go_enter Try.func12, Try.ntmps12
    go_wp2
    go_ret
    exact ⟨ret_int hf.out.symm, rfl⟩
  · have hd : decide (n < 0) = false := by simpa using h1
    by_cases h2 : 999 < n
    · have hf := Lib.hid (show bandI n = -1 by unfold bandI; rw [if_neg (by omega)])
      go_enter Try.func12, Try.ntmps12
      go_wp2
      go_ret
      exact ⟨ret_int hf.out.symm, rfl⟩
    · have hf := Lib.hid (show bandI n = n / 100 by unfold bandI; rw [if_pos (by omega)])
      go_enter Try.func12, Try.ntmps12
      go_wp2
      go_ret
      exact ⟨ret_int hf.out.symm, rfl⟩

set_option maxHeartbeats 400000 in
theorem sBand_any (n : Int) (w : World) : Calls Try.prog 11 #[.int .i64 n] w fun e w' => e = .returned (.int .i64 (bandI n)) ∧ w = w' := by
  cases h : inB n 0 999
  · have hf := Lib.hid (show bandI n = -1 by
      have := (not_congr (inB_iff (n := n) (l := 0) (h := 999))).1 (by rw [h]; simp)
      unfold bandI; rw [if_neg this])
    go_enter Try.func11, Try.ntmps11
    go_wp2_with (go_at_call 24; refine (l6In_any _ _ _ _).mono ?_; rintro e w' ⟨rfl, rfl⟩)
    go_ret
    exact ⟨ret_int hf.out.symm, rfl⟩
  · have hr := inB_iff.1 h
    obtain ⟨h0, h1⟩ := hr
    have hf := Lib.hid (show bandI n = n / 100 by unfold bandI; rw [if_pos ⟨h0, h1⟩])
    go_enter Try.func11, Try.ntmps11
    go_wp2_with (go_at_call 24; refine (l6In_any _ _ _ _).mono ?_; rintro e w' ⟨rfl, rfl⟩)
    go_ret
    exact ⟨ret_int hf.out.symm, rfl⟩

end Go.Proofs.Ytljlebaallcekaa
