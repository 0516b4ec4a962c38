/- Walk of the law FnLadderGroups. -/
import Derived.Test.YtfggfblneggncaaLxg
import Derived.Test.YtfggfblneggncaaLyg
import Derived.Test.YtfggfblneggncaaDg
namespace Go.Proofs.Ytfggfblneggncaa
open Go.RowKit
set_option linter.unusedVariables false

set_option maxRecDepth 100000 in
set_option maxHeartbeats 3200000 in
theorem fnLadderGroups_walk (w : World) (A : Option Addr) (n c : Nat) (hin : BytesIn w A n c) :
    Calls Try.prog 12 #[.slice A n c] w fun e w' => e = .returned (.bool true) ∧ Below w.heap.size w w' := by
  have hn := hin.2.1
  by_cases hbig : 1048576 < n
  · have hd : decide (1048576 < (n : Int)) = true := by simp; omega
    go_enter Try.func12, Try.ntmps12
    go_wp2
    go_ret
    exact ⟨rfl, Below.refl _ _⟩
  have hd : decide (1048576 < (n : Int)) = false := by simp; omega
  go_enter Try.func12, Try.ntmps12
  go_wp2_with fail
  refine (drawLadderGroups_any A n c w hin).mono ?_
  rintro e w1 ⟨B, m, d, R, lv, rfl, hR, hm, hrow, hlv, hL1, hb1⟩
  have HR := Lib.hid hR
  have HW := Lib.hid (fun r hr => Nat.le_trans (hrow r hr) (show 4 ≤ 1099511627776 by omega))
  clear hR hrow
  go_wp2_with fail
  refine (ladderGroups_any _ _ _ R _ _ hL1.s HR.out (by omega) HW.out).mono ?_
  rintro e w' ⟨rfl, rfl⟩
  go_wp2_with fail
  refine (sLadderGroups_any _ _ _ R _ _ hL1.s HR.out (by omega) HW.out).mono ?_
  rintro e w2 ⟨rfl, hb2⟩
  have hL2 := hL1.below hb2
  have hb02 := below2 hb1 hb2
  clear hL1 hb1 hb2
  cases hok : lvlOk (ss R) lv
  · rw [groupsI_no hok]
    go_wp2
    go_ret
    exact ⟨rfl, hb02⟩
  obtain ⟨hRv, l0, l1⟩ := lvlOk_iff.1 hok
  rw [ss_length, HR.out] at l1
  obtain ⟨f1, f2, f3, f4⟩ := groups_facts hok
  obtain ⟨o, ho⟩ : ∃ o, groupsI (ss R) lv = o := ⟨_, rfl⟩
  rw [ho] at f1 f2 f3 f4 ⊢
  have HO := Lib.hid ho
  have HOK := Lib.hid hok
  have HRV := Lib.hid hRv
  have hoo : (o != o) = false := by simp
  have ho0 : decide (o < 0) = false := by simp; omega
  clear ho hok hRv
  go_wp2_with fail
  refine (ladderGroups_any _ _ _ R _ _ hL2.s HR.out (by omega) HW.out).mono ?_
  rintro e w' ⟨rfl, rfl⟩
  obtain ⟨z, hz⟩ : ∃ z, groupsI (ss R) (lv + 1) = z := ⟨_, rfl⟩
  rw [hz] at f4 ⊢
  clear hz
  have g1 : decide (1 ≤ o) = true := by simpa using f1
  have g2 : decide (o ≤ 4) = true := by simpa using f2
  have g4 : decide (z ≤ o) = true := by simpa using f4
  rcases f3 with f3 | f3
  · have g3 : decide (0 < lv) = true := by simpa using f3
    go_wp2
    go_ret
    exact ⟨ret_bool (by simp), hb02⟩
  · have g3 : (o == 4) = true := by simpa using f3
    clear f3
    by_cases h0 : 0 < lv
    · have g5 : decide (0 < lv) = true := by simpa using h0
      go_wp2
      go_ret
      exact ⟨ret_bool (by simp), hb02⟩
    · have g5 : decide (0 < lv) = false := by simpa using h0
      go_wp2
      go_ret
      exact ⟨ret_bool (by simp), hb02⟩

end Go.Proofs.Ytfggfblneggncaa
