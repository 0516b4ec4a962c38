/- Walk of the law FnLadderCode. -/
import Derived.Test.YtfggfblneggncaaLxc
import Derived.Test.YtfggfblneggncaaLyc
import Derived.Test.YtfggfblneggncaaDc
namespace Go.Proofs.Ytfggfblneggncaa
open Go.RowKit
set_option linter.unusedVariables false

set_option maxRecDepth 100000 in
set_option maxHeartbeats 3200000 in
theorem fnLadderCode_walk (w : World) (A : Option Addr) (n c : Nat) (hin : BytesIn w A n c) :
    Calls Try.prog 8 #[.slice A n c] w fun e w' => e = .returned (.bool true) ∧ Below w.heap.size w w' := by
  have hn := hin.2.1
  by_cases hbig : 1048576 < n
  · have hd : decide (1048576 < (n : Int)) = true := by simp; omega
    go_enter Try.func8, Try.ntmps8
    go_wp2
    go_ret
    exact ⟨rfl, Below.refl _ _⟩
  have hd : decide (1048576 < (n : Int)) = false := by simp; omega
  go_enter Try.func8, Try.ntmps8
  go_wp2_with fail
  refine (drawLadderCode_any A n c w hin).mono ?_
  rintro e w1 ⟨B, m, d, R, lv, x, rfl, hR, hm, hrow, hlv, hx, hL1, hb1⟩
  have HR := Lib.hid hR
  have HW := Lib.hid (fun r hr => Nat.le_trans (hrow r hr) (show 4 ≤ 1099511627776 by omega))
  clear hR hrow
  go_wp2_with fail
  refine (ladderCodeL_any _ _ _ R _ _ _ hL1.s HR.out (by omega) HW.out).mono ?_
  rintro e w' ⟨rfl, rfl⟩
  go_wp2_with fail
  refine (sLadderCodeL_any _ _ _ R _ _ _ hL1.s HR.out (by omega) HW.out).mono ?_
  rintro e w2 ⟨rfl, hb2⟩
  have hL2 := hL1.below hb2
  have hb02 := below2 hb1 hb2
  have hmd : m ≤ d := by rw [← HR.out]; exact hL2.2.1
  clear hL1 hb1 hb2
  cases hok : codeOk (ss R) lv x
  · rw [codeI_no hok]
    go_wp2
    go_ret
    exact ⟨rfl, hb02⟩
  rw [codeI_yes hok]
  obtain ⟨hRv, ⟨l0, l1⟩, x0, x3⟩ := codeOk_iff.1 hok
  rw [ss_length, HR.out] at l1
  obtain ⟨f1, f2, f3, f4⟩ := code_facts hok
  have fN := code_next hok
  obtain ⟨o, ho⟩ : ∃ o, lcode (ss R) lv x = o := ⟨_, rfl⟩
  rw [ho] at f1 f2 f3 f4 fN ⊢
  have HO := Lib.hid ho
  have HOK := Lib.hid hok
  have HRV := Lib.hid hRv
  have HF1 := Lib.hid f1
  have HF2 := Lib.hid f2
  have HFN := Lib.hid fN
  have hoo : (o != o) = false := by simp
  have hoe : (o == o) = true := by simp
  clear ho hok hRv f1 f2 fN
  go_wp2_with fail
  refine (ladderCodeL_any _ _ _ R _ _ _ hL2.s HR.out (by omega) HW.out).mono ?_
  rintro e w' ⟨rfl, rfl⟩
  rw [codeI_yes HF1.out, HF1.out, HF2.out]
  have y1 := HFN.out.1
  have y2 := HFN.out.2.1
  have y3 := HFN.out.2.2
  rw [ss_length, HR.out] at y1 y2
  have Y1 := Lib.hid y1
  have Y2 := Lib.hid y2
  have Y3 := Lib.hid y3
  clear y1 y2 y3
  go_wp2_with fail
  refine (ladderCodeL_any _ _ _ R _ _ _ hL2.s HR.out (by omega) HW.out).mono ?_
  rintro e w' ⟨rfl, rfl⟩
  rw [Y1.out, Y3.out]
  go_wp2_with fail
  refine (ladderCodeL_any _ _ _ R _ _ _ hL2.s HR.out (by omega) HW.out).mono ?_
  rintro e w' ⟨rfl, rfl⟩
  rw [Y2.out]
  obtain ⟨z, hz⟩ : ∃ z, codeI (ss R) (lv + 1) o = z := ⟨_, rfl⟩
  rw [hz]
  clear hz
  have hzz : (z == z) = true := by simp
  have ho3 : decide (o ≤ x) = true := by simpa using f3
  by_cases hlt : lv < (m : Int)
  · have hl1 : decide (lv < (m : Int)) = true := by simpa using hlt
    rw [hl1]
    go_wp2
    go_ret
    exact ⟨ret_bool (by simp), hb02⟩
  · have hl1 : decide (lv < (m : Int)) = false := by simpa using hlt
    rw [hl1]
    go_wp2
    go_ret
    exact ⟨ret_bool (by simp), hb02⟩

end Go.Proofs.Ytfggfblneggncaa
