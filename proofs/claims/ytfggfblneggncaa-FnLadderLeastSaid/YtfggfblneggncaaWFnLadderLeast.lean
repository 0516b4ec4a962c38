/- Walk of the law FnLadderLeast. -/
import Derived.Test.YtfggfblneggncaaLxc
import Derived.Test.YtfggfblneggncaaLyc
import Derived.Test.YtfggfblneggncaaDc
namespace Go.Proofs.Ytfggfblneggncaa
open Go.RowKit
set_option linter.unusedVariables false

set_option maxRecDepth 100000 in
set_option maxHeartbeats 3200000 in
theorem fnLadderLeast_walk (w : World) (A : Option Addr) (n c : Nat) (hin : BytesIn w A n c) (A' : Option Addr) (n' c' : Nat) (hin' : BytesIn w A' n' c') :
    Calls Try.prog 10 #[.slice A n c, .slice A' n' c'] w fun e w' => e = .returned (.bool true) ∧ Below w.heap.size w w' := by
  have hn := hin.2.1
  have hn' := hin'.2.1
  by_cases hbig : 1048576 < n
  · have hd : decide (1048576 < (n : Int)) = true := by simp; omega
    go_enter Try.func10, Try.ntmps10
    go_wp2
    go_ret
    exact ⟨rfl, Below.refl _ _⟩
  have hd : decide (1048576 < (n : Int)) = false := by simp; omega
  by_cases hbig' : 1048576 < n'
  · have hd' : decide (1048576 < (n' : Int)) = true := by simp; omega
    go_enter Try.func10, Try.ntmps10
    go_wp2
    go_ret
    exact ⟨rfl, Below.refl _ _⟩
  have hd' : decide (1048576 < (n' : Int)) = false := by simp; omega
  go_enter Try.func10, Try.ntmps10
  go_wp2_with fail
  refine (drawLadderCode_any A n c w hin).mono ?_
  rintro e w1 ⟨B, m, d, R, lv, x, rfl, hR, hm, hrow, hlv, hx, hL1, hb1⟩
  have HR := Lib.hid hR
  have HW := Lib.hid (fun r hr => Nat.le_trans (hrow r hr) (show 4 ≤ 1099511627776 by omega))
  clear hR hrow
  go_wp2_with fail
  refine (ladderCodeL_any _ _ _ R _ _ _ hL1.s HR.out (by omega) HW.out).mono ?_
  rintro e w' ⟨rfl, rfl⟩
  go_wp2_with fail
  refine (sLadderCodeL_any _ _ _ R _ _ _ hL1.s HR.out (by omega) HW.out).mono ?_
  rintro e w2 ⟨rfl, hb2⟩
  have hL2 := hL1.below hb2
  have hb02 := below2 hb1 hb2
  have hmd : m ≤ d := by rw [← HR.out]; exact hL2.2.1
  clear hL1 hb1 hb2
  cases hok : codeOk (ss R) lv x
  · rw [codeI_no hok]
    go_wp2
    go_ret
    exact ⟨rfl, hb02⟩
  rw [codeI_yes hok]
  obtain ⟨hRv, ⟨l0, l1⟩, x0, x3⟩ := codeOk_iff.1 hok
  rw [ss_length, HR.out] at l1
  obtain ⟨f1, f2, f3, f4⟩ := code_facts hok
  have fN := code_next hok
  obtain ⟨o, ho⟩ : ∃ o, lcode (ss R) lv x = o := ⟨_, rfl⟩
  rw [ho] at f1 f2 f3 f4 fN ⊢
  have HO := Lib.hid ho
  have HOK := Lib.hid hok
  have HRV := Lib.hid hRv
  have HF1 := Lib.hid f1
  have HF2 := Lib.hid f2
  have HFN := Lib.hid fN
  have hoo : (o != o) = false := by simp
  have hoe : (o == o) = true := by simp
  clear ho hok hRv f1 f2 fN
  have hk1 : 0 ≤ (n' : Int) % (lv + 1) := Int.emod_nonneg _ (by omega)
  have hk2 : (n' : Int) % (lv + 1) < lv + 1 := Int.emod_lt_of_pos _ (by omega)
  obtain ⟨k, hk⟩ : ∃ k : Int, k = (n' : Int) % (lv + 1) := ⟨_, rfl⟩
  have hkok : codeOk (ss R) k o = true := codeOk_mk HRV.out (by omega) (by rw [ss_length, HR.out]; omega) f4 (by omega)
  obtain ⟨_, _, k3, _⟩ := code_facts hkok
  have HKOK := Lib.hid hkok
  clear hkok
  go_wp2_with fail
  rw [← hk]
  clear hk hk1 hk2
  refine (ladderCodeL_any _ _ _ R _ _ _ hL2.s HR.out (by omega) HW.out).mono ?_
  rintro e w' ⟨rfl, rfl⟩
  rw [codeI_yes HKOK.out, HKOK.out]
  go_wp2_with fail
  refine (ladderCodeL_any _ _ _ R _ _ _ hL2.s HR.out (by omega) HW.out).mono ?_
  rintro e w' ⟨rfl, rfl⟩
  rw [codeI_yes HF1.out, HF1.out, HF2.out]
  have k4 : decide (lcode (ss R) k o ≤ o) = true := by simpa using k3
  go_wp2
  go_ret
  exact ⟨ret_bool (by simp), hb02⟩

end Go.Proofs.Ytfggfblneggncaa
