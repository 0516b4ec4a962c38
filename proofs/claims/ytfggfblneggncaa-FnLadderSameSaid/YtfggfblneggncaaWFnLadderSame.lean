/- Walk of the law FnLadderSame. -/
import Derived.Test.YtfggfblneggncaaLxc
import Derived.Test.YtfggfblneggncaaLyc
import Derived.Test.YtfggfblneggncaaDc
namespace Go.Proofs.Ytfggfblneggncaa
open Go.RowKit
set_option linter.unusedVariables false

set_option maxRecDepth 100000 in
set_option maxHeartbeats 3200000 in
theorem fnLadderSame_walk (w : World) (A : Option Addr) (n c : Nat) (hin : BytesIn w A n c) :
    Calls Try.prog 11 #[.slice A n c] w fun e w' => e = .returned (.bool true) ∧ Below w.heap.size w w' := by
  have hn := hin.2.1
  by_cases hbig : 1048576 < n
  · have hd : decide (1048576 < (n : Int)) = true := by simp; omega
    go_enter Try.func11, Try.ntmps11
    go_wp2
    go_ret
    exact ⟨rfl, Below.refl _ _⟩
  have hd : decide (1048576 < (n : Int)) = false := by simp; omega
  go_enter Try.func11, Try.ntmps11
  go_wp2_with fail
  refine (drawLadderCode_any A n c w hin).mono ?_
  rintro e w1 ⟨B, m, d, R, lv, x, rfl, hR, hm, hrow, hlv, hx, hL1, hb1⟩
  have HR := Lib.hid hR
  have HW := Lib.hid (fun r hr => Nat.le_trans (hrow r hr) (show 4 ≤ 1099511627776 by omega))
  clear hR hrow
  go_wp2_with fail
  refine (ladderCodeL_any _ _ _ R _ _ _ hL1.s HR.out (by omega) HW.out).mono ?_
  rintro e w' ⟨rfl, rfl⟩
  go_wp2_with fail
  refine (sLadderCodeL_any _ _ _ R _ _ _ hL1.s HR.out (by omega) HW.out).mono ?_
  rintro e w2 ⟨rfl, hb2⟩
  have hL2 := hL1.below hb2
  have hb02 := below2 hb1 hb2
  have hmd : m ≤ d := by rw [← HR.out]; exact hL2.2.1
  clear hL1 hb1 hb2
  cases hok : codeOk (ss R) lv x
  · rw [codeI_no hok]
    go_wp2
    go_ret
    exact ⟨rfl, hb02⟩
  rw [codeI_yes hok]
  obtain ⟨hRv, ⟨l0, l1⟩, x0, x3⟩ := codeOk_iff.1 hok
  rw [ss_length, HR.out] at l1
  obtain ⟨f1, f2, f3, f4⟩ := code_facts hok
  have fN := code_next hok
  obtain ⟨o, ho⟩ : ∃ o, lcode (ss R) lv x = o := ⟨_, rfl⟩
  rw [ho] at f1 f2 f3 f4 fN ⊢
  have HO := Lib.hid ho
  have HOK := Lib.hid hok
  have HRV := Lib.hid hRv
  have HF1 := Lib.hid f1
  have HF2 := Lib.hid f2
  have HFN := Lib.hid fN
  have hoo : (o != o) = false := by simp
  have hoe : (o == o) = true := by simp
  clear ho hok hRv f1 f2 fN
  have htop : codeOk (ss R) (m : Int) x = true := codeOk_mk HRV.out (by omega) (by rw [ss_length, HR.out]; omega) x0 x3
  have HTOP := Lib.hid htop
  clear htop
  go_wp2_with fail
  refine (ladderCodeL_any _ _ _ R _ _ _ hL2.s HR.out (by omega) HW.out).mono ?_
  rintro e w' ⟨rfl, rfl⟩
  rw [codeI_yes HTOP.out, HTOP.out]
  obtain ⟨tp, htp⟩ : ∃ t, lcode (ss R) (m : Int) x = t := ⟨_, rfl⟩
  rw [htp]
  have HTP := Lib.hid htp
  clear htp
  go_wp2_with fail
  go_loop [12] (fun i => ∃ k : Nat, k ≤ 4 ∧ i = .int .i64 k) (fun i => 4 - (intOf i).toNat)
  case atStart => exact ⟨0, by omega, rfl⟩
  case round =>
    obtain ⟨k, hk, rfl⟩ := hrel
    by_cases hk4 : k < 4
    · have a1 : codeOk (ss R) lv (k : Int) = true := codeOk_mk HRV.out l0 (by rw [ss_length, HR.out]; omega) (by omega) (by omega)
      have a2 : codeOk (ss R) (m : Int) (k : Int) = true := codeOk_mk HRV.out (by omega) (by rw [ss_length, HR.out]; omega) (by omega) (by omega)
      have a3 : lcode (ss R) lv (k : Int) = o → lcode (ss R) (m : Int) (k : Int) = tp := fun e => by
        have := code_top (d := k) HOK.out (by omega) (by omega) (by rw [HO.out]; exact e)
        rw [ss_length, HR.out, HTP.out] at this
        exact this
      have A1 := Lib.hid a1
      have A2 := Lib.hid a2
      have A3 := Lib.hid a3
      clear a1 a2 a3
      go_wp2_with fail
      refine (ladderCodeL_any _ _ _ R _ _ _ hL2.s HR.out (by omega) HW.out).mono ?_
      rintro e w' ⟨rfl, rfl⟩
      rw [codeI_yes A1.out, A1.out]
      go_wp2_with fail
      refine (ladderCodeL_any _ _ _ R _ _ _ hL2.s HR.out (by omega) HW.out).mono ?_
      rintro e w' ⟨rfl, rfl⟩
      rw [codeI_yes A2.out, A2.out]
      obtain ⟨u, hu⟩ : ∃ u, lcode (ss R) lv (k : Int) = u := ⟨_, rfl⟩
      obtain ⟨v, hv⟩ : ∃ v, lcode (ss R) (m : Int) (k : Int) = v := ⟨_, rfl⟩
      rw [hu, hv]
      have huv : u = o → v = tp := fun e => by rw [← hv]; exact A3.out (by rw [hu]; exact e)
      clear hu hv
      cases huo : (u == o)
      · clear huv
        go_wp2
        go_round
        case rel => exact ⟨k + 1, by omega, by go_num⟩
        case measure => simp [intOf]; omega
      · obtain rfl : v = tp := huv (by simpa using huo)
        clear huv
        have hvv : (v != v) = false := by simp
        go_wp2
        go_round
        case rel => exact ⟨k + 1, by omega, by go_num⟩
        case measure => simp [intOf]; omega
    · go_wp2
      go_ret
      exact ⟨rfl, hb02⟩

end Go.Proofs.Ytfggfblneggncaa
