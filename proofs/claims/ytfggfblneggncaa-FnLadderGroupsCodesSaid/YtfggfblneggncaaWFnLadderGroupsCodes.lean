/- Walk of the law FnLadderGroupsCodes. -/
import Derived.Test.YtfggfblneggncaaLxg
import Derived.Test.YtfggfblneggncaaLxc
import Derived.Test.YtfggfblneggncaaLyg
import Derived.Test.YtfggfblneggncaaDg
namespace Go.Proofs.Ytfggfblneggncaa
open Go.RowKit
set_option linter.unusedVariables false

set_option maxRecDepth 100000 in
set_option maxHeartbeats 3200000 in
theorem fnLadderGroupsCodes_walk (w : World) (A : Option Addr) (n c : Nat) (hin : BytesIn w A n c) :
    Calls Try.prog 13 #[.slice A n c] w fun e w' => e = .returned (.bool true) ∧ Below w.heap.size w w' := by
  have hn := hin.2.1
  by_cases hbig : 1048576 < n
  · have hd : decide (1048576 < (n : Int)) = true := by simp; omega
    go_enter Try.func13, Try.ntmps13
    go_wp2
    go_ret
    exact ⟨rfl, Below.refl _ _⟩
  have hd : decide (1048576 < (n : Int)) = false := by simp; omega
  go_enter Try.func13, Try.ntmps13
  go_wp2_with fail
  refine (drawLadderGroups_any A n c w hin).mono ?_
  rintro e w1 ⟨B, m, d, R, lv, rfl, hR, hm, hrow, hlv, hL1, hb1⟩
  have HR := Lib.hid hR
  have HW := Lib.hid (fun r hr => Nat.le_trans (hrow r hr) (show 4 ≤ 1099511627776 by omega))
  clear hR hrow
  go_wp2_with fail
  refine (ladderGroups_any _ _ _ R _ _ hL1.s HR.out (by omega) HW.out).mono ?_
  rintro e w' ⟨rfl, rfl⟩
  go_wp2_with fail
  refine (sLadderGroups_any _ _ _ R _ _ hL1.s HR.out (by omega) HW.out).mono ?_
  rintro e w2 ⟨rfl, hb2⟩
  have hL2 := hL1.below hb2
  have hb02 := below2 hb1 hb2
  clear hL1 hb1 hb2
  cases hok : lvlOk (ss R) lv
  · rw [groupsI_no hok]
    go_wp2
    go_ret
    exact ⟨rfl, hb02⟩
  obtain ⟨hRv, l0, l1⟩ := lvlOk_iff.1 hok
  rw [ss_length, HR.out] at l1
  obtain ⟨f1, f2, f3, f4⟩ := groups_facts hok
  obtain ⟨o, ho⟩ : ∃ o, groupsI (ss R) lv = o := ⟨_, rfl⟩
  rw [ho] at f1 f2 f3 f4 ⊢
  have HO := Lib.hid ho
  have HOK := Lib.hid hok
  have HRV := Lib.hid hRv
  have hoo : (o != o) = false := by simp
  have ho0 : decide (o < 0) = false := by simp; omega
  clear ho hok hRv
  have hgo : grpTo (lcode (ss R) lv) 4 = o := by rw [grpTo_four, ← groupsI_yes HOK.out]; exact HO.out
  have HGO := Lib.hid hgo
  have HLV := Lib.hid (lad_lvl HRV.out l0 (by rw [ss_length, HR.out]; exact l1))
  clear hgo f3 f4
  have hcok : ∀ k : Nat, k < 4 → codeOk (ss R) lv (k : Int) = true := fun k hk => codeOk_mk HRV.out l0 (by rw [ss_length, HR.out]; omega) (by omega) (by omega)
  have HC := Lib.hid hcok
  clear hcok
  go_wp2_with fail
  go_loop [7, 8] (fun t i => ∃ (k : Nat) (q : Int), k ≤ 4 ∧ i = .int .i64 k ∧ t = .int .i64 q ∧ 0 ≤ q ∧ q ≤ k ∧ Hid (grpTo (lcode (ss R) lv) k = q)) (fun _ i => 4 - (intOf i).toNat)
  case atStart => exact ⟨0, 0, by omega, rfl, rfl, by omega, by omega, rfl⟩
  case round =>
    obtain ⟨k, q, hk, rfl, rfl, q0, q1, hg⟩ := hrel
    by_cases hk4 : k < 4
    · have C1 := Lib.hid (HC.out k hk4)
      go_wp2_with fail
      refine (ladderCodeL_any _ _ _ R _ _ _ hL2.s HR.out (by omega) HW.out).mono ?_
      rintro e w' ⟨rfl, rfl⟩
      rw [codeI_yes C1.out, C1.out]
      obtain ⟨u, hu⟩ : ∃ u, lcode (ss R) lv (k : Int) = u := ⟨_, rfl⟩
      rw [hu]
      have HU := Lib.hid hu
      clear hu
      go_wp2_with fail
      go_loop [9, 12] (fun b i => ∃ j : Nat, j ≤ k ∧ i = .int .i64 j ∧ b = .bool (freshB (lcode (ss R) lv) k j)) (fun _ i => k - (intOf i).toNat)
      case atStart => exact ⟨0, by omega, rfl, rfl⟩
      case round =>
        obtain ⟨j, hj, rfl, rfl⟩ := hrel
        by_cases hjk : j < k
        · have C2 := Lib.hid (HC.out j (by omega))
          have hfs := fresh_succ (lcode (ss R) lv) k j
          rw [HU.out] at hfs
          have HFS := Lib.hid hfs
          clear hfs
          go_wp2_with fail
          refine (ladderCodeL_any _ _ _ R _ _ _ hL2.s HR.out (by omega) HW.out).mono ?_
          rintro e w' ⟨rfl, rfl⟩
          rw [codeI_yes C2.out, C2.out]
          obtain ⟨v, hv⟩ : ∃ v, lcode (ss R) lv (j : Int) = v := ⟨_, rfl⟩
          rw [hv]
          have HV := Lib.hid hv
          clear hv
          cases hfr : freshB (lcode (ss R) lv) k j
          · have hnx : freshB (lcode (ss R) lv) k (j + 1) = false := by rw [HFS.out, hfr]; rfl
            have HNX := Lib.hid hnx
            clear hnx
            go_wp2
            go_round
            case rel => exact ⟨j + 1, by omega, by go_num, by rw [HNX.out]⟩
            case measure => simp [intOf]; omega
          · have hnx : freshB (lcode (ss R) lv) k (j + 1) = (v != u) := by rw [HFS.out, hfr, HV.out]; rfl
            have HNX := Lib.hid hnx
            clear hnx
            go_wp2
            go_round
            case rel => exact ⟨j + 1, by omega, by go_num, by rw [HNX.out]⟩
            case measure => simp [intOf]; omega
        · obtain rfl : j = k := by omega
          have hfo := fresh_own HLV.out (c := j) (by omega)
          cases hfr : freshB (lcode (ss R) lv) j j
          · have hne : lcode (ss R) lv (j : Int) ≠ j := by rw [hfr] at hfo; simpa using hfo.symm
            have HNE := Lib.hid hne
            clear hne hfo
            go_wp2
            go_round
            case rel => exact ⟨j + 1, q, by omega, by go_num, rfl, by omega, by omega, by unfold Hid; rw [grpTo_no HNE.out]; exact hg.out⟩
            case measure => simp [intOf]; omega
          · have hne : lcode (ss R) lv (j : Int) = j := by rw [hfr] at hfo; simpa using hfo.symm
            have HNE := Lib.hid hne
            clear hne hfo
            go_wp2
            go_round
            case rel => exact ⟨j + 1, q + 1, by omega, by go_num, rfl, by omega, by omega, by unfold Hid; rw [grpTo_yes HNE.out, hg.out]⟩
            case measure => simp [intOf]; omega
    · obtain rfl : k = 4 := by omega
      have hq : q = o := by rw [← hg.out]; exact HGO.out
      subst hq
      have hqq : (q == q) = true := by simp
      go_wp2
      go_ret
      exact ⟨ret_bool (by simp), hb02⟩

end Go.Proofs.Ytfggfblneggncaa
