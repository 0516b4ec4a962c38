/- Contract of the reference's LadderGroups. -/
import Derived.Test.YtfggfblneggncaaLy
namespace Go.Proofs.Ytfggfblneggncaa
open Go.RowKit
set_option linter.unusedVariables false

set_option maxHeartbeats 1600000 in
theorem sLadderGroups_any (A : Option Addr) (n c : Nat) (R : List Rw) (lv : Int) (w : World) (hA : LadS w A R) (hn : R.length = n) (hm : n ≤ 1099511627776) (hr : ∀ r ∈ R, r.s.length ≤ 1099511627776) :
    Calls Try.prog 22 #[.slice A n c, .int .i64 lv] w fun e w' => e = .returned (.int .i64 (groupsI (ss R) lv)) ∧ Below w.heap.size w w' := by
  have hok := lvlOk_in hn lv
  cases hl : ladB (ss R)
  · rw [hl] at hok
    rw [groupsI_no hok]
    clear hok
    go_enter Try.func22, Try.ntmps22
    go_wp2_with (go_at_call 15; refine (sLadderValid_any _ _ _ R _ hA hn hm hr).mono ?_; rintro e w1 ⟨rfl, hb⟩; rw [hl])
    go_ret
    exact ⟨rfl, hb⟩
  · rw [hl] at hok
    cases hv : inB lv 0 n
    · rw [hv] at hok
      rw [groupsI_no hok]
      clear hok
      go_enter Try.func22, Try.ntmps22
      go_wp2_with (first
        | (go_at_call 15; refine (sLadderValid_any _ _ _ R _ hA hn hm hr).mono ?_; rintro e w1 ⟨rfl, hb⟩; rw [hl])
        | (go_at_call 34; refine (l6In_any _ _ _ _).mono ?_; rintro e w' ⟨rfl, rfl⟩; rw [hv]))
      go_ret
      exact ⟨rfl, hb⟩
    · rw [hv] at hok
      have hv' := inB_iff.1 hv
      rw [groupsI_yes hok]
      have HA := Lib.hid hA
      have HN := Lib.hid hn
      have HW := Lib.hid hr
      have HL := Lib.hid hl
      clear hA hn hr hl hok
      go_enter Try.func22, Try.ntmps22
      go_wp2_with fail
      refine (sLadderValid_any _ _ _ R _ HA.out HN.out hm HW.out).mono ?_
      rintro e w1 ⟨rfl, hb⟩
      rw [HL.out]
      go_wp2_with fail
      refine (l6In_any _ _ _ _).mono ?_
      rintro e w' ⟨rfl, rfl⟩
      rw [hv]
      have HA1 := Lib.hid (HA.out.below hb)
      go_wp2_with fail
      go_loop [5, 6] (fun t i => ∃ (k : Nat) (m : Int), k ≤ 4 ∧ i = .int .i64 k ∧ t = .int .i64 m ∧ 0 ≤ m ∧ m ≤ k ∧ Hid (grpTo (lcode (ss R) lv) k = m)) (fun _ i => 4 - (intOf i).toNat)
      case atStart => exact ⟨0, 0, by omega, rfl, rfl, by omega, by omega, rfl⟩
      case round =>
        obtain ⟨k, m, hk, rfl, rfl, hm0, hm1, hg⟩ := hrel
        by_cases hk4 : k < 4
        · cases hz : (lcode (ss R) lv (k : Int) == (k : Int))
          · go_wp2_with (go_at_call 35; refine (l2Code_any _ _ _ R _ _ _ HA1.out HN.out HL.out (by omega) (by omega) (by omega) (by omega)).mono ?_; rintro e w' ⟨rfl, rfl⟩)
            go_round
            case rel => exact ⟨k + 1, m, by omega, by go_num, rfl, by omega, by omega, by unfold Hid; rw [grpTo_no (by simpa using hz)]; exact hg.out⟩
            case measure => simp [intOf]; omega
          · go_wp2_with (go_at_call 35; refine (l2Code_any _ _ _ R _ _ _ HA1.out HN.out HL.out (by omega) (by omega) (by omega) (by omega)).mono ?_; rintro e w' ⟨rfl, rfl⟩)
            go_round
            case rel => exact ⟨k + 1, m + 1, by omega, by go_num, rfl, by omega, by omega, by unfold Hid; rw [grpTo_yes (by simpa using hz), hg.out]⟩
            case measure => simp [intOf]; omega
        · obtain rfl : k = 4 := by omega
          have hfin : grp (lcode (ss R) lv) = m := by rw [← grpTo_four]; exact hg.out
          have HF := Lib.hid hfin
          clear hfin
          go_wp2
          go_ret
          exact ⟨ret_int HF.out.symm, hb⟩

end Go.Proofs.Ytfggfblneggncaa
