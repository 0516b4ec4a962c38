/- Contract of the program's LadderGroups. -/
import Derived.Test.YtbfblomabjmnmaaLx
namespace Go.Proofs.Ytbfblomabjmnmaa
open Go.RowKit
set_option linter.unusedVariables false

set_option maxHeartbeats 1600000 in
theorem ladderGroups_any (A : Option Addr) (n c : Nat) (R : List Rw) (lv : Int) (w : World) (hA : LadS w A R) (hn : R.length = n) (hm : n ≤ 1099511627776) (hr : ∀ r ∈ R, r.s.length ≤ 1099511627776) :
    Calls Try.prog 14 #[.slice A n c, .int .i64 lv] w fun e w' => e = .returned (.int .i64 (groupsI (ss R) lv)) ∧ w = w' := by
  cases hl : ladB (ss R)
  · have e : lvlOk (ss R) lv = false := by unfold lvlOk; rw [hl]; rfl
    rw [groupsI_no e]
    clear e
    go_enter Try.func14, Try.ntmps14
    go_wp2_with (go_at_call 15; refine (ladderValid_any _ _ _ R _ hA hn hm hr).mono ?_; rintro e w' ⟨rfl, rfl⟩; rw [hl])
    go_ret
    exact ⟨rfl, rfl⟩
  · by_cases h0 : lv < 0
    · have e : lvlOk (ss R) lv = false := by
        cases e : lvlOk (ss R) lv with
        | false => rfl
        | true => have := (lvlOk_iff.1 e).2.1; omega
      rw [groupsI_no e]
      clear e
      have hd : decide (lv < 0) = true := by simpa using h0
      go_enter Try.func14, Try.ntmps14
      go_wp2_with (go_at_call 15; refine (ladderValid_any _ _ _ R _ hA hn hm hr).mono ?_; rintro e w' ⟨rfl, rfl⟩; rw [hl])
      go_ret
      exact ⟨rfl, rfl⟩
    · have hd : decide (lv < 0) = false := by simpa using h0
      by_cases h1 : (n : Int) < lv
      · have e : lvlOk (ss R) lv = false := by
          cases e : lvlOk (ss R) lv with
          | false => rfl
          | true => have := (lvlOk_iff.1 e).2.2; rw [ss_length, hn] at this; omega
        rw [groupsI_no e]
        clear e
        have hd1 : decide ((n : Int) < lv) = true := by simpa using h1
        go_enter Try.func14, Try.ntmps14
        go_wp2_with (go_at_call 15; refine (ladderValid_any _ _ _ R _ hA hn hm hr).mono ?_; rintro e w' ⟨rfl, rfl⟩; rw [hl])
        go_ret
        exact ⟨rfl, rfl⟩
      · have hd1 : decide ((n : Int) < lv) = false := by simpa using h1
        rw [groupsI_yes (lvlOk_mk hl (by omega) (by rw [ss_length, hn]; omega))]
        have HA := Lib.hid hA
        have HN := Lib.hid hn
        have HW := Lib.hid hr
        have HL := Lib.hid hl
        clear hA hn hr hl
        go_enter Try.func14, Try.ntmps14
        go_wp2_with (go_at_call 15; refine (ladderValid_any _ _ _ R _ HA.out HN.out hm HW.out).mono ?_; rintro e w' ⟨rfl, rfl⟩; rw [HL.out])
        go_loop [5, 20] (fun t i => ∃ (k : Nat) (m : Int), k ≤ 4 ∧ i = .int .i64 k ∧ t = .int .i64 m ∧ 0 ≤ m ∧ m ≤ k ∧ Hid (grpTo (lcode (ss R) lv) k = m)) (fun _ i => 4 - (intOf i).toNat)
        case atStart => exact ⟨0, 0, by omega, rfl, rfl, by omega, by omega, rfl⟩
        case round =>
          obtain ⟨k, m, hk, rfl, rfl, hm0, hm1, hg⟩ := hrel
          by_cases hk4 : k < 4
          · cases hz : (lcode (ss R) lv (k : Int) == (k : Int))
            · go_wp2_with (go_at_call 25; refine (ladderCode_any _ _ _ R _ _ _ HA.out HN.out HL.out (by omega) (by omega) (by omega) (by omega)).mono ?_; rintro e w' ⟨rfl, rfl⟩)
              go_round
              case rel => exact ⟨k + 1, m, by omega, by go_num, rfl, by omega, by omega, by unfold Hid; rw [grpTo_no (by simpa using hz)]; exact hg.out⟩
              case measure => simp [intOf]; omega
            · go_wp2_with (go_at_call 25; refine (ladderCode_any _ _ _ R _ _ _ HA.out HN.out HL.out (by omega) (by omega) (by omega) (by omega)).mono ?_; rintro e w' ⟨rfl, rfl⟩)
              go_round
              case rel => exact ⟨k + 1, m + 1, by omega, by go_num, rfl, by omega, by omega, by unfold Hid; rw [grpTo_yes (by simpa using hz), hg.out]⟩
              case measure => simp [intOf]; omega
          · obtain rfl : k = 4 := by omega
            have hfin : grp (lcode (ss R) lv) = m := by rw [← grpTo_four]; exact hg.out
            have HF := Lib.hid hfin
            clear hfin
            go_wp2
            go_ret
            exact ⟨ret_int HF.out.symm, rfl⟩

end Go.Proofs.Ytbfblomabjmnmaa
