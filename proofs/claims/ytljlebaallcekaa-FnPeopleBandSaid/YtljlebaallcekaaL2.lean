/- Walks of the laws FnPeopleBand, FnPeopleBandRises. -/
import Derived.Test.YtljlebaallcekaaDb
import Derived.Test.YtljlebaallcekaaBd
namespace Go.Proofs.Ytljlebaallcekaa
open Go.RowKit
set_option linter.unusedVariables false

theorem bandI_cases (x : Int) : (bandI x = -1 ∧ (x < 0 ∨ 999 < x)) ∨ (bandI x = x / 100 ∧ 0 ≤ x ∧ x ≤ 999) := by
  unfold bandI
  split
  · exact .inr ⟨rfl, by omega⟩
  · exact .inl ⟨rfl, by omega⟩

set_option maxHeartbeats 800000 in
theorem fnPeopleBand_walk (w : World) (A : Option Addr) (n c : Nat) (hin : BytesIn w A n c) : Calls Try.prog 6 #[.slice A n c] w fun e w' => e = .returned (.bool true) ∧ Below w.heap.size w w' := by
  by_cases hbig : 1048576 < n
  · have hn := hin.2.1
    go_enter Try.func6, Try.ntmps6
    go_wp2
    go_ret
    exact ⟨rfl, Below.refl _ _⟩
  · go_enter Try.func6, Try.ntmps6
    go_wp2_with fail
    refine (drawPeopleBand_any A n c w hin).mono ?_
    rintro e w1 ⟨x, rfl, ⟨h0, h1⟩, hb⟩
    go_wp2_with fail
    refine (band_any _ _).mono ?_
    rintro e w2 ⟨rfl, rfl⟩
    go_wp2_with fail
    refine (sBand_any _ _).mono ?_
    rintro e w2 ⟨rfl, rfl⟩
    have hne : (bandI x != bandI x) = false := by simp
    rcases bandI_cases x with ⟨hv, hr⟩ | ⟨hv, hr0, hr1⟩
    · rw [hv] at hne ⊢
      clear hv
      go_wp2
      go_ret
      exact ⟨rfl, hb⟩
    · rw [hv] at hne ⊢
      clear hv
      go_wp2
      go_ret
      exact ⟨ret_bool (a := decide (x - 100 < 100 * (x / 100))) (by simp; omega), hb⟩

set_option maxHeartbeats 800000 in
theorem fnPeopleBandRises_walk (w : World) (A : Option Addr) (n c : Nat) (hin : BytesIn w A n c) : Calls Try.prog 7 #[.slice A n c] w fun e w' => e = .returned (.bool true) ∧ Below w.heap.size w w' := by
  by_cases hbig : 1048576 < n
  · have hn := hin.2.1
    go_enter Try.func7, Try.ntmps7
    go_wp2
    go_ret
    exact ⟨rfl, Below.refl _ _⟩
  · go_enter Try.func7, Try.ntmps7
    go_wp2_with fail
    refine (drawPeopleBand_any A n c w hin).mono ?_
    rintro e w1 ⟨x, rfl, ⟨h0, h1⟩, hb⟩
    go_wp2_with fail
    refine (band_any _ _).mono ?_
    rintro e w2 ⟨rfl, rfl⟩
    go_wp2_with fail
    refine (sBand_any _ _).mono ?_
    rintro e w2 ⟨rfl, rfl⟩
    have hne : (bandI x != bandI x) = false := by simp
    rcases bandI_cases x with ⟨hv, hr⟩ | ⟨hv, hr0, hr1⟩
    · rw [hv] at hne ⊢
      clear hv
      go_wp2
      go_ret
      exact ⟨rfl, hb⟩
    · rw [hv] at hne ⊢
      clear hv
      have hlt : decide (x / 100 < 0) = false := by simp; omega
      go_wp2_with fail
      refine (band_any _ _).mono ?_
      rintro e w2 ⟨rfl, rfl⟩
      by_cases h9 : x = 999
      · subst h9
        have e1 : bandI (999 + 1) = -1 := rfl
        rw [e1]
        go_wp2
        go_ret
        exact ⟨rfl, hb⟩
      · have hd : (x == 999) = false := by simpa using h9
        have e1 : bandI (x + 1) = (x + 1) / 100 := by unfold bandI; rw [if_pos (by omega)]
        rw [e1]
        clear e1 h9
        cases h8 : ((x + 1) / 100 == x / 100)
        · have h7 : ((x + 1) / 100 == x / 100 + 1) = true := by simp at h8 ⊢; omega
          go_wp2
          go_ret
          exact ⟨rfl, hb⟩
        · go_wp2
          go_ret
          exact ⟨rfl, hb⟩

end Go.Proofs.Ytljlebaallcekaa
