/- Contract of the program's LadderCode. -/
import Derived.Test.YtddadkjpkmdmiaaLx
namespace Go.Proofs.Ytddadkjpkmdmiaa
open Go.RowKit
set_option linter.unusedVariables false

set_option maxHeartbeats 1600000 in
theorem ladderCodeL_any (A : Option Addr) (n c : Nat) (R : List Rw) (lv x : Int) (w : World) (hA : LadS w A R) (hn : R.length = n) (hm : n ≤ 1099511627776) (hr : ∀ r ∈ R, r.s.length ≤ 1099511627776) :
    Calls Try.prog 29 #[.slice A n c, .int .i64 lv, .int .i64 x] w fun e w' => e = .returned (.tuple #[.int .i64 (codeI (ss R) lv x), .bool (codeOk (ss R) lv x)]) ∧ w = w' := by
  cases hl : ladB (ss R)
  · have e : codeOk (ss R) lv x = false := by unfold codeOk; rw [hl]; rfl
    rw [codeI_no e, e]
    clear e
    go_enter Try.func29, Try.ntmps29
    go_wp2_with (go_at_call 35; refine (ladderValid_any _ _ _ R _ hA hn hm hr).mono ?_; rintro e w' ⟨rfl, rfl⟩; rw [hl])
    go_ret2
    exact ⟨rfl, rfl⟩
  · by_cases h0 : lv < 0
    · have e : codeOk (ss R) lv x = false := by
        cases e : codeOk (ss R) lv x with
        | false => rfl
        | true => have := (codeOk_iff.1 e).2.1.1; omega
      rw [codeI_no e, e]
      clear e
      have hd : decide (lv < 0) = true := by simpa using h0
      go_enter Try.func29, Try.ntmps29
      go_wp2_with (go_at_call 35; refine (ladderValid_any _ _ _ R _ hA hn hm hr).mono ?_; rintro e w' ⟨rfl, rfl⟩; rw [hl])
      go_ret2
      exact ⟨rfl, rfl⟩
    · have hd : decide (lv < 0) = false := by simpa using h0
      by_cases h1 : (n : Int) < lv
      · have e : codeOk (ss R) lv x = false := by
          cases e : codeOk (ss R) lv x with
          | false => rfl
          | true => have := (codeOk_iff.1 e).2.1.2; rw [ss_length, hn] at this; omega
        rw [codeI_no e, e]
        clear e
        have hd1 : decide ((n : Int) < lv) = true := by simpa using h1
        go_enter Try.func29, Try.ntmps29
        go_wp2_with (go_at_call 35; refine (ladderValid_any _ _ _ R _ hA hn hm hr).mono ?_; rintro e w' ⟨rfl, rfl⟩; rw [hl])
        go_ret2
        exact ⟨rfl, rfl⟩
      · have hd1 : decide ((n : Int) < lv) = false := by simpa using h1
        have hok : codeOk (ss R) lv x = codeB x := by
          unfold codeOk
          rw [hl, ss_length, hn]
          have a1 : decide (0 ≤ lv) = true := by simp; omega
          have a2 : decide (lv ≤ (n : Int)) = true := by simp; omega
          rw [a1, a2]; simp
        cases hx : codeB x
        · rw [codeI_no (by rw [hok]; exact hx), hok, hx]
          clear hok
          go_enter Try.func29, Try.ntmps29
          go_wp2_with (first
            | (go_at_call 35; refine (ladderValid_any _ _ _ R _ hA hn hm hr).mono ?_; rintro e w' ⟨rfl, rfl⟩; rw [hl])
            | (go_at_call 48; refine (isCode_any _ _).mono ?_; rintro e w' ⟨rfl, rfl⟩; rw [hx]))
          go_ret2
          exact ⟨rfl, rfl⟩
        · rw [codeI_yes (by rw [hok]; exact hx), hok, hx]
          have hx' := codeB_iff.1 hx
          clear hok
          go_enter Try.func29, Try.ntmps29
          go_wp2_with (first
            | (go_at_call 35; refine (ladderValid_any _ _ _ R _ hA hn hm hr).mono ?_; rintro e w' ⟨rfl, rfl⟩; rw [hl])
            | (go_at_call 48; refine (isCode_any _ _).mono ?_; rintro e w' ⟨rfl, rfl⟩; rw [hx])
            | (go_at_call 42; refine (ladderCode_any _ _ _ R _ _ _ hA hn hl (by omega) (by omega) hx'.1 hx'.2).mono ?_; rintro e w' ⟨rfl, rfl⟩))
          go_ret2
          exact ⟨rfl, rfl⟩

end Go.Proofs.Ytddadkjpkmdmiaa
