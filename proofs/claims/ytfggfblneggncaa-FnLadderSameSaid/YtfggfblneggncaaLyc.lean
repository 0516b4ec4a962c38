/- Contract of the reference's LadderCode. -/
import Derived.Test.YtfggfblneggncaaLy
namespace Go.Proofs.Ytfggfblneggncaa
open Go.RowKit
set_option linter.unusedVariables false

set_option maxHeartbeats 1600000 in
theorem sLadderCodeL_any (A : Option Addr) (n c : Nat) (R : List Rw) (lv x : Int) (w : World) (hA : LadS w A R) (hn : R.length = n) (hm : n ≤ 1099511627776) (hr : ∀ r ∈ R, r.s.length ≤ 1099511627776) :
    Calls Try.prog 20 #[.slice A n c, .int .i64 lv, .int .i64 x] w fun e w' => e = .returned (.tuple #[.int .i64 (codeI (ss R) lv x), .bool (codeOk (ss R) lv x)]) ∧ Below w.heap.size w w' := by
  have hok := codeOk_in hn lv x
  cases hl : ladB (ss R)
  · rw [hl] at hok
    rw [codeI_no hok, hok]
    clear hok
    go_enter Try.func20, Try.ntmps20
    go_wp2_with (go_at_call 15; refine (sLadderValid_any _ _ _ R _ hA hn hm hr).mono ?_; rintro e w1 ⟨rfl, hb⟩; rw [hl])
    go_ret2
    exact ⟨rfl, hb⟩
  · rw [hl] at hok
    cases hv : inB lv 0 n
    · rw [hv] at hok
      rw [codeI_no hok, hok]
      clear hok
      go_enter Try.func20, Try.ntmps20
      go_wp2_with (first
        | (go_at_call 15; refine (sLadderValid_any _ _ _ R _ hA hn hm hr).mono ?_; rintro e w1 ⟨rfl, hb⟩; rw [hl])
        | (go_at_call 34; refine (l6In_any _ _ _ _).mono ?_; rintro e w' ⟨rfl, rfl⟩; rw [hv]))
      go_ret2
      exact ⟨rfl, hb⟩
    · rw [hv] at hok
      have hv' := inB_iff.1 hv
      cases hx : codeB x
      · rw [hx] at hok
        rw [codeI_no hok, hok]
        have hx' := (inB_code x).trans hx
        clear hok
        go_enter Try.func20, Try.ntmps20
        go_wp2_with fail
        refine (sLadderValid_any _ _ _ R _ hA hn hm hr).mono ?_
        rintro e w1 ⟨rfl, hb⟩
        rw [hl]
        go_wp2_with fail
        refine (l6In_any _ _ _ _).mono ?_
        rintro e w' ⟨rfl, rfl⟩
        rw [hv]
        go_wp2_with fail
        refine (l6In_any _ _ _ _).mono ?_
        rintro e w' ⟨rfl, rfl⟩
        rw [hx']
        go_wp2
        go_ret2
        exact ⟨rfl, hb⟩
      · rw [hx] at hok
        rw [codeI_yes hok, hok]
        have hx' := (inB_code x).trans hx
        have hx2 := codeB_iff.1 hx
        clear hok
        go_enter Try.func20, Try.ntmps20
        go_wp2_with fail
        refine (sLadderValid_any _ _ _ R _ hA hn hm hr).mono ?_
        rintro e w1 ⟨rfl, hb⟩
        rw [hl]
        go_wp2_with fail
        refine (l6In_any _ _ _ _).mono ?_
        rintro e w' ⟨rfl, rfl⟩
        rw [hv]
        go_wp2_with fail
        refine (l6In_any _ _ _ _).mono ?_
        rintro e w' ⟨rfl, rfl⟩
        rw [hx']
        go_wp2_with fail
        refine (l2Code_any _ _ _ R _ _ _ (hA.below hb) hn hl hv'.1 hv'.2 hx2.1 hx2.2).mono ?_
        rintro e w' ⟨rfl, rfl⟩
        go_wp2
        go_ret2
        exact ⟨rfl, hb⟩

end Go.Proofs.Ytfggfblneggncaa
