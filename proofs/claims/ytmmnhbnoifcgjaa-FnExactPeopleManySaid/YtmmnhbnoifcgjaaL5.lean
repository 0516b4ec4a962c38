/- Walks of the laws FnExactPeopleMany, FnExactPeoplePay. -/
import Derived.Test.YtmmnhbnoifcgjaaSm
import Derived.Test.YtmmnhbnoifcgjaaSp
import Derived.Test.YtmmnhbnoifcgjaaTo
import Derived.Test.YtmmnhbnoifcgjaaOpen
namespace Go.Proofs.Ytmmnhbnoifcgjaa
open Go.RowKit
set_option linter.unusedVariables false

set_option maxHeartbeats 800000 in
theorem fnExactPeopleMany_walk (w : World) (A : Option Addr) (n c : Nat) (hin : PeopleIn w A n c) (x : Int) (_ : -9223372036854775808 ≤ x) (_ : x ≤ 9223372036854775807) (y : Int) (_ : -9223372036854775808 ≤ y) (_ : y ≤ 9223372036854775807) (z : Int) (_ : -9223372036854775808 ≤ z) (_ : z ≤ 9223372036854775807) :
    Calls Try.prog 3 #[.slice A n c, .int .i64 x, .int .i64 y, .int .i64 z] w fun e w' => e = .returned (.bool true) ∧ Below w.heap.size w w' := by
  obtain ⟨_, hn, L, rfl, hA⟩ := hin
  by_cases hbig : (1048576 : Int) - L.length < 0
  · go_enter Try.func3, Try.ntmps3
    go_wp2_with (go_at_call 13; refine (szPersonS_any _ _ _ _ _ hn (by omega) (by omega)).mono ?_; rintro e w' ⟨rfl, rfl⟩; rw [if_pos (by omega)])
    go_ret
    exact ⟨rfl, Below.refl _ _⟩
  · have hm : L.length ≤ 1048576 := by omega
    have hne : (manyI L x y z != manyI L x y z) = false := by simp
    have he : eqAllB L L = true := eqAllB_iff.2 rfl
    go_enter Try.func3, Try.ntmps3
    go_wp2_with fail
    refine (szPersonS_any _ _ _ _ _ hn (by omega) (by omega)).mono ?_
    rintro e w' ⟨rfl, rfl⟩
    rw [if_neg (by omega)]
    go_wp2_with fail
    refine (toPersonS_any A c L _ hA hm).mono ?_
    rintro e w1 ⟨g1, rfl, _, hf1, hb1⟩
    go_wp2_with fail
    refine (sPeopleMany_any _ _ _ L _ _ _ _ (hf1.seen (Nat.le_refl _)) rfl (by omega)).mono ?_
    rintro e w2 ⟨rfl, hb2⟩
    have hb02 := below2 hb1 hb2
    go_wp2_with fail
    refine (toPersonS_any A c L _ (hA.below hb02) hm).mono ?_
    rintro e w3 ⟨g3, rfl, _, hf3, hb3⟩
    have hb03 := below2 hb02 hb3
    have hs3 := hf3.seen (Nat.le_refl _)
    go_wp2_with fail
    refine (peopleMany_any _ _ _ L _ _ _ _ hs3 rfl (by omega)).mono ?_
    rintro e w4 ⟨rfl, hb4⟩
    have hb04 := below2 hb03 hb4
    have hs4 := hs3.below hb4
    go_wp2_with fail
    refine (toPersonS_any A c L _ (hA.below hb04) hm).mono ?_
    rintro e w5 ⟨g5, rfl, _, hf5, hb5⟩
    have hb05 := below2 hb04 hb5
    have hs5 := hs4.below hb5
    go_wp2_with fail
    refine (eqPersonS_any _ _ _ _ L L _ hs5 (hf5.seen (Nat.le_refl _)) (by omega) (by omega)).mono ?_
    rintro e w6 ⟨rfl, hb6⟩
    go_wp2
    go_ret
    exact ⟨rfl, below2 hb05 hb6⟩

set_option maxHeartbeats 800000 in
theorem fnExactPeoplePay_walk (w : World) (A : Option Addr) (n c : Nat) (hin : PeopleIn w A n c) (x : Int) (_ : -9223372036854775808 ≤ x) (_ : x ≤ 9223372036854775807) (y : Int) (_ : -9223372036854775808 ≤ y) (_ : y ≤ 9223372036854775807) (z : Int) (_ : -9223372036854775808 ≤ z) (_ : z ≤ 9223372036854775807) :
    Calls Try.prog 4 #[.slice A n c, .int .i64 x, .int .i64 y, .int .i64 z] w fun e w' => e = .returned (.bool true) ∧ Below w.heap.size w w' := by
  obtain ⟨_, hn, L, rfl, hA⟩ := hin
  by_cases hbig : (1048576 : Int) - L.length < 0
  · go_enter Try.func4, Try.ntmps4
    go_wp2_with (go_at_call 13; refine (szPersonS_any _ _ _ _ _ hn (by omega) (by omega)).mono ?_; rintro e w' ⟨rfl, rfl⟩; rw [if_pos (by omega)])
    go_ret
    exact ⟨rfl, Below.refl _ _⟩
  · have hm : L.length ≤ 1048576 := by omega
    have hne : (payI L x y z != payI L x y z) = false := by simp
    have he : eqAllB L L = true := eqAllB_iff.2 rfl
    go_enter Try.func4, Try.ntmps4
    go_wp2_with fail
    refine (szPersonS_any _ _ _ _ _ hn (by omega) (by omega)).mono ?_
    rintro e w' ⟨rfl, rfl⟩
    rw [if_neg (by omega)]
    go_wp2_with fail
    refine (toPersonS_any A c L _ hA hm).mono ?_
    rintro e w1 ⟨g1, rfl, _, hf1, hb1⟩
    go_wp2_with fail
    refine (sPeoplePay_any _ _ _ L _ _ _ _ (hf1.seen (Nat.le_refl _)) rfl (by omega)).mono ?_
    rintro e w2 ⟨rfl, hb2⟩
    have hb02 := below2 hb1 hb2
    go_wp2_with fail
    refine (toPersonS_any A c L _ (hA.below hb02) hm).mono ?_
    rintro e w3 ⟨g3, rfl, _, hf3, hb3⟩
    have hb03 := below2 hb02 hb3
    have hs3 := hf3.seen (Nat.le_refl _)
    go_wp2_with fail
    refine (peoplePay_any _ _ _ L _ _ _ _ hs3 rfl (by omega)).mono ?_
    rintro e w4 ⟨rfl, hb4⟩
    have hb04 := below2 hb03 hb4
    have hs4 := hs3.below hb4
    go_wp2_with fail
    refine (toPersonS_any A c L _ (hA.below hb04) hm).mono ?_
    rintro e w5 ⟨g5, rfl, _, hf5, hb5⟩
    have hb05 := below2 hb04 hb5
    have hs5 := hs4.below hb5
    go_wp2_with fail
    refine (eqPersonS_any _ _ _ _ L L _ hs5 (hf5.seen (Nat.le_refl _)) (by omega) (by omega)).mono ?_
    rintro e w6 ⟨rfl, hb6⟩
    go_wp2
    go_ret
    exact ⟨rfl, below2 hb05 hb6⟩

end Go.Proofs.Ytmmnhbnoifcgjaa
