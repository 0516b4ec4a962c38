/- Walk of the law FnRecodePay. -/
import Derived.Test.YtddadkjpkmdmiaaRi
import Derived.Test.YtddadkjpkmdmiaaRs
import Derived.Test.YtddadkjpkmdmiaaSq
import Derived.Test.YtddadkjpkmdmiaaDu
import Derived.Test.YtddadkjpkmdmiaaSm
import Derived.Test.YtddadkjpkmdmiaaLxc
import Derived.Deep.DeepCutAuto
namespace Go.Proofs.Ytddadkjpkmdmiaa
open Go.RowKit
set_option linter.unusedVariables false

/-- At the head of each round: those whose coarse code is 0, of the first k codes, have been counted. -/
def PayZ (P : List Pers) (R : List (List Int)) (a : Int) (w0 : World) (v i : Value) (wr : World) : Prop :=
  ∃ (k : Nat) (q : Int), k ≤ 4 ∧ i = .int .i64 k ∧ v = .int .i64 q ∧ 0 ≤ q ∧ q ≤ 10 * k ∧ Hid (cntTo R a P k = q) ∧ Below w0.heap.size w0 wr

set_option maxRecDepth 100000 in
set_option maxHeartbeats 6400000 in
theorem fnRecodePay_walk (w : World) (A : Option Addr) (n c : Nat) (hin : BytesIn w A n c) :
    Calls Try.prog 12 #[.slice A n c] w fun e w' => e = .returned (.bool true) ∧ Below w.heap.size w w' := by
  have hn := hin.2.1
  by_cases hbig : 1048576 < n
  · have hd : decide (1048576 < (n : Int)) = true := by simp; omega
    go_enter Try.func12, Try.ntmps12
    go_wp2
    go_ret
    exact ⟨rfl, Below.refl _ _⟩
  have hd : decide (1048576 < (n : Int)) = false := by simp; omega
  go_enter Try.func12, Try.ntmps12
  go_wp2_with fail
  refine (drawRecodePeople_any A n c w hin).mono ?_
  rintro e w1 ⟨A1, n1, c1, P, B, m, d, R, a, j, s, rfl, hn1, hn10, hP1, hR, hm, hrow, hL1, hb1⟩
  have HN := Lib.hid hn1
  have HR := Lib.hid hR
  have HW := Lib.hid (fun r hr => Nat.le_trans (hrow r hr) (show 4 ≤ 1099511627776 by omega))
  clear hn1 hR hrow
  have b1 := below_new w1 (.cells #[.int .i64 a, .int .i64 j, .int .i64 s] 28)
  have x1 := Boxd.new w1 28 #[.int .i64 a, .int .i64 j, .int .i64 s]
  go_wp2_with fail
  refine (recodePeople_any _ _ _ P _ _ _ R _ _ _ _ (hP1.below b1).1 HN.out (by omega) (hL1.below b1).s HR.out (by omega) HW.out).mono ?_
  rintro e w2 ⟨A2, n2, c2, rfl, hn2, hP2, hb2⟩
  have x2 := x1.below hb2
  have hL2 := (hL1.below b1).below hb2
  have hQ2 := (hP1.below b1).below hb2
  obtain ⟨⟨g0, g1, g2⟩, _⟩ := cell_three x2
  go_wp2_with fail
  refine (sRecodePeople_any _ _ _ P _ _ _ R _ _ _ _ hQ2.1 HN.out (by omega) hL2.s HR.out (by omega) HW.out).mono ?_
  rintro e w3 ⟨A3, n3, c3, rfl, hn3, hP3, hb3⟩
  clear g0 g1 g2
  have x3 := x2.below hb3
  have hL3 := hL2.below hb3
  have hQ3 := hQ2.below hb3
  have hO3 := hP2.below hb3
  have hb03 := below2 hb1 (below2 b1 (below2 hb2 hb3))
  have hrl : (recL P (ss R) ⟨a, j, s⟩).length ≤ 10 := by unfold recL; split; rw [List.length_map, HN.out]; exact hn10; simp
  have hn2' : n2 ≤ 10 := by rw [← hn2]; exact hrl
  have hn3' : n3 ≤ 10 := by rw [← hn3]; exact hrl
  have HN2 := Lib.hid hn2
  have HN3 := Lib.hid hn3
  have HSS := Lib.hid (samAll_self (recL P (ss R) ⟨a, j, s⟩))
  clear hn2 hn3 hrl x1 x2 hL1 hL2 hQ2 hP1 hP2 b1 hb1 hb2 hb3
  cases hok : rpOk P (ss R) ⟨a, j, s⟩
  · go_wp2_with fail
    refine (samePeople_any _ _ _ _ _ _ (recL P (ss R) ⟨a, j, s⟩) (recL P (ss R) ⟨a, j, s⟩) _ hO3.1 hP3.1 HN2.out HN3.out (by omega) (by omega)).mono ?_
    rintro e w4 ⟨rfl, hb4⟩
    rw [HSS.out]
    go_wp2_with fail
    refine (samePeople_any _ _ _ _ _ _ (recL P (ss R) ⟨a, j, s⟩) (recL P (ss R) ⟨a, j, s⟩) _ (hO3.below hb4).1 (hP3.below hb4).1 HN2.out HN3.out (by omega) (by omega)).mono ?_
    rintro e w5 ⟨rfl, hb5⟩
    rw [HSS.out]
    go_wp2
    go_ret
    exact ⟨rfl, below2 hb03 (below2 hb4 hb5)⟩
  go_wp2_with fail
  refine (samePeople_any _ _ _ _ _ _ (recL P (ss R) ⟨a, j, s⟩) (recL P (ss R) ⟨a, j, s⟩) _ hO3.1 hP3.1 HN2.out HN3.out (by omega) (by omega)).mono ?_
  rintro e w4 ⟨rfl, hb4⟩
  rw [HSS.out]
  have x4 := x3.below hb4
  have hL4 := hL3.below hb4
  have hQ4 := hQ3.below hb4
  have hO4 := hO3.below hb4
  have hb04 := below2 hb03 hb4
  obtain ⟨hPv, hrec⟩ := rpOk_iff.1 hok
  rw [recL_yes hok] at hO4
  have hn2e := HN2.out
  rw [recL_yes hok, List.length_map, HN.out] at hn2e
  subst hn2e
  have HPV := Lib.hid hPv
  have HREC := Lib.hid hrec
  have HOK := Lib.hid hok
  have HLN := Lib.hid (show (P.map (recP (ss R) ⟨a, j, s⟩)).length = n1 by rw [List.length_map, HN.out])
  clear hPv hrec hok x3 hL3 hQ3 hO3 hP3 hb03 hb4 HN2 HN3 HSS
  have hrv := (recOk_iff.1 HREC.out)
  obtain ⟨hRv, hra, hrj, hrs⟩ := hrv
  simp only [ss_length, HR.out] at hra hrj hrs
  have p2 := people_rec HREC.out HPV.out
  have e1 : manyI (P.map (recP (ss R) ⟨a, j, s⟩)) (-1) (-1) (-1) = (n1 : Int) := by rw [many_cnt p2 rfl, cnt_any, List.length_map, HN.out]
  have e2 : payI (P.map (recP (ss R) ⟨a, j, s⟩)) (-1) (-1) (-1) = payI P (-1) (-1) (-1) := by rw [pay_pys p2 rfl, pay_pys HPV.out rfl, pys_any, pys_any, sumP_rec]
  have e3 : manyI (P.map (recP (ss R) ⟨a, j, s⟩)) 0 (-1) (-1) = cntTo (ss R) a P 4 := by rw [many_cnt p2 rfl]; exact cnt_rec_zero (r := ⟨a, j, s⟩) (peopleB_iff.1 HPV.out).1
  have e4 : ∀ k : Nat, k < 4 → manyI P (k : Int) (-1) (-1) = cnt P (k : Int) (-1) (-1) := fun k hk => many_cnt HPV.out (askB_iff.2 ⟨by omega, by omega, by omega⟩)
  have E1 := Lib.hid e1
  have E2 := Lib.hid e2
  have E3 := Lib.hid e3
  have E4 := Lib.hid e4
  have HRV := Lib.hid hRv
  clear e1 e2 e3 e4 p2 hRv hrj hrs
  obtain ⟨⟨g0, g1, g2⟩, _⟩ := cell_three x4
  go_wp2_with fail
  go_loopw [10, 11] (fun v i wr => PayZ P (ss R) a w4 v i wr) (fun _ i _ => 4 - (intOf i).toNat)
  case atStart => exact ⟨0, 0, by omega, rfl, rfl, by omega, by omega, rfl, Below.refl _ _⟩
  case round =>
    obtain ⟨k, q, hk, rfl, rfl, q0, q1, hq, hbr⟩ := hrel
    by_cases hk4 : k < 4
    · have x5 := x4.below hbr
      clear g0 g1 g2
      obtain ⟨⟨g0, g1, g2⟩, _⟩ := cell_three x5
      have C1 := Lib.hid (codeOk_mk HRV.out (lv := a) (c := (k : Int)) hra.1 (by rw [ss_length, HR.out]; exact hra.2) (by omega) (by omega))
      go_wp2_with fail
      refine (ladderCodeL_any _ _ _ R _ _ _ (hL4.below hbr).s HR.out (by omega) HW.out).mono ?_
      rintro e w' ⟨rfl, rfl⟩
      rw [codeI_yes C1.out, C1.out]
      have hct : cntTo (ss R) a P (k + 1) = q + (if lcode (ss R) a (k : Int) = 0 then cnt P (k : Int) (-1) (-1) else 0) := by rw [cntTo, hq.out]
      have HCT := Lib.hid hct
      clear hct
      obtain ⟨z, hz⟩ : ∃ z, lcode (ss R) a (k : Int) = z := ⟨_, rfl⟩
      rw [hz] at HCT ⊢
      clear hz
      obtain ⟨cb0, cb1⟩ := cnt_bound P (k : Int) (-1) (-1)
      rw [HN.out] at cb1
      cases hz0 : (z == 0)
      · have RR : PayZ P (ss R) a w4 (.int .i64 q) (.int .i64 ((k : Int) + 1)) wr := ⟨k + 1, q, by omega, by go_num, rfl, q0, by omega, by unfold Hid; rw [HCT.out, if_neg (by simpa using hz0)]; omega, hbr⟩
        go_wp2
        go_roundw
        case rel => first | exact RR | ((repeat apply Exists.intro); first | exact ⟨RR, rfl⟩ | exact ⟨RR, rfl, rfl⟩ | exact ⟨RR, rfl, rfl, rfl⟩)
        case measure => simp [intOf]; omega
      · go_wp2_with fail
        refine (peopleMany_any _ _ _ P _ _ _ _ (hQ4.below hbr).1 HN.out (by omega)).mono ?_
        rintro e w6 ⟨rfl, hb6⟩
        rw [E4.out k hk4]
        obtain ⟨u, hu⟩ : ∃ u, cnt P (k : Int) (-1) (-1) = u := ⟨_, rfl⟩
        rw [hu] at HCT cb0 cb1 ⊢
        clear hu
        have RR : PayZ P (ss R) a w4 (.int .i64 (q + u)) (.int .i64 ((k : Int) + 1)) w6 := ⟨k + 1, q + u, by omega, by go_num, rfl, by omega, by omega, by unfold Hid; rw [HCT.out, if_pos (by simpa using hz0)], hbr.trans (hb6.mono hbr.size)⟩
        go_wp2
        go_roundw
        case rel => first | exact RR | ((repeat apply Exists.intro); first | exact ⟨RR, rfl⟩ | exact ⟨RR, rfl, rfl⟩ | exact ⟨RR, rfl, rfl, rfl⟩)
        case measure => simp [intOf]; omega
    · obtain rfl : k = 4 := by omega
      have hq4 : cntTo (ss R) a P 4 = q := hq.out
      have HQ4 := Lib.hid hq4
      clear hq4
      have hO5 := hO4.below hbr
      have hQ5 := hQ4.below hbr
      have hb05 := below2 hb04 hbr
      have hnn : ((n1 : Int) == (n1 : Int)) = true := by simp
      have hpp : (payI P (-1) (-1) (-1) == payI P (-1) (-1) (-1)) = true := by simp
      have hqq : (q == q) = true := by simp
      go_wp2_with fail
      refine (peopleMany_any _ _ _ (P.map (recP (ss R) ⟨a, j, s⟩)) _ _ _ _ hO5.1 HLN.out (by omega)).mono ?_
      rintro e w6 ⟨rfl, hb6⟩
      rw [E1.out]
      go_wp2_with fail
      refine (peoplePay_any _ _ _ (P.map (recP (ss R) ⟨a, j, s⟩)) _ _ _ _ (hO5.below hb6).1 HLN.out (by omega)).mono ?_
      rintro e w7 ⟨rfl, hb7⟩
      rw [E2.out]
      go_wp2_with fail
      refine (peoplePay_any _ _ _ P _ _ _ _ ((hQ5.below hb6).below hb7).1 HN.out (by omega)).mono ?_
      rintro e w8 ⟨rfl, hb8⟩
      go_wp2_with fail
      refine (peopleMany_any _ _ _ (P.map (recP (ss R) ⟨a, j, s⟩)) _ _ _ _ (((hO5.below hb6).below hb7).below hb8).1 HLN.out (by omega)).mono ?_
      rintro e w9 ⟨rfl, hb9⟩
      rw [E3.out, HQ4.out]
      go_wp2
      go_ret
      exact ⟨ret_bool (by simp), below2 hb05 (below2 hb6 (below2 hb7 (below2 hb8 hb9)))⟩

end Go.Proofs.Ytddadkjpkmdmiaa
