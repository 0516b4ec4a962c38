/- Walk of the law FnRecodeNone. -/
import Derived.Test.YtddadkjpkmdmiaaRi
import Derived.Test.YtddadkjpkmdmiaaRs
import Derived.Test.YtddadkjpkmdmiaaSq
import Derived.Test.YtddadkjpkmdmiaaDu
import Derived.Test.YtddadkjpkmdmiaaSm
import Derived.Deep.DeepCutAuto
namespace Go.Proofs.Ytddadkjpkmdmiaa
open Go.RowKit
set_option linter.unusedVariables false

set_option maxRecDepth 100000 in
set_option maxHeartbeats 6400000 in
theorem fnRecodeNone_walk (w : World) (A : Option Addr) (n c : Nat) (hin : BytesIn w A n c) :
    Calls Try.prog 11 #[.slice A n c] w fun e w' => e = .returned (.bool true) ∧ Below w.heap.size w w' := by
  have hn := hin.2.1
  by_cases hbig : 1048576 < n
  · have hd : decide (1048576 < (n : Int)) = true := by simp; omega
    go_enter Try.func11, Try.ntmps11
    go_wp2
    go_ret
    exact ⟨rfl, Below.refl _ _⟩
  have hd : decide (1048576 < (n : Int)) = false := by simp; omega
  go_enter Try.func11, Try.ntmps11
  go_wp2_with fail
  refine (drawRecodePeople_any A n c w hin).mono ?_
  rintro e w1 ⟨A1, n1, c1, P, B, m, d, R, a, j, s, rfl, hn1, hn10, hP1, hR, hm, hrow, hL1, hb1⟩
  have HN := Lib.hid hn1
  have HR := Lib.hid hR
  have HW := Lib.hid (fun r hr => Nat.le_trans (hrow r hr) (show 4 ≤ 1099511627776 by omega))
  clear hn1 hR hrow
  have b1 := below_new w1 (.cells #[.int .i64 a, .int .i64 j, .int .i64 s] 28)
  have x1 := Boxd.new w1 28 #[.int .i64 a, .int .i64 j, .int .i64 s]
  go_wp2_with fail
  refine (recodePeople_any _ _ _ P _ _ _ R _ _ _ _ (hP1.below b1).1 HN.out (by omega) (hL1.below b1).s HR.out (by omega) HW.out).mono ?_
  rintro e w2 ⟨A2, n2, c2, rfl, hn2, hP2, hb2⟩
  have x2 := x1.below hb2
  have hL2 := (hL1.below b1).below hb2
  have hQ2 := (hP1.below b1).below hb2
  obtain ⟨⟨g0, g1, g2⟩, _⟩ := cell_three x2
  go_wp2_with fail
  refine (sRecodePeople_any _ _ _ P _ _ _ R _ _ _ _ hQ2.1 HN.out (by omega) hL2.s HR.out (by omega) HW.out).mono ?_
  rintro e w3 ⟨A3, n3, c3, rfl, hn3, hP3, hb3⟩
  clear g0 g1 g2
  have x3 := x2.below hb3
  have hL3 := hL2.below hb3
  have hQ3 := hQ2.below hb3
  have hO3 := hP2.below hb3
  have hb03 := below2 hb1 (below2 b1 (below2 hb2 hb3))
  have hrl : (recL P (ss R) ⟨a, j, s⟩).length ≤ 10 := by unfold recL; split; rw [List.length_map, HN.out]; exact hn10; simp
  have hn2' : n2 ≤ 10 := by rw [← hn2]; exact hrl
  have hn3' : n3 ≤ 10 := by rw [← hn3]; exact hrl
  have HN2 := Lib.hid hn2
  have HN3 := Lib.hid hn3
  have HSS := Lib.hid (samAll_self (recL P (ss R) ⟨a, j, s⟩))
  clear hn2 hn3 hrl x1 x2 hL1 hL2 hQ2 hP1 hP2 b1 hb1 hb2 hb3
  cases hok : rpOk P (ss R) ⟨a, j, s⟩
  · go_wp2_with fail
    refine (samePeople_any _ _ _ _ _ _ (recL P (ss R) ⟨a, j, s⟩) (recL P (ss R) ⟨a, j, s⟩) _ hO3.1 hP3.1 HN2.out HN3.out (by omega) (by omega)).mono ?_
    rintro e w4 ⟨rfl, hb4⟩
    rw [HSS.out]
    go_wp2_with fail
    refine (samePeople_any _ _ _ _ _ _ (recL P (ss R) ⟨a, j, s⟩) (recL P (ss R) ⟨a, j, s⟩) _ (hO3.below hb4).1 (hP3.below hb4).1 HN2.out HN3.out (by omega) (by omega)).mono ?_
    rintro e w5 ⟨rfl, hb5⟩
    rw [HSS.out]
    go_wp2
    go_ret
    exact ⟨rfl, below2 hb03 (below2 hb4 hb5)⟩
  go_wp2_with fail
  refine (samePeople_any _ _ _ _ _ _ (recL P (ss R) ⟨a, j, s⟩) (recL P (ss R) ⟨a, j, s⟩) _ hO3.1 hP3.1 HN2.out HN3.out (by omega) (by omega)).mono ?_
  rintro e w4 ⟨rfl, hb4⟩
  rw [HSS.out]
  have x4 := x3.below hb4
  have hL4 := hL3.below hb4
  have hQ4 := hQ3.below hb4
  have hO4 := hO3.below hb4
  have hb04 := below2 hb03 hb4
  obtain ⟨hPv, hrec⟩ := rpOk_iff.1 hok
  rw [recL_yes hok] at hO4
  have hn2e := HN2.out
  rw [recL_yes hok, List.length_map, HN.out] at hn2e
  subst hn2e
  have HPV := Lib.hid hPv
  have HREC := Lib.hid hrec
  have HOK := Lib.hid hok
  have HLN := Lib.hid (show (P.map (recP (ss R) ⟨a, j, s⟩)).length = n1 by rw [List.length_map, HN.out])
  clear hPv hrec hok x3 hL3 hQ3 hO3 hP3 hb03 hb4 HN2 HN3 HSS
  have hrv := (recOk_iff.1 HREC.out)
  obtain ⟨hRv, hra, hrj, hrs⟩ := hrv
  simp only [ss_length, HR.out] at hra hrj hrs
  have o1 : rpOk P (ss R) ⟨0, 0, 0⟩ = true := rpOk_iff.2 ⟨HPV.out, recOk_zero hRv⟩
  have o2 : rpOk P (ss R) ⟨a, 1, 1⟩ = true := rpOk_iff.2 ⟨HPV.out, recOk_iff.2 ⟨hRv, by simpa [ss_length, HR.out] using hra, by simp, by simp⟩⟩
  have p2 := people_rec (rpOk_iff.1 o2).2 HPV.out
  have e2 : manyI (P.map (recP (ss R) ⟨a, 1, 1⟩)) (-1) 0 0 = (n1 : Int) := by rw [many_cnt p2 rfl, cnt_all_zero, HN.out]
  have O1 := Lib.hid o1
  have O2 := Lib.hid o2
  have E2 := Lib.hid e2
  clear o1 o2 p2 e2 hRv hra hrj hrs
  obtain ⟨⟨g0, g1, g2⟩, _⟩ := cell_three x4
  go_wp2_with fail
  refine (recodePeople_any _ _ _ P _ _ _ R 0 0 0 _ hQ4.1 HN.out (by omega) hL4.s HR.out (by omega) HW.out).mono ?_
  rintro e w5 ⟨A5, n5, c5, rfl, hn5, hP5, hb5⟩
  rw [O1.out]
  rw [recL_yes O1.out, map_recP_zero] at hn5 hP5
  have hn5e := hn5
  rw [HN.out] at hn5e
  subst hn5e
  have x5 := x4.below hb5
  have hL5 := hL4.below hb5
  have hQ5 := hQ4.below hb5
  have hb05 := below2 hb04 hb5
  clear hn5 g0 g1 g2 hb5
  obtain ⟨⟨g0, g1, g2⟩, _⟩ := cell_three x5
  go_wp2_with fail
  refine (recodePeople_any _ _ _ P _ _ _ R _ 1 1 _ hQ5.1 HN.out (by omega) hL5.s HR.out (by omega) HW.out).mono ?_
  rintro e w6 ⟨A6, n6, c6, rfl, hn6, hP6, hb6⟩
  rw [O2.out]
  rw [recL_yes O2.out] at hn6 hP6
  have hn6e := hn6
  rw [List.length_map, HN.out] at hn6e
  subst hn6e
  have HN6 := Lib.hid hn6
  have hQ6 := hQ5.below hb6
  have hP56 := hP5.below hb6
  have hb06 := below2 hb05 hb6
  clear hn6 g0 g1 g2 hb6
  have HSS := Lib.hid (samAll_self P)
  go_wp2_with fail
  refine (samePeople_any _ _ _ _ _ _ P P _ hP56.1 hQ6.1 HN.out HN.out (by omega) (by omega)).mono ?_
  rintro e w7 ⟨rfl, hb7⟩
  rw [HSS.out]
  go_wp2_with fail
  refine (peopleMany_any _ _ _ (P.map (recP (ss R) ⟨a, 1, 1⟩)) _ _ _ _ (hP6.below hb7).1 HN6.out (by omega)).mono ?_
  rintro e w8 ⟨rfl, hb8⟩
  rw [E2.out]
  have hnn : ((n1 : Int) == (n1 : Int)) = true := by simp
  go_wp2
  go_ret
  exact ⟨ret_bool (by simp), below2 hb06 (below2 hb7 hb8)⟩

end Go.Proofs.Ytddadkjpkmdmiaa
