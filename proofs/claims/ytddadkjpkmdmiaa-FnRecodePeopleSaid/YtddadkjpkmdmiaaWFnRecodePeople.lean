/- Walk of the law FnRecodePeople. -/
import Derived.Test.YtddadkjpkmdmiaaRi
import Derived.Test.YtddadkjpkmdmiaaRs
import Derived.Test.YtddadkjpkmdmiaaSq
import Derived.Test.YtddadkjpkmdmiaaDu
import Derived.Deep.DeepCutAuto
import Derived.Deep.QuietTactic
import Derived.BigQuiet
namespace Go.Proofs.Ytddadkjpkmdmiaa
open Go.RowKit
set_option linter.unusedVariables false

set_option maxRecDepth 100000 in
set_option maxHeartbeats 6400000 in
theorem fnRecodePeople_walk (w : World) (A : Option Addr) (n c : Nat) (hin : BytesIn w A n c) :
    Calls Try.prog 10 #[.slice A n c] w fun e w' => e = .returned (.bool true) ∧ Below w.heap.size w w' := by
  have hn := hin.2.1
  by_cases hbig : 1048576 < n
  · have hd : decide (1048576 < (n : Int)) = true := by simp; omega
    go_enter Try.func10, Try.ntmps10
    go_wp2
    go_ret
    exact ⟨rfl, Below.refl _ _⟩
  have hd : decide (1048576 < (n : Int)) = false := by simp; omega
  go_enter Try.func10, Try.ntmps10
  go_wp2_with fail
  refine (drawRecodePeople_any A n c w hin).mono ?_
  rintro e w1 ⟨A1, n1, c1, P, B, m, d, R, a, j, s, rfl, hn1, hn10, hP1, hR, hm, hrow, hL1, hb1⟩
  have HN := Lib.hid hn1
  have HR := Lib.hid hR
  have HW := Lib.hid (fun r hr => Nat.le_trans (hrow r hr) (show 4 ≤ 1099511627776 by omega))
  clear hn1 hR hrow
  have b1 := below_new w1 (.cells #[.int .i64 a, .int .i64 j, .int .i64 s] 28)
  have x1 := Boxd.new w1 28 #[.int .i64 a, .int .i64 j, .int .i64 s]
  go_wp2_with fail
  refine (recodePeople_any _ _ _ P _ _ _ R _ _ _ _ (hP1.below b1).1 HN.out (by omega) (hL1.below b1).s HR.out (by omega) HW.out).mono ?_
  rintro e w2 ⟨A2, n2, c2, rfl, hn2, hP2, hb2⟩
  have x2 := x1.below hb2
  have hL2 := (hL1.below b1).below hb2
  have hQ2 := (hP1.below b1).below hb2
  obtain ⟨⟨g0, g1, g2⟩, _⟩ := cell_three x2
  go_wp2_with fail
  refine (sRecodePeople_any _ _ _ P _ _ _ R _ _ _ _ hQ2.1 HN.out (by omega) hL2.s HR.out (by omega) HW.out).mono ?_
  rintro e w3 ⟨A3, n3, c3, rfl, hn3, hP3, hb3⟩
  clear g0 g1 g2
  have x3 := x2.below hb3
  have hL3 := hL2.below hb3
  have hQ3 := hQ2.below hb3
  have hO3 := hP2.below hb3
  have hb03 := below2 hb1 (below2 b1 (below2 hb2 hb3))
  have hrl : (recL P (ss R) ⟨a, j, s⟩).length ≤ 10 := by unfold recL; split; rw [List.length_map, HN.out]; exact hn10; simp
  have hn2' : n2 ≤ 10 := by rw [← hn2]; exact hrl
  have hn3' : n3 ≤ 10 := by rw [← hn3]; exact hrl
  have HN2 := Lib.hid hn2
  have HN3 := Lib.hid hn3
  have HSS := Lib.hid (samAll_self (recL P (ss R) ⟨a, j, s⟩))
  clear hn2 hn3 hrl x1 x2 hL1 hL2 hQ2 hP1 hP2 b1 hb1 hb2 hb3
  cases hok : rpOk P (ss R) ⟨a, j, s⟩
  · go_wp2_with fail
    refine (samePeople_any _ _ _ _ _ _ (recL P (ss R) ⟨a, j, s⟩) (recL P (ss R) ⟨a, j, s⟩) _ hO3.1 hP3.1 HN2.out HN3.out (by omega) (by omega)).mono ?_
    rintro e w4 ⟨rfl, hb4⟩
    rw [HSS.out]
    go_wp2_with fail
    refine (samePeople_any _ _ _ _ _ _ (recL P (ss R) ⟨a, j, s⟩) (recL P (ss R) ⟨a, j, s⟩) _ (hO3.below hb4).1 (hP3.below hb4).1 HN2.out HN3.out (by omega) (by omega)).mono ?_
    rintro e w5 ⟨rfl, hb5⟩
    rw [HSS.out]
    go_wp2
    go_ret
    exact ⟨rfl, below2 hb03 (below2 hb4 hb5)⟩
  go_wp2_with fail
  refine (samePeople_any _ _ _ _ _ _ (recL P (ss R) ⟨a, j, s⟩) (recL P (ss R) ⟨a, j, s⟩) _ hO3.1 hP3.1 HN2.out HN3.out (by omega) (by omega)).mono ?_
  rintro e w4 ⟨rfl, hb4⟩
  rw [HSS.out]
  have x4 := x3.below hb4
  have hL4 := hL3.below hb4
  have hQ4 := hQ3.below hb4
  have hO4 := hO3.below hb4
  have hb04 := below2 hb03 hb4
  obtain ⟨hPv, hrec⟩ := rpOk_iff.1 hok
  rw [recL_yes hok] at hO4
  have hn2e := HN2.out
  rw [recL_yes hok, List.length_map, HN.out] at hn2e
  subst hn2e
  have HPV := Lib.hid hPv
  have HREC := Lib.hid hrec
  have HOK := Lib.hid hok
  have HLN := Lib.hid (show (P.map (recP (ss R) ⟨a, j, s⟩)).length = n1 by rw [List.length_map, HN.out])
  clear hPv hrec hok x3 hL3 hQ3 hO3 hP3 hb03 hb4 HN2 HN3 HSS
  have p2 := people_rec HREC.out HPV.out
  have o1 : rpOk (P.map (recP (ss R) ⟨a, j, s⟩)) (ss R) ⟨a, j, s⟩ = true := rpOk_iff.2 ⟨p2, HREC.out⟩
  have e1 : (P.map (recP (ss R) ⟨a, j, s⟩)).map (recP (ss R) ⟨a, j, s⟩) = P.map (recP (ss R) ⟨a, j, s⟩) := by
    rw [List.map_map]
    apply List.map_congr_left
    intro x hx
    exact recP_chain (finB_refl HREC.out) ((peopleB_iff.1 HPV.out).1 x hx)
  have O1 := Lib.hid o1
  have E1 := Lib.hid e1
  have P2 := Lib.hid p2
  clear o1 e1 p2
  obtain ⟨⟨g0, g1, g2⟩, _⟩ := cell_three x4
  go_wp2_with fail
  refine (recodePeople_any _ _ _ (P.map (recP (ss R) ⟨a, j, s⟩)) _ _ _ R _ _ _ _ hO4.1 HLN.out (by omega) hL4.s HR.out (by omega) HW.out).mono ?_
  rintro e w5 ⟨A5, n5, c5, rfl, hn5, hP5, hb5⟩
  rw [O1.out]
  rw [recL_yes O1.out, E1.out] at hn5 hP5
  have hn5e := hn5
  rw [HLN.out] at hn5e
  subst hn5e
  have hQ5 := hQ4.below hb5
  have hO5 := hO4.below hb5
  have hb05 := below2 hb04 hb5
  clear hn5 g0 g1 g2 hb5 x4 hL4 hQ4 hO4
  have HQ5 := Lib.hid hQ5.1
  have HO5 := Lib.hid hO5.1
  have HP5 := Lib.hid hP5.1
  clear hQ5 hO5 hP5
  go_wp2_with fail
  go_loopw [12] (fun i wr => ∃ k : Nat, k ≤ n1 ∧ i = .int .i64 k ∧ Below w5.heap.size w5 wr) (fun i _ => n1 - (intOf i).toNat)
  case atStart => exact ⟨0, by omega, rfl, Below.refl _ _⟩
  case round =>
    obtain ⟨k, hk, rfl, hbr⟩ := hrel
    by_cases hkn : k < n1
    · obtain ⟨b, o, hAe, hlt, hc⟩ := HQ5.out (by rw [pcells_length, HN.out]; omega)
      obtain ⟨b', o', hAe', hlt', hc'⟩ := HO5.out (by rw [pcells_length, HLN.out]; omega)
      subst hAe hAe'
      obtain ⟨⟨ya, yj, ys, yp⟩, hx⟩ : ∃ x, P[k]? = some x := ⟨_, List.getElem?_eq_getElem (by rw [HN.out]; exact hkn)⟩
      have hx' : (P.map (recP (ss R) ⟨a, j, s⟩))[k]? = some (recP (ss R) ⟨a, j, s⟩ ⟨ya, yj, ys, yp⟩) := by rw [List.getElem?_map, hx]; rfl
      obtain ⟨_, r1, r2, r3, r4⟩ := recP_ok HREC.out ((peopleB_iff.1 HPV.out).1 _ (List.mem_of_getElem? hx))
      obtain ⟨⟨xa, xj, xs, xp⟩, hxx⟩ : ∃ x, recP (ss R) ⟨a, j, s⟩ ⟨ya, yj, ys, yp⟩ = x := ⟨_, rfl⟩
      rw [hxx] at hx' r1 r2 r3 r4
      simp only at r1 r2 r3 r4
      subst r4
      obtain ⟨k0, k1, k2, k3⟩ := cells_later hlt hbr (cells_at hc hx)
      obtain ⟨l0, l1, l2, l3⟩ := cells_later hlt' hbr (cells_at hc' hx')
      have kk : (k : Int) < (n1 : Int) := by omega
      have q0 : (xp != xp) = false := by simp
      have q1 : decide (ya < xa) = false := by simp; omega
      have q2 : decide (yj < xj) = false := by simp; omega
      have q3 : decide (ys < xs) = false := by simp; omega
      clear hx hx' hxx hc hc'
      go_wp2
      go_quiet (fail)
      go_wp2
      go_roundw
      case rel => exact ⟨k + 1, by omega, by go_num, ⟨hbr.os, hbr.tape, hbr.output, hbr.size, hbr.block⟩⟩
      case measure => simp [intOf]; omega
    · have HSS := Lib.hid (samAll_self (P.map (recP (ss R) ⟨a, j, s⟩)))
      have hnn : ((n1 : Int) == (n1 : Int)) = true := by simp
      go_wp2_with fail
      refine (samePeople_any _ _ _ _ _ _ (P.map (recP (ss R) ⟨a, j, s⟩)) (P.map (recP (ss R) ⟨a, j, s⟩)) _ (HP5.out.below hbr) (HO5.out.below hbr) HLN.out HLN.out (by omega) (by omega)).mono ?_
      rintro e w6 ⟨rfl, hb6⟩
      rw [HSS.out]
      go_wp2_with fail
      refine (peopleValid_n _ _ _ (P.map (recP (ss R) ⟨a, j, s⟩)) _ ((HO5.out.below hbr).below hb6) HLN.out (by omega)).mono ?_
      rintro e w7 ⟨rfl, hb7⟩
      rw [P2.out]
      go_wp2
      go_ret
      exact ⟨ret_bool (by simp), below2 hb05 (below2 hbr (below2 hb6 hb7))⟩

end Go.Proofs.Ytddadkjpkmdmiaa
