/- Walk of the law FnRecodeChain. -/
import Derived.Test.YtddadkjpkmdmiaaRf
import Derived.Test.YtddadkjpkmdmiaaRg
import Derived.Test.YtddadkjpkmdmiaaDt
import Derived.Test.YtddadkjpkmdmiaaRi
import Derived.Test.YtddadkjpkmdmiaaSq
import Derived.Deep.DeepCutAuto
import Derived.Deep.QuietTactic
import Derived.BigQuiet
namespace Go.Proofs.Ytddadkjpkmdmiaa
open Go.RowKit
set_option linter.unusedVariables false

theorem ppl_boxd3 {w : World} {g : Nat} {a j s p a' j' s' p' a'' j'' s'' p'' : Int} (h : Boxd w g 42 #[.int .i64 a, .int .i64 j, .int .i64 s, .int .i64 p, .int .i64 a', .int .i64 j', .int .i64 s', .int .i64 p', .int .i64 a'', .int .i64 j'', .int .i64 s'', .int .i64 p'']) : Ppl w (some ⟨g, 0, none⟩) 3 [⟨a, j, s, p⟩, ⟨a', j', s', p'⟩, ⟨a'', j'', s'', p''⟩] := by
  refine ⟨fun _ => ⟨g, 0, rfl, h.lt, fun i u hu => ?_⟩, by simp, by omega, fun e => by cases e⟩
  rw [Nat.zero_add, cell_of_row w g i _ _ _ h]
  simpa [pcells, Pers.cells] using hu

set_option maxRecDepth 100000 in
set_option maxHeartbeats 6400000 in
theorem fnRecodeChain_walk (w : World) (A : Option Addr) (n c : Nat) (hin : BytesIn w A n c) (A' : Option Addr) (n' c' : Nat) (hin' : BytesIn w A' n' c') :
    Calls Try.prog 8 #[.slice A n c, .slice A' n' c'] w fun e w' => e = .returned (.bool true) ∧ Below w.heap.size w w' := by
  have hn := hin.2.1
  have hn' := hin'.2.1
  by_cases hbig : 1048576 < n
  · have hd : decide (1048576 < (n : Int)) = true := by simp; omega
    go_enter Try.func8, Try.ntmps8
    go_wp2
    go_ret
    exact ⟨rfl, Below.refl _ _⟩
  have hd : decide (1048576 < (n : Int)) = false := by simp; omega
  by_cases hbig' : 1048576 < n'
  · have hd' : decide (1048576 < (n' : Int)) = true := by simp; omega
    go_enter Try.func8, Try.ntmps8
    go_wp2
    go_ret
    exact ⟨rfl, Below.refl _ _⟩
  have hd' : decide (1048576 < (n' : Int)) = false := by simp; omega
  go_enter Try.func8, Try.ntmps8
  go_wp2_with fail
  refine (drawRecodeFiner_any A n c w hin).mono ?_
  rintro e w1 ⟨B, m, d, R, a, j, s, a', j', s', rfl, hR, hm, hrow, ha, hj, hs, ha', hj', hs', hL1, hb1⟩
  have HR := Lib.hid hR
  have HW := Lib.hid (fun r hr => Nat.le_trans (hrow r hr) (show 4 ≤ 1099511627776 by omega))
  clear hR hrow
  have HBD := Lib.hid (And.intro ha (And.intro hj (And.intro hs (And.intro ha' (And.intro hj' hs')))))
  clear ha hj hs ha' hj' hs'
  obtain ⟨wx, hwx⟩ : ∃ wx, wx = (w1.alloc (.cells #[.int .i64 a, .int .i64 j, .int .i64 s] 28)).alloc (.cells #[.int .i64 a', .int .i64 j', .int .i64 s'] 28) := ⟨_, rfl⟩
  have b1 : Below w1.heap.size w1 wx := by rw [hwx]; exact below2 (below_new _ _) (below_new _ _)
  have x1 : Boxd wx w1.heap.size 28 #[.int .i64 a, .int .i64 j, .int .i64 s] := by rw [hwx]; exact (Boxd.new _ _ _).alloc _
  have y1 : Boxd wx (w1.heap.size + 1) 28 #[.int .i64 a', .int .i64 j', .int .i64 s'] := by
    rw [hwx]
    have := Boxd.new (w1.alloc (.cells #[.int .i64 a, .int .i64 j, .int .i64 s] 28)) 28 #[.int .i64 a', .int .i64 j', .int .i64 s']
    simp at this
    exact this
  have HX := Lib.hid (And.intro x1 (And.intro y1 (And.intro (hL1.below b1) (below2 hb1 b1))))
  have HWX := Lib.hid hwx
  clear x1 y1 hwx b1 hL1 hb1
  go_wp2_with fail
  rw [← HWX.out]
  obtain ⟨x1, y1, hLx, hb1⟩ := HX.out
  refine (recodeFiner_any _ _ _ R _ _ _ _ _ _ _ hLx.s HR.out (by omega) HW.out).mono ?_
  rintro e w2 ⟨rfl, hb2⟩
  have x2 := x1.below hb2
  have y2 := y1.below hb2
  have hL2 := hLx.below hb2
  have hb02 := below2 hb1 hb2
  have hgg : ¬ w1.heap.size + 1 = w1.heap.size := by omega
  clear x1 y1 hLx hb1 hb2 HX HWX
  generalize hG' : w1.heap.size + 1 = G' at *
  generalize hG : w1.heap.size = G at *
  clear hG hG'
  obtain ⟨⟨g0, g1, g2⟩, _⟩ := cell_three x2
  obtain ⟨⟨k0, k1, k2⟩, _⟩ := cell_three y2
  go_wp2_with fail
  refine (sRecodeFiner_any _ _ _ R _ _ _ _ _ _ _ hL2.s HR.out (by omega) HW.out).mono ?_
  rintro e w3 ⟨rfl, hb3⟩
  clear g0 g1 g2 k0 k1 k2
  have x3 := x2.below hb3
  have y3 := y2.below hb3
  have hL3 := hL2.below hb3
  have hb03 := below2 hb02 hb3
  clear x2 y2 hL2 hb02 hb3
  cases hok : finB (ss R) ⟨a, j, s⟩ ⟨a', j', s'⟩
  · go_wp2
    go_ret
    exact ⟨rfl, hb03⟩
  have HOK := Lib.hid hok
  clear hok
  obtain ⟨hr, hr', _⟩ := finB_iff.1 HOK.out
  obtain ⟨X, hX, hX0⟩ : ∃ X : Int, (n' : Int) % 4 = X ∧ 0 ≤ X ∧ X ≤ 3 := ⟨_, rfl, by omega⟩
  obtain ⟨Y, hY, hY0⟩ : ∃ Y : Int, (n' : Int) / 4 % 4 = Y ∧ 0 ≤ Y ∧ Y ≤ 3 := ⟨_, rfl, by omega⟩
  obtain ⟨Z, hZ, hZ0⟩ : ∃ Z : Int, (n' : Int) / 16 % 2 = Z ∧ 0 ≤ Z ∧ Z ≤ 1 := ⟨_, rfl, by omega⟩
  obtain ⟨T, hT, hT0⟩ : ∃ T : Int, (n' : Int) / 2 % 4 = T ∧ 0 ≤ T ∧ T ≤ 3 := ⟨_, rfl, by omega⟩
  have hP : peopleB [⟨X, Y, Z, 7⟩, ⟨3, 2, 1, 9⟩, ⟨T, 1, 0, 0⟩] = true := by
    refine peopleB_iff.2 ⟨fun x hx => ?_, by simp⟩
    simp only [List.mem_cons, List.not_mem_nil, or_false] at hx
    rcases hx with rfl | rfl | rfl <;> exact okB_mk (by omega) (by omega) (by omega) (by omega)
  have n1 := ppl_boxd3 (Boxd.new w3 42 #[.int .i64 X, .int .i64 Y, .int .i64 Z, .int .i64 7, .int .i64 3, .int .i64 2, .int .i64 1, .int .i64 9, .int .i64 T, .int .i64 1, .int .i64 0, .int .i64 0])
  obtain ⟨P, hPe⟩ : ∃ P : List Pers, P = [⟨X, Y, Z, 7⟩, ⟨3, 2, 1, 9⟩, ⟨T, 1, 0, 0⟩] := ⟨_, rfl⟩
  have HN := Lib.hid (show P.length = 3 by rw [hPe]; rfl)
  rw [← hPe] at n1 hP
  clear hPe hX0 hY0 hZ0 hT0
  obtain ⟨wv, hwv⟩ : ∃ wv, wv = w3.alloc (.cells #[.int .i64 X, .int .i64 Y, .int .i64 Z, .int .i64 7, .int .i64 3, .int .i64 2, .int .i64 1, .int .i64 9, .int .i64 T, .int .i64 1, .int .i64 0, .int .i64 0] 42) := ⟨_, rfl⟩
  have bv : Below w3.heap.size w3 wv := by rw [hwv]; exact below_new _ _
  rw [← hwv] at n1
  have f1 := fun o => (cell_three (x3.alloc o)).1
  have HV := Lib.hid (And.intro (x3.below bv) (And.intro (y3.below bv) (And.intro n1 (And.intro (hL3.below bv) (below2 hb03 bv)))))
  have HWV := Lib.hid hwv
  have o1 : rpOk P (ss R) ⟨a, j, s⟩ = true := rpOk_iff.2 ⟨hP, hr⟩
  have o2 : rpOk (P.map (recP (ss R) ⟨a, j, s⟩)) (ss R) ⟨a', j', s'⟩ = true := rpOk_iff.2 ⟨people_rec hr hP, hr'⟩
  have o3 : rpOk P (ss R) ⟨a', j', s'⟩ = true := rpOk_iff.2 ⟨hP, hr'⟩
  have e2 : (P.map (recP (ss R) ⟨a, j, s⟩)).map (recP (ss R) ⟨a', j', s'⟩) = P.map (recP (ss R) ⟨a', j', s'⟩) := by
    rw [List.map_map]
    apply List.map_congr_left
    intro x hx
    exact recP_chain HOK.out ((peopleB_iff.1 hP).1 x hx)
  have O1 := Lib.hid o1
  have O2 := Lib.hid o2
  have O3 := Lib.hid o3
  have E2 := Lib.hid e2
  have HLN := Lib.hid (show (P.map (recP (ss R) ⟨a, j, s⟩)).length = 3 by rw [List.length_map, HN.out])
  have HLN' := Lib.hid (show (P.map (recP (ss R) ⟨a', j', s'⟩)).length = 3 by rw [List.length_map, HN.out])
  have HSS := Lib.hid (samAll_self (P.map (recP (ss R) ⟨a', j', s'⟩)))
  clear hwv bv n1 x3 y3 hL3 hb03 o1 o2 o3 e2 hP hr hr' HOK HBD hgg
  go_wp2_with fail
  rw [← HWV.out]
  obtain ⟨x4, y4, p4, hL4, hb04⟩ := HV.out
  clear HV HWV f1 hX hY hZ hT
  generalize hH : w3.heap.size = H at *
  clear hH
  refine (recodePeople_any _ _ _ P _ _ _ R _ _ _ _ p4.1 HN.out (by omega) hL4.s HR.out (by omega) HW.out).mono ?_
  rintro e w5 ⟨A5, n5, c5, rfl, hn5, hP5, hb5⟩
  rw [O1.out]
  rw [recL_yes O1.out] at hn5 hP5
  have hn5e := hn5
  rw [HLN.out] at hn5e
  subst hn5e
  have y5 := y4.below hb5
  have p5 := p4.below hb5
  have hL5 := hL4.below hb5
  have hb05 := below2 hb04 hb5
  clear hn5 hb5 x4 y4 p4 hL4 hb04
  obtain ⟨⟨g0, g1, g2⟩, _⟩ := cell_three y5
  go_wp2_with fail
  refine (recodePeople_any _ _ _ (P.map (recP (ss R) ⟨a, j, s⟩)) _ _ _ R _ _ _ _ hP5.1 HLN.out (by omega) hL5.s HR.out (by omega) HW.out).mono ?_
  rintro e w6 ⟨A6, n6, c6, rfl, hn6, hP6, hb6⟩
  rw [O2.out]
  rw [recL_yes O2.out, E2.out] at hn6 hP6
  have hn6e := hn6
  rw [HLN'.out] at hn6e
  subst hn6e
  have y6 := y5.below hb6
  have p6 := p5.below hb6
  have hL6 := hL5.below hb6
  have hb06 := below2 hb05 hb6
  clear hn6 hb6 y5 p5 hL5 hb05 hP5 g0 g1 g2
  obtain ⟨⟨g0, g1, g2⟩, _⟩ := cell_three y6
  go_wp2_with fail
  refine (recodePeople_any _ _ _ P _ _ _ R _ _ _ _ p6.1 HN.out (by omega) hL6.s HR.out (by omega) HW.out).mono ?_
  rintro e w7 ⟨A7, n7, c7, rfl, hn7, hP7, hb7⟩
  rw [O3.out]
  rw [recL_yes O3.out] at hn7 hP7
  have hn7e := hn7
  rw [HLN'.out] at hn7e
  subst hn7e
  clear hn7 g0 g1 g2
  go_wp2_with fail
  refine (samePeople_any _ _ _ _ _ _ (P.map (recP (ss R) ⟨a', j', s'⟩)) (P.map (recP (ss R) ⟨a', j', s'⟩)) _ (hP6.below hb7).1 hP7.1 HLN'.out HLN'.out (by omega) (by omega)).mono ?_
  rintro e w8 ⟨rfl, hb8⟩
  rw [HSS.out]
  go_wp2
  go_ret
  exact ⟨rfl, below2 hb06 (below2 hb7 hb8)⟩

end Go.Proofs.Ytddadkjpkmdmiaa
