/- Walk of the law FnRecodeFinerLeast. -/
import Derived.Test.YtddadkjpkmdmiaaRf
import Derived.Test.YtddadkjpkmdmiaaDt
import Derived.Test.YtddadkjpkmdmiaaRg
import Derived.Deep.DeepCutAuto
import Derived.Deep.QuietTactic
import Derived.BigQuiet
namespace Go.Proofs.Ytddadkjpkmdmiaa
open Go.RowKit
set_option linter.unusedVariables false

set_option maxRecDepth 100000 in
set_option maxHeartbeats 6400000 in
theorem fnRecodeFinerLeast_walk (w : World) (A : Option Addr) (n c : Nat) (hin : BytesIn w A n c) (A' : Option Addr) (n' c' : Nat) (hin' : BytesIn w A' n' c') :
    Calls Try.prog 7 #[.slice A n c, .slice A' n' c'] w fun e w' => e = .returned (.bool true) ∧ Below w.heap.size w w' := by
  have hn := hin.2.1
  have hn' := hin'.2.1
  by_cases hbig : 1048576 < n
  · have hd : decide (1048576 < (n : Int)) = true := by simp; omega
    go_enter Try.func7, Try.ntmps7
    go_wp2
    go_ret
    exact ⟨rfl, Below.refl _ _⟩
  have hd : decide (1048576 < (n : Int)) = false := by simp; omega
  by_cases hbig' : 1048576 < n'
  · have hd' : decide (1048576 < (n' : Int)) = true := by simp; omega
    go_enter Try.func7, Try.ntmps7
    go_wp2
    go_ret
    exact ⟨rfl, Below.refl _ _⟩
  have hd' : decide (1048576 < (n' : Int)) = false := by simp; omega
  go_enter Try.func7, Try.ntmps7
  go_wp2_with fail
  refine (drawRecodeFiner_any A n c w hin).mono ?_
  rintro e w1 ⟨B, m, d, R, a, j, s, a', j', s', rfl, hR, hm, hrow, ha, hj, hs, ha', hj', hs', hL1, hb1⟩
  have HR := Lib.hid hR
  have HW := Lib.hid (fun r hr => Nat.le_trans (hrow r hr) (show 4 ≤ 1099511627776 by omega))
  clear hR hrow
  have HBD := Lib.hid (And.intro ha (And.intro hj (And.intro hs (And.intro ha' (And.intro hj' hs')))))
  clear ha hj hs ha' hj' hs'
  obtain ⟨wx, hwx⟩ : ∃ wx, wx = (w1.alloc (.cells #[.int .i64 a, .int .i64 j, .int .i64 s] 28)).alloc (.cells #[.int .i64 a', .int .i64 j', .int .i64 s'] 28) := ⟨_, rfl⟩
  have b1 : Below w1.heap.size w1 wx := by rw [hwx]; exact below2 (below_new _ _) (below_new _ _)
  have x1 : Boxd wx w1.heap.size 28 #[.int .i64 a, .int .i64 j, .int .i64 s] := by rw [hwx]; exact (Boxd.new _ _ _).alloc _
  have y1 : Boxd wx (w1.heap.size + 1) 28 #[.int .i64 a', .int .i64 j', .int .i64 s'] := by
    rw [hwx]
    have := Boxd.new (w1.alloc (.cells #[.int .i64 a, .int .i64 j, .int .i64 s] 28)) 28 #[.int .i64 a', .int .i64 j', .int .i64 s']
    simp at this
    exact this
  have HX := Lib.hid (And.intro x1 (And.intro y1 (And.intro (hL1.below b1) (below2 hb1 b1))))
  have HWX := Lib.hid hwx
  clear x1 y1 hwx b1 hL1 hb1
  go_wp2_with fail
  rw [← HWX.out]
  obtain ⟨x1, y1, hLx, hb1⟩ := HX.out
  refine (recodeFiner_any _ _ _ R _ _ _ _ _ _ _ hLx.s HR.out (by omega) HW.out).mono ?_
  rintro e w2 ⟨rfl, hb2⟩
  have x2 := x1.below hb2
  have y2 := y1.below hb2
  have hL2 := hLx.below hb2
  have hb02 := below2 hb1 hb2
  have hgg : ¬ w1.heap.size + 1 = w1.heap.size := by omega
  clear x1 y1 hLx hb1 hb2 HX HWX
  generalize hG' : w1.heap.size + 1 = G' at *
  generalize hG : w1.heap.size = G at *
  clear hG hG'
  obtain ⟨⟨g0, g1, g2⟩, _⟩ := cell_three x2
  obtain ⟨⟨k0, k1, k2⟩, _⟩ := cell_three y2
  go_wp2_with fail
  refine (sRecodeFiner_any _ _ _ R _ _ _ _ _ _ _ hL2.s HR.out (by omega) HW.out).mono ?_
  rintro e w3 ⟨rfl, hb3⟩
  clear g0 g1 g2 k0 k1 k2
  have x3 := x2.below hb3
  have y3 := y2.below hb3
  have hL3 := hL2.below hb3
  have hb03 := below2 hb02 hb3
  clear x2 y2 hL2 hb02 hb3
  cases hok : finB (ss R) ⟨a, j, s⟩ ⟨a', j', s'⟩
  · go_wp2
    go_ret
    exact ⟨rfl, hb03⟩
  have HOK := Lib.hid hok
  clear hok
  obtain ⟨hr, hr', _⟩ := finB_iff.1 HOK.out
  have hv := (recOk_iff.1 hr).2
  have hv' := (recOk_iff.1 hr').2
  have HRV := Lib.hid (recOk_iff.1 hr).1
  have HRR := Lib.hid hr
  have HRR' := Lib.hid hr'
  simp only [ss_length, HR.out] at hv hv'
  obtain ⟨X, hX, hX0⟩ : ∃ X : Int, (n' : Int) % ((m : Int) + 1) = X ∧ 0 ≤ X ∧ X ≤ m := ⟨_, rfl, Int.emod_nonneg _ (by omega), by have := Int.emod_lt_of_pos (n' : Int) (show (0 : Int) < (m : Int) + 1 by omega); omega⟩
  obtain ⟨Y, hY, hY0⟩ : ∃ Y : Int, (n' : Int) % 2 = Y ∧ 0 ≤ Y ∧ Y ≤ 1 := ⟨_, rfl, by omega⟩
  obtain ⟨Z, hZ, hZ0⟩ : ∃ Z : Int, (n' : Int) / 2 % 2 = Z ∧ 0 ≤ Z ∧ Z ≤ 1 := ⟨_, rfl, by omega⟩
  obtain ⟨U, hU, hUb⟩ : ∃ U : Int, (if X < a' then X else a') = U ∧ U ≤ a' ∧ U ≤ X ∧ 0 ≤ U := ⟨_, rfl, by split <;> omega⟩
  obtain ⟨V, hV, hVb⟩ : ∃ V : Int, (if Y < j' then Y else j') = V ∧ V ≤ j' ∧ V ≤ Y ∧ 0 ≤ V := ⟨_, rfl, by split <;> omega⟩
  obtain ⟨T, hT, hTb⟩ : ∃ T : Int, (if Z < s' then Z else s') = T ∧ T ≤ s' ∧ T ≤ Z ∧ 0 ≤ T := ⟨_, rfl, by split <;> omega⟩
  obtain ⟨U', hU', hU'b⟩ : ∃ U' : Int, (if a < X then X else a) = U' ∧ a ≤ U' ∧ X ≤ U' ∧ U' ≤ m := ⟨_, rfl, by split <;> omega⟩
  obtain ⟨V', hV', hV'b⟩ : ∃ V' : Int, (if j < Y then Y else j) = V' ∧ j ≤ V' ∧ Y ≤ V' ∧ V' ≤ 1 := ⟨_, rfl, by split <;> omega⟩
  obtain ⟨T', hT', hT'b⟩ : ∃ T' : Int, (if s < Z then Z else s) = T' ∧ s ≤ T' ∧ Z ≤ T' ∧ T' ≤ 1 := ⟨_, rfl, by split <;> omega⟩
  have o1 : recOk (ss R) ⟨X, Y, Z⟩ = true := recOk_iff.2 ⟨HRV.out, by simp only [ss_length, HR.out]; omega, by simp only; omega, by simp only; omega⟩
  have o2 : recOk (ss R) ⟨U, V, T⟩ = true := recOk_iff.2 ⟨HRV.out, by simp only [ss_length, HR.out]; omega, by simp only; omega, by simp only; omega⟩
  have o3 : recOk (ss R) ⟨U', V', T'⟩ = true := recOk_iff.2 ⟨HRV.out, by simp only [ss_length, HR.out]; omega, by simp only; omega, by simp only; omega⟩
  have e0 : finB (ss R) ⟨U, V, T⟩ ⟨a', j', s'⟩ = true := finB_iff.2 ⟨o2, HRR'.out, by simp only; omega, by simp only; omega, by simp only; omega⟩
  have E0 := Lib.hid e0
  have e1 : finB (ss R) ⟨U, V, T⟩ ⟨X, Y, Z⟩ = true := finB_iff.2 ⟨o2, o1, by simp only; omega, by simp only; omega, by simp only; omega⟩
  have E1 := Lib.hid e1
  have e2 : finB (ss R) ⟨a, j, s⟩ ⟨U', V', T'⟩ = true := finB_iff.2 ⟨HRR.out, o3, by simp only; omega, by simp only; omega, by simp only; omega⟩
  have E2 := Lib.hid e2
  have e3 : finB (ss R) ⟨X, Y, Z⟩ ⟨U', V', T'⟩ = true := finB_iff.2 ⟨o1, o3, by simp only; omega, by simp only; omega, by simp only; omega⟩
  have E3 := Lib.hid e3
  clear e0 e1 e2 e3 o1 o2 o3 hv hv' hX0 hY0 hZ0 hUb hVb hTb hU'b hV'b hT'b hr hr' HOK HRR HRR' HRV HBD hgg
  obtain ⟨wv, hwv⟩ : ∃ wv, wv = ((w3.alloc (.cells #[.int .i64 X, .int .i64 Y, .int .i64 Z] 28)).alloc (.cells #[.int .i64 U, .int .i64 V, .int .i64 T] 28)).alloc (.cells #[.int .i64 U', .int .i64 V', .int .i64 T'] 28) := ⟨_, rfl⟩
  have bv : Below w3.heap.size w3 wv := by rw [hwv]; exact below2 (below2 (below_new _ _) (below_new _ _)) (below_new _ _)
  have n1 : Boxd (w3.alloc (.cells #[.int .i64 X, .int .i64 Y, .int .i64 Z] 28)) w3.heap.size 28 #[.int .i64 X, .int .i64 Y, .int .i64 Z] := Boxd.new _ _ _
  have n2 : Boxd ((w3.alloc (.cells #[.int .i64 X, .int .i64 Y, .int .i64 Z] 28)).alloc (.cells #[.int .i64 U, .int .i64 V, .int .i64 T] 28)) (w3.heap.size + 1) 28 #[.int .i64 U, .int .i64 V, .int .i64 T] := by
    have := Boxd.new (w3.alloc (.cells #[.int .i64 X, .int .i64 Y, .int .i64 Z] 28)) 28 #[.int .i64 U, .int .i64 V, .int .i64 T]
    simp at this
    exact this
  have n3 : Boxd wv (w3.heap.size + 1 + 1) 28 #[.int .i64 U', .int .i64 V', .int .i64 T'] := by
    rw [hwv]
    have := Boxd.new ((w3.alloc (.cells #[.int .i64 X, .int .i64 Y, .int .i64 Z] 28)).alloc (.cells #[.int .i64 U, .int .i64 V, .int .i64 T] 28)) 28 #[.int .i64 U', .int .i64 V', .int .i64 T']
    simp at this
    exact this
  have f1 := fun o => (cell_three (y3.alloc o)).1
  have f2 := fun o o' => (cell_three ((x3.alloc o).alloc o')).1
  have f3 := fun o' => (cell_three (n1.alloc o')).1
  have f4 := fun o o' o'' => (cell_three (((y3.alloc o).alloc o').alloc o'')).1
  have HV := Lib.hid (And.intro (x3.below bv) (And.intro (y3.below bv) (And.intro (show Boxd wv w3.heap.size 28 #[.int .i64 X, .int .i64 Y, .int .i64 Z] by rw [hwv]; exact (n1.alloc _).alloc _) (And.intro (show Boxd wv (w3.heap.size + 1) 28 #[.int .i64 U, .int .i64 V, .int .i64 T] by rw [hwv]; exact n2.alloc _) (And.intro n3 (And.intro (hL3.below bv) (below2 hb03 bv)))))))
  have HWV := Lib.hid hwv
  clear hwv bv n1 n2 n3 x3 y3 hL3 hb03
  go_wp2_with fail
  rw [← HWV.out]
  obtain ⟨x4, y4, p4, q4, r4, hL4, hb04⟩ := HV.out
  clear HV HWV f1 f2 f3 f4 hX hY hZ hU hV hT hU' hV' hT'
  refine (recodeFiner_any _ _ _ R _ _ _ _ _ _ _ hL4.s HR.out (by omega) HW.out).mono ?_
  rintro e w5 ⟨rfl, hb5⟩
  rw [E0.out]
  generalize hH2 : w3.heap.size + 1 + 1 = H2 at *
  generalize hH1 : w3.heap.size + 1 = H1 at *
  generalize hH : w3.heap.size = H at *
  clear hH hH1 hH2
  have x5 := x4.below hb5
  have y5 := y4.below hb5
  have p5 := p4.below hb5
  have q5 := q4.below hb5
  have r5 := r4.below hb5
  have hL5 := hL4.below hb5
  have hb05 := below2 hb04 hb5
  clear x4 y4 p4 q4 r4 hL4 hb5
  obtain ⟨⟨g0, g1, g2⟩, _⟩ := cell_three q5
  obtain ⟨⟨k0, k1, k2⟩, _⟩ := cell_three p5
  go_wp2_with fail
  refine (recodeFiner_any _ _ _ R _ _ _ _ _ _ _ hL5.s HR.out (by omega) HW.out).mono ?_
  rintro e w6 ⟨rfl, hb6⟩
  rw [E1.out]
  clear g0 g1 g2 k0 k1 k2
  have x6 := x5.below hb6
  have y6 := y5.below hb6
  have p6 := p5.below hb6
  have q6 := q5.below hb6
  have r6 := r5.below hb6
  have hL6 := hL5.below hb6
  have hb06 := below2 hb05 hb6
  clear x5 y5 p5 q5 r5 hL5 hb6
  obtain ⟨⟨g0, g1, g2⟩, _⟩ := cell_three x6
  obtain ⟨⟨k0, k1, k2⟩, _⟩ := cell_three r6
  go_wp2_with fail
  refine (recodeFiner_any _ _ _ R _ _ _ _ _ _ _ hL6.s HR.out (by omega) HW.out).mono ?_
  rintro e w7 ⟨rfl, hb7⟩
  rw [E2.out]
  clear g0 g1 g2 k0 k1 k2
  have x7 := x6.below hb7
  have y7 := y6.below hb7
  have p7 := p6.below hb7
  have q7 := q6.below hb7
  have r7 := r6.below hb7
  have hL7 := hL6.below hb7
  have hb07 := below2 hb06 hb7
  clear x6 y6 p6 q6 r6 hL6 hb7
  obtain ⟨⟨g0, g1, g2⟩, _⟩ := cell_three p7
  obtain ⟨⟨k0, k1, k2⟩, _⟩ := cell_three r7
  go_wp2_with fail
  refine (recodeFiner_any _ _ _ R _ _ _ _ _ _ _ hL7.s HR.out (by omega) HW.out).mono ?_
  rintro e w8 ⟨rfl, hb8⟩
  rw [E3.out]
  clear g0 g1 g2 k0 k1 k2
  go_wp2
  go_ret
  exact ⟨rfl, below2 hb07 hb8⟩

end Go.Proofs.Ytddadkjpkmdmiaa
