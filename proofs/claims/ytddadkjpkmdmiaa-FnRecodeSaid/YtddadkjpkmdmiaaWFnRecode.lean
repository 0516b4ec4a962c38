/- Walk of the law FnRecode. -/
import Derived.Test.YtddadkjpkmdmiaaRv
import Derived.Test.YtddadkjpkmdmiaaDs
import Derived.Deep.DeepCutAuto
namespace Go.Proofs.Ytddadkjpkmdmiaa
open Go.RowKit
set_option linter.unusedVariables false

set_option maxRecDepth 100000 in
set_option maxHeartbeats 6400000 in
theorem fnRecode_walk (w : World) (A : Option Addr) (n c : Nat) (hin : BytesIn w A n c) :
    Calls Try.prog 5 #[.slice A n c] w fun e w' => e = .returned (.bool true) ∧ Below w.heap.size w w' := by
  have hn := hin.2.1
  by_cases hbig : 1048576 < n
  · have hd : decide (1048576 < (n : Int)) = true := by simp; omega
    go_enter Try.func5, Try.ntmps5
    go_wp2
    go_ret
    exact ⟨rfl, Below.refl _ _⟩
  have hd : decide (1048576 < (n : Int)) = false := by simp; omega
  go_enter Try.func5, Try.ntmps5
  go_wp2_with fail
  refine (drawRecodeValid_any A n c w hin).mono ?_
  rintro e w1 ⟨B, m, d, R, a, j, s, rfl, hR, hm, hrow, ha, hj, hs, hL1, hb1⟩
  have HR := Lib.hid hR
  have HW := Lib.hid (fun r hr => Nat.le_trans (hrow r hr) (show 4 ≤ 1099511627776 by omega))
  clear hR hrow
  have b1 := below_new w1 (.cells #[.int .i64 a, .int .i64 j, .int .i64 s] 28)
  have x1 := Boxd.new w1 28 #[.int .i64 a, .int .i64 j, .int .i64 s]
  have hLx := hL1.below b1
  go_wp2_with fail
  refine (recodeValid_any _ _ _ R _ _ _ _ hLx.s HR.out (by omega) HW.out).mono ?_
  rintro e w2 ⟨rfl, hb2⟩
  have x2 := x1.below hb2
  have hL2 := hLx.below hb2
  obtain ⟨⟨g0, g1, g2⟩, _⟩ := cell_three x2
  go_wp2_with fail
  refine (sRecodeValid_any _ _ _ R _ _ _ _ hL2.s HR.out (by omega) HW.out).mono ?_
  rintro e w3 ⟨rfl, hb3⟩
  clear g0 g1 g2
  have x3 := x2.below hb3
  have hL3 := hL2.below hb3
  have hb03 := below2 hb1 (below2 b1 (below2 hb2 hb3))
  obtain ⟨⟨g0, g1, g2⟩, _⟩ := cell_three x3
  have hg1 := x3.lt
  cases hok : recOk (ss R) ⟨a, j, s⟩
  · go_wp2
    go_ret
    exact ⟨rfl, hb03⟩
  obtain ⟨hRv, h1, h2, h3⟩ := recOk_iff.1 hok
  have E1 := Lib.hid (recOk_zero hRv)
  have e2 : recOk (ss R) ⟨(m : Int) + 1, j, s⟩ = false := by
    cases e : recOk (ss R) ⟨(m : Int) + 1, j, s⟩ with
    | false => rfl
    | true =>
      have q := (recOk_iff.1 e).2.1.2
      simp only [ss_length, HR.out] at q
      omega
  have e3 : recOk (ss R) ⟨a, j, 2⟩ = false := by
    cases e : recOk (ss R) ⟨a, j, 2⟩ with
    | false => rfl
    | true =>
      have q := (recOk_iff.1 e).2.2.2.2
      simp only at q
      omega
  have E2 := Lib.hid e2
  have E3 := Lib.hid e3
  clear e2 e3 hRv h1 h2 h3 x1 x2 b1 hLx hL1 hL2 hb1 hb2 hb3
  have b5 := below2 (below_new w3 (.cells #[.int .i64 ((m : Int) + 1), .int .i64 j, .int .i64 s] 28)) (below_new (w3.alloc (.cells #[.int .i64 ((m : Int) + 1), .int .i64 j, .int .i64 s] 28)) (.cells #[.int .i64 a, .int .i64 j, .int .i64 2] 28))
  have hL5 := hL3.below b5
  have y5 : Boxd ((w3.alloc (.cells #[.int .i64 ((m : Int) + 1), .int .i64 j, .int .i64 s] 28)).alloc (.cells #[.int .i64 a, .int .i64 j, .int .i64 2] 28)) w3.heap.size 28 #[.int .i64 ((m : Int) + 1), .int .i64 j, .int .i64 s] := (Boxd.new w3 _ _).alloc _
  have z5 : Boxd ((w3.alloc (.cells #[.int .i64 ((m : Int) + 1), .int .i64 j, .int .i64 s] 28)).alloc (.cells #[.int .i64 a, .int .i64 j, .int .i64 2] 28)) (w3.heap.size + 1) 28 #[.int .i64 a, .int .i64 j, .int .i64 2] := by
    have := Boxd.new (w3.alloc (.cells #[.int .i64 ((m : Int) + 1), .int .i64 j, .int .i64 s] 28)) 28 #[.int .i64 a, .int .i64 j, .int .i64 2]
    simp at this
    exact this
  have HY := Lib.hid (And.intro y5 (And.intro z5 (And.intro hL5 (below2 hb03 b5))))
  clear y5 z5 hL5 b5
  go_wp2_with fail
  refine (recodeValid_any _ _ _ R 0 0 0 _ HY.out.2.2.1.s HR.out (by omega) HW.out).mono ?_
  rintro e w6 ⟨rfl, hb6⟩
  rw [E1.out]
  have y6 := HY.out.1.below hb6
  have z6 := HY.out.2.1.below hb6
  have hL6 := HY.out.2.2.1.below hb6
  have hb06 := below2 HY.out.2.2.2 hb6
  clear hb6 g0 g1 g2
  obtain ⟨⟨g0, g1, g2⟩, _⟩ := cell_three y6
  obtain ⟨⟨k0, k1, k2⟩, _⟩ := cell_three z6
  go_wp2_with fail
  refine (recodeValid_any _ _ _ R _ _ _ _ hL6.s HR.out (by omega) HW.out).mono ?_
  rintro e w7 ⟨rfl, hb7⟩
  rw [E2.out]
  have z7 := z6.below hb7
  have hL7 := hL6.below hb7
  have hb07 := below2 hb06 hb7
  clear hb7 k0 k1 k2
  obtain ⟨⟨k0, k1, k2⟩, _⟩ := cell_three z7
  go_wp2_with fail
  refine (recodeValid_any _ _ _ R _ _ _ _ hL7.s HR.out (by omega) HW.out).mono ?_
  rintro e w8 ⟨rfl, hb8⟩
  rw [E3.out]
  go_wp2
  go_ret
  exact ⟨rfl, below2 hb07 hb8⟩

end Go.Proofs.Ytddadkjpkmdmiaa
