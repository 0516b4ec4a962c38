/- Walk of the law FnRecodeFiner. -/
import Derived.Test.YtddadkjpkmdmiaaRf
import Derived.Test.YtddadkjpkmdmiaaRg
import Derived.Test.YtddadkjpkmdmiaaDt
import Derived.Deep.DeepCutAuto
import Derived.Deep.QuietTactic
import Derived.BigQuiet
import Derived.Deep.RegionHeld3
import Derived.Laws.StructEq
namespace Go.Proofs.Ytddadkjpkmdmiaa
open Go.RowKit
set_option linter.unusedVariables false

theorem eqlR (a j s a' j' s' : Int) (w : World) : (binOp .eql 28 (.agg #[.int .i64 a, .int .i64 j, .int .i64 s]) (.agg #[.int .i64 a', .int .i64 j', .int .i64 s'])).run Try.prog w = .ok (.bool (a == a' && (j == j' && s == s'))) w := by
  have hS : Try.prog.underlying 28 = some (.struct (Try.prog.fieldsOf 28)) := by kernel_rfl
  have hp : Try.prog.stoodInHeld 28 = false := by kernel_rfl
  have u3 := Try.underlying3
  have a3 := Try.isAgg3
  have z3 := Try.sizeOf3
  rw [run_eql_struct, show (10000 : Nat) = 9999 + 1 from rfl, run_equalIn_agg w 9999 28 _ _ hS hp]
  simp only [Program.fieldsOf, Try.underlying28]
  go_simp
  by_cases h1 : a = a' <;> by_cases h2 : j = j' <;> by_cases h3 : s = s' <;> simp [h1, h2, h3]

set_option maxRecDepth 100000 in
set_option maxHeartbeats 6400000 in
theorem fnRecodeFiner_walk (w : World) (A : Option Addr) (n c : Nat) (hin : BytesIn w A n c) :
    Calls Try.prog 6 #[.slice A n c] w fun e w' => e = .returned (.bool true) ∧ Below w.heap.size w w' := by
  have hn := hin.2.1
  by_cases hbig : 1048576 < n
  · have hd : decide (1048576 < (n : Int)) = true := by simp; omega
    go_enter Try.func6, Try.ntmps6
    go_wp2
    go_ret
    exact ⟨rfl, Below.refl _ _⟩
  have hd : decide (1048576 < (n : Int)) = false := by simp; omega
  go_enter Try.func6, Try.ntmps6
  go_wp2_with fail
  refine (drawRecodeFiner_any A n c w hin).mono ?_
  rintro e w1 ⟨B, m, d, R, a, j, s, a', j', s', rfl, hR, hm, hrow, ha, hj, hs, ha', hj', hs', hL1, hb1⟩
  have HR := Lib.hid hR
  have HW := Lib.hid (fun r hr => Nat.le_trans (hrow r hr) (show 4 ≤ 1099511627776 by omega))
  clear hR hrow
  have HBD := Lib.hid (And.intro ha (And.intro hj (And.intro hs (And.intro ha' (And.intro hj' hs')))))
  clear ha hj hs ha' hj' hs'
  obtain ⟨wx, hwx⟩ : ∃ wx, wx = (w1.alloc (.cells #[.int .i64 a, .int .i64 j, .int .i64 s] 28)).alloc (.cells #[.int .i64 a', .int .i64 j', .int .i64 s'] 28) := ⟨_, rfl⟩
  have b1 : Below w1.heap.size w1 wx := by rw [hwx]; exact below2 (below_new _ _) (below_new _ _)
  have x1 : Boxd wx w1.heap.size 28 #[.int .i64 a, .int .i64 j, .int .i64 s] := by rw [hwx]; exact (Boxd.new _ _ _).alloc _
  have y1 : Boxd wx (w1.heap.size + 1) 28 #[.int .i64 a', .int .i64 j', .int .i64 s'] := by
    rw [hwx]
    have := Boxd.new (w1.alloc (.cells #[.int .i64 a, .int .i64 j, .int .i64 s] 28)) 28 #[.int .i64 a', .int .i64 j', .int .i64 s']
    simp at this
    exact this
  have HX := Lib.hid (And.intro x1 (And.intro y1 (And.intro (hL1.below b1) (below2 hb1 b1))))
  have HWX := Lib.hid hwx
  clear x1 y1 hwx b1 hL1 hb1
  go_wp2_with fail
  rw [← HWX.out]
  obtain ⟨x1, y1, hLx, hb1⟩ := HX.out
  refine (recodeFiner_any _ _ _ R _ _ _ _ _ _ _ hLx.s HR.out (by omega) HW.out).mono ?_
  rintro e w2 ⟨rfl, hb2⟩
  have x2 := x1.below hb2
  have y2 := y1.below hb2
  have hL2 := hLx.below hb2
  have hb02 := below2 hb1 hb2
  have hgg : ¬ w1.heap.size + 1 = w1.heap.size := by omega
  clear x1 y1 hLx hb1 hb2 HX HWX
  generalize hG' : w1.heap.size + 1 = G' at *
  generalize hG : w1.heap.size = G at *
  clear hG hG'
  obtain ⟨⟨g0, g1, g2⟩, _⟩ := cell_three x2
  obtain ⟨⟨k0, k1, k2⟩, _⟩ := cell_three y2
  go_wp2_with fail
  refine (sRecodeFiner_any _ _ _ R _ _ _ _ _ _ _ hL2.s HR.out (by omega) HW.out).mono ?_
  rintro e w3 ⟨rfl, hb3⟩
  clear g0 g1 g2 k0 k1 k2
  have x3 := x2.below hb3
  have y3 := y2.below hb3
  have hL3 := hL2.below hb3
  have hb03 := below2 hb02 hb3
  clear x2 y2 hL2 hb02 hb3
  cases hok : finB (ss R) ⟨a, j, s⟩ ⟨a', j', s'⟩
  · go_wp2
    go_ret
    exact ⟨rfl, hb03⟩
  have HOK := Lib.hid hok
  clear hok
  obtain ⟨hr, hr', _⟩ := finB_iff.1 HOK.out
  have E0 := Lib.hid (finB_back HOK.out)
  have E1 := Lib.hid (finB_refl hr)
  have e2 : finB (ss R) ⟨0, 0, 0⟩ ⟨a', j', s'⟩ = true := finB_iff.2 ⟨recOk_zero (recOk_iff.1 hr').1, hr', (recOk_iff.1 hr').2.1.1, (recOk_iff.1 hr').2.2.1.1, (recOk_iff.1 hr').2.2.2.1⟩
  have E2 := Lib.hid e2
  clear e2
  have eq := fun w' => eqlR a j s a' j' s' w'
  have ee : ∀ q : Bool, (q == q) = true := fun q => by simp
  generalize hq : (a == a' && (j == j' && s == s')) = q at *
  clear hr hr' HOK
  have HXG := Lib.hid (fun (w' : World) (h : Below w3.heap.size w3 w') => (show w'.cell? ⟨G, 0, none⟩ = some (.int .i64 a) ∧ w'.cell? ⟨G, 1, none⟩ = some (.int .i64 j) ∧ w'.cell? ⟨G, 2, none⟩ = some (.int .i64 s) ∧ w'.cell? ⟨G', 0, none⟩ = some (.int .i64 a') ∧ w'.cell? ⟨G', 1, none⟩ = some (.int .i64 j') ∧ w'.cell? ⟨G', 2, none⟩ = some (.int .i64 s') from ⟨(cell_three (x3.below h)).1.1, (cell_three (x3.below h)).1.2.1, (cell_three (x3.below h)).1.2.2, (cell_three (y3.below h)).1.1, (cell_three (y3.below h)).1.2.1, (cell_three (y3.below h)).1.2.2⟩))
  have HLG := Lib.hid (fun (w' : World) (h : Below w3.heap.size w3 w') => (hL3.below h).s)
  have cur : Below w3.heap.size w3 w3.drew := (Below.refl _ _).drew
  have HB := Lib.hid hb03
  clear x3 y3 hL3 hb03 HBD hgg
  have hqq := ee q
  clear ee hq
  go_wp2
  go_region_held3 (fun w' => w'.cell? ⟨G, 0, none⟩ = some (.int .i64 a) ∧ w'.cell? ⟨G, 1, none⟩ = some (.int .i64 j) ∧ w'.cell? ⟨G, 2, none⟩ = some (.int .i64 s) ∧ w'.cell? ⟨G', 0, none⟩ = some (.int .i64 a') ∧ w'.cell? ⟨G', 1, none⟩ = some (.int .i64 j') ∧ w'.cell? ⟨G', 2, none⟩ = some (.int .i64 s')) (with_reducible exact HXG.out _ cur) (first | (go_at_call 20; refine (recodeFiner_any _ _ _ R _ _ _ _ _ _ _ (HLG.out _ cur) HR.out (by omega) HW.out).mono ?_; rintro e wy ⟨rfl, hby⟩; (first | rw [E0.out] | rw [E1.out] | rw [E2.out]); have cur := below2 cur hby))
  all_goals
    go_wp2
    go_ret
    exact ⟨ret_bool (by simp), below2 HB.out cur⟩

end Go.Proofs.Ytddadkjpkmdmiaa
