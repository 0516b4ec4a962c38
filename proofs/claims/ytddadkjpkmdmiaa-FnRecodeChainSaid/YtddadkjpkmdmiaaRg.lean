/- Contract of the reference's RecodeFiner. -/
import Derived.Test.YtddadkjpkmdmiaaRv
import Derived.Test.YtddadkjpkmdmiaaBx
namespace Go.Proofs.Ytddadkjpkmdmiaa
open Go.RowKit
set_option linter.unusedVariables false

theorem sRecodeFiner_eq (R : List (List Int)) (a j s a' j' s' : Int) : finB R ⟨a, j, s⟩ ⟨a', j', s'⟩ = (recOk R ⟨a, j, s⟩ && (recOk R ⟨a', j', s'⟩ && (decide (a ≤ a') && (decide (j ≤ j') && decide (s ≤ s'))))) := rfl

set_option maxHeartbeats 6400000 in
theorem sRecodeFiner_any (A : Option Addr) (n c : Nat) (R : List Rw) (a j s a' j' s' : Int) (w : World) (hA : LadS w A R) (hn : R.length = n) (hm : n ≤ 1099511627776) (hr : ∀ r ∈ R, r.s.length ≤ 1099511627776) :
    Calls Try.prog 19 #[.slice A n c, .agg #[.int .i64 a, .int .i64 j, .int .i64 s], .agg #[.int .i64 a', .int .i64 j', .int .i64 s']] w fun e w' => e = .returned (.bool (finB (ss R) ⟨a, j, s⟩ ⟨a', j', s'⟩)) ∧ Below w.heap.size w w' := by
  have bb := below2 (below_new w (.cells #[.int .i64 a, .int .i64 j, .int .i64 s] 28)) (below_new (w.alloc (.cells #[.int .i64 a, .int .i64 j, .int .i64 s] 28)) (.cells #[.int .i64 a', .int .i64 j', .int .i64 s'] 28))
  have x0 : Boxd ((w.alloc (.cells #[.int .i64 a, .int .i64 j, .int .i64 s] 28)).alloc (.cells #[.int .i64 a', .int .i64 j', .int .i64 s'] 28)) w.heap.size 28 #[.int .i64 a, .int .i64 j, .int .i64 s] := (Boxd.new w _ _).alloc _
  have y0 : Boxd ((w.alloc (.cells #[.int .i64 a, .int .i64 j, .int .i64 s] 28)).alloc (.cells #[.int .i64 a', .int .i64 j', .int .i64 s'] 28)) (w.heap.size + 1) 28 #[.int .i64 a', .int .i64 j', .int .i64 s'] := by
    have := Boxd.new (w.alloc (.cells #[.int .i64 a, .int .i64 j, .int .i64 s] 28)) 28 #[.int .i64 a', .int .i64 j', .int .i64 s']
    simp at this
    exact this
  have HA := Lib.hid (hA.below bb)
  have HN := Lib.hid hn
  have HW := Lib.hid hr
  have HB := Lib.hid bb
  have HXY := Lib.hid (And.intro x0 y0)
  have HQ := Lib.hid (sRecodeFiner_eq (ss R) a j s a' j' s')
  clear hA hn hr bb x0 y0
  cases h1 : recOk (ss R) ⟨a, j, s⟩
  · go_enter Try.func19, Try.ntmps19
    go_wp2_with fail
    refine (sRecodeValid_any _ _ _ R _ _ _ _ HA.out HN.out hm HW.out).mono ?_
    rintro e w1 ⟨rfl, hb1⟩
    rw [h1]
    have hb := below2 HB.out hb1
    go_wp2
    go_ret
    exact ⟨ret_bool (by rw [HQ.out, h1]; simp), hb⟩
  · cases h2 : recOk (ss R) ⟨a', j', s'⟩
    · go_enter Try.func19, Try.ntmps19
      go_wp2_with fail
      refine (sRecodeValid_any _ _ _ R _ _ _ _ HA.out HN.out hm HW.out).mono ?_
      rintro e w1 ⟨rfl, hb1⟩
      rw [h1]
      have hb := below2 HB.out hb1
      obtain ⟨⟨g0, g1, g2⟩, _⟩ := cell_three (HXY.out.1.below hb1)
      obtain ⟨⟨k0, k1, k2⟩, _⟩ := cell_three (HXY.out.2.below hb1)
      have HA1 := Lib.hid (HA.out.below hb1)
      clear hb1
      go_wp2_with fail
      refine (sRecodeValid_any _ _ _ R _ _ _ _ HA1.out HN.out hm HW.out).mono ?_
      rintro e w2 ⟨rfl, hb2⟩
      rw [h2]
      go_wp2
      go_ret
      exact ⟨ret_bool (by rw [HQ.out, h1, h2]; simp), below2 hb hb2⟩
    · cases h3 : decide (a ≤ a') <;> cases h4 : decide (j ≤ j')
      all_goals
        go_enter Try.func19, Try.ntmps19
        go_wp2_with fail
        refine (sRecodeValid_any _ _ _ R _ _ _ _ HA.out HN.out hm HW.out).mono ?_
        rintro e w1 ⟨rfl, hb1⟩
        rw [h1]
        have hb := below2 HB.out hb1
        have x1 := HXY.out.1.below hb1
        have y1 := HXY.out.2.below hb1
        obtain ⟨⟨g0, g1, g2⟩, _⟩ := cell_three x1
        obtain ⟨⟨k0, k1, k2⟩, _⟩ := cell_three y1
        have HA1 := Lib.hid (HA.out.below hb1)
        clear hb1
        go_wp2_with fail
        refine (sRecodeValid_any _ _ _ R _ _ _ _ HA1.out HN.out hm HW.out).mono ?_
        rintro e w2 ⟨rfl, hb2⟩
        rw [h2]
        clear g0 g1 g2 k0 k1 k2
        obtain ⟨⟨g0, g1, g2⟩, _⟩ := cell_three (x1.below hb2)
        obtain ⟨⟨k0, k1, k2⟩, _⟩ := cell_three (y1.below hb2)
        have hb3 := below2 hb hb2
        clear hb2 x1 y1
        go_wp2
        go_ret
        exact ⟨ret_bool (by rw [HQ.out, h1, h2, h3, h4]; simp), hb3⟩

end Go.Proofs.Ytddadkjpkmdmiaa
