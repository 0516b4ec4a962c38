/- Walk of the law FnPeopleManyAny. -/
import Derived.Test.YtmmnhbnoifcgjaaSm
import Derived.Test.YtmmnhbnoifcgjaaSp
import Derived.Test.YtmmnhbnoifcgjaaAk
import Derived.Test.YtmmnhbnoifcgjaaPn
import Derived.Test.YtmmnhbnoifcgjaaSl
import Derived.Deep.RegionWith
import Derived.Deep.DeepCutAuto
namespace Go.Proofs.Ytmmnhbnoifcgjaa
open Go.RowKit
set_option linter.unusedVariables false

/-- The people of the first k areas. -/
def areasTo (L : List Pers) (y z : Int) : Nat → Int
  | 0 => 0
  | k + 1 => areasTo L y z k + manyI L k y z
theorem areas_four {L : List Pers} {x y z : Int} (h1 : peopleB L = true) (h2 : askB x y z = true) : areasTo L y z 4 = manyI L (-1) y z := by
  have e := cnt_areas (peopleB_iff.1 h1).1 y z
  have e0 := many_cnt h1 (ask_a (k := 0) h2 (by omega) (by omega))
  have e1 := many_cnt h1 (ask_a (k := 1) h2 (by omega) (by omega))
  have e2 := many_cnt h1 (ask_a (k := 2) h2 (by omega) (by omega))
  have e3 := many_cnt h1 (ask_a (k := 3) h2 (by omega) (by omega))
  have e4 := many_cnt h1 (ask_a (k := -1) h2 (by omega) (by omega))
  simp [areasTo, e0, e1, e2, e3, e4, e]
def AreasRel (L : List Pers) (y z : Int) (w0 : World) (t i : Value) (wr : World) : Prop :=
  ∃ (k : Nat) (q : Int), k ≤ 4 ∧ i = .int .i64 k ∧ t = .int .i64 q ∧ -100 * (k : Int) ≤ q ∧ q ≤ 100 * (k : Int) ∧ Hid (areasTo L y z k = q) ∧ Below w0.heap.size w0 wr

set_option maxHeartbeats 3200000 in
theorem fnPeopleManyAny_walk (w : World) (A : Option Addr) (n c : Nat) (hin : BytesIn w A n c) :
    Calls Try.prog 6 #[.slice A n c] w fun e w' => e = .returned (.bool true) ∧ Below w.heap.size w w' := by
  have hn := hin.2.1
  by_cases hbig : 1048576 < n
  · have hd : decide (1048576 < (n : Int)) = true := by simp; omega
    go_enter Try.func6, Try.ntmps6
    go_wp2
    go_ret
    exact ⟨rfl, Below.refl _ _⟩
  have hd : decide (1048576 < (n : Int)) = false := by simp; omega
  go_enter Try.func6, Try.ntmps6
  go_wp2_with fail
  refine (drawPeopleMany_any A n c w hin).mono ?_
  rintro e w1 ⟨B, d, L, x, y, z, rfl, hP1, hm, hb1⟩
  obtain ⟨m, hL⟩ : ∃ m, L.length = m := ⟨_, rfl⟩
  rw [hL] at hm ⊢
  have HL := Lib.hid hL
  clear hL
  go_wp2_with fail
  refine (peopleMany_any _ _ _ L _ _ _ _ hP1.1 HL.out (by omega)).mono ?_
  rintro e w2 ⟨rfl, hb2⟩
  have hP2 := hP1.below hb2
  go_wp2_with fail
  refine (sPeopleMany_any _ _ _ L _ _ _ _ hP2.1 HL.out (by omega)).mono ?_
  rintro e w3 ⟨rfl, hb3⟩
  have hP3 := hP2.below hb3
  have hb03 := below2 hb1 (below2 hb2 hb3)
  have hne : (manyI L x y z != manyI L x y z) = false := by simp
  cases h12 : peopleB L && askB x y z
  · have e0 := manyI_no h12
    rw [e0] at hne ⊢
    clear e0
    go_wp2
    go_ret
    exact ⟨rfl, hb03⟩
  have h12' := h12
  simp only [Bool.and_eq_true] at h12'
  obtain ⟨h1, h2⟩ := h12'
  have hpos : 0 ≤ manyI L x y z := by rw [manyI_yes h1 h2]; omega
  have hpd : decide (manyI L x y z < 0) = false := by simp; omega
  have hmd : m ≤ d := by rw [← HL.out]; exact hP3.2.1
  clear h12 hP1 hP2 hb1 hb2 hb3
  go_wp2_with fail
  go_loopw [9, 10] (fun t i wr => AreasRel L y z w3 t i wr) (fun _ i _ => 4 - (intOf i).toNat)
  case atStart => exact ⟨0, 0, by omega, rfl, rfl, by omega, by omega, rfl, Below.refl _ _⟩
  case round =>
    obtain ⟨k, q, hk, rfl, rfl, hq0, hq1, hsum, hbr⟩ := hrel
    have hPr := hP3.below hbr
    have hb0r := below2 hb03 hbr
    by_cases hk4 : (k : Int) < 4
    · have hle := many_le (L := L) (k : Int) y z
      rw [HL.out] at hle
      obtain ⟨hle0, hle1⟩ := hle
      go_wp2_with (go_at_call 16; refine (peopleMany_any _ _ _ L _ _ _ _ hPr.1 HL.out (by omega)).mono ?_; rintro e w4 ⟨rfl, hb4⟩)
      have R : AreasRel L y z w3 (.int .i64 (q + manyI L k y z)) (.int .i64 ((k : Int) + 1)) w4 :=
        ⟨k + 1, q + manyI L k y z, by omega, by go_num, rfl, by omega, by omega, by unfold Hid; rw [areasTo, hsum.out], hbr.trans (hb4.mono hbr.size)⟩
      go_roundw
      case rel => first | exact R | ((repeat apply Exists.intro); first | exact ⟨R, rfl⟩ | exact ⟨R, rfl, rfl⟩ | exact ⟨R, rfl, rfl, rfl⟩)
      case measure => simp [intOf]; omega
    · obtain rfl : k = 4 := by omega
      have hx := hsum.out
      rw [areas_four h1 h2] at hx
      subst hx
      have hle2 := many_le (L := L) x y 0
      have hle3 := many_le (L := L) x y 1
      rw [HL.out] at hle2 hle3
      obtain ⟨a2, a3⟩ := hle2
      obtain ⟨b2, b3⟩ := hle3
      have hs := cnt_sexes (peopleB_iff.1 h1).1 x y
      rw [← many_cnt h1 (ask_s (k := 0) h2 (by omega) (by omega)), ← many_cnt h1 (ask_s (k := 1) h2 (by omega) (by omega)), ← many_cnt h1 (ask_s (k := -1) h2 (by omega) (by omega))] at hs
      have HS := Lib.hid hs
      clear hs
      have t1 : (manyI L (-1) y z == manyI L (-1) y z) = true := by simp
      go_wp2_with fail
      refine (peopleMany_any _ _ _ L _ _ _ _ hPr.1 HL.out (by omega)).mono ?_
      rintro e w4 ⟨rfl, hb4⟩
      have hP4 := hPr.below hb4
      go_wp2_with fail
      refine (peopleMany_any _ _ _ L _ _ _ _ hP4.1 HL.out (by omega)).mono ?_
      rintro e w5 ⟨rfl, hb5⟩
      have hP5 := hP4.below hb5
      go_wp2_with fail
      refine (peopleMany_any _ _ _ L _ _ _ _ hP5.1 HL.out (by omega)).mono ?_
      rintro e w6 ⟨rfl, hb6⟩
      have hP6 := hP5.below hb6
      go_wp2_with fail
      refine (peopleMany_any _ _ _ L _ _ _ _ hP6.1 HL.out (by omega)).mono ?_
      rintro e w7 ⟨rfl, hb7⟩
      go_wp2
      go_ret
      exact ⟨ret_bool (by rw [HS.out]; simp), below2 hb0r (below2 hb4 (below2 hb5 (below2 hb6 hb7)))⟩

end Go.Proofs.Ytmmnhbnoifcgjaa
