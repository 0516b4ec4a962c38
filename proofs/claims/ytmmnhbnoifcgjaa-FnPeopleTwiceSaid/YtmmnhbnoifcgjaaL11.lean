/- Walk of the law FnPeopleTwice. -/
import Derived.Test.YtmmnhbnoifcgjaaSm
import Derived.Test.YtmmnhbnoifcgjaaSp
import Derived.Test.YtmmnhbnoifcgjaaAk
import Derived.Test.YtmmnhbnoifcgjaaPn
import Derived.Test.YtmmnhbnoifcgjaaSl
import Derived.Deep.RegionWith
import Derived.Deep.RegionHeld3
import Derived.Deep.DeepCutAuto
namespace Go.Proofs.Ytmmnhbnoifcgjaa
open Go.RowKit
set_option linter.unusedVariables false

set_option maxHeartbeats 3200000 in
theorem fnPeopleTwice_walk (w : World) (A : Option Addr) (n c : Nat) (hin : BytesIn w A n c) :
    Calls Try.prog 9 #[.slice A n c] w fun e w' => e = .returned (.bool true) ∧ Below w.heap.size w w' := by
  have hn := hin.2.1
  by_cases hbig : 1048576 < n
  · have hd : decide (1048576 < (n : Int)) = true := by simp; omega
    go_enter Try.func9, Try.ntmps9
    go_wp2
    go_ret
    exact ⟨rfl, Below.refl _ _⟩
  have hd : decide (1048576 < (n : Int)) = false := by simp; omega
  go_enter Try.func9, Try.ntmps9
  go_wp2_with fail
  refine (drawPeopleMany_any A n c w hin).mono ?_
  rintro e w1 ⟨B, d, L, x, y, z, rfl, hP1, hm, hb1⟩
  obtain ⟨m, hL⟩ : ∃ m, L.length = m := ⟨_, rfl⟩
  rw [hL] at hm ⊢
  have HL := Lib.hid hL
  clear hL
  go_wp2_with fail
  refine (peopleMany_any _ _ _ L _ _ _ _ hP1.1 HL.out (by omega)).mono ?_
  rintro e w2 ⟨rfl, hb2⟩
  have hP2 := hP1.below hb2
  go_wp2_with fail
  refine (sPeopleMany_any _ _ _ L _ _ _ _ hP2.1 HL.out (by omega)).mono ?_
  rintro e w3 ⟨rfl, hb3⟩
  have hP3 := hP2.below hb3
  have hb03 := below2 hb1 (below2 hb2 hb3)
  have hne : (manyI L x y z != manyI L x y z) = false := by simp
  cases h12 : peopleB L && askB x y z
  · have e0 := manyI_no h12
    rw [e0] at hne ⊢
    clear e0
    go_wp2
    go_ret
    exact ⟨rfl, hb03⟩
  have h12' := h12
  simp only [Bool.and_eq_true] at h12'
  obtain ⟨h1, h2⟩ := h12'
  have hpos : 0 ≤ manyI L x y z := by rw [manyI_yes h1 h2]; omega
  have hpd : decide (manyI L x y z < 0) = false := by simp; omega
  have hmd : m ≤ d := by rw [← HL.out]; exact hP3.2.1
  clear h12 hP1 hP2 hb1 hb2 hb3
  have hP4 := hP3.below (below_new w3 (.cells #[] 35))
  have eb := peopleB_twice h1
  rw [HL.out] at eb
  have EB := Lib.hid eb
  have hLL : (L ++ L).length = m + m := by rw [List.length_append, HL.out]
  have HLL := Lib.hid hLL
  clear eb hLL
  go_upto_region 9 with (first
    | (at_builtin; refine app_many (w := w3.alloc (.cells #[] 35)) rfl (.tmp 40) (.tmp 41) rfl w3.heap.size (.slice (some ⟨w3.heap.size, 0, none⟩) 0 0) [] L B 0 m d rfl rfl rfl HL.out (own_empty w3) hP4 (by omega) (by omega) (by simp) ?_; intro v1 w6 ho6 hg6; simp only [Nat.zero_add, List.nil_append] at ho6; have hb6 := (below_new w3 (.cells #[] 35)).grown hg6 (by simp) (by simp [Value.ownBlock]); obtain ⟨A6, c6, hv6⟩ := own_shape ho6; subst hv6)
    | (at_builtin; refine app_many (w := w6) rfl (.tmp 42) (.tmp 43) rfl w3.heap.size (.slice A6 m c6) L L B m m d rfl rfl HL.out HL.out ho6 (hP3.below hb6) (by omega) (by omega) hb6.size ?_; intro v2 w7 ho7 hg7; have hb7 := hb6.grown hg7 hb6.size (fun k hk => (ho6.lt k hk).1); obtain ⟨A7, c7, hv7⟩ := own_shape ho7; subst hv7))
  have hP7 := ppl_own_n (L := L ++ L) HLL.out ho7
  have hP7' := hP3.below hb7
  have hb07 := below2 hb03 hb7
  by_cases h40 : 40 < m + m
  · have e1 : manyI (L ++ L) x y z = -1 := manyI_no (by rw [EB.out]; simp; omega)
    have h40' : (40 : Int) < (m : Int) + (m : Int) := by omega
    go_wp2_with fail
    refine (peopleMany_any _ _ _ (L ++ L) _ _ _ _ hP7.1 HLL.out (by omega)).mono ?_
    rintro e w8 ⟨rfl, hb8⟩
    rw [e1]
    go_wp2
    go_ret
    exact ⟨rfl, below2 hb07 hb8⟩
  · have h40' : ¬ (40 : Int) < (m : Int) + (m : Int) := by omega
    have hLok : peopleB (L ++ L) = true := by rw [EB.out]; simp; omega
    have e1 : manyI (L ++ L) x y z = 2 * manyI L x y z := by rw [many_cnt hLok h2, many_cnt h1 h2, cnt_append]; omega
    have e2 : payI (L ++ L) x y z = 2 * payI L x y z := by rw [pay_pys hLok h2, pay_pys h1 h2, pys_append]; omega
    have E1 := Lib.hid e1
    have E2 := Lib.hid e2
    obtain ⟨a0, a1⟩ := many_le (L := L) x y z
    rw [HL.out] at a1
    obtain ⟨c0, c1⟩ := pay_le (L := L) x y z
    clear e1 e2
    go_wp2_with fail
    refine (peopleMany_any _ _ _ (L ++ L) _ _ _ _ hP7.1 HLL.out (by omega)).mono ?_
    rintro e w8 ⟨rfl, hb8⟩
    rw [E1.out]
    have hP8 := hP7.below hb8
    have hP8' := hP7'.below hb8
    go_wp2_with fail
    refine (peoplePay_any _ _ _ (L ++ L) _ _ _ _ hP8.1 HLL.out (by omega)).mono ?_
    rintro e w9 ⟨rfl, hb9⟩
    rw [E2.out]
    have hP9' := hP8'.below hb9
    go_wp2_with fail
    refine (peoplePay_any _ _ _ L _ _ _ _ hP9'.1 HL.out (by omega)).mono ?_
    rintro e w10 ⟨rfl, hb10⟩
    go_wp2
    go_ret
    exact ⟨ret_bool (by simp), below2 hb07 (below2 hb8 (below2 hb9 hb10))⟩

end Go.Proofs.Ytmmnhbnoifcgjaa
