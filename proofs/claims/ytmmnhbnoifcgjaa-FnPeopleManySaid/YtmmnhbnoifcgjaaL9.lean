/- Walk of the law FnPeopleMany. -/
import Derived.Test.YtmmnhbnoifcgjaaSm
import Derived.Test.YtmmnhbnoifcgjaaSp
import Derived.Test.YtmmnhbnoifcgjaaAk
import Derived.Test.YtmmnhbnoifcgjaaPn
import Derived.Test.YtmmnhbnoifcgjaaSl
import Derived.Deep.RegionWith
import Derived.Deep.RegionHeld3
import Derived.Deep.DeepCutAuto
namespace Go.Proofs.Ytmmnhbnoifcgjaa
open Go.RowKit
set_option linter.unusedVariables false

set_option maxHeartbeats 3200000 in
theorem fnPeopleMany_walk (w : World) (A : Option Addr) (n c : Nat) (hin : BytesIn w A n c) (A' : Option Addr) (n' c' : Nat) (hin' : BytesIn w A' n' c') :
    Calls Try.prog 5 #[.slice A n c, .slice A' n' c'] w fun e w' => e = .returned (.bool true) ∧ Below w.heap.size w w' := by
  have hn := hin.2.1
  have hn' := hin'.2.1
  by_cases hbig : 1048576 < n
  · have hd : decide (1048576 < (n : Int)) = true := by simp; omega
    go_enter Try.func5, Try.ntmps5
    go_wp2
    go_ret
    exact ⟨rfl, Below.refl _ _⟩
  have hd : decide (1048576 < (n : Int)) = false := by simp; omega
  by_cases hbig' : 1048576 < n'
  · have hd' : decide (1048576 < (n' : Int)) = true := by simp; omega
    go_enter Try.func5, Try.ntmps5
    go_wp2
    go_ret
    exact ⟨rfl, Below.refl _ _⟩
  have hd' : decide (1048576 < (n' : Int)) = false := by simp; omega
  go_enter Try.func5, Try.ntmps5
  go_wp2_with fail
  refine (drawPeopleMany_any A n c w hin).mono ?_
  rintro e w1 ⟨B, d, L, x, y, z, rfl, hP1, hm, hb1⟩
  obtain ⟨m, hL⟩ : ∃ m, L.length = m := ⟨_, rfl⟩
  rw [hL] at hm ⊢
  have HL := Lib.hid hL
  clear hL
  go_wp2_with fail
  refine (peopleMany_any _ _ _ L _ _ _ _ hP1.1 HL.out (by omega)).mono ?_
  rintro e w2 ⟨rfl, hb2⟩
  have hP2 := hP1.below hb2
  go_wp2_with fail
  refine (sPeopleMany_any _ _ _ L _ _ _ _ hP2.1 HL.out (by omega)).mono ?_
  rintro e w3 ⟨rfl, hb3⟩
  have hP3 := hP2.below hb3
  have hb03 := below2 hb1 (below2 hb2 hb3)
  have hne : (manyI L x y z != manyI L x y z) = false := by simp
  cases h12 : peopleB L && askB x y z
  · have e0 := manyI_no h12
    rw [e0] at hne ⊢
    clear e0
    go_wp2
    go_ret
    exact ⟨rfl, hb03⟩
  have h12' := h12
  simp only [Bool.and_eq_true] at h12'
  obtain ⟨h1, h2⟩ := h12'
  have hpos : 0 ≤ manyI L x y z := by rw [manyI_yes h1 h2]; omega
  have hpd : decide (manyI L x y z < 0) = false := by simp; omega
  have hmd : m ≤ d := by rw [← HL.out]; exact hP3.2.1
  clear h12 hP1 hP2 hb1 hb2 hb3
  have hk1 : 0 ≤ (n' : Int) % ((m : Int) + 1) := Int.emod_nonneg _ (by omega)
  have hk2 : (n' : Int) % ((m : Int) + 1) < (m : Int) + 1 := Int.emod_lt_of_pos _ (by omega)
  obtain ⟨k, hk⟩ : ∃ k : Nat, (k : Int) = (n' : Int) % ((m : Int) + 1) := ⟨((n' : Int) % ((m : Int) + 1)).toNat, by omega⟩
  go_upto_region 9 with fail
  rw [← hk]
  have hkm : k ≤ m := by omega
  clear hk hk1 hk2
  obtain ⟨C1, sl1, se1, sn1⟩ := cut_to B m d k L HL.out hkm hmd
  obtain ⟨C2, sl2, se2, sn2⟩ := cut_from B m d k L HL.out hkm hmd
  have s1 := se1 w3 hP3.1
  have l1 : (L.take k).length = k := by rw [List.length_take, HL.out]; omega
  have l2 : (L.drop k).length = m - k := by rw [List.length_drop, HL.out]
  have HL1 := Lib.hid l1
  have HL2 := Lib.hid l2
  have s1d : Seen w3.drew C1 (pcells (L.take k)) := s1
  have hP3d : Seen w3.drew B (pcells L) := hP3.1
  have HS1 := Lib.hid s1d
  have HS2 := Lib.hid se2
  have eq : manyI L x y z = manyI (L.take k) x y z + manyI (L.drop k) x y z := by
    rw [many_cnt h1 h2, many_cnt (peopleB_take h1 k) h2, many_cnt (peopleB_drop h1 k) h2, ← cnt_append, List.take_append_drop]
  have b1 := many_le (L := L.take k) x y z
  have b2 := many_le (L := L.drop k) x y z
  rw [l1] at b1
  rw [l2] at b2
  have t1 : (manyI L x y z == IntKind.i64.wrap (manyI (L.take k) x y z + manyI (L.drop k) x y z)) = true := by
    rw [IntWalk.i64_in _ ⟨by omega, by omega⟩, eq]; simp
  have t2 : (manyI L (-1) (-1) (-1) == (m : Int)) = true := by rw [many_cnt h1 ask_any, cnt_any, HL.out]; simp
  have t3 : decide (manyI L x y z ≤ (m : Int)) = true := by have := (many_le (L := L) x y z).2; rw [HL.out] at this; simpa using this
  clear se1 se2 sn1 sn2 s1 s1d l1 l2 eq b1 b2
  go_region_held3 (fun _ => True) (trivial) (first
    | (go_at_call_of 16 (Value.slice C1 k d); refine (peopleMany_any _ _ _ (L.take k) _ _ _ _ HS1.out HL1.out (by omega)).mono ?_; rintro e w4 ⟨rfl, hb4⟩)
    | (go_at_call_of 16 (Value.slice C2 (m - k) (d - k)); refine (peopleMany_any _ _ _ (L.drop k) _ _ _ _ (HS2.out _ (hP3d.below hb4)) HL2.out (by omega)).mono ?_; rintro e w5 ⟨rfl, hb5⟩)
    | (go_at_call_of 16 (Value.slice B m d); refine (peopleMany_any _ _ _ L _ _ _ _ ((hP3d.below hb4).below hb5) HL.out (by omega)).mono ?_; rintro e w6 ⟨rfl, hb6⟩))
  all_goals
    go_wp2
    go_ret
    exact ⟨rfl, below2 hb03 (below2 (w1 := w3.drew) (Below.refl _ _).drew (below2 hb4 (below2 hb5 hb6)))⟩

end Go.Proofs.Ytmmnhbnoifcgjaa
