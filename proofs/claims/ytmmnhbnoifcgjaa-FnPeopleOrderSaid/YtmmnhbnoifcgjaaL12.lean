/- Walk of the law FnPeopleOrder. -/
import Derived.Test.YtmmnhbnoifcgjaaSm
import Derived.Test.YtmmnhbnoifcgjaaSp
import Derived.Test.YtmmnhbnoifcgjaaAk
import Derived.Test.YtmmnhbnoifcgjaaPn
import Derived.Test.YtmmnhbnoifcgjaaSl
import Derived.Deep.RegionWith
import Derived.Deep.RegionHeld3
import Derived.Deep.DeepCutAuto
namespace Go.Proofs.Ytmmnhbnoifcgjaa
open Go.RowKit
set_option linter.unusedVariables false

/-- What the statement that turns the list leaves. -/
def Turned (w0 : World) (M : List Pers) (m : Nat) (v : Value) (wx : World) : Prop := ∃ A c, v = .slice A m c ∧ Ppl wx A c M ∧ Below w0.heap.size w0 wx

set_option maxHeartbeats 3200000 in
theorem fnPeopleOrder_walk (w : World) (A : Option Addr) (n c : Nat) (hin : BytesIn w A n c) (A' : Option Addr) (n' c' : Nat) (hin' : BytesIn w A' n' c') :
    Calls Try.prog 8 #[.slice A n c, .slice A' n' c'] w fun e w' => e = .returned (.bool true) ∧ Below w.heap.size w w' := by
  have hn := hin.2.1
  have hn' := hin'.2.1
  by_cases hbig : 1048576 < n
  · have hd : decide (1048576 < (n : Int)) = true := by simp; omega
    go_enter Try.func8, Try.ntmps8
    go_wp2
    go_ret
    exact ⟨rfl, Below.refl _ _⟩
  have hd : decide (1048576 < (n : Int)) = false := by simp; omega
  by_cases hbig' : 1048576 < n'
  · have hd' : decide (1048576 < (n' : Int)) = true := by simp; omega
    go_enter Try.func8, Try.ntmps8
    go_wp2
    go_ret
    exact ⟨rfl, Below.refl _ _⟩
  have hd' : decide (1048576 < (n' : Int)) = false := by simp; omega
  go_enter Try.func8, Try.ntmps8
  go_wp2_with fail
  refine (drawPeopleMany_any A n c w hin).mono ?_
  rintro e w1 ⟨B, d, L, x, y, z, rfl, hP1, hm, hb1⟩
  obtain ⟨m, hL⟩ : ∃ m, L.length = m := ⟨_, rfl⟩
  rw [hL] at hm ⊢
  have HL := Lib.hid hL
  clear hL
  go_wp2_with fail
  refine (peopleMany_any _ _ _ L _ _ _ _ hP1.1 HL.out (by omega)).mono ?_
  rintro e w2 ⟨rfl, hb2⟩
  have hP2 := hP1.below hb2
  go_wp2_with fail
  refine (sPeopleMany_any _ _ _ L _ _ _ _ hP2.1 HL.out (by omega)).mono ?_
  rintro e w3 ⟨rfl, hb3⟩
  have hP3 := hP2.below hb3
  have hb03 := below2 hb1 (below2 hb2 hb3)
  have hne : (manyI L x y z != manyI L x y z) = false := by simp
  cases h12 : peopleB L && askB x y z
  · have e0 := manyI_no h12
    rw [e0] at hne ⊢
    clear e0
    go_wp2
    go_ret
    exact ⟨rfl, hb03⟩
  have h12' := h12
  simp only [Bool.and_eq_true] at h12'
  obtain ⟨h1, h2⟩ := h12'
  have hpos : 0 ≤ manyI L x y z := by rw [manyI_yes h1 h2]; omega
  have hpd : decide (manyI L x y z < 0) = false := by simp; omega
  have hmd : m ≤ d := by rw [← HL.out]; exact hP3.2.1
  clear h12 hP1 hP2 hb1 hb2 hb3
  have hk1 : 0 ≤ (n' : Int) % ((m : Int) + 1) := Int.emod_nonneg _ (by omega)
  have hk2 : (n' : Int) % ((m : Int) + 1) < (m : Int) + 1 := Int.emod_lt_of_pos _ (by omega)
  obtain ⟨k, hk⟩ : ∃ k : Nat, (k : Int) = (n' : Int) % ((m : Int) + 1) := ⟨((n' : Int) % ((m : Int) + 1)).toNat, by omega⟩
  go_upto_region 9 with fail
  rw [← hk]
  have hkm : k ≤ m := by omega
  clear hk hk1 hk2
  obtain ⟨C1, sl1, se1, sn1⟩ := cut_to B m d k L HL.out hkm hmd
  obtain ⟨C2, sl2, se2, sn2⟩ := cut_from B m d k L HL.out hkm hmd
  have l1 : (L.take k).length = k := by rw [List.length_take, HL.out]; omega
  have l2 : (L.drop k).length = m - k := by rw [List.length_drop, HL.out]
  have p1 : Ppl w3 C1 d (L.take k) := ⟨se1 w3 hP3.1, by omega, hP3.2.2.1, fun e => hP3.2.2.2 (sn1 e)⟩
  have p2 : Ppl w3 C2 (d - k) (L.drop k) := ⟨se2 w3 hP3.1, by omega, by have := hP3.2.2.1; omega, fun e => by have := hP3.2.2.2 (sn2 e); omega⟩
  have q1 := Lib.hid p1
  have p2d : Ppl (w3.alloc (.cells #[] 35)).drew C2 (d - k) (L.drop k) := p2.below (below_new w3 (.cells #[] 35)).drew
  have q2 := Lib.hid p2d
  have HL1 := Lib.hid l1
  have HL2 := Lib.hid l2
  have oe : (w3.alloc (.cells #[] 35)).drew.ownsRow w3.heap.size 35 4 (.slice (some ⟨w3.heap.size, 0, none⟩) 0 0) 0 (pcells []) := own_empty w3
  have OE := Lib.hid oe
  have bnd : Below w3.heap.size w3 (w3.alloc (.cells #[] 35)).drew := (below_new w3 _).drew
  clear se1 se2 sn1 sn2 l1 l2 p1 p2 p2d oe
  go_cut [12] (fun v wx => Turned w3 (L.drop k ++ L.take k) m v wx)
  case first =>
    go_region_held3 (fun _ => True) (trivial) (first
      | (refine step_app_many rfl (.tmp 54) (.tmp 57) rfl w3.heap.size (.slice (some ⟨w3.heap.size, 0, none⟩) 0 0) [] (L.drop k) C2 0 (m - k) (d - k) rfl rfl rfl HL2.out OE.out q2.out (by omega) (by omega) (by simp) ?_; intro v1 w6 ho6 hg6; simp only [Nat.zero_add, List.nil_append] at ho6; have hb6 := bnd.grown hg6 (by simp) (by simp [Value.ownBlock]); obtain ⟨A6, c6, hv6⟩ := own_shape ho6; subst hv6)
      | (refine step_app_many rfl (.tmp 58) (.tmp 61) rfl w3.heap.size (.slice A6 (m - k) c6) (L.drop k) (L.take k) C1 (m - k) k d rfl rfl HL2.out HL1.out ho6 (q1.out.below hb6) (by omega) (by omega) hb6.size ?_; intro v2 w7 ho7 hg7; have hb7 := hb6.grown hg7 hb6.size (fun k hk => (ho6.lt k hk).1); obtain ⟨A7, c7, hv7⟩ := own_shape ho7; subst hv7))
    all_goals
      go_wp2
      go_meet
      refine ⟨A7, c7, by first | rfl | rw [show m - k + k = m by omega], ?_, hb7⟩
      exact ppl_own_n (by rw [List.length_append, HL1.out, HL2.out]) ho7
  case rest =>
    obtain ⟨A7, c7, rfl, hP7, hb7⟩ := hcut
    have hLL : (L.drop k ++ L.take k).length = m := by rw [List.length_append, HL1.out, HL2.out]; omega
    have HLL := Lib.hid hLL
    have hok : peopleB (L.drop k ++ L.take k) = true := by
      rw [peopleB_iff] at h1 ⊢
      refine ⟨fun t ht => ?_, by rw [hLL, ← HL.out]; exact h1.2⟩
      rw [List.mem_append] at ht
      rcases ht with ht | ht
      · exact h1.1 t (List.mem_of_mem_drop ht)
      · exact h1.1 t (List.mem_of_mem_take ht)
    have e1 : manyI (L.drop k ++ L.take k) x y z = manyI L x y z := by
      rw [many_cnt hok h2, many_cnt h1 h2, cnt_append, Int.add_comm, ← cnt_append, List.take_append_drop]
    have e2 : payI (L.drop k ++ L.take k) x y z = payI L x y z := by
      rw [pay_pys hok h2, pay_pys h1 h2, pys_append, Int.add_comm, ← pys_append, List.take_append_drop]
    have E1 := Lib.hid e1
    have E2 := Lib.hid e2
    have hP7' := hP3.below hb7
    have hb07 := below2 hb03 hb7
    have tt : (manyI L x y z == manyI L x y z) = true := by simp
    clear e1 e2 hLL
    go_wp2_with fail
    refine (peopleMany_any _ _ _ (L.drop k ++ L.take k) _ _ _ _ hP7.1 HLL.out (by omega)).mono ?_
    rintro e w8 ⟨rfl, hb8⟩
    rw [E1.out]
    have hP8 := hP7.below hb8
    have hP8' := hP7'.below hb8
    go_wp2_with fail
    refine (peoplePay_any _ _ _ (L.drop k ++ L.take k) _ _ _ _ hP8.1 HLL.out (by omega)).mono ?_
    rintro e w9 ⟨rfl, hb9⟩
    rw [E2.out]
    have hP9' := hP8'.below hb9
    go_wp2_with fail
    refine (peoplePay_any _ _ _ L _ _ _ _ hP9'.1 HL.out (by omega)).mono ?_
    rintro e w10 ⟨rfl, hb10⟩
    go_wp2
    go_ret
    exact ⟨ret_bool (by simp), below2 hb07 (below2 hb8 (below2 hb9 hb10))⟩

end Go.Proofs.Ytmmnhbnoifcgjaa
