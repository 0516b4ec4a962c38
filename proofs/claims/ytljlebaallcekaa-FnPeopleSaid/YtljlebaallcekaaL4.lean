/- Walk of the law FnPeople. -/
import Derived.Test.YtljlebaallcekaaSl
namespace Go.Proofs.Ytljlebaallcekaa
open Go.RowKit
set_option linter.unusedVariables false

set_option maxHeartbeats 1600000 in
theorem fnPeople_walk (w : World) (A : Option Addr) (n c : Nat) (hin : BytesIn w A n c) (A' : Option Addr) (n' c' : Nat) (hin' : BytesIn w A' n' c') :
    Calls Try.prog 10 #[.slice A n c, .slice A' n' c'] w fun e w' => e = .returned (.bool true) ∧ Below w.heap.size w w' := by
  have hn := hin.2.1
  have hn' := hin'.2.1
  by_cases hbig : 1048576 < n
  · have hd : decide (1048576 < (n : Int)) = true := by simp; omega
    go_enter Try.func10, Try.ntmps10
    go_wp2
    go_ret
    exact ⟨rfl, Below.refl _ _⟩
  · have hd : decide (1048576 < (n : Int)) = false := by simp; omega
    by_cases hbig' : 1048576 < n'
    · go_enter Try.func10, Try.ntmps10
      go_wp2
      go_ret
      exact ⟨rfl, Below.refl _ _⟩
    · go_enter Try.func10, Try.ntmps10
      go_wp2_with fail
      refine (drawPeopleValid_any A n c w hin).mono ?_
      rintro e w1 ⟨B, d, L, rfl, hP1, hm, hb1⟩
      obtain ⟨m, hL⟩ : ∃ m, L.length = m := ⟨_, rfl⟩
      rw [hL] at hm ⊢
      have HL := Lib.hid hL
      clear hL
      go_wp2_with fail
      refine (peopleValid_n _ _ _ L _ hP1.1 HL.out (by omega)).mono ?_
      rintro e w2 ⟨rfl, hb2⟩
      have hP2 := hP1.below hb2
      go_wp2_with fail
      refine (sPeopleValid_n _ _ _ L _ hP2.1 HL.out (by omega)).mono ?_
      rintro e w3 ⟨rfl, hb3⟩
      have hP3 := hP2.below hb3
      have hb03 := below2 hb1 (below2 hb2 hb3)
      cases hok : peopleB L
      · go_wp2
        go_ret
        exact ⟨rfl, hb03⟩
      · have hk1 : 0 ≤ (n' : Int) % ((m : Int) + 1) := Int.emod_nonneg _ (by omega)
        have hk2 : (n' : Int) % ((m : Int) + 1) < (m : Int) + 1 := Int.emod_lt_of_pos _ (by omega)
        obtain ⟨k, hk⟩ : ∃ k : Nat, (k : Int) = (n' : Int) % ((m : Int) + 1) := ⟨((n' : Int) % ((m : Int) + 1)).toNat, by omega⟩
        go_upto_region 9 with fail
        rw [← hk]
        have hkm : k ≤ m := by omega
        clear hk hk1 hk2
        have hmd : m ≤ d := by rw [← HL.out]; exact hP3.2.1
        obtain ⟨C1, sl1, se1, sn1⟩ := cut_to B m d k L HL.out hkm hmd
        obtain ⟨C2, sl2, se2, sn2⟩ := cut_from B m d k L HL.out hkm hmd
        have HS1 := Lib.hid se1
        have HS2 := Lib.hid se2
        clear se1 se2 sn1 sn2
        have t1 : peopleB (L.take k) = true := peopleB_take hok k
        have t2 : peopleB (L.drop k) = true := peopleB_drop hok k
        have t3 := Lib.hid (peopleB_twice hok)
        go_wp2_with fail
        refine (peopleValid_n _ _ _ (L.take k) _ (HS1.out _ hP3.1) (by rw [List.length_take, HL.out]; omega) (by omega)).mono ?_
        rintro e w4 ⟨rfl, hb4⟩
        rw [t1]
        have hP4 := hP3.below hb4
        go_wp2_with fail
        refine (peopleValid_n _ _ _ (L.drop k) _ (HS2.out _ hP4.1) (by rw [List.length_drop, HL.out]) (by omega)).mono ?_
        rintro e w5 ⟨rfl, hb5⟩
        rw [t2]
        have hP5 := hP4.below hb5
        clear sl1 sl2
        have hP6 := hP5.below (below_new w5 (.cells #[] 28))
        go_wp2_with (first
          | (at_builtin; refine app_many (w := w5.alloc (.cells #[] 28)) rfl (.tmp 50) (.tmp 51) rfl w5.heap.size (.slice (some ⟨w5.heap.size, 0, none⟩) 0 0) [] L B 0 m d rfl rfl rfl HL.out (own_empty w5) hP6 (by omega) (by omega) (by simp) ?_; intro v1 w6 ho6 hg6; simp only [Nat.zero_add, List.nil_append] at ho6; have hb6 := (below_new w5 (.cells #[] 28)).grown hg6 (by simp) (by simp [Value.ownBlock]); obtain ⟨A6, c6, hv6⟩ := own_shape ho6; subst hv6)
          | (at_builtin; refine app_many (w := w6) rfl (.tmp 52) (.tmp 53) rfl w5.heap.size (.slice A6 m c6) L L B m m d rfl rfl HL.out HL.out ho6 (hP5.below hb6) (by omega) (by omega) hb6.size ?_; intro v2 w7 ho7 hg7; have hb7 := hb6.grown hg7 hb6.size (fun k hk => (ho6.lt k hk).1); obtain ⟨A7, c7, hv7⟩ := own_shape ho7; subst hv7))
        have hP7 := ppl_own_n (L := L ++ L) (by rw [List.length_append, HL.out]) ho7
        refine (peopleValid_n _ _ _ (L ++ L) _ hP7.1 (by rw [List.length_append, HL.out]) (by omega)).mono ?_
        rintro e w8 ⟨rfl, hb8⟩
        have t4 : peopleB (L ++ L) = decide (2 * (m : Int) ≤ 40) := by rw [t3.out, HL.out, Bool.eq_iff_iff]; simp; omega
        rw [t4]
        clear t4
        go_wp2
        go_ret
        exact ⟨ret_bool (by simp), below2 (below2 hb03 (below2 hb4 hb5)) (below2 hb7 hb8)⟩

end Go.Proofs.Ytljlebaallcekaa
