/- Walk of the law FnPeoplePayBands. -/
import Derived.Test.YtmmnhbnoifcgjaaSm
import Derived.Test.YtmmnhbnoifcgjaaSp
import Derived.Test.YtmmnhbnoifcgjaaAp
import Derived.Test.YtmmnhbnoifcgjaaPn
import Derived.Test.YtmmnhbnoifcgjaaSl
import Derived.Test.YtmmnhbnoifcgjaaBi
import Derived.Deep.RegionWith
import Derived.Deep.DeepCutAuto
namespace Go.Proofs.Ytmmnhbnoifcgjaa
open Go.RowKit
set_option linter.unusedVariables false

def BandsRel (m : Nat) (L : List Pers) (w0 : World) (t i : Value) (wr : World) : Prop :=
  ∃ (k : Nat) (q : Int), k ≤ m ∧ i = .int .i64 k ∧ t = .int .i64 q ∧ 0 ≤ q ∧ q ≤ 1000 * (k : Int) ∧ Hid (sumBands (L.take k) = q) ∧ wr = w0

set_option maxHeartbeats 3200000 in
theorem fnPeoplePayBands_walk (w : World) (A : Option Addr) (n c : Nat) (hin : BytesIn w A n c) :
    Calls Try.prog 11 #[.slice A n c] w fun e w' => e = .returned (.bool true) ∧ Below w.heap.size w w' := by
  have hn := hin.2.1
  by_cases hbig : 1048576 < n
  · have hd : decide (1048576 < (n : Int)) = true := by simp; omega
    go_enter Try.func11, Try.ntmps11
    go_wp2
    go_ret
    exact ⟨rfl, Below.refl _ _⟩
  have hd : decide (1048576 < (n : Int)) = false := by simp; omega
  go_enter Try.func11, Try.ntmps11
  go_wp2_with fail
  refine (drawPeoplePay_any A n c w hin).mono ?_
  rintro e w1 ⟨B, d, L, x, y, z, rfl, hP1, hm, hb1⟩
  obtain ⟨m, hL⟩ : ∃ m, L.length = m := ⟨_, rfl⟩
  rw [hL] at hm ⊢
  have HL := Lib.hid hL
  clear hL
  go_wp2_with fail
  refine (peoplePay_any _ _ _ L _ _ _ _ hP1.1 HL.out (by omega)).mono ?_
  rintro e w2 ⟨rfl, hb2⟩
  have hP2 := hP1.below hb2
  go_wp2_with fail
  refine (sPeoplePay_any _ _ _ L _ _ _ _ hP2.1 HL.out (by omega)).mono ?_
  rintro e w3 ⟨rfl, hb3⟩
  have hP3 := hP2.below hb3
  have hb03 := below2 hb1 (below2 hb2 hb3)
  have hne : (payI L x y z != payI L x y z) = false := by simp
  cases h12 : peopleB L && askB x y z
  · have e0 := payI_no h12
    rw [e0] at hne ⊢
    clear e0
    go_wp2
    go_ret
    exact ⟨rfl, hb03⟩
  have h12' := h12
  simp only [Bool.and_eq_true] at h12'
  obtain ⟨h1, h2⟩ := h12'
  have hpos : 0 ≤ payI L x y z := by rw [payI_yes h1 h2]; exact (sumP_bound (selL_ok (peopleB_iff.1 h1).1 _ _ _)).1
  have hpd : decide (payI L x y z < 0) = false := by simp; omega
  have hmd : m ≤ d := by rw [← HL.out]; exact hP3.2.1
  clear h12 hP1 hP2 hb1 hb2 hb3
  have HOK := Lib.hid (peopleB_iff.1 h1).1
  have tail : ∀ q : Int, sumBands L = q → Hid (0 ≤ q ∧ q ≤ 1000000 ∧ q ≤ payI L (-1) (-1) (-1) ∧ payI L (-1) (-1) (-1) ≤ q + 99 * m ∧ payI L x y z ≤ payI L (-1) (-1) (-1)) := by
    intro q hq
    have e1 := sumBands_near HOK.out
    have e2 := pay_pys h1 ask_any
    have e3 := pay_pys h1 h2
    have e4 := (pys_bound HOK.out x y z).2.2
    have e5 := sumP_bound HOK.out
    have e6 := (peopleB_iff.1 h1).2
    rw [pys_any] at e2
    rw [HL.out] at e1 e5 e6
    unfold Hid
    omega
  have TAIL := Lib.hid tail
  clear tail
  rcases seen_cases hP3.1 with hL0 | ⟨b, o, rfl, hlt, hc⟩
  · obtain rfl : m = 0 := by rw [← HL.out, hL0]; rfl
    have H0 := Lib.hid hL0
    clear hL0
    obtain ⟨_, _, q1, q2, q3⟩ := (TAIL.out 0 (by rw [H0.out]; rfl)).out
    have d1 : decide (0 ≤ payI L (-1) (-1) (-1)) = true := by simp; omega
    go_wp2_with fail
    refine wp_loop_rounds 1 ?_
    rw [rounds_succ]
    go_wp2_with (go_at_call 19; refine (peoplePay_any _ _ _ L _ _ _ _ hP3.1 HL.out (by omega)).mono ?_; rintro e w4 ⟨rfl, hb4⟩)
    go_ret
    exact ⟨rfl, below2 hb03 hb4⟩
  have HC := Lib.hid hc
  clear hc
  go_wp2_with fail
  go_loopw [9, 10] (fun t i wr => BandsRel m L w3 t i wr) (fun _ i _ => m - (intOf i).toNat)
  case atStart => exact ⟨0, 0, by omega, rfl, rfl, by omega, by omega, rfl, rfl⟩
  case round =>
    obtain ⟨k, q, hk, rfl, rfl, hq0, hq1, hsum, rfl⟩ := hrel
    by_cases hkm : k < m
    · obtain ⟨⟨a, j, s, p⟩, hx⟩ : ∃ t, L[k]? = some t := ⟨_, List.getElem?_eq_getElem (by rw [HL.out]; exact hkm)⟩
      have HX := Lib.hid hx
      obtain ⟨_, _, _, p0, p1⟩ := okB_un (HOK.out _ (List.mem_of_getElem? hx))
      obtain ⟨g0, g1, g2, g3⟩ := cells_at HC.out hx
      have hbn : bandI p = p / 100 := by unfold bandI; rw [if_pos ⟨p0, p1⟩]
      have HBN := Lib.hid hbn
      clear hx hbn
      go_wp2_with fail
      refine (band_any _ _).mono ?_
      rintro e w4 ⟨rfl, rfl⟩
      rw [HBN.out]
      go_wp2
      have R : BandsRel m L wr (.int .i64 (q + 100 * (p / 100))) (.int .i64 ((k : Int) + 1)) wr := by
        refine ⟨k + 1, q + 100 * (p / 100), by omega, by go_num, rfl, by omega, by omega, ?_, rfl⟩
        unfold Hid
        rw [List.take_add_one, HX.out, Option.toList_some, sumBands_snoc, hsum.out, HBN.out]
      go_roundw
      case rel => first | exact R | ((repeat apply Exists.intro); first | exact ⟨R, rfl⟩ | exact ⟨R, rfl, rfl⟩ | exact ⟨R, rfl, rfl, rfl⟩)
      case measure => simp [intOf]; omega
    · have hq := hsum.out
      rw [List.take_of_length_le (by rw [HL.out]; omega)] at hq
      obtain ⟨q0, q00, q1, q2, q3⟩ := (TAIL.out q hq).out
      clear hq
      have hple := pay_le (L := L) (-1) (-1) (-1)
      obtain ⟨hp0, hp1⟩ := hple
      have hm40 : m ≤ 40 := by rw [← HL.out]; exact (peopleB_iff.1 h1).2
      have d1 : decide (q ≤ payI L (-1) (-1) (-1)) = true := by simp; omega
      cases hm0 : ((m : Int) == 0)
      · have hm0' : ¬ (m : Int) = 0 := by simpa using hm0
        have d2 : decide (payI L (-1) (-1) (-1) - 100 * (m : Int) < q) = true := by simp; omega
        go_wp2_with (go_at_call 19; refine (peoplePay_any _ _ _ L _ _ _ _ hP3.1 HL.out (by omega)).mono ?_; rintro e w4 ⟨rfl, hb4⟩)
        go_ret
        exact ⟨rfl, below2 hb03 hb4⟩
      · go_wp2_with (go_at_call 19; refine (peoplePay_any _ _ _ L _ _ _ _ hP3.1 HL.out (by omega)).mono ?_; rintro e w4 ⟨rfl, hb4⟩)
        go_ret
        exact ⟨rfl, below2 hb03 hb4⟩

end Go.Proofs.Ytmmnhbnoifcgjaa
