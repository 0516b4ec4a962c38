/- Contracts of the reference's GroupSize, GroupMany, GroupLeast. -/
import Derived.Test.YtepnfljhoapdmaaGs
import Derived.Test.YtepnfljhoapdmaaGr
import Derived.Test.YtepnfljhoapdmaaRs
import Derived.Outline
namespace Go.Proofs.Ytepnfljhoapdmaa
open Go.RowKit
set_option linter.unusedVariables false

set_option maxRecDepth 100000 in
set_option maxHeartbeats 3200000 in
theorem sGroupSize_any (A : Option Addr) (n c : Nat) (L : List Pers) (A' : Option Addr) (m c' : Nat) (R : List Rw) (a j s : Int) (k : Int) (hk0 : -9223372036854775808 ≤ k) (hk1 : k ≤ 9223372036854775807) (w : World) (hP : Seen w A (pcells L)) (hn : L.length = n) (hnm : n ≤ 1099511627776)
    (hA : LadS w A' R) (hR : R.length = m) (hm : m ≤ 1099511627776) (hr : ∀ r ∈ R, r.s.length ≤ 1099511627776) :
    Calls Try.prog 23 #[.slice A n c, .slice A' m c', .agg #[.int .i64 a, .int .i64 j, .int .i64 s], .int .i64 k] w fun e w' => e = .returned (.int .i64 (sizeI L (ss R) ⟨a, j, s⟩ k)) ∧ Below w.heap.size w w' := by
  have b0 := below_new w (.cells #[.int .i64 a, .int .i64 j, .int .i64 s] 26)
  have HP := Lib.hid (hP.below b0)
  have HA := Lib.hid (hA.below b0)
  have HB := Lib.hid b0
  have HN := Lib.hid hn
  have HR := Lib.hid hR
  have HW := Lib.hid hr
  clear hP hA b0 hn hR hr
  cases h2 : rpOk L (ss R) ⟨a, j, s⟩
  · have HE := Lib.hid (sizeI_no (k := k) (show szOk L (ss R) ⟨a, j, s⟩ k = false by unfold szOk; rw [h2]; rfl))
    rw [HE.out]
    go_enter Try.func23, Try.ntmps23
    go_wp2_with fail
    refine (sRecodePeople_any _ _ _ L _ _ _ R _ _ _ _ HP.out HN.out hnm HA.out HR.out hm HW.out).mono ?_
    rintro e w1 ⟨A1, m1, c1, rfl, hm1, hP1, hb1⟩
    rw [h2]
    go_wp2
    go_ret
    exact ⟨rfl, below2 HB.out hb1⟩
  have h40 : n ≤ 40 := by rw [← HN.out]; exact rp_len h2
  have HL1 := Lib.hid (recL_length h2)
  by_cases hk : 0 ≤ k ∧ k < n
  · obtain ⟨i, rfl⟩ : ∃ i : Nat, k = i := ⟨k.toNat, by omega⟩
    obtain ⟨⟨xa, xj, xs, xp⟩, hx⟩ : ∃ x, (recL L (ss R) ⟨a, j, s⟩)[i]? = some x := ⟨_, List.getElem?_eq_getElem (by rw [HL1.out, HN.out]; omega)⟩
    have HV := Lib.hid (sizeI_yes h2 hx (by rw [HN.out]; omega))
    have hin : inB (i : Int) 0 ((n : Int) - 1) = true := inB_iff.2 ⟨by omega, by omega⟩
    have W : IntKind.i64.wrap ((n : Int) - 1) = (n : Int) - 1 := IntWalk.i64_in _ (by omega)
    go_enter Try.func23, Try.ntmps23
    go_wp2_with fail
    refine (sRecodePeople_any _ _ _ L _ _ _ R _ _ _ _ HP.out HN.out hnm HA.out HR.out hm HW.out).mono ?_
    rintro e w1 ⟨A1, m1, c1, rfl, hm1, hP1, hb1⟩
    rw [h2]
    have HM1 := Lib.hid hm1
    have hm1' : m1 ≤ 40 := by rw [← hm1, HL1.out, HN.out]; exact h40
    clear hm1
    go_wp2_with fail
    refine (l6In_any _ _ _ _).mono ?_
    rintro e w2 ⟨rfl, rfl⟩
    rw [hin]
    go_wp2_with fail
    refine (l3Size_any _ _ _ _ _ _ _ hP1.1 HM1.out (by omega) hx).mono ?_
    rintro e w3 ⟨rfl, hb3⟩
    go_wp2
    go_ret
    exact ⟨ret_int HV.out.symm, below2 HB.out (below2 hb1 hb3)⟩
  · have hin : inB k 0 ((n : Int) - 1) = false := by
      rw [← Bool.not_eq_true, inB_iff]; omega
    have W : IntKind.i64.wrap ((n : Int) - 1) = (n : Int) - 1 := IntWalk.i64_in _ (by omega)
    have HE := Lib.hid (sizeI_no (show szOk L (ss R) ⟨a, j, s⟩ k = false by rw [← Bool.not_eq_true, szOk_iff, HN.out]; exact fun h => hk h.2))
    rw [HE.out]
    go_enter Try.func23, Try.ntmps23
    go_wp2_with fail
    refine (sRecodePeople_any _ _ _ L _ _ _ R _ _ _ _ HP.out HN.out hnm HA.out HR.out hm HW.out).mono ?_
    rintro e w1 ⟨A1, m1, c1, rfl, hm1, hP1, hb1⟩
    rw [h2]
    go_wp2_with fail
    refine (l6In_any _ _ _ _).mono ?_
    rintro e w2 ⟨rfl, rfl⟩
    rw [hin]
    go_wp2
    go_ret
    exact ⟨rfl, below2 HB.out hb1⟩

def MnRel (n : Nat) (M : List Pers) (w : World) (v i : Value) (wr : World) : Prop :=
  ∃ (k : Nat) (q : Int), k ≤ n ∧ i = .int .i64 k ∧ v = .int .i64 q ∧ 0 ≤ q ∧ q ≤ k ∧ Hid (((groups (M.take k)).length : Int) = q) ∧ Below w.heap.size w wr
set_option maxRecDepth 100000 in
set_option maxHeartbeats 3200000 in
theorem sGroupMany_any (A : Option Addr) (n c : Nat) (L : List Pers) (A' : Option Addr) (m c' : Nat) (R : List Rw) (a j s : Int) (w : World) (hP : Seen w A (pcells L)) (hn : L.length = n) (hnm : n ≤ 1099511627776)
    (hA : LadS w A' R) (hR : R.length = m) (hm : m ≤ 1099511627776) (hr : ∀ r ∈ R, r.s.length ≤ 1099511627776) :
    Calls Try.prog 15 #[.slice A n c, .slice A' m c', .agg #[.int .i64 a, .int .i64 j, .int .i64 s]] w fun e w' => e = .returned (.int .i64 (manyG L (ss R) ⟨a, j, s⟩)) ∧ Below w.heap.size w w' := by
  have b0 := below_new w (.cells #[.int .i64 a, .int .i64 j, .int .i64 s] 26)
  have HP := Lib.hid (hP.below b0)
  have HA := Lib.hid (hA.below b0)
  have HB := Lib.hid b0
  have HN := Lib.hid hn
  have HR := Lib.hid hR
  have HW := Lib.hid hr
  clear hP hA b0 hn hR hr
  cases h2 : rpOk L (ss R) ⟨a, j, s⟩
  · rw [manyG_no h2]
    go_enter Try.func15, Try.ntmps15
    go_wp2_with fail
    refine (sRecodePeople_any _ _ _ L _ _ _ R _ _ _ _ HP.out HN.out hnm HA.out HR.out hm HW.out).mono ?_
    rintro e w1 ⟨A1, m1, c1, rfl, hm1, hP1, hb1⟩
    rw [h2]
    go_wp2
    go_ret
    exact ⟨rfl, below2 HB.out hb1⟩
  have h40 : n ≤ 40 := by rw [← HN.out]; exact rp_len h2
  have HL1 := Lib.hid (recL_length h2)
  have HV := Lib.hid (manyG_yes h2)
  go_enter Try.func15, Try.ntmps15
  go_wp2_with fail
  refine (sRecodePeople_any _ _ _ L _ _ _ R _ _ _ _ HP.out HN.out hnm HA.out HR.out hm HW.out).mono ?_
  rintro e w1 ⟨A1, m1, c1, rfl, hm1, hP1, hb1⟩
  rw [h2]
  have HM1 := Lib.hid hm1
  have hm1' : m1 ≤ 40 := by rw [← hm1, HL1.out, HN.out]; exact h40
  have hmc : m1 ≤ c1 := by rw [← hm1]; exact hP1.2.1
  have HP1 := Lib.hid hP1.1
  have HB1 := Lib.hid (below2 HB.out hb1)
  obtain ⟨M, hM⟩ : ∃ M, recL L (ss R) ⟨a, j, s⟩ = M := ⟨_, rfl⟩
  rw [hM] at HM1 HP1 HV
  clear hm1 hP1 hM
  go_wp2
  go_loopw [9, 10] (fun v t wr => MnRel m1 M w1 v t wr) (fun _ t _ => m1 - (intOf t).toNat)
  case atStart => exact ⟨0, 0, Nat.zero_le _, rfl, rfl, by omega, by omega, by unfold Hid; rfl, Below.refl _ _⟩
  case round =>
    obtain ⟨k, q, hk, rfl, rfl, q0, q1, hq, hb⟩ := hrel
    by_cases hkn : k < m1
    · obtain ⟨x, hx⟩ : ∃ x, M[k]? = some x := ⟨_, List.getElem?_eq_getElem (by rw [HM1.out]; exact hkn)⟩
      obtain ⟨A2, hcut, hseen, _⟩ := cut_to A1 m1 c1 (k + 1) M HM1.out (by omega) hmc
      have hcut' : ∀ w, (Instr.slice 23 (.slice A1 m1 c1) none (some (.int .i64 ((k : Int) + 1))) none).run Try.prog w = .ok (.slice A2 (k + 1) c1) w := hcut
      have HS := Lib.hid (hseen _ (HP1.out.below hb))
      have hx' : (M.take (k + 1))[k]? = some x := by rw [List.getElem?_take_of_lt (by omega)]; exact hx
      have HX' := Lib.hid hx'
      have HL' := Lib.hid (show (M.take (k + 1)).length = k + 1 by rw [List.length_take, HM1.out]; omega)
      have ht := cnt3_take_zero hx
      rw [hq.out] at ht
      obtain ⟨z, hz⟩ : ∃ z, cnt3 (M.take (k + 1)) x = z := ⟨_, rfl⟩
      rw [hz] at ht
      have HT := Lib.hid ht
      have HZ := Lib.hid hz
      have HBR := Lib.hid hb
      have W : IntKind.i64.wrap ((k : Int) + 1) = (k : Int) + 1 := IntWalk.i64_in _ (by omega)
      have kk : (k : Int) < (m1 : Int) := by omega
      clear hcut hseen hx hx' hb ht hz
      cases hs : (z == 1)
      · go_wp2_with fail
        refine (l3Size_any _ _ _ _ _ x _ HS.out HL'.out (by omega) HX'.out).mono ?_
        rintro e w3 ⟨rfl, hb3⟩
        rw [HZ.out]
        have RR : MnRel m1 M w1 (.int .i64 q) (.int .i64 ((k : Int) + 1)) w3 := ⟨k + 1, q, by omega, by go_num, rfl, by omega, by omega, by unfold Hid; rw [HT.out, if_neg (by simpa using hs)]; omega, below2 HBR.out hb3⟩
        go_wp2
        go_roundw
        case rel => first | exact RR | ((repeat apply Exists.intro); first | exact ⟨RR, rfl⟩ | exact ⟨RR, rfl, rfl⟩ | exact ⟨RR, rfl, rfl, rfl⟩)
        case measure => simp [intOf]; omega
      · go_wp2_with fail
        refine (l3Size_any _ _ _ _ _ x _ HS.out HL'.out (by omega) HX'.out).mono ?_
        rintro e w3 ⟨rfl, hb3⟩
        rw [HZ.out]
        have RR : MnRel m1 M w1 (.int .i64 (q + 1)) (.int .i64 ((k : Int) + 1)) w3 := ⟨k + 1, q + 1, by omega, by go_num, rfl, by omega, by omega, by unfold Hid; rw [HT.out, if_pos (by simpa using hs)], below2 HBR.out hb3⟩
        go_wp2
        go_roundw
        case rel => first | exact RR | ((repeat apply Exists.intro); first | exact ⟨RR, rfl⟩ | exact ⟨RR, rfl, rfl⟩ | exact ⟨RR, rfl, rfl, rfl⟩)
        case measure => simp [intOf]; omega
    · have HF := Lib.hid (show ((groups M).length : Int) = q by
        have := hq.out
        rw [List.take_of_length_le (by rw [HM1.out]; omega)] at this
        exact this)
      go_wp2
      go_ret
      exact ⟨ret_int (by rw [HV.out, HF.out]), below2 HB1.out hb⟩

def LwRel (n : Nat) (M : List Pers) (w : World) (v i : Value) (wr : World) : Prop :=
  ∃ (k : Nat) (q : Int), k ≤ n ∧ i = .int .i64 k ∧ v = .int .i64 q ∧ Hid (lowK M k = q) ∧ Below w.heap.size w wr
set_option maxRecDepth 100000 in
set_option maxHeartbeats 3200000 in
theorem sGroupLeast_any (A : Option Addr) (n c : Nat) (L : List Pers) (A' : Option Addr) (m c' : Nat) (R : List Rw) (a j s : Int) (w : World) (hP : Seen w A (pcells L)) (hn : L.length = n) (hnm : n ≤ 1099511627776)
    (hA : LadS w A' R) (hR : R.length = m) (hm : m ≤ 1099511627776) (hr : ∀ r ∈ R, r.s.length ≤ 1099511627776) :
    Calls Try.prog 12 #[.slice A n c, .slice A' m c', .agg #[.int .i64 a, .int .i64 j, .int .i64 s]] w fun e w' => e = .returned (.int .i64 (leastG L (ss R) ⟨a, j, s⟩)) ∧ Below w.heap.size w w' := by
  have b0 := below_new w (.cells #[.int .i64 a, .int .i64 j, .int .i64 s] 26)
  have HP := Lib.hid (hP.below b0)
  have HA := Lib.hid (hA.below b0)
  have HB := Lib.hid b0
  have HN := Lib.hid hn
  have HR := Lib.hid hR
  have HW := Lib.hid hr
  clear hP hA b0 hn hR hr
  cases h2 : rpOk L (ss R) ⟨a, j, s⟩
  · rw [leastG_no h2]
    go_enter Try.func12, Try.ntmps12
    go_wp2_with fail
    refine (sRecodePeople_any _ _ _ L _ _ _ R _ _ _ _ HP.out HN.out hnm HA.out HR.out hm HW.out).mono ?_
    rintro e w1 ⟨A1, m1, c1, rfl, hm1, hP1, hb1⟩
    rw [h2]
    go_wp2
    go_ret
    exact ⟨rfl, below2 HB.out hb1⟩
  have h40 : n ≤ 40 := by rw [← HN.out]; exact rp_len h2
  have HL1 := Lib.hid (recL_length h2)
  have HV := Lib.hid (leastG_yes h2)
  go_enter Try.func12, Try.ntmps12
  go_wp2_with fail
  refine (sRecodePeople_any _ _ _ L _ _ _ R _ _ _ _ HP.out HN.out hnm HA.out HR.out hm HW.out).mono ?_
  rintro e w1 ⟨A1, m1, c1, rfl, hm1, hP1, hb1⟩
  rw [h2]
  have HM1 := Lib.hid hm1
  have hm1' : m1 ≤ 40 := by rw [← hm1, HL1.out, HN.out]; exact h40
  have HP1 := Lib.hid hP1.1
  have HB1 := Lib.hid (below2 HB.out hb1)
  obtain ⟨M, hM⟩ : ∃ M, recL L (ss R) ⟨a, j, s⟩ = M := ⟨_, rfl⟩
  rw [hM] at HM1 HP1 HV
  clear hm1 hP1 hM
  go_wp2
  go_loopw [9, 10] (fun v t wr => LwRel m1 M w1 v t wr) (fun _ t _ => m1 - (intOf t).toNat)
  case atStart => exact ⟨0, m1, Nat.zero_le _, rfl, rfl, by unfold Hid; rw [← HM1.out]; rfl, Below.refl _ _⟩
  case round =>
    obtain ⟨k, q, hk, rfl, rfl, hq, hb⟩ := hrel
    by_cases hkn : k < m1
    · obtain ⟨x, hx⟩ : ∃ x, M[k]? = some x := ⟨_, List.getElem?_eq_getElem (by rw [HM1.out]; exact hkn)⟩
      have HS := Lib.hid (HP1.out.below hb)
      have HX := Lib.hid hx
      have ht := lowK_succ M k
      rw [gsz_at hx, hq.out] at ht
      obtain ⟨z, hz⟩ : ∃ z, cnt3 M x = z := ⟨_, rfl⟩
      rw [hz] at ht
      obtain ⟨u, hu⟩ : ∃ u, (if z < q then z else q) = u := ⟨_, rfl⟩
      rw [hu] at ht
      have HT := Lib.hid ht
      have HZ := Lib.hid hz
      have HBR := Lib.hid hb
      have kk : (k : Int) < (m1 : Int) := by omega
      clear hx hb ht hz
      go_wp2_with fail
      refine (l3Size_any _ _ _ _ _ x _ HS.out HM1.out (by omega) HX.out).mono ?_
      rintro e w3 ⟨rfl, hb3⟩
      rw [HZ.out]
      have RR : LwRel m1 M w1 (.int .i64 u) (.int .i64 ((k : Int) + 1)) w3 := ⟨k + 1, u, by omega, by go_num, rfl, by unfold Hid; exact HT.out, below2 HBR.out hb3⟩
      go_wp2
      go_roundw
      case rel => first | exact RR | ((repeat apply Exists.intro); first | exact ⟨RR, rfl⟩ | exact ⟨RR, rfl, rfl⟩ | exact ⟨RR, rfl, rfl, rfl⟩)
      case measure => simp [intOf]; omega
    · have HF := Lib.hid (show lowG M = q by
        have := hq.out
        unfold lowG
        rw [show M.length = k by rw [HM1.out]; omega]
        exact this)
      go_wp2
      go_ret
      exact ⟨ret_int (by rw [HV.out, HF.out]), below2 HB1.out hb⟩

end Go.Proofs.Ytepnfljhoapdmaa
