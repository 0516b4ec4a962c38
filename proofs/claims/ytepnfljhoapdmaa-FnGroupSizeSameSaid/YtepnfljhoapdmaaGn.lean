/- Contract of the program's GroupSize. -/
import Derived.Test.YtepnfljhoapdmaaGi
import Derived.Deep.RegionWith
import Derived.Deep.RegionHeld3
import Derived.Outline
namespace Go.Proofs.Ytepnfljhoapdmaa
open Go.RowKit
set_option linter.unusedVariables false

set_option maxRecDepth 100000 in
set_option maxHeartbeats 3200000 in
theorem groupSize_any (A : Option Addr) (n c : Nat) (L : List Pers) (A' : Option Addr) (m c' : Nat) (R : List Rw) (a j s : Int) (k : Int) (hk0 : -9223372036854775808 ≤ k) (hk1 : k ≤ 9223372036854775807) (w : World) (hP : Seen w A (pcells L)) (hn : L.length = n) (hnm : n ≤ 1099511627776)
    (hA : LadS w A' R) (hR : R.length = m) (hm : m ≤ 1099511627776) (hr : ∀ r ∈ R, r.s.length ≤ 1099511627776) :
    Calls Try.prog 24 #[.slice A n c, .slice A' m c', .agg #[.int .i64 a, .int .i64 j, .int .i64 s], .int .i64 k] w fun e w' => e = .returned (.int .i64 (sizeI L (ss R) ⟨a, j, s⟩ k)) ∧ Below w.heap.size w w' := by
  have b0 := below_new w (.cells #[.int .i64 a, .int .i64 j, .int .i64 s] 26)
  have HP := Lib.hid (hP.below b0)
  have HA := Lib.hid (hA.below b0)
  have HB := Lib.hid b0
  have HN := Lib.hid hn
  have HR := Lib.hid hR
  have HW := Lib.hid hr
  clear hP hA b0 hn hR hr
  cases h2 : rpOk L (ss R) ⟨a, j, s⟩
  · have HE := Lib.hid (sizeI_no (k := k) (show szOk L (ss R) ⟨a, j, s⟩ k = false by unfold szOk; rw [h2]; rfl))
    rw [HE.out]
    go_enter Try.func24, Try.ntmps24
    go_wp2_with fail
    refine (recodePeople_any _ _ _ L _ _ _ R _ _ _ _ HP.out HN.out hnm HA.out HR.out hm HW.out).mono ?_
    rintro e w1 ⟨A1, m1, c1, rfl, hm1, hP1, hb1⟩
    rw [h2]
    go_wp2
    go_ret
    exact ⟨rfl, below2 HB.out hb1⟩
  have h40 : n ≤ 40 := by rw [← HN.out]; exact rp_len h2
  have HL1 := Lib.hid (recL_length h2)
  rcases Int.lt_or_le k 0 with hk | hk
  · have HE := Lib.hid (sizeI_no (show szOk L (ss R) ⟨a, j, s⟩ k = false by rw [← Bool.not_eq_true, szOk_iff]; omega))
    rw [HE.out]
    go_enter Try.func24, Try.ntmps24
    go_wp2_with fail
    refine (recodePeople_any _ _ _ L _ _ _ R _ _ _ _ HP.out HN.out hnm HA.out HR.out hm HW.out).mono ?_
    rintro e w1 ⟨A1, m1, c1, rfl, hm1, hP1, hb1⟩
    rw [h2]
    go_wp2
    go_ret
    exact ⟨rfl, below2 HB.out hb1⟩
  by_cases hkn : k < n
  · obtain ⟨i, rfl⟩ : ∃ i : Nat, k = i := ⟨k.toNat, by omega⟩
    obtain ⟨⟨xa, xj, xs, xp⟩, hx⟩ : ∃ x, (recL L (ss R) ⟨a, j, s⟩)[i]? = some x := ⟨_, List.getElem?_eq_getElem (by rw [HL1.out, HN.out]; omega)⟩
    have HV := Lib.hid (sizeI_yes h2 hx (by rw [HN.out]; omega))
    go_enter Try.func24, Try.ntmps24
    go_wp2_with fail
    refine (recodePeople_any _ _ _ L _ _ _ R _ _ _ _ HP.out HN.out hnm HA.out HR.out hm HW.out).mono ?_
    rintro e w1 ⟨A1, m1, c1, rfl, hm1, hP1, hb1⟩
    rw [h2]
    have HM1 := Lib.hid hm1
    have hm1' : m1 = n := by rw [← hm1, HL1.out, HN.out]
    have h0 : ¬ ((i : Int) < 0) := by omega
    have h1 : (i : Int) < (m1 : Int) := by omega
    have m40 : m1 ≤ 1048576 := by omega
    have HP1 := Lib.hid hP1.1
    obtain ⟨b, o, hAe, hlt, hc⟩ := hP1.1 (by rw [pcells_length, hm1]; omega)
    subst hAe
    have HK := Lib.hid (fun (w' : World) (h : Below w1.heap.size w1 w') => cells_later hlt h (cells_at hc hx))
    obtain ⟨v, hv⟩ : ∃ v, cnt3 (recL L (ss R) ⟨a, j, s⟩) ⟨xa, xj, xs, xp⟩ = v := ⟨_, rfl⟩
    rw [hv] at HV
    have HVV := Lib.hid hv
    have HBB := Lib.hid (below2 HB.out hb1)
    have cur : Below w1.heap.size w1 w1.drew := (Below.refl _ _).drew
    clear hm1 hP1 hc hx hv hm1' hb1 hlt
    go_wp2
    go_region_held3 (fun w' => w'.cell? ⟨b, o + i * 4, none⟩ = some (.int .i64 xa) ∧ w'.cell? ⟨b, o + i * 4 + 1, none⟩ = some (.int .i64 xj) ∧ w'.cell? ⟨b, o + i * 4 + 2, none⟩ = some (.int .i64 xs) ∧ w'.cell? ⟨b, o + i * 4 + 3, none⟩ = some (.int .i64 xp)) (with_reducible exact HK.out _ cur) (first
      | (go_at_call 29; (with_reducible refine (groupsOf_any _ _ _ (recL L (ss R) ⟨a, j, s⟩) _ (HP1.out.below cur) HM1.out m40).mono ?_); rintro e w6 ⟨B, rfl, hG6, hb6⟩; have hlk := look_at xp hG6 HVV.out; have cur := below2 cur hb6; clear hb6)
      | (go_at_call 38; (with_reducible refine (groupOf_any _ _ _ _ _).mono ?_); rintro e w7 ⟨rfl, hb7⟩; (first | (have hlk7 := look_at xp (hG6.below hb7) HVV.out) | skip); have cur := below2 cur hb7; clear hb7))
    all_goals
      go_wp2
      go_ret
      exact ⟨ret_int HV.out.symm, below2 HBB.out cur⟩
  · have HE := Lib.hid (sizeI_no (show szOk L (ss R) ⟨a, j, s⟩ k = false by rw [← Bool.not_eq_true, szOk_iff, HN.out]; exact fun h => hkn h.2.2))
    rw [HE.out]
    go_enter Try.func24, Try.ntmps24
    go_wp2_with fail
    refine (recodePeople_any _ _ _ L _ _ _ R _ _ _ _ HP.out HN.out hnm HA.out HR.out hm HW.out).mono ?_
    rintro e w1 ⟨A1, m1, c1, rfl, hm1, hP1, hb1⟩
    rw [h2]
    have hm1' : m1 = n := by rw [← hm1, HL1.out, HN.out]
    have h0 : ¬ (k < 0) := by omega
    have h1 : ¬ (k < (m1 : Int)) := by omega
    go_wp2
    go_ret
    exact ⟨rfl, below2 HB.out hb1⟩

end Go.Proofs.Ytepnfljhoapdmaa
