/- Walk of the law FnGroupSizeFiner. -/
import Derived.Test.YtepnfljhoapdmaaGn
import Derived.Test.YtepnfljhoapdmaaGt
import Derived.Test.YtepnfljhoapdmaaDGs
import Derived.Deep.DeepCutAuto
namespace Go.Proofs.Ytepnfljhoapdmaa
open Go.RowKit
set_option linter.unusedVariables false

set_option maxRecDepth 100000 in
set_option maxHeartbeats 6400000 in
theorem fnGroupSizeFiner_walk (w : World) (A : Option Addr) (n c : Nat) (hin : BytesIn w A n c) :
    Calls Try.prog 8 #[.slice A n c] w fun e w' => e = .returned (.bool true) ∧ Below w.heap.size w w' := by
  have hn := hin.2.1
  by_cases hbig : 1048576 < n
  · have hd : decide (1048576 < (n : Int)) = true := by simp; omega
    go_enter Try.func8, Try.ntmps8
    go_wp2
    go_ret
    exact ⟨rfl, Below.refl _ _⟩
  have hd : decide (1048576 < (n : Int)) = false := by simp; omega
  go_enter Try.func8, Try.ntmps8
  go_wp2_with fail
  refine (drawGroupSize_any A n c w hin).mono ?_
  rintro e w1 ⟨A1, m, d, L, B, mr, dr, R, a, j, s, k, rfl, hL, hm10, hP1, hR, hm4, hrow, hL1, hk0, hk1, hb1⟩
  have HL := Lib.hid hL
  have HR := Lib.hid hR
  have HW := Lib.hid (fun r hr => Nat.le_trans (hrow r hr) (show 4 ≤ 1099511627776 by omega))
  clear hL hR hrow
  have b1 := below_new w1 (.cells #[.int .i64 a, .int .i64 j, .int .i64 s] 26)
  have x1 := Boxd.new w1 26 #[.int .i64 a, .int .i64 j, .int .i64 s]
  go_wp2_with fail
  refine (groupSize_any _ _ _ L _ _ _ R _ _ _ k (by omega) (by omega) _ (hP1.below b1).1 HL.out (by omega) (hL1.below b1).s HR.out (by omega) HW.out).mono ?_
  rintro e w2 ⟨rfl, hb2⟩
  have x2 := x1.below hb2
  have hL2 := (hL1.below b1).below hb2
  have hP2 := (hP1.below b1).below hb2
  obtain ⟨⟨g0, g1, g2⟩, _⟩ := cell_three x2
  go_wp2_with fail
  refine (sGroupSize_any _ _ _ L _ _ _ R _ _ _ k (by omega) (by omega) _ hP2.1 HL.out (by omega) hL2.s HR.out (by omega) HW.out).mono ?_
  rintro e w3 ⟨rfl, hb3⟩
  clear g0 g1 g2
  have x3 := x2.below hb3
  have hL3 := hL2.below hb3
  have hP3 := hP2.below hb3
  have hb03 := below2 hb1 (below2 b1 (below2 hb2 hb3))
  clear x1 x2 hL1 hL2 hP1 hP2 b1 hb1 hb2 hb3
  cases h12 : szOk L (ss R) ⟨a, j, s⟩ k
  · have e0 := sizeI_no h12
    have hne : ((-1 : Int) != -1) = false := by decide
    rw [e0]
    clear e0
    go_wp2
    go_ret
    exact ⟨rfl, hb03⟩
  obtain ⟨h2, k0, k1⟩ := szOk_iff.1 h12
  obtain ⟨i, rfl⟩ : ∃ i : Nat, k = i := ⟨k.toNat, by omega⟩
  rw [HL.out] at k1
  obtain ⟨V, hV⟩ : ∃ V, sizeI L (ss R) ⟨a, j, s⟩ (i : Int) = V := ⟨_, rfl⟩
  rw [hV]
  obtain ⟨⟨pa, pj, ps, pp⟩, hx⟩ : ∃ x, L[i]? = some x := ⟨_, List.getElem?_eq_getElem (by rw [HL.out]; omega)⟩
  have hcb := cnt3_bound (L.map (recP (ss R) ⟨a, j, s⟩)) (recP (ss R) ⟨a, j, s⟩ ⟨pa, pj, ps, pp⟩)
  rw [List.length_map, HL.out, ← sizeI_at h2 hx, hV] at hcb
  obtain ⟨V0, V1⟩ := hcb
  have hne : (V != V) = false := by simp
  have hpd : decide (V < 0) = false := by simp; omega
  clear h12 hk0 hk1
  have hrl : (((ss R).length : Nat) : Int) = (mr : Int) := by rw [ss_length, HR.out]
  have hlow := size_low h2 (rp_low h2) hx
  have htop := size_top h2 (rp_top h2) hx
  rw [hrl, hV] at htop
  rw [hV] at hlow
  obtain ⟨T, hT⟩ : ∃ T, sizeI L (ss R) ⟨(mr : Int), 1, 1⟩ (i : Int) = T := ⟨_, rfl⟩
  obtain ⟨U, hU⟩ : ∃ U, sizeI L (ss R) ⟨0, 0, 0⟩ (i : Int) = U := ⟨_, rfl⟩
  rw [hT] at htop
  rw [hU] at hlow
  have HT := Lib.hid hT
  have HU := Lib.hid hU
  have d1 : decide (U ≤ V) = true := by simpa using hlow.2
  have d2 : decide (V ≤ T) = true := by simpa using htop
  have d3 : decide (1 ≤ U) = true := by simpa using hlow.1
  clear hV hT hU hlow htop hx h2 V0 V1
  go_wp2_with fail
  refine (groupSize_any _ _ _ L _ _ _ R _ _ _ (i : Int) (by omega) (by omega) _ hP3.1 HL.out (by omega) hL3.s HR.out (by omega) HW.out).mono ?_
  rintro e w4 ⟨rfl, hb4⟩
  rw [HT.out]
  have hP4 := hP3.below hb4
  have hL4 := hL3.below hb4
  clear hP3 hL3 x3
  go_wp2_with fail
  refine (groupSize_any _ _ _ L _ _ _ R _ _ _ (i : Int) (by omega) (by omega) _ hP4.1 HL.out (by omega) hL4.s HR.out (by omega) HW.out).mono ?_
  rintro e w5 ⟨rfl, hb5⟩
  rw [HU.out]
  go_wp2
  go_ret
  exact ⟨rfl, below2 hb03 (below2 hb4 hb5)⟩

end Go.Proofs.Ytepnfljhoapdmaa
