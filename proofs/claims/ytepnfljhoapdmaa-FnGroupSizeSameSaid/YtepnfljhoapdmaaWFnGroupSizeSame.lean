/- Walk of the law FnGroupSizeSame. -/
import Derived.Test.YtepnfljhoapdmaaGn
import Derived.Test.YtepnfljhoapdmaaGt
import Derived.Test.YtepnfljhoapdmaaDGs
import Derived.Deep.DeepCutAuto
import Derived.Deep.QuietTactic
import Derived.BigQuiet
namespace Go.Proofs.Ytepnfljhoapdmaa
open Go.RowKit
set_option linter.unusedVariables false

theorem below_dn {B : Nat} {w w' : World} (h : Below B w w') (k : Nat) : Below B w (w'.drewN k) := ⟨h.os, h.tape, h.output, h.size, h.block⟩
def SmRel (n : Nat) (M : List Pers) (x : Pers) (w : World) (v i : Value) (wr : World) : Prop :=
  ∃ (k : Nat) (q : Int), k ≤ n ∧ i = .int .i64 k ∧ v = .int .i64 q ∧ 0 ≤ q ∧ q ≤ k ∧ Hid (cnt3 (M.take k) x = q) ∧ Below w.heap.size w wr

set_option maxRecDepth 100000 in
set_option maxHeartbeats 6400000 in
theorem fnGroupSizeSame_walk (w : World) (A : Option Addr) (n c : Nat) (hin : BytesIn w A n c) :
    Calls Try.prog 9 #[.slice A n c] w fun e w' => e = .returned (.bool true) ∧ Below w.heap.size w w' := by
  have hn := hin.2.1
  by_cases hbig : 1048576 < n
  · have hd : decide (1048576 < (n : Int)) = true := by simp; omega
    go_enter Try.func9, Try.ntmps9
    go_wp2
    go_ret
    exact ⟨rfl, Below.refl _ _⟩
  have hd : decide (1048576 < (n : Int)) = false := by simp; omega
  go_enter Try.func9, Try.ntmps9
  go_wp2_with fail
  refine (drawGroupSize_any A n c w hin).mono ?_
  rintro e w1 ⟨A1, m, d, L, B, mr, dr, R, a, j, s, k, rfl, hL, hm10, hP1, hR, hm4, hrow, hL1, hk0, hk1, hb1⟩
  have HL := Lib.hid hL
  have HR := Lib.hid hR
  have HW := Lib.hid (fun r hr => Nat.le_trans (hrow r hr) (show 4 ≤ 1099511627776 by omega))
  clear hL hR hrow
  have b1 := below_new w1 (.cells #[.int .i64 a, .int .i64 j, .int .i64 s] 26)
  have x1 := Boxd.new w1 26 #[.int .i64 a, .int .i64 j, .int .i64 s]
  go_wp2_with fail
  refine (groupSize_any _ _ _ L _ _ _ R _ _ _ k (by omega) (by omega) _ (hP1.below b1).1 HL.out (by omega) (hL1.below b1).s HR.out (by omega) HW.out).mono ?_
  rintro e w2 ⟨rfl, hb2⟩
  have x2 := x1.below hb2
  have hL2 := (hL1.below b1).below hb2
  have hP2 := (hP1.below b1).below hb2
  obtain ⟨⟨g0, g1, g2⟩, _⟩ := cell_three x2
  go_wp2_with fail
  refine (sGroupSize_any _ _ _ L _ _ _ R _ _ _ k (by omega) (by omega) _ hP2.1 HL.out (by omega) hL2.s HR.out (by omega) HW.out).mono ?_
  rintro e w3 ⟨rfl, hb3⟩
  clear g0 g1 g2
  have x3 := x2.below hb3
  have hL3 := hL2.below hb3
  have hP3 := hP2.below hb3
  have hb03 := below2 hb1 (below2 b1 (below2 hb2 hb3))
  clear x1 x2 hL1 hL2 hP1 hP2 b1 hb1 hb2 hb3
  cases h12 : szOk L (ss R) ⟨a, j, s⟩ k
  · have e0 := sizeI_no h12
    have hne : ((-1 : Int) != -1) = false := by decide
    rw [e0]
    clear e0
    go_wp2
    go_ret
    exact ⟨rfl, hb03⟩
  obtain ⟨h2, k0, k1⟩ := szOk_iff.1 h12
  obtain ⟨i, rfl⟩ : ∃ i : Nat, k = i := ⟨k.toNat, by omega⟩
  rw [HL.out] at k1
  obtain ⟨V, hV⟩ : ∃ V, sizeI L (ss R) ⟨a, j, s⟩ (i : Int) = V := ⟨_, rfl⟩
  rw [hV]
  obtain ⟨⟨pa, pj, ps, pp⟩, hx⟩ : ∃ x, L[i]? = some x := ⟨_, List.getElem?_eq_getElem (by rw [HL.out]; omega)⟩
  have hcb := cnt3_bound (L.map (recP (ss R) ⟨a, j, s⟩)) (recP (ss R) ⟨a, j, s⟩ ⟨pa, pj, ps, pp⟩)
  rw [List.length_map, HL.out, ← sizeI_at h2 hx, hV] at hcb
  obtain ⟨V0, V1⟩ := hcb
  have hne : (V != V) = false := by simp
  have hpd : decide (V < 0) = false := by simp; omega
  clear h12 hk0 hk1
  obtain ⟨⟨g0, g1, g2⟩, _⟩ := cell_three x3
  go_wp2_with fail
  refine (recodePeople_any _ _ _ L _ _ _ R _ _ _ _ hP3.1 HL.out (by omega) hL3.s HR.out (by omega) HW.out).mono ?_
  rintro e w4 ⟨A2, m2, c2, rfl, hm2, hP4, hb4⟩
  rw [h2]
  clear g0 g1 g2
  rw [recL_length h2, HL.out] at hm2
  subst hm2
  have hxr := rec_at h2 hx
  obtain ⟨⟨xa, xj, xs, xp⟩, hxx⟩ : ∃ x, recP (ss R) ⟨a, j, s⟩ ⟨pa, pj, ps, pp⟩ = x := ⟨_, rfl⟩
  rw [hxx] at hxr
  have hSZ : ∀ (k : Nat) (y : Pers), (recL L (ss R) ⟨a, j, s⟩)[k]? = some y → k < m → same3 y ⟨xa, xj, xs, xp⟩ = true → sizeI L (ss R) ⟨a, j, s⟩ (k : Int) = V := fun k y hy hk he => by
    rw [sizeI_yes h2 hy (by rw [HL.out]; exact hk), cnt3_same he, ← sizeI_yes h2 hxr (by rw [HL.out]; omega), hV]
  have hVX : cnt3 (recL L (ss R) ⟨a, j, s⟩) ⟨xa, xj, xs, xp⟩ = V := by rw [← sizeI_yes h2 hxr (by rw [HL.out]; omega), hV]
  have HML := Lib.hid (recL_length h2)
  rw [HL.out] at HML
  obtain ⟨M, hM⟩ : ∃ M, recL L (ss R) ⟨a, j, s⟩ = M := ⟨_, rfl⟩
  rw [hM] at hP4 hxr hSZ hVX HML
  obtain ⟨b, o, hAe, hlt, hc⟩ := hP4.1 (by rw [pcells_length, HML.out]; omega)
  subst hAe
  have HC := Lib.hid hc
  have HX := Lib.hid hxr
  have HS := Lib.hid hSZ
  have HVX := Lib.hid hVX
  have HI := Lib.hid (fun (w' : World) (h : Below w4.heap.size w4 w') => cells_later hlt h (cells_at hc hxr))
  have HPg := Lib.hid (fun (w' : World) (h : Below w4.heap.size w4 w') => ((hP3.below hb4).below h).1)
  have HLg := Lib.hid (fun (w' : World) (h : Below w4.heap.size w4 w') => ((hL3.below hb4).below h).s)
  have HXg := Lib.hid (fun (w' : World) (h : Below w4.heap.size w4 w') => (cell_three ((x3.below hb4).below h)).1)
  have HB4 := Lib.hid (below2 hb03 hb4)
  have hVV : (V != V) = false := by simp
  clear hV h2 hx hxx hxr hSZ hVX hM hc hP3 hP4 hL3 x3 hb03 hb4 V0 V1
  go_wp2
  go_loopw [11, 12] (fun v t wr => SmRel m M ⟨xa, xj, xs, xp⟩ w4 v t wr) (fun _ t _ => m - (intOf t).toNat)
  case atStart => exact ⟨0, 0, Nat.zero_le _, rfl, rfl, by omega, by omega, by unfold Hid; rfl, Below.refl _ _⟩
  case round =>
    obtain ⟨k, q, hk, rfl, rfl, q0, q1, hq, hb⟩ := hrel
    by_cases hkn : k < m
    · obtain ⟨⟨ya, yj, ys, yp⟩, hy⟩ : ∃ y, M[k]? = some y := ⟨_, List.getElem?_eq_getElem (by rw [HML.out]; exact hkn)⟩
      obtain ⟨f0, f1, f2, f3⟩ := cells_later hlt hb (cells_at HC.out hy)
      obtain ⟨l0, l1, l2, l3⟩ := HI.out _ hb
      obtain ⟨g0, g1, g2⟩ := HXg.out _ hb
      have kk : (k : Int) < (m : Int) := by omega
      have ht := cnt3_take (x := ⟨xa, xj, xs, xp⟩) hy
      rw [hq.out] at ht
      have HT := Lib.hid ht
      have HSK := Lib.hid (HS.out k _ hy hkn)
      have HBR := Lib.hid (show Below w4.heap.size w4 wr from hb)
      clear hy ht hq hb
      cases h1 : (ya == xa) <;> cases h2 : (yj == xj) <;> cases h3 : (ys == xs)
      all_goals
        first
          | (have hs : same3 ⟨ya, yj, ys, yp⟩ ⟨xa, xj, xs, xp⟩ = false := (by simp [same3, h1, h2, h3]; done)
             go_wp2
             go_quiet (fail)
             go_wp2
             have hb := HBR.out
             have RR : SmRel m M ⟨xa, xj, xs, xp⟩ w4 (.int .i64 q) (.int .i64 ((k : Int) + 1)) wr := ⟨k + 1, q, by omega, by go_num, rfl, by omega, by omega, by unfold Hid; rw [HT.out, hs]; simp, hb⟩
             go_roundw
             case rel => exact ⟨k + 1, q, by omega, by go_num, rfl, by omega, by omega, by unfold Hid; rw [HT.out, hs]; simp, ⟨hb.os, hb.tape, hb.output, hb.size, hb.block⟩⟩
             case measure => simp [intOf]; omega)
          | (have hs : same3 ⟨ya, yj, ys, yp⟩ ⟨xa, xj, xs, xp⟩ = true := (by simp [same3, h1, h2, h3]; done)
             have W1 : IntKind.i64.wrap (q + 1) = q + 1 := IntWalk.i64_in _ (by omega)
             go_wp2
             go_quiet (fail)
             go_wp2_with fail
             have hb := HBR.out
             refine (groupSize_any _ _ _ L _ _ _ R _ _ _ (k : Int) (by omega) (by omega) _ (HPg.out _ (below_dn hb _)) HL.out (by omega) (HLg.out _ (below_dn hb _)) HR.out (by omega) HW.out).mono ?_
             rintro e w9 ⟨rfl, hb9⟩
             rw [HSK.out hs]
             have hb10 := below2 (below_dn hb _) hb9
             have RR : SmRel m M ⟨xa, xj, xs, xp⟩ w4 (.int .i64 (q + 1)) (.int .i64 ((k : Int) + 1)) w9 := ⟨k + 1, q + 1, by omega, by go_num, rfl, by omega, by omega, by unfold Hid; rw [HT.out, if_pos hs], hb10⟩
             clear f0 f1 f2 f3 l0 l1 l2 l3 g0 g1 g2 hb hb9 hb10
             go_wp2
             go_roundw
             case rel => first | exact RR | ((repeat apply Exists.intro); first | exact ⟨RR, rfl⟩ | exact ⟨RR, rfl, rfl⟩ | exact ⟨RR, rfl, rfl, rfl⟩)
             case measure => simp [intOf]; omega)
    · have hf := hq.out
      rw [List.take_of_length_le (by rw [HML.out]; omega), HVX.out] at hf
      subst hf
      have E1 : (V == V) = true := by simp
      go_wp2
      go_ret
      exact ⟨ret_bool (by simp), below2 HB4.out hb⟩

end Go.Proofs.Ytepnfljhoapdmaa
