/- Walk of the law FnExactGroupMany. -/
import Derived.Test.YtepnfljhoapdmaaGn
import Derived.Test.YtepnfljhoapdmaaGt
import Derived.Test.YtepnfljhoapdmaaGi
import Derived.Test.YtepnfljhoapdmaaTo
import Derived.Test.YtepnfljhoapdmaaRt
import Derived.Test.YtepnfljhoapdmaaLz
import Derived.Test.YtepnfljhoapdmaaLt
import Derived.Test.YtepnfljhoapdmaaLe
import Derived.Test.YtepnfljhoapdmaaOpenL
import Derived.Test.YtepnfljhoapdmaaOpen
import Derived.Deep.RegionWith
import Derived.Deep.RegionHeld3
import Derived.Deep.DeepCutAuto
namespace Go.Proofs.Ytepnfljhoapdmaa
open Go.RowKit
set_option linter.unusedVariables false

set_option maxRecDepth 100000 in
set_option maxHeartbeats 3200000 in
theorem fnExactGroupMany_walk (w : World) (A : Option Addr) (n c : Nat) (hinP : PeopleIn w A n c) (A' : Option Addr) (m c' : Nat) (hinR : RowsIn w A' m c') (a j s : Int) :
    Calls Try.prog 4 #[.slice A n c, .slice A' m c', .agg #[.int .i64 a, .int .i64 j, .int .i64 s]] w fun e w' => e = .returned (.bool true) ∧ Below w.heap.size w w' := by
  obtain ⟨w0, hw0⟩ : ∃ w0, w0 = w.alloc (.cells #[.int .i64 a, .int .i64 j, .int .i64 s] 34) := ⟨_, rfl⟩
  have hb0 : Below w.heap.size w w0 := by rw [hw0]; exact below_new _ _
  have x0 : Boxd w0 w.heap.size 34 #[.int .i64 a, .int .i64 j, .int .i64 s] := by rw [hw0]; exact Boxd.new _ _ _
  obtain ⟨_, hn, L, rfl, hP⟩ := hinP
  obtain ⟨hmb, R, hR, hA, hrow⟩ := hinR
  have HB0 := Lib.hid hb0
  have HP := Lib.hid (fun (w' : World) (h : Below w0.heap.size w0 w') => hP.below (below2 hb0 h))
  have HA := Lib.hid (fun (w' : World) (h : Below w0.heap.size w0 w') => hA.below (below2 hb0 h))
  have HW0 := Lib.hid hw0
  have HR := Lib.hid hR
  have HN := Lib.hid hrow
  have cur0 : Below w0.heap.size w0 w0 := Below.refl _ _
  clear hw0 hP hA hb0 hR hrow
  by_cases hbig : (1048576 : Int) - L.length < 0
  · go_enter Try.func4, Try.ntmps4
    go_wp2_with fail
    rw [← HW0.out]
    refine (szPersonS_any _ _ _ _ _ hn (by omega) (by omega)).mono ?_
    rintro e w' ⟨rfl, rfl⟩
    rw [if_pos (by omega)]
    go_wp2
    go_ret
    exact ⟨rfl, HB0.out⟩
  have hnm : L.length ≤ 1048576 := by omega
  by_cases hbig' : szRR (ss R) ((1048576 : Int) - L.length) < 0
  · have hbd : decide (szRR (ss R) ((1048576 : Int) - L.length) < 0) = true := by simpa using hbig'
    have hbn : decide ((1048576 : Int) - L.length < 0) = false := by simpa using hbig
    go_enter Try.func4, Try.ntmps4
    go_wp2_with fail
    rw [← HW0.out]
    refine (szPersonS_any _ _ _ _ _ hn (by omega) (by omega)).mono ?_
    rintro e w' ⟨rfl, rfl⟩
    rw [if_neg (by omega)]
    go_wp2_with fail
    refine (szIntSS_any _ _ _ _ R _ (HA.out _ cur0) HR.out hmb HN.out (by omega) (by omega)).mono ?_
    rintro e w' ⟨rfl, rfl⟩
    go_wp2
    go_ret
    exact ⟨rfl, HB0.out⟩
  obtain ⟨hm', hrow'⟩ := szRR_le (R := ss R) (l := (1048576 : Int) - L.length) (by omega) (by omega)
  rw [ss_length, HR.out] at hm'
  have hm : m ≤ 1048576 := by omega
  have HW := Lib.hid (show ∀ r ∈ R, r.s.length ≤ 1048576 from fun r hr => by have := hrow' r.s (List.mem_map_of_mem hr); omega)
  have hbd : decide (szRR (ss R) ((1048576 : Int) - L.length) < 0) = false := by simpa using hbig'
  have hbn : decide ((1048576 : Int) - L.length < 0) = false := by simpa using hbig
  clear hm' hrow'
  go_enter Try.func4, Try.ntmps4
  go_wp2_with fail
  rw [← HW0.out]
  refine (szPersonS_any _ _ _ _ _ hn (by omega) (by omega)).mono ?_
  rintro e w' ⟨rfl, rfl⟩
  rw [if_neg (by omega)]
  go_wp2_with fail
  refine (szIntSS_any _ _ _ _ R _ (HA.out _ cur0) HR.out hmb HN.out (by omega) (by omega)).mono ?_
  rintro e w' ⟨rfl, rfl⟩
  obtain ⟨V, hV⟩ : ∃ V, manyG L (ss R) ⟨a, j, s⟩ = V := ⟨_, rfl⟩
  have HV := Lib.hid hV
  have HX := Lib.hid x0
  clear hV x0 hbig hbig'
  generalize hG : w.heap.size = G at *
  have HG := Lib.hid hG
  have HXg := Lib.hid (fun (w' : World) (h : Below w0.heap.size w0 w') => (show w'.cell? ⟨G, 0, none⟩ = some (.int .i64 a) ∧ w'.cell? ⟨G, 1, none⟩ = some (.int .i64 j) ∧ w'.cell? ⟨G, 2, none⟩ = some (.int .i64 s) from (cell_three (HX.out.below h)).1))
  clear hG
  go_upto_region 8 with fail
  go_cut [8] (fun v wx => v = .int .i64 V ∧ Below w0.heap.size w0 wx)
  case first =>
    have cur : Below w0.heap.size w0 w0.drew := cur0.drew
    clear cur0
    go_region_held3 (fun w' => w'.cell? ⟨G, 0, none⟩ = some (.int .i64 a) ∧ w'.cell? ⟨G, 1, none⟩ = some (.int .i64 j) ∧ w'.cell? ⟨G, 2, none⟩ = some (.int .i64 s)) (with_reducible exact HXg.out _ cur) (first
      | (go_at_call 16; (with_reducible refine (toPersonS_any A c L _ (HP.out _ cur) hnm).mono ?_); rintro e w1 ⟨g1, rfl, _, hf1, hb1⟩; have hS1 := hf1.seen (Nat.le_refl _); (first | (have hL1 := hL1.below hb1) | skip); have cur := below2 cur hb1; clear hf1 hb1)
      | (go_at_call 17; (with_reducible refine (toIntSS_any A' m c' R _ (HA.out _ cur) HR.out hm HW.out).mono ?_); rintro e w2 ⟨gg2, S2, rfl, hl2, he2, hL1, hb2⟩; have HL1 := Lib.hid hl2; have HE1 := Lib.hid he2; (first | (have hS1 := hS1.below hb2) | skip); have cur := below2 cur hb2; clear hb2 hl2 he2)
      | (go_at_call 18; refine (toRecode_any _ _ _ _).mono ?_; rintro e w3 ⟨rfl, hb3⟩; (first | (have hS1 := hS1.below hb3) | skip); (first | (have hL1 := hL1.below hb3) | skip); have cur := below2 cur hb3; clear hb3)
      | (go_at_call 15; refine (sGroupMany_any _ _ _ L _ _ _ S2 _ _ _ _ hS1 rfl (by omega) hL1.lad.s HL1.out (by omega) (fun r hr => by have h1 : r.s ∈ ss S2 := List.mem_map_of_mem hr; rw [HE1.out] at h1; obtain ⟨q, hq, e⟩ := List.mem_map.1 h1; have := HW.out q hq; rw [e] at this; omega)).mono ?_; rintro e w4 ⟨rfl, hb4⟩; rw [HE1.out, HV.out]; have cur := below2 cur hb4; clear hb4))
    all_goals
      go_wp2
      go_meet
      exact ⟨rfl, cur⟩
  case rest =>
    obtain ⟨rfl, cur⟩ := hcut
    clear cur0
    have hne0 : (V != V) = false := by simp
    have he : eqAllB L L = true := eqAllB_iff.2 rfl
    go_wp2_with fail
    refine (toPersonS_any A c L _ (HP.out _ cur) hnm).mono ?_
    rintro e w1 ⟨g1, rfl, _, hf1, hb1⟩
    have hS1 := hf1.seen (Nat.le_refl _)
    have cur := below2 cur hb1
    clear hf1 hb1
    go_wp2_with fail
    refine (toIntSS_any A' m c' R _ (HA.out _ cur) HR.out hm HW.out).mono ?_
    rintro e w2 ⟨gg2, S2, rfl, hl2, he2, hL1, hb2⟩
    have HL1 := Lib.hid hl2
    have HE1 := Lib.hid he2
    have hS1 := hS1.below hb2
    have cur := below2 cur hb2
    obtain ⟨k0, k1, k2⟩ := HXg.out _ cur
    clear hb2 hl2 he2
    go_wp2_with fail
    refine (toRecode_any _ _ _ _).mono ?_
    rintro e w3 ⟨rfl, hb3⟩
    have hS1 := hS1.below hb3
    have hL1 := hL1.below hb3
    have cur := below2 cur hb3
    clear hb3 k0 k1 k2
    go_wp2_with fail
    refine (groupMany_any _ _ _ L _ _ _ S2 _ _ _ _ hS1 rfl (by omega) hL1.lad.s HL1.out (by omega) (fun r hr => by have h1 : r.s ∈ ss S2 := List.mem_map_of_mem hr; rw [HE1.out] at h1; obtain ⟨q, hq, e⟩ := List.mem_map.1 h1; have := HW.out q hq; rw [e] at this; omega)).mono ?_
    rintro e w4 ⟨rfl, hb4⟩
    rw [HE1.out, HV.out]
    have hS1 := hS1.below hb4
    have hL1 := hL1.below hb4
    have cur := below2 cur hb4
    clear hb4
    go_wp2_with fail
    refine (toPersonS_any A c L _ (HP.out _ cur) hnm).mono ?_
    rintro e w5 ⟨g5, rfl, _, hf5, hb5⟩
    have hS5 := hf5.seen (Nat.le_refl _)
    have hS1 := hS1.below hb5
    have hL1 := hL1.below hb5
    have cur := below2 cur hb5
    clear hf5 hb5
    go_wp2_with fail
    refine (eqPersonS_any _ _ _ _ L L _ hS1 hS5 (by omega) (by omega)).mono ?_
    rintro e w6 ⟨rfl, hb6⟩
    rw [he]
    have hL1 := hL1.below hb6
    have cur := below2 cur hb6
    clear hb6 hS1 hS5
    go_wp2_with fail
    refine (toIntSS_any A' m c' R _ (HA.out _ cur) HR.out hm HW.out).mono ?_
    rintro e w7 ⟨gg7, S7, rfl, hl7, he7, hL7, hb7⟩
    have HL7 := Lib.hid hl7
    have HE7 := Lib.hid he7
    have hL1 := hL1.below hb7
    have cur := below2 cur hb7
    clear hb7 hl7 he7
    have HEE := Lib.hid (show decide (ss S2 = ss S7) = true by rw [HE1.out, HE7.out]; simp)
    go_wp2_with fail
    refine (eqIntSS_any _ _ _ _ _ _ S2 S7 _ hL1.lad.s hL7.lad.s HL1.out HL7.out hm hm (fun r hr => by have h1 : r.s ∈ ss S2 := List.mem_map_of_mem hr; rw [HE1.out] at h1; obtain ⟨q, hq, e⟩ := List.mem_map.1 h1; have := HW.out q hq; rw [e] at this; omega) (fun r hr => by have h1 : r.s ∈ ss S7 := List.mem_map_of_mem hr; rw [HE7.out] at h1; obtain ⟨q, hq, e⟩ := List.mem_map.1 h1; have := HW.out q hq; rw [e] at this; omega)).mono ?_
    rintro e w8 ⟨rfl, hb8⟩
    rw [HEE.out]
    go_wp2
    go_ret
    have hGG := HG.out
    subst hGG
    exact ⟨rfl, below2 HB0.out (below2 cur hb8)⟩

end Go.Proofs.Ytepnfljhoapdmaa
