/- Walk of the law FnGroupSizeAdd. -/
import Derived.Test.YtepnfljhoapdmaaGn
import Derived.Test.YtepnfljhoapdmaaGt
import Derived.Test.YtepnfljhoapdmaaDGs
import Derived.Test.YtepnfljhoapdmaaSl
import Derived.Deep.RegionWith
import Derived.Deep.RegionHeld3
import Derived.Deep.DeepCutAuto
namespace Go.Proofs.Ytepnfljhoapdmaa
open Go.RowKit
set_option linter.unusedVariables false

/-- A person in a box of its own, as a list of one. -/
theorem ppl_box1 {w : World} {g : Nat} {a j s p : Int} (h : Boxd w g 31 #[.int .i64 a, .int .i64 j, .int .i64 s, .int .i64 p]) : Ppl w (some ⟨g, 0, none⟩) 1 [⟨a, j, s, p⟩] := by
  refine ⟨fun _ => ⟨g, 0, rfl, h.lt, fun i u hu => ?_⟩, by simp, by omega, fun e => by cases e⟩
  rw [Nat.zero_add, cell_of_row w g i _ _ _ h]
  simpa [pcells_one] using hu
theorem seen_own1 {w : World} {B c n : Nat} {A : Option Addr} {L : List Pers} (hn : L.length = n) (h : w.ownsRow B 31 4 (.slice A n c) n (pcells L)) : Seen w A (pcells L) := (ppl_own_n hn h).1

set_option maxRecDepth 100000 in
set_option maxHeartbeats 6400000 in
theorem fnGroupSizeAdd_walk (w : World) (A : Option Addr) (n c : Nat) (hin : BytesIn w A n c) :
    Calls Try.prog 7 #[.slice A n c] w fun e w' => e = .returned (.bool true) ∧ Below w.heap.size w w' := by
  have hn := hin.2.1
  by_cases hbig : 1048576 < n
  · have hd : decide (1048576 < (n : Int)) = true := by simp; omega
    go_enter Try.func7, Try.ntmps7
    go_wp2
    go_ret
    exact ⟨rfl, Below.refl _ _⟩
  have hd : decide (1048576 < (n : Int)) = false := by simp; omega
  go_enter Try.func7, Try.ntmps7
  go_wp2_with fail
  refine (drawGroupSize_any A n c w hin).mono ?_
  rintro e w1 ⟨A1, m, d, L, B, mr, dr, R, a, j, s, k, rfl, hL, hm10, hP1, hR, hm4, hrow, hL1, hk0, hk1, hb1⟩
  have HL := Lib.hid hL
  have HR := Lib.hid hR
  have HW := Lib.hid (fun r hr => Nat.le_trans (hrow r hr) (show 4 ≤ 1099511627776 by omega))
  clear hL hR hrow
  have b1 := below_new w1 (.cells #[.int .i64 a, .int .i64 j, .int .i64 s] 26)
  have x1 := Boxd.new w1 26 #[.int .i64 a, .int .i64 j, .int .i64 s]
  go_wp2_with fail
  refine (groupSize_any _ _ _ L _ _ _ R _ _ _ k (by omega) (by omega) _ (hP1.below b1).1 HL.out (by omega) (hL1.below b1).s HR.out (by omega) HW.out).mono ?_
  rintro e w2 ⟨rfl, hb2⟩
  have x2 := x1.below hb2
  have hL2 := (hL1.below b1).below hb2
  have hP2 := (hP1.below b1).below hb2
  obtain ⟨⟨g0, g1, g2⟩, _⟩ := cell_three x2
  go_wp2_with fail
  refine (sGroupSize_any _ _ _ L _ _ _ R _ _ _ k (by omega) (by omega) _ hP2.1 HL.out (by omega) hL2.s HR.out (by omega) HW.out).mono ?_
  rintro e w3 ⟨rfl, hb3⟩
  clear g0 g1 g2
  have x3 := x2.below hb3
  have hL3 := hL2.below hb3
  have hP3 := hP2.below hb3
  have hb03 := below2 hb1 (below2 b1 (below2 hb2 hb3))
  clear x1 x2 hL1 hL2 hP1 hP2 b1 hb1 hb2 hb3
  cases h12 : szOk L (ss R) ⟨a, j, s⟩ k
  · have e0 := sizeI_no h12
    have hne : ((-1 : Int) != -1) = false := by decide
    rw [e0]
    clear e0
    go_wp2
    go_ret
    exact ⟨rfl, hb03⟩
  obtain ⟨h2, k0, k1⟩ := szOk_iff.1 h12
  obtain ⟨i, rfl⟩ : ∃ i : Nat, k = i := ⟨k.toNat, by omega⟩
  rw [HL.out] at k1
  obtain ⟨V, hV⟩ : ∃ V, sizeI L (ss R) ⟨a, j, s⟩ (i : Int) = V := ⟨_, rfl⟩
  rw [hV]
  obtain ⟨⟨pa, pj, ps, pp⟩, hx⟩ : ∃ x, L[i]? = some x := ⟨_, List.getElem?_eq_getElem (by rw [HL.out]; omega)⟩
  have hcb := cnt3_bound (L.map (recP (ss R) ⟨a, j, s⟩)) (recP (ss R) ⟨a, j, s⟩ ⟨pa, pj, ps, pp⟩)
  rw [List.length_map, HL.out, ← sizeI_at h2 hx, hV] at hcb
  obtain ⟨V0, V1⟩ := hcb
  have hne : (V != V) = false := by simp
  have hpd : decide (V < 0) = false := by simp; omega
  clear h12 hk0 hk1
  have hmi : ((m : Int) == 40) = false := by simp; omega
  have W1 : IntKind.i64.wrap (V + 1) = V + 1 := IntWalk.i64_in _ (by omega)
  have hD := size_add h2 hx (by rw [HL.out]; omega)
  rw [hV] at hD
  have HV' := Lib.hid hD
  have HM := Lib.hid (show (L ++ [(⟨pa, pj, ps, pp⟩ : Pers)]).length = m + 1 by rw [List.length_append, HL.out]; rfl)
  clear hV hD
  go_upto_region 10 with fail
  obtain ⟨b, o, hAe, hlt, hc⟩ := hP3.1 (by rw [pcells_length, HL.out]; omega)
  subst hAe
  have HPW := Lib.hid hP3
  have HLg := Lib.hid (fun (w' : World) (h : Below w3.heap.size w3 w') => (hL3.below h).s)
  have HC := Lib.hid (fun (w' : World) (h : Below w3.heap.size w3 w') => (show (w'.cell? ⟨b, o + i * 4, none⟩ = some (.int .i64 pa) ∧ w'.cell? ⟨b, o + i * 4 + 1, none⟩ = some (.int .i64 pj) ∧ w'.cell? ⟨b, o + i * 4 + 2, none⟩ = some (.int .i64 ps) ∧ w'.cell? ⟨b, o + i * 4 + 3, none⟩ = some (.int .i64 pp)) ∧ w'.cell? ⟨w1.heap.size, 0, none⟩ = some (.int .i64 a) ∧ w'.cell? ⟨w1.heap.size, 1, none⟩ = some (.int .i64 j) ∧ w'.cell? ⟨w1.heap.size, 2, none⟩ = some (.int .i64 s) from ⟨cells_later hlt h (cells_at hc hx), (cell_three (x3.below h)).1⟩))
  have HB04 := Lib.hid hb03
  clear hx hlt hc x3 hL3 hP3 hb03 h2
  generalize hGR : w1.heap.size = GR at *
  clear hGR
  generalize w3 = w4 at *
  have bE : Below w4.heap.size w4 (w4.alloc (.cells #[] 31)).drew := (below_new w4 _).drew
  have bEP : Below w4.heap.size w4 ((w4.alloc (.cells #[] 31)).alloc (.cells #[.int .i64 pa, .int .i64 pj, .int .i64 ps, .int .i64 pp] 31)).drew := (below2 (below_new w4 _) (below_new _ _)).drew
  have bPE : Below w4.heap.size w4 ((w4.alloc (.cells #[.int .i64 pa, .int .i64 pj, .int .i64 ps, .int .i64 pp] 31)).alloc (.cells #[] 31)).drew := (below2 (below_new w4 _) (below_new _ _)).drew
  have oE : (w4.alloc (.cells #[] 31)).drew.ownsRow w4.heap.size 31 4 (.slice (some ⟨w4.heap.size, 0, none⟩) 0 0) 0 (pcells []) := own_empty w4
  have oEP : ((w4.alloc (.cells #[] 31)).alloc (.cells #[.int .i64 pa, .int .i64 pj, .int .i64 ps, .int .i64 pp] 31)).drew.ownsRow w4.heap.size 31 4 (.slice (some ⟨w4.heap.size, 0, none⟩) 0 0) 0 (pcells []) := (own_empty w4).alloc _
  have oPE : ((w4.alloc (.cells #[.int .i64 pa, .int .i64 pj, .int .i64 ps, .int .i64 pp] 31)).alloc (.cells #[] 31)).drew.ownsRow w4.heap.size 31 4 (.slice (some ⟨w4.heap.size + 1, 0, none⟩) 0 0) 0 (pcells []) := by
    have := World.ownsRow_lit (base := w4.heap.size) (e := 31) (size := 4) (w4.alloc (.cells #[.int .i64 pa, .int .i64 pj, .int .i64 ps, .int .i64 pp] 31)) #[] 0 (by simp) (by unfold maxLen; omega) rfl
    simp at this
    exact this
  have xEP : Boxd ((w4.alloc (.cells #[] 31)).alloc (.cells #[.int .i64 pa, .int .i64 pj, .int .i64 ps, .int .i64 pp] 31)).drew (w4.heap.size + 1) 31 #[.int .i64 pa, .int .i64 pj, .int .i64 ps, .int .i64 pp] := by
    have := Boxd.new (w4.alloc (.cells #[] 31)) 31 #[.int .i64 pa, .int .i64 pj, .int .i64 ps, .int .i64 pp]
    simp at this
    exact this
  have xPE : Boxd ((w4.alloc (.cells #[.int .i64 pa, .int .i64 pj, .int .i64 ps, .int .i64 pp] 31)).alloc (.cells #[] 31)).drew w4.heap.size 31 #[.int .i64 pa, .int .i64 pj, .int .i64 ps, .int .i64 pp] := (Boxd.new w4 _ _).alloc _
  have HH := Lib.hid (And.intro bE (And.intro bEP (And.intro bPE (And.intro oE (And.intro oEP (And.intro oPE (And.intro xEP xPE)))))))
  clear bE bEP bPE oE oEP oPE xEP xPE
  go_cut [2] (fun v wx => v = .bool true ∧ Below w4.heap.size w4 wx)
  case first =>
    have HP1 := Lib.hid (show Below w4.heap.size w4 (w4.alloc (.cells #[.int .i64 pa, .int .i64 pj, .int .i64 ps, .int .i64 pp] 31)).drew from (below_new w4 _).drew)
    have cur : Below w4.heap.size w4 w4.drew := (Below.refl _ _).drew
    clear hin hd hbig hpd hne hmi V0
    go_region_held3 (fun w' => (w'.cell? ⟨b, o + i * 4, none⟩ = some (.int .i64 pa) ∧ w'.cell? ⟨b, o + i * 4 + 1, none⟩ = some (.int .i64 pj) ∧ w'.cell? ⟨b, o + i * 4 + 2, none⟩ = some (.int .i64 ps) ∧ w'.cell? ⟨b, o + i * 4 + 3, none⟩ = some (.int .i64 pp)) ∧ w'.cell? ⟨GR, 0, none⟩ = some (.int .i64 a) ∧ w'.cell? ⟨GR, 1, none⟩ = some (.int .i64 j) ∧ w'.cell? ⟨GR, 2, none⟩ = some (.int .i64 s)) (first | with_reducible exact HC.out _ cur | with_reducible exact HC.out _ HH.out.1 | with_reducible exact HC.out _ HH.out.2.1 | with_reducible exact HC.out _ HH.out.2.2.1 | with_reducible exact HC.out _ HP1.out | exact HC.out _ (cur.alloc cur.size _)) (first
      | (with_reducible show if _ then Oper.wp _ _ _ ((w4.alloc (.cells #[] 31)).drew) _ _ else _; refine step_app_many rfl (.tmp 44) (.tmp 45) rfl w4.heap.size (.slice (some ⟨w4.heap.size, 0, none⟩) 0 0) [] L (some ⟨b, o, none⟩) 0 m d rfl rfl rfl HL.out HH.out.2.2.2.1 (HPW.out.below HH.out.1) (by omega) (by omega) (by simp) ?_; intro v1 w6 ho6 hg6; simp only [Nat.zero_add, List.nil_append] at ho6; have hb6 := HH.out.1.grown hg6 (by simp) (by simp [Value.ownBlock]); obtain ⟨A6, c6, hv6⟩ := own_shape ho6; subst hv6; have cur := hb6)
      | (with_reducible show if _ then Oper.wp _ _ _ (((w4.alloc (.cells #[] 31)).alloc (.cells #[.int .i64 pa, .int .i64 pj, .int .i64 ps, .int .i64 pp] 31)).drew) _ _ else _; refine step_app_many rfl (.tmp 44) (.tmp 45) rfl w4.heap.size (.slice (some ⟨w4.heap.size, 0, none⟩) 0 0) [] L (some ⟨b, o, none⟩) 0 m d rfl rfl rfl HL.out HH.out.2.2.2.2.1 (HPW.out.below HH.out.2.1) (by omega) (by omega) (by simp; omega) ?_; intro v1 w6 ho6 hg6; simp only [Nat.zero_add, List.nil_append] at ho6; have hb6 := HH.out.2.1.grown hg6 (by simp; omega) (by simp [Value.ownBlock]); obtain ⟨A6, c6, hv6⟩ := own_shape ho6; subst hv6; have y6 := ppl_box1 (HH.out.2.2.2.2.2.2.1.grown hg6 (Nat.succ_ne_self _)); have cur := hb6)
      | (with_reducible show if _ then Oper.wp _ _ _ (((w4.alloc (.cells #[.int .i64 pa, .int .i64 pj, .int .i64 ps, .int .i64 pp] 31)).alloc (.cells #[] 31)).drew) _ _ else _; refine step_app_many rfl (.tmp 44) (.tmp 45) rfl w4.heap.size (.slice (some ⟨w4.heap.size + 1, 0, none⟩) 0 0) [] L (some ⟨b, o, none⟩) 0 m d rfl rfl rfl HL.out HH.out.2.2.2.2.2.1 (HPW.out.below HH.out.2.2.1) (by omega) (by omega) (by simp; omega) ?_; intro v1 w6 ho6 hg6; simp only [Nat.zero_add, List.nil_append] at ho6; have hb6 := HH.out.2.2.1.grown hg6 (by simp; omega) (by simp [Value.ownBlock]); obtain ⟨A6, c6, hv6⟩ := own_shape ho6; subst hv6; have y6 := ppl_box1 (HH.out.2.2.2.2.2.2.2.grown hg6 (Nat.ne_of_lt (Nat.lt_succ_self _))); have cur := hb6)
      | (with_reducible show if _ then Oper.wp _ _ _ (w6) _ _ else _; refine step_app_many (w := w6) rfl (.tmp 46) (.tmp 51) rfl w4.heap.size (.slice A6 m c6) L [⟨pa, pj, ps, pp⟩] _ m 1 1 rfl rfl HL.out rfl ho6 y6 (by omega) (by omega) hb6.size ?_; intro v2 w7 ho7 hg7; have hb7 := hb6.grown hg7 hb6.size (fun k hk => (ho6.lt k hk).1); obtain ⟨A7, c7, hv7⟩ := own_shape ho7; subst hv7; have hS7 := seen_own1 HM.out ho7; have cur := hb7)
      | (with_reducible show if _ then Oper.wp _ _ _ (w6.alloc (.cells #[.int .i64 pa, .int .i64 pj, .int .i64 ps, .int .i64 pp] 31)) _ _ else _; refine step_app_many (w := w6.alloc (.cells #[.int .i64 pa, .int .i64 pj, .int .i64 ps, .int .i64 pp] 31)) rfl (.tmp 46) (.tmp 51) rfl w4.heap.size (.slice A6 m c6) L [⟨pa, pj, ps, pp⟩] _ m 1 1 rfl rfl HL.out rfl (ho6.alloc _) (ppl_box1 (Boxd.new w6 _ _)) (by omega) (by omega) (by have := hb6.size; simp; omega) ?_; intro v2 w7 ho7 hg7; have hb7 := (hb6.alloc hb6.size _).grown hg7 (by have := hb6.size; simp; omega) (fun k hk => (ho6.lt k hk).1); obtain ⟨A7, c7, hv7⟩ := own_shape ho7; subst hv7; have hS7 := seen_own1 HM.out ho7; have cur := hb7)
      | (go_at_call 24; (with_reducible refine (groupSize_any A7 (m + 1) c7 (L ++ [⟨pa, pj, ps, pp⟩]) B mr dr R a j s (i : Int) (by omega) (by omega) _ hS7 HM.out (by omega) (HLg.out _ cur) HR.out (by omega) HW.out).mono ?_); rintro e w8 ⟨rfl, hb8⟩; rw [HV'.out]; have cur := below2 cur hb8; clear hb8))
    all_goals
      go_wp2
      go_meet
      exact ⟨rfl, cur⟩
  case rest =>
    obtain ⟨rfl, cur⟩ := hcut
    clear HH
    go_wp2
    go_ret
    exact ⟨rfl, below2 HB04.out cur⟩

end Go.Proofs.Ytepnfljhoapdmaa
