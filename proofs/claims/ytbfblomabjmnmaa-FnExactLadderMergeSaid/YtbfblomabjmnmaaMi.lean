/- Contract of the program's LadderMerge (and of slices.Clone at []int). -/
import Derived.Test.YtbfblomabjmnmaaMs
import Derived.Test.YtbfblomabjmnmaaLx
import Derived.Deep.DeepCutAuto
namespace Go.Proofs.Ytbfblomabjmnmaa
open Go.RowKit
set_option linter.unusedVariables false

/-- What slices.Clone leaves of a row that is not empty. -/
def ClonePost (s : List Int) (n : Nat) (w : World) (e : Ending) (w' : World) : Prop := ∃ A c, e = .returned (.slice A n c) ∧ w'.ownsRow w.heap.size 3 1 (.slice A n c) n (ints s) ∧ Below w.heap.size w w'

set_option maxHeartbeats 800000 in
theorem cloneI_any (A : Option Addr) (n c : Nat) (s : List Int) (w : World) (hA : Seen w A (ints s)) (hs : s.length = n) (h0 : 0 < n) (hm : n ≤ 1048576) :
    Calls Try.prog 26 #[.slice A n c] w (ClonePost s n w) := by
  obtain ⟨b, o, rfl, hlt, hc⟩ := hA (by rw [ints_length]; omega)
  have hA1 : Seen (w.alloc (.cells #[] 3)) (some ⟨b, o, none⟩) (ints s) := hA.below (below_new w (.cells #[] 3))
  have HA1 := Lib.hid hA1
  have HIL := Lib.hid (show (ints s).length = n by rw [ints_length]; exact hs)
  have hq : ∀ w : World, (binOp .eql 40 (.slice (some ⟨b, o, none⟩) n c) (.slice none 0 0)).run Try.prog w = .ok (.bool false) w := fun w => Lib.run_eql_slice_nil w 40 3 _ _ _ _ _ Try.underlying40
  clear hA hs hc hA1
  go_enter Try.func26, Try.ntmps26
  go_wp2_with (at_builtin; refine app_row (w := w.alloc (.cells #[] 3)) rfl Try.underlying40 iInfo rfl (by decide) (.tmp 5) (.tmp 6) rfl w.heap.size (.slice (some ⟨w.heap.size, 0, none⟩) 0 0) (ints []) (ints s) (some ⟨b, o, none⟩) 0 n c rfl rfl (own_empty_i w) HIL.out HA1.out (fun e => by cases e) (ints_one s) (by omega) (by omega) (by simp) ?_; intro v1 w3 ho3 hg3 hat3)
  go_ret
  simp only [Nat.zero_add] at ho3
  obtain ⟨A3, c3, e3⟩ := own_form ho3
  subst e3
  exact ⟨A3, c3, rfl, ho3, (below_new w (.cells #[] 3)).grown hg3 (by simp) (fun g e => by simp [Value.ownBlock] at e; omega)⟩

theorem mer_post_nil {R : List (List Int)} {a b : Int} {w : World} (h : merOk R a b = false) : MerPost R a b w (.returned (.tuple #[.slice none 0 0, .bool false])) w :=
  ⟨none, 0, 0, [], by rw [h], rfl, by rw [merR_no h]; rfl, ladW_nil w _, Below.refl _ _⟩

theorem merF_max (f : Int → Int) {x y c z : Int} (hz : f c = z) : merF f x y c = if z = max x y then min x y else z := by
  unfold merF
  rw [hz]
  by_cases h : z = x ∨ z = y
  · rw [if_pos h]
    split <;> omega
  · rw [if_neg h, if_neg (by omega)]

theorem FillI.spoil {w : World} {g n k : Nat} {s : List Int} (h : FillI w g n s k) (v : Value) : FillI (w.setCell ⟨g, k, none⟩ v) g n s k := by
  obtain ⟨cs, h, hs, hc⟩ := h
  exact ⟨_, heap_setCell_same w g k cs _ _ h, by simpa using hs, fun j y hj hjk => by rw [Array.getElem?_setIfInBounds_ne (by omega)]; exact hc j y hj hjk⟩

set_option maxRecDepth 100000 in
set_option maxHeartbeats 6400000 in
theorem ladderMerge_any (A : Option Addr) (n c : Nat) (R : List Rw) (a b : Int) (w : World) (hA : LadS w A R) (hn : R.length = n) (hm : n ≤ 1099511627776) (hr : ∀ r ∈ R, r.s.length ≤ 1099511627776) :
    Calls Try.prog 10 #[.slice A n c, .int .i64 a, .int .i64 b] w (MerPost (ss R) a b w) := by
  cases hl : ladB (ss R)
  · have e : merOk (ss R) a b = false := by unfold merOk; rw [hl]; rfl
    have HE := Lib.hid e
    clear e
    go_enter Try.func10, Try.ntmps10
    go_wp2_with (go_at_call 15; refine (ladderValid_any _ _ _ R _ hA hn hm hr).mono ?_; rintro e w' ⟨rfl, rfl⟩; rw [hl])
    go_ret2
    exact mer_post_nil HE.out
  · have hn3 : n ≤ 3 := by have := (ladB_iff.1 hl).1; rw [ss_length, hn] at this; exact this
    by_cases h3 : n = 3
    · have e : merOk (ss R) a b = false := by
        cases e : merOk (ss R) a b with
        | false => rfl
        | true => have := (merOk_iff.1 e).2.1; rw [ss_length, hn] at this; omega
      have HE := Lib.hid e
      have h3' : ((n : Int) == 3) = true := by simp; omega
      clear e h3
      go_enter Try.func10, Try.ntmps10
      go_wp2_with (go_at_call 15; refine (ladderValid_any _ _ _ R _ hA hn hm hr).mono ?_; rintro e w' ⟨rfl, rfl⟩; rw [hl])
      go_ret2
      exact mer_post_nil HE.out
    · have h3' : ((n : Int) == 3) = false := by simp; omega
      cases ha : codeB a
      · have e : merOk (ss R) a b = false := by
          cases e : merOk (ss R) a b with
          | false => rfl
          | true => rw [codeB_iff.2 (merOk_iff.1 e).2.2.1] at ha; cases ha
        have HE := Lib.hid e
        clear e h3
        go_enter Try.func10, Try.ntmps10
        go_wp2_with (first
          | (go_at_call 15; refine (ladderValid_any _ _ _ R _ hA hn hm hr).mono ?_; rintro e w' ⟨rfl, rfl⟩; rw [hl])
          | (go_at_call 24; refine (isCode_any _ _).mono ?_; rintro e w' ⟨rfl, rfl⟩; rw [ha]))
        go_ret2
        exact mer_post_nil HE.out
      · cases hb2 : codeB b
        · have e : merOk (ss R) a b = false := by
            cases e : merOk (ss R) a b with
            | false => rfl
            | true => rw [codeB_iff.2 (merOk_iff.1 e).2.2.2.1] at hb2; cases hb2
          have HE := Lib.hid e
          clear e h3
          go_enter Try.func10, Try.ntmps10
          go_wp2_with fail
          refine (ladderValid_any _ _ _ R _ hA hn hm hr).mono ?_
          rintro e w' ⟨rfl, rfl⟩
          rw [hl]
          go_wp2_with fail
          refine (isCode_any _ _).mono ?_
          rintro e w' ⟨rfl, rfl⟩
          rw [ha]
          go_wp2_with fail
          refine (isCode_any _ _).mono ?_
          rintro e w' ⟨rfl, rfl⟩
          rw [hb2]
          go_wp2
          go_ret2
          exact mer_post_nil HE.out
        · obtain ⟨a0, a3⟩ := codeB_iff.1 ha
          obtain ⟨b0, b3⟩ := codeB_iff.1 hb2
          have et : ∀ x, topF (ss R) x = lcode (ss R) (n : Int) x := fun x => by unfold topF; rw [ss_length, hn]
          have ET := Lib.hid et
          have HA := Lib.hid hA
          have HN := Lib.hid hn
          have HW := Lib.hid hr
          have HL := Lib.hid hl
          clear et hA hn hr hl
          go_enter Try.func10, Try.ntmps10
          go_wp2_with fail
          refine (ladderValid_any _ _ _ R _ HA.out HN.out hm HW.out).mono ?_
          rintro e w' ⟨rfl, rfl⟩
          rw [HL.out]
          go_wp2_with fail
          refine (isCode_any _ _).mono ?_
          rintro e w' ⟨rfl, rfl⟩
          rw [ha]
          go_wp2_with fail
          refine (isCode_any _ _).mono ?_
          rintro e w' ⟨rfl, rfl⟩
          rw [hb2]
          go_wp2_with fail
          refine (ladderCode_any _ _ _ R _ _ _ HA.out HN.out HL.out (by omega) (by omega) a0 a3).mono ?_
          rintro e w' ⟨rfl, rfl⟩
          rw [← ET.out]
          go_wp2_with fail
          refine (ladderCode_any _ _ _ R _ _ _ HA.out HN.out HL.out (by omega) (by omega) b0 b3).mono ?_
          rintro e w' ⟨rfl, rfl⟩
          rw [← ET.out]
          obtain ⟨x, hx⟩ : ∃ x, topF (ss R) a = x := ⟨_, rfl⟩
          obtain ⟨y, hy⟩ : ∃ y, topF (ss R) b = y := ⟨_, rfl⟩
          rw [hx, hy]
          have HX := Lib.hid hx
          have HY := Lib.hid hy
          clear hx hy
          cases hxy : (x == y)
          · have hne : x ≠ y := by simpa using hxy
            have hok : merOk (ss R) a b = true := merOk_iff.2 ⟨HL.out, by rw [ss_length, HN.out]; omega, ⟨a0, a3⟩, ⟨b0, b3⟩, by rw [HX.out, HY.out]; exact hne⟩
            have HOK := Lib.hid hok
            have hS4 : rowBy (merF (topF (ss R)) x y) = merS (ss R) a b := by unfold merS; rw [HX.out, HY.out]
            have HS4 := Lib.hid hS4
            clear hok h3 hS4
            have fin2 : ∀ (v : Value) (A' : Option Addr) (c' : Nat) (S : List Rw) (wo wr w4 : World), S.length = n → ss S = ss R → wo.ownsRow w.heap.size 40 1 (.slice A' n c') n (vals S) → RowsO wo w.heap.size S → Below w.heap.size w wo → Below wo.heap.size wo wr → FillI wr wo.heap.size 4 (rowBy (merF (topF (ss R)) x y)) 4 →
                w4.ownsRow w.heap.size 40 1 v (n + 1) (vals S ++ [.slice (some ⟨wo.heap.size, 0, none⟩) 4 4]) → (wr.alloc (.cells #[.slice (some ⟨wo.heap.size, 0, none⟩) 4 4] 40)).grownBy w4 (Value.slice A' n c').ownBlock → MerPost (ss R) a b w (.returned (.tuple #[v, .bool true])) w4 := by
              intro v A' c' S wo wr w4 hSl hSs ho hro hb hbr hf ho4 hg4
              obtain ⟨A4, c4, e4⟩ := own_form ho4
              subst e4
              have hz := hb.size
              have hzr := hbr.size
              rw [HS4.out] at hf
              have hst0 := hf.own (B := w.heap.size) rfl (by omega) hz
              have hb3 : Below wo.heap.size wo (wr.alloc (.cells #[.slice (some ⟨wo.heap.size, 0, none⟩) 4 4] 40)) := hbr.trans ((below_new _ _).mono hbr.size)
              have ho3 := own_below ho hb3
              have hro3 := hro.below hb3
              have hst3 : (wr.alloc (.cells #[.slice (some ⟨wo.heap.size, 0, none⟩) 4 4] 40)).ownsRow w.heap.size 3 1 (.slice (some ⟨wo.heap.size, 0, none⟩) 4 4) 4 (ints (merS (ss R) a b)) := hst0.alloc _
              have hall := hro3.snoc (r := ⟨some ⟨wo.heap.size, 0, none⟩, 4, merS (ss R) a b⟩) hst3 (fun g e q hq => by
                simp only [Rw.val, Value.ownBlock] at e
                injection e with e
                cases e2 : q.val.ownBlock with
                | none => exact .inl rfl
                | some g2 =>
                  have a1 := ((hro.1 q hq).lt g2 e2).2
                  exact .inr fun e3 => by injection e3 with e3; omega) (by simp [Rw.val, Value.ownBlock])
              have hb4 : Below w.heap.size w w4 := (hb.trans (hb3.mono hb.size)).grown hg4 (by simp; omega) (fun g e => (ho.lt g e).1)
              refine ⟨A4, n + 1, c4, S ++ [⟨some ⟨wo.heap.size, 0, none⟩, 4, merS (ss R) a b⟩], by rw [HOK.out], by simp [hSl], by rw [merR_yes HOK.out, ss_append, hSs]; rfl, ⟨?_, hall.outer ho3 hg4⟩, hb4⟩
              have : (S ++ [(⟨some ⟨wo.heap.size, 0, none⟩, 4, merS (ss R) a b⟩ : Rw)]).length = n + 1 := by simp [hSl]
              rw [this, vals_append]
              exact ho4
            have FIN2 := Lib.hid fin2
            clear fin2
            have hmk : ∀ w : World, (Instr.makeSlice 40 (.int .i64 4) (.int .i64 4)).run Try.prog w = .ok (.slice (some ⟨w.heap.size, 0, none⟩) 4 4) (w.alloc (.cells (madeCells #[.int .i64 0] (4 * 1)) 3)) := fun w => make_ints 4 (by omega) w
            have HMK := Lib.hid hmk
            clear hmk
            go_wp2_with fail
            go_loopw [9, 48] (fun v i wr => CopyRel R n w v i wr) (fun _ i _ => n - (intOf i).toNat)
            case atStart => exact ⟨0, none, 0, [], by omega, rfl, rfl, rfl, rfl, World.ownsRow_nil _ _ _ _, ⟨by simp, by simp⟩, Below.refl _ _⟩
            case round =>
              obtain ⟨j, A', c', S, hj, rfl, rfl, hSl, hSs, ho, hro, hb2'⟩ := hrel
              have hzr' := hb2'.size
              by_cases hjn : j < n
              · obtain ⟨bl, ol, hAe, hltA, hcA⟩ := HA.out.1 (by rw [vals_length, HN.out]; omega)
                subst hAe
                have HCA := Lib.hid hcA
                clear hcA
                obtain ⟨⟨Ar, cr, s⟩, hxr⟩ : ∃ r, R[j]? = some r := ⟨_, List.getElem?_eq_getElem (by rw [HN.out]; exact hjn)⟩
                have g0 := (hb2'.cell (p := ⟨bl, ol + j, none⟩) hltA).trans (lad_row HCA.out hxr)
                have hs := (HA.out.2 _ (List.mem_of_getElem? hxr)).below hb2'
                have hst := (stepB_iff.1 (okRow_iff.1 ((ladB_iff.1 HL.out).2 j (by rw [ss_length, HN.out]; exact hjn))).1).1
                rw [rowOf_get (ss_at hxr)] at hst
                simp only at g0 hs hst
                rw [hst] at g0
                have hss' := ss_at hxr
                have HS := Lib.hid hs
                have HST := Lib.hid hst
                have HSS := Lib.hid hss'
                clear hxr hs hst hss'
                go_wp2_with fail
                refine (cloneI_any Ar 4 cr s wr HS.out HST.out (by omega) (by omega)).mono ?_
                rintro e w3 ⟨A3, c3, rfl, ho3, hb3⟩
                have hz3 := hb3.size
                go_wp2_with (at_builtin; refine app_row (w := w3.alloc (.cells #[.slice A3 4 c3] 40)) rfl Try.underlying23 siInfo rfl (by decide) (.tmp 52) (.tmp 55) rfl w.heap.size (.slice A' j c') (vals S) [.slice A3 4 c3] (some ⟨w3.heap.size, 0, none⟩) j 1 1 rfl rfl ((own_below ho hb3).alloc _) rfl (seen_new w3 _ _) (fun e => by cases e) (by intro u hu; simp at hu; subst hu; rfl) (by omega) (by omega) (by simp; omega) ?_; intro v2 w4 ho4 hg4 hat4)
                have RR : CopyRel R n w v2 (.int .i64 ((j : Int) + 1)) w4 := by
                  obtain ⟨A4, c4, e4⟩ := own_form ho4
                  have hb34 : Below wr.heap.size wr (w3.alloc (.cells #[.slice A3 4 c3] 40)) := hb3.trans ((below_new _ _).mono hb3.size)
                  have hr1 : (w3.alloc (.cells #[.slice A3 4 c3] 40)).ownsRow wr.heap.size 3 1 (Rw.val ⟨A3, c3, s⟩) s.length (ints s) := by
                    unfold Rw.val
                    simp only [HST.out]
                    exact ho3.alloc _
                  refine ⟨j + 1, A4, c4, S ++ [⟨A3, c3, s⟩], by omega, by go_num, e4, ?_, ?_, ?_, ?_, ?_⟩
                  · unfold Hid; rw [List.length_append, hSl.out]; rfl
                  · unfold Hid; rw [ss_append, hSs.out, List.take_add_one, HSS.out]; rfl
                  · rw [vals_append]
                    have : vals [(⟨A3, c3, s⟩ : Rw)] = [.slice A3 4 c3] := by simp [vals, Rw.val, HST.out]
                    rw [this]
                    exact ho4
                  · exact rows_more hro hb34 hr1 (by show 0 < s.length; rw [HST.out]; omega) hzr' ((own_below ho hb3).alloc _) hg4
                  · exact (hb2'.trans (hb34.mono hb2'.size)).grown hg4 (by simp; omega) (fun g e => (ho.lt g e).1)
                go_roundw
                case rel => first | exact RR | ((repeat apply Exists.intro); first | exact ⟨RR, rfl⟩ | exact ⟨RR, rfl, rfl⟩ | exact ⟨RR, rfl, rfl, rfl⟩)
                case measure => simp [intOf]; omega
              · obtain rfl : j = n := by omega
                obtain ⟨wc, rfl⟩ : ∃ wo : World, wo = wr := ⟨_, rfl⟩
                have hb := hb2'
                have hSs' : ss S = ss R := by
                  have := hSs.out
                  rwa [List.take_of_length_le (by rw [ss_length, HN.out]; omega)] at this
                have HSS := Lib.hid hSs'
                clear hSs'
                have HAo := Lib.hid (HA.out.below hb)
                have hmk := HMK.out
                have hz := hb.size
                go_wp2_with fail
                refine (ladderCode_any _ _ _ R _ _ _ HAo.out HN.out HL.out (by omega) (by omega) a0 a3).mono ?_
                rintro e w' ⟨rfl, rfl⟩
                rw [← ET.out, HX.out]
                go_wp2_with fail
                refine (ladderCode_any _ _ _ R _ _ _ HAo.out HN.out HL.out (by omega) (by omega) b0 b3).mono ?_
                rintro e w' ⟨rfl, rfl⟩
                rw [← ET.out, HY.out]
                go_wp2_with fail
                clear hmk
                go_loopw [69] (fun i wr => ∃ k : Nat, k ≤ 4 ∧ i = .int .i64 k ∧ FillI wr wc.heap.size 4 (rowBy (merF (topF (ss R)) x y)) k ∧ Below wc.heap.size wc wr) (fun i _ => 4 - (intOf i).toNat)
                case atStart => exact ⟨0, by omega, rfl, fillI_new _ _ _ _ (by simp [madeCells]), below_new _ _⟩
                case round =>
                  obtain ⟨k, hk, rfl, hf, hbr⟩ := hrel
                  have hzr := hbr.size
                  by_cases hk4 : k < 4
                  · have HAr := Lib.hid (HAo.out.below hbr)
                    obtain ⟨⟨v0, c0⟩, f0⟩ := hf.spot hk4
                    obtain ⟨z, hz'⟩ : ∃ z, topF (ss R) (k : Int) = z := ⟨_, rfl⟩
                    have hmf := merF_max (topF (ss R)) (x := x) (y := y) hz'
                    have hsk : (rowBy (merF (topF (ss R)) x y))[k]? = some (merF (topF (ss R)) x y (k : Int)) := by
                      rcases (show k = 0 ∨ k = 1 ∨ k = 2 ∨ k = 3 by omega) with rfl | rfl | rfl | rfl <;> rfl
                    rw [hmf] at hsk
                    have HZ := Lib.hid hz'
                    have HSK := Lib.hid hsk
                    clear hz' hmf hsk
                    have fin : ∀ (u : Int) (w2 : World), (if z = max x y then min x y else z) = u → w2 = wr.setCell ⟨wc.heap.size, k, none⟩ (.int .i64 u) → FillI w2 wc.heap.size 4 (rowBy (merF (topF (ss R)) x y)) (k + 1) ∧ Below wc.heap.size wc w2 := by
                      intro u w2 hu hw2
                      subst hw2
                      exact ⟨hf.put hk4 (by rw [HSK.out, hu]), hbr.setCell (Nat.le_refl _) _⟩
                    have fin' : ∀ (u : Int), (if z = max x y then min x y else z) = u → FillI ((wr.setCell ⟨wc.heap.size, k, none⟩ (.int .i64 z)).setCell ⟨wc.heap.size, k, none⟩ (.int .i64 u)) wc.heap.size 4 (rowBy (merF (topF (ss R)) x y)) (k + 1) ∧ Below wc.heap.size wc ((wr.setCell ⟨wc.heap.size, k, none⟩ (.int .i64 z)).setCell ⟨wc.heap.size, k, none⟩ (.int .i64 u)) := fun u hu =>
                      ⟨(hf.spoil (.int .i64 z)).put hk4 (by rw [HSK.out, hu]), (hbr.setCell (Nat.le_refl _) _).setCell (Nat.le_refl _) _⟩
                    have FIN' := Lib.hid fin'
                    have FIN := Lib.hid fin
                    clear fin fin'
                    go_wp2_with fail
                    refine (ladderCode_any _ _ _ R _ _ _ HAr.out HN.out HL.out (by omega) (by omega) (by omega) (by omega)).mono ?_
                    rintro e w' ⟨rfl, rfl⟩
                    rw [← ET.out, HZ.out]
                    rcases Int.lt_or_gt_of_ne hne with hlt | hlt
                    · cases hzm : (z == y)
                      · have hu : (if z = max x y then min x y else z) = z := if_neg (by simp at hzm; omega)
                        have HU := Lib.hid (FIN.out z _ hu rfl)
                        clear hu
                        go_wp2
                        go_roundw
                        case rel => exact ⟨k + 1, by omega, by go_num, HU.out.1, HU.out.2⟩
                        case measure => simp [intOf]; omega
                      · have hu : (if z = max x y then min x y else z) = x := by rw [if_pos (by simp at hzm; omega)]; omega
                        have HU := Lib.hid (FIN'.out x hu)
                        clear hu
                        go_wp2
                        go_roundw
                        case rel => exact ⟨k + 1, by omega, by go_num, HU.out.1, HU.out.2⟩
                        case measure => simp [intOf]; omega
                    · cases hzm : (z == x)
                      · have hu : (if z = max x y then min x y else z) = z := if_neg (by simp at hzm; omega)
                        have HU := Lib.hid (FIN.out z _ hu rfl)
                        clear hu
                        go_wp2
                        go_roundw
                        case rel => exact ⟨k + 1, by omega, by go_num, HU.out.1, HU.out.2⟩
                        case measure => simp [intOf]; omega
                      · have hu : (if z = max x y then min x y else z) = y := by rw [if_pos (by simp at hzm; omega)]; omega
                        have HU := Lib.hid (FIN'.out y hu)
                        clear hu
                        go_wp2
                        go_roundw
                        case rel => exact ⟨k + 1, by omega, by go_num, HU.out.1, HU.out.2⟩
                        case measure => simp [intOf]; omega
                  · obtain rfl : k = 4 := by omega
                    go_wp2_with (at_builtin; refine app_row (w := wr.alloc (.cells #[.slice (some ⟨wc.heap.size, 0, none⟩) 4 4] 40)) rfl Try.underlying23 siInfo rfl (by decide) (.tmp 94) (.tmp 96) rfl w.heap.size (.slice A' j c') (vals S) [.slice (some ⟨wc.heap.size, 0, none⟩) 4 4] (some ⟨wr.heap.size, 0, none⟩) j 1 1 rfl rfl ((own_below ho hbr).alloc _) rfl (seen_new wr _ _) (fun e => by cases e) (by intro u hu; simp at hu; subst hu; rfl) (by omega) (by omega) (by simp; omega) ?_; intro v' w2 ho2 hg2 hat)
                    go_ret2
                    exact FIN2.out v' A' c' S wc wr w2 hSl.out HSS.out ho hro hb hbr hf ho2 hg2
          · have e : merOk (ss R) a b = false := by
              cases e : merOk (ss R) a b with
              | false => rfl
              | true =>
                have := (merOk_iff.1 e).2.2.2.2
                rw [HX.out, HY.out] at this
                simp at hxy
                exact absurd hxy this
            have HE := Lib.hid e
            clear e
            go_wp2
            go_ret2
            exact mer_post_nil HE.out

end Go.Proofs.Ytbfblomabjmnmaa
