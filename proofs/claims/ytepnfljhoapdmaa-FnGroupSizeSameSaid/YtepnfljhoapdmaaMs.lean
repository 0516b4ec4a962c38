/- Contract of the reference's LadderMerge. -/
import Derived.Test.YtepnfljhoapdmaaMo
import Derived.Test.YtepnfljhoapdmaaLy
namespace Go.Proofs.Ytepnfljhoapdmaa
open Go.RowKit
set_option linter.unusedVariables false

/-- What LadderMerge leaves. -/
def MerPost (R : List (List Int)) (a b : Int) (w : World) (e : Ending) (w' : World) : Prop :=
  ∃ A n c S, e = .returned (.tuple #[.slice A n c, .bool (merOk R a b)]) ∧ S.length = n ∧ ss S = merR R a b ∧ LadW w' w.heap.size A c S ∧ Below w.heap.size w w'

theorem mer_post_no {R : List (List Int)} {a b : Int} {w w1 : World} (h : merOk R a b = false) (hb : Below w.heap.size w w1) : MerPost R a b w (.returned (.tuple #[.slice (some ⟨w1.heap.size, 0, none⟩) 0 0, .bool false])) (w1.alloc (.cells #[] 57)) :=
  ⟨_, 0, 0, [], by rw [h], rfl, by rw [merR_no h]; rfl, ladW_empty w1 hb.size, hb.trans ((below_new _ _).mono hb.size)⟩

/-- The new step so far. -/
def StepRel (F : Int → Int) (w0 : World) (v i : Value) (wr : World) : Prop :=
  ∃ (k : Nat) (A : Option Addr) (c : Nat), k ≤ 4 ∧ i = .int .i64 k ∧ v = .slice A k c ∧ wr.ownsRow w0.heap.size 3 1 v k (ints ((rowBy F).take k)) ∧ Below w0.heap.size w0 wr
theorem rowBy_take (F : Int → Int) {k : Nat} (hk : k < 4) : (rowBy F).take (k + 1) = (rowBy F).take k ++ [F k] := by
  rcases (show k = 0 ∨ k = 1 ∨ k = 2 ∨ k = 3 by omega) with rfl | rfl | rfl | rfl <;> rfl

set_option maxRecDepth 100000 in
set_option maxHeartbeats 6400000 in
theorem sLadderMerge_any (A : Option Addr) (n c : Nat) (R : List Rw) (a b : Int) (w : World) (hA : LadS w A R) (hn : R.length = n) (hm : n ≤ 1099511627776) (hr : ∀ r ∈ R, r.s.length ≤ 1099511627776) :
    Calls Try.prog 54 #[.slice A n c, .int .i64 a, .int .i64 b] w (MerPost (ss R) a b w) := by
  cases hl : ladB (ss R)
  · have e : merOk (ss R) a b = false := by unfold merOk; rw [hl]; rfl
    have HE := Lib.hid e
    clear e
    go_enter Try.func54, Try.ntmps54
    go_wp2_with (go_at_call 59; refine (sLadderValid_any _ _ _ R _ hA hn hm hr).mono ?_; rintro e w1 ⟨rfl, hb⟩; rw [hl])
    go_ret2
    exact mer_post_no HE.out hb
  · have hn3 : n ≤ 3 := by have := (ladB_iff.1 hl).1; rw [ss_length, hn] at this; exact this
    by_cases h3 : n = 3
    · have e : merOk (ss R) a b = false := by
        cases e : merOk (ss R) a b with
        | false => rfl
        | true => have := (merOk_iff.1 e).2.1; rw [ss_length, hn] at this; omega
      have HE := Lib.hid e
      have h3' : ((n : Int) == 3) = true := by simp; omega
      clear e h3
      go_enter Try.func54, Try.ntmps54
      go_wp2_with (go_at_call 59; refine (sLadderValid_any _ _ _ R _ hA hn hm hr).mono ?_; rintro e w1 ⟨rfl, hb⟩; rw [hl])
      go_ret2
      exact mer_post_no HE.out hb
    · have h3' : ((n : Int) == 3) = false := by simp; omega
      cases ha : inB a 0 3
      · have e : merOk (ss R) a b = false := by
          cases e : merOk (ss R) a b with
          | false => rfl
          | true => rw [inB_iff.2 (merOk_iff.1 e).2.2.1] at ha; cases ha
        have HE := Lib.hid e
        clear e h3
        go_enter Try.func54, Try.ntmps54
        go_wp2_with (first
          | (go_at_call 59; refine (sLadderValid_any _ _ _ R _ hA hn hm hr).mono ?_; rintro e w1 ⟨rfl, hb⟩; rw [hl])
          | (go_at_call 37; refine (l6In_any _ _ _ _).mono ?_; rintro e w' ⟨rfl, rfl⟩; rw [ha]))
        go_ret2
        exact mer_post_no HE.out hb
      · cases hb2 : inB b 0 3
        · have e : merOk (ss R) a b = false := by
            cases e : merOk (ss R) a b with
            | false => rfl
            | true => rw [inB_iff.2 (merOk_iff.1 e).2.2.2.1] at hb2; cases hb2
          have HE := Lib.hid e
          clear e h3
          go_enter Try.func54, Try.ntmps54
          go_wp2_with fail
          refine (sLadderValid_any _ _ _ R _ hA hn hm hr).mono ?_
          rintro e w1 ⟨rfl, hb⟩
          rw [hl]
          go_wp2_with fail
          refine (l6In_any _ _ _ _).mono ?_
          rintro e w' ⟨rfl, rfl⟩
          rw [ha]
          go_wp2_with fail
          refine (l6In_any _ _ _ _).mono ?_
          rintro e w' ⟨rfl, rfl⟩
          rw [hb2]
          go_wp2
          go_ret2
          exact mer_post_no HE.out hb
        · obtain ⟨a0, a3⟩ := inB_iff.1 ha
          obtain ⟨b0, b3⟩ := inB_iff.1 hb2
          have et : ∀ x, topF (ss R) x = lcode (ss R) (n : Int) x := fun x => by unfold topF; rw [ss_length, hn]
          have ET := Lib.hid et
          have HA := Lib.hid hA
          have HN := Lib.hid hn
          have HW := Lib.hid hr
          have HL := Lib.hid hl
          clear et hA hn hr hl
          go_enter Try.func54, Try.ntmps54
          go_wp2_with fail
          refine (sLadderValid_any _ _ _ R _ HA.out HN.out hm HW.out).mono ?_
          rintro e w1 ⟨rfl, hb⟩
          rw [HL.out]
          go_wp2_with fail
          refine (l6In_any _ _ _ _).mono ?_
          rintro e w' ⟨rfl, rfl⟩
          rw [ha]
          go_wp2_with fail
          refine (l6In_any _ _ _ _).mono ?_
          rintro e w' ⟨rfl, rfl⟩
          rw [hb2]
          have HA1 := Lib.hid (HA.out.below hb)
          go_wp2_with fail
          refine (l2Code_any _ _ _ R _ _ _ HA1.out HN.out HL.out (by omega) (by omega) a0 a3).mono ?_
          rintro e w' ⟨rfl, rfl⟩
          rw [← ET.out]
          go_wp2_with fail
          refine (l2Code_any _ _ _ R _ _ _ HA1.out HN.out HL.out (by omega) (by omega) b0 b3).mono ?_
          rintro e w' ⟨rfl, rfl⟩
          rw [← ET.out]
          obtain ⟨x, hx⟩ : ∃ x, topF (ss R) a = x := ⟨_, rfl⟩
          obtain ⟨y, hy⟩ : ∃ y, topF (ss R) b = y := ⟨_, rfl⟩
          rw [hx, hy]
          have HX := Lib.hid hx
          have HY := Lib.hid hy
          clear hx hy
          cases hxy : (x == y)
          · have hok : merOk (ss R) a b = true := merOk_iff.2 ⟨HL.out, by rw [ss_length, HN.out]; omega, ⟨a0, a3⟩, ⟨b0, b3⟩, by rw [HX.out, HY.out]; simpa using hxy⟩
            have HOK := Lib.hid hok
            clear hok h3
            have hz1 := hb.size
            go_wp2_with fail
            go_loopw [10, 11] (fun v i wr => StepRel (merF (topF (ss R)) x y) w1 v i wr) (fun _ i _ => 4 - (intOf i).toNat)
            case atStart => exact ⟨0, _, _, by omega, rfl, rfl, own_empty_i w1, below_new _ _⟩
            case round =>
              obtain ⟨k, Ak, ck, hk, rfl, rfl, hown, hbr⟩ := hrel
              have hzr := hbr.size
              by_cases hk4 : k < 4
              · have HAr := Lib.hid (HA1.out.below hbr)
                obtain ⟨z, hz⟩ : ∃ z, topF (ss R) (k : Int) = z := ⟨_, rfl⟩
                have HZ := Lib.hid hz
                clear hz
                go_wp2_with fail
                refine (l2Code_any _ _ _ R _ _ _ HAr.out HN.out HL.out (by omega) (by omega) (by omega) (by omega)).mono ?_
                rintro e w' ⟨rfl, rfl⟩
                rw [← ET.out, HZ.out]
                have fin : ∀ (u : Int) (v' : Value) (w2 : World), merF (topF (ss R)) x y (k : Int) = u → w2.ownsRow w1.heap.size 3 1 v' (k + 1) (ints ((rowBy (merF (topF (ss R)) x y)).take k) ++ [.int .i64 u]) →
                    (wr.alloc (.cells #[.int .i64 u] 3)).grownBy w2 (Value.slice Ak k ck).ownBlock → StepRel (merF (topF (ss R)) x y) w1 v' (.int .i64 ((k : Int) + 1)) w2 := by
                  intro u v' w2 hu ho hg
                  obtain ⟨A2, c2, e2⟩ := own_form ho
                  refine ⟨k + 1, A2, c2, by omega, by go_num, e2, ?_, ?_⟩
                  · rw [rowBy_take _ hk4, ints_append, hu]; exact ho
                  · exact (hbr.trans ((below_new wr _).mono hbr.size)).grown hg (by simp; omega) (fun g e => (hown.lt g e).1)
                have FIN := Lib.hid fin
                clear fin
                cases hzx : (z == x)
                · cases hzy : (z == y)
                  · have hu : merF (topF (ss R)) x y (k : Int) = z := by
                      unfold merF; rw [HZ.out, if_neg]
                      simp at hzx hzy
                      omega
                    have HU := Lib.hid hu
                    clear hu
                    go_wp2_with (at_builtin; refine app_row (w := wr.alloc (.cells #[.int .i64 z] 3)) rfl Try.underlying57 iInfo rfl (by decide) (.tmp 69) (.tmp 71) rfl w1.heap.size (.slice Ak k ck) (ints ((rowBy (merF (topF (ss R)) x y)).take k)) [.int .i64 z] (some ⟨wr.heap.size, 0, none⟩) k 1 1 rfl rfl (hown.alloc _) rfl (seen_new wr _ _) (fun e => by cases e) (ints_one [z]) (by omega) (by omega) (by simp; omega) ?_; intro v' w2 ho hg hat)
                    have RR := FIN.out z v' w2 HU.out ho hg
                    go_roundw
                    case rel => first | exact RR | ((repeat apply Exists.intro); first | exact ⟨RR, rfl⟩ | exact ⟨RR, rfl, rfl⟩ | exact ⟨RR, rfl, rfl, rfl⟩)
                    case measure => simp [intOf]; omega
                  · by_cases hlt : y < x
                    · have hu : merF (topF (ss R)) x y (k : Int) = y := by
                        unfold merF; rw [HZ.out, if_pos]
                        · omega
                        · simp at hzy
                          omega
                      have HU := Lib.hid hu
                      clear hu
                      go_wp2_with (at_builtin; refine app_row (w := wr.alloc (.cells #[.int .i64 y] 3)) rfl Try.underlying57 iInfo rfl (by decide) (.tmp 69) (.tmp 71) rfl w1.heap.size (.slice Ak k ck) (ints ((rowBy (merF (topF (ss R)) x y)).take k)) [.int .i64 y] (some ⟨wr.heap.size, 0, none⟩) k 1 1 rfl rfl (hown.alloc _) rfl (seen_new wr _ _) (fun e => by cases e) (ints_one [y]) (by omega) (by omega) (by simp; omega) ?_; intro v' w2 ho hg hat)
                      have RR := FIN.out y v' w2 HU.out ho hg
                      go_roundw
                      case rel => first | exact RR | ((repeat apply Exists.intro); first | exact ⟨RR, rfl⟩ | exact ⟨RR, rfl, rfl⟩ | exact ⟨RR, rfl, rfl, rfl⟩)
                      case measure => simp [intOf]; omega
                    · have hu : merF (topF (ss R)) x y (k : Int) = x := by
                        unfold merF; rw [HZ.out, if_pos]
                        · omega
                        · simp at hzy
                          omega
                      have HU := Lib.hid hu
                      clear hu
                      go_wp2_with (at_builtin; refine app_row (w := wr.alloc (.cells #[.int .i64 x] 3)) rfl Try.underlying57 iInfo rfl (by decide) (.tmp 69) (.tmp 71) rfl w1.heap.size (.slice Ak k ck) (ints ((rowBy (merF (topF (ss R)) x y)).take k)) [.int .i64 x] (some ⟨wr.heap.size, 0, none⟩) k 1 1 rfl rfl (hown.alloc _) rfl (seen_new wr _ _) (fun e => by cases e) (ints_one [x]) (by omega) (by omega) (by simp; omega) ?_; intro v' w2 ho hg hat)
                      have RR := FIN.out x v' w2 HU.out ho hg
                      go_roundw
                      case rel => first | exact RR | ((repeat apply Exists.intro); first | exact ⟨RR, rfl⟩ | exact ⟨RR, rfl, rfl⟩ | exact ⟨RR, rfl, rfl, rfl⟩)
                      case measure => simp [intOf]; omega
                · by_cases hlt : y < x
                  · have hu : merF (topF (ss R)) x y (k : Int) = y := by
                      unfold merF; rw [HZ.out, if_pos]
                      · omega
                      · simp at hzx
                        omega
                    have HU := Lib.hid hu
                    clear hu
                    go_wp2_with (at_builtin; refine app_row (w := wr.alloc (.cells #[.int .i64 y] 3)) rfl Try.underlying57 iInfo rfl (by decide) (.tmp 69) (.tmp 71) rfl w1.heap.size (.slice Ak k ck) (ints ((rowBy (merF (topF (ss R)) x y)).take k)) [.int .i64 y] (some ⟨wr.heap.size, 0, none⟩) k 1 1 rfl rfl (hown.alloc _) rfl (seen_new wr _ _) (fun e => by cases e) (ints_one [y]) (by omega) (by omega) (by simp; omega) ?_; intro v' w2 ho hg hat)
                    have RR := FIN.out y v' w2 HU.out ho hg
                    go_roundw
                    case rel => first | exact RR | ((repeat apply Exists.intro); first | exact ⟨RR, rfl⟩ | exact ⟨RR, rfl, rfl⟩ | exact ⟨RR, rfl, rfl, rfl⟩)
                    case measure => simp [intOf]; omega
                  · have hu : merF (topF (ss R)) x y (k : Int) = x := by
                      unfold merF; rw [HZ.out, if_pos]
                      · omega
                      · simp at hzx
                        omega
                    have HU := Lib.hid hu
                    clear hu
                    go_wp2_with (at_builtin; refine app_row (w := wr.alloc (.cells #[.int .i64 x] 3)) rfl Try.underlying57 iInfo rfl (by decide) (.tmp 69) (.tmp 71) rfl w1.heap.size (.slice Ak k ck) (ints ((rowBy (merF (topF (ss R)) x y)).take k)) [.int .i64 x] (some ⟨wr.heap.size, 0, none⟩) k 1 1 rfl rfl (hown.alloc _) rfl (seen_new wr _ _) (fun e => by cases e) (ints_one [x]) (by omega) (by omega) (by simp; omega) ?_; intro v' w2 ho hg hat)
                    have RR := FIN.out x v' w2 HU.out ho hg
                    go_roundw
                    case rel => first | exact RR | ((repeat apply Exists.intro); first | exact ⟨RR, rfl⟩ | exact ⟨RR, rfl, rfl⟩ | exact ⟨RR, rfl, rfl, rfl⟩)
                    case measure => simp [intOf]; omega
              · obtain rfl : k = 4 := by omega
                obtain ⟨wo, rfl⟩ : ∃ wo : World, wo = wr := ⟨_, rfl⟩
                have hS4 : rowBy (merF (topF (ss R)) x y) = merS (ss R) a b := by unfold merS; rw [HX.out, HY.out]
                have e4 : (rowBy (merF (topF (ss R)) x y)).take 4 = merS (ss R) a b := by rw [← hS4]; rfl
                rw [e4] at hown
                have hl4 : (merS (ss R) a b).length = 4 := rfl
                have HL4 := Lib.hid hl4
                have HOW := Lib.hid hown
                clear hS4 e4 hl4 hown
                have HAo := Lib.hid (HA1.out.below hbr)
                have go := HAo.out.1
                have fin2 : ∀ (v : Value) (A' : Option Addr) (c' : Nat) (S : List Rw) (w3 w4 : World), S.length = n → ss S = ss R → w3.ownsRow wo.heap.size 57 1 (.slice A' n c') n (vals S) → RowsO w3 wo.heap.size S → Below wo.heap.size wo w3 →
                    w4.ownsRow wo.heap.size 57 1 v (n + 1) (vals S ++ [.slice Ak 4 ck]) → (w3.alloc (.cells #[.slice Ak 4 ck] 57)).grownBy w4 (Value.slice A' n c').ownBlock → MerPost (ss R) a b w (.returned (.tuple #[v, .bool true])) w4 := by
                  intro v A' c' S w3 w4 hSl hSs ho3 hro3 hb3 ho4 hg4
                  obtain ⟨A4, c4, e4⟩ := own_form ho4
                  subst e4
                  have hz3 := hb3.size
                  have hb34 : Below wo.heap.size wo (w3.alloc (.cells #[.slice Ak 4 ck] 57)) := hb3.trans ((below_new _ _).mono hb3.size)
                  have hb4 : Below wo.heap.size wo w4 := hb34.grown hg4 (by simp; omega) (fun g e => (ho3.lt g e).1)
                  have hst : w4.ownsRow w1.heap.size 3 1 (.slice Ak 4 ck) 4 (ints (merS (ss R) a b)) := own_below HOW.out hb4
                  have hro4 : RowsO w4 wo.heap.size S := (hro3.below (below_new _ _)).outer (ho3.alloc _) hg4
                  refine ⟨A4, n + 1, c4, S ++ [⟨Ak, ck, merS (ss R) a b⟩], by rw [HOK.out], by simp [hSl], by rw [merR_yes HOK.out, ss_append, hSs]; rfl, ⟨?_, ?_⟩, hb.trans ((hbr.trans (hb4.mono hbr.size)).mono hb.size)⟩
                  · have : (S ++ [(⟨Ak, ck, merS (ss R) a b⟩ : Rw)]).length = n + 1 := by simp [hSl]
                    rw [this, vals_append]
                    exact own_mono ho4 (by omega)
                  · refine (hro4.mono (by omega)).snoc (r := ⟨Ak, ck, merS (ss R) a b⟩) (own_mono hst hz1) (fun g e q hq => ?_) (own_some hst (by omega))
                    cases e2 : q.val.ownBlock with
                    | none => exact .inl rfl
                    | some g2 =>
                      have a1 := ((hro4.1 q hq).lt g2 e2).1
                      have a2 := (HOW.out.lt g e).2
                      exact .inr fun e3 => by injection e3 with e3; omega
                have FIN2 := Lib.hid fin2
                clear fin2
                rcases Nat.eq_zero_or_pos n with hn0 | hn0
                · subst hn0
                  have hR0 : R = [] := List.eq_nil_of_length_eq_zero HN.out
                  go_wp2_with fail
                  refine wp_loop_rounds 1 ?_
                  rw [rounds_succ]
                  go_wp2_with (at_builtin; refine app_row (w := (wo.alloc (.cells #[] 57)).alloc (.cells #[.slice Ak 4 ck] 57)) rfl Try.underlying24 siInfo rfl (by decide) (.tmp 89) (.tmp 91) rfl wo.heap.size (.slice (some ⟨wo.heap.size, 0, none⟩) 0 0) (vals []) [.slice Ak 4 ck] (some ⟨wo.heap.size + 1, 0, none⟩) 0 1 1 rfl rfl ((own_empty_s wo).alloc _) rfl (by have := seen_new (wo.alloc (.cells #[] 57)) (.slice Ak 4 ck) 57; simpa using this) (fun e => by cases e) (by intro u hu; simp at hu; subst hu; rfl) (by omega) (by omega) (by simp; omega) ?_; intro v' w2 ho hg hat)
                  go_ret2
                  exact FIN2.out v' _ _ [] _ _ rfl (by rw [hR0]) (own_empty_s wo) ⟨by simp, by simp⟩ (below_new _ _) ho hg
                · obtain ⟨bl, ol, eA, hltA, hcA⟩ := go (by rw [vals_length, HN.out]; exact hn0)
                  subst eA
                  have HCA := Lib.hid hcA
                  clear go hcA
                  have hn0' : (0 : Int) < (n : Int) := by omega
                  go_wp2_with fail
                  go_loopw [13, 14] (fun v i wr => CopyRel R n wo v i wr) (fun _ i _ => n - (intOf i).toNat)
                  case atStart => exact ⟨0, _, _, [], Nat.zero_le _, rfl, rfl, rfl, rfl, own_empty_s wo, ⟨by simp, by simp⟩, below_new _ _⟩
                  case round =>
                    obtain ⟨j, A', c', S, hj, rfl, rfl, hSl, hSs, ho, hro, hb2'⟩ := hrel
                    have hzr' := hb2'.size
                    by_cases hjn : j < n
                    · obtain ⟨⟨Ar, cr, s⟩, hxr⟩ : ∃ r, R[j]? = some r := ⟨_, List.getElem?_eq_getElem (by rw [HN.out]; exact hjn)⟩
                      have g0 := (hb2'.cell (p := ⟨bl, ol + j, none⟩) hltA).trans (lad_row HCA.out hxr)
                      have hs := (HAo.out.2 _ (List.mem_of_getElem? hxr)).below hb2'
                      have hst := (stepB_iff.1 (okRow_iff.1 ((ladB_iff.1 HL.out).2 j (by rw [ss_length, HN.out]; exact hjn))).1).1
                      rw [rowOf_get (ss_at hxr)] at hst
                      simp only at g0 hs hst
                      rw [hst] at g0
                      have g0 := ((below_new wr (.cells #[] 3)).cell (p := ⟨bl, ol + j, none⟩) (by show bl < wr.heap.size; omega)).trans g0
                      have hss' := ss_at hxr
                      have HS := Lib.hid (hs.below (below_new wr (.cells #[] 3)))
                      have HST := Lib.hid hst
                      have HSS := Lib.hid hss'
                      clear hxr hs hst hss'
                      have hil : (ints s).length = 4 := by rw [ints_length]; exact HST.out
                      have HIL := Lib.hid hil
                      have hAr : Ar = none → cr = 0 := fun e => by
                        obtain ⟨b', o', e', _⟩ := HS.out (by rw [HIL.out]; omega)
                        rw [e] at e'; cases e'
                      have HAR := Lib.hid hAr
                      clear hil hAr
                      go_wp2_with (first
                        | (at_builtin; refine app_row (w := wr.alloc (.cells #[] 3)) rfl Try.underlying57 iInfo rfl (by decide) (.tmp 81) (.tmp 85) rfl wr.heap.size (.slice (some ⟨wr.heap.size, 0, none⟩) 0 0) (ints []) (ints s) Ar 0 4 cr rfl rfl (own_empty_i wr) HIL.out HS.out HAR.out (ints_one s) (by omega) (by omega) (by simp) ?_; intro v1 w3 ho3 hg3 hat3; obtain ⟨A3, c3, e3⟩ := own_form ho3; subst e3; have hb3 : Below wr.heap.size wr w3 := (below_new wr (.cells #[] 3)).grown hg3 (by simp) (fun g e => by simp [Value.ownBlock] at e; omega); have hz3 := hb3.size)
                        | (at_builtin; refine app_row (w := w3.alloc (.cells #[.slice A3 4 c3] 57)) rfl Try.underlying24 siInfo rfl (by decide) (.tmp 80) (.tmp 87) rfl wo.heap.size (.slice A' j c') (vals S) [.slice A3 4 c3] (some ⟨w3.heap.size, 0, none⟩) j 1 1 rfl rfl ((own_below ho hb3).alloc _) rfl (seen_new w3 _ _) (fun e => by cases e) (by intro u hu; simp at hu; subst hu; rfl) (by omega) (by omega) (by simp; omega) ?_; intro v2 w4 ho4 hg4 hat4))
                      have RR : CopyRel R n wo v2 (.int .i64 ((j : Int) + 1)) w4 := by
                        obtain ⟨A4, c4, e4⟩ := own_form ho4
                        have hb34 : Below wr.heap.size wr (w3.alloc (.cells #[.slice A3 4 c3] 57)) := hb3.trans ((below_new _ _).mono hb3.size)
                        have hr1 : (w3.alloc (.cells #[.slice A3 4 c3] 57)).ownsRow wr.heap.size 3 1 (Rw.val ⟨A3, c3, s⟩) s.length (ints s) := by
                          unfold Rw.val
                          simp only [HST.out]
                          simp only [Nat.zero_add] at ho3
                          exact ho3.alloc _
                        refine ⟨j + 1, A4, c4, S ++ [⟨A3, c3, s⟩], by omega, by go_num, e4, ?_, ?_, ?_, ?_, ?_⟩
                        · unfold Hid; rw [List.length_append, hSl.out]; rfl
                        · unfold Hid; rw [ss_append, hSs.out, List.take_add_one, HSS.out]; rfl
                        · rw [vals_append]
                          have : vals [(⟨A3, c3, s⟩ : Rw)] = [.slice A3 4 c3] := by simp [vals, Rw.val, HST.out]
                          rw [this]
                          exact ho4
                        · exact rows_more hro hb34 hr1 (by show 0 < s.length; rw [HST.out]; omega) hzr' ((own_below ho hb3).alloc _) hg4
                        · exact (hb2'.trans (hb34.mono hb2'.size)).grown hg4 (by simp; omega) (fun g e => (ho.lt g e).1)
                      go_roundw
                      case rel => first | exact RR | ((repeat apply Exists.intro); first | exact ⟨RR, rfl⟩ | exact ⟨RR, rfl, rfl⟩ | exact ⟨RR, rfl, rfl, rfl⟩)
                      case measure => simp [intOf]; omega
                    · obtain rfl : j = n := by omega
                      have hSs' : ss S = ss R := by
                        have := hSs.out
                        rwa [List.take_of_length_le (by rw [ss_length, HN.out]; omega)] at this
                      have HSS := Lib.hid hSs'
                      clear hSs'
                      go_wp2_with (at_builtin; refine app_row (w := wr.alloc (.cells #[.slice Ak 4 ck] 57)) rfl Try.underlying24 siInfo rfl (by decide) (.tmp 89) (.tmp 91) rfl wo.heap.size (.slice A' j c') (vals S) [.slice Ak 4 ck] (some ⟨wr.heap.size, 0, none⟩) j 1 1 rfl rfl (ho.alloc _) rfl (seen_new wr _ _) (fun e => by cases e) (by intro u hu; simp at hu; subst hu; rfl) (by omega) (by omega) (by simp; omega) ?_; intro v' w2 ho2 hg2 hat)
                      go_ret2
                      exact FIN2.out v' A' c' S _ _ hSl.out HSS.out ho hro hb2' ho2 hg2
          · have e : merOk (ss R) a b = false := by
              cases e : merOk (ss R) a b with
              | false => rfl
              | true =>
                have := (merOk_iff.1 e).2.2.2.2
                rw [HX.out, HY.out] at this
                simp at hxy
                exact absurd hxy this
            have HE := Lib.hid e
            clear e
            go_wp2
            go_ret2
            exact mer_post_no HE.out hb

end Go.Proofs.Ytepnfljhoapdmaa
