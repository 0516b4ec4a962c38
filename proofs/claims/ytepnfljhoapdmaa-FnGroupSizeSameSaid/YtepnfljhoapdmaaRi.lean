/- Contract of the program's RecodePeople. -/
import Derived.Test.YtepnfljhoapdmaaRv
import Derived.Test.YtepnfljhoapdmaaBx
import Derived.Test.YtepnfljhoapdmaaSl
import Derived.Test.YtepnfljhoapdmaaLx
import Derived.Outline
namespace Go.Proofs.Ytepnfljhoapdmaa
open Go.RowKit
set_option linter.unusedVariables false

/-- What RecodePeople leaves. -/
def RecPost (L : List Pers) (R : List (List Int)) (r : Rec) (w : World) (e : Ending) (w' : World) : Prop :=
  ∃ (A : Option Addr) (m c : Nat), e = .returned (.tuple #[.slice A m c, .bool (rpOk L R r)]) ∧ (recL L R r).length = m ∧ Ppl w' A c (recL L R r) ∧ Below w.heap.size w w'

theorem ppl_nil (w : World) : Ppl w none 0 [] := ⟨Seen.nil _ _, by simp, by omega, fun _ => rfl⟩
theorem rec_post_no {L : List Pers} {R : List (List Int)} {r : Rec} {w w' : World} (h : rpOk L R r = false) (hb : Below w.heap.size w w') : RecPost L R r w (.returned (.tuple #[.slice none 0 0, .bool false])) w' :=
  ⟨none, 0, 0, by rw [h], by rw [recL_no h]; rfl, by rw [recL_no h]; exact ppl_nil _, hb⟩

/-- At the head of each round: the first k have been recoded. -/
def RcRel (n : Nat) (L : List Pers) (R : List (List Int)) (r : Rec) (w0 : World) (v i : Value) (wr : World) : Prop :=
  ∃ (k : Nat) (A : Option Addr) (c : Nat), k ≤ n ∧ i = .int .i64 k ∧ v = .slice A k c ∧ wr.ownsRow w0.heap.size 31 4 v k (pcells ((L.take k).map (recP R r))) ∧ Below w0.heap.size w0 wr

theorem map_take_succ {L : List Pers} {k : Nat} {x : Pers} (f : Pers → Pers) (hx : L[k]? = some x) : (L.take (k + 1)).map f = (L.take k).map f ++ [f x] := by
  rw [List.take_add_one, hx]; simp

/-- A round's end: one more, by append onto the list of one's own. -/
theorem rc_more {n k c : Nat} {L : List Pers} {R : List (List Int)} {r : Rec} {w0 wr wx w4 : World} {A : Option Addr} {v' : Value} {x : Pers} {a j s p : Int} (hx : L[k]? = some x) (hf : recP R r x = ⟨a, j, s, p⟩) (hkn : k < n) (hn : L.length = n)
    (hown : wr.ownsRow w0.heap.size 31 4 (.slice A k c) k (pcells ((L.take k).map (recP R r)))) (hbr : Below w0.heap.size w0 wr) (hbx : Below wr.heap.size wr wx)
    (ho : w4.ownsRow w0.heap.size 31 4 v' (k + 1) (pcells ((L.take k).map (recP R r)) ++ [.int .i64 a, .int .i64 j, .int .i64 s, .int .i64 p])) (hg : wx.grownBy w4 (Value.slice A k c).ownBlock) :
    RcRel n L R r w0 v' (.int .i64 ((k : Int) + 1)) w4 := by
  obtain ⟨A4, c4, hv4⟩ := own_shape ho
  refine ⟨k + 1, A4, c4, by omega, by go_num, hv4, ?_, ?_⟩
  · rw [map_take_succ _ hx, pcells_append, hf]; exact ho
  · have hz := hbr.size
    have hz' := hbx.size
    exact (hbr.trans (hbx.mono hbr.size)).grown hg (by omega) (fun i hi => (hown.lt i hi).1)
theorem rc_done {L : List Pers} {R : List (List Int)} {r : Rec} {w w0 wr : World} {A : Option Addr} {c n : Nat} (h : rpOk L R r = true) (hn : L.length = n) (hown : wr.ownsRow w0.heap.size 31 4 (.slice A n c) n (pcells ((L.take n).map (recP R r)))) (hb : Below w.heap.size w w0) (hbr : Below w0.heap.size w0 wr) :
    RecPost L R r w (.returned (.tuple #[.slice A n c, .bool true])) wr := by
  rw [List.take_of_length_le (by omega)] at hown
  have hl : (L.map (recP R r)).length = n := by simp [hn]
  exact ⟨A, n, c, by rw [h], by rw [recL_yes h]; exact hl, by rw [recL_yes h]; exact ppl_own_n hl hown, hb.trans (hbr.mono hb.size)⟩

set_option maxRecDepth 100000 in
set_option maxHeartbeats 6400000 in
theorem recodePeople_any (A : Option Addr) (n c : Nat) (L : List Pers) (A' : Option Addr) (m c' : Nat) (R : List Rw) (a j s : Int) (w : World) (hP : Seen w A (pcells L)) (hn : L.length = n) (hnm : n ≤ 1099511627776)
    (hA : LadS w A' R) (hR : R.length = m) (hm : m ≤ 1099511627776) (hr : ∀ r ∈ R, r.s.length ≤ 1099511627776) :
    Calls Try.prog 26 #[.slice A n c, .slice A' m c', .agg #[.int .i64 a, .int .i64 j, .int .i64 s]] w (RecPost L (ss R) ⟨a, j, s⟩ w) := by
  have b0 := below_new w (.cells #[.int .i64 a, .int .i64 j, .int .i64 s] 26)
  have HP := Lib.hid (hP.below b0)
  have HA := Lib.hid (hA.below b0)
  have HX := Lib.hid (Boxd.new w 26 #[.int .i64 a, .int .i64 j, .int .i64 s])
  have HB := Lib.hid b0
  have HN := Lib.hid hn
  have HR := Lib.hid hR
  have HW := Lib.hid hr
  clear hP hA b0 hn hR hr
  cases h1 : peopleB L
  · have HE := Lib.hid (show rpOk L (ss R) ⟨a, j, s⟩ = false by unfold rpOk; rw [h1]; rfl)
    go_enter Try.func26, Try.ntmps26
    go_wp2_with fail
    refine (peopleValid_n _ _ _ L _ HP.out HN.out hnm).mono ?_
    rintro e w1 ⟨rfl, hb1⟩
    rw [h1]
    go_wp2
    go_ret2
    exact rec_post_no HE.out (below2 HB.out hb1)
  · cases h2 : recOk (ss R) ⟨a, j, s⟩
    · have HE := Lib.hid (show rpOk L (ss R) ⟨a, j, s⟩ = false by unfold rpOk; rw [h1, h2]; rfl)
      go_enter Try.func26, Try.ntmps26
      go_wp2_with fail
      refine (peopleValid_n _ _ _ L _ HP.out HN.out hnm).mono ?_
      rintro e w1 ⟨rfl, hb1⟩
      rw [h1]
      obtain ⟨⟨g0, g1, g2⟩, _⟩ := cell_three (HX.out.below hb1)
      go_wp2_with fail
      refine (recodeValid_any _ _ _ R _ _ _ _ (HA.out.below hb1) HR.out hm HW.out).mono ?_
      rintro e w2 ⟨rfl, hb2⟩
      rw [h2]
      go_wp2
      go_ret2
      exact rec_post_no HE.out (below2 HB.out (below2 hb1 hb2))
    · have HE := Lib.hid (show rpOk L (ss R) ⟨a, j, s⟩ = true by unfold rpOk; rw [h1, h2]; rfl)
      have hm40 : n ≤ 40 := by rw [← HN.out]; exact (peopleB_iff.1 h1).2
      have HOK := Lib.hid (peopleB_iff.1 h1).1
      obtain ⟨hRv, hra, hrj, hrs⟩ := recOk_iff.1 h2
      simp only [ss_length] at hra hrj hrs
      rw [HR.out] at hra
      have HRV := Lib.hid hRv
      clear hRv
      obtain ⟨ra0, ra1⟩ := hra
      obtain ⟨rr, hrr⟩ : ∃ r : Rec, r = ⟨a, j, s⟩ := ⟨_, rfl⟩
      have HRR := Lib.hid hrr
      clear hrr
      rcases (show j = 0 ∨ j = 1 by omega) with hj | hj <;> rcases (show s = 0 ∨ s = 1 by omega) with hs | hs <;> subst hj hs
      all_goals
        clear hrj hrs
        go_enter Try.func26, Try.ntmps26
        go_wp2_with fail
        refine (peopleValid_n _ _ _ L _ HP.out HN.out hnm).mono ?_
        rintro e w1 ⟨rfl, hb1⟩
        rw [h1]
        have x1 := HX.out.below hb1
        obtain ⟨⟨g0, g1, g2⟩, _⟩ := cell_three x1
        go_wp2_with fail
        refine (recodeValid_any _ _ _ R _ _ _ _ (HA.out.below hb1) HR.out hm HW.out).mono ?_
        rintro e w2 ⟨rfl, hb2⟩
        rw [h2]
        have x2 := x1.below hb2
        have hltx := x2.lt
        have hb02 := below2 HB.out (below2 hb1 hb2)
        have HP2 := Lib.hid ((HP.out.below hb1).below hb2)
        have HA2 := Lib.hid ((HA.out.below hb1).below hb2)
        clear g0 g1 g2 hb1 hb2 x1
        go_wp2_with fail
        go_loopw [8, 22] (fun v i wr => RcRel n L (ss R) rr w2 v i wr) (fun _ i _ => n - (intOf i).toNat)
        case atStart => exact ⟨0, none, 0, Nat.zero_le _, rfl, rfl, World.ownsRow_nil _ _ _ _, Below.refl _ _⟩
        case round =>
          obtain ⟨k, Ak, ck, hk, rfl, rfl, hown, hbr⟩ := hrel
          have hzr := hbr.size
          by_cases hkn : k < n
          · obtain ⟨b, o, hAe, hlt, hc⟩ := HP2.out (by rw [pcells_length, HN.out]; omega)
            subst hAe
            obtain ⟨⟨pa, pj, ps, pp⟩, hx⟩ : ∃ x, L[k]? = some x := ⟨_, List.getElem?_eq_getElem (by rw [HN.out]; exact hkn)⟩
            obtain ⟨⟨pa0, pa1⟩, ⟨pj0, pj1⟩, ⟨ps0, ps1⟩, pp0, pp1⟩ := okB_un (HOK.out _ (List.mem_of_getElem? hx))
            obtain ⟨k0, k1, k2, k3⟩ := cells_later hlt hbr (cells_at hc hx)
            have HXX := Lib.hid hx
            have xr := x2.below (hbr)
            have g0 := fun o : Obj => (cell_three (xr.alloc o)).1.1
            have g1 := fun o : Obj => (cell_three (xr.alloc o)).1.2.1
            have g2 := fun o : Obj => (cell_three (xr.alloc o)).1.2.2
            have hxr := xr.lt
            have HAr := Lib.hid ((HA2.out.below hbr).below (below_new wr (.cells #[.int .i64 pa, .int .i64 pj, .int .i64 ps, .int .i64 pp] 31)))
            obtain ⟨z, hz⟩ : ∃ z, lcode (ss R) a pa = z := ⟨_, rfl⟩
            have HZ := Lib.hid hz
            have HLK := Lib.hid (show ∀ f : Pers → Pers, ((L.take k).map f).length = k from fun f => by rw [List.length_map, List.length_take, HN.out]; omega)
            clear hx hc hz
            go_wp2_with fail
            refine (ladderCode_any _ _ _ R _ _ _ HAr.out HR.out HRV.out ra0 ra1 pa0 pa1).mono ?_
            rintro e w' ⟨rfl, rfl⟩
            rw [HZ.out]
            go_wp2_with (first
              | (at_builtin; refine app_one (wx := wr.alloc (.cells #[.int .i64 z, .int .i64 pj, .int .i64 ps, .int .i64 pp] 31)) rfl (.tmp 47) (.tmp 49) rfl w2.heap.size (.slice Ak k ck) ((L.take k).map (recP (ss R) rr)) z pj ps pp (wr.heap.size + 1) (by simp) rfl rfl (by rw [HLK.out]; exact hown.alloc _) (by rw [HLK.out]; omega) (by simp; omega) ?_; intro v' w4 ho4 hg4)
              | (at_builtin; refine app_one (wx := wr.alloc (.cells #[.int .i64 z, .int .i64 pj, .int .i64 0, .int .i64 pp] 31)) rfl (.tmp 47) (.tmp 49) rfl w2.heap.size (.slice Ak k ck) ((L.take k).map (recP (ss R) rr)) z pj 0 pp (wr.heap.size + 1) (by simp) rfl rfl (by rw [HLK.out]; exact hown.alloc _) (by rw [HLK.out]; omega) (by simp; omega) ?_; intro v' w4 ho4 hg4)
              | (at_builtin; refine app_one (wx := wr.alloc (.cells #[.int .i64 z, .int .i64 0, .int .i64 ps, .int .i64 pp] 31)) rfl (.tmp 47) (.tmp 49) rfl w2.heap.size (.slice Ak k ck) ((L.take k).map (recP (ss R) rr)) z 0 ps pp (wr.heap.size + 1) (by simp) rfl rfl (by rw [HLK.out]; exact hown.alloc _) (by rw [HLK.out]; omega) (by simp; omega) ?_; intro v' w4 ho4 hg4)
              | (at_builtin; refine app_one (wx := wr.alloc (.cells #[.int .i64 z, .int .i64 0, .int .i64 0, .int .i64 pp] 31)) rfl (.tmp 47) (.tmp 49) rfl w2.heap.size (.slice Ak k ck) ((L.take k).map (recP (ss R) rr)) z 0 0 pp (wr.heap.size + 1) (by simp) rfl rfl (by rw [HLK.out]; exact hown.alloc _) (by rw [HLK.out]; omega) (by simp; omega) ?_; intro v' w4 ho4 hg4))
            rw [HLK.out] at ho4
            have RR := rc_more HXX.out (by rw [HRR.out]; unfold recP; simp only; rw [HZ.out]; simp) hkn HN.out hown hbr (below2 (below_new wr _) (below_new _ _)) ho4 hg4
            go_roundw
            case rel => first | exact RR | ((repeat apply Exists.intro); first | exact ⟨RR, rfl⟩ | exact ⟨RR, rfl, rfl⟩ | exact ⟨RR, rfl, rfl, rfl⟩)
            case measure => simp [intOf]; omega
          · obtain rfl : k = n := by omega
            go_wp2
            go_ret2
            have hfin := rc_done (r := rr) (by rw [HRR.out]; exact HE.out) HN.out hown hb02 hbr
            rw [HRR.out] at hfin
            exact hfin

end Go.Proofs.Ytepnfljhoapdmaa
