/- Contracts of the program's selected, PeopleMany, PeoplePay. -/
import Derived.Test.YtjbhnjincedkmaaPw
import Derived.Test.YtjbhnjincedkmaaPm
import Derived.Test.YtjbhnjincedkmaaSl
namespace Go.Proofs.Ytjbhnjincedkmaa
open Go.RowKit
set_option linter.unusedVariables false

/-- What selected leaves. -/
def SelPost (L : List Pers) (x y z : Int) (w : World) (e : Ending) (w' : World) : Prop :=
  ∃ (A : Option Addr) (m c : Nat), e = .returned (.tuple #[.slice A m c, .bool (peopleB L && askB x y z)]) ∧ ((peopleB L && askB x y z) = true → (selL L x y z).length = m ∧ Seen w' A (pcells (selL L x y z))) ∧ Below w.heap.size w w'

/-- The three ways of a code: any; a code; neither. -/
theorem ways_c (x : Int) : ((x != -1) = false ∧ askC x = true) ∨ (((x != -1) = true ∧ codeB x = true) ∧ askC x = true) ∨ (((x != -1) = true ∧ codeB x = false) ∧ askC x = false) := by
  unfold askC; cases (x != -1) <;> cases codeB x <;> simp
theorem ways_s (x : Int) : ((x != -1) = false ∧ askS x = true) ∨ (((x != -1) = true ∧ sexB x = true) ∧ askS x = true) ∨ (((x != -1) = true ∧ sexB x = false) ∧ askS x = false) := by
  unfold askS; cases (x != -1) <;> cases sexB x <;> simp

/-- Behind the test. -/
def Tested (L : List Pers) (x y z : Int) (w : World) (v : Value) (wx : World) : Prop := v = .bool (!(peopleB L && askB x y z)) ∧ Below w.heap.size w wx

theorem ways_is (a x : Int) : ((x == -1) = true ∧ (x == -1 || a == x) = true) ∨ (((x == -1) = false ∧ (a == x) = true) ∧ (x == -1 || a == x) = true) ∨ (((x == -1) = false ∧ (a == x) = false) ∧ (x == -1 || a == x) = false) := by
  cases (x == -1) <;> cases (a == x) <;> simp
def IsTest (v0 : Bool) (w0 : World) (v : Value) (wx : World) : Prop := v = .bool v0 ∧ wx = w0

/-- At the head of each round: those of the first k that are asked for have been taken. -/
def SelRel (n : Nat) (L : List Pers) (x y z : Int) (w0 : World) (v i : Value) (wr : World) : Prop :=
  ∃ (k m : Nat) (A' : Option Addr) (c' : Nat), k ≤ n ∧ i = .int .i64 k ∧ v = .slice A' m c' ∧ m ≤ k ∧ Hid ((selL (L.take k) x y z).length = m) ∧ wr.ownsRow w0.heap.size 36 4 v m (pcells (selL (L.take k) x y z)) ∧ Below w0.heap.size w0 wr

set_option maxHeartbeats 6400000 in
theorem selected_any (A : Option Addr) (n c : Nat) (L : List Pers) (x y z : Int) (w : World) (hA : Seen w A (pcells L)) (hn : L.length = n) (hm : n ≤ 1099511627776) :
    Calls Try.prog 28 #[.slice A n c, .int .i64 x, .int .i64 y, .int .i64 z] w (SelPost L x y z w) := by
  have HA := Lib.hid hA
  have HN := Lib.hid hn
  clear hA hn
  go_enter Try.func28, Try.ntmps28
  go_upto_region 1 with fail
  go_cut [42] (fun v wx => Tested L x y z w v wx)
  case first =>
    cases h1 : peopleB L
    · go_wp2_with (go_at_call 21; refine (peopleValid_n _ _ _ L _ HA.out HN.out hm).mono ?_; rintro e w' ⟨rfl, hb⟩)
      go_meet
      exact ⟨by rw [h1]; rfl, hb⟩
    · rcases ways_c x with ⟨a1, a3⟩ | ⟨⟨a1, a2⟩, a3⟩ | ⟨⟨a1, a2⟩, a3⟩ <;> rcases ways_c y with ⟨b1, b3⟩ | ⟨⟨b1, b2⟩, b3⟩ | ⟨⟨b1, b2⟩, b3⟩ <;> rcases ways_s z with ⟨c1, c3⟩ | ⟨⟨c1, c2⟩, c3⟩ | ⟨⟨c1, c2⟩, c3⟩
      all_goals
        have A3 := Lib.hid a3
        have B3 := Lib.hid b3
        have C3 := Lib.hid c3
        clear a3 b3 c3
        go_wp2_with (first
          | (go_at_call 21; refine (peopleValid_n _ _ _ L _ HA.out HN.out hm).mono ?_; rintro e w' ⟨rfl, hb⟩)
          | (go_at_call 32; refine (isCode_any _ _).mono ?_; rintro e w' ⟨rfl, rfl⟩)
          | (go_at_call 33; refine (isSex_any _ _).mono ?_; rintro e w' ⟨rfl, rfl⟩))
        go_meet
        exact ⟨by rw [h1]; unfold askB; rw [A3.out, B3.out, C3.out]; rfl, hb⟩
  case rest =>
    obtain ⟨rfl, hb⟩ := hcut
    cases h12 : peopleB L && askB x y z
    · go_wp2
      go_ret2
      exact ⟨none, 0, 0, by rw [h12]; rfl, fun h => (by rw [h12] at h; cases h), hb⟩
    · simp only [Bool.and_eq_true] at h12
      obtain ⟨h1, h2⟩ := h12
      have hm40 : n ≤ 40 := by rw [← HN.out]; exact (peopleB_iff.1 h1).2
      have h12 : (peopleB L && askB x y z) = true := by rw [h1, h2]; rfl
      rcases seen_cases HA.out with rfl | ⟨b, o, rfl, hlt, hc⟩
      · obtain rfl : n = 0 := HN.out.symm
        go_wp2_with fail
        refine wp_loop_rounds 1 ?_
        rw [rounds_succ]
        go_wp2
        go_ret2
        exact ⟨none, 0, 0, by rw [h12]; rfl, fun _ => ⟨rfl, Seen.nil _ _⟩, hb⟩
      · have HC := Lib.hid hc
        have hzc := hb.size
        clear hc
        go_wp2_with fail
        go_loopw [10, 45] (fun v i wr => SelRel n L x y z wc v i wr) (fun _ i _ => n - (intOf i).toNat)
        case atStart => exact ⟨0, 0, none, 0, Nat.zero_le _, rfl, rfl, Nat.le_refl _, by unfold Hid; simp [selL], World.ownsRow_nil _ _ _ _, Below.refl _ _⟩
        case round =>
          obtain ⟨k, m, A', c', hk, rfl, rfl, hmk, hsel, hown, hbr⟩ := hrel
          by_cases hkn : k < n
          · obtain ⟨⟨a, j, s, p⟩, hx⟩ : ∃ x, L[k]? = some x := ⟨_, List.getElem?_eq_getElem (by rw [HN.out]; exact hkn)⟩
            have HX := Lib.hid hx
            obtain ⟨g0, g1, g2, g3⟩ := cells_later hlt (hb.trans (hbr.mono hb.size)) (cells_at HC.out hx)
            clear hx
            have hzr := hbr.size
            have hbox := Boxd.new wr 36 #[.int .i64 a, .int .i64 j, .int .i64 s, .int .i64 p]
            go_upto_region 7 with fail
            go_cut [76] (fun v wx => IsTest (isB ⟨a, j, s, p⟩ x y z) (wr.alloc (.cells #[.int .i64 a, .int .i64 j, .int .i64 s, .int .i64 p] 36)) v wx)
            case first =>
              have hq := isB_minus (x := ⟨a, j, s, p⟩) h2
              have HQ := Lib.hid hq
              clear hq
              rcases ways_is a x with ⟨a1, a3⟩ | ⟨⟨a1, a2⟩, a3⟩ | ⟨⟨a1, a2⟩, a3⟩ <;> rcases ways_is j y with ⟨b1, b3⟩ | ⟨⟨b1, b2⟩, b3⟩ | ⟨⟨b1, b2⟩, b3⟩ <;> rcases ways_is s z with ⟨c1, c3⟩ | ⟨⟨c1, c2⟩, c3⟩ | ⟨⟨c1, c2⟩, c3⟩
              all_goals
                have A3 := Lib.hid a3
                have B3 := Lib.hid b3
                have C3 := Lib.hid c3
                clear a3 b3 c3
                go_wp2
                go_meet
                exact ⟨by rw [HQ.out, A3.out, B3.out, C3.out]; rfl, rfl⟩
            case rest =>
              obtain ⟨rfl, rfl⟩ := hcut
              cases hv : isB ⟨a, j, s, p⟩ x y z
              · go_wp2
                go_roundw
                case rel =>
                  refine ⟨k + 1, m, A', c', by omega, by go_num, rfl, by omega, ?_, ?_, hbr.trans ((below_new wr _).mono hbr.size)⟩
                  · unfold Hid; rw [selL_take_no HX.out hv]; exact hsel.out
                  · rw [selL_take_no HX.out hv]; exact hown.alloc _
                case measure => simp [intOf]; omega
              · obtain ⟨⟨d0, d1, d2, d3⟩, _⟩ := cell_four hbox
                go_wp2_with (at_builtin; refine app_one (wx := wr.alloc (.cells #[.int .i64 a, .int .i64 j, .int .i64 s, .int .i64 p] 36)) rfl (.tmp 77) (.tmp 79) rfl wc.heap.size (.slice A' m c') (selL (L.take k) x y z) a j s p (wr.heap.size + 1) (by simp) rfl rfl (by rw [hsel.out]; exact hown.alloc _) (by rw [hsel.out]; omega) (by simp; omega) ?_; intro v' w4 hown' hgrow)
                have e1 := hsel.out
                rw [e1] at hown'
                obtain ⟨A4, c4, hv4⟩ := own_shape hown'
                have hb4 : Below wc.heap.size wc w4 := (hbr.trans ((below2 (below_new wr _) (below_new _ _)).mono hbr.size)).grown hgrow (by simp; omega) (fun i hi => (hown.lt i hi).1)
                have R : SelRel n L x y z wc v' (.int .i64 ((k : Int) + 1)) w4 := by
                  refine ⟨k + 1, m + 1, A4, c4, by omega, by go_num, hv4, by omega, ?_, ?_, hb4⟩
                  · unfold Hid; rw [selL_take_yes HX.out hv, List.length_append, e1]; rfl
                  · rw [selL_take_yes HX.out hv, pcells_append]; exact hown'
                go_roundw
                case rel => first | exact R | ((repeat apply Exists.intro); first | exact ⟨R, rfl⟩ | exact ⟨R, rfl, rfl⟩ | exact ⟨R, rfl, rfl, rfl⟩ | exact ⟨R, rfl, rfl, rfl, rfl⟩)
                case measure => simp [intOf]; omega
          · have hfin : selL (L.take k) x y z = selL L x y z := by rw [List.take_of_length_le (by rw [HN.out]; omega)]
            have HF := Lib.hid hfin
            clear hfin
            go_wp2
            go_ret2
            refine ⟨_, _, _, by rw [h12]; rfl, fun _ => ?_, hb.trans (hbr.mono hb.size)⟩
            rw [← HF.out]
            exact ⟨hsel.out, (ppl_own_n hsel.out hown).1⟩

end Go.Proofs.Ytjbhnjincedkmaa
