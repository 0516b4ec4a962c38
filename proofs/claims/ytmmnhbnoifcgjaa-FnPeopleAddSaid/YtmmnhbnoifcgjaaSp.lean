/- Contracts of the reference's l1Ask, l1Is, PeopleMany, PeoplePay. -/
import Derived.Test.YtmmnhbnoifcgjaaPw
import Derived.Test.YtmmnhbnoifcgjaaPm
namespace Go.Proofs.Ytmmnhbnoifcgjaa
open Go.RowKit
set_option linter.unusedVariables false

theorem askB_in (a j s : Int) : (inB a (-1) 3 && inB j (-1) 3 && inB s (-1) 1) = askB a j s := by
  rw [Bool.eq_iff_iff, askB_iff]; simp [inB_iff, and_assoc]

set_option maxHeartbeats 800000 in
theorem l1Ask_any (a j s : Int) (w : World) : Calls Try.prog 24 #[.int .i64 a, .int .i64 j, .int .i64 s] w fun e w' => e = .returned (.bool (askB a j s)) ∧ w = w' := by
  rw [← askB_in]
  cases h1 : inB a (-1) 3 <;> cases h2 : inB j (-1) 3
  all_goals
    go_enter Try.func24, Try.ntmps24
    go_wp2_with (go_at_call 34; refine (l6In_any _ _ _ _).mono ?_; rintro e w' ⟨rfl, rfl⟩)
    go_ret
    exact ⟨ret_bool (by simp), rfl⟩

set_option maxHeartbeats 3200000 in
theorem l1Is_any (a j s p : Int) (x y z : Int) (w : World) : Calls Try.prog 25 #[.agg #[.int .i64 a, .int .i64 j, .int .i64 s, .int .i64 p], .int .i64 x, .int .i64 y, .int .i64 z] w fun e w' => e = .returned (.bool (isB ⟨a, j, s, p⟩ x y z)) ∧ Below w.heap.size w w' := by
  have hx : (decide (x < 0) = true) ∨ (decide (x < 0) = false ∧ (a == x) = true) ∨ (decide (x < 0) = false ∧ (a == x) = false) := by cases decide (x < 0) <;> cases (a == x) <;> simp
  have hy : (decide (y < 0) = true) ∨ (decide (y < 0) = false ∧ (j == y) = true) ∨ (decide (y < 0) = false ∧ (j == y) = false) := by cases decide (y < 0) <;> cases (j == y) <;> simp
  have hz : (decide (z < 0) = true) ∨ (decide (z < 0) = false) := by cases decide (z < 0) <;> simp
  rcases hx with h1 | ⟨h1, h2⟩ | ⟨h1, h2⟩
  · rcases hy with h3 | ⟨h3, h4⟩ | ⟨h3, h4⟩
    · rcases hz with h5 | h5
      all_goals
        have hf := Lib.hid (show isB ⟨a, j, s, p⟩ x y z = (decide (z < 0) || s == z) by simp [isB, h1, h3])
        go_enter Try.func25, Try.ntmps25
        go_wp2
        go_ret
        exact ⟨ret_bool (by rw [hf.out, h5]; simp), below_new _ _⟩
    · rcases hz with h5 | h5
      all_goals
        have hf := Lib.hid (show isB ⟨a, j, s, p⟩ x y z = (decide (z < 0) || s == z) by simp [isB, h1, h3, h4])
        go_enter Try.func25, Try.ntmps25
        go_wp2
        go_ret
        exact ⟨ret_bool (by rw [hf.out, h5]; simp), below_new _ _⟩
    · have hf := Lib.hid (show isB ⟨a, j, s, p⟩ x y z = false by simp [isB, h1, h3, h4])
      go_enter Try.func25, Try.ntmps25
      go_wp2
      go_ret
      exact ⟨ret_bool hf.out.symm, below_new _ _⟩
  · rcases hy with h3 | ⟨h3, h4⟩ | ⟨h3, h4⟩
    · rcases hz with h5 | h5
      all_goals
        have hf := Lib.hid (show isB ⟨a, j, s, p⟩ x y z = (decide (z < 0) || s == z) by simp [isB, h1, h2, h3])
        go_enter Try.func25, Try.ntmps25
        go_wp2
        go_ret
        exact ⟨ret_bool (by rw [hf.out, h5]; simp), below_new _ _⟩
    · rcases hz with h5 | h5
      all_goals
        have hf := Lib.hid (show isB ⟨a, j, s, p⟩ x y z = (decide (z < 0) || s == z) by simp [isB, h1, h2, h3, h4])
        go_enter Try.func25, Try.ntmps25
        go_wp2
        go_ret
        exact ⟨ret_bool (by rw [hf.out, h5]; simp), below_new _ _⟩
    · have hf := Lib.hid (show isB ⟨a, j, s, p⟩ x y z = false by simp [isB, h1, h2, h3, h4])
      go_enter Try.func25, Try.ntmps25
      go_wp2
      go_ret
      exact ⟨ret_bool hf.out.symm, below_new _ _⟩
  · have hf := Lib.hid (show isB ⟨a, j, s, p⟩ x y z = false by simp [isB, h1, h2])
    go_enter Try.func25, Try.ntmps25
    go_wp2
    go_ret
    exact ⟨ret_bool hf.out.symm, below_new _ _⟩

set_option maxHeartbeats 1600000 in
theorem sPeopleMany_any (A : Option Addr) (n c : Nat) (L : List Pers) (x y z : Int) (w : World) (hA : Seen w A (pcells L)) (hn : L.length = n) (hm : n ≤ 1099511627776) :
    Calls Try.prog 14 #[.slice A n c, .int .i64 x, .int .i64 y, .int .i64 z] w fun e w' => e = .returned (.int .i64 (manyI L x y z)) ∧ Below w.heap.size w w' := by
  subst hn
  cases h1 : peopleB L
  · rw [manyI_no (by rw [h1]; rfl)]
    go_enter Try.func14, Try.ntmps14
    go_wp2_with (go_at_call 23; refine (sPeopleValid_any _ _ L _ hA hm).mono ?_; rintro e w' ⟨rfl, hb⟩)
    go_ret
    exact ⟨rfl, hb⟩
  · cases h2 : askB x y z
    · rw [manyI_no (by rw [h1, h2]; rfl)]
      go_enter Try.func14, Try.ntmps14
      go_wp2_with (first | (go_at_call 23; refine (sPeopleValid_any _ _ L _ hA hm).mono ?_; rintro e w' ⟨rfl, hb⟩) | (go_at_call 24; refine (l1Ask_any _ _ _ _).mono ?_; rintro e w' ⟨rfl, rfl⟩))
      go_ret
      exact ⟨rfl, hb⟩
    · rw [manyI_yes h1 h2]
      rcases seen_cases hA with rfl | ⟨b, o, rfl, hlt, hc⟩
      · go_enter Try.func14, Try.ntmps14
        go_wp2_with (first | (go_at_call 23; refine (sPeopleValid_any _ _ [] _ hA hm).mono ?_; rintro e w1 ⟨rfl, hb⟩) | (go_at_call 24; refine (l1Ask_any _ _ _ _).mono ?_; rintro e w' ⟨rfl, rfl⟩))
        refine wp_loop_rounds 1 ?_
        rw [rounds_succ]
        go_wp2
        go_ret
        exact ⟨rfl, hb⟩
      · obtain ⟨n, hn⟩ : ∃ n, n = L.length := ⟨_, rfl⟩
        have hm2 := hm
        rw [← hn] at hm2 ⊢
        have HN := Lib.hid hn
        have HC := Lib.hid hc
        have HA := Lib.hid hA
        have HM := Lib.hid hm
        have hm40 : n ≤ 40 := by rw [hn]; exact (peopleB_iff.1 h1).2
        clear hn hc hA hm hm2
        go_enter Try.func14, Try.ntmps14
        go_wp2_with fail
        rw [HN.out]
        refine (sPeopleValid_any _ _ L _ HA.out HM.out).mono ?_
        rintro e w1 ⟨rfl, hb1⟩
        rw [← HN.out]
        go_wp2_with fail
        refine (l1Ask_any _ _ _ _).mono ?_
        rintro e w1' ⟨rfl, rfl⟩
        go_wp2_with fail
        go_loopw [9, 10] (fun t i wr => ∃ k m : Nat, k ≤ n ∧ i = .int .i64 k ∧ t = .int .i64 m ∧ m ≤ k ∧ Hid ((selL (L.take k) x y z).length = m) ∧ Below w.heap.size w wr) (fun _ i _ => n - (intOf i).toNat)
        case atStart => exact ⟨0, 0, Nat.zero_le _, rfl, rfl, Nat.le_refl _, by unfold Hid; simp [selL], hb1⟩
        case round =>
          obtain ⟨k, m, hk, rfl, rfl, hmk, hsel, hb⟩ := hrel
          by_cases hkn : k < n
          · obtain ⟨⟨a, j, s, p⟩, hx⟩ : ∃ x, L[k]? = some x := ⟨_, List.getElem?_eq_getElem (by rw [← HN.out]; exact hkn)⟩
            have HX := Lib.hid hx
            obtain ⟨g0, g1, g2, g3⟩ := cells_later hlt hb (cells_at HC.out hx)
            clear hx
            cases hv : isB ⟨a, j, s, p⟩ x y z
            · go_wp2_with (go_at_call 25; refine (l1Is_any _ _ _ _ _ _ _ _).mono ?_; rintro e w' ⟨rfl, hb'⟩)
              go_roundw
              case rel => exact ⟨k + 1, m, by omega, by go_num, rfl, by omega, by unfold Hid; rw [selL_take_no HX.out hv]; exact hsel.out, hb.trans (hb'.mono hb.size)⟩
              case measure => simp [intOf]; omega
            · go_wp2_with (go_at_call 25; refine (l1Is_any _ _ _ _ _ _ _ _).mono ?_; rintro e w' ⟨rfl, hb'⟩)
              go_roundw
              case rel => exact ⟨k + 1, m + 1, by omega, by go_num, by go_num, by omega, by unfold Hid; rw [selL_take_yes HX.out hv, List.length_append, hsel.out]; rfl, hb.trans (hb'.mono hb.size)⟩
              case measure => simp [intOf]; omega
          · have hfin : ((selL L x y z).length : Int) = m := by
              have := hsel.out
              rw [List.take_of_length_le (by rw [← HN.out]; omega)] at this
              omega
            have HF := Lib.hid hfin
            clear hfin
            go_wp2
            go_ret
            exact ⟨ret_int HF.out.symm, hb⟩

set_option maxHeartbeats 1600000 in
theorem sPeoplePay_any (A : Option Addr) (n c : Nat) (L : List Pers) (x y z : Int) (w : World) (hA : Seen w A (pcells L)) (hn : L.length = n) (hm : n ≤ 1099511627776) :
    Calls Try.prog 18 #[.slice A n c, .int .i64 x, .int .i64 y, .int .i64 z] w fun e w' => e = .returned (.int .i64 (payI L x y z)) ∧ Below w.heap.size w w' := by
  cases h12 : peopleB L && askB x y z
  · have hneg : manyI L x y z = -1 := manyI_no h12
    rw [payI_no h12]
    go_enter Try.func18, Try.ntmps18
    go_wp2_with (go_at_call 14; refine (sPeopleMany_any _ _ _ L _ _ _ _ hA hn hm).mono ?_; rintro e w' ⟨rfl, hb⟩; rw [hneg])
    go_ret
    exact ⟨rfl, hb⟩
  · simp only [Bool.and_eq_true] at h12
    obtain ⟨h1, h2⟩ := h12
    rw [payI_yes h1 h2]
    have hpos : 0 ≤ manyI L x y z := by rw [manyI_yes h1 h2]; omega
    have hpd : decide (manyI L x y z < 0) = false := by simp; omega
    rcases seen_cases hA with rfl | ⟨b, o, rfl, hlt, hc⟩
    · subst hn
      go_enter Try.func18, Try.ntmps18
      go_wp2_with (go_at_call 14; refine (sPeopleMany_any _ _ _ [] _ _ _ _ hA rfl hm).mono ?_; rintro e w1 ⟨rfl, hb⟩)
      refine wp_loop_rounds 1 ?_
      rw [rounds_succ]
      go_wp2
      go_ret
      exact ⟨rfl, hb⟩
    · have HN := Lib.hid hn
      have HC := Lib.hid hc
      have HA := Lib.hid hA
      have hm40 : n ≤ 40 := by rw [← hn]; exact (peopleB_iff.1 h1).2
      have HOK := Lib.hid (peopleB_iff.1 h1).1
      clear hn hc hA
      go_enter Try.func18, Try.ntmps18
      go_wp2_with fail
      refine (sPeopleMany_any _ _ _ L _ _ _ _ HA.out HN.out hm).mono ?_
      rintro e w1 ⟨rfl, hb1⟩
      go_wp2_with fail
      go_loopw [9, 10] (fun t i wr => ∃ (k : Nat) (m : Int), k ≤ n ∧ i = .int .i64 k ∧ t = .int .i64 m ∧ 0 ≤ m ∧ m ≤ 999 * k ∧ Hid (sumP (selL (L.take k) x y z) = m) ∧ Below w.heap.size w wr) (fun _ i _ => n - (intOf i).toNat)
      case atStart => exact ⟨0, 0, Nat.zero_le _, rfl, rfl, by omega, by omega, by unfold Hid; simp [selL, sumP], hb1⟩
      case round =>
        obtain ⟨k, m, hk, rfl, rfl, hm0, hm1, hsel, hb⟩ := hrel
        by_cases hkn : k < n
        · obtain ⟨⟨a, j, s, p⟩, hx⟩ : ∃ x, L[k]? = some x := ⟨_, List.getElem?_eq_getElem (by rw [HN.out]; exact hkn)⟩
          have HX := Lib.hid hx
          have hok := okB_un (HOK.out _ (List.mem_of_getElem? hx))
          obtain ⟨_, _, _, p0, p1⟩ := hok
          obtain ⟨g0, g1, g2, g3⟩ := cells_later hlt hb (cells_at HC.out hx)
          clear hx
          cases hv : isB ⟨a, j, s, p⟩ x y z
          · go_wp2_with (go_at_call 25; refine (l1Is_any _ _ _ _ _ _ _ _).mono ?_; rintro e w' ⟨rfl, hb'⟩)
            go_roundw
            case rel => exact ⟨k + 1, m, by omega, by go_num, rfl, by omega, by omega, by unfold Hid; rw [selL_take_no HX.out hv]; exact hsel.out, hb.trans (hb'.mono hb.size)⟩
            case measure => simp [intOf]; omega
          · go_wp2_with (go_at_call 25; refine (l1Is_any _ _ _ _ _ _ _ _).mono ?_; rintro e w' ⟨rfl, hb'⟩; obtain ⟨r0, r1, r2, r3⟩ := cells_later hlt (hb.trans (hb'.mono hb.size)) (cells_at HC.out HX.out))
            go_roundw
            case rel => exact ⟨k + 1, m + p, by omega, by go_num, by go_num, by omega, by omega, by unfold Hid; rw [selL_take_yes HX.out hv, sumP_snoc, hsel.out], hb.trans (hb'.mono hb.size)⟩
            case measure => simp [intOf]; omega
        · have hfin : sumP (selL L x y z) = m := by
            have := hsel.out
            rw [List.take_of_length_le (by rw [HN.out]; omega)] at this
            omega
          have HF := Lib.hid hfin
          clear hfin
          go_wp2
          go_ret
          exact ⟨ret_int HF.out.symm, hb⟩

end Go.Proofs.Ytmmnhbnoifcgjaa
