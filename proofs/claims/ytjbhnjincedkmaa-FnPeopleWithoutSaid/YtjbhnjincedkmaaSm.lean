/- Contracts of the program's PeopleMany, PeoplePay. -/
import Derived.Test.YtjbhnjincedkmaaSe
namespace Go.Proofs.Ytjbhnjincedkmaa
open Go.RowKit
set_option linter.unusedVariables false

set_option maxHeartbeats 800000 in
theorem peopleMany_any (A : Option Addr) (n c : Nat) (L : List Pers) (x y z : Int) (w : World) (hA : Seen w A (pcells L)) (hn : L.length = n) (hm : n ≤ 1099511627776) :
    Calls Try.prog 16 #[.slice A n c, .int .i64 x, .int .i64 y, .int .i64 z] w fun e w' => e = .returned (.int .i64 (manyI L x y z)) ∧ Below w.heap.size w w' := by
  cases h12 : peopleB L && askB x y z
  · rw [manyI_no h12]
    go_enter Try.func16, Try.ntmps16
    go_wp2_with fail
    refine (selected_any A n c L x y z w hA hn hm).mono ?_
    rintro e w1 ⟨A1, m, c1, rfl, hs, hb⟩
    rw [h12]
    clear hs
    go_wp2
    go_ret
    exact ⟨rfl, hb⟩
  · have h12' := h12
    simp only [Bool.and_eq_true] at h12'
    rw [manyI_yes h12'.1 h12'.2]
    go_enter Try.func16, Try.ntmps16
    go_wp2_with fail
    refine (selected_any A n c L x y z w hA hn hm).mono ?_
    rintro e w1 ⟨A1, m, c1, rfl, hs, hb⟩
    have hs := hs h12
    rw [h12]
    have HS := Lib.hid hs
    clear hs
    go_wp2
    go_ret
    exact ⟨ret_int (by rw [HS.out.1]), hb⟩

/-- At the head of each round: the pays of the first k have been added up. -/
def PayRel (n : Nat) (M : List Pers) (w0 : World) (t i : Value) (wr : World) : Prop :=
  ∃ (k : Nat) (m : Int), k ≤ n ∧ i = .int .i64 k ∧ t = .int .i64 m ∧ 0 ≤ m ∧ m ≤ 999 * k ∧ Hid (sumP (M.take k) = m) ∧ Below w0.heap.size w0 wr

set_option maxHeartbeats 1600000 in
theorem peoplePay_any (A : Option Addr) (n c : Nat) (L : List Pers) (x y z : Int) (w : World) (hA : Seen w A (pcells L)) (hn : L.length = n) (hm : n ≤ 1099511627776) :
    Calls Try.prog 17 #[.slice A n c, .int .i64 x, .int .i64 y, .int .i64 z] w fun e w' => e = .returned (.int .i64 (payI L x y z)) ∧ Below w.heap.size w w' := by
  cases h12 : peopleB L && askB x y z
  · rw [payI_no h12]
    go_enter Try.func17, Try.ntmps17
    go_wp2_with fail
    refine (selected_any A n c L x y z w hA hn hm).mono ?_
    rintro e w1 ⟨A1, m, c1, rfl, hs, hb⟩
    rw [h12]
    clear hs
    go_wp2
    go_ret
    exact ⟨rfl, hb⟩
  · have h12' := h12
    simp only [Bool.and_eq_true] at h12'
    rw [payI_yes h12'.1 h12'.2]
    have hok := selL_ok (peopleB_iff.1 h12'.1).1 x y z
    have hl40 : (selL L x y z).length ≤ 40 := Nat.le_trans (selL_len _ _ _ _) (peopleB_iff.1 h12'.1).2
    have HL := Lib.hid h12'
    have HOK := Lib.hid hok
    clear h12' hok
    go_enter Try.func17, Try.ntmps17
    go_wp2_with fail
    refine (selected_any A n c L x y z w hA hn hm).mono ?_
    rintro e w1 ⟨A1, m, c1, rfl, hs, hb1⟩
    obtain ⟨hml, hs⟩ := hs h12
    rw [h12]
    have hm40 : m ≤ 40 := by omega
    have HM := Lib.hid hml
    clear hml hl40 h12
    rcases seen_cases hs with h0 | ⟨b, o, rfl, hlt, hc⟩
    · obtain rfl : m = 0 := by rw [← HM.out, h0]; rfl
      have H0 := Lib.hid h0
      clear h0 hs
      go_wp2_with fail
      refine wp_loop_rounds 1 ?_
      rw [rounds_succ]
      go_wp2
      go_ret
      exact ⟨ret_int (by rw [H0.out]; rfl), hb1⟩
    · have HC := Lib.hid hc
      clear hs hc
      go_wp2_with fail
      go_loopw [11, 26] (fun t i wr => PayRel m (selL L x y z) w1 t i wr) (fun _ i _ => m - (intOf i).toNat)
      case atStart => exact ⟨0, 0, Nat.zero_le _, rfl, rfl, by omega, by omega, by unfold Hid; simp [sumP], Below.refl _ _⟩
      case round =>
        obtain ⟨k, q, hk, rfl, rfl, hq0, hq1, hsum, hbr⟩ := hrel
        by_cases hkn : k < m
        · obtain ⟨⟨a, j, s, p⟩, hx⟩ : ∃ t, (selL L x y z)[k]? = some t := ⟨_, List.getElem?_eq_getElem (by rw [HM.out]; exact hkn)⟩
          have HX := Lib.hid hx
          obtain ⟨_, _, _, p0, p1⟩ := okB_un (HOK.out _ (List.mem_of_getElem? hx))
          obtain ⟨g0, g1, g2, g3⟩ := cells_later hlt hbr (cells_at HC.out hx)
          clear hx
          go_wp2
          have R : PayRel m (selL L x y z) w1 (.int .i64 (q + p)) (.int .i64 ((k : Int) + 1)) (wr.alloc (.cells #[.int .i64 a, .int .i64 j, .int .i64 s, .int .i64 p] 36)) := by
            refine ⟨k + 1, q + p, by omega, by go_num, rfl, by omega, by omega, ?_, hbr.trans ((below_new wr _).mono hbr.size)⟩
            unfold Hid
            rw [List.take_add_one, HX.out, Option.toList_some, sumP_snoc, hsum.out]
          go_roundw
          case rel => first | exact R | ((repeat apply Exists.intro); first | exact ⟨R, rfl⟩ | exact ⟨R, rfl, rfl⟩ | exact ⟨R, rfl, rfl, rfl⟩)
          case measure => simp [intOf]; omega
        · have hfin : sumP (selL L x y z) = q := by
            have := hsum.out
            rw [List.take_of_length_le (by rw [HM.out]; omega)] at this
            exact this
          have HF := Lib.hid hfin
          clear hfin
          go_wp2
          go_ret
          exact ⟨ret_int HF.out.symm, hb1.trans (hbr.mono hb1.size)⟩

end Go.Proofs.Ytjbhnjincedkmaa
