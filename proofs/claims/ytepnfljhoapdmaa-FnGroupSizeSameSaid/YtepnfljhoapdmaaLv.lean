/- Contract of the program's LadderValid. -/
import Derived.Test.YtepnfljhoapdmaaLr
namespace Go.Proofs.Ytepnfljhoapdmaa
open Go.RowKit
set_option linter.unusedVariables false

/-- What the program asks at code c of row k. -/
def chk (R : List (List Int)) (k c : Nat) : Bool := okAt (rowOf R k) c && (k == 0 || nth (rowOf R k) (nth (rowOf R (k - 1)) c) == nth (rowOf R k) c)
theorem okRow_chk {R : List (List Int)} {k : Nat} : okRow R k = true ↔ (rowOf R k).length = 4 ∧ ∀ c, c < 4 → chk R k c = true := by
  rw [okRow_iff, stepB_iff]
  constructor
  · rintro ⟨⟨h1, h2⟩, h3⟩
    refine ⟨h1, fun c hc => ?_⟩
    unfold chk
    rw [h2 c hc]
    by_cases hk : k = 0
    · simp [hk]
    · have := coarB_iff.1 (h3 (by omega)) c hc
      simp [this]
  · rintro ⟨h1, h2⟩
    refine ⟨⟨h1, fun c hc => ?_⟩, fun hk => coarB_iff.2 fun c hc => ?_⟩
    · have := h2 c hc
      unfold chk at this
      simp only [Bool.and_eq_true] at this
      exact this.1
    · have := h2 c hc
      unfold chk at this
      simp only [Bool.and_eq_true, Bool.or_eq_true, beq_iff_eq] at this
      exact this.2.resolve_left (by omega)
theorem okRow_short {R : List (List Int)} {k : Nat} (h : (rowOf R k).length ≠ 4) : okRow R k = false := by
  cases e : okRow R k with
  | false => rfl
  | true => exact absurd (okRow_chk.1 e).1 h
theorem okRow_bad {R : List (List Int)} {k c : Nat} (hc : c < 4) (h : chk R k c = false) : okRow R k = false := by
  cases e : okRow R k with
  | false => rfl
  | true => rw [(okRow_chk.1 e).2 c hc] at h; cases h
theorem all_succ {p : Nat → Bool} {k : Nat} (h : ∀ j, j < k → p j = true) (hk : p k = true) : ∀ j, j < k + 1 → p j = true := fun j hj => by
  rcases Nat.lt_or_ge j k with hlt | hge
  · exact h j hlt
  · obtain rfl : j = k := by omega
    exact hk
theorem lad_done {R : List (List Int)} {k : Nat} (h : ∀ j, j < k → okRow R j = true) (hk : R.length ≤ k) (h3 : R.length ≤ 3) : ladB R = true := ladB_iff.2 ⟨h3, fun j hj => h j (by omega)⟩

/-- The cells of a row, by the number. -/
theorem row_cells {w : World} {b o : Nat} {s : List Int} (hc : ∀ (j : Nat) (u : Value), (ints s)[j]? = some u → w.cell? ⟨b, o + j, none⟩ = some u) {x : Int} (h0 : 0 ≤ x) (h1 : x < s.length) : w.cell? ⟨b, o + x.toNat, none⟩ = some (.int .i64 (nth s x)) := by
  have := hc x.toNat _ (ints_get (nth_some (s := s) (k := x.toNat) (by omega)))
  rw [show ((x.toNat : Nat) : Int) = x by omega] at this
  exact this

/-- A row of four numbers in memory. -/
theorem row_four {w : World} {A : Option Addr} {s : List Int} (h : Seen w A (ints s)) (h4 : s.length = 4) : ∃ b o, A = some ⟨b, o, none⟩ ∧ ∀ x : Int, 0 ≤ x → x ≤ 3 → w.cell? ⟨b, o + x.toNat, none⟩ = some (.int .i64 (nth s x)) := by
  obtain ⟨b, o, e, _, hc⟩ := h (by rw [ints_length]; omega)
  exact ⟨b, o, e, fun x h0 h3 => row_cells hc h0 (by omega)⟩
theorem lad_row {w : World} {b o : Nat} {R : List Rw} (hc : ∀ (j : Nat) (u : Value), (vals R)[j]? = some u → w.cell? ⟨b, o + j, none⟩ = some u) {k : Nat} {r : Rw} (hx : R[k]? = some r) : w.cell? ⟨b, o + k, none⟩ = some (.slice r.A r.s.length r.c) := hc k _ (vals_at hx)

set_option maxHeartbeats 3200000 in
theorem ladderValid_any (A : Option Addr) (n c : Nat) (R : List Rw) (w : World) (hA : LadS w A R) (hn : R.length = n) (hm : n ≤ 1099511627776) (hr : ∀ r ∈ R, r.s.length ≤ 1099511627776) :
    Calls Try.prog 51 #[.slice A n c] w fun e w' => e = .returned (.bool (ladB (ss R))) ∧ w = w' := by
  by_cases h3 : 3 < n
  · rw [ladB_long (by rw [ss_length, hn]; exact h3)]
    have h3' : (3 : Int) < (n : Int) := by omega
    clear hA hn hr
    go_enter Try.func51, Try.ntmps51
    go_wp2
    go_ret
    exact ⟨rfl, rfl⟩
  · have h3' : ¬ (3 : Int) < (n : Int) := by omega
    rcases seen_any hA.1 with h00 | ⟨b, o, rfl, hlt, hc⟩
    · have hn0 : n = 0 := by rw [← hn, ← vals_length, h00]; rfl
      subst hn0
      have e2 : ss R = [] := List.eq_nil_of_length_eq_zero (by rw [ss_length, hn])
      rw [e2]
      have e3 : ladB [] = true := rfl
      rw [e3]
      clear hA h00 hn e2 e3 hr
      go_enter Try.func51, Try.ntmps51
      go_wp2
      refine wp_loop_rounds 1 ?_
      rw [rounds_succ]
      go_wp2
      go_ret
      exact ⟨rfl, rfl⟩
    · have HA := Lib.hid hA
      have HC := Lib.hid hc
      have HN := Lib.hid hn
      have HW := Lib.hid hr
      clear hA hc hn hr
      go_enter Try.func51, Try.ntmps51
      go_wp2
      go_loop [12] (fun i => ∃ k : Nat, k ≤ n ∧ i = .int .i64 k ∧ Hid (∀ j, j < k → okRow (ss R) j = true)) (fun i => n - (intOf i).toNat)
      case atStart => exact ⟨0, Nat.zero_le _, rfl, fun j hj => by omega⟩
      case round =>
        obtain ⟨k, hk, rfl, hok⟩ := hrel
        by_cases hkn : k < n
        · obtain ⟨⟨Ar, cr, s⟩, hx⟩ : ∃ x, R[k]? = some x := ⟨_, List.getElem?_eq_getElem (by rw [HN.out]; exact hkn)⟩
          have g0 := lad_row HC.out hx
          have hrow := rowOf_get (ss_at hx)
          have hs := HA.out.2 _ (List.mem_of_getElem? hx)
          have hsw := HW.out _ (List.mem_of_getElem? hx)
          have hkR : k < (ss R).length := by rw [ss_length, HN.out]; exact hkn
          simp only at g0 hrow hs hsw
          by_cases h4 : s.length = 4
          · rw [h4] at g0
            obtain ⟨b', o', rfl, hcell⟩ := row_four hs h4
            have HX := Lib.hid hcell
            have HR := Lib.hid hrow
            have H4 := Lib.hid h4
            clear hx hrow hs h4 hcell hsw
            rcases Nat.eq_zero_or_pos k with hk0 | hk0
            · have H0 := Lib.hid hk0
              have hk1 : ¬ (0 : Int) < (k : Int) := by omega
              clear hk0
              go_wp2
              go_loop [22] (fun i => ∃ c : Nat, c ≤ 4 ∧ i = .int .i64 c ∧ Hid (∀ j, j < c → chk (ss R) k j = true)) (fun i => 4 - (intOf i).toNat)
              case atStart => exact ⟨0, by omega, rfl, fun j hj => by omega⟩
              case round =>
                obtain ⟨q, hq, rfl, hall⟩ := hrel
                by_cases hq4 : q < 4
                · have gx := HX.out q (by omega) (by omega)
                  rw [Int.toNat_natCast] at gx
                  have hchk : chk (ss R) k q = okAt s q := by
                    unfold chk; rw [HR.out]
                    have : (k == 0) = true := by simp [H0.out]
                    rw [this]; simp
                  have HK := Lib.hid hchk
                  clear hchk
                  obtain ⟨x, hxx⟩ : ∃ x, nth s (q : Int) = x := ⟨_, rfl⟩
                  rw [hxx] at gx
                  have HXX := Lib.hid hxx
                  clear hxx
                  by_cases hx0 : x < 0
                  · have hbad : chk (ss R) k q = false := by rw [HK.out]; unfold okAt; rw [HXX.out]; simp; omega
                    have HB := Lib.hid (ladB_bad hkR (okRow_bad hq4 hbad))
                    clear hbad
                    go_wp2
                    go_ret
                    exact ⟨ret_bool HB.out.symm, rfl⟩
                  · by_cases hx1 : (q : Int) < x
                    · have hbad : chk (ss R) k q = false := by rw [HK.out]; unfold okAt; rw [HXX.out]; simp; omega
                      have HB := Lib.hid (ladB_bad hkR (okRow_bad hq4 hbad))
                      clear hbad
                      go_wp2
                      go_ret
                      exact ⟨ret_bool HB.out.symm, rfl⟩
                    · have gy := HX.out x (by omega) (by omega)
                      obtain ⟨y, hyy⟩ : ∃ y, nth s x = y := ⟨_, rfl⟩
                      rw [hyy] at gy
                      have HYY := Lib.hid hyy
                      clear hyy
                      cases hyx : (y != x)
                      · obtain rfl : y = x := by simpa using hyx
                        have hgood : chk (ss R) k q = true := by rw [HK.out, okAt_iff, HXX.out, HYY.out]; omega
                        have HG := Lib.hid (all_succ hall.out hgood)
                        clear hgood
                        go_wp2
                        go_round
                        case rel => exact ⟨q + 1, by omega, by go_num, HG.out⟩
                        case measure => simp [intOf]; omega
                      · have hbad : chk (ss R) k q = false := by
                          rw [HK.out]; unfold okAt; rw [HXX.out, HYY.out]
                          have : (y == x) = false := by simpa using hyx
                          rw [this]; simp
                        have HB := Lib.hid (ladB_bad hkR (okRow_bad hq4 hbad))
                        clear hbad
                        go_wp2
                        go_ret
                        exact ⟨ret_bool HB.out.symm, rfl⟩
                · obtain rfl : q = 4 := by omega
                  have HG := Lib.hid (all_succ hok.out (okRow_chk.2 ⟨by rw [HR.out]; exact H4.out, hall.out⟩))
                  go_wp2
                  go_round
                  case rel => exact ⟨k + 1, by omega, by go_num, HG.out⟩
                  case measure => simp [intOf]; omega
            · obtain ⟨⟨Ap, cp, t⟩, hy⟩ : ∃ x, R[k - 1]? = some x := ⟨_, List.getElem?_eq_getElem (by rw [HN.out]; omega)⟩
              have g1 := lad_row HC.out hy
              have hrow' := rowOf_get (ss_at hy)
              have hs' := HA.out.2 _ (List.mem_of_getElem? hy)
              have hprev := okRow_chk.1 (hok.out (k - 1) (by omega))
              simp only at g1 hrow' hs'
              rw [hrow'] at hprev
              rw [hprev.1] at g1
              obtain ⟨b2, o2, rfl, hcell'⟩ := row_four hs' hprev.1
              have HP := Lib.hid hcell'
              have HL := Lib.hid (okRow_iff.1 (hok.out (k - 1) (by omega))).1
              have HR' := Lib.hid hrow'
              clear hy hrow' hs' hcell' hprev
              have hk1 : (0 : Int) < (k : Int) := by omega
              go_wp2
              go_loop [22] (fun i => ∃ c : Nat, c ≤ 4 ∧ i = .int .i64 c ∧ Hid (∀ j, j < c → chk (ss R) k j = true)) (fun i => 4 - (intOf i).toNat)
              case atStart => exact ⟨0, by omega, rfl, fun j hj => by omega⟩
              case round =>
                obtain ⟨q, hq, rfl, hall⟩ := hrel
                by_cases hq4 : q < 4
                · have gx := HX.out q (by omega) (by omega)
                  rw [Int.toNat_natCast] at gx
                  have hchk : chk (ss R) k q = (okAt s q && nth s (nth t q) == nth s q) := by
                    unfold chk; rw [HR.out, HR'.out]
                    have : (k == 0) = false := by simp; omega
                    rw [this]; simp
                  have HK := Lib.hid hchk
                  clear hchk
                  obtain ⟨x, hxx⟩ : ∃ x, nth s (q : Int) = x := ⟨_, rfl⟩
                  rw [hxx] at gx
                  have HXX := Lib.hid hxx
                  clear hxx
                  by_cases hx0 : x < 0
                  · have hbad : chk (ss R) k q = false := by rw [HK.out]; unfold okAt; rw [HXX.out]; simp; omega
                    have HB := Lib.hid (ladB_bad hkR (okRow_bad hq4 hbad))
                    clear hbad
                    go_wp2
                    go_ret
                    exact ⟨ret_bool HB.out.symm, rfl⟩
                  · by_cases hx1 : (q : Int) < x
                    · have hbad : chk (ss R) k q = false := by rw [HK.out]; unfold okAt; rw [HXX.out]; simp; omega
                      have HB := Lib.hid (ladB_bad hkR (okRow_bad hq4 hbad))
                      clear hbad
                      go_wp2
                      go_ret
                      exact ⟨ret_bool HB.out.symm, rfl⟩
                    · have gy := HX.out x (by omega) (by omega)
                      obtain ⟨y, hyy⟩ : ∃ y, nth s x = y := ⟨_, rfl⟩
                      rw [hyy] at gy
                      have HYY := Lib.hid hyy
                      clear hyy
                      cases hyx : (y != x)
                      · obtain rfl : y = x := by simpa using hyx
                        have gz := HP.out q (by omega) (by omega)
                        rw [Int.toNat_natCast] at gz
                        obtain ⟨z, hzz⟩ : ∃ z, nth t (q : Int) = z := ⟨_, rfl⟩
                        rw [hzz] at gz
                        obtain ⟨hz0, hz1, _⟩ := step_lvl HL.out q (by omega) (by omega)
                        rw [HR'.out, hzz] at hz0 hz1
                        have HZZ := Lib.hid hzz
                        clear hzz
                        have gt := HX.out z (by omega) (by omega)
                        obtain ⟨v, hvv⟩ : ∃ v, nth s z = v := ⟨_, rfl⟩
                        rw [hvv] at gt
                        have HVV := Lib.hid hvv
                        clear hvv
                        cases hvx : (v != y)
                        · obtain rfl : v = y := by simpa using hvx
                          have hgood : chk (ss R) k q = true := by
                            rw [HK.out, Bool.and_eq_true, okAt_iff, HXX.out, HYY.out, HZZ.out, HVV.out]
                            exact ⟨by omega, by simp⟩
                          have HG := Lib.hid (all_succ hall.out hgood)
                          clear hgood
                          go_wp2
                          go_round
                          case rel => exact ⟨q + 1, by omega, by go_num, HG.out⟩
                          case measure => simp [intOf]; omega
                        · have hbad : chk (ss R) k q = false := by
                            rw [HK.out, HXX.out, HZZ.out, HVV.out]
                            have : (v == y) = false := by simpa using hvx
                            rw [this]; simp
                          have HB := Lib.hid (ladB_bad hkR (okRow_bad hq4 hbad))
                          clear hbad
                          go_wp2
                          go_ret
                          exact ⟨ret_bool HB.out.symm, rfl⟩
                      · have hbad : chk (ss R) k q = false := by
                          rw [HK.out]; unfold okAt; rw [HXX.out, HYY.out]
                          have : (y == x) = false := by simpa using hyx
                          rw [this]; simp
                        have HB := Lib.hid (ladB_bad hkR (okRow_bad hq4 hbad))
                        clear hbad
                        go_wp2
                        go_ret
                        exact ⟨ret_bool HB.out.symm, rfl⟩
                · obtain rfl : q = 4 := by omega
                  have HG := Lib.hid (all_succ hok.out (okRow_chk.2 ⟨by rw [HR.out]; exact H4.out, hall.out⟩))
                  go_wp2
                  go_round
                  case rel => exact ⟨k + 1, by omega, by go_num, HG.out⟩
                  case measure => simp [intOf]; omega
          · have HB := Lib.hid (ladB_bad hkR (okRow_short (by rw [hrow]; exact h4)))
            have h4' : ((s.length : Int) != 4) = true := by simp; omega
            clear hx hrow hs h4
            generalize s.length = q at g0 h4' hsw
            go_wp2
            go_ret
            exact ⟨ret_bool HB.out.symm, rfl⟩
        · have HF := Lib.hid (lad_done hok.out (by rw [ss_length, HN.out]; omega) (by rw [ss_length, HN.out]; omega))
          go_wp2
          go_ret
          exact ⟨ret_bool HF.out.symm, rfl⟩

end Go.Proofs.Ytepnfljhoapdmaa
