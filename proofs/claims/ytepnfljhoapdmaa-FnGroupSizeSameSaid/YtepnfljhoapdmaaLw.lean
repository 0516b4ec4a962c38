/- Contracts of the reference's l2Step, l2Coarser, LadderValid. -/
import Derived.Test.YtepnfljhoapdmaaLv
import Derived.Deep.QuietTactic
import Derived.BigQuiet
import Derived.Deep.RegionWith
namespace Go.Proofs.Ytepnfljhoapdmaa
open Go.RowKit
set_option linter.unusedVariables false

/-- Only draws have been made. -/
def Drw (w w' : World) : Prop := ∃ n, w' = w.drewN n
theorem Drw.refl (w : World) : Drw w w := ⟨0, rfl⟩
theorem Drw.more {w w' : World} (h : Drw w w') (k : Nat) : Drw w (w'.drewN k) := by
  obtain ⟨n, rfl⟩ := h
  exact ⟨_, World.drewN_drewN _ _ _⟩
theorem Drw.cell {w w' : World} (h : Drw w w') (a : Addr) : w'.cell? a = w.cell? a := by
  obtain ⟨n, rfl⟩ := h
  rfl
theorem Drw.seen {w w' : World} (h : Drw w w') {A : Option Addr} {xs : List Value} (hs : Seen w A xs) : Seen w' A xs := by
  obtain ⟨n, rfl⟩ := h
  exact hs
theorem Drw.below {w w' : World} (h : Drw w w') : Below w.heap.size w w' := by
  obtain ⟨n, rfl⟩ := h
  exact below_dr (Below.refl _ _) _
theorem drw_join {w w' : World} {j i : Nat} (h : w' = (w.drewN j).drewN i) : ∃ m, w' = w.drewN m := ⟨_, h.trans (World.drewN_drewN _ _ _)⟩

/-- Only draws. -/
def Drawn1 (v : Value) (w : World) (e : Ending) (w' : World) : Prop := e = .returned v ∧ Drw w w'

theorem rowB_bad {s : List Int} {k : Nat} (hk : k < s.length) (h : okAt s k = false) : rowB s = false := by
  cases e : rowB s with
  | false => rfl
  | true => rw [rowB_iff.1 e k hk] at h; cases h
theorem rowB_done {s : List Int} {k : Nat} (h : ∀ j, j < k → okAt s j = true) (hk : s.length ≤ k) : stepB s = (s.length == 4) := by
  unfold stepB
  rw [rowB_iff.2 fun i hi => h i (by omega)]
  simp
theorem coar_bad {f s : List Int} {k : Nat} (hk : k < 4) (h : (nth s (nth f k) == nth s k) = false) : coarB f s = false := by
  cases e : coarB f s with
  | false => rfl
  | true => rw [coarB_iff.1 e k hk] at h; simp at h

set_option maxHeartbeats 1600000 in
theorem l2Step_any (A : Option Addr) (n c : Nat) (s : List Int) (w : World) (hA : Seen w A (ints s)) (hs : s.length = n) (hm : n ≤ 1099511627776) :
    Calls Try.prog 61 #[.slice A n c] w fun e w' => e = .returned (.bool (stepB s)) ∧ Drw w w' := by
  rcases seen_any hA with h00 | ⟨b, o, rfl, hlt, hc⟩
  · have hn0 : n = 0 := by rw [← hs, ← ints_length, h00]; rfl
    subst hn0
    have e2 : s = [] := List.eq_nil_of_length_eq_zero hs
    have e3 : stepB s = false := by rw [e2]; rfl
    rw [e3]
    clear hA h00 hs e2 e3
    go_enter Try.func61, Try.ntmps61
    go_wp2
    refine wp_loop_rounds 1 ?_
    rw [rounds_succ]
    go_wp2
    go_ret
    exact ⟨rfl, Drw.refl _⟩
  · have HC := Lib.hid (fun (x : Int) (h0 : 0 ≤ x) (h1 : x < s.length) => row_cells hc h0 h1)
    have HS := Lib.hid hs
    clear hA hc hs
    go_enter Try.func61, Try.ntmps61
    go_wp2
    go_loopw [3] (fun i wr => ∃ k : Nat, k ≤ n ∧ i = .int .i64 k ∧ Hid (∀ j, j < k → okAt s j = true) ∧ Drw w wr) (fun i _ => n - (intOf i).toNat)
    case atStart => exact ⟨0, Nat.zero_le _, rfl, fun j hj => by omega, Drw.refl _⟩
    case round =>
      obtain ⟨k, hk, rfl, hok, hdr⟩ := hrel
      by_cases hkn : k < n
      · have gx := (hdr.cell _).trans (HC.out k (by omega) (by rw [HS.out]; omega))
        rw [Int.toNat_natCast] at gx
        obtain ⟨x, hxx⟩ : ∃ x, nth s (k : Int) = x := ⟨_, rfl⟩
        rw [hxx] at gx
        have HXX := Lib.hid hxx
        clear hxx
        have hkR : k < s.length := by rw [HS.out]; exact hkn
        by_cases hx : 0 ≤ x ∧ x ≤ k
        · obtain ⟨hx0, hx1⟩ := hx
          have gy := (hdr.cell _).trans (HC.out x hx0 (by rw [HS.out]; omega))
          obtain ⟨y, hyy⟩ : ∃ y, nth s x = y := ⟨_, rfl⟩
          rw [hyy] at gy
          have HYY := Lib.hid hyy
          have hin : inB x 0 k = true := inB_iff.2 ⟨hx0, hx1⟩
          have hxn : x < (n : Int) := by omega
          have HK := Lib.hid hkR
          clear hyy hkR
          cases hyx : (y != x)
          · obtain rfl : y = x := by simpa using hyx
            have HG := Lib.hid (all_succ hok.out (okAt_iff.2 (by rw [HXX.out, HYY.out]; omega)))
            go_wp2
            go_quiet ((go_at_call 37; exact (l6In_any _ _ _ _).mono fun e w' ⟨he, hw⟩ => ⟨he, _, hw.symm⟩))
            go_wp2
            go_roundw
            case rel => exact ⟨k + 1, by omega, by go_num, HG.out, hdr.more _⟩
            case measure => simp [intOf]; omega
          · have HB := Lib.hid (show stepB s = false by
              unfold stepB
              rw [rowB_bad HK.out (by unfold okAt; rw [HXX.out, HYY.out]; have : (y == x) = false := by simpa using hyx
                                      rw [this]; simp)]
              rfl)
            go_wp2
            go_quiet ((go_at_call 37; exact (l6In_any _ _ _ _).mono fun e w' ⟨he, hw⟩ => ⟨he, _, hw.symm⟩))
            go_wp2
            go_ret
            exact ⟨ret_bool HB.out.symm, hdr.more _⟩
        · have hin : inB x 0 k = false := by
            cases e : inB x 0 k with
            | false => rfl
            | true => exact absurd (inB_iff.1 e) hx
          have HB := Lib.hid (show stepB s = false by
            unfold stepB
            rw [rowB_bad hkR (by
              cases e : okAt s k with
              | false => rfl
              | true => have := okAt_iff.1 e; rw [HXX.out] at this; omega)]
            rfl)
          clear hx hkR
          go_wp2
          go_quiet ((go_at_call 37; exact (l6In_any _ _ _ _).mono fun e w' ⟨he, hw⟩ => ⟨he, _, hw.symm⟩))
          go_wp2
          go_ret
          exact ⟨ret_bool HB.out.symm, hdr.more _⟩
      · have hfin : stepB s = ((n : Int) == 4) := by
          rw [rowB_done hok.out (by rw [HS.out]; omega), HS.out, Bool.eq_iff_iff]
          simp
          omega
        have HF := Lib.hid hfin
        clear hfin
        go_wp2
        go_ret
        exact ⟨ret_bool HF.out.symm, hdr⟩

set_option maxHeartbeats 1600000 in
theorem l2Coarser_any (A A' : Option Addr) (c c' : Nat) (f s : List Int) (w : World) (hA : Seen w A (ints f)) (hA' : Seen w A' (ints s)) (hf : stepB f = true) (hs : s.length = 4) :
    Calls Try.prog 62 #[.slice A 4 c, .slice A' 4 c'] w fun e w' => e = .returned (.bool (coarB f s)) ∧ Drw w w' := by
  obtain ⟨b, o, rfl, hcell⟩ := row_four hA (stepB_iff.1 hf).1
  obtain ⟨b', o', rfl, hcell'⟩ := row_four hA' hs
  have HC := Lib.hid hcell
  have HC' := Lib.hid hcell'
  have HL := Lib.hid (step_lvl hf)
  clear hA hA' hcell hcell' hf hs
  go_enter Try.func62, Try.ntmps62
  go_wp2
  go_loopw [5] (fun i wr => ∃ k : Nat, k ≤ 4 ∧ i = .int .i64 k ∧ Hid (∀ j : Nat, j < k → nth s (nth f j) = nth s j) ∧ Drw w wr) (fun i _ => 4 - (intOf i).toNat)
  case atStart => exact ⟨0, Nat.zero_le _, rfl, fun j hj => by omega, Drw.refl _⟩
  case round =>
    obtain ⟨k, hk, rfl, hok, hdr⟩ := hrel
    by_cases hkn : k < 4
    · have gx := (hdr.cell _).trans (HC.out k (by omega) (by omega))
      have gs := (hdr.cell _).trans (HC'.out k (by omega) (by omega))
      obtain ⟨hx0, hx1, _⟩ := HL.out k (by omega) (by omega)
      rw [Int.toNat_natCast] at gx gs
      have gt := (hdr.cell _).trans (HC'.out _ hx0 (by omega))
      obtain ⟨x, hxx⟩ : ∃ x, nth f (k : Int) = x := ⟨_, rfl⟩
      obtain ⟨y, hyy⟩ : ∃ y, nth s (k : Int) = y := ⟨_, rfl⟩
      rw [hxx] at gx gt hx0 hx1
      rw [hyy] at gs
      obtain ⟨z, hzz⟩ : ∃ z, nth s x = z := ⟨_, rfl⟩
      rw [hzz] at gt
      have HXX := Lib.hid hxx
      have HYY := Lib.hid hyy
      have HZZ := Lib.hid hzz
      have hx4 : x < 4 := by omega
      clear hxx hyy hzz
      cases hzy : (z != y)
      · obtain rfl : z = y := by simpa using hzy
        go_wp2
        go_quiet (fail)
        go_wp2
        go_roundw
        case rel =>
          refine ⟨k + 1, by omega, by go_num, fun j hj => ?_, hdr.more _⟩
          rcases Nat.lt_or_ge j k with hlt | hge
          · exact hok.out j hlt
          · obtain rfl : j = k := by omega
            rw [HXX.out, HYY.out, HZZ.out]
        case measure => simp [intOf]; omega
      · have HB := Lib.hid (coar_bad (f := f) (s := s) hkn (by rw [HXX.out, HYY.out, HZZ.out]; simpa using hzy))
        go_wp2
        go_quiet (fail)
        go_wp2
        go_ret
        exact ⟨ret_bool HB.out.symm, hdr.more _⟩
    · have HF := Lib.hid (coarB_iff.2 fun i hi => hok.out i (by omega))
      go_wp2
      go_ret
      exact ⟨ret_bool HF.out.symm, hdr⟩

theorem seen_drewN {w : World} {A : Option Addr} {xs : List Value} (h : Seen w A xs) (m : Nat) : Seen (w.drewN m) A xs := h

set_option maxHeartbeats 3200000 in
theorem sLadderValid_any (A : Option Addr) (n c : Nat) (R : List Rw) (w : World) (hA : LadS w A R) (hn : R.length = n) (hm : n ≤ 1099511627776) (hr : ∀ r ∈ R, r.s.length ≤ 1099511627776) :
    Calls Try.prog 59 #[.slice A n c] w fun e w' => e = .returned (.bool (ladB (ss R))) ∧ Below w.heap.size w w' := by
  suffices H : Calls Try.prog 59 #[.slice A n c] w (Drawn1 (.bool (ladB (ss R))) w) from H.mono fun e w' ⟨he, hw⟩ => ⟨he, hw.below⟩
  rcases seen_any hA.1 with h00 | ⟨b, o, rfl, hlt, hc⟩
  · have hn0 : n = 0 := by rw [← hn, ← vals_length, h00]; rfl
    subst hn0
    have e2 : ss R = [] := List.eq_nil_of_length_eq_zero (by rw [ss_length, hn])
    rw [e2]
    have e3 : ladB [] = true := rfl
    rw [e3]
    clear hA h00 hn e2 e3 hr
    go_enter Try.func59, Try.ntmps59
    go_wp2
    refine wp_loop_rounds 1 ?_
    rw [rounds_succ]
    go_wp2
    go_ret
    exact ⟨rfl, Drw.refl _⟩
  · have HA := Lib.hid hA
    have HC := Lib.hid hc
    have HN := Lib.hid hn
    have HW := Lib.hid hr
    clear hA hc hn hr
    go_enter Try.func59, Try.ntmps59
    go_wp2
    go_loopw [3] (fun i wr => ∃ k : Nat, k ≤ n ∧ i = .int .i64 k ∧ Hid (∀ j, j < k → okRow (ss R) j = true) ∧ Drw w wr) (fun i _ => n - (intOf i).toNat)
    case atStart => exact ⟨0, Nat.zero_le _, rfl, fun j hj => by omega, Drw.refl _⟩
    case round =>
      obtain ⟨k, hk, rfl, hok, hdr⟩ := hrel
      by_cases hkn : k < n
      · obtain ⟨⟨Ar, cr, s⟩, hx⟩ : ∃ x, R[k]? = some x := ⟨_, List.getElem?_eq_getElem (by rw [HN.out]; exact hkn)⟩
        have g0 := (hdr.cell _).trans (lad_row HC.out hx)
        have hrow := rowOf_get (ss_at hx)
        have hs := hdr.seen (HA.out.2 _ (List.mem_of_getElem? hx))
        have hsw := HW.out _ (List.mem_of_getElem? hx)
        have hkR : k < (ss R).length := by rw [ss_length, HN.out]; exact hkn
        simp only at g0 hrow hs hsw
        obtain ⟨q, hq⟩ : ∃ q, s.length = q := ⟨_, rfl⟩
        rw [hq] at g0 hsw
        have HS := Lib.hid hs
        have HQ := Lib.hid hq
        have HR := Lib.hid hrow
        have HK := Lib.hid hkR
        clear hx hrow hs hq hkR
        cases hst : stepB s
        · have HB := Lib.hid (ladB_bad HK.out (by unfold okRow; rw [HR.out, hst]; rfl))
          go_wp2
          go_quiet ((go_at_call 61; exact (l2Step_any _ _ _ s _ (seen_drewN HS.out _) HQ.out hsw).mono fun e w' ⟨he, i, hw⟩ => ⟨by rw [he, hst], drw_join hw⟩))
          go_wp2
          go_ret
          exact ⟨ret_bool HB.out.symm, hdr.more _⟩
        · have hq4 := (stepB_iff.1 hst).1
          rw [HQ.out] at hq4
          subst hq4
          rcases Nat.eq_zero_or_pos k with hk0 | hk0
          · have hk1 : ¬ (0 : Int) < (k : Int) := by omega
            have hkd : decide ((0 : Int) < (k : Int)) = false := by simpa using hk1
            have hkd' : decide (0 < k) = false := by simp; omega
            have HG := Lib.hid (all_succ hok.out (show okRow (ss R) k = true by unfold okRow; rw [HR.out, hst, hk0]; rfl))
            clear hk0
            go_wp2
            go_quiet ((go_at_call 61; exact (l2Step_any _ _ _ s _ (seen_drewN HS.out _) HQ.out hsw).mono fun e w' ⟨he, i, hw⟩ => ⟨by rw [he, hst], drw_join hw⟩))
            go_wp2
            go_roundw
            case rel => exact ⟨k + 1, by omega, by go_num, HG.out, hdr.more _⟩
            case measure => simp [intOf]; omega
          · obtain ⟨⟨Ap, cp, t⟩, hy⟩ : ∃ x, R[k - 1]? = some x := ⟨_, List.getElem?_eq_getElem (by rw [HN.out]; omega)⟩
            have g1 := (hdr.cell _).trans (lad_row HC.out hy)
            have hrow' := rowOf_get (ss_at hy)
            have hs' := hdr.seen (HA.out.2 _ (List.mem_of_getElem? hy))
            have hprev := (okRow_iff.1 (hok.out (k - 1) (by omega))).1
            simp only at g1 hrow' hs'
            rw [hrow'] at hprev
            rw [(stepB_iff.1 hprev).1] at g1
            have HP := Lib.hid hprev
            have HS' := Lib.hid hs'
            have HR' := Lib.hid hrow'
            have hk1 : (0 : Int) < (k : Int) := by omega
            clear hy hrow' hs' hprev
            have hor : okRow (ss R) k = coarB t s := by
              unfold okRow; rw [HR.out, HR'.out, hst]
              have : (k == 0) = false := by simp; omega
              rw [this]; simp
            have HO := Lib.hid hor
            clear hor
            have ew : IntKind.i64.wrap ((k : Int) - 1) = (k : Int) - 1 := IntWalk.i64_in _ ⟨by omega, by omega⟩
            have e0 : 0 ≤ (k : Int) - 1 := by omega
            have e1 : (k : Int) - 1 < (n : Int) := by omega
            have e2 : ((k : Int) - 1).toNat = k - 1 := by omega
            have EW := Lib.hid (And.intro ew e2)
            clear ew e2
            cases hco : coarB t s
            · have HB := Lib.hid (ladB_bad HK.out (HO.out.trans hco))
              go_wp2
              obtain ⟨ew, e2⟩ := EW.out
              go_quiet ((first | (go_at_call 61; exact (l2Step_any _ _ _ s _ (seen_drewN HS.out _) HQ.out hsw).mono fun e w' ⟨he, i, hw⟩ => ⟨by rw [he, hst], drw_join hw⟩) | (go_at_call 62; exact (l2Coarser_any _ _ _ _ t s _ (seen_drewN HS'.out _) (seen_drewN HS.out _) HP.out HQ.out).mono fun e w' ⟨he, i, hw⟩ => ⟨by rw [he, hco], drw_join hw⟩)))
              clear ew e2
              go_wp2
              go_ret
              exact ⟨ret_bool HB.out.symm, hdr.more _⟩
            · have HG := Lib.hid (all_succ hok.out (HO.out.trans hco))
              go_wp2
              obtain ⟨ew, e2⟩ := EW.out
              go_quiet ((first | (go_at_call 61; exact (l2Step_any _ _ _ s _ (seen_drewN HS.out _) HQ.out hsw).mono fun e w' ⟨he, i, hw⟩ => ⟨by rw [he, hst], drw_join hw⟩) | (go_at_call 62; exact (l2Coarser_any _ _ _ _ t s _ (seen_drewN HS'.out _) (seen_drewN HS.out _) HP.out HQ.out).mono fun e w' ⟨he, i, hw⟩ => ⟨by rw [he, hco], drw_join hw⟩)))
              clear ew e2
              go_wp2
              go_roundw
              case rel => exact ⟨k + 1, by omega, by go_num, HG.out, hdr.more _⟩
              case measure => simp [intOf]; omega
      · have hfin : ladB (ss R) = decide ((n : Int) ≤ 3) := by
          rw [Bool.eq_iff_iff, ladB_iff, ss_length, HN.out, decide_eq_true_eq]
          exact ⟨fun h => by omega, fun h => ⟨by omega, fun j hj => hok.out j (by omega)⟩⟩
        have HF := Lib.hid hfin
        clear hfin
        go_wp2
        go_ret
        exact ⟨ret_bool HF.out.symm, hdr⟩

end Go.Proofs.Ytepnfljhoapdmaa
