/- Contracts of eqIntS, eqIntSS: comparing rows. -/
import Derived.Test.YtepnfljhoapdmaaLr
import Derived.Deep.QuietTactic
import Derived.BigQuiet
import Derived.Deep.RegionWith
namespace Go.Proofs.Ytepnfljhoapdmaa
open Go.RowKit
set_option linter.unusedVariables false

theorem eqi_take {α : Type} {L M : List α} {k : Nat} {x : α} (h : L.take k = M.take k) (hx : L[k]? = some x) (hy : M[k]? = some x) : L.take (k + 1) = M.take (k + 1) := by
  rw [List.take_add_one, List.take_add_one, hx, hy, h]
theorem eqi_no {α : Type} [DecidableEq α] {L M : List α} {k : Nat} {x y : α} (hx : L[k]? = some x) (hy : M[k]? = some y) (hne : x ≠ y) : decide (L = M) = false := by
  simp only [decide_eq_false_iff_not]
  rintro rfl
  rw [hx] at hy
  injection hy with hy
  exact hne hy
theorem eqi_yes {α : Type} [DecidableEq α] {L M : List α} {k : Nat} (hl : L.length = k) (hm : M.length = k) (h : L.take k = M.take k) : decide (L = M) = true := by
  rw [List.take_of_length_le (by omega), List.take_of_length_le (by omega)] at h
  simpa using h
theorem eqi_len {α : Type} [DecidableEq α] {L M : List α} (h : L.length ≠ M.length) : decide (L = M) = false := by
  simp only [decide_eq_false_iff_not]
  rintro rfl
  exact h rfl

set_option maxHeartbeats 800000 in
theorem eqIntS_any (A A' : Option Addr) (n n' c c' : Nat) (s t : List Int) (w : World) (hA : Seen w A (ints s)) (hA' : Seen w A' (ints t)) (hs : s.length = n) (ht : t.length = n') (hm : n ≤ 1099511627776) (hm' : n' ≤ 1099511627776) :
    Calls Try.prog 36 #[.slice A n c, .slice A' n' c'] w fun e w' => e = .returned (.bool (decide (s = t))) ∧ Below w.heap.size w w' := by
  by_cases hlen : n = n'
  · subst hlen
    rcases seen_any hA with h00 | ⟨b, o, rfl, hlt, hc⟩
    · have hn0 : n = 0 := by rw [← hs, ← ints_length, h00]; rfl
      subst hn0
      have e1 : decide (s = t) = true := eqi_yes hs ht rfl
      rw [e1]
      clear hA hA' hs ht e1 h00
      go_enter Try.func36, Try.ntmps36
      go_wp2
      refine wp_loop_rounds 1 ?_
      rw [rounds_succ]
      go_wp2
      go_ret
      exact ⟨rfl, Below.refl _ _⟩
    · rcases seen_any hA' with h00 | ⟨b', o', rfl, hlt', hc'⟩
      · have hn0 : n = 0 := by rw [← ht, ← ints_length, h00]; rfl
        subst hn0
        have e1 : decide (s = t) = true := eqi_yes hs ht rfl
        rw [e1]
        clear hA hA' hs ht e1 h00 hc
        go_enter Try.func36, Try.ntmps36
        go_wp2
        refine wp_loop_rounds 1 ?_
        rw [rounds_succ]
        go_wp2
        go_ret
        exact ⟨rfl, Below.refl _ _⟩
      · have HS := Lib.hid hs
        have HT := Lib.hid ht
        have HC := Lib.hid hc
        have HC' := Lib.hid hc'
        have hne : ((n : Int) != (n : Int)) = false := by simp
        clear hs ht hc hc' hA hA' hm'
        go_enter Try.func36, Try.ntmps36
        go_wp2
        go_loopw [5] (fun i wr => ∃ k : Nat, k ≤ n ∧ i = .int .i64 k ∧ Hid (s.take k = t.take k) ∧ Below w.heap.size w wr) (fun i _ => n - (intOf i).toNat)
        case atStart => exact ⟨0, Nat.zero_le _, rfl, by unfold Hid; simp, Below.refl _ _⟩
        case round =>
          obtain ⟨k, hk, rfl, hok, hb⟩ := hrel
          by_cases hkn : k < n
          · obtain ⟨x, hx⟩ : ∃ x, s[k]? = some x := ⟨_, List.getElem?_eq_getElem (by rw [HS.out]; exact hkn)⟩
            obtain ⟨y, hy⟩ : ∃ x, t[k]? = some x := ⟨_, List.getElem?_eq_getElem (by rw [HT.out]; exact hkn)⟩
            have HX := Lib.hid hx
            have HY := Lib.hid hy
            have g0 := (hb.cell (p := ⟨b, o + k, none⟩) hlt).trans (HC.out _ _ (ints_get hx))
            have g1 := (hb.cell (p := ⟨b', o' + k, none⟩) hlt').trans (HC'.out _ _ (ints_get hy))
            clear hx hy
            cases hv : (x != y)
            · obtain rfl : x = y := by simpa using hv
              go_wp2
              go_quiet (fail)
              go_wp2
              go_roundw
              case rel => exact ⟨k + 1, by omega, by go_num, eqi_take hok.out HX.out HY.out, below_dr hb _⟩
              case measure => simp [intOf]; omega
            · go_wp2
              go_quiet (fail)
              go_wp2
              go_ret
              exact ⟨ret_bool (eqi_no HX.out HY.out (by simpa using hv)).symm, below_dr hb _⟩
          · have hfin : decide (s = t) = true := eqi_yes (k := k) (by rw [HS.out]; omega) (by rw [HT.out]; omega) hok.out
            have HF := Lib.hid hfin
            clear hfin
            go_wp2
            go_ret
            exact ⟨ret_bool HF.out.symm, hb⟩
  · have hfin : decide (s = t) = false := eqi_len (by rw [hs, ht]; exact hlen)
    have HF := Lib.hid hfin
    have hne : ((n : Int) != (n' : Int)) = true := by simp; omega
    clear hfin hlen hA hA' hs ht
    go_enter Try.func36, Try.ntmps36
    go_wp2
    go_ret
    exact ⟨ret_bool HF.out.symm, Below.refl _ _⟩

set_option maxHeartbeats 800000 in
theorem eqIntSS_any (A A' : Option Addr) (n n' c c' : Nat) (R S : List Rw) (w : World) (hA : LadS w A R) (hA' : LadS w A' S) (hs : R.length = n) (ht : S.length = n') (hm : n ≤ 1048576) (hm' : n' ≤ 1048576)
    (hr : ∀ r ∈ R, r.s.length ≤ 1048576) (hr' : ∀ r ∈ S, r.s.length ≤ 1048576) :
    Calls Try.prog 21 #[.slice A n c, .slice A' n' c'] w fun e w' => e = .returned (.bool (decide (ss R = ss S))) ∧ Below w.heap.size w w' := by
  by_cases hlen : n = n'
  · subst hlen
    rcases seen_any hA.1 with h00 | ⟨b, o, rfl, hlt, hc⟩
    · have hn0 : n = 0 := by rw [← hs, ← vals_length, h00]; rfl
      subst hn0
      have e1 : decide (ss R = ss S) = true := eqi_yes (k := 0) (by rw [ss_length]; exact hs) (by rw [ss_length]; exact ht) rfl
      rw [e1]
      clear hA hA' hs ht e1 h00 hr hr'
      go_enter Try.func21, Try.ntmps21
      go_wp2
      refine wp_loop_rounds 1 ?_
      rw [rounds_succ]
      go_wp2
      go_ret
      exact ⟨rfl, Below.refl _ _⟩
    · rcases seen_any hA'.1 with h00 | ⟨b', o', rfl, hlt', hc'⟩
      · have hn0 : n = 0 := by rw [← ht, ← vals_length, h00]; rfl
        subst hn0
        have e1 : decide (ss R = ss S) = true := eqi_yes (k := 0) (by rw [ss_length]; exact hs) (by rw [ss_length]; exact ht) rfl
        rw [e1]
        clear hA hA' hs ht e1 h00 hc hr hr'
        go_enter Try.func21, Try.ntmps21
        go_wp2
        refine wp_loop_rounds 1 ?_
        rw [rounds_succ]
        go_wp2
        go_ret
        exact ⟨rfl, Below.refl _ _⟩
      · have HS := Lib.hid hs
        have HT := Lib.hid ht
        have HC := Lib.hid hc
        have HC' := Lib.hid hc'
        have HA := Lib.hid (And.intro hA hA')
        have HR := Lib.hid (And.intro hr hr')
        have hne : ((n : Int) != (n : Int)) = false := by simp
        clear hs ht hc hc' hA hA' hm' hr hr'
        go_enter Try.func21, Try.ntmps21
        go_wp2
        go_loopw [5] (fun i wr => ∃ k : Nat, k ≤ n ∧ i = .int .i64 k ∧ Hid ((ss R).take k = (ss S).take k) ∧ Below w.heap.size w wr) (fun i _ => n - (intOf i).toNat)
        case atStart => exact ⟨0, Nat.zero_le _, rfl, by unfold Hid; simp, Below.refl _ _⟩
        case round =>
          obtain ⟨k, hk, rfl, hok, hb⟩ := hrel
          by_cases hkn : k < n
          · obtain ⟨x, hx⟩ : ∃ x, R[k]? = some x := ⟨_, List.getElem?_eq_getElem (by rw [HS.out]; exact hkn)⟩
            obtain ⟨y, hy⟩ : ∃ x, S[k]? = some x := ⟨_, List.getElem?_eq_getElem (by rw [HT.out]; exact hkn)⟩
            have HX := Lib.hid (ss_at hx)
            have HY := Lib.hid (ss_at hy)
            have g0 := (hb.cell (p := ⟨b, o + k, none⟩) hlt).trans (HC.out _ _ (vals_at hx))
            have g1 := (hb.cell (p := ⟨b', o' + k, none⟩) hlt').trans (HC'.out _ _ (vals_at hy))
            have hsx : Seen wr.drew x.A (ints x.s) := (HA.out.1.2 x (List.mem_of_getElem? hx)).below hb.drew
            have hsy : Seen wr.drew y.A (ints y.s) := (HA.out.2.2 y (List.mem_of_getElem? hy)).below hb.drew
            have lx := HR.out.1 x (List.mem_of_getElem? hx)
            have ly := HR.out.2 y (List.mem_of_getElem? hy)
            clear hx hy
            obtain ⟨Ax, cx, s⟩ := x
            obtain ⟨Ay, cy, t⟩ := y
            simp only [Rw.val] at g0 g1 HX HY hsx hsy lx ly
            obtain ⟨q, hq⟩ : ∃ q, s.length = q := ⟨_, rfl⟩
            obtain ⟨q', hq'⟩ : ∃ q, t.length = q := ⟨_, rfl⟩
            rw [hq] at g0 lx
            rw [hq'] at g1 ly
            have HQ := Lib.hid hq
            have HQ' := Lib.hid hq'
            have HSX := Lib.hid hsx
            have HSY := Lib.hid hsy
            clear hq hq' hsx hsy
            cases hv : decide (s = t)
            · go_wp2
              go_region_with (go_at_call 36; refine (eqIntS_any _ _ _ _ _ _ s t _ HSX.out HSY.out HQ.out HQ'.out (by omega) (by omega)).mono ?_; rintro e w' ⟨rfl, hb'⟩; rw [hv])
              all_goals
                go_wp2
                go_ret
                exact ⟨ret_bool (eqi_no HX.out HY.out (by simpa using hv)).symm, hb.trans ((Below.trans (Below.refl _ _).drew hb').mono hb.size)⟩
            · go_wp2
              go_region_with (go_at_call 36; refine (eqIntS_any _ _ _ _ _ _ s t _ HSX.out HSY.out HQ.out HQ'.out (by omega) (by omega)).mono ?_; rintro e w' ⟨rfl, hb'⟩; rw [hv])
              all_goals
                go_wp2
                go_roundw
                case rel => exact ⟨k + 1, by omega, by go_num, eqi_take hok.out HX.out (by rw [of_decide_eq_true hv]; exact HY.out), hb.trans ((Below.trans (Below.refl _ _).drew hb').mono hb.size)⟩
                case measure => simp [intOf]; omega
          · have hfin : decide (ss R = ss S) = true := eqi_yes (k := k) (by rw [ss_length, HS.out]; omega) (by rw [ss_length, HT.out]; omega) hok.out
            have HF := Lib.hid hfin
            clear hfin
            go_wp2
            go_ret
            exact ⟨ret_bool HF.out.symm, hb⟩
  · have hfin : decide (ss R = ss S) = false := eqi_len (by rw [ss_length, ss_length, hs, ht]; exact hlen)
    have HF := Lib.hid hfin
    have hne : ((n : Int) != (n' : Int)) = true := by simp; omega
    clear hfin hlen hA hA' hs ht hr hr'
    go_enter Try.func21, Try.ntmps21
    go_wp2
    go_ret
    exact ⟨ret_bool HF.out.symm, Below.refl _ _⟩

end Go.Proofs.Ytepnfljhoapdmaa
