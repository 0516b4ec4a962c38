/- Contracts of the exact laws' helpers on rows: szIntS, szIntSS. -/
import Derived.Test.YtepnfljhoapdmaaLr
namespace Go.Proofs.Ytepnfljhoapdmaa
open Go.RowKit
set_option linter.unusedVariables false

set_option maxHeartbeats 400000 in
theorem szIntS_any (A : Option Addr) (n c : Nat) (l : Int) (w : World) (hn : n ≤ 9223372036854775807) (h0 : 0 ≤ l) (h1 : l ≤ 1048576) :
    Calls Try.prog 32 #[.slice A n c, .int .i64 l] w fun e w' => e = .returned (.int .i64 (if l - n < 0 then -1 else l - n)) ∧ w = w' := by
  by_cases h : l - n < 0
  · rw [if_pos h]
    go_enter Try.func32, Try.ntmps32
    go_wp2
    go_ret
    exact ⟨rfl, rfl⟩
  · rw [if_neg h]
    go_enter Try.func32, Try.ntmps32
    go_wp2
    go_ret
    exact ⟨rfl, rfl⟩

/-- The rows' lengths, taken off one by one. -/
def szR : List (List Int) → Int → Int
  | [], l => l
  | s :: R, l => if l - s.length < 0 then -1 else szR R (l - s.length)
theorem szR_le : ∀ (R : List (List Int)) (l : Int), 0 ≤ l → 0 ≤ szR R l → ∀ s ∈ R, (s.length : Int) ≤ l
  | [], l, h0, h, s, hs => by simp at hs
  | t :: R, l, h0, h, s, hs => by
    unfold szR at h
    by_cases hl : l - t.length < 0
    · rw [if_pos hl] at h; omega
    · rw [if_neg hl] at h
      rcases List.mem_cons.1 hs with rfl | hs
      · omega
      · have := szR_le R _ (by omega) h s hs
        omega
def szRR (R : List (List Int)) (l : Int) : Int := if l - R.length < 0 then -1 else szR R (l - R.length)
theorem szRR_le {R : List (List Int)} {l : Int} (h0 : 0 ≤ l) (h : 0 ≤ szRR R l) : (R.length : Int) ≤ l ∧ ∀ s ∈ R, (s.length : Int) ≤ l := by
  unfold szRR at h
  by_cases hl : l - R.length < 0
  · rw [if_pos hl] at h; omega
  · rw [if_neg hl] at h
    refine ⟨by omega, fun s hs => ?_⟩
    have := szR_le R _ (by omega) h s hs
    omega
theorem szR_range : ∀ (R : List (List Int)) (l : Int), 0 ≤ l → -1 ≤ szR R l ∧ szR R l ≤ l
  | [], l, h0 => by unfold szR; omega
  | t :: R, l, h0 => by
    unfold szR
    by_cases hl : l - t.length < 0
    · rw [if_pos hl]; omega
    · rw [if_neg hl]
      have := szR_range R (l - t.length) (by omega)
      omega
theorem szRR_range (R : List (List Int)) (l : Int) (h0 : 0 ≤ l) : -1 ≤ szRR R l ∧ szRR R l ≤ l := by
  unfold szRR
  by_cases hl : l - R.length < 0
  · rw [if_pos hl]; omega
  · rw [if_neg hl]
    have := szR_range R (l - R.length) (by omega)
    omega

/-- At the head of each round: what is left behind the first k rows. -/
def SzRel (R : List (List Int)) (n : Nat) (l : Int) (w0 : World) (v i : Value) (wr : World) : Prop :=
  ∃ (k : Nat) (l' : Int), k ≤ n ∧ i = .int .i64 k ∧ v = .int .i64 l' ∧ 0 ≤ l' ∧ l' ≤ 1048576 ∧ Hid (szR R l = szR (R.drop k) l') ∧ w0 = wr

set_option maxHeartbeats 800000 in
theorem szIntSS_any (A : Option Addr) (n c : Nat) (l : Int) (R : List Rw) (w : World) (hR : LadS w A R) (hlen : R.length = n) (hn : n ≤ 9223372036854775807) (hrow : ∀ r ∈ R, r.s.length ≤ 9223372036854775807) (h0 : 0 ≤ l) (h1 : l ≤ 1048576) :
    Calls Try.prog 14 #[.slice A n c, .int .i64 l] w fun e w' => e = .returned (.int .i64 (szRR (ss R) l)) ∧ w = w' := by
  by_cases h : l - n < 0
  · have e : szRR (ss R) l = -1 := by unfold szRR; rw [ss_length, hlen, if_pos h]
    rw [e]
    clear hR hrow e
    go_enter Try.func14, Try.ntmps14
    go_wp2
    go_ret
    exact ⟨rfl, rfl⟩
  · have e : szRR (ss R) l = szR (ss R) (l - n) := by unfold szRR; rw [ss_length, hlen, if_neg h]
    rw [e]
    clear e
    rcases seen_any hR.1 with h00 | ⟨b, o, rfl, hlt, hc⟩
    · have hn0 : n = 0 := by rw [← hlen, ← vals_length, h00]; rfl
      subst hn0
      have e2 : ss R = [] := List.eq_nil_of_length_eq_zero (by rw [ss_length, hlen])
      rw [e2]
      clear hR h00 hrow hlen e2
      go_enter Try.func14, Try.ntmps14
      go_wp2
      refine wp_loop_rounds 1 ?_
      rw [rounds_succ]
      go_wp2
      go_ret
      exact ⟨ret_int (by simp [szR]), rfl⟩
    · have HR := Lib.hid hR
      have HC := Lib.hid hc
      have HN := Lib.hid hlen
      have HW := Lib.hid hrow
      clear hR hc hlen hrow
      go_enter Try.func14, Try.ntmps14
      go_wp2
      go_loopw [1, 5] (fun v i wr => SzRel (ss R) n (l - n) w v i wr) (fun _ i _ => n - (intOf i).toNat)
      case atStart => exact ⟨0, l - n, Nat.zero_le _, rfl, rfl, by omega, by omega, rfl, rfl⟩
      case round =>
        obtain ⟨k, l', hk, rfl, rfl, hl0, hl1, hsz, rfl⟩ := hrel
        by_cases hkn : k < n
        · obtain ⟨r, hx⟩ : ∃ x, R[k]? = some x := ⟨_, List.getElem?_eq_getElem (by rw [HN.out]; exact hkn)⟩
          have g0 := HC.out _ _ (vals_at hx)
          have hq := HW.out r (List.mem_of_getElem? hx)
          have hd : (ss R).drop k = r.s :: (ss R).drop (k + 1) := by
            have := ss_at hx
            rw [List.drop_eq_getElem?_toList_append, this]; rfl
          have hs2 : szR (ss R) (l - n) = if l' - r.s.length < 0 then -1 else szR ((ss R).drop (k + 1)) (l' - r.s.length) := by
            rw [hsz.out, hd]; rfl
          have HS := Lib.hid hs2
          clear hs2 hd hx hsz
          obtain ⟨Ar, cr, s⟩ := r
          simp only [Rw.val] at g0 HS hq
          generalize s.length = q at g0 HS hq
          by_cases hneg : l' - (q : Int) < 0
          · go_wp2_with (go_at_call 32; refine (szIntS_any _ _ _ _ _ hq hl0 hl1).mono ?_; rintro e w' ⟨rfl, rfl⟩; rw [if_pos (by omega)])
            go_ret
            exact ⟨ret_int (by rw [HS.out, if_pos (by omega)]), rfl⟩
          · go_wp2_with (go_at_call 32; refine (szIntS_any _ _ _ _ _ hq hl0 hl1).mono ?_; rintro e w' ⟨rfl, rfl⟩; rw [if_neg (by omega)])
            have RR : SzRel (ss R) n (l - n) w (.int .i64 (l' - (q : Int))) (.int .i64 ((k : Int) + 1)) w := ⟨k + 1, l' - q, by omega, by go_num, rfl, by omega, by omega, by unfold Hid; rw [HS.out, if_neg (by omega)], rfl⟩
            go_roundw
            case rel => first | exact RR | ((repeat apply Exists.intro); first | exact ⟨RR, rfl⟩ | exact ⟨RR, rfl, rfl⟩)
            case measure => simp [intOf]; omega
        · have hfin : szR (ss R) (l - n) = l' := by
            have := hsz.out
            rw [List.drop_eq_nil_of_le (by rw [ss_length, HN.out]; omega)] at this
            exact this
          have HF := Lib.hid hfin
          clear hfin
          go_wp2
          go_ret
          exact ⟨ret_int HF.out.symm, rfl⟩

end Go.Proofs.Ytepnfljhoapdmaa
