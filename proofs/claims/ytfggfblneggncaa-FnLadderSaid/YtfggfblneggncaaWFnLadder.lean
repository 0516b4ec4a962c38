/- Walk of the law FnLadder. -/
import Derived.Test.YtfggfblneggncaaLv
import Derived.Test.YtfggfblneggncaaLw
import Derived.Test.YtfggfblneggncaaDw
import Derived.Test.YtfggfblneggncaaCr
import Derived.Deep.DeepCutAuto
namespace Go.Proofs.Ytfggfblneggncaa
open Go.RowKit
set_option linter.unusedVariables false

set_option maxRecDepth 100000 in
set_option maxHeartbeats 3200000 in
theorem fnLadder_walk (w : World) (A : Option Addr) (n c : Nat) (hin : BytesIn w A n c) (A' : Option Addr) (n' c' : Nat) (hin' : BytesIn w A' n' c') :
    Calls Try.prog 4 #[.slice A n c, .slice A' n' c'] w fun e w' => e = .returned (.bool true) ∧ Below w.heap.size w w' := by
  have hn := hin.2.1
  have hn' := hin'.2.1
  by_cases hbig : 1048576 < n
  · have hd : decide (1048576 < (n : Int)) = true := by simp; omega
    go_enter Try.func4, Try.ntmps4
    go_wp2
    go_ret
    exact ⟨rfl, Below.refl _ _⟩
  have hd : decide (1048576 < (n : Int)) = false := by simp; omega
  by_cases hbig' : 1048576 < n'
  · have hd' : decide (1048576 < (n' : Int)) = true := by simp; omega
    go_enter Try.func4, Try.ntmps4
    go_wp2
    go_ret
    exact ⟨rfl, Below.refl _ _⟩
  have hd' : decide (1048576 < (n' : Int)) = false := by simp; omega
  go_enter Try.func4, Try.ntmps4
  go_wp2_with fail
  refine (drawLadderValid_any A n c w hin).mono ?_
  rintro e w1 ⟨B, m, d, R, rfl, hR, hm, hrow, hL1, hb1⟩
  have HR := Lib.hid hR
  have HW := Lib.hid (fun r hr => Nat.le_trans (hrow r hr) (show 4 ≤ 1099511627776 by omega))
  clear hR hrow
  go_wp2_with fail
  refine (ladderValid_any _ _ _ R _ hL1.s HR.out (by omega) HW.out).mono ?_
  rintro e w' ⟨rfl, rfl⟩
  go_wp2_with fail
  refine (sLadderValid_any _ _ _ R _ hL1.s HR.out (by omega) HW.out).mono ?_
  rintro e w2 ⟨rfl, hb2⟩
  have hL2 := hL1.below hb2
  have hb02 := below2 hb1 hb2
  have hmd : m ≤ d := by rw [← HR.out]; exact hL2.2.1
  clear hL1 hb1 hb2
  cases hok : ladB (ss R)
  · go_wp2
    go_ret
    exact ⟨rfl, hb02⟩
  have h3 := (ladB_iff.1 hok).1
  rw [ss_length, HR.out] at h3
  have HOK := Lib.hid hok
  clear hok
  have hk1 : 0 ≤ (n' : Int) % ((m : Int) + 1) := Int.emod_nonneg _ (by omega)
  have hk2 : (n' : Int) % ((m : Int) + 1) < (m : Int) + 1 := Int.emod_lt_of_pos _ (by omega)
  obtain ⟨k, hk⟩ : ∃ k : Nat, (k : Int) = (n' : Int) % ((m : Int) + 1) := ⟨((n' : Int) % ((m : Int) + 1)).toNat, by omega⟩
  have hkm : k ≤ m := by omega
  have hvl : (vals R).length = m := by rw [vals_length]; exact HR.out
  have HVL := Lib.hid hvl
  have HNIL := Lib.hid hL2.2.2.2
  clear hvl
  have hcut := fun wz : World => cutR_to B m d k wz hkm hmd
  have hTk : (R.take k).length = k := by rw [List.length_take, HR.out]; omega
  have hWk : ∀ r ∈ R.take k, r.s.length ≤ 1099511627776 := fun r hr => HW.out r (List.mem_of_mem_take hr)
  have hSk : ladB (ss (R.take k)) = true := by rw [ss_take]; exact ladB_take HOK.out k
  have b3 := below_new w2 (.cells #[.int .i64 0, .int .i64 1, .int .i64 2, .int .i64 3] 3)
  have hL3 := hL2.below b3
  have hT3 := intsT_new w2 [0, 1, 2, 3]
  have hLk := (hL3.1.take k).s
  generalize R.take k = Rk at hTk hWk hSk hLk
  have HTK := Lib.hid hTk
  have HWK := Lib.hid hWk
  have HSK := Lib.hid hSk
  have HCUT := Lib.hid hcut
  clear hTk hWk hSk hcut
  have hz3 := b3.size
  have hb03 := below2 hb02 b3
  rcases Nat.eq_zero_or_pos m with hm0 | hm0
  · have hR0 : R = [] := List.eq_nil_of_length_eq_zero (by rw [HR.out]; exact hm0)
    have hlb : ladB (ss R ++ [[0, 1, 2, 3]]) = decide ((m : Int) < 3) := by rw [hR0, hm0]; decide
    have HLB := Lib.hid hlb
    have HST := Lib.hid (show List.length [(0 : Int), 1, 2, 3] = 4 from rfl)
    have hT : IntsT (w2.alloc (.cells #[.int .i64 0, .int .i64 1, .int .i64 2, .int .i64 3] 3)) (some ⟨w2.heap.size, 0, none⟩) [0, 1, 2, 3] := hT3
    have hm0' : ¬ (0 : Int) < (m : Int) := by omega
    clear hR0 hlb hm0 hT3
    go_upto_region 12 with fail
    rw [← hk]
    clear hk hk1 hk2
    generalize hw3 : w2.alloc (.cells #[.int .i64 0, .int .i64 1, .int .i64 2, .int .i64 3] 3) = w3 at hL3 hLk hb03 hz3 hT ⊢
    clear hw3
    have hcut := HCUT.out
    have HT := Lib.hid hT
    clear hT
    go_wp2_with fail
    refine (ladderValid_any _ _ _ Rk _ hLk HTK.out (by omega) HWK.out).mono ?_
    rintro e w' ⟨rfl, rfl⟩
    rw [HSK.out]
    clear hcut
    go_wp2_with (first
      | (at_builtin; refine app_row (w := w3.alloc (.cells #[] 29)) rfl Try.underlying22 siInfo rfl (by decide) (.tmp 55) (.tmp 56) rfl w3.heap.size (.slice (some ⟨w3.heap.size, 0, none⟩) 0 0) (vals []) (vals R) B 0 m d rfl rfl (own_empty_s w3) HVL.out (hL3.below (below_new w3 (.cells #[] 29))).1.1 HNIL.out (vals_one R) (by omega) (by omega) (by simp) ?_; intro v1 w6 ho6 hg6 hat6; simp only [Nat.zero_add] at ho6; have hL6 := LadO.more (S := R) (ladO_empty w3) (hL3.below (below_new w3 (.cells #[] 29))).1.2 ho6 hg6; have hb6 : Below w3.heap.size w3 w6 := (below_new w3 (.cells #[] 29)).grown hg6 (by simp) (fun k hk => by simp [Value.ownBlock] at hk; omega); obtain ⟨A6, c6, hv6⟩ := own_form ho6; subst hv6; simp only [List.nil_append] at hL6; clear ho6 hat6)
      | (at_builtin; refine app_row (w := w6.alloc (.cells #[.slice (some ⟨w2.heap.size, 0, none⟩) 4 4] 29)) rfl Try.underlying22 siInfo rfl (by decide) (.tmp 57) (.tmp 59) rfl w3.heap.size (.slice A6 m c6) (vals R) [.slice (some ⟨w2.heap.size, 0, none⟩) 4 4] (some ⟨w6.heap.size, 0, none⟩) m 1 1 rfl rfl (hL6.1.alloc _) rfl (seen_new w6 _ _) (fun e => by cases e) (by intro u hu; simp at hu; subst hu; rfl) (by omega) (by omega) (by have := hb6.size; simp; omega) ?_; intro v2 w8 ho8 hg8 hat8))
    have hT8 : ∀ r ∈ [(⟨(some ⟨w2.heap.size, 0, none⟩), 4, [0, 1, 2, 3]⟩ : Rw)], IntsT (w6.alloc (.cells #[.slice (some ⟨w2.heap.size, 0, none⟩) 4 4] 29)) r.A r.s := fun r hr => by simp at hr; subst hr; exact (HT.out.below hb6).below (below_new _ _)
    have hL8 := LadO.more (S := [(⟨(some ⟨w2.heap.size, 0, none⟩), 4, [0, 1, 2, 3]⟩ : Rw)]) (hL6.below (below_new w6 (.cells #[.slice (some ⟨w2.heap.size, 0, none⟩) 4 4] 29))) hT8 (by simp only [vals, List.map_cons, List.map_nil, Rw.val, HST.out]; exact ho8) hg8
    have hb8 : Below w3.heap.size w3 w8 := (hb6.trans ((below_new w6 (.cells #[.slice (some ⟨w2.heap.size, 0, none⟩) 4 4] 29)).mono hb6.size)).grown hg8 (by have := hb6.size; simp; omega) (fun k hk => (hL6.1.lt k hk).1)
    obtain ⟨A8, c8, hv8⟩ := own_form ho8
    subst hv8
    have hR8 : (R ++ [(⟨(some ⟨w2.heap.size, 0, none⟩), 4, [0, 1, 2, 3]⟩ : Rw)]).length = m + 1 := by simp [HR.out]
    have hS8 : ladB (ss (R ++ [(⟨(some ⟨w2.heap.size, 0, none⟩), 4, [0, 1, 2, 3]⟩ : Rw)])) = decide ((m : Int) < 3) := by rw [ss_append]; exact HLB.out
    have hW8 : ∀ r ∈ R ++ [(⟨(some ⟨w2.heap.size, 0, none⟩), 4, [0, 1, 2, 3]⟩ : Rw)], r.s.length ≤ 1099511627776 := fun r hr => by
      rw [List.mem_append] at hr
      rcases hr with hr | hr
      · exact HW.out r hr
      · simp at hr; subst hr; have := HST.out; show List.length [0, 1, 2, 3] ≤ _; omega
    generalize R ++ [(⟨(some ⟨w2.heap.size, 0, none⟩), 4, [0, 1, 2, 3]⟩ : Rw)] = R8 at hL8 hR8 hS8 hW8
    have HR8 := Lib.hid hR8
    have HS8 := Lib.hid hS8
    have HW8 := Lib.hid hW8
    have hL8' := hL8.lad hR8
    clear hR8 hS8 hW8 ho8 hg8 hL8 hat8 hT8
    refine (ladderValid_any _ _ _ R8 _ hL8'.s HR8.out (by omega) HW8.out).mono ?_
    rintro e w' ⟨rfl, rfl⟩
    rw [HS8.out]
    by_cases hm3 : (m : Int) < 3
    · have e1 : decide ((m : Int) < 3) = true := by simpa using hm3
      rw [e1]
      go_wp2
      go_ret
      exact ⟨ret_bool (by simp), below2 hb03 hb8⟩
    · have e1 : decide ((m : Int) < 3) = false := by simpa using hm3
      rw [e1]
      go_wp2
      go_ret
      exact ⟨ret_bool (by simp <;> omega), below2 hb03 hb8⟩
  · obtain ⟨⟨Ar, cr, s⟩, hx⟩ : ∃ r, R[m - 1]? = some r := ⟨_, List.getElem?_eq_getElem (by rw [HR.out]; omega)⟩
    obtain ⟨b, o, rfl, hlt, hc⟩ := hL2.1.1 (by rw [vals_length, HR.out]; exact hm0)
    have g0 := (b3.cell (p := ⟨b, o + (m - 1), none⟩) hlt).trans (lad_row hc hx)
    have hrw := rowOf_get (ss_at hx)
    have hst := (stepB_iff.1 (okRow_iff.1 ((ladB_iff.1 HOK.out).2 (m - 1) (by rw [ss_length, HR.out]; omega))).1).1
    have hT : IntsT (w2.alloc (.cells #[.int .i64 0, .int .i64 1, .int .i64 2, .int .i64 3] 3)) Ar s := hL3.1.2 _ (List.mem_of_getElem? hx)
    have hlb := lad_twice HOK.out (by rw [ss_length, HR.out]; exact hm0)
    rw [ss_length, HR.out] at hlb
    rw [hrw] at hst hlb
    simp only at g0 hst hlb
    rw [hst] at g0
    have hlb' : ladB (ss R ++ [s]) = decide ((m : Int) < 3) := by rw [hlb, Bool.eq_iff_iff]; simp; omega
    have HLB := Lib.hid hlb'
    have HST := Lib.hid hst
    have hm0' : (0 : Int) < (m : Int) := by omega
    clear hx hc hrw hst hlb hlb' hm0 hT3
    go_upto_region 12 with fail
    rw [← hk]
    clear hk hk1 hk2
    generalize hw3 : w2.alloc (.cells #[.int .i64 0, .int .i64 1, .int .i64 2, .int .i64 3] 3) = w3 at hL3 hLk hb03 hz3 hT ⊢
    clear hw3
    have hcut := HCUT.out
    have HT := Lib.hid hT
    clear hT
    go_wp2_with fail
    refine (ladderValid_any _ _ _ Rk _ hLk HTK.out (by omega) HWK.out).mono ?_
    rintro e w' ⟨rfl, rfl⟩
    rw [HSK.out]
    clear hcut
    go_wp2_with (first
      | (at_builtin; refine app_row (w := w3.alloc (.cells #[] 29)) rfl Try.underlying22 siInfo rfl (by decide) (.tmp 55) (.tmp 56) rfl w3.heap.size (.slice (some ⟨w3.heap.size, 0, none⟩) 0 0) (vals []) (vals R) (some ⟨b, o, none⟩) 0 m d rfl rfl (own_empty_s w3) HVL.out (hL3.below (below_new w3 (.cells #[] 29))).1.1 HNIL.out (vals_one R) (by omega) (by omega) (by simp) ?_; intro v1 w6 ho6 hg6 hat6; simp only [Nat.zero_add] at ho6; have hL6 := LadO.more (S := R) (ladO_empty w3) (hL3.below (below_new w3 (.cells #[] 29))).1.2 ho6 hg6; have hb6 : Below w3.heap.size w3 w6 := (below_new w3 (.cells #[] 29)).grown hg6 (by simp) (fun k hk => by simp [Value.ownBlock] at hk; omega); obtain ⟨A6, c6, hv6⟩ := own_form ho6; subst hv6; simp only [List.nil_append] at hL6; clear ho6 hat6)
      | (at_builtin; refine app_row (w := w6.alloc (.cells #[.slice Ar 4 cr] 29)) rfl Try.underlying22 siInfo rfl (by decide) (.tmp 57) (.tmp 59) rfl w3.heap.size (.slice A6 m c6) (vals R) [.slice Ar 4 cr] (some ⟨w6.heap.size, 0, none⟩) m 1 1 rfl rfl (hL6.1.alloc _) rfl (seen_new w6 _ _) (fun e => by cases e) (by intro u hu; simp at hu; subst hu; rfl) (by omega) (by omega) (by have := hb6.size; simp; omega) ?_; intro v2 w8 ho8 hg8 hat8))
    have hT8 : ∀ r ∈ [(⟨Ar, cr, s⟩ : Rw)], IntsT (w6.alloc (.cells #[.slice Ar 4 cr] 29)) r.A r.s := fun r hr => by simp at hr; subst hr; exact (HT.out.below hb6).below (below_new _ _)
    have hL8 := LadO.more (S := [(⟨Ar, cr, s⟩ : Rw)]) (hL6.below (below_new w6 (.cells #[.slice Ar 4 cr] 29))) hT8 (by simp only [vals, List.map_cons, List.map_nil, Rw.val, HST.out]; exact ho8) hg8
    have hb8 : Below w3.heap.size w3 w8 := (hb6.trans ((below_new w6 (.cells #[.slice Ar 4 cr] 29)).mono hb6.size)).grown hg8 (by have := hb6.size; simp; omega) (fun k hk => (hL6.1.lt k hk).1)
    obtain ⟨A8, c8, hv8⟩ := own_form ho8
    subst hv8
    have hR8 : (R ++ [(⟨Ar, cr, s⟩ : Rw)]).length = m + 1 := by simp [HR.out]
    have hS8 : ladB (ss (R ++ [(⟨Ar, cr, s⟩ : Rw)])) = decide ((m : Int) < 3) := by rw [ss_append]; exact HLB.out
    have hW8 : ∀ r ∈ R ++ [(⟨Ar, cr, s⟩ : Rw)], r.s.length ≤ 1099511627776 := fun r hr => by
      rw [List.mem_append] at hr
      rcases hr with hr | hr
      · exact HW.out r hr
      · simp at hr; subst hr; have := HST.out; show List.length s ≤ _; omega
    generalize R ++ [(⟨Ar, cr, s⟩ : Rw)] = R8 at hL8 hR8 hS8 hW8
    have HR8 := Lib.hid hR8
    have HS8 := Lib.hid hS8
    have HW8 := Lib.hid hW8
    have hL8' := hL8.lad hR8
    clear hR8 hS8 hW8 ho8 hg8 hL8 hat8 hT8
    refine (ladderValid_any _ _ _ R8 _ hL8'.s HR8.out (by omega) HW8.out).mono ?_
    rintro e w' ⟨rfl, rfl⟩
    rw [HS8.out]
    by_cases hm3 : (m : Int) < 3
    · have e1 : decide ((m : Int) < 3) = true := by simpa using hm3
      rw [e1]
      go_wp2
      go_ret
      exact ⟨ret_bool (by simp), below2 hb03 hb8⟩
    · have e1 : decide ((m : Int) < 3) = false := by simpa using hm3
      rw [e1]
      go_wp2
      go_ret
      exact ⟨ret_bool (by simp <;> omega), below2 hb03 hb8⟩

end Go.Proofs.Ytfggfblneggncaa
