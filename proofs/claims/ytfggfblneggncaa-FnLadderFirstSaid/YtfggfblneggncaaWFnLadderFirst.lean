/- Walk of the law FnLadderFirst. -/
import Derived.Test.YtfggfblneggncaaLxc
import Derived.Test.YtfggfblneggncaaLyc
import Derived.Test.YtfggfblneggncaaDc
import Derived.Test.YtfggfblneggncaaCr
namespace Go.Proofs.Ytfggfblneggncaa
open Go.RowKit
set_option linter.unusedVariables false

set_option maxRecDepth 100000 in
set_option maxHeartbeats 3200000 in
theorem fnLadderFirst_walk (w : World) (A : Option Addr) (n c : Nat) (hin : BytesIn w A n c) :
    Calls Try.prog 9 #[.slice A n c] w fun e w' => e = .returned (.bool true) ∧ Below w.heap.size w w' := by
  have hn := hin.2.1
  by_cases hbig : 1048576 < n
  · have hd : decide (1048576 < (n : Int)) = true := by simp; omega
    go_enter Try.func9, Try.ntmps9
    go_wp2
    go_ret
    exact ⟨rfl, Below.refl _ _⟩
  have hd : decide (1048576 < (n : Int)) = false := by simp; omega
  go_enter Try.func9, Try.ntmps9
  go_wp2_with fail
  refine (drawLadderCode_any A n c w hin).mono ?_
  rintro e w1 ⟨B, m, d, R, lv, x, rfl, hR, hm, hrow, hlv, hx, hL1, hb1⟩
  have HR := Lib.hid hR
  have HW := Lib.hid (fun r hr => Nat.le_trans (hrow r hr) (show 4 ≤ 1099511627776 by omega))
  clear hR hrow
  go_wp2_with fail
  refine (ladderCodeL_any _ _ _ R _ _ _ hL1.s HR.out (by omega) HW.out).mono ?_
  rintro e w' ⟨rfl, rfl⟩
  go_wp2_with fail
  refine (sLadderCodeL_any _ _ _ R _ _ _ hL1.s HR.out (by omega) HW.out).mono ?_
  rintro e w2 ⟨rfl, hb2⟩
  have hL2 := hL1.below hb2
  have hb02 := below2 hb1 hb2
  have hmd : m ≤ d := by rw [← HR.out]; exact hL2.2.1
  clear hL1 hb1 hb2
  cases hok : codeOk (ss R) lv x
  · rw [codeI_no hok]
    go_wp2
    go_ret
    exact ⟨rfl, hb02⟩
  rw [codeI_yes hok]
  obtain ⟨hRv, ⟨l0, l1⟩, x0, x3⟩ := codeOk_iff.1 hok
  rw [ss_length, HR.out] at l1
  obtain ⟨f1, f2, f3, f4⟩ := code_facts hok
  have fN := code_next hok
  obtain ⟨o, ho⟩ : ∃ o, lcode (ss R) lv x = o := ⟨_, rfl⟩
  rw [ho] at f1 f2 f3 f4 fN ⊢
  have HO := Lib.hid ho
  have HOK := Lib.hid hok
  have HRV := Lib.hid hRv
  have HF1 := Lib.hid f1
  have HF2 := Lib.hid f2
  have HFN := Lib.hid fN
  have hoo : (o != o) = false := by simp
  have hoe : (o == o) = true := by simp
  clear ho hok hRv f1 f2 fN
  have hvl : (vals R).length = m := by rw [vals_length]; exact HR.out
  have HVL := Lib.hid hvl
  have HNIL := Lib.hid hL2.2.2.2
  clear hvl
  obtain ⟨k, rfl⟩ := int_nat l0
  have hcut := fun wz : World => cutR_to B m d k wz (by omega) hmd
  have c1 := code_take HOK.out
  have c2 := code_zero HOK.out
  rw [Int.toNat_natCast] at c1
  rw [ss_length, HR.out] at c2
  have hTk : (R.take k).length = k := by rw [List.length_take, HR.out]; omega
  have hWk : ∀ r ∈ R.take k, r.s.length ≤ 1099511627776 := fun r hr => HW.out r (List.mem_of_mem_take hr)
  have hSk : ss (R.take k) = (ss R).take k := ss_take R k
  have hLk : LadS w2 B (R.take k) := (hL2.1.take k).s
  generalize R.take k = Rk at hTk hWk hSk hLk
  rw [← hSk] at c1
  have HC1 := Lib.hid c1
  have HC2 := Lib.hid c2
  have HTK := Lib.hid hTk
  have HWK := Lib.hid hWk
  clear c1 c2 hTk hWk hSk
  go_wp2_with fail
  refine (ladderCodeL_any _ _ _ Rk _ _ _ hLk HTK.out (by omega) HWK.out).mono ?_
  rintro e w' ⟨rfl, rfl⟩
  rw [codeI_yes HC1.out.1, HC1.out.1, HC1.out.2, HO.out]
  clear hcut
  go_wp2_with (first
    | (at_builtin; refine app_row (w := w2.alloc (.cells #[] 29)) rfl Try.underlying22 siInfo rfl (by decide) (.tmp 67) (.tmp 68) rfl w2.heap.size (.slice (some ⟨w2.heap.size, 0, none⟩) 0 0) (vals []) (vals R) B 0 m d rfl rfl (own_empty_s w2) HVL.out (hL2.below (below_new w2 (.cells #[] 29))).1.1 HNIL.out (vals_one R) (by omega) (by omega) (by simp) ?_; intro v1 w6 ho6 hg6 hat6; simp only [Nat.zero_add] at ho6; have hL6 := LadO.more (S := R) (ladO_empty w2) (hL2.below (below_new w2 (.cells #[] 29))).1.2 ho6 hg6; have hb6 : Below w2.heap.size w2 w6 := (below_new w2 (.cells #[] 29)).grown hg6 (by simp) (fun k hk => by simp [Value.ownBlock] at hk; omega); obtain ⟨A6, c6, hv6⟩ := own_form ho6; subst hv6; simp only [List.nil_append] at hL6; clear ho6 hat6)
    | (at_builtin; refine app_row (w := (w6.alloc (.cells #[.int .i64 0, .int .i64 0, .int .i64 0, .int .i64 0] 3)).alloc (.cells #[.slice (some ⟨w6.heap.size, 0, none⟩) 4 4] 29)) rfl Try.underlying22 siInfo rfl (by decide) (.tmp 69) (.tmp 71) rfl w2.heap.size (.slice A6 m c6) (vals R) [.slice (some ⟨w6.heap.size, 0, none⟩) 4 4] (some ⟨w6.heap.size + 1, 0, none⟩) m 1 1 rfl rfl ((hL6.1.alloc _).alloc _) rfl (by have := seen_new (w6.alloc (.cells #[.int .i64 0, .int .i64 0, .int .i64 0, .int .i64 0] 3)) (.slice (some ⟨w6.heap.size, 0, none⟩) 4 4) 29; simpa using this) (fun e => by cases e) (by intro u hu; simp at hu; subst hu; rfl) (by omega) (by omega) (by have := hb6.size; simp; omega) ?_; intro v2 w8 ho8 hg8 hat8))
  have hL8 := ldr_lit (q := 4) [0, 0, 0, 0] rfl hL6 ho8 hg8
  have hb8 : Below w2.heap.size w2 w8 := (hb6.trans ((below2 (below_new w6 (.cells #[.int .i64 0, .int .i64 0, .int .i64 0, .int .i64 0] 3)) (below_new _ (.cells #[.slice (some ⟨w6.heap.size, 0, none⟩) 4 4] 29))).mono hb6.size)).grown hg8 (by have := hb6.size; simp; omega) (fun k hk => (hL6.1.lt k hk).1)
  obtain ⟨A8, c8, hv8⟩ := own_form ho8
  subst hv8
  have hR8 : (R ++ [(⟨some ⟨w6.heap.size, 0, none⟩, 4, [0, 0, 0, 0]⟩ : Rw)]).length = m + 1 := by simp [HR.out]
  have hS8 : ss (R ++ [(⟨some ⟨w6.heap.size, 0, none⟩, 4, [0, 0, 0, 0]⟩ : Rw)]) = ss R ++ [[0, 0, 0, 0]] := by rw [ss_append]; rfl
  have hW8 : ∀ r ∈ R ++ [(⟨some ⟨w6.heap.size, 0, none⟩, 4, [0, 0, 0, 0]⟩ : Rw)], r.s.length ≤ 1099511627776 := fun r hr => by
    rw [List.mem_append] at hr
    rcases hr with hr | hr
    · exact HW.out r hr
    · simp at hr; subst hr; show (4 : Nat) ≤ _; omega
  generalize R ++ [(⟨some ⟨w6.heap.size, 0, none⟩, 4, [0, 0, 0, 0]⟩ : Rw)] = R8 at hL8 hR8 hS8 hW8
  have HR8 := Lib.hid hR8
  have HS8 := Lib.hid hS8
  have HW8 := Lib.hid hW8
  have hL8' := hL8.lad hR8
  clear hR8 hS8 hW8 ho8 hg8 hL8 hat8
  refine (ladderCodeL_any _ _ _ R8 _ _ _ hL8'.s HR8.out (by omega) HW8.out).mono ?_
  rintro e w' ⟨rfl, rfl⟩
  have hb08 := below2 hb02 hb8
  by_cases hm3 : m < 3
  · have e1 : codeOk (ss R8) (k : Int) x = true := by rw [HS8.out, HC2.out.1]; simpa using hm3
    have e2 : lcode (ss R8) (k : Int) x = o := by rw [HS8.out, HC2.out.2 hm3]; exact HO.out
    rw [codeI_yes e1, e1, e2]
    have hm3' : (m : Int) < 3 := by omega
    clear e1 e2
    go_wp2
    go_ret
    exact ⟨rfl, hb08⟩
  · have e1 : codeOk (ss R8) (k : Int) x = false := by rw [HS8.out, HC2.out.1]; simpa using hm3
    rw [codeI_no e1, e1]
    have hm3' : ¬ (m : Int) < 3 := by omega
    clear e1
    go_wp2
    go_ret
    exact ⟨ret_bool (by simp; omega), hb08⟩

end Go.Proofs.Ytfggfblneggncaa
