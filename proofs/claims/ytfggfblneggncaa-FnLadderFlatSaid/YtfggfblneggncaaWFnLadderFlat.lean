/- Walk of the law FnLadderFlat. -/
import Derived.Test.YtfggfblneggncaaLxg
import Derived.Test.YtfggfblneggncaaDw
import Derived.Test.YtfggfblneggncaaLw
namespace Go.Proofs.Ytfggfblneggncaa
open Go.RowKit
set_option linter.unusedVariables false

set_option maxRecDepth 100000 in
set_option maxHeartbeats 3200000 in
theorem fnLadderFlat_walk (w : World) (A : Option Addr) (n c : Nat) (hin : BytesIn w A n c) :
    Calls Try.prog 7 #[.slice A n c] w fun e w' => e = .returned (.bool true) ∧ Below w.heap.size w w' := by
  have hn := hin.2.1
  by_cases hbig : 1048576 < n
  · have hd : decide (1048576 < (n : Int)) = true := by simp; omega
    go_enter Try.func7, Try.ntmps7
    go_wp2
    go_ret
    exact ⟨rfl, Below.refl _ _⟩
  have hd : decide (1048576 < (n : Int)) = false := by simp; omega
  go_enter Try.func7, Try.ntmps7
  go_wp2_with fail
  refine (drawLadderValid_any A n c w hin).mono ?_
  rintro e w1 ⟨B, m, d, R, rfl, hR, hm, hrow, hL1, hb1⟩
  have HR := Lib.hid hR
  have HW := Lib.hid (fun r hr => Nat.le_trans (hrow r hr) (show 4 ≤ 1099511627776 by omega))
  clear hR hrow
  go_wp2_with fail
  refine (ladderValid_any _ _ _ R _ hL1.s HR.out (by omega) HW.out).mono ?_
  rintro e w' ⟨rfl, rfl⟩
  go_wp2_with fail
  refine (sLadderValid_any _ _ _ R _ hL1.s HR.out (by omega) HW.out).mono ?_
  rintro e w2 ⟨rfl, hb2⟩
  have hL2 := hL1.below hb2
  have hb02 := below2 hb1 hb2
  have hmd : m ≤ d := by rw [← HR.out]; exact hL2.2.1
  clear hL1 hb1 hb2
  cases hok : ladB (ss R)
  · go_wp2
    go_ret
    exact ⟨rfl, hb02⟩
  have h3 := (ladB_iff.1 hok).1
  rw [ss_length, HR.out] at h3
  have HOK := Lib.hid hok
  clear hok
  by_cases hm3 : m = 3
  · have hme : ((m : Int) == 3) = true := by simp; omega
    clear hm3
    have G0 := Lib.hid (groups_zero HOK.out)
    go_wp2_with fail
    refine (ladderGroups_any _ _ _ R _ _ hL2.s HR.out (by omega) HW.out).mono ?_
    rintro e w' ⟨rfl, rfl⟩
    rw [G0.out]
    go_wp2
    go_ret
    exact ⟨rfl, hb02⟩
  have hme : ((m : Int) == 3) = false := by simp; omega
  have hm2 : m < 3 := by omega
  clear hm3
  have hvl : (vals R).length = m := by rw [vals_length]; exact HR.out
  have HVL := Lib.hid hvl
  have HNIL := Lib.hid hL2.2.2.2
  clear hvl
  have bI := below2 (below_new w2 (.cells #[.int .i64 0, .int .i64 1, .int .i64 2, .int .i64 3] 3)) (below_new (w2.alloc (.cells #[.int .i64 0, .int .i64 1, .int .i64 2, .int .i64 3] 3)) (.cells #[.slice (some ⟨w2.heap.size, 0, none⟩) 4 4] 29))
  have hLI := hL2.below bI
  have hT0 : IntsT ((w2.alloc (.cells #[.int .i64 0, .int .i64 1, .int .i64 2, .int .i64 3] 3)).alloc (.cells #[.slice (some ⟨w2.heap.size, 0, none⟩) 4 4] 29)) (some ⟨w2.heap.size, 0, none⟩) [0, 1, 2, 3] := (intsT_new w2 [0, 1, 2, 3]).below (below_new _ _)
  have hO0 : LadO ((w2.alloc (.cells #[.int .i64 0, .int .i64 1, .int .i64 2, .int .i64 3] 3)).alloc (.cells #[.slice (some ⟨w2.heap.size, 0, none⟩) 4 4] 29)) w2.heap.size (.slice (some ⟨w2.heap.size + 1, 0, none⟩) 1 1) 1 [⟨some ⟨w2.heap.size, 0, none⟩, 4, [0, 1, 2, 3]⟩] := by
    refine ⟨?_, fun r hr => by simp at hr; subst hr; exact hT0⟩
    have := World.ownsRow_lit (base := w2.heap.size) (e := 29) (size := 1) (w2.alloc (.cells #[.int .i64 0, .int .i64 1, .int .i64 2, .int .i64 3] 3)) #[.slice (some ⟨w2.heap.size, 0, none⟩) 4 4] 1 (by simp) (by unfold maxLen; omega) rfl
    simp at this
    exact this
  have HO0 := Lib.hid hO0
  have HLI := Lib.hid hLI
  have HBI := Lib.hid bI
  have hzI := bI.size
  clear hO0 hT0 hLI bI
  go_wp2_with (first
    | (at_builtin; refine app_row (w := ((w2.alloc (.cells #[.int .i64 0, .int .i64 1, .int .i64 2, .int .i64 3] 3)).alloc (.cells #[.slice (some ⟨w2.heap.size, 0, none⟩) 4 4] 29))) rfl Try.underlying22 siInfo rfl (by decide) (.tmp 34) (.tmp 35) rfl w2.heap.size (.slice (some ⟨w2.heap.size + 1, 0, none⟩) 1 1) (vals [⟨some ⟨w2.heap.size, 0, none⟩, 4, [0, 1, 2, 3]⟩]) (vals R) B 1 m d rfl rfl HO0.out.1 HVL.out HLI.out.1.1 HNIL.out (vals_one R) (by omega) (by omega) (by omega) ?_; intro vx wx hox hgx hatx; have hLx := LadO.more (S := R) HO0.out HLI.out.1.2 hox hgx; have hbx : Below w2.heap.size w2 wx := HBI.out.grown hgx (by omega) (fun k hk => (HO0.out.1.lt k hk).1); obtain ⟨Ax, cx, hvx⟩ := own_form hox; subst hvx; clear hox hgx hatx; have hLc := hL2.below hbx)
    | (at_builtin; refine app_row (w := wx.alloc (.cells #[] 29)) rfl Try.underlying22 siInfo rfl (by decide) (.tmp 37) (.tmp 38) rfl wx.heap.size (.slice (some ⟨wx.heap.size, 0, none⟩) 0 0) (vals []) (vals R) B 0 m d rfl rfl (own_empty_s wx) HVL.out (hLc.below (below_new wx (.cells #[] 29))).1.1 HNIL.out (vals_one R) (by omega) (by omega) (by simp) ?_; intro v1 w6 ho6 hg6 hat6; simp only [Nat.zero_add] at ho6; have hL6 := LadO.more (S := R) (ladO_empty wx) (hLc.below (below_new wx (.cells #[] 29))).1.2 ho6 hg6; have hb6 : Below wx.heap.size wx w6 := (below_new wx (.cells #[] 29)).grown hg6 (by simp) (fun k hk => by simp [Value.ownBlock] at hk; omega); obtain ⟨A6, c6, hv6⟩ := own_form ho6; subst hv6; simp only [List.nil_append] at hL6; clear ho6 hat6)
    | (at_builtin; refine app_row (w := (w6.alloc (.cells #[.int .i64 0, .int .i64 0, .int .i64 0, .int .i64 0] 3)).alloc (.cells #[.slice (some ⟨w6.heap.size, 0, none⟩) 4 4] 29)) rfl Try.underlying22 siInfo rfl (by decide) (.tmp 39) (.tmp 41) rfl wx.heap.size (.slice A6 m c6) (vals R) [.slice (some ⟨w6.heap.size, 0, none⟩) 4 4] (some ⟨w6.heap.size + 1, 0, none⟩) m 1 1 rfl rfl ((hL6.1.alloc _).alloc _) rfl (by have := seen_new (w6.alloc (.cells #[.int .i64 0, .int .i64 0, .int .i64 0, .int .i64 0] 3)) (.slice (some ⟨w6.heap.size, 0, none⟩) 4 4) 29; simpa using this) (fun e => by cases e) (by intro u hu; simp at hu; subst hu; rfl) (by omega) (by omega) (by have := hb6.size; simp; omega) ?_; intro v2 w8 ho8 hg8 hat8))
  have hL8 := ldr_lit (q := 4) [0, 0, 0, 0] rfl hL6 ho8 hg8
  have hb8 : Below wx.heap.size wx w8 := (hb6.trans ((below2 (below_new w6 (.cells #[.int .i64 0, .int .i64 0, .int .i64 0, .int .i64 0] 3)) (below_new _ (.cells #[.slice (some ⟨w6.heap.size, 0, none⟩) 4 4] 29))).mono hb6.size)).grown hg8 (by have := hb6.size; simp; omega) (fun k hk => (hL6.1.lt k hk).1)
  obtain ⟨A8, c8, hv8⟩ := own_form ho8
  subst hv8
  have hR8 : (R ++ [(⟨some ⟨w6.heap.size, 0, none⟩, 4, [0, 0, 0, 0]⟩ : Rw)]).length = m + 1 := by simp [HR.out]
  have hS8 : ss (R ++ [(⟨some ⟨w6.heap.size, 0, none⟩, 4, [0, 0, 0, 0]⟩ : Rw)]) = ss R ++ [[0, 0, 0, 0]] := by rw [ss_append]; rfl
  have hW8 : ∀ r ∈ R ++ [(⟨some ⟨w6.heap.size, 0, none⟩, 4, [0, 0, 0, 0]⟩ : Rw)], r.s.length ≤ 1099511627776 := fun r hr => by
    rw [List.mem_append] at hr
    rcases hr with hr | hr
    · exact HW.out r hr
    · simp at hr; subst hr; show (4 : Nat) ≤ _; omega
  generalize R ++ [(⟨some ⟨w6.heap.size, 0, none⟩, 4, [0, 0, 0, 0]⟩ : Rw)] = R8 at hL8 hR8 hS8 hW8
  have HR8 := Lib.hid hR8
  have HS8 := Lib.hid hS8
  have HW8 := Lib.hid hW8
  have hL8' := hL8.lad hR8
  clear hR8 hS8 hW8 ho8 hg8 hL8 hat8
  have hRx : ([(⟨some ⟨w2.heap.size, 0, none⟩, 4, [0, 1, 2, 3]⟩ : Rw)] ++ R).length = 1 + m := by simp [HR.out]; omega
  have hSx : ss ([(⟨some ⟨w2.heap.size, 0, none⟩, 4, [0, 1, 2, 3]⟩ : Rw)] ++ R) = [0, 1, 2, 3] :: ss R := by rw [ss_append]; rfl
  have hWx : ∀ r ∈ [(⟨some ⟨w2.heap.size, 0, none⟩, 4, [0, 1, 2, 3]⟩ : Rw)] ++ R, r.s.length ≤ 1099511627776 := fun r hr => by
    rw [List.mem_append] at hr
    rcases hr with hr | hr
    · simp at hr; subst hr; show (4 : Nat) ≤ _; omega
    · exact HW.out r hr
  have hLx' := (hLx.lad hRx).below hb8
  generalize [(⟨some ⟨w2.heap.size, 0, none⟩, 4, [0, 1, 2, 3]⟩ : Rw)] ++ R = Rx at hRx hSx hWx hLx'
  have HRX := Lib.hid hRx
  have HSX := Lib.hid hSx
  have HWX := Lib.hid hWx
  clear hRx hSx hWx hLx
  have v1 : ladB (ss Rx) = true := by rw [HSX.out, lad_cons HOK.out]; simp [ss_length, HR.out]; omega
  have v2 : ladB (ss R8) = true := by rw [HS8.out, lad_zero HOK.out]; simp [ss_length, HR.out]; omega
  have v3 : groupsI (ss R8) ((m : Int) + 1) = 1 := by
    have := lad_zero_groups HOK.out (by rw [ss_length, HR.out]; omega)
    rw [ss_length, HR.out] at this
    rw [HS8.out]; exact this
  have V := Lib.hid (And.intro v1 (And.intro v2 v3))
  clear v1 v2 v3
  go_wp2_with fail
  refine (ladderValid_any _ _ _ Rx _ hLx'.s HRX.out (by omega) HWX.out).mono ?_
  rintro e w' ⟨rfl, rfl⟩
  rw [V.out.1]
  go_wp2_with fail
  refine (ladderValid_any _ _ _ R8 _ hL8'.s HR8.out (by omega) HW8.out).mono ?_
  rintro e w' ⟨rfl, rfl⟩
  rw [V.out.2.1]
  go_wp2_with fail
  refine (ladderGroups_any _ _ _ R8 _ _ hL8'.s HR8.out (by omega) HW8.out).mono ?_
  rintro e w' ⟨rfl, rfl⟩
  rw [V.out.2.2]
  go_wp2
  go_ret
  exact ⟨rfl, below2 hb02 (below2 hbx hb8)⟩

end Go.Proofs.Ytfggfblneggncaa
