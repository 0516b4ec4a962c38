/- Contracts of the reference's l3Recode, l3Ok. -/
import Derived.Test.YtepnfljhoapdmaaRi
import Derived.Test.YtepnfljhoapdmaaLy
namespace Go.Proofs.Ytepnfljhoapdmaa
open Go.RowKit
set_option linter.unusedVariables false

theorem below4 (w : World) (o1 o2 o3 o4 : Obj) : Below w.heap.size w ((((w.alloc o1).alloc o2).alloc o3).alloc o4) := below2 (below2 (below2 (below_new _ _) (below_new _ _)) (below_new _ _)) (below_new _ _)

set_option maxHeartbeats 3200000 in
theorem l3Recode_any (pa pj ps pp : Int) (A : Option Addr) (n c : Nat) (R : List Rw) (a j s : Int) (w : World) (hA : LadS w A R) (hn : R.length = n) (hok : okB ⟨pa, pj, ps, pp⟩ = true) (hr : recOk (ss R) ⟨a, j, s⟩ = true) :
    Calls Try.prog 47 #[.agg #[.int .i64 pa, .int .i64 pj, .int .i64 ps, .int .i64 pp], .slice A n c, .agg #[.int .i64 a, .int .i64 j, .int .i64 s]] w fun e w' =>
      e = .returned (.agg #[.int .i64 (lcode (ss R) a pa), .int .i64 (pj * (1 - j)), .int .i64 (ps * (1 - s)), .int .i64 pp]) ∧ Below w.heap.size w w' := by
  obtain ⟨hRv, hra, hrj, hrs⟩ := recOk_iff.1 hr
  simp only [ss_length] at hra hrj hrs
  rw [hn] at hra
  obtain ⟨⟨pa0, pa1⟩, _⟩ := okB_un hok
  obtain ⟨ra0, ra1⟩ := hra
  have HRV := Lib.hid hRv
  have HN := Lib.hid hn
  have HA := Lib.hid (hA.below (below4 w (.cells #[.int .i64 pa, .int .i64 pj, .int .i64 ps, .int .i64 pp] 31) (.cells #[.int .i64 a, .int .i64 j, .int .i64 s] 26) (.cells #[.int .i64 0, .int .i64 0, .int .i64 0, .int .i64 0] 31) (.cells #[.int .i64 pa, .int .i64 pj, .int .i64 ps, .int .i64 pp] 31)))
  obtain ⟨z, hz⟩ : ∃ z, lcode (ss R) a pa = z := ⟨_, rfl⟩
  rw [hz]
  have HZ := Lib.hid hz
  clear hRv hn hA hok hr hz
  have ej0 : pj * (1 - 0) = pj := by simp
  have ej1 : pj * (1 - 1) = 0 := by simp
  have es0 : ps * (1 - 0) = ps := by simp
  have es1 : ps * (1 - 1) = 0 := by simp
  rcases (show j = 0 ∨ j = 1 by omega) with hj | hj <;> rcases (show s = 0 ∨ s = 1 by omega) with hs | hs <;> subst hj hs
  · rw [ej0, es0]
    clear ej0 ej1 es0 es1 hrj hrs
    go_enter Try.func47, Try.ntmps47
    go_wp2_with (go_at_call 57; refine (l2Code_any _ _ _ R _ _ _ HA.out HN.out HRV.out ra0 ra1 pa0 pa1).mono ?_; rintro e w' ⟨rfl, rfl⟩; rw [HZ.out])
    exact bodyPost_ret (v := .agg #[.int .i64 z, .int .i64 pj, .int .i64 ps, .int .i64 pp]) (by simp [results, Try.results47, go_sem]) rfl ⟨rfl, below4 _ _ _ _ _⟩
  · rw [ej0, es1]
    clear ej0 ej1 es0 es1 hrj hrs
    go_enter Try.func47, Try.ntmps47
    go_wp2_with (go_at_call 57; refine (l2Code_any _ _ _ R _ _ _ HA.out HN.out HRV.out ra0 ra1 pa0 pa1).mono ?_; rintro e w' ⟨rfl, rfl⟩; rw [HZ.out])
    exact bodyPost_ret (v := .agg #[.int .i64 z, .int .i64 pj, .int .i64 0, .int .i64 pp]) (by simp [results, Try.results47, go_sem]) rfl ⟨rfl, below4 _ _ _ _ _⟩
  · rw [ej1, es0]
    clear ej0 ej1 es0 es1 hrj hrs
    go_enter Try.func47, Try.ntmps47
    go_wp2_with (go_at_call 57; refine (l2Code_any _ _ _ R _ _ _ HA.out HN.out HRV.out ra0 ra1 pa0 pa1).mono ?_; rintro e w' ⟨rfl, rfl⟩; rw [HZ.out])
    exact bodyPost_ret (v := .agg #[.int .i64 z, .int .i64 0, .int .i64 ps, .int .i64 pp]) (by simp [results, Try.results47, go_sem]) rfl ⟨rfl, below4 _ _ _ _ _⟩
  · rw [ej1, es1]
    clear ej0 ej1 es0 es1 hrj hrs
    go_enter Try.func47, Try.ntmps47
    go_wp2_with (go_at_call 57; refine (l2Code_any _ _ _ R _ _ _ HA.out HN.out HRV.out ra0 ra1 pa0 pa1).mono ?_; rintro e w' ⟨rfl, rfl⟩; rw [HZ.out])
    exact bodyPost_ret (v := .agg #[.int .i64 z, .int .i64 0, .int .i64 0, .int .i64 pp]) (by simp [results, Try.results47, go_sem]) rfl ⟨rfl, below4 _ _ _ _ _⟩

theorem rpOk_eq (L : List Pers) (R : List (List Int)) (r : Rec) : rpOk L R r = (peopleB L && recOk R r) := rfl

set_option maxHeartbeats 1600000 in
theorem l3Ok_any (A : Option Addr) (n c : Nat) (L : List Pers) (A' : Option Addr) (m c' : Nat) (R : List Rw) (a j s : Int) (w : World) (hP : Seen w A (pcells L)) (hn : L.length = n) (hnm : n ≤ 1099511627776)
    (hA : LadS w A' R) (hR : R.length = m) (hm : m ≤ 1099511627776) (hr : ∀ r ∈ R, r.s.length ≤ 1099511627776) :
    Calls Try.prog 46 #[.slice A n c, .slice A' m c', .agg #[.int .i64 a, .int .i64 j, .int .i64 s]] w fun e w' => e = .returned (.bool (rpOk L (ss R) ⟨a, j, s⟩)) ∧ Below w.heap.size w w' := by
  have b0 := below_new w (.cells #[.int .i64 a, .int .i64 j, .int .i64 s] 26)
  have HP := Lib.hid (hP.below b0)
  have HA := Lib.hid (hA.below b0)
  have HX := Lib.hid (Boxd.new w 26 #[.int .i64 a, .int .i64 j, .int .i64 s])
  have HB := Lib.hid b0
  have HN := Lib.hid hn
  have HR := Lib.hid hR
  have HW := Lib.hid hr
  have HQ := Lib.hid (rpOk_eq L (ss R) ⟨a, j, s⟩)
  clear hP hA b0 hn hR hr
  cases h1 : peopleB L
  · go_enter Try.func46, Try.ntmps46
    go_wp2_with fail
    refine (sPeopleValid_n _ _ _ L _ HP.out HN.out hnm).mono ?_
    rintro e w1 ⟨rfl, hb1⟩
    rw [h1]
    go_wp2
    go_ret
    exact ⟨ret_bool (by rw [HQ.out, h1]; rfl), below2 HB.out hb1⟩
  · go_enter Try.func46, Try.ntmps46
    go_wp2_with fail
    refine (sPeopleValid_n _ _ _ L _ HP.out HN.out hnm).mono ?_
    rintro e w1 ⟨rfl, hb1⟩
    rw [h1]
    obtain ⟨⟨g0, g1, g2⟩, _⟩ := cell_three (HX.out.below hb1)
    go_wp2_with fail
    refine (sRecodeValid_any _ _ _ R _ _ _ _ (HA.out.below hb1) HR.out hm HW.out).mono ?_
    rintro e w2 ⟨rfl, hb2⟩
    go_wp2
    go_ret
    exact ⟨ret_bool (by rw [HQ.out, h1]; rfl), below2 HB.out (below2 hb1 hb2)⟩

end Go.Proofs.Ytepnfljhoapdmaa
