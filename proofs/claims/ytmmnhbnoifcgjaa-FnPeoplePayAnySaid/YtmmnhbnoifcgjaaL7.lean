/- Walk of the law FnPeoplePayAny. -/
import Derived.Test.YtmmnhbnoifcgjaaSm
import Derived.Test.YtmmnhbnoifcgjaaSp
import Derived.Test.YtmmnhbnoifcgjaaAp
import Derived.Test.YtmmnhbnoifcgjaaPn
import Derived.Test.YtmmnhbnoifcgjaaSl
import Derived.Deep.RegionWith
import Derived.Deep.DeepCutAuto
namespace Go.Proofs.Ytmmnhbnoifcgjaa
open Go.RowKit
set_option linter.unusedVariables false

/-- The pays of the first k jobs. -/
def jobsTo (L : List Pers) (x z : Int) : Nat → Int
  | 0 => 0
  | k + 1 => jobsTo L x z k + payI L x k z
theorem jobs_four {L : List Pers} {x y z : Int} (h1 : peopleB L = true) (h2 : askB x y z = true) : jobsTo L x z 4 = payI L x (-1) z := by
  have e := pys_jobs (peopleB_iff.1 h1).1 x z
  have e0 := pay_pys h1 (ask_j (k := 0) h2 (by omega) (by omega))
  have e1 := pay_pys h1 (ask_j (k := 1) h2 (by omega) (by omega))
  have e2 := pay_pys h1 (ask_j (k := 2) h2 (by omega) (by omega))
  have e3 := pay_pys h1 (ask_j (k := 3) h2 (by omega) (by omega))
  have e4 := pay_pys h1 (ask_j (k := -1) h2 (by omega) (by omega))
  simp [jobsTo, e0, e1, e2, e3, e4, e]
def JobsRel (L : List Pers) (x z : Int) (w0 : World) (t i : Value) (wr : World) : Prop :=
  ∃ (k : Nat) (q : Int), k ≤ 4 ∧ i = .int .i64 k ∧ t = .int .i64 q ∧ -100000 * (k : Int) ≤ q ∧ q ≤ 100000 * (k : Int) ∧ Hid (jobsTo L x z k = q) ∧ Below w0.heap.size w0 wr

set_option maxHeartbeats 3200000 in
theorem fnPeoplePayAny_walk (w : World) (A : Option Addr) (n c : Nat) (hin : BytesIn w A n c) :
    Calls Try.prog 10 #[.slice A n c] w fun e w' => e = .returned (.bool true) ∧ Below w.heap.size w w' := by
  have hn := hin.2.1
  by_cases hbig : 1048576 < n
  · have hd : decide (1048576 < (n : Int)) = true := by simp; omega
    go_enter Try.func10, Try.ntmps10
    go_wp2
    go_ret
    exact ⟨rfl, Below.refl _ _⟩
  have hd : decide (1048576 < (n : Int)) = false := by simp; omega
  go_enter Try.func10, Try.ntmps10
  go_wp2_with fail
  refine (drawPeoplePay_any A n c w hin).mono ?_
  rintro e w1 ⟨B, d, L, x, y, z, rfl, hP1, hm, hb1⟩
  obtain ⟨m, hL⟩ : ∃ m, L.length = m := ⟨_, rfl⟩
  rw [hL] at hm ⊢
  have HL := Lib.hid hL
  clear hL
  go_wp2_with fail
  refine (peoplePay_any _ _ _ L _ _ _ _ hP1.1 HL.out (by omega)).mono ?_
  rintro e w2 ⟨rfl, hb2⟩
  have hP2 := hP1.below hb2
  go_wp2_with fail
  refine (sPeoplePay_any _ _ _ L _ _ _ _ hP2.1 HL.out (by omega)).mono ?_
  rintro e w3 ⟨rfl, hb3⟩
  have hP3 := hP2.below hb3
  have hb03 := below2 hb1 (below2 hb2 hb3)
  have hne : (payI L x y z != payI L x y z) = false := by simp
  cases h12 : peopleB L && askB x y z
  · have e0 := payI_no h12
    rw [e0] at hne ⊢
    clear e0
    go_wp2
    go_ret
    exact ⟨rfl, hb03⟩
  have h12' := h12
  simp only [Bool.and_eq_true] at h12'
  obtain ⟨h1, h2⟩ := h12'
  have hpos : 0 ≤ payI L x y z := by rw [payI_yes h1 h2]; exact (sumP_bound (selL_ok (peopleB_iff.1 h1).1 _ _ _)).1
  have hpd : decide (payI L x y z < 0) = false := by simp; omega
  have hmd : m ≤ d := by rw [← HL.out]; exact hP3.2.1
  clear h12 hP1 hP2 hb1 hb2 hb3
  go_wp2_with fail
  go_loopw [9, 10] (fun t i wr => JobsRel L x z w3 t i wr) (fun _ i _ => 4 - (intOf i).toNat)
  case atStart => exact ⟨0, 0, by omega, rfl, rfl, by omega, by omega, rfl, Below.refl _ _⟩
  case round =>
    obtain ⟨k, q, hk, rfl, rfl, hq0, hq1, hsum, hbr⟩ := hrel
    have hPr := hP3.below hbr
    have hb0r := below2 hb03 hbr
    by_cases hk4 : (k : Int) < 4
    · obtain ⟨hle0, hle1⟩ := pay_le (L := L) x (k : Int) z
      go_wp2_with (go_at_call 19; refine (peoplePay_any _ _ _ L _ _ _ _ hPr.1 HL.out (by omega)).mono ?_; rintro e w4 ⟨rfl, hb4⟩)
      have R : JobsRel L x z w3 (.int .i64 (q + payI L x k z)) (.int .i64 ((k : Int) + 1)) w4 :=
        ⟨k + 1, q + payI L x k z, by omega, by go_num, rfl, by omega, by omega, by unfold Hid; rw [jobsTo, hsum.out], hbr.trans (hb4.mono hbr.size)⟩
      go_roundw
      case rel => first | exact R | ((repeat apply Exists.intro); first | exact ⟨R, rfl⟩ | exact ⟨R, rfl, rfl⟩ | exact ⟨R, rfl, rfl, rfl⟩)
      case measure => simp [intOf]; omega
    · obtain rfl : k = 4 := by omega
      have hx := hsum.out
      rw [jobs_four h1 h2] at hx
      subst hx
      go_wp2_with fail
      refine (peoplePay_any _ _ _ L _ _ _ _ hPr.1 HL.out (by omega)).mono ?_
      rintro e w4 ⟨rfl, hb4⟩
      go_wp2
      go_ret
      exact ⟨ret_bool (by simp), below2 hb0r hb4⟩

end Go.Proofs.Ytmmnhbnoifcgjaa
