/- Walk of the laws FnExactLadderValid, FnExactLadderCode, FnExactLadderGroups. -/
import Derived.Test.YtfggfblneggncaaLxc
import Derived.Test.YtfggfblneggncaaLxg
import Derived.Test.YtfggfblneggncaaLyc
import Derived.Test.YtfggfblneggncaaLyg
import Derived.Test.YtfggfblneggncaaLz
import Derived.Test.YtfggfblneggncaaLt
import Derived.Test.YtfggfblneggncaaLe
import Derived.Test.YtfggfblneggncaaOpenL
namespace Go.Proofs.Ytfggfblneggncaa
open Go.RowKit
set_option linter.unusedVariables false

set_option maxHeartbeats 1600000 in
theorem fnExactLadderValid_walk (w : World) (A : Option Addr) (n c : Nat) (hin : RowsIn w A n c) :
    Calls Try.prog 3 #[.slice A n c] w fun e w' => e = .returned (.bool true) ∧ Below w.heap.size w w' := by
  obtain ⟨hn, R, hR, hA, hrow⟩ := hin
  by_cases hbig : szRR (ss R) 1048576 < 0
  · have hbd : decide (szRR (ss R) 1048576 < 0) = true := by simpa using hbig
    go_enter Try.func3, Try.ntmps3
    go_wp2_with (go_at_call 14; refine (szIntSS_any _ _ _ _ R _ hA hR hn hrow (by omega) (by omega)).mono ?_; rintro e w' ⟨rfl, rfl⟩)
    go_ret
    exact ⟨rfl, Below.refl _ _⟩
  · obtain ⟨hm', hrow'⟩ := szRR_le (R := ss R) (l := 1048576) (by omega) (by omega)
    rw [ss_length, hR] at hm'
    have hm : n ≤ 1048576 := by omega
    have hw : ∀ r ∈ R, r.s.length ≤ 1048576 := fun r hr => by have := hrow' r.s (List.mem_map_of_mem hr); omega
    have hbd : decide (szRR (ss R) 1048576 < 0) = false := by simpa using hbig
    have hne0 : (ladB (ss R) != ladB (ss R)) = false := by simp
    have HA := Lib.hid hA
    have HR := Lib.hid hR
    have HW := Lib.hid hw
    have HN := Lib.hid hrow
    clear hA hR hw hrow hrow' hm' hbig
    go_enter Try.func3, Try.ntmps3
    go_wp2_with fail
    refine (szIntSS_any _ _ _ _ R _ HA.out HR.out hn HN.out (by omega) (by omega)).mono ?_
    rintro e w' ⟨rfl, rfl⟩
    go_wp2_with fail
    refine (toIntSS_any A n c R _ HA.out HR.out hm HW.out).mono ?_
    rintro e w1 ⟨g1, S1, rfl, hl1, he1, hL1, hb1⟩
    have hw1 : ∀ r ∈ S1, r.s.length ≤ 1099511627776 := fun r hr => by
      have h1 : r.s ∈ ss S1 := List.mem_map_of_mem hr
      rw [he1] at h1
      obtain ⟨q, hq, e⟩ := List.mem_map.1 h1
      have := HW.out q hq
      rw [e] at this
      omega
    have HL1 := Lib.hid hl1
    have HE1 := Lib.hid he1
    have HW1 := Lib.hid hw1
    clear hl1 he1 hw1
    go_wp2_with fail
    refine (sLadderValid_any _ _ _ S1 _ hL1.lad.s HL1.out (by omega) HW1.out).mono ?_
    rintro e w2 ⟨rfl, hb2⟩
    rw [HE1.out]
    have hb02 := below2 hb1 hb2
    go_wp2_with fail
    refine (toIntSS_any A n c R _ (HA.out.below hb02) HR.out hm HW.out).mono ?_
    rintro e w3 ⟨g3, S3, rfl, hl3, he3, hL3, hb3⟩
    have hb03 := below2 hb02 hb3
    have hw3 : ∀ r ∈ S3, r.s.length ≤ 1048576 := fun r hr => by
      have h1 : r.s ∈ ss S3 := List.mem_map_of_mem hr
      rw [he3] at h1
      obtain ⟨q, hq, e⟩ := List.mem_map.1 h1
      have := HW.out q hq
      rw [e] at this
      omega
    have HL3 := Lib.hid hl3
    have HE3 := Lib.hid he3
    have HW3 := Lib.hid hw3
    clear hl3 he3 hw3
    go_wp2_with fail
    refine (ladderValid_any _ _ _ S3 _ hL3.lad.s HL3.out (by omega) (fun r hr => by have := HW3.out r hr; omega)).mono ?_
    rintro e w3' ⟨rfl, rfl⟩
    rw [HE3.out]
    go_wp2_with fail
    refine (toIntSS_any A n c R _ (HA.out.below hb03) HR.out hm HW.out).mono ?_
    rintro e w5 ⟨g5, S5, rfl, hl5, he5, hL5, hb5⟩
    have hb05 := below2 hb03 hb5
    have hw5 : ∀ r ∈ S5, r.s.length ≤ 1048576 := fun r hr => by
      have h1 : r.s ∈ ss S5 := List.mem_map_of_mem hr
      rw [he5] at h1
      obtain ⟨q, hq, e⟩ := List.mem_map.1 h1
      have := HW.out q hq
      rw [e] at this
      omega
    have HL5 := Lib.hid hl5
    have HW5 := Lib.hid hw5
    have hee : decide (ss S3 = ss S5) = true := by rw [HE3.out, he5]; simp
    have HEE := Lib.hid hee
    clear hl5 he5 hw5 hee
    go_wp2_with fail
    refine (eqIntSS_any _ _ _ _ _ _ S3 S5 _ (hL3.below hb5).lad.s hL5.lad.s HL3.out HL5.out hm hm HW3.out HW5.out).mono ?_
    rintro e w6 ⟨rfl, hb6⟩
    rw [HEE.out]
    go_wp2
    go_ret
    exact ⟨rfl, below2 hb05 hb6⟩

set_option maxHeartbeats 1600000 in
theorem fnExactLadderCode_walk (w : World) (A : Option Addr) (n c : Nat) (hin : RowsIn w A n c) (x : Int) (_ : -9223372036854775808 ≤ x) (_ : x ≤ 9223372036854775807) (y : Int) (_ : -9223372036854775808 ≤ y) (_ : y ≤ 9223372036854775807) :
    Calls Try.prog 5 #[.slice A n c, .int .i64 x, .int .i64 y] w fun e w' => e = .returned (.bool true) ∧ Below w.heap.size w w' := by
  obtain ⟨hn, R, hR, hA, hrow⟩ := hin
  by_cases hbig : szRR (ss R) 1048576 < 0
  · have hbd : decide (szRR (ss R) 1048576 < 0) = true := by simpa using hbig
    go_enter Try.func5, Try.ntmps5
    go_wp2_with (go_at_call 14; refine (szIntSS_any _ _ _ _ R _ hA hR hn hrow (by omega) (by omega)).mono ?_; rintro e w' ⟨rfl, rfl⟩)
    go_ret
    exact ⟨rfl, Below.refl _ _⟩
  · obtain ⟨hm', hrow'⟩ := szRR_le (R := ss R) (l := 1048576) (by omega) (by omega)
    rw [ss_length, hR] at hm'
    have hm : n ≤ 1048576 := by omega
    have hw : ∀ r ∈ R, r.s.length ≤ 1048576 := fun r hr => by have := hrow' r.s (List.mem_map_of_mem hr); omega
    have hbd : decide (szRR (ss R) 1048576 < 0) = false := by simpa using hbig
    have hne0 : (codeI (ss R) x y != codeI (ss R) x y) = false := by simp
    have hne1 : (codeOk (ss R) x y != codeOk (ss R) x y) = false := by simp
    have HA := Lib.hid hA
    have HR := Lib.hid hR
    have HW := Lib.hid hw
    have HN := Lib.hid hrow
    clear hA hR hw hrow hrow' hm' hbig
    go_enter Try.func5, Try.ntmps5
    go_wp2_with fail
    refine (szIntSS_any _ _ _ _ R _ HA.out HR.out hn HN.out (by omega) (by omega)).mono ?_
    rintro e w' ⟨rfl, rfl⟩
    go_wp2_with fail
    refine (toIntSS_any A n c R _ HA.out HR.out hm HW.out).mono ?_
    rintro e w1 ⟨g1, S1, rfl, hl1, he1, hL1, hb1⟩
    have hw1 : ∀ r ∈ S1, r.s.length ≤ 1099511627776 := fun r hr => by
      have h1 : r.s ∈ ss S1 := List.mem_map_of_mem hr
      rw [he1] at h1
      obtain ⟨q, hq, e⟩ := List.mem_map.1 h1
      have := HW.out q hq
      rw [e] at this
      omega
    have HL1 := Lib.hid hl1
    have HE1 := Lib.hid he1
    have HW1 := Lib.hid hw1
    clear hl1 he1 hw1
    go_wp2_with fail
    refine (sLadderCodeL_any _ _ _ S1 _ _ _ hL1.lad.s HL1.out (by omega) HW1.out).mono ?_
    rintro e w2 ⟨rfl, hb2⟩
    rw [HE1.out]
    have hb02 := below2 hb1 hb2
    go_wp2_with fail
    refine (toIntSS_any A n c R _ (HA.out.below hb02) HR.out hm HW.out).mono ?_
    rintro e w3 ⟨g3, S3, rfl, hl3, he3, hL3, hb3⟩
    have hb03 := below2 hb02 hb3
    have hw3 : ∀ r ∈ S3, r.s.length ≤ 1048576 := fun r hr => by
      have h1 : r.s ∈ ss S3 := List.mem_map_of_mem hr
      rw [he3] at h1
      obtain ⟨q, hq, e⟩ := List.mem_map.1 h1
      have := HW.out q hq
      rw [e] at this
      omega
    have HL3 := Lib.hid hl3
    have HE3 := Lib.hid he3
    have HW3 := Lib.hid hw3
    clear hl3 he3 hw3
    go_wp2_with fail
    refine (ladderCodeL_any _ _ _ S3 _ _ _ hL3.lad.s HL3.out (by omega) (fun r hr => by have := HW3.out r hr; omega)).mono ?_
    rintro e w3' ⟨rfl, rfl⟩
    rw [HE3.out]
    go_wp2_with fail
    refine (toIntSS_any A n c R _ (HA.out.below hb03) HR.out hm HW.out).mono ?_
    rintro e w5 ⟨g5, S5, rfl, hl5, he5, hL5, hb5⟩
    have hb05 := below2 hb03 hb5
    have hw5 : ∀ r ∈ S5, r.s.length ≤ 1048576 := fun r hr => by
      have h1 : r.s ∈ ss S5 := List.mem_map_of_mem hr
      rw [he5] at h1
      obtain ⟨q, hq, e⟩ := List.mem_map.1 h1
      have := HW.out q hq
      rw [e] at this
      omega
    have HL5 := Lib.hid hl5
    have HW5 := Lib.hid hw5
    have hee : decide (ss S3 = ss S5) = true := by rw [HE3.out, he5]; simp
    have HEE := Lib.hid hee
    clear hl5 he5 hw5 hee
    go_wp2_with fail
    refine (eqIntSS_any _ _ _ _ _ _ S3 S5 _ (hL3.below hb5).lad.s hL5.lad.s HL3.out HL5.out hm hm HW3.out HW5.out).mono ?_
    rintro e w6 ⟨rfl, hb6⟩
    rw [HEE.out]
    go_wp2
    go_ret
    exact ⟨rfl, below2 hb05 hb6⟩

set_option maxHeartbeats 1600000 in
theorem fnExactLadderGroups_walk (w : World) (A : Option Addr) (n c : Nat) (hin : RowsIn w A n c) (x : Int) (_ : -9223372036854775808 ≤ x) (_ : x ≤ 9223372036854775807) :
    Calls Try.prog 6 #[.slice A n c, .int .i64 x] w fun e w' => e = .returned (.bool true) ∧ Below w.heap.size w w' := by
  obtain ⟨hn, R, hR, hA, hrow⟩ := hin
  by_cases hbig : szRR (ss R) 1048576 < 0
  · have hbd : decide (szRR (ss R) 1048576 < 0) = true := by simpa using hbig
    go_enter Try.func6, Try.ntmps6
    go_wp2_with (go_at_call 14; refine (szIntSS_any _ _ _ _ R _ hA hR hn hrow (by omega) (by omega)).mono ?_; rintro e w' ⟨rfl, rfl⟩)
    go_ret
    exact ⟨rfl, Below.refl _ _⟩
  · obtain ⟨hm', hrow'⟩ := szRR_le (R := ss R) (l := 1048576) (by omega) (by omega)
    rw [ss_length, hR] at hm'
    have hm : n ≤ 1048576 := by omega
    have hw : ∀ r ∈ R, r.s.length ≤ 1048576 := fun r hr => by have := hrow' r.s (List.mem_map_of_mem hr); omega
    have hbd : decide (szRR (ss R) 1048576 < 0) = false := by simpa using hbig
    have hne0 : (groupsI (ss R) x != groupsI (ss R) x) = false := by simp
    have HA := Lib.hid hA
    have HR := Lib.hid hR
    have HW := Lib.hid hw
    have HN := Lib.hid hrow
    clear hA hR hw hrow hrow' hm' hbig
    go_enter Try.func6, Try.ntmps6
    go_wp2_with fail
    refine (szIntSS_any _ _ _ _ R _ HA.out HR.out hn HN.out (by omega) (by omega)).mono ?_
    rintro e w' ⟨rfl, rfl⟩
    go_wp2_with fail
    refine (toIntSS_any A n c R _ HA.out HR.out hm HW.out).mono ?_
    rintro e w1 ⟨g1, S1, rfl, hl1, he1, hL1, hb1⟩
    have hw1 : ∀ r ∈ S1, r.s.length ≤ 1099511627776 := fun r hr => by
      have h1 : r.s ∈ ss S1 := List.mem_map_of_mem hr
      rw [he1] at h1
      obtain ⟨q, hq, e⟩ := List.mem_map.1 h1
      have := HW.out q hq
      rw [e] at this
      omega
    have HL1 := Lib.hid hl1
    have HE1 := Lib.hid he1
    have HW1 := Lib.hid hw1
    clear hl1 he1 hw1
    go_wp2_with fail
    refine (sLadderGroups_any _ _ _ S1 _ _ hL1.lad.s HL1.out (by omega) HW1.out).mono ?_
    rintro e w2 ⟨rfl, hb2⟩
    rw [HE1.out]
    have hb02 := below2 hb1 hb2
    go_wp2_with fail
    refine (toIntSS_any A n c R _ (HA.out.below hb02) HR.out hm HW.out).mono ?_
    rintro e w3 ⟨g3, S3, rfl, hl3, he3, hL3, hb3⟩
    have hb03 := below2 hb02 hb3
    have hw3 : ∀ r ∈ S3, r.s.length ≤ 1048576 := fun r hr => by
      have h1 : r.s ∈ ss S3 := List.mem_map_of_mem hr
      rw [he3] at h1
      obtain ⟨q, hq, e⟩ := List.mem_map.1 h1
      have := HW.out q hq
      rw [e] at this
      omega
    have HL3 := Lib.hid hl3
    have HE3 := Lib.hid he3
    have HW3 := Lib.hid hw3
    clear hl3 he3 hw3
    go_wp2_with fail
    refine (ladderGroups_any _ _ _ S3 _ _ hL3.lad.s HL3.out (by omega) (fun r hr => by have := HW3.out r hr; omega)).mono ?_
    rintro e w3' ⟨rfl, rfl⟩
    rw [HE3.out]
    go_wp2_with fail
    refine (toIntSS_any A n c R _ (HA.out.below hb03) HR.out hm HW.out).mono ?_
    rintro e w5 ⟨g5, S5, rfl, hl5, he5, hL5, hb5⟩
    have hb05 := below2 hb03 hb5
    have hw5 : ∀ r ∈ S5, r.s.length ≤ 1048576 := fun r hr => by
      have h1 : r.s ∈ ss S5 := List.mem_map_of_mem hr
      rw [he5] at h1
      obtain ⟨q, hq, e⟩ := List.mem_map.1 h1
      have := HW.out q hq
      rw [e] at this
      omega
    have HL5 := Lib.hid hl5
    have HW5 := Lib.hid hw5
    have hee : decide (ss S3 = ss S5) = true := by rw [HE3.out, he5]; simp
    have HEE := Lib.hid hee
    clear hl5 he5 hw5 hee
    go_wp2_with fail
    refine (eqIntSS_any _ _ _ _ _ _ S3 S5 _ (hL3.below hb5).lad.s hL5.lad.s HL3.out HL5.out hm hm HW3.out HW5.out).mono ?_
    rintro e w6 ⟨rfl, hb6⟩
    rw [HEE.out]
    go_wp2
    go_ret
    exact ⟨rfl, below2 hb05 hb6⟩

end Go.Proofs.Ytfggfblneggncaa
