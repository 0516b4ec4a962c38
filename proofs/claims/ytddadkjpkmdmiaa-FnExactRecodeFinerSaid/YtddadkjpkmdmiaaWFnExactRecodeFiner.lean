/- Walk of the law FnExactRecodeFiner. -/
import Derived.Test.YtddadkjpkmdmiaaRf
import Derived.Test.YtddadkjpkmdmiaaRg
import Derived.Test.YtddadkjpkmdmiaaRt
import Derived.Test.YtddadkjpkmdmiaaLz
import Derived.Test.YtddadkjpkmdmiaaLt
import Derived.Test.YtddadkjpkmdmiaaLe
import Derived.Test.YtddadkjpkmdmiaaOpenL
import Derived.Deep.RegionWith
import Derived.Deep.RegionHeld3
namespace Go.Proofs.Ytddadkjpkmdmiaa
open Go.RowKit
set_option linter.unusedVariables false

set_option maxHeartbeats 3200000 in
theorem fnExactRecodeFiner_walk (w : World) (A : Option Addr) (n c : Nat) (hin : RowsIn w A n c) (a0 j0 s0 : Int) (a1 j1 s1 : Int) :
    Calls Try.prog 4 #[.slice A n c, .agg #[.int .i64 a0, .int .i64 j0, .int .i64 s0], .agg #[.int .i64 a1, .int .i64 j1, .int .i64 s1]] w fun e w' => e = .returned (.bool true) ∧ Below w.heap.size w w' := by
  obtain ⟨w0, hw0⟩ : ∃ w0, w0 = (w.alloc (.cells #[.int .i64 a0, .int .i64 j0, .int .i64 s0] 24)).alloc (.cells #[.int .i64 a1, .int .i64 j1, .int .i64 s1] 24) := ⟨_, rfl⟩
  have hb0 : Below w.heap.size w w0 := by rw [hw0]; exact below2 (below_new _ _) (below_new _ _)
  have x0 : Boxd w0 (w.heap.size) 24 #[.int .i64 a0, .int .i64 j0, .int .i64 s0] := by
    rw [hw0]; exact (Boxd.new _ _ _).alloc _
  have x1 : Boxd w0 (w.heap.size + 1) 24 #[.int .i64 a1, .int .i64 j1, .int .i64 s1] := by
    rw [hw0]
    have := Boxd.new (w.alloc (.cells #[.int .i64 a0, .int .i64 j0, .int .i64 s0] 24)) 24 #[.int .i64 a1, .int .i64 j1, .int .i64 s1]
    simp at this
    exact this
  obtain ⟨hn, R, hR, hA0, hrow⟩ := hin
  have hA := hA0.below hb0
  have HW0 := Lib.hid hw0
  clear hw0 hA0
  by_cases hbig : szRR (ss R) 1048576 < 0
  · have hbd : decide (szRR (ss R) 1048576 < 0) = true := by simpa using hbig
    go_enter Try.func4, Try.ntmps4
    go_wp2_with fail
    rw [← HW0.out]
    refine (szIntSS_any _ _ _ _ R _ hA hR hn hrow (by omega) (by omega)).mono ?_
    rintro e w' ⟨rfl, rfl⟩
    go_wp2
    go_ret
    exact ⟨rfl, hb0⟩
  · obtain ⟨hm', hrow'⟩ := szRR_le (R := ss R) (l := 1048576) (by omega) (by omega)
    rw [ss_length, hR] at hm'
    have hm : n ≤ 1048576 := by omega
    have hw : ∀ r ∈ R, r.s.length ≤ 1048576 := fun r hr => by have := hrow' r.s (List.mem_map_of_mem hr); omega
    have hbd : decide (szRR (ss R) 1048576 < 0) = false := by simpa using hbig
    have hne0 : (finB (ss R) ⟨a0, j0, s0⟩ ⟨a1, j1, s1⟩ != finB (ss R) ⟨a0, j0, s0⟩ ⟨a1, j1, s1⟩) = false := by simp
    have HA := Lib.hid hA
    have HR := Lib.hid hR
    have HW := Lib.hid hw
    have HN := Lib.hid hrow
    clear hA hR hw hrow hrow' hm' hbig
    go_enter Try.func4, Try.ntmps4
    have HAg := Lib.hid (fun (w' : World) (h : Below w0.heap.size w0 w') => HA.out.below h)
    have HXg := Lib.hid (fun (w' : World) (h : Below w0.heap.size w0 w') => (show w'.cell? ⟨w.heap.size, 0, none⟩ = some (.int .i64 a0) ∧ w'.cell? ⟨w.heap.size, 1, none⟩ = some (.int .i64 j0) ∧ w'.cell? ⟨w.heap.size, 2, none⟩ = some (.int .i64 s0) ∧ w'.cell? ⟨w.heap.size + 1, 0, none⟩ = some (.int .i64 a1) ∧ w'.cell? ⟨w.heap.size + 1, 1, none⟩ = some (.int .i64 j1) ∧ w'.cell? ⟨w.heap.size + 1, 2, none⟩ = some (.int .i64 s1) from ⟨(cell_three (x0.below h)).1.1, (cell_three (x0.below h)).1.2.1, (cell_three (x0.below h)).1.2.2, (cell_three (x1.below h)).1.1, (cell_three (x1.below h)).1.2.1, (cell_three (x1.below h)).1.2.2⟩))
    have cur0 : Below w0.heap.size w0 w0 := Below.refl _ _
    go_wp2_with fail
    rw [← HW0.out]
    refine (szIntSS_any _ _ _ _ R _ HA.out HR.out hn HN.out (by omega) (by omega)).mono ?_
    rintro e w' ⟨rfl, rfl⟩
    have cur : Below w0.heap.size w0 w0.drew := cur0.drew
    skip
    go_wp2
    go_region_held3 (fun w' => w'.cell? ⟨w.heap.size, 0, none⟩ = some (.int .i64 a0) ∧ w'.cell? ⟨w.heap.size, 1, none⟩ = some (.int .i64 j0) ∧ w'.cell? ⟨w.heap.size, 2, none⟩ = some (.int .i64 s0) ∧ w'.cell? ⟨w.heap.size + 1, 0, none⟩ = some (.int .i64 a1) ∧ w'.cell? ⟨w.heap.size + 1, 1, none⟩ = some (.int .i64 j1) ∧ w'.cell? ⟨w.heap.size + 1, 2, none⟩ = some (.int .i64 s1)) (with_reducible exact HXg.out _ cur) (first | (go_at_call 15; refine (toIntSS_any A n c R _ (HAg.out _ cur) HR.out hm HW.out).mono ?_; rintro e w1 ⟨gg1, S1, rfl, hl1, he1, hL1, hb1⟩; have cur := below2 cur hb1; have HL1 := Lib.hid hl1; have HE1 := Lib.hid he1; clear hl1 he1; skip; skip) | (go_at_call 16; refine (toRecode_any _ _ _ _).mono ?_; rintro e uu ⟨rfl, hbu⟩; have cur := below2 cur hbu; skip; skip; (first | (have hL1 := hL1.below hbu) | skip)) | (go_at_call 19; refine (sRecodeFiner_any _ _ _ S1 _ _ _ _ _ _ _ hL1.lad.s HL1.out (by omega) (fun r hr => by have h1 : r.s ∈ ss S1 := List.mem_map_of_mem hr; rw [HE1.out] at h1; obtain ⟨q, hq, e⟩ := List.mem_map.1 h1; have := HW.out q hq; rw [e] at this; omega)).mono ?_; rintro e w2 ⟨rfl, hbv⟩; rw [HE1.out]; have cur := below2 cur hbv; skip; skip; have hL1 := hL1.below hbv))
    all_goals
      go_wp2_with fail
      refine (toIntSS_any A n c R _ (HAg.out _ cur) HR.out hm HW.out).mono ?_
      rintro e w3 ⟨gg3, S3, rfl, hl3, he3, hL3, hb3⟩
      have cur := below2 cur hb3
      have HL3 := Lib.hid hl3
      have HE3 := Lib.hid he3
      clear hl3 he3
      skip
      have curD : Below w0.heap.size w0 w3 := cur
      have cur : Below w0.heap.size w0 w3.drew := curD.drew
      skip
      have hLD : LadW w3.drew _ _ _ S3 := hL3
      have hL3 := hLD
      clear hLD
      go_wp2
      go_region_held3 (fun w' => w'.cell? ⟨w.heap.size, 0, none⟩ = some (.int .i64 a0) ∧ w'.cell? ⟨w.heap.size, 1, none⟩ = some (.int .i64 j0) ∧ w'.cell? ⟨w.heap.size, 2, none⟩ = some (.int .i64 s0) ∧ w'.cell? ⟨w.heap.size + 1, 0, none⟩ = some (.int .i64 a1) ∧ w'.cell? ⟨w.heap.size + 1, 1, none⟩ = some (.int .i64 j1) ∧ w'.cell? ⟨w.heap.size + 1, 2, none⟩ = some (.int .i64 s1)) (with_reducible exact HXg.out _ cur) (first | (go_at_call 16; refine (toRecode_any _ _ _ _).mono ?_; rintro e uu ⟨rfl, hbu⟩; have cur := below2 cur hbu; skip; skip; (first | (have hL3 := hL3.below hbu) | skip)) | (go_at_call 20; refine (recodeFiner_any _ _ _ S3 _ _ _ _ _ _ _ hL3.lad.s HL3.out (by omega) (fun r hr => by have h1 : r.s ∈ ss S3 := List.mem_map_of_mem hr; rw [HE3.out] at h1; obtain ⟨q, hq, e⟩ := List.mem_map.1 h1; have := HW.out q hq; rw [e] at this; omega)).mono ?_; rintro e w4 ⟨rfl, hbv⟩; rw [HE3.out]; have cur := below2 cur hbv; skip; skip; have hL3 := hL3.below hbv))
      all_goals
        go_wp2_with fail
        refine (toIntSS_any A n c R _ (HAg.out _ cur) HR.out hm HW.out).mono ?_
        rintro e w5 ⟨gg5, S5, rfl, hl5, he5, hL5, hb5⟩
        have cur := below2 cur hb5
        have HL5 := Lib.hid hl5
        have HE5 := Lib.hid he5
        clear hl5 he5
        have HEE := Lib.hid (show decide (ss S3 = ss S5) = true by rw [HE3.out, HE5.out]; simp)
        go_wp2_with fail
        refine (eqIntSS_any _ _ _ _ _ _ S3 S5 _ (hL3.below hb5).lad.s hL5.lad.s HL3.out HL5.out hm hm (fun r hr => by have h1 : r.s ∈ ss S3 := List.mem_map_of_mem hr; rw [HE3.out] at h1; obtain ⟨q, hq, e⟩ := List.mem_map.1 h1; have := HW.out q hq; rw [e] at this; omega) (fun r hr => by have h1 : r.s ∈ ss S5 := List.mem_map_of_mem hr; rw [HE5.out] at h1; obtain ⟨q, hq, e⟩ := List.mem_map.1 h1; have := HW.out q hq; rw [e] at this; omega)).mono ?_
        rintro e w6 ⟨rfl, hb6⟩
        rw [HEE.out]
        go_wp2
        go_ret
        exact ⟨rfl, below2 hb0 (below2 cur hb6)⟩

end Go.Proofs.Ytddadkjpkmdmiaa
