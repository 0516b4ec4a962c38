/- Contract of l6Open: a reader at place 0. -/
import Derived.Test.YtepnfljhoapdmaaRd
namespace Go.Proofs.Ytepnfljhoapdmaa
open Go.RowKit
set_option linter.unusedVariables false

theorem rdr_new {w : World} {A : Option Addr} {n c : Nat} {z : List Int} (hn : n ≤ 2000) (hz : z.length = n) (hb : ∀ x ∈ z, 0 ≤ x ∧ x < 256)
    (hc : 0 < n → ∃ b o, A = some ⟨b, o, none⟩ ∧ b < w.heap.size ∧ ∀ j x, z[j]? = some x → w.cell? ⟨b, o + j, none⟩ = some (.int .u8 x)) :
    Rdr w.heap.size (w.alloc (.cells #[.slice A n c, .int .i64 0] 73)) w.heap.size 0 := by
  refine ⟨Nat.le_refl _, A, n, c, z, heap_alloc_new w _, hn, hz, hb, fun h => ?_⟩
  obtain ⟨b, o, e, hlt, hx⟩ := hc h
  exact ⟨b, o, e, hlt, fun j x hj => ((below_new w _).cell (p := ⟨b, o + j, none⟩) hlt).trans (hx j x hj)⟩

set_option maxHeartbeats 400000 in
theorem l6Open_any (A : Option Addr) (n c : Nat) (w : World) (hin : BytesIn w A n c) : Calls Try.prog 28 #[.slice A n c] w fun e w' =>
    ∃ g, e = .returned (.pointer (some ⟨g, 0, none⟩)) ∧ Rdr w.heap.size w' g 0 ∧ Below w.heap.size w w' := by
  obtain ⟨hnc, hn, hc9, z, hz, hzb, hs⟩ := hin
  have HS := Lib.hid hs
  have HZ := Lib.hid hz
  have HB := Lib.hid hzb
  clear hs hz hzb
  by_cases h : 2000 < n
  · rcases A with _ | ad
    · obtain ⟨b, o, e, _⟩ := HS.out (by rw [List.length_map, HZ.out]; omega)
      cases e
    · go_enter Try.func28, Try.ntmps28
      go_wp2
      go_ret
      refine ⟨_, rfl, rdr_new (z := z.take 2000) (by omega) (by rw [List.length_take, HZ.out]; omega) (fun x hx => HB.out x (List.mem_of_mem_take hx)) fun _ => ?_, below_new _ _⟩
      obtain ⟨b, o, e, hlt, hx⟩ := HS.out (by rw [List.length_map, HZ.out]; omega)
      refine ⟨b, o, e, hlt, fun j x hj => hx j _ ?_⟩
      rw [List.getElem?_take] at hj
      split at hj
      · simp [hj]
      · cases hj
  · go_enter Try.func28, Try.ntmps28
    go_wp2
    go_ret
    refine ⟨_, rfl, rdr_new (z := z) (by omega) HZ.out HB.out fun _ => ?_, below_new _ _⟩
    obtain ⟨b, o, e, hlt, hx⟩ := HS.out (by rw [List.length_map, HZ.out]; assumption)
    exact ⟨b, o, e, hlt, fun j x hj => hx j _ (by simp [hj])⟩

end Go.Proofs.Ytepnfljhoapdmaa
