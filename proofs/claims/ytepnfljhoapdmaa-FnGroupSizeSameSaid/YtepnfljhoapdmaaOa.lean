/- The arguments of a law, opened: bytes, numbers. -/
import Derived.Test.YtepnfljhoapdmaaMa
import Derived.ProofKit
import Derived.OpenShut
import Derived.ChangeOld
import Derived.Lib.SmallJoins
import Derived.Deep.Slices
import Derived.Deep.Fields
namespace Go.Proofs.Ytepnfljhoapdmaa
open Go.RowKit Go.ChangeShapes Go.WideShapes Go.Joins Go.Deep

section
variable {H : Type} {enc : TypeId × Value → H} {W : World} {base : Nat} {v : Value} {d : DataW H} {p : List MemPlace} {r : Reach}

/-- What is known of a slice of bytes that came in. -/
def BytesIn (w : World) (A : Option Addr) (n c : Nat) : Prop :=
  n ≤ c ∧ n ≤ 9223372036854775807 ∧ c ≤ 9223372036854775807 ∧ ∃ z : List Int, z.length = n ∧ (∀ x ∈ z, 0 ≤ x ∧ x < 256) ∧ Seen w A (z.map (Value.int .u8))

theorem BytesIn.below {w w' : World} {A : Option Addr} {n c : Nat} (h : BytesIn w A n c) (hb : Below w.heap.size w w') : BytesIn w' A n c := by
  obtain ⟨h1, h2, h3, z, h4, h5, h6⟩ := h
  exact ⟨h1, h2, h3, z, h4, h5, h6.below hb⟩

theorem open_bytes (hv : Value.okWide Try.prog W r base 22 v) (h : DataW.Trod enc Try.prog W 0 (fun _ => true) true 22 v d p) :
    ∃ A n c, v = .slice A n c ∧ BytesIn W A n c := by
  obtain ⟨a0, len0, cap0, rfl⟩ := okWide_slice Try.underlying22 hv
  have lt0 : ∀ x ∈ p, x.block < W.heap.size := by obtain ⟨m, hm⟩ := h; exact DataW.trod_lt m _ _ _ hm
  obtain ⟨fuel, hf⟩ := h
  rcases open_ints Try.underlying22 Try.underlying5 (by kernel_rfl) hf with ⟨hcs, _⟩ | ⟨x, l, c, zs, hcs, _, hl, hm, hz, _, hcell, hwz⟩
  · simp [Value.cells] at hcs
    obtain ⟨rfl, rfl, rfl⟩ := hcs
    exact ⟨_, _, _, rfl, by omega, by omega, by omega, [], rfl, by simp, Seen.nil _ _⟩
  · simp [Value.cells] at hcs
    obtain ⟨rfl, rfl, rfl⟩ := hcs
    have hz' : zs.length = cap0 := by simpa using hz
    unfold maxLen at hm
    refine ⟨_, _, _, rfl, hl, by omega, hm, zs.take len0, by rw [List.length_take]; omega, fun n hn => ?_, fun h0 => ?_⟩
    · have := hwz n (List.mem_of_mem_take hn)
      have := bounds_u8 this
      omega
    · have h00 : 0 < zs.length := by simp at h0; omega
      obtain ⟨b, o, rfl, hcl⟩ := ints_at hcell h00
      refine ⟨b, o, rfl, block_lt_of_cell (hcl 0 h00), fun j u hu => ?_⟩
      simp only [List.getElem?_map, List.getElem?_take] at hu
      have hj : j < len0 := by
        by_cases hj : j < len0
        · exact hj
        · rw [if_neg hj] at hu; simp at hu
      rw [if_pos hj] at hu
      rw [hcl j (by omega)]
      rw [List.getElem?_eq_getElem (by omega)] at hu
      simp at hu
      rw [← hu]
      simp [List.getD, List.getElem?_eq_getElem (show j < zs.length by omega)]

theorem open_num (hv : Value.okWide Try.prog W r base 3 v) (h : DataW.Trod enc Try.prog W 0 (fun _ => true) true 3 v d p) :
    ∃ n : Int, v = .int .i64 n ∧ -9223372036854775808 ≤ n ∧ n ≤ 9223372036854775807 := by
  obtain ⟨n, rfl, _, _, w1⟩ := open_int Try.underlying3 hv h
  have := bounds_i64 w1
  exact ⟨n, rfl, by omega, by omega⟩

end
end Go.Proofs.Ytepnfljhoapdmaa
