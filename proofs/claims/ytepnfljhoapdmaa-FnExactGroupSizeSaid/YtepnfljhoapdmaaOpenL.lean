/- The arguments of a law, opened: slices of rows. -/
import Derived.Test.YtepnfljhoapdmaaOa
import Derived.Test.YtepnfljhoapdmaaLr
import Derived.Deep.Matrix
namespace Go.Proofs.Ytepnfljhoapdmaa
open Go.RowKit Go.ChangeShapes Go.WideShapes Go.Joins Go.Deep

section
variable {H : Type} {enc : TypeId × Value → H} {W : World} {base : Nat} {v : Value} {d : DataW H} {p : List MemPlace} {r : Reach}

/-- What is known of a slice of rows that came in. -/
def RowsIn (w : World) (A : Option Addr) (n _c : Nat) : Prop := n ≤ 9223372036854775807 ∧ ∃ R : List Rw, R.length = n ∧ LadS w A R ∧ ∀ r ∈ R, r.s.length ≤ 9223372036854775807

theorem add_plain (b o j : Nat) : (⟨b, o, none⟩ : Addr).add j = ⟨b, o + j, none⟩ := by unfold Addr.add; split <;> simp_all

theorem seen_of_add {w : World} {a : Addr} {xs : List Value} (h : ∀ j u, xs[j]? = some u → w.cell? (a.add j) = some u) : Seen w (some a) xs := fun h0 => by
  obtain ⟨b, o, sp⟩ := a
  have hc0 := h 0 _ (List.getElem?_eq_getElem h0)
  have hsp : sp = none := by simpa [Addr.add] using World.cell?_spot hc0
  subst hsp
  refine ⟨b, o, rfl, block_lt_of_cell (by rw [add_plain] at hc0; exact hc0), fun j u hu => ?_⟩
  rw [← add_plain]
  exact h j u hu

theorem open_rows (hv : Value.okWide Try.prog W r base 24 v) (h : DataW.Trod enc Try.prog W 0 (fun _ => true) true 24 v d p) :
    ∃ A n c, v = .slice A n c ∧ RowsIn W A n c := by
  obtain ⟨a0, len0, cap0, rfl⟩ := okWide_slice Try.underlying24 hv
  obtain ⟨fuel, hf⟩ := h
  rcases open_int_rows Try.underlying24 Try.underlying57 Try.underlying3 (by kernel_rfl) (by kernel_rfl) hf with ⟨hcs, _⟩ | ⟨a, len, cap, A, L, C, Z, hcs, _, hl, hm, _, hi⟩
  · simp [Value.cells] at hcs
    obtain ⟨rfl, rfl, rfl⟩ := hcs
    exact ⟨_, _, _, rfl, by omega, [], rfl, ⟨Seen.nil _ _, by simp⟩, by simp⟩
  · simp [Value.cells] at hcs
    obtain ⟨rfl, rfl, rfl⟩ := hcs
    unfold maxLen at hm hi
    have hlen : ∀ i, i < cap0 → ((Z i).take (L i)).length = L i := fun i hik => by
      obtain ⟨_, h1, _, h3, _⟩ := hi i hik
      rw [List.length_take]; omega
    refine ⟨_, _, _, rfl, by omega, (List.range len0).map (fun i => ⟨A i, C i, (Z i).take (L i)⟩), by simp, ⟨seen_of_add fun j u hu => ?_, fun q hq => ?_⟩, fun q hq => ?_⟩
    · simp only [vals, List.map_map, List.getElem?_map, Option.map_eq_some_iff] at hu
      obtain ⟨i, hi', rfl⟩ := hu
      obtain ⟨hj, rfl⟩ : j < len0 ∧ i = j := by
        rcases Nat.lt_or_ge j len0 with h | h
        · rw [List.getElem?_range h] at hi'; injection hi' with hi'; exact ⟨h, hi'.symm⟩
        · rw [List.getElem?_eq_none (by simpa using h)] at hi'; cases hi'
      simp only [Function.comp, Rw.val]
      rw [hlen i (by omega)]
      exact (hi i (by omega)).1
    · simp only [List.mem_map, List.mem_range] at hq
      obtain ⟨i, hik, rfl⟩ := hq
      obtain ⟨_, h1, _, h3, _, h5, h6⟩ := hi i (by omega)
      show Seen W (A i) (ints ((Z i).take (L i)))
      cases ha : A i with
      | none =>
        have := h5 ha
        have e : (Z i).take (L i) = [] := List.eq_nil_of_length_eq_zero (by rw [hlen i (by omega)]; omega)
        rw [e]
        exact Seen.nil _ _
      | some a' =>
        refine seen_of_add fun j u hu => ?_
        simp only [ints, List.getElem?_map, Option.map_eq_some_iff] at hu
        obtain ⟨x, hx, rfl⟩ := hu
        rw [List.getElem?_take] at hx
        split at hx
        · rw [(h6 a' ha).2 j (by omega)]
          simp [List.getD, hx]
        · cases hx
    · simp only [List.mem_map, List.mem_range] at hq
      obtain ⟨i, hik, rfl⟩ := hq
      obtain ⟨_, h1, h2, _⟩ := hi i (by omega)
      show ((Z i).take (L i)).length ≤ _
      rw [hlen i (by omega)]
      omega

end
end Go.Proofs.Ytepnfljhoapdmaa
