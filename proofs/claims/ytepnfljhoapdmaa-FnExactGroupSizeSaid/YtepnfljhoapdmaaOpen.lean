/- The arguments of a law, opened: a person, people. -/
import Derived.Test.YtepnfljhoapdmaaOa
import Derived.Test.YtepnfljhoapdmaaMem
namespace Go.Proofs.Ytepnfljhoapdmaa
open Go.RowKit Go.ChangeShapes Go.WideShapes Go.Joins Go.Deep

section
variable {H : Type} {enc : TypeId × Value → H} {W : World} {base : Nat} {v : Value} {d : DataW H} {p : List MemPlace} {r : Reach}

theorem open_person (hv : Value.okWide Try.prog W r base 59 v) (h : DataW.Trod enc Try.prog W 0 (fun _ => true) true 59 v d p) :
    ∃ a j s q : Int, v = .agg #[.int .i64 a, .int .i64 j, .int .i64 s, .int .i64 q] := by
  obtain ⟨v0, v1, v2, v3, y0, y1, y2, y3, n, rfl, _, _, h0, h1, h2, h3⟩ := open_agg4 Try.underlying59 (by kernel_rfl) (by kernel_rfl) hv h
  obtain ⟨a, e0, _⟩ := DataW.trod_int Try.underlying3 h0
  obtain ⟨j, e1, _⟩ := DataW.trod_int Try.underlying3 h1
  obtain ⟨s, e2, _⟩ := DataW.trod_int Try.underlying3 h2
  obtain ⟨q, e3, _⟩ := DataW.trod_int Try.underlying3 h3
  simp only [List.cons.injEq, and_true] at e0 e1 e2 e3
  subst e0 e1 e2 e3
  exact ⟨a, j, s, q, rfl⟩

/-- What is known of a slice of persons that came in. -/
def PeopleIn (w : World) (A : Option Addr) (n c : Nat) : Prop := n ≤ c ∧ n ≤ 9223372036854775807 ∧ ∃ L : List Pers, n = L.length ∧ Seen w A (pcells L)

theorem pcells_idx : ∀ (L : List Pers) (j : Nat) (u : Value), (pcells L)[j]? = some u → ∃ i x r, L[i]? = some x ∧ j = i * 4 + r ∧ x.cells[r]? = some u
  | [], j, u, h => by simp [pcells] at h
  | y :: L, j, u, h => by
    rw [pcells_cons] at h
    rcases Nat.lt_or_ge j 4 with hj | hj
    · rw [List.getElem?_append_left (by simpa using hj)] at h
      exact ⟨0, y, j, rfl, by omega, h⟩
    · rw [List.getElem?_append_right (by simpa using hj)] at h
      obtain ⟨i, x, r, h1, h2, h3⟩ := pcells_idx L (j - 4) u h
      exact ⟨i + 1, x, r, by simpa using h1, by omega, h3⟩

theorem people_of_cells {w : World} {a : Addr} {n : Nat} (h : ∀ i, i < n → ∃ x : Pers, ∀ (j : Nat) (u : Value), x.cells[j]? = some u → w.cell? (a.add (i * 4 + j)) = some u) :
    ∃ L : List Pers, n = L.length ∧ Seen w (some a) (pcells L) := by
  have hx : ∃ X : Nat → Pers, ∀ i, i < n → ∀ (j : Nat) (u : Value), (X i).cells[j]? = some u → w.cell? (a.add (i * 4 + j)) = some u := by
    refine ⟨fun i => if hi : i < n then Classical.choose (h i hi) else ⟨0, 0, 0, 0⟩, fun i hi => ?_⟩
    simp only [dif_pos hi]
    exact Classical.choose_spec (h i hi)
  obtain ⟨X, hX⟩ := hx
  refine ⟨(List.range n).map X, by simp, fun h0 => ?_⟩
  rw [pcells_length] at h0
  simp at h0
  obtain ⟨b, o, sp⟩ := a
  have hc0 := hX 0 (by omega) 0 _ rfl
  have hsp : sp = none := by simpa [Addr.add] using World.cell?_spot hc0
  subst hsp
  have hadd : ∀ j, (⟨b, o, none⟩ : Addr).add j = ⟨b, o + j, none⟩ := fun j => by unfold Addr.add; split <;> simp_all
  refine ⟨b, o, rfl, block_lt_of_cell (by rw [hadd] at hc0; exact hc0), fun j u hu => ?_⟩
  obtain ⟨i, x, r, hi, rfl, hr⟩ := pcells_idx _ j u hu
  simp only [List.getElem?_map, Option.map_eq_some_iff] at hi
  obtain ⟨i', hi', rfl⟩ := hi
  have hlt : i < n := by
    rcases Nat.lt_or_ge i n with h | h
    · exact h
    · rw [List.getElem?_eq_none (by simpa using h)] at hi'; cases hi'
  have : i' = i := by rw [List.getElem?_range hlt] at hi'; injection hi' with hi'; exact hi'.symm
  subst this
  rw [← hadd]
  exact hX i' hlt r u hr

theorem open_people (hv : Value.okWide Try.prog W r base 33 v) (h : DataW.Trod enc Try.prog W 0 (fun _ => true) true 33 v d p) :
    ∃ A n c, v = .slice A n c ∧ PeopleIn W A n c := by
  obtain ⟨a0, len0, cap0, rfl⟩ := okWide_slice Try.underlying33 hv
  obtain ⟨fuel, hf⟩ := h
  rcases open_slice Try.underlying33 hf with ⟨hcs, _⟩ | ⟨a, len, cap, m, n, D, Pl, hcs, _, hl, hm, hmm, _, hi⟩
  · simp [Value.cells] at hcs
    obtain ⟨rfl, rfl, rfl⟩ := hcs
    exact ⟨_, _, _, rfl, by omega, by omega, [], rfl, Seen.nil _ _⟩
  · simp [Value.cells] at hcs
    obtain ⟨rfl, rfl, rfl⟩ := hcs
    unfold maxLen at hm
    refine ⟨_, _, _, rfl, hl, by omega, ?_⟩
    have hm' : m = cap0 := by simpa using hmm
    have hcell : ∀ i, i < len0 → ∃ x : Pers, ∀ (j : Nat) (u : Value), x.cells[j]? = some u → W.cell? (a.add (i * 4 + j)) = some u := by
      intro i hin
      obtain ⟨cs', hc, ht⟩ := hi i (by omega)
      have hC : Try.prog.cellsOf 59 = 4 := by kernel_rfl
      rw [hC] at hc
      obtain ⟨_, hl4, hat⟩ := World.cells?_some hc
      obtain ⟨c0, c1, c2, c3, rfl⟩ : ∃ c0 c1 c2 c3, cs' = [c0, c1, c2, c3] := by
        match cs', hl4 with
        | [c0, c1, c2, c3], _ => exact ⟨c0, c1, c2, c3, rfl⟩
      obtain ⟨ys, n', _, _, _, hyl, hg⟩ := DataW.trod_struct Try.underlying59 ht
      have hy : ∀ k, k < 4 → ∃ y, ys[k]? = some y := fun k hk => ⟨_, List.getElem?_eq_getElem (by rw [hyl]; exact hk)⟩
      obtain ⟨y0, e0⟩ := hy 0 (by omega)
      obtain ⟨y1, e1⟩ := hy 1 (by omega)
      obtain ⟨y2, e2⟩ := hy 2 (by omega)
      obtain ⟨y3, e3⟩ := hy 3 (by omega)
      have k1 : Try.prog.cellsOf 3 = 1 := by kernel_rfl
      have t0 : DataW.trod enc Try.prog W 0 (fun _ => true) true n' 3 [c0] = some y0 := by have := (hg 0 _ rfl).trans e0; simpa [k1] using this
      have t1 : DataW.trod enc Try.prog W 0 (fun _ => true) true n' 3 [c1] = some y1 := by have := (hg 1 _ rfl).trans e1; simpa [k1] using this
      have t2 : DataW.trod enc Try.prog W 0 (fun _ => true) true n' 3 [c2] = some y2 := by have := (hg 2 _ rfl).trans e2; simpa [k1] using this
      have t3 : DataW.trod enc Try.prog W 0 (fun _ => true) true n' 3 [c3] = some y3 := by have := (hg 3 _ rfl).trans e3; simpa [k1] using this
      obtain ⟨a', f0, _⟩ := DataW.trod_int Try.underlying3 t0
      obtain ⟨j', f1, _⟩ := DataW.trod_int Try.underlying3 t1
      obtain ⟨s', f2, _⟩ := DataW.trod_int Try.underlying3 t2
      obtain ⟨p', f3, _⟩ := DataW.trod_int Try.underlying3 t3
      simp only [List.cons.injEq, and_true] at f0 f1 f2 f3
      subst f0 f1 f2 f3
      refine ⟨⟨a', j', s', p'⟩, fun j u hu => ?_⟩
      have hj : j < 4 := by
        rcases Nat.lt_or_ge j 4 with h | h
        · exact h
        · rw [List.getElem?_eq_none (by simpa [Pers.cells] using h)] at hu; cases hu
      have := hat j hj
      rw [Go.Deep.add_add] at this
      exact this.trans hu
    exact people_of_cells hcell

end
end Go.Proofs.Ytepnfljhoapdmaa
