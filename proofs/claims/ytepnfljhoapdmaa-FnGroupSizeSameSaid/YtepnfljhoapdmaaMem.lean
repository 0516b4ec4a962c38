/- Words for memory: persons as cells. No conditions. -/
import Derived.Test.YtepnfljhoapdmaaMa
import Derived.Test.YtepnfljhoapdmaaPv
namespace Go.Proofs.Ytepnfljhoapdmaa
open Go.RowKit

theorem pInfo : (Try.prog.info? 31).map (fun i => (i.zero, i.size, i.bytes)) = some (some (.agg #[.int .i64 0, .int .i64 0, .int .i64 0, .int .i64 0]), 4, 32) := by kernel_rfl

def Pers.cells (x : Pers) : List Value := [.int .i64 x.a, .int .i64 x.j, .int .i64 x.s, .int .i64 x.p]
def pcells (L : List Pers) : List Value := L.flatMap Pers.cells

theorem pcells_nil : pcells [] = [] := rfl
theorem pcells_cons (x : Pers) (L : List Pers) : pcells (x :: L) = [.int .i64 x.a, .int .i64 x.j, .int .i64 x.s, .int .i64 x.p] ++ pcells L := rfl
theorem pcells_append (L M : List Pers) : pcells (L ++ M) = pcells L ++ pcells M := by simp [pcells]
theorem pcells_one (x : Pers) : pcells [x] = [.int .i64 x.a, .int .i64 x.j, .int .i64 x.s, .int .i64 x.p] := rfl
theorem pcells_length (L : List Pers) : (pcells L).length = L.length * 4 := by
  induction L with
  | nil => rfl
  | cons x L ih => rw [pcells_cons, List.length_append, ih]; simp; omega
theorem pcells_at (L : List Pers) : ∀ (i : Nat) (x : Pers), L[i]? = some x → (pcells L)[i * 4]? = some (.int .i64 x.a) ∧ (pcells L)[i * 4 + 1]? = some (.int .i64 x.j) ∧ (pcells L)[i * 4 + 2]? = some (.int .i64 x.s) ∧ (pcells L)[i * 4 + 3]? = some (.int .i64 x.p) := by
  induction L with
  | nil => intro i x h; simp at h
  | cons y L ih =>
    intro i x h
    cases i with
    | zero => simp at h; subst h; simp [pcells_cons]
    | succ i =>
      have h' := ih i x (by simpa using h)
      rw [pcells_cons]
      have e : ∀ j, ([Value.int .i64 y.a, Value.int .i64 y.j, Value.int .i64 y.s, Value.int .i64 y.p] ++ pcells L)[(i + 1) * 4 + j]? = (pcells L)[i * 4 + j]? := by
        intro j
        rw [List.getElem?_append_right (by simp; omega)]
        congr 1
        simp; omega
      exact ⟨(e 0).trans h'.1, (e 1).trans h'.2.1, (e 2).trans h'.2.2.1, (e 3).trans h'.2.2.2⟩
theorem pcells_one_cell (L : List Pers) : ∀ u ∈ pcells L, u.oneCell' = true := by
  intro u hu
  simp only [pcells, List.mem_flatMap, Pers.cells] at hu
  obtain ⟨x, _, h⟩ := hu
  simp only [List.mem_cons, List.not_mem_nil, or_false] at h
  rcases h with rfl | rfl | rfl | rfl <;> rfl

/-- The four cells of person i. -/
theorem cells_at {w : World} {b o : Nat} {L : List Pers} (hc : ∀ j u, (pcells L)[j]? = some u → w.cell? ⟨b, o + j, none⟩ = some u) {i : Nat} {x : Pers} (hx : L[i]? = some x) :
    w.cell? ⟨b, o + i * 4, none⟩ = some (.int .i64 x.a) ∧ w.cell? ⟨b, o + i * 4 + 1, none⟩ = some (.int .i64 x.j) ∧ w.cell? ⟨b, o + i * 4 + 2, none⟩ = some (.int .i64 x.s) ∧ w.cell? ⟨b, o + i * 4 + 3, none⟩ = some (.int .i64 x.p) := by
  have h := pcells_at L i x hx
  exact ⟨hc _ _ h.1, hc _ _ h.2.1, hc _ _ h.2.2.1, hc _ _ h.2.2.2⟩

theorem cells_later {w w' : World} {b o : Nat} {v0 v1 v2 v3 : Value} (hlt : b < w.heap.size) (hb : Below w.heap.size w w')
    (h : w.cell? ⟨b, o, none⟩ = some v0 ∧ w.cell? ⟨b, o + 1, none⟩ = some v1 ∧ w.cell? ⟨b, o + 2, none⟩ = some v2 ∧ w.cell? ⟨b, o + 3, none⟩ = some v3) :
    w'.cell? ⟨b, o, none⟩ = some v0 ∧ w'.cell? ⟨b, o + 1, none⟩ = some v1 ∧ w'.cell? ⟨b, o + 2, none⟩ = some v2 ∧ w'.cell? ⟨b, o + 3, none⟩ = some v3 :=
  ⟨(hb.cell hlt).trans h.1, (hb.cell hlt).trans h.2.1, (hb.cell hlt).trans h.2.2.1, (hb.cell hlt).trans h.2.2.2⟩

theorem seen_cases {w : World} {A : Option Addr} {L : List Pers} (h : Seen w A (pcells L)) : L = [] ∨ ∃ b o, A = some ⟨b, o, none⟩ ∧ b < w.heap.size ∧ ∀ j u, (pcells L)[j]? = some u → w.cell? ⟨b, o + j, none⟩ = some u := by
  rcases L with _ | ⟨x, L⟩
  · exact .inl rfl
  · exact .inr (h (by rw [pcells_length]; simp))

end Go.Proofs.Ytepnfljhoapdmaa
