/- Plain facts on persons and lists of persons: no program in sight. No conditions. -/
namespace Go.Proofs.Ytepnfljhoapdmaa

/-- A person: area, job, sex, pay. -/
structure Pers where
  a : Int
  j : Int
  s : Int
  p : Int

theorem Pers.same {x y : Pers} (ha : x.a = y.a) (hj : x.j = y.j) (hs : x.s = y.s) (hp : x.p = y.p) : x = y := by
  cases x; cases y; simp_all

def codeB (c : Int) : Bool := decide (0 ≤ c) && decide (c < 4)
def sexB (c : Int) : Bool := c == 0 || c == 1
def okB (x : Pers) : Bool := codeB x.a && (codeB x.j && (sexB x.s && (decide (0 ≤ x.p) && decide (x.p ≤ 999))))
def peopleB (L : List Pers) : Bool := L.all okB && decide (L.length ≤ 40)
def bandI (n : Int) : Int := if 0 ≤ n ∧ n ≤ 999 then n / 100 else -1

theorem codeB_iff {c : Int} : codeB c = true ↔ 0 ≤ c ∧ c ≤ 3 := by unfold codeB; simp; omega
theorem sexB_iff {c : Int} : sexB c = true ↔ 0 ≤ c ∧ c ≤ 1 := by unfold sexB; simp; omega
theorem okB_iff {x : Pers} : okB x = true ↔ (0 ≤ x.a ∧ x.a ≤ 3) ∧ (0 ≤ x.j ∧ x.j ≤ 3) ∧ (0 ≤ x.s ∧ x.s ≤ 1) ∧ 0 ≤ x.p ∧ x.p ≤ 999 := by
  unfold okB; simp [codeB_iff, sexB_iff]
theorem okB_mk {a j s p : Int} (h1 : 0 ≤ a ∧ a ≤ 3) (h2 : 0 ≤ j ∧ j ≤ 3) (h3 : 0 ≤ s ∧ s ≤ 1) (h4 : 0 ≤ p ∧ p ≤ 999) : okB ⟨a, j, s, p⟩ = true := okB_iff.2 ⟨h1, h2, h3, h4⟩
theorem okB_un {a j s p : Int} (h : okB ⟨a, j, s, p⟩ = true) : (0 ≤ a ∧ a ≤ 3) ∧ (0 ≤ j ∧ j ≤ 3) ∧ (0 ≤ s ∧ s ≤ 1) ∧ 0 ≤ p ∧ p ≤ 999 := okB_iff.1 h
theorem peopleB_iff {L : List Pers} : peopleB L = true ↔ (∀ x ∈ L, okB x = true) ∧ L.length ≤ 40 := by unfold peopleB; simp
theorem peopleB_take {L : List Pers} (h : peopleB L = true) (k : Nat) : peopleB (L.take k) = true := by
  rw [peopleB_iff] at h ⊢
  exact ⟨fun x hx => h.1 x (List.mem_of_mem_take hx), by have := h.2; simp; omega⟩
theorem peopleB_drop {L : List Pers} (h : peopleB L = true) (k : Nat) : peopleB (L.drop k) = true := by
  rw [peopleB_iff] at h ⊢
  exact ⟨fun x hx => h.1 x (List.mem_of_mem_drop hx), by have := h.2; simp; omega⟩
theorem peopleB_twice {L : List Pers} (h : peopleB L = true) : peopleB (L ++ L) = decide (2 * L.length ≤ 40) := by
  rw [peopleB_iff] at h
  rw [Bool.eq_iff_iff, peopleB_iff]
  simp only [List.mem_append, or_self, List.length_append, decide_eq_true_eq]
  exact ⟨fun h' => by omega, fun h' => ⟨h.1, by omega⟩⟩

end Go.Proofs.Ytepnfljhoapdmaa
