/- The plain laws of counting people and adding up pays: no program in sight. -/
import Derived.Test.YtepnfljhoapdmaaPm
namespace Go.Proofs.Ytepnfljhoapdmaa

def cnt (L : List Pers) (a j s : Int) : Int := ((selL L a j s).length : Int)
def pys (L : List Pers) (a j s : Int) : Int := sumP (selL L a j s)
theorem cnt_cons (x : Pers) (L : List Pers) (a j s : Int) : cnt (x :: L) a j s = (if isB x a j s = true then 1 else 0) + cnt L a j s := by
  unfold cnt selL
  cases h : isB x a j s <;> simp [h] <;> omega
theorem pys_cons (x : Pers) (L : List Pers) (a j s : Int) : pys (x :: L) a j s = (if isB x a j s = true then x.p else 0) + pys L a j s := by
  unfold pys selL
  cases h : isB x a j s <;> simp [h, sumP]
theorem cnt_nil (a j s : Int) : cnt [] a j s = 0 := rfl
theorem pys_nil (a j s : Int) : pys [] a j s = 0 := rfl
theorem cnt_append (L M : List Pers) (a j s : Int) : cnt (L ++ M) a j s = cnt L a j s + cnt M a j s := by unfold cnt; rw [selL_append]; simp
theorem pys_append (L M : List Pers) (a j s : Int) : pys (L ++ M) a j s = pys L a j s + pys M a j s := by unfold pys; rw [selL_append, sumP_append]

theorem isB_area {x : Pers} {k : Int} (y z : Int) (hk : 0 ≤ k) : isB x k y z = ((x.a == k) && isB x (-1) y z) := by
  unfold isB
  have : decide (k < 0) = false := by simp; omega
  simp [this]
theorem isB_job {x : Pers} {k : Int} (a z : Int) (hk : 0 ≤ k) : isB x a k z = ((x.j == k) && isB x a (-1) z) := by
  unfold isB
  have : decide (k < 0) = false := by simp; omega
  simp [this]
  cases (decide (a < 0) || x.a == a) <;> cases (x.j == k) <;> simp
theorem isB_sex {x : Pers} {k : Int} (a y : Int) (hk : 0 ≤ k) : isB x a y k = ((x.s == k) && isB x a y (-1)) := by
  unfold isB
  have : decide (k < 0) = false := by simp; omega
  simp [this]
  cases (decide (a < 0) || x.a == a) <;> cases (decide (y < 0) || x.j == y) <;> cases (x.s == k) <;> simp

theorem cnt_areas {L : List Pers} (h : ∀ x ∈ L, okB x = true) (y z : Int) : cnt L 0 y z + cnt L 1 y z + cnt L 2 y z + cnt L 3 y z = cnt L (-1) y z := by
  induction L with
  | nil => simp [cnt_nil]
  | cons x L ih =>
    have ih := ih (fun t ht => h t (by simp [ht]))
    obtain ⟨hx, _⟩ := okB_iff.1 (h x (by simp))
    simp only [cnt_cons]
    rw [isB_area (k := 0) y z (by omega), isB_area (k := 1) y z (by omega), isB_area (k := 2) y z (by omega), isB_area (k := 3) y z (by omega)]
    cases isB x (-1) y z
    · simp; omega
    · rcases (show x.a = 0 ∨ x.a = 1 ∨ x.a = 2 ∨ x.a = 3 by omega) with e | e | e | e <;> simp [e] <;> omega
theorem cnt_sexes {L : List Pers} (h : ∀ x ∈ L, okB x = true) (a y : Int) : cnt L a y 0 + cnt L a y 1 = cnt L a y (-1) := by
  induction L with
  | nil => simp [cnt_nil]
  | cons x L ih =>
    have ih := ih (fun t ht => h t (by simp [ht]))
    obtain ⟨_, _, hx, _⟩ := okB_iff.1 (h x (by simp))
    simp only [cnt_cons]
    rw [isB_sex (k := 0) a y (by omega), isB_sex (k := 1) a y (by omega)]
    cases isB x a y (-1)
    · simp; omega
    · rcases (show x.s = 0 ∨ x.s = 1 by omega) with e | e <;> simp [e] <;> omega
theorem pys_jobs {L : List Pers} (h : ∀ x ∈ L, okB x = true) (a z : Int) : pys L a 0 z + pys L a 1 z + pys L a 2 z + pys L a 3 z = pys L a (-1) z := by
  induction L with
  | nil => simp [pys_nil]
  | cons x L ih =>
    have ih := ih (fun t ht => h t (by simp [ht]))
    obtain ⟨_, hx, _⟩ := okB_iff.1 (h x (by simp))
    simp only [pys_cons]
    rw [isB_job (k := 0) a z (by omega), isB_job (k := 1) a z (by omega), isB_job (k := 2) a z (by omega), isB_job (k := 3) a z (by omega)]
    cases isB x a (-1) z
    · simp; omega
    · rcases (show x.j = 0 ∨ x.j = 1 ∨ x.j = 2 ∨ x.j = 3 by omega) with e | e | e | e <;> simp [e] <;> omega
theorem isB_any (x : Pers) : isB x (-1) (-1) (-1) = true := by simp [isB]
theorem cnt_any (L : List Pers) : cnt L (-1) (-1) (-1) = L.length := by
  induction L with
  | nil => rfl
  | cons x L ih => rw [cnt_cons, ih, isB_any, List.length_cons]; simp; omega
theorem pys_any (L : List Pers) : pys L (-1) (-1) (-1) = sumP L := by
  induction L with
  | nil => rfl
  | cons x L ih => rw [pys_cons, ih, isB_any, sumP]; simp
theorem cnt_bound (L : List Pers) (a j s : Int) : 0 ≤ cnt L a j s ∧ cnt L a j s ≤ L.length := by
  have := selL_len L a j s
  unfold cnt; omega
theorem pys_bound {L : List Pers} (h : ∀ x ∈ L, okB x = true) (a j s : Int) : 0 ≤ pys L a j s ∧ pys L a j s ≤ 999 * cnt L a j s ∧ pys L a j s ≤ sumP L := by
  have h1 := sumP_bound (selL_ok h a j s)
  refine ⟨h1.1, h1.2, ?_⟩
  clear h1
  induction L with
  | nil => simp [pys_nil, sumP]
  | cons x L ih =>
    have := ih (fun t ht => h t (by simp [ht]))
    obtain ⟨_, _, _, hx, _⟩ := okB_iff.1 (h x (by simp))
    rw [pys_cons, sumP]
    split <;> omega

/-- Bands, a hundred times, are near the pays. -/
def sumBands : List Pers → Int
  | [] => 0
  | x :: L => 100 * bandI x.p + sumBands L
theorem sumBands_snoc (L : List Pers) (x : Pers) : sumBands (L ++ [x]) = sumBands L + 100 * bandI x.p := by
  induction L with
  | nil => simp [sumBands]
  | cons y L ih => rw [List.cons_append, sumBands, sumBands, ih]; omega
theorem sumBands_near {L : List Pers} (h : ∀ x ∈ L, okB x = true) : sumBands L ≤ sumP L ∧ sumP L ≤ sumBands L + 99 * L.length ∧ 0 ≤ sumBands L := by
  induction L with
  | nil => simp [sumBands, sumP]
  | cons x L ih =>
    have := ih (fun t ht => h t (by simp [ht]))
    obtain ⟨_, _, _, h0, h1⟩ := okB_iff.1 (h x (by simp))
    have hb : bandI x.p = x.p / 100 := by unfold bandI; rw [if_pos ⟨h0, h1⟩]
    rw [sumBands, sumP, List.length_cons, hb]
    omega

section
variable {L : List Pers} {a j s : Int}
theorem many_cnt (h : peopleB L = true) (h' : askB a j s = true) : manyI L a j s = cnt L a j s := manyI_yes h h'
theorem pay_pys (h : peopleB L = true) (h' : askB a j s = true) : payI L a j s = pys L a j s := payI_yes h h'
end
theorem ask_a {a j s k : Int} (h : askB a j s = true) (h0 : -1 ≤ k) (h1 : k ≤ 3) : askB k j s = true := by rw [askB_iff] at h ⊢; exact ⟨⟨h0, h1⟩, h.2⟩
theorem ask_j {a j s k : Int} (h : askB a j s = true) (h0 : -1 ≤ k) (h1 : k ≤ 3) : askB a k s = true := by rw [askB_iff] at h ⊢; exact ⟨h.1, ⟨h0, h1⟩, h.2.2⟩
theorem ask_s {a j s k : Int} (h : askB a j s = true) (h0 : -1 ≤ k) (h1 : k ≤ 1) : askB a j k = true := by rw [askB_iff] at h ⊢; exact ⟨h.1, h.2.1, h0, h1⟩
theorem ask_any : askB (-1) (-1) (-1) = true := rfl
theorem many_le {L : List Pers} (a j s : Int) : -1 ≤ manyI L a j s ∧ manyI L a j s ≤ L.length := by
  unfold manyI
  have := selL_len L a j s
  split <;> omega
theorem pay_le {L : List Pers} (a j s : Int) : -1 ≤ payI L a j s ∧ payI L a j s ≤ 39960 := by
  cases h : peopleB L && askB a j s
  · rw [payI_no h]; omega
  · simp only [Bool.and_eq_true] at h
    rw [payI_yes h.1 h.2]
    have h1 := sumP_bound (selL_ok (peopleB_iff.1 h.1).1 a j s)
    have h2 := selL_len L a j s
    have h3 := (peopleB_iff.1 h.1).2
    omega

end Go.Proofs.Ytepnfljhoapdmaa
