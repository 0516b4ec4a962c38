/- Plain facts on leaving out one person: no program in sight. -/
import Derived.Test.YtjbhnjincedkmaaPn
namespace Go.Proofs.Ytjbhnjincedkmaa

def woB (L : List Pers) (k : Int) : Bool := peopleB L && (decide (0 ≤ k) && decide (k < L.length))
def del (L : List Pers) (i : Nat) : List Pers := L.take i ++ L.drop (i + 1)
def woL (L : List Pers) (k : Int) : List Pers := if woB L k = true then del L k.toNat else []
theorem woB_iff {L : List Pers} {k : Int} : woB L k = true ↔ peopleB L = true ∧ 0 ≤ k ∧ k < L.length := by unfold woB; simp
theorem woB_nat {L : List Pers} {i : Nat} (h : peopleB L = true) (hi : i < L.length) : woB L (i : Int) = true := woB_iff.2 ⟨h, by omega, by omega⟩
theorem woL_yes {L : List Pers} {i : Nat} (h : woB L (i : Int) = true) : woL L (i : Int) = del L i := by unfold woL; rw [if_pos h]; simp
theorem woL_at {L : List Pers} {k : Int} {i : Nat} (e : k = i) (h : peopleB L = true) (hi : i < L.length) : woB L k = true ∧ woL L k = del L i := by
  subst e; exact ⟨woB_nat h hi, woL_yes (woB_nat h hi)⟩
theorem woL_no {L : List Pers} {k : Int} (h : woB L k = false) : woL L k = [] := by unfold woL; rw [h]; rfl
theorem del_length {L : List Pers} {i : Nat} (h : i < L.length) : (del L i).length = L.length - 1 := by
  unfold del; rw [List.length_append, List.length_take, List.length_drop]; omega
theorem woL_len (L : List Pers) (k : Int) : (woL L k).length ≤ L.length := by
  unfold woL
  split
  · unfold del; rw [List.length_append, List.length_take, List.length_drop]; omega
  · simp
theorem woB_empty {L : List Pers} (h : L.length = 0) (k : Int) : woB L k = false := by
  cases e : woB L k with
  | false => rfl
  | true => have := woB_iff.1 e; omega
theorem del_get (L : List Pers) (i j : Nat) (h : i < L.length) : (del L i)[j]? = if j < i then L[j]? else L[j + 1]? := by
  unfold del
  by_cases hj : j < i
  · rw [if_pos hj, List.getElem?_append_left (by rw [List.length_take]; omega), List.getElem?_take, if_pos hj]
  · rw [if_neg hj, List.getElem?_append_right (by rw [List.length_take]; omega), List.length_take, List.getElem?_drop]
    congr 1
    omega
theorem del_ok {L : List Pers} {i : Nat} (h : peopleB L = true) : peopleB (del L i) = true := by
  rw [peopleB_iff] at h ⊢
  refine ⟨fun x hx => ?_, ?_⟩
  · rcases List.mem_append.1 hx with h' | h'
    · exact h.1 x (List.mem_of_mem_take h')
    · exact h.1 x (List.mem_of_mem_drop h')
  · unfold del; rw [List.length_append, List.length_take, List.length_drop]; omega
/-- Two persons are left out in any order (P11). -/
theorem del_two {L : List Pers} {k : Nat} (hk : k < L.length) (h2 : 2 ≤ L.length) : del (del L k) 0 = del (del L (if k = 0 then 1 else 0)) (if k = 0 then 0 else k - 1) := by
  have hd := del_length hk
  apply List.ext_getElem?
  intro j
  have a1 : (del (del L k) 0)[j]? = (del L k)[j + 1]? := by rw [del_get _ _ _ (by omega), if_neg (by omega)]
  have a3 := del_get L k (j + 1) hk
  rw [a1, a3]
  by_cases e : k = 0
  · have hd' := del_length (L := L) (i := 1) (by omega)
    have a2 : (del (del L 1) 0)[j]? = (del L 1)[j + 1]? := by rw [del_get _ _ _ (by omega), if_neg (by omega)]
    have a4 := del_get L 1 (j + 1) (by omega)
    rw [if_neg (show ¬ j + 1 < 1 by omega)] at a4
    simp only [e, if_true]
    rw [a2, a4, if_neg (show ¬ j + 1 < 0 by omega)]
  · have hd' := del_length (L := L) (i := 0) (by omega)
    have a2 := del_get (del L 0) (k - 1) j (by omega)
    have a4 := del_get L 0 j (by omega)
    have a5 := del_get L 0 (j + 1) (by omega)
    rw [if_neg (show ¬ j < 0 by omega)] at a4
    rw [if_neg (show ¬ j + 1 < 0 by omega)] at a5
    simp only [e, if_false]
    rw [a2, a4, a5]
    by_cases h : j < k - 1
    · rw [if_pos (show j + 1 < k by omega), if_pos h]
    · rw [if_neg (show ¬ j + 1 < k by omega), if_neg h]
theorem del_split {L : List Pers} {i : Nat} {x : Pers} (hx : L[i]? = some x) : L = L.take i ++ x :: L.drop (i + 1) := by
  have h1 := List.take_append_drop i L
  have hi : i < L.length := by
    rcases Nat.lt_or_ge i L.length with h | h
    · exact h
    · rw [List.getElem?_eq_none h] at hx; cases hx
  rw [List.drop_eq_getElem_cons hi] at h1
  rw [List.getElem?_eq_getElem hi] at hx
  injection hx with hx
  rw [hx] at h1
  exact h1.symm
/-- What one person less leaves of counts and pays (P7, P10). -/
theorem del_cnt {L : List Pers} {i : Nat} {x : Pers} (hx : L[i]? = some x) (a j s : Int) : cnt L a j s = cnt (del L i) a j s + (if isB x a j s = true then 1 else 0) := by
  have e : cnt L a j s = cnt (L.take i ++ x :: L.drop (i + 1)) a j s := by rw [← del_split hx]
  rw [e, cnt_append, cnt_cons]
  unfold del
  rw [cnt_append]
  omega
theorem del_pys {L : List Pers} {i : Nat} {x : Pers} (hx : L[i]? = some x) (a j s : Int) : pys L a j s = pys (del L i) a j s + (if isB x a j s = true then x.p else 0) := by
  have e : pys L a j s = pys (L.take i ++ x :: L.drop (i + 1)) a j s := by rw [← del_split hx]
  rw [e, pys_append, pys_cons]
  unfold del
  rw [pys_append]
  omega
/-- Put back where it was. -/
theorem del_back {L : List Pers} {i : Nat} {x : Pers} (hx : L[i]? = some x) : (del L i).take i ++ [x] ++ (del L i).drop i = L := by
  have hi : i < L.length := by
    rcases Nat.lt_or_ge i L.length with h | h
    · exact h
    · rw [List.getElem?_eq_none h] at hx; cases hx
  have l1 : (L.take i).length = i := by rw [List.length_take]; omega
  have e1 : (del L i).take i = L.take i := by unfold del; rw [List.take_append_of_le_length (by omega), List.take_of_length_le (by omega)]
  have e2 : (del L i).drop i = L.drop (i + 1) := by
    have h := List.drop_left (l₁ := L.take i) (l₂ := L.drop (i + 1))
    rw [l1] at h
    exact h
  rw [e1, e2, List.append_assoc, List.singleton_append]
  exact (del_split hx).symm

end Go.Proofs.Ytjbhnjincedkmaa
