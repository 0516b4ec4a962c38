/- Plain facts on counting people: no program in sight. No conditions. -/
import Derived.Test.YtepnfljhoapdmaaPl
namespace Go.Proofs.Ytepnfljhoapdmaa

/-- A code or any; a sex or any. -/
def askC (x : Int) : Bool := !((x != -1) && !codeB x)
def askS (x : Int) : Bool := !((x != -1) && !sexB x)
def askB (a j s : Int) : Bool := askC a && (askC j && askS s)
theorem askC_iff {x : Int} : askC x = true ↔ -1 ≤ x ∧ x ≤ 3 := by
  unfold askC codeB
  simp
  omega
theorem askS_iff {x : Int} : askS x = true ↔ -1 ≤ x ∧ x ≤ 1 := by
  unfold askS sexB
  simp
  omega
theorem askB_iff {a j s : Int} : askB a j s = true ↔ (-1 ≤ a ∧ a ≤ 3) ∧ (-1 ≤ j ∧ j ≤ 3) ∧ (-1 ≤ s ∧ s ≤ 1) := by unfold askB; simp [askC_iff, askS_iff]

def isB (x : Pers) (a j s : Int) : Bool := (decide (a < 0) || x.a == a) && ((decide (j < 0) || x.j == j) && (decide (s < 0) || x.s == s))
def selL (L : List Pers) (a j s : Int) : List Pers := L.filter fun x => isB x a j s
def sumP : List Pers → Int
  | [] => 0
  | x :: L => x.p + sumP L
def manyI (L : List Pers) (a j s : Int) : Int := if (peopleB L && askB a j s) = true then ((selL L a j s).length : Int) else -1
def payI (L : List Pers) (a j s : Int) : Int := if (peopleB L && askB a j s) = true then sumP (selL L a j s) else -1

theorem isB_minus {x : Pers} {a j s : Int} (h : askB a j s = true) : isB x a j s = ((a == -1 || x.a == a) && ((j == -1 || x.j == j) && (s == -1 || x.s == s))) := by
  obtain ⟨ha, hj, hs⟩ := askB_iff.1 h
  have e : ∀ y : Int, -1 ≤ y → decide (y < 0) = (y == -1) := fun y hy => by rw [Bool.eq_iff_iff]; simp; omega
  unfold isB
  rw [e a ha.1, e j hj.1, e s hs.1]

theorem sumP_append (L M : List Pers) : sumP (L ++ M) = sumP L + sumP M := by
  induction L with
  | nil => simp [sumP]
  | cons x L ih => rw [List.cons_append, sumP, sumP, ih]; omega
theorem sumP_snoc (L : List Pers) (x : Pers) : sumP (L ++ [x]) = sumP L + x.p := by rw [sumP_append]; simp [sumP]
theorem sumP_bound {L : List Pers} (h : ∀ x ∈ L, okB x = true) : 0 ≤ sumP L ∧ sumP L ≤ 999 * L.length := by
  induction L with
  | nil => simp [sumP]
  | cons x L ih =>
    have hx := (okB_iff.1 (h x (by simp))).2.2.2
    have := ih (fun y hy => h y (by simp [hy]))
    rw [sumP, List.length_cons]
    omega
theorem selL_append (L M : List Pers) (a j s : Int) : selL (L ++ M) a j s = selL L a j s ++ selL M a j s := by simp [selL]
theorem selL_ok {L : List Pers} (h : ∀ x ∈ L, okB x = true) (a j s : Int) : ∀ x ∈ selL L a j s, okB x = true := fun x hx => h x (List.mem_filter.1 hx).1
theorem selL_len (L : List Pers) (a j s : Int) : (selL L a j s).length ≤ L.length := List.length_filter_le _ _
theorem selL_take_yes {L : List Pers} {k : Nat} {x : Pers} {a j s : Int} (hx : L[k]? = some x) (h : isB x a j s = true) : selL (L.take (k + 1)) a j s = selL (L.take k) a j s ++ [x] := by
  rw [List.take_add_one, hx, selL_append]; simp [selL, h]
theorem selL_take_no {L : List Pers} {k : Nat} {x : Pers} {a j s : Int} (hx : L[k]? = some x) (h : isB x a j s = false) : selL (L.take (k + 1)) a j s = selL (L.take k) a j s := by
  rw [List.take_add_one, hx, selL_append]; simp [selL, h]
theorem manyI_yes {L : List Pers} {a j s : Int} (h : peopleB L = true) (h' : askB a j s = true) : manyI L a j s = ((selL L a j s).length : Int) := by unfold manyI; rw [h, h']; rfl
theorem payI_yes {L : List Pers} {a j s : Int} (h : peopleB L = true) (h' : askB a j s = true) : payI L a j s = sumP (selL L a j s) := by unfold payI; rw [h, h']; rfl
theorem manyI_no {L : List Pers} {a j s : Int} (h : (peopleB L && askB a j s) = false) : manyI L a j s = -1 := by unfold manyI; rw [h]; rfl
theorem payI_no {L : List Pers} {a j s : Int} (h : (peopleB L && askB a j s) = false) : payI L a j s = -1 := by unfold payI; rw [h]; rfl

end Go.Proofs.Ytepnfljhoapdmaa
