/- Plain facts on sizes and numbers of groups: no program in sight. -/
import Derived.Test.YtepnfljhoapdmaaGp
import Derived.Test.YtepnfljhoapdmaaRp
namespace Go.Proofs.Ytepnfljhoapdmaa

def gsz (M : List Pers) (i : Nat) : Int := match M[i]? with
  | some x => cnt3 M x
  | none => 0
theorem gsz_at {M : List Pers} {i : Nat} {x : Pers} (h : M[i]? = some x) : gsz M i = cnt3 M x := by unfold gsz; rw [h]
def szOk (L : List Pers) (R : List (List Int)) (r : Rec) (k : Int) : Bool := rpOk L R r && (decide (0 ≤ k) && decide (k < L.length))
def sizeI (L : List Pers) (R : List (List Int)) (r : Rec) (k : Int) : Int := if szOk L R r k = true then gsz (recL L R r) k.toNat else -1
def manyG (L : List Pers) (R : List (List Int)) (r : Rec) : Int := if rpOk L R r = true then ((groups (recL L R r)).length : Int) else -1
section
variable {L : List Pers} {R : List (List Int)} {r : Rec}
theorem szOk_iff {k : Int} : szOk L R r k = true ↔ rpOk L R r = true ∧ 0 ≤ k ∧ k < L.length := by unfold szOk; simp
theorem sizeI_no {k : Int} (h : szOk L R r k = false) : sizeI L R r k = -1 := by unfold sizeI; rw [h]; rfl
theorem sizeI_yes {i : Nat} {x : Pers} (h : rpOk L R r = true) (hx : (recL L R r)[i]? = some x) (hi : i < L.length) : sizeI L R r (i : Int) = cnt3 (recL L R r) x := by
  unfold sizeI
  rw [if_pos (szOk_iff.2 ⟨h, by omega, by omega⟩), Int.toNat_natCast, gsz_at hx]
theorem manyG_no (h : rpOk L R r = false) : manyG L R r = -1 := by unfold manyG; rw [h]; rfl
theorem manyG_yes (h : rpOk L R r = true) : manyG L R r = ((groups (recL L R r)).length : Int) := by unfold manyG; rw [h]; rfl
theorem recL_length (h : rpOk L R r = true) : (recL L R r).length = L.length := by rw [recL_yes h]; simp
theorem recL_le : (recL L R r).length ≤ L.length := by unfold recL; split <;> simp
theorem rp_len (h : rpOk L R r = true) : L.length ≤ 40 := (peopleB_iff.1 (rpOk_iff.1 h).1).2
theorem cnt3_take_zero {M : List Pers} {k : Nat} {x : Pers} (hx : M[k]? = some x) : ((groups (M.take (k + 1))).length : Int) = (groups (M.take k)).length + if cnt3 (M.take (k + 1)) x = 1 then 1 else 0 := by
  rw [List.take_add_one, hx]
  show ((groups (M.take k ++ [x])).length : Int) = _ + if cnt3 (M.take k ++ [x]) x = 1 then 1 else 0
  rw [groups_len_snoc, cnt3_snoc]
  have e : same3 x x = true := same3_iff.2 rfl
  rw [if_pos e]
  by_cases h : cnt3 (M.take k) x = 0
  · rw [if_pos h, h]; rfl
  · rw [if_neg h, if_neg (by omega)]
end

end Go.Proofs.Ytepnfljhoapdmaa
