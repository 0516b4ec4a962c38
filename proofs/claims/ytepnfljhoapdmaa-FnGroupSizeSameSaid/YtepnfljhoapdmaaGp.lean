/- Plain facts on groups of people: no program in sight. -/
import Derived.Test.YtepnfljhoapdmaaPl
namespace Go.Proofs.Ytepnfljhoapdmaa

def kB (x y : Pers) : Bool := x.a == y.a && (x.j == y.j && (x.s == y.s && x.p == y.p))
theorem kB_iff {x y : Pers} : kB x y = true ↔ x = y := by
  unfold kB; simp
  exact ⟨fun h => Pers.same h.1 h.2.1 h.2.2.1 h.2.2.2, fun h => by subst h; simp⟩
theorem kB_self (x : Pers) : kB x x = true := kB_iff.2 rfl
def pgrp (x : Pers) : Pers := ⟨x.a, x.j, x.s, 0⟩
/-- Of one group. -/
def same3 (x y : Pers) : Bool := x.a == y.a && (x.j == y.j && x.s == y.s)
theorem same3_kB (x y : Pers) : kB (pgrp x) (pgrp y) = same3 x y := by unfold kB pgrp same3; simp
theorem same3_iff {x y : Pers} : same3 x y = true ↔ pgrp x = pgrp y := by rw [← same3_kB]; exact kB_iff

/-- Groups and their sizes, in the order in which they came. -/
abbrev Grps := List (Pers × Int)
def bump : Grps → Pers → Grps
  | [], x => [(x, 1)]
  | (y, n) :: G, x => if kB x y = true then (y, n + 1) :: G else (y, n) :: bump G x
def gval : Grps → Pers → Int
  | [], _ => 0
  | (y, n) :: G, x => if kB x y = true then n else gval G x
def ghas : Grps → Pers → Bool
  | [], _ => false
  | (y, _) :: G, x => kB x y || ghas G x
def gopen : Grps → Pers → Grps
  | [], x => [(x, 0)]
  | (y, n) :: G, x => if kB x y = true then (y, n) :: G else (y, n) :: gopen G x
def gat : Grps → Pers → Nat
  | [], _ => 0
  | (y, _) :: G, x => if kB x y = true then 0 else gat G x + 1

theorem gopen_has {G : Grps} {x : Pers} (h : ghas G x = true) : gopen G x = G := by
  induction G with
  | nil => simp [ghas] at h
  | cons p G ih =>
    obtain ⟨y, n⟩ := p
    rw [gopen]
    split
    · rfl
    · rename_i hk
      rw [ih (by simpa [ghas, hk] using h)]
theorem gopen_new {G : Grps} {x : Pers} (h : ghas G x = false) : gopen G x = G ++ [(x, 0)] ∧ gat G x = G.length ∧ gval G x = 0 := by
  induction G with
  | nil => simp [gopen, gat, gval]
  | cons p G ih =>
    obtain ⟨y, n⟩ := p
    simp only [ghas, Bool.or_eq_false_iff] at h
    have := ih h.2
    rw [gopen, gat, gval, h.1]
    simp [this]
theorem gopen_at (G : Grps) (x : Pers) : (gopen G x)[gat G x]? = some (x, gval G x) := by
  induction G with
  | nil => simp [gopen, gat, gval]
  | cons p G ih =>
    obtain ⟨y, n⟩ := p
    rw [gopen, gat, gval]
    split
    · rename_i hk
      rw [kB_iff.1 hk]; simp
    · simpa using ih
theorem gopen_val (G : Grps) (x : Pers) : gval (gopen G x) x = gval G x := by
  induction G with
  | nil => simp [gopen, gval, kB_self]
  | cons p G ih =>
    obtain ⟨y, n⟩ := p
    rw [gopen, gval]
    split
    · rename_i hk
      rw [gval, if_pos hk]
    · rename_i hk
      rw [gval, if_neg hk, ih]
theorem gopen_bump (G : Grps) (x : Pers) : (gopen G x).set (gat G x) (x, gval G x + 1) = bump G x := by
  induction G with
  | nil => simp [gopen, gat, gval, bump]
  | cons p G ih =>
    obtain ⟨y, n⟩ := p
    rw [gopen, gat, gval, bump]
    split
    · rename_i hk
      rw [kB_iff.1 hk]; simp
    · simpa using ih
theorem gopen_length (G : Grps) (x : Pers) : (gopen G x).length = (bump G x).length := by rw [← gopen_bump]; simp

def groups (L : List Pers) : Grps := L.foldl (fun G x => bump G (pgrp x)) []
theorem groups_snoc (L : List Pers) (x : Pers) : groups (L ++ [x]) = bump (groups L) (pgrp x) := by simp [groups]
theorem groups_take {L : List Pers} {k : Nat} {x : Pers} (hx : L[k]? = some x) : groups (L.take (k + 1)) = bump (groups (L.take k)) (pgrp x) := by
  rw [List.take_add_one, hx]; exact groups_snoc _ _

/-- How many of L are of x's group. -/
def cnt3 (L : List Pers) (x : Pers) : Int := ((L.filter fun y => same3 y x).length : Int)
theorem cnt3_snoc (L : List Pers) (y x : Pers) : cnt3 (L ++ [y]) x = cnt3 L x + if same3 y x = true then 1 else 0 := by
  unfold cnt3
  rw [List.filter_append, List.length_append]
  cases h : same3 y x <;> simp [h]
theorem cnt3_bound (L : List Pers) (x : Pers) : 0 ≤ cnt3 L x ∧ cnt3 L x ≤ L.length := by
  have := List.length_filter_le (fun y => same3 y x) L
  unfold cnt3; omega
theorem bump_val (G : Grps) (x y : Pers) : gval (bump G x) y = gval G y + if kB x y = true then 1 else 0 := by
  induction G with
  | nil =>
    simp only [bump, gval]
    have : kB y x = kB x y := by rw [Bool.eq_iff_iff, kB_iff, kB_iff]; exact eq_comm
    rw [this]
    split <;> simp
  | cons p G ih =>
    obtain ⟨z, n⟩ := p
    rw [bump]
    by_cases h : kB x z = true
    · rw [if_pos h, gval, gval]
      have e := kB_iff.1 h
      subst e
      by_cases h' : kB y x = true
      · have e := kB_iff.1 h'
        subst e
        rw [if_pos h', if_pos h', if_pos h']
      · have : ¬ kB x y = true := fun e => h' (by rw [kB_iff] at e ⊢; exact e.symm)
        rw [if_neg h', if_neg h', if_neg this]; omega
    · rw [if_neg h, gval, gval]
      by_cases h' : kB y z = true
      · have e := kB_iff.1 h'
        subst e
        rw [if_pos h', if_pos h', if_neg h]; omega
      · rw [if_neg h', if_neg h', ih]
theorem groups_val (L : List Pers) (x : Pers) : gval (groups L) (pgrp x) = cnt3 L x := by
  rw [← List.reverse_reverse L]
  induction L.reverse with
  | nil => rfl
  | cons y M ih =>
    rw [List.reverse_cons, groups_snoc, bump_val, ih, cnt3_snoc, same3_kB]
/-- The number of groups. -/
def firsts : List Pers → Int
  | [] => 0
  | x :: L => (if L.any (fun y => same3 y x) = true then 0 else 1) + firsts L
theorem bump_has (G : Grps) (x y : Pers) : ghas (bump G x) y = (ghas G y || kB y x) := by
  induction G with
  | nil => simp [bump, ghas]
  | cons p G ih =>
    obtain ⟨z, n⟩ := p
    rw [bump]
    split
    · rename_i h
      have e := kB_iff.1 h
      subst e
      simp only [ghas]
      cases kB y x <;> simp
    · simp only [ghas, ih]
      cases kB y z <;> simp
theorem bump_len (G : Grps) (x : Pers) : (bump G x).length = G.length + if ghas G x = true then 0 else 1 := by
  induction G with
  | nil => simp [bump, ghas]
  | cons p G ih =>
    obtain ⟨z, n⟩ := p
    rw [bump]
    by_cases h : kB x z = true
    · rw [if_pos h]; simp [ghas, h]
    · rw [if_neg h, List.length_cons, ih, List.length_cons]
      simp [ghas, h]; omega
theorem groups_has (L : List Pers) (x : Pers) : ghas (groups L) (pgrp x) = L.any (fun y => same3 y x) := by
  rw [← List.reverse_reverse L]
  induction L.reverse with
  | nil => rfl
  | cons y M ih =>
    rw [List.reverse_cons, groups_snoc, bump_has, ih, List.any_append, same3_kB]
    have : same3 x y = same3 y x := by rw [Bool.eq_iff_iff, same3_iff, same3_iff]; exact eq_comm
    simp [this]
theorem any_cnt3 (L : List Pers) (x : Pers) : L.any (fun y => same3 y x) = decide (0 < cnt3 L x) := by
  rw [Bool.eq_iff_iff, List.any_eq_true, decide_eq_true_eq]
  unfold cnt3
  constructor
  · rintro ⟨y, hy, h⟩
    have : y ∈ L.filter (fun y => same3 y x) := List.mem_filter.2 ⟨hy, h⟩
    have := List.length_pos_of_mem this
    omega
  · intro h
    obtain ⟨y, hy⟩ := List.exists_mem_of_length_pos (show 0 < (L.filter fun y => same3 y x).length by omega)
    exact ⟨y, (List.mem_filter.1 hy).1, (List.mem_filter.1 hy).2⟩
/-- A person more is in a group or makes one (P44). -/
theorem groups_len_snoc (L : List Pers) (x : Pers) : ((groups (L ++ [x])).length : Int) = (groups L).length + if cnt3 L x = 0 then 1 else 0 := by
  rw [groups_snoc, bump_len, groups_has, any_cnt3]
  have := (cnt3_bound L x).1
  by_cases h : cnt3 L x = 0
  · rw [if_pos h, h]; simp
  · rw [if_neg h, if_pos (by simp; omega)]; simp
theorem groups_len_le (L : List Pers) : (groups L).length ≤ L.length := by
  rw [← List.reverse_reverse L]
  induction L.reverse with
  | nil => simp [groups]
  | cons y M ih =>
    rw [List.reverse_cons, groups_snoc, bump_len, List.length_append, List.length_singleton]
    split <;> omega

end Go.Proofs.Ytepnfljhoapdmaa
