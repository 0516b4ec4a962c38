/- Plain laws on sizes of groups: no program in sight. -/
import Derived.Test.YtepnfljhoapdmaaGq
namespace Go.Proofs.Ytepnfljhoapdmaa

theorem cnt3_cons (y x : Pers) (L : List Pers) : cnt3 (y :: L) x = cnt3 L x + if same3 y x = true then 1 else 0 := by
  unfold cnt3
  rw [List.filter_cons]
  cases h : same3 y x <;> simp
theorem cnt3_nil (x : Pers) : cnt3 [] x = 0 := rfl
theorem cnt3_map_le {f g : Pers → Pers} {x : Pers} : ∀ {L : List Pers}, (∀ y ∈ L, same3 (f y) (f x) = true → same3 (g y) (g x) = true) → cnt3 (L.map f) (f x) ≤ cnt3 (L.map g) (g x)
  | [], _ => by simp [cnt3_nil]
  | y :: L, h => by
    have ih := cnt3_map_le (L := L) (fun z hz => h z (by simp [hz]))
    rw [List.map_cons, List.map_cons, cnt3_cons, cnt3_cons]
    by_cases e : same3 (f y) (f x) = true
    · rw [if_pos e, if_pos (h y (by simp) e)]; omega
    · rw [if_neg e]; split <;> omega
theorem same3_recP {R : List (List Int)} {b : Rec} {y x : Pers} (h : same3 y x = true) : same3 (recP R b y) (recP R b x) = true := by
  unfold same3 at h ⊢
  simp only [Bool.and_eq_true, beq_iff_eq] at h
  obtain ⟨h1, h2, h3⟩ := h
  simp [recP, h1, h2, h3]
theorem same3_self (x : Pers) : same3 x x = true := same3_iff.2 rfl
theorem cnt3_pos {L : List Pers} {x : Pers} (h : x ∈ L) : 1 ≤ cnt3 L x := by
  have : x ∈ L.filter (fun y => same3 y x) := List.mem_filter.2 ⟨h, same3_self x⟩
  have := List.length_pos_of_mem this
  unfold cnt3; omega
/-- Persons of one group have one size (P43). -/
theorem cnt3_same {M : List Pers} {x y : Pers} (h : same3 y x = true) : cnt3 M y = cnt3 M x := by
  unfold cnt3
  have e := same3_iff.1 h
  rw [List.filter_congr (q := fun z => same3 z x) (fun z _ => by rw [Bool.eq_iff_iff, same3_iff, same3_iff, e])]

section
variable {L : List Pers} {R : List (List Int)} {r : Rec}
theorem rec_at {i : Nat} {x : Pers} (h : rpOk L R r = true) (hx : L[i]? = some x) : (recL L R r)[i]? = some (recP R r x) := by
  rw [recL_yes h, List.getElem?_map, hx]; rfl
theorem sizeI_at {i : Nat} {x : Pers} (h : rpOk L R r = true) (hx : L[i]? = some x) : sizeI L R r (i : Int) = cnt3 (L.map (recP R r)) (recP R r x) := by
  have hi := (List.getElem?_eq_some_iff.1 hx).1
  rw [sizeI_yes h (rec_at h hx) hi, recL_yes h]
/-- Coarser groups are larger (P35). -/
theorem size_low {i : Nat} {x : Pers} (h : rpOk L R r = true) (h0 : rpOk L R ⟨0, 0, 0⟩ = true) (hx : L[i]? = some x) : 1 ≤ sizeI L R ⟨0, 0, 0⟩ i ∧ sizeI L R ⟨0, 0, 0⟩ i ≤ sizeI L R r i := by
  rw [sizeI_at h0 hx, sizeI_at h hx]
  refine ⟨cnt3_pos (List.mem_map_of_mem (List.mem_of_getElem? hx)), cnt3_map_le fun y _ hy => ?_⟩
  rw [recP_zero, recP_zero] at hy
  exact same3_recP hy
theorem size_top {i : Nat} {x : Pers} (h : rpOk L R r = true) (ht : rpOk L R ⟨R.length, 1, 1⟩ = true) (hx : L[i]? = some x) : sizeI L R r i ≤ sizeI L R ⟨R.length, 1, 1⟩ i := by
  obtain ⟨h1, h2⟩ := rpOk_iff.1 h
  obtain ⟨_, h3⟩ := rpOk_iff.1 ht
  obtain ⟨_, k1, k2, k3⟩ := recOk_iff.1 h2
  have hf : finB R r ⟨R.length, 1, 1⟩ = true := finB_iff.2 ⟨h2, h3, k1.2, k2.2, k3.2⟩
  have hok := (peopleB_iff.1 h1).1
  rw [sizeI_at h hx, sizeI_at ht hx]
  refine cnt3_map_le fun y hy e => ?_
  rw [← recP_chain hf (hok y hy), ← recP_chain hf (hok x (List.mem_of_getElem? hx))]
  exact same3_recP e
theorem rp_low (h : rpOk L R r = true) : rpOk L R ⟨0, 0, 0⟩ = true := rpOk_iff.2 ⟨(rpOk_iff.1 h).1, recOk_zero (recOk_iff.1 (rpOk_iff.1 h).2).1⟩
theorem rp_top (h : rpOk L R r = true) : rpOk L R ⟨R.length, 1, 1⟩ = true := rpOk_iff.2 ⟨(rpOk_iff.1 h).1, recOk_iff.2 ⟨(recOk_iff.1 (rpOk_iff.1 h).2).1, by simp, by simp, by simp⟩⟩
theorem people_snoc {x : Pers} (h : peopleB L = true) (hx : okB x = true) (hl : L.length < 40) : peopleB (L ++ [x]) = true := by
  rw [peopleB_iff] at h ⊢
  refine ⟨fun y hy => ?_, by simp; omega⟩
  rcases List.mem_append.1 hy with e | e
  · exact h.1 y e
  · rw [List.mem_singleton.1 e]; exact hx
theorem rp_snoc {x : Pers} (h : rpOk L R r = true) (hx : okB x = true) (hl : L.length < 40) : rpOk (L ++ [x]) R r = true :=
  rpOk_iff.2 ⟨people_snoc (rpOk_iff.1 h).1 hx hl, (rpOk_iff.1 h).2⟩
theorem rec_snoc {x : Pers} (h : rpOk L R r = true) (h' : rpOk (L ++ [x]) R r = true) : recL (L ++ [x]) R r = recL L R r ++ [recP R r x] := by
  rw [recL_yes h, recL_yes h', List.map_append]; rfl
theorem rp_in (h : rpOk L R r = true) {x : Pers} (hx : x ∈ L) : okB x = true := (peopleB_iff.1 (rpOk_iff.1 h).1).1 x hx
/-- One more is one more (P42). -/
theorem size_add {i : Nat} {x : Pers} (h : rpOk L R r = true) (hx : L[i]? = some x) (hl : L.length < 40) : sizeI (L ++ [x]) R r i = sizeI L R r i + 1 := by
  have hi := (List.getElem?_eq_some_iff.1 hx).1
  have h' := rp_snoc h (rp_in h (List.mem_of_getElem? hx)) hl
  have hx' : (L ++ [x])[i]? = some x := by rw [List.getElem?_append_left hi]; exact hx
  rw [sizeI_at h' hx', sizeI_at h hx, List.map_append]
  show cnt3 (L.map (recP R r) ++ [recP R r x]) _ = _
  rw [cnt3_snoc, if_pos (same3_self _)]
/-- A person more is in a group or makes one (P44). -/
theorem many_add {x : Pers} (h : rpOk L R r = true) (hx : okB x = true) (hl : L.length < 40) : manyG (L ++ [x]) R r = manyG L R r ∨ manyG (L ++ [x]) R r = manyG L R r + 1 := by
  have h' := rp_snoc h hx hl
  rw [manyG_yes h, manyG_yes h', rec_snoc h h', groups_len_snoc]
  split <;> omega
end

/-! The least size. -/
/-- v is the least of the sizes and the number of all. -/
def IsLeast (M : List Pers) (v : Int) : Prop := v ≤ M.length ∧ (∀ x ∈ M, v ≤ cnt3 M x) ∧ (v = M.length ∨ ∃ x ∈ M, v = cnt3 M x)
theorem IsLeast.uniq {M : List Pers} {u v : Int} (hu : IsLeast M u) (hv : IsLeast M v) : u = v := by
  obtain ⟨u1, u2, u3⟩ := hu
  obtain ⟨v1, v2, v3⟩ := hv
  have : u ≤ v := by
    rcases v3 with e | ⟨x, hx, e⟩
    · omega
    · have := u2 x hx; omega
  have : v ≤ u := by
    rcases u3 with e | ⟨x, hx, e⟩
    · omega
    · have := v2 x hx; omega
  omega
def lowK (M : List Pers) : Nat → Int
  | 0 => M.length
  | k + 1 => if gsz M k < lowK M k then gsz M k else lowK M k
def lowG (M : List Pers) : Int := lowK M M.length
theorem lowK_succ (M : List Pers) (k : Nat) : lowK M (k + 1) = if gsz M k < lowK M k then gsz M k else lowK M k := rfl
theorem lowK_least (M : List Pers) : ∀ k : Nat, k ≤ M.length → lowK M k ≤ M.length ∧ (∀ x ∈ M.take k, lowK M k ≤ cnt3 M x) ∧ (lowK M k = M.length ∨ ∃ x ∈ M.take k, lowK M k = cnt3 M x)
  | 0, _ => by simp [lowK]
  | k + 1, hk => by
    obtain ⟨i1, i2, i3⟩ := lowK_least M k (by omega)
    obtain ⟨y, hy⟩ : ∃ y, M[k]? = some y := ⟨_, List.getElem?_eq_getElem (by omega)⟩
    have hg := gsz_at hy
    have ht : M.take (k + 1) = M.take k ++ [y] := by rw [List.take_add_one, hy]; rfl
    rw [lowK_succ, hg, ht]
    generalize lowK M k = q at i1 i2 i3
    refine ⟨by split <;> omega, fun x hx => ?_, ?_⟩
    · rcases List.mem_append.1 hx with e | e
      · have := i2 x e; split <;> omega
      · rw [List.mem_singleton.1 e]; split <;> omega
    · by_cases hlt : cnt3 M y < q
      · rw [if_pos hlt]
        exact .inr ⟨y, by simp, rfl⟩
      · rw [if_neg hlt]
        rcases i3 with e | ⟨x, hx, e⟩
        · exact .inl e
        · exact .inr ⟨x, by simp [hx], e⟩
theorem lowG_least (M : List Pers) : IsLeast M (lowG M) := by
  have := lowK_least M M.length (Nat.le_refl _)
  rw [List.take_length] at this
  exact this
theorem lowK_bound (M : List Pers) : ∀ k : Nat, 0 ≤ lowK M k ∧ lowK M k ≤ M.length
  | 0 => by simp [lowK]
  | k + 1 => by
    have h := lowK_bound M k
    have hg : 0 ≤ gsz M k := by
      unfold gsz
      split
      · exact (cnt3_bound _ _).1
      · omega
    rw [lowK_succ]
    split <;> omega
/-- A person of a group enlarges it (P48). -/
theorem lowG_add {M : List Pers} {x : Pers} (hx : x ∈ M) : lowG (M ++ [x]) = lowG M ∨ lowG (M ++ [x]) = lowG M + 1 := by
  obtain ⟨u1, u2, u3⟩ := lowG_least M
  obtain ⟨v1, v2, v3⟩ := lowG_least (M ++ [x])
  generalize lowG M = u at *
  generalize lowG (M ++ [x]) = v at *
  rw [List.length_append, List.length_singleton] at v1 v3
  have hc : ∀ y, cnt3 M y ≤ cnt3 (M ++ [x]) y ∧ cnt3 (M ++ [x]) y ≤ cnt3 M y + 1 := fun y => by rw [cnt3_snoc]; split <;> omega
  have h1 : u ≤ v := by
    rcases v3 with e | ⟨y, hy, e⟩
    · omega
    · have hy' : y ∈ M := by
        rcases List.mem_append.1 hy with h | h
        · exact h
        · rw [List.mem_singleton.1 h]; exact hx
      have := u2 y hy'
      have := hc y
      omega
  have h2 : v ≤ u + 1 := by
    rcases u3 with e | ⟨y, hy, e⟩
    · omega
    · have := v2 y (by simp [hy])
      have := hc y
      omega
  omega
def leastG (L : List Pers) (R : List (List Int)) (r : Rec) : Int := if rpOk L R r = true then lowG (recL L R r) else -1
theorem leastG_no {L : List Pers} {R : List (List Int)} {r : Rec} (h : rpOk L R r = false) : leastG L R r = -1 := by unfold leastG; rw [h]; rfl
theorem leastG_yes {L : List Pers} {R : List (List Int)} {r : Rec} (h : rpOk L R r = true) : leastG L R r = lowG (recL L R r) := by unfold leastG; rw [h]; rfl
theorem least_add {L : List Pers} {R : List (List Int)} {r : Rec} {x : Pers} (h : rpOk L R r = true) (hx : x ∈ L) (hl : L.length < 40) : leastG (L ++ [x]) R r = leastG L R r ∨ leastG (L ++ [x]) R r = leastG L R r + 1 := by
  have h' := rp_snoc h (rp_in h hx) hl
  rw [leastG_yes h, leastG_yes h', rec_snoc h h']
  exact lowG_add (by rw [recL_yes h]; exact List.mem_map_of_mem hx)

/-! What the entries of the groups are. -/
theorem bump_keys (G : Grps) (x : Pers) : (bump G x).map Prod.fst = if ghas G x = true then G.map Prod.fst else G.map Prod.fst ++ [x] := by
  induction G with
  | nil => simp [bump, ghas]
  | cons p G ih =>
    obtain ⟨y, n⟩ := p
    rw [bump, ghas]
    by_cases h : kB x y = true
    · rw [if_pos h, h]; rfl
    · rw [if_neg h, List.map_cons, ih]
      have h' : kB x y = false := by simpa using h
      rw [h', Bool.false_or]
      split <;> simp
theorem ghas_mem {G : Grps} {x : Pers} : ghas G x = true ↔ x ∈ G.map Prod.fst := by
  induction G with
  | nil => simp [ghas]
  | cons p G ih =>
    obtain ⟨y, n⟩ := p
    rw [ghas, Bool.or_eq_true, ih, kB_iff]
    simp
theorem groups_keys (L : List Pers) : ((groups L).map Prod.fst).Nodup := by
  rw [← List.reverse_reverse L]
  induction L.reverse with
  | nil => simp [groups]
  | cons y M ih =>
    rw [List.reverse_cons, groups_snoc, bump_keys]
    split
    · exact ih
    · rename_i h
      rw [ghas_mem] at h
      rw [List.nodup_append]
      exact ⟨ih, by simp, fun a ha b hb e => by rw [List.mem_singleton.1 hb] at e; exact h (e ▸ ha)⟩
theorem gval_mem {G : Grps} (hn : (G.map Prod.fst).Nodup) {y : Pers} {n : Int} (h : (y, n) ∈ G) : gval G y = n := by
  induction G with
  | nil => simp at h
  | cons p G ih =>
    obtain ⟨z, m⟩ := p
    rw [List.map_cons, List.nodup_cons] at hn
    rw [gval]
    rcases List.mem_cons.1 h with e | e
    · injection e with e1 e2
      rw [if_pos (kB_iff.2 e1), e2]
    · have : ¬ kB y z = true := fun hk => by
        rw [kB_iff] at hk
        subst hk
        exact hn.1 (List.mem_map.2 ⟨_, e, rfl⟩)
      rw [if_neg this]
      exact ih hn.2 e
theorem gval_in {G : Grps} {y : Pers} (h : ghas G y = true) : (y, gval G y) ∈ G := by
  induction G with
  | nil => simp [ghas] at h
  | cons p G ih =>
    obtain ⟨z, m⟩ := p
    rw [gval]
    by_cases hk : kB y z = true
    · rw [if_pos hk, kB_iff.1 hk]; simp
    · rw [if_neg hk]
      rw [ghas] at h
      have hk' : kB y z = false := by simpa using hk
      rw [hk', Bool.false_or] at h
      exact List.mem_cons_of_mem _ (ih h)
theorem ghas_back : ∀ (N : List Pers) {y : Pers}, ghas (groups N.reverse) y = true → ∃ x ∈ N, pgrp x = y
  | [], y, h => by
    have : ghas [] y = true := h
    simp [ghas] at this
  | z :: N, y, h => by
    rw [List.reverse_cons, groups_snoc, bump_has, Bool.or_eq_true] at h
    rcases h with h | h
    · obtain ⟨x, hx, e⟩ := ghas_back N h
      exact ⟨x, by simp [hx], e⟩
    · exact ⟨z, by simp, (kB_iff.1 h).symm⟩
theorem ghas_from (L : List Pers) {y : Pers} (h : ghas (groups L) y = true) : ∃ x ∈ L, pgrp x = y := by
  rw [← List.reverse_reverse L] at h
  obtain ⟨x, hx, e⟩ := ghas_back _ h
  exact ⟨x, List.mem_reverse.1 hx, e⟩
/-- Each entry is a group's size, and each group has its entry. -/
theorem groups_of {L : List Pers} {y : Pers} {n : Int} (h : (y, n) ∈ groups L) : ∃ x ∈ L, n = cnt3 L x := by
  have hv := gval_mem (groups_keys L) h
  have hk : ghas (groups L) y = true := ghas_mem.2 (List.mem_map.2 ⟨_, h, rfl⟩)
  obtain ⟨x, hx, e⟩ := ghas_from L hk
  exact ⟨x, hx, by rw [← hv, ← e, groups_val]⟩
theorem groups_at {L : List Pers} {x : Pers} (hx : x ∈ L) : (pgrp x, cnt3 L x) ∈ groups L := by
  have hk : ghas (groups L) (pgrp x) = true := by
    rw [groups_has, List.any_eq_true]
    exact ⟨x, hx, same3_self x⟩
  have := gval_in hk
  rw [groups_val] at this
  exact this

end Go.Proofs.Ytepnfljhoapdmaa
