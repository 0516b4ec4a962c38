/- More plain laws of merging groups: no program in sight. No conditions. -/
import Derived.Test.YtbfblomabjmnmaaLc
namespace Go.Proofs.Ytbfblomabjmnmaa

theorem grp_top_mer {R : List (List Int)} {a b : Int} (h : merOk R a b = true) : grp (topF (R ++ [merS R a b])) = grp (topF R) - 1 := by
  obtain ⟨hR, h3, ha, hb, hne⟩ := merOk_iff.1 h
  rw [← grp_mer (top_lvl hR) ha hb hne, ← grp_rowBy (merF _ _ _)]
  congr 1
  funext c
  exact mer_top c
/-- A ladder of l steps, each of which has put two groups together. -/
def Good (R : List (List Int)) : Prop := ladB R = true ∧ grp (topF R) = 4 - R.length
theorem good_nil : Good [] := ⟨rfl, rfl⟩
theorem Good.mer {R : List (List Int)} {a b : Int} (h : Good R) (hm : merOk R a b = true) : Good (merR R a b) := by
  rw [merR_yes hm]
  refine ⟨mer_lad hm, ?_⟩
  rw [grp_top_mer hm, h.2, mer_len]
  omega
/-- If code j can't be put to 0, though there is room for a step, it is with 0. -/
theorem Good.same {R : List (List Int)} (h : Good R) (h3 : R.length < 3) {j : Int} (j0 : 0 ≤ j) (j3 : j ≤ 3) (hm : merOk R 0 j = false) : topF R j = topF R 0 := by
  by_cases e : topF R 0 = topF R j
  · exact e.symm
  · rw [merOk_iff.2 ⟨h.1, h3, ⟨by omega, by omega⟩, ⟨j0, j3⟩, e⟩] at hm
    cases hm
theorem Good.not_all {R : List (List Int)} (h : Good R) (h3 : R.length < 3) (e : ∀ c, 1 ≤ c → c ≤ 3 → topF R c = topF R 0) : False := by
  have := grp_one (top_lvl h.1) e
  rw [h.2] at this
  omega
theorem Good.last {R : List (List Int)} (h : Good R) (h3 : R.length = 3) : groupsI R 3 = 1 := by
  rw [groupsI_yes (lvlOk_mk h.1 (by omega) (by omega))]
  have := h.2
  unfold topF at this
  rw [h3] at this
  exact this
theorem merOk_full {R : List (List Int)} {a b : Int} (h3 : R.length = 3) : merOk R a b = false := by
  cases e : merOk R a b with
  | false => rfl
  | true => have := (merOk_iff.1 e).2.1; omega
theorem merR_length {R : List (List Int)} {a b : Int} : (merR R a b).length ≤ R.length + 1 := by
  unfold merR
  split
  · simp
  · simp
theorem merR_rows {R : List (List Int)} {a b : Int} {q : Nat} (h4 : 4 ≤ q) (h : ∀ s ∈ R, s.length ≤ q) : ∀ s ∈ merR R a b, s.length ≤ q := by
  intro s hs
  unfold merR at hs
  split at hs
  · rw [List.mem_append] at hs
    rcases hs with hs | hs
    · exact h s hs
    · simp at hs
      subst hs
      exact h4
  · simp at hs

end Go.Proofs.Ytbfblomabjmnmaa
