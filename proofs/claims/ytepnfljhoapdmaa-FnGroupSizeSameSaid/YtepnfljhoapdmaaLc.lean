/- The plain laws of merging groups: no program in sight. No conditions. -/
import Derived.Test.YtepnfljhoapdmaaLb
namespace Go.Proofs.Ytepnfljhoapdmaa

/-- The codes with two groups put together. -/
def merF (f : Int → Int) (x y c : Int) : Int := if f c = x ∨ f c = y then min x y else f c
def topF (R : List (List Int)) (c : Int) : Int := lcode R R.length c
def merOk (R : List (List Int)) (a b : Int) : Bool := ladB R && (!(R.length == 3) && (codeB a && (codeB b && !(topF R a == topF R b))))
def merS (R : List (List Int)) (a b : Int) : List Int := rowBy (merF (topF R) (topF R a) (topF R b))
def merR (R : List (List Int)) (a b : Int) : List (List Int) := if merOk R a b = true then R ++ [merS R a b] else []

theorem merOk_iff {R : List (List Int)} {a b : Int} : merOk R a b = true ↔ ladB R = true ∧ R.length < 3 ∧ (0 ≤ a ∧ a ≤ 3) ∧ (0 ≤ b ∧ b ≤ 3) ∧ topF R a ≠ topF R b := by
  unfold merOk
  simp only [Bool.and_eq_true, Bool.not_eq_true', beq_eq_false_iff_ne, ne_eq, codeB_iff]
  constructor
  · rintro ⟨h, h3, ha, hb, hne⟩
    have := (ladB_iff.1 h).1
    exact ⟨h, by omega, ha, hb, hne⟩
  · rintro ⟨h, h3, ha, hb, hne⟩
    exact ⟨h, by omega, ha, hb, hne⟩
theorem merR_yes {R : List (List Int)} {a b : Int} (h : merOk R a b = true) : merR R a b = R ++ [merS R a b] := by unfold merR; rw [if_pos h]
theorem merR_no {R : List (List Int)} {a b : Int} (h : merOk R a b = false) : merR R a b = [] := by unfold merR; rw [h]; rfl
theorem merF_swap (f : Int → Int) (x y c : Int) : merF f x y c = merF f y x c := by
  unfold merF
  by_cases h : f c = x ∨ f c = y
  · rw [if_pos h, if_pos (by omega)]; omega
  · rw [if_neg h, if_neg (by omega)]
theorem merS_swap (R : List (List Int)) (a b : Int) : merS R a b = merS R b a := by
  unfold merS
  congr 1
  funext c
  exact merF_swap _ _ _ c
theorem merOk_swap (R : List (List Int)) (a b : Int) : merOk R a b = merOk R b a := by
  rw [Bool.eq_iff_iff, merOk_iff, merOk_iff]
  exact ⟨fun ⟨h1, h2, h3, h4, h5⟩ => ⟨h1, h2, h4, h3, fun e => h5 e.symm⟩, fun ⟨h1, h2, h3, h4, h5⟩ => ⟨h1, h2, h4, h3, fun e => h5 e.symm⟩⟩
theorem merR_swap (R : List (List Int)) (a b : Int) : merR R a b = merR R b a := by unfold merR; rw [merOk_swap, merS_swap]
theorem merOk_self (R : List (List Int)) (a : Int) : merOk R a a = false := by
  cases h : merOk R a a with
  | false => rfl
  | true => exact absurd rfl (merOk_iff.1 h).2.2.2.2

theorem top_lvl {R : List (List Int)} (h : ladB R = true) : Lvl (topF R) := lad_lvl h (by omega) (Int.le_refl _)

section
variable {f : Int → Int} {a b : Int}
theorem merF_lvl (h : Lvl f) (ha : 0 ≤ a ∧ a ≤ 3) (hb : 0 ≤ b ∧ b ≤ 3) : Lvl (merF f (f a) (f b)) := by
  obtain ⟨a0, a1, a2⟩ := h a ha.1 ha.2
  obtain ⟨b0, b1, b2⟩ := h b hb.1 hb.2
  intro c c0 c3
  obtain ⟨k0, k1, k2⟩ := h c c0 c3
  unfold merF
  by_cases e : f c = f a ∨ f c = f b
  · simp only [if_pos e]
    have hm : f (min (f a) (f b)) = min (f a) (f b) := by
      rcases Int.le_total (f a) (f b) with hl | hl
      · rw [Int.min_eq_left hl]; exact a2
      · rw [Int.min_eq_right hl]; exact b2
    refine ⟨by omega, by omega, ?_⟩
    rw [if_pos (by rw [hm]; omega)]
  · simp only [if_neg e]
    rw [k2, if_neg e]
    exact ⟨k0, k1, rfl⟩
theorem merF_coarse (h : Lvl f) {c : Int} (c0 : 0 ≤ c) (c3 : c ≤ 3) (x y : Int) : merF f x y (f c) = merF f x y c := by
  unfold merF
  rw [(h c c0 c3).2.2]
theorem merF_ab : merF f (f a) (f b) a = merF f (f a) (f b) b := by
  unfold merF
  rw [if_pos (.inl rfl), if_pos (.inr rfl)]
theorem own1_mer (h : Lvl f) (ha : 0 ≤ a ∧ a ≤ 3) (hb : 0 ≤ b ∧ b ≤ 3) (hne : f a ≠ f b) {c : Int} (c0 : 0 ≤ c) (c3 : c ≤ 3) : own1 (merF f (f a) (f b)) c = own1 f c - (if c = max (f a) (f b) then 1 else 0) := by
  obtain ⟨a0, a1, a2⟩ := h a ha.1 ha.2
  obtain ⟨b0, b1, b2⟩ := h b hb.1 hb.2
  obtain ⟨k0, k1, k2⟩ := h c c0 c3
  unfold own1 merF
  by_cases em : c = max (f a) (f b)
  · have hfc : f c = c := by
      rcases Int.le_total (f a) (f b) with hl | hl
      · rw [em, Int.max_eq_right hl]; exact b2
      · rw [em, Int.max_eq_left hl]; exact a2
    rw [if_pos (show f c = f a ∨ f c = f b by omega), if_pos em, if_pos hfc, if_neg (by omega)]
    omega
  · rw [if_neg em]
    by_cases e : f c = f a ∨ f c = f b
    · rw [if_pos e]
      by_cases hfc : f c = c
      · rw [if_pos hfc, if_pos (by omega)]; omega
      · rw [if_neg hfc, if_neg]
        · omega
        · intro hc
          rcases Int.le_total (f a) (f b) with hl | hl
          · rw [Int.min_eq_left hl] at hc; rw [hc] at a2; exact hfc a2
          · rw [Int.min_eq_right hl] at hc; rw [hc] at b2; exact hfc b2
    · rw [if_neg e]; omega
theorem grp_mer (h : Lvl f) (ha : 0 ≤ a ∧ a ≤ 3) (hb : 0 ≤ b ∧ b ≤ 3) (hne : f a ≠ f b) : grp (merF f (f a) (f b)) = grp f - 1 := by
  obtain ⟨a0, a1, a2⟩ := h a ha.1 ha.2
  obtain ⟨b0, b1, b2⟩ := h b hb.1 hb.2
  unfold grp
  rw [own1_mer h ha hb hne (c := 0) (by omega) (by omega), own1_mer h ha hb hne (c := 1) (by omega) (by omega), own1_mer h ha hb hne (c := 2) (by omega) (by omega), own1_mer h ha hb hne (c := 3) (by omega) (by omega)]
  generalize own1 f 0 = u0
  generalize own1 f 1 = u1
  generalize own1 f 2 = u2
  generalize own1 f 3 = u3
  rcases (show max (f a) (f b) = 0 ∨ max (f a) (f b) = 1 ∨ max (f a) (f b) = 2 ∨ max (f a) (f b) = 3 by omega) with e | e | e | e <;> rw [e] <;> simp <;> omega
end

theorem grp_rowBy (f : Int → Int) : grp (nth (rowBy f)) = grp f := by
  unfold grp own1
  rw [nth_rowBy f (c := 0) (by omega) (by omega), nth_rowBy f (c := 1) (by omega) (by omega), nth_rowBy f (c := 2) (by omega) (by omega), nth_rowBy f (c := 3) (by omega) (by omega)]

section
variable {R : List (List Int)} {a b : Int}
theorem mer_lad (h : merOk R a b = true) : ladB (R ++ [merS R a b]) = true := by
  obtain ⟨hR, h3, ha, hb, hne⟩ := merOk_iff.1 h
  have hl := top_lvl hR
  have hm := merF_lvl hl ha hb
  have := ladB_snoc hR (s := merS R a b) (step_rowBy hm) fun c c0 c3 => by
    obtain ⟨k0, k1, _⟩ := hl c c0 c3
    unfold merS
    rw [nth_rowBy _ c0 c3, nth_rowBy _ (c := lcode R R.length c) k0 (by have : lcode R R.length c ≤ c := k1; omega)]
    exact merF_coarse hl c0 c3 _ _
  rw [this]
  simpa using h3
theorem mer_len : (R ++ [merS R a b]).length = R.length + 1 := by simp
theorem mer_top (c : Int) : topF (R ++ [merS R a b]) c = nth (merS R a b) c := by
  unfold topF
  rw [mer_len, Int.natCast_add]
  exact lcode_last R _ c
theorem mer_ab (h : merOk R a b = true) : topF (R ++ [merS R a b]) a = topF (R ++ [merS R a b]) b := by
  obtain ⟨hR, h3, ha, hb, hne⟩ := merOk_iff.1 h
  rw [mer_top, mer_top]
  unfold merS
  rw [nth_rowBy _ ha.1 ha.2, nth_rowBy _ hb.1 hb.2]
  exact merF_ab
theorem mer_lower {lv c : Int} (h0 : 0 ≤ lv) (h1 : lv ≤ R.length) : lcode (R ++ [merS R a b]) lv c = lcode R lv c := lcode_append h0 h1
/-- P21: one group less. -/
theorem mer_groups (h : merOk R a b = true) : groupsI (R ++ [merS R a b]) ((R.length : Int) + 1) = groupsI (R ++ [merS R a b]) R.length - 1 ∧ groupsI R R.length = groupsI (R ++ [merS R a b]) R.length ∧ 2 ≤ groupsI R R.length := by
  obtain ⟨hR, h3, ha, hb, hne⟩ := merOk_iff.1 h
  have hl := mer_lad h
  have hlen := mer_len (R := R) (a := a) (b := b)
  have e1 : groupsI (R ++ [merS R a b]) ((R.length : Int) + 1) = grp (topF R) - 1 := by
    rw [groupsI_yes (lvlOk_mk hl (by omega) (by rw [hlen]; omega)), ← grp_mer (top_lvl hR) ha hb hne, ← grp_rowBy (merF _ _ _)]
    congr 1
    funext c
    exact lcode_last R _ c
  have e2 : groupsI (R ++ [merS R a b]) R.length = grp (topF R) := by
    rw [groupsI_yes (lvlOk_mk hl (by omega) (by rw [hlen]; omega))]
    congr 1
    funext c
    exact mer_lower (by omega) (by omega)
  have e3 : groupsI R R.length = grp (topF R) := groupsI_yes (lvlOk_mk hR (by omega) (by omega))
  have := (groups_facts (lvlOk_mk hl (lv := (R.length : Int) + 1) (by omega) (by rw [hlen]; omega))).1
  omega
/-- P25: what has been merged is not merged again. -/
theorem mer_again (h : merOk R a b = true) : merOk (R ++ [merS R a b]) a b = false ∧ merOk (R ++ [merS R a b]) (topF (R ++ [merS R a b]) a) b = false := by
  obtain ⟨hR, h3, ha, hb, hne⟩ := merOk_iff.1 h
  have e := mer_ab h
  constructor
  · cases hh : merOk (R ++ [merS R a b]) a b with
    | false => rfl
    | true => exact absurd e (merOk_iff.1 hh).2.2.2.2
  · cases hh : merOk (R ++ [merS R a b]) (topF (R ++ [merS R a b]) a) b with
    | false => rfl
    | true =>
      have := (merOk_iff.1 hh).2.2.2.2
      rw [((top_lvl (mer_lad h)) a ha.1 ha.2).2.2] at this
      exact absurd e this
/-- The least code of a group of codes that all are together is 0: then there is one group. -/
theorem grp_one {f : Int → Int} (h : Lvl f) (e : ∀ c, 1 ≤ c → c ≤ 3 → f c = f 0) : grp f = 1 := by
  have h0 : f 0 = 0 := by obtain ⟨x, y, _⟩ := h 0 (by omega) (by omega); omega
  unfold grp own1
  rw [e 1 (by omega) (by omega), e 2 (by omega) (by omega), e 3 (by omega) (by omega), h0]
  rfl
end

end Go.Proofs.Ytepnfljhoapdmaa
