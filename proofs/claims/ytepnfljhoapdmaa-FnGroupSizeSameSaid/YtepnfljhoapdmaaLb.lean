/- The plain laws of reading ladders: no program in sight. No conditions. -/
import Derived.Test.YtepnfljhoapdmaaLa
namespace Go.Proofs.Ytepnfljhoapdmaa

theorem codeOk_mk {R : List (List Int)} {lv c : Int} (h : ladB R = true) (h0 : 0 ≤ lv) (h1 : lv ≤ R.length) (c0 : 0 ≤ c) (c3 : c ≤ 3) : codeOk R lv c = true := codeOk_iff.2 ⟨h, ⟨h0, h1⟩, c0, c3⟩
theorem lvlOk_mk {R : List (List Int)} {lv : Int} (h : ladB R = true) (h0 : 0 ≤ lv) (h1 : lv ≤ R.length) : lvlOk R lv = true := lvlOk_iff.2 ⟨h, h0, h1⟩

/-- P16: the last step once more. -/
theorem lad_twice {R : List (List Int)} (h : ladB R = true) (h0 : 0 < R.length) : ladB (R ++ [rowOf R (R.length - 1)]) = decide (R.length < 3) := by
  have hs := (okRow_iff.1 ((ladB_iff.1 h).2 (R.length - 1) (by omega))).1
  refine ladB_snoc h hs fun c c0 c3 => ?_
  rw [show (R.length : Int) = ((R.length - 1 : Nat) : Int) + 1 by omega, lcode_succ]
  exact (step_lvl hs c c0 c3).2.2
theorem lad_first : ladB ([] ++ [[0, 1, 2, 3]]) = true := by decide
/-- P26: one group behind all; a step that changes nothing before all. -/
theorem nth_zero (c : Int) : nth [0, 0, 0, 0] c = 0 := by
  unfold nth
  match c.toNat with
  | 0 => rfl
  | 1 => rfl
  | 2 => rfl
  | 3 => rfl
  | n + 4 => rfl
theorem lad_zero {R : List (List Int)} (h : ladB R = true) : ladB (R ++ [[0, 0, 0, 0]]) = decide (R.length < 3) :=
  ladB_snoc h (by decide) fun c _ _ => by rw [nth_zero, nth_zero]
theorem lad_zero_groups {R : List (List Int)} (h : ladB R = true) (h3 : R.length < 3) : groupsI (R ++ [[0, 0, 0, 0]]) ((R.length : Int) + 1) = 1 := by
  rw [groupsI_yes (lvlOk_mk (by rw [lad_zero h]; simpa using h3) (by omega) (by rw [List.length_append]; simp))]
  unfold grp own1
  simp [lcode_last, nth_zero]
theorem lad_cons {R : List (List Int)} (h : ladB R = true) : ladB ([0, 1, 2, 3] :: R) = decide (R.length < 3) := by
  have hR := ladB_iff.1 h
  have e1 : ∀ i, rowOf ([0, 1, 2, 3] :: R) (i + 1) = rowOf R i := fun i => by simp [rowOf, List.getD]
  rw [Bool.eq_iff_iff, ladB_iff, decide_eq_true_eq, List.length_cons]
  refine ⟨fun h' => by omega, fun h' => ⟨by omega, fun i hi => ?_⟩⟩
  rcases i with _ | i
  · exact okRow_iff.2 ⟨(by decide : stepB [0, 1, 2, 3] = true), fun h => by omega⟩
  · have hr := okRow_iff.1 (hR.2 i (by omega))
    refine okRow_iff.2 ⟨by rw [e1]; exact hr.1, fun _ => ?_⟩
    rw [e1]
    rcases i with _ | i
    · rw [coarB_iff]
      intro c hc
      have : nth (rowOf ([0, 1, 2, 3] :: R) (0 + 1 - 1)) (c : Int) = c := by
        rcases (show c = 0 ∨ c = 1 ∨ c = 2 ∨ c = 3 by omega) with rfl | rfl | rfl | rfl <;> rfl
      rw [this]
    · rw [show i + 1 + 1 - 1 = i + 1 by omega, e1]
      have := hr.2 (by omega)
      rwa [show i + 1 - 1 = i by omega] at this
theorem groups_zero {R : List (List Int)} (h : ladB R = true) : groupsI R 0 = 4 := by
  rw [groupsI_yes (lvlOk_mk h (by omega) (by omega))]
  rfl

section
variable {R : List (List Int)} {lv c : Int}
/-- What a code that was given tells. -/
theorem code_facts (h : codeOk R lv c = true) : codeOk R lv (lcode R lv c) = true ∧ lcode R lv (lcode R lv c) = lcode R lv c ∧ lcode R lv c ≤ c ∧ 0 ≤ lcode R lv c := by
  obtain ⟨hR, ⟨h0, h1⟩, c0, c3⟩ := codeOk_iff.1 h
  obtain ⟨a, b, d⟩ := lad_lvl hR h0 h1 c c0 c3
  exact ⟨codeOk_mk hR h0 h1 a (by omega), d, b, a⟩
/-- P17: the next level. -/
theorem code_next (h : codeOk R lv c = true) : codeOk R (lv + 1) c = decide (lv < R.length) ∧ codeOk R (lv + 1) (lcode R lv c) = decide (lv < R.length) ∧ codeI R (lv + 1) c = codeI R (lv + 1) (lcode R lv c) := by
  obtain ⟨hR, ⟨h0, h1⟩, c0, c3⟩ := codeOk_iff.1 h
  obtain ⟨a, b, d⟩ := lad_lvl hR h0 h1 c c0 c3
  have e : ∀ x, 0 ≤ x → x ≤ 3 → codeOk R (lv + 1) x = decide (lv < R.length) := fun x x0 x3 => by
    rw [Bool.eq_iff_iff, codeOk_iff, decide_eq_true_eq]
    exact ⟨fun h => by omega, fun h => ⟨hR, by omega, x0, x3⟩⟩
  refine ⟨e c c0 c3, e _ a (by omega), ?_⟩
  unfold codeI
  rw [e c c0 c3, e _ a (by omega)]
  by_cases hl : lv < R.length
  · simp only [hl, decide_true, if_true]
    exact (lad_next hR h0 (by omega) c0 c3).symm
  · simp [hl]
/-- P18: what is together stays together up to the top. -/
theorem code_top {d : Int} (h : codeOk R lv c = true) (d0 : 0 ≤ d) (d3 : d ≤ 3) (e : lcode R lv d = lcode R lv c) : lcode R R.length d = lcode R R.length c := by
  obtain ⟨hR, ⟨h0, h1⟩, c0, c3⟩ := codeOk_iff.1 h
  obtain ⟨k, hk⟩ : ∃ k : Nat, (R.length : Int) = lv + k := ⟨((R.length : Int) - lv).toNat, by omega⟩
  have e1 := lad_up hR h0 c0 c3 k (by omega)
  have e2 := lad_up hR h0 d0 d3 k (by omega)
  rw [hk, ← e1, ← e2, e]
/-- P27: the first steps; one step more. -/
theorem code_take (h : codeOk R lv c = true) : codeOk (R.take lv.toNat) lv c = true ∧ lcode (R.take lv.toNat) lv c = lcode R lv c := by
  obtain ⟨hR, ⟨h0, h1⟩, c0, c3⟩ := codeOk_iff.1 h
  exact ⟨codeOk_mk (ladB_take hR _) h0 (by rw [List.length_take]; omega) c0 c3, lcode_take h0 (by omega)⟩
theorem code_zero (h : codeOk R lv c = true) : codeOk (R ++ [[0, 0, 0, 0]]) lv c = decide (R.length < 3) ∧ (R.length < 3 → lcode (R ++ [[0, 0, 0, 0]]) lv c = lcode R lv c) := by
  obtain ⟨hR, ⟨h0, h1⟩, c0, c3⟩ := codeOk_iff.1 h
  refine ⟨?_, fun _ => lcode_append h0 h1⟩
  rw [Bool.eq_iff_iff, codeOk_iff, lad_zero hR, List.length_append]
  simp
  omega
/-- P19: groups become fewer. -/
theorem own1_next (hR : ladB R = true) (h0 : 0 ≤ lv) (h1 : lv + 1 ≤ R.length) {c : Int} (c0 : 0 ≤ c) (c3 : c ≤ 3) : own1 (lcode R (lv + 1)) c ≤ own1 (lcode R lv) c := by
  unfold own1
  by_cases e : lcode R (lv + 1) c = c
  · have e1 := lad_next hR h0 h1 c0 c3
    obtain ⟨a, b, _⟩ := lad_lvl hR h0 (by omega) c c0 c3
    obtain ⟨_, b', _⟩ := lad_lvl hR (show 0 ≤ lv + 1 by omega) h1 (lcode R lv c) a (by omega)
    rw [if_pos e, if_pos (by omega)]
    omega
  · rw [if_neg e]
    split <;> omega
theorem groups_facts (h : lvlOk R lv = true) : 1 ≤ groupsI R lv ∧ groupsI R lv ≤ 4 ∧ (0 < lv ∨ groupsI R lv = 4) ∧ groupsI R (lv + 1) ≤ groupsI R lv := by
  obtain ⟨hR, h0, h1⟩ := lvlOk_iff.1 h
  rw [groupsI_yes h]
  have hl := lad_lvl hR h0 h1
  have e0 : own1 (lcode R lv) 0 = 1 := by
    obtain ⟨a, b, _⟩ := hl 0 (by omega) (by omega)
    unfold own1
    rw [if_pos (by omega)]
  have b1 := own1_le (lcode R lv) 1
  have b2 := own1_le (lcode R lv) 2
  have b3 := own1_le (lcode R lv) 3
  refine ⟨by unfold grp; omega, by unfold grp; omega, ?_, ?_⟩
  · by_cases hz : lv = 0
    · subst hz; exact .inr rfl
    · exact .inl (by omega)
  · by_cases hn : lv + 1 ≤ R.length
    · rw [groupsI_yes (lvlOk_mk hR (by omega) hn)]
      unfold grp
      have c0 := own1_next hR h0 hn (c := 0) (by omega) (by omega)
      have c1 := own1_next hR h0 hn (c := 1) (by omega) (by omega)
      have c2 := own1_next hR h0 hn (c := 2) (by omega) (by omega)
      have c3 := own1_next hR h0 hn (c := 3) (by omega) (by omega)
      omega
    · rw [groupsI_no]
      · unfold grp; omega
      · cases hh : lvlOk R (lv + 1) with
        | false => rfl
        | true => have := (lvlOk_iff.1 hh).2.2; omega
/-- P20: a code is fresh if no smaller one has its code. -/
def freshB (f : Int → Int) (c d : Nat) : Bool := (List.range d).all fun i => f i != f c
theorem fresh_succ (f : Int → Int) (c d : Nat) : freshB f c (d + 1) = (freshB f c d && (f d != f c)) := by
  unfold freshB
  rw [List.range_succ, List.all_append]
  simp
theorem fresh_own {f : Int → Int} (h : Lvl f) {c : Nat} (hc : c ≤ 3) : freshB f c c = decide (f c = c) := by
  obtain ⟨a, b, d⟩ := h c (by omega) (by omega)
  rw [Bool.eq_iff_iff, decide_eq_true_eq]
  unfold freshB
  simp only [List.all_eq_true, List.mem_range, bne_iff_ne, ne_eq]
  constructor
  · intro hf
    by_cases e : f c = c
    · exact e
    · have := hf (f c).toNat (by omega)
      rw [show (((f c).toNat : Nat) : Int) = f c by omega] at this
      exact absurd d this
  · intro e i hi
    have := (h i (by omega) (by omega)).2.1
    omega
/-- How many of the first k codes stand for themselves. -/
def grpTo (f : Int → Int) : Nat → Int
  | 0 => 0
  | k + 1 => grpTo f k + own1 f k
theorem grpTo_four (f : Int → Int) : grpTo f 4 = grp f := by simp [grpTo, grp]
theorem grpTo_le (f : Int → Int) : ∀ k, 0 ≤ grpTo f k ∧ grpTo f k ≤ k
  | 0 => by simp [grpTo]
  | k + 1 => by
    have := grpTo_le f k
    have := own1_le f k
    simp only [grpTo]
    omega
theorem grpTo_yes {f : Int → Int} {k : Nat} (h : f k = k) : grpTo f (k + 1) = grpTo f k + 1 := by simp [grpTo, own1, h]
theorem grpTo_no {f : Int → Int} {k : Nat} (h : f k ≠ k) : grpTo f (k + 1) = grpTo f k := by simp [grpTo, own1, h]
end

end Go.Proofs.Ytepnfljhoapdmaa
