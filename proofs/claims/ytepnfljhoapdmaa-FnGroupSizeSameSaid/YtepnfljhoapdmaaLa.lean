/- Plain facts on steps and ladders: no program in sight. No conditions. -/
import Derived.Test.YtepnfljhoapdmaaPl
namespace Go.Proofs.Ytepnfljhoapdmaa

/-- Number i of a row (0 where there is none). -/
def nth (s : List Int) (i : Int) : Int := s.getD i.toNat 0
/-- Row k of a ladder. -/
def rowOf (R : List (List Int)) (k : Nat) : List Int := R.getD k []

theorem nth_get {s : List Int} {k : Nat} {x : Int} (h : s[k]? = some x) : nth s (k : Int) = x := by simp [nth, List.getD, h]
theorem nth_some {s : List Int} {k : Nat} (h : k < s.length) : s[k]? = some (nth s (k : Int)) := by simp [nth, List.getD, List.getElem?_eq_getElem h]
theorem rowOf_get {R : List (List Int)} {k : Nat} {s : List Int} (h : R[k]? = some s) : rowOf R k = s := by simp [rowOf, List.getD, h]

/-- Code i of a row is well. -/
def okAt (s : List Int) (i : Nat) : Bool := decide (0 ≤ nth s i) && (decide (nth s i ≤ i) && nth s (nth s i) == nth s i)
theorem okAt_iff {s : List Int} {i : Nat} : okAt s i = true ↔ 0 ≤ nth s i ∧ nth s i ≤ i ∧ nth s (nth s i) = nth s i := by unfold okAt; simp

def rowB (s : List Int) : Bool := (List.range s.length).all (okAt s)
def stepB (s : List Int) : Bool := rowB s && s.length == 4
def coarB (f s : List Int) : Bool := (List.range 4).all fun i => nth s (nth f i) == nth s i
def okRow (R : List (List Int)) (k : Nat) : Bool := stepB (rowOf R k) && (k == 0 || coarB (rowOf R (k - 1)) (rowOf R k))
def ladB (R : List (List Int)) : Bool := (List.range R.length).all (okRow R) && decide (R.length ≤ 3)

theorem rowB_iff {s : List Int} : rowB s = true ↔ ∀ i, i < s.length → okAt s i = true := by unfold rowB; simp [List.all_eq_true]
theorem stepB_iff {s : List Int} : stepB s = true ↔ s.length = 4 ∧ ∀ i, i < 4 → okAt s i = true := by
  unfold stepB
  simp only [Bool.and_eq_true, beq_iff_eq, rowB_iff]
  exact ⟨fun h => ⟨h.2, fun i hi => h.1 i (by omega)⟩, fun h => ⟨fun i hi => h.2 i (by omega), h.1⟩⟩
theorem coarB_iff {f s : List Int} : coarB f s = true ↔ ∀ i : Nat, i < 4 → nth s (nth f i) = nth s i := by unfold coarB; simp [List.all_eq_true]
theorem okRow_iff {R : List (List Int)} {k : Nat} : okRow R k = true ↔ stepB (rowOf R k) = true ∧ (0 < k → coarB (rowOf R (k - 1)) (rowOf R k) = true) := by
  unfold okRow
  simp only [Bool.and_eq_true, Bool.or_eq_true, beq_iff_eq]
  constructor
  · exact fun h => ⟨h.1, fun hk => h.2.resolve_left (by omega)⟩
  · exact fun h => ⟨h.1, by by_cases hk : k = 0; exact .inl hk; exact .inr (h.2 (by omega))⟩
theorem ladB_iff {R : List (List Int)} : ladB R = true ↔ R.length ≤ 3 ∧ ∀ k, k < R.length → okRow R k = true := by
  unfold ladB; simp [List.all_eq_true]; exact And.comm

theorem ladB_long {R : List (List Int)} (h : 3 < R.length) : ladB R = false := by
  cases e : ladB R with
  | false => rfl
  | true => have := (ladB_iff.1 e).1; omega
theorem ladB_bad {R : List (List Int)} {k : Nat} (hk : k < R.length) (h : okRow R k = false) : ladB R = false := by
  cases e : ladB R with
  | false => rfl
  | true => rw [(ladB_iff.1 e).2 k hk] at h; cases h

/-- The code at a level. -/
def lcode (R : List (List Int)) (lv c : Int) : Int := if lv = 0 then c else nth (rowOf R (lv - 1).toNat) c
theorem lcode_zero (R : List (List Int)) (c : Int) : lcode R 0 c = c := rfl
theorem lcode_succ (R : List (List Int)) (k : Nat) (c : Int) : lcode R ((k : Int) + 1) c = nth (rowOf R k) c := by
  unfold lcode
  rw [if_neg (by omega)]
  congr 2
  omega

/-- What holds of the codes at a level of a ladder. -/
def Lvl (f : Int → Int) : Prop := ∀ c, 0 ≤ c → c ≤ 3 → 0 ≤ f c ∧ f c ≤ c ∧ f (f c) = f c

theorem int_nat {c : Int} (h : 0 ≤ c) : ∃ n : Nat, c = n := ⟨c.toNat, by omega⟩
theorem step_lvl {s : List Int} (h : stepB s = true) : Lvl (nth s) := by
  intro c h0 h3
  obtain ⟨n, rfl⟩ := int_nat h0
  exact okAt_iff.1 ((stepB_iff.1 h).2 n (by omega))
theorem lad_lvl {R : List (List Int)} (h : ladB R = true) {lv : Int} (h0 : 0 ≤ lv) (h1 : lv ≤ R.length) : Lvl (lcode R lv) := by
  by_cases hz : lv = 0
  · subst hz
    intro c h0 h3
    exact ⟨h0, Int.le_refl _, rfl⟩
  · obtain ⟨k, rfl⟩ : ∃ k : Nat, lv = (k : Int) + 1 := ⟨(lv - 1).toNat, by omega⟩
    intro c h0 h3
    rw [lcode_succ, lcode_succ]
    exact step_lvl (okRow_iff.1 ((ladB_iff.1 h).2 k (by omega))).1 c h0 h3
theorem lad_next {R : List (List Int)} (h : ladB R = true) {lv c : Int} (h0 : 0 ≤ lv) (h1 : lv + 1 ≤ R.length) (c0 : 0 ≤ c) (c3 : c ≤ 3) : lcode R (lv + 1) (lcode R lv c) = lcode R (lv + 1) c := by
  obtain ⟨k, rfl⟩ := int_nat h0
  rw [lcode_succ, lcode_succ]
  rcases Nat.eq_zero_or_pos k with rfl | hk
  · rfl
  · have hr := (okRow_iff.1 ((ladB_iff.1 h).2 k (by omega))).2 hk
    obtain ⟨n, rfl⟩ := int_nat c0
    have := coarB_iff.1 hr n (by omega)
    obtain ⟨k', rfl⟩ : ∃ k', k = k' + 1 := ⟨k - 1, by omega⟩
    rw [show ((k' + 1 : Nat) : Int) = (k' : Int) + 1 by omega, lcode_succ]
    exact this
/-- A later level does not part what an earlier one has put together. -/
theorem lad_up {R : List (List Int)} (h : ladB R = true) {lv : Int} (h0 : 0 ≤ lv) {c : Int} (c0 : 0 ≤ c) (c3 : c ≤ 3) : ∀ d : Nat, lv + d ≤ R.length → lcode R (lv + d) (lcode R lv c) = lcode R (lv + d) c
  | 0, h1 => by
    have := (lad_lvl h h0 (by omega) c c0 c3).2.2
    simpa using this
  | d + 1, h1 => by
    have ih := lad_up h h0 c0 c3 d (by omega)
    obtain ⟨a0, a1, _⟩ := lad_lvl h h0 (by omega) c c0 c3
    have e1 := lad_next h (lv := lv + d) (c := lcode R lv c) (by omega) (by omega) a0 (by omega)
    have e2 := lad_next h (lv := lv + d) (c := c) (by omega) (by omega) c0 c3
    rw [ih] at e1
    rw [show lv + ((d + 1 : Nat) : Int) = lv + d + 1 by omega, ← e1, e2]

/-- How many of four codes stand for themselves. -/
def own1 (f : Int → Int) (c : Int) : Int := if f c = c then 1 else 0
def grp (f : Int → Int) : Int := own1 f 0 + own1 f 1 + own1 f 2 + own1 f 3
theorem own1_le (f : Int → Int) (c : Int) : 0 ≤ own1 f c ∧ own1 f c ≤ 1 := by unfold own1; split <;> omega
theorem grp_id : grp (fun c => c) = 4 := rfl

def codeOk (R : List (List Int)) (lv c : Int) : Bool := ladB R && (decide (0 ≤ lv) && (decide (lv ≤ R.length) && codeB c))
def codeI (R : List (List Int)) (lv c : Int) : Int := if codeOk R lv c = true then lcode R lv c else 0
def lvlOk (R : List (List Int)) (lv : Int) : Bool := ladB R && (decide (0 ≤ lv) && decide (lv ≤ R.length))
def groupsI (R : List (List Int)) (lv : Int) : Int := if lvlOk R lv = true then grp (lcode R lv) else -1

theorem codeOk_iff {R : List (List Int)} {lv c : Int} : codeOk R lv c = true ↔ ladB R = true ∧ (0 ≤ lv ∧ lv ≤ R.length) ∧ 0 ≤ c ∧ c ≤ 3 := by
  unfold codeOk; simp [codeB_iff, and_assoc]
theorem lvlOk_iff {R : List (List Int)} {lv : Int} : lvlOk R lv = true ↔ ladB R = true ∧ 0 ≤ lv ∧ lv ≤ R.length := by unfold lvlOk; simp
theorem codeI_yes {R : List (List Int)} {lv c : Int} (h : codeOk R lv c = true) : codeI R lv c = lcode R lv c := by unfold codeI; rw [if_pos h]
theorem codeI_no {R : List (List Int)} {lv c : Int} (h : codeOk R lv c = false) : codeI R lv c = 0 := by unfold codeI; rw [h]; rfl
theorem groupsI_yes {R : List (List Int)} {lv : Int} (h : lvlOk R lv = true) : groupsI R lv = grp (lcode R lv) := by unfold groupsI; rw [if_pos h]
theorem groupsI_no {R : List (List Int)} {lv : Int} (h : lvlOk R lv = false) : groupsI R lv = -1 := by unfold groupsI; rw [h]; rfl

/-- The first steps are a ladder. -/
theorem rowOf_take {R : List (List Int)} {k i : Nat} (h : i < k) : rowOf (R.take k) i = rowOf R i := by simp [rowOf, List.getD, h]
theorem okRow_take {R : List (List Int)} {k i : Nat} (h : i < k) : okRow (R.take k) i = okRow R i := by
  unfold okRow
  rw [rowOf_take h, rowOf_take (show i - 1 < k by omega)]
theorem ladB_take {R : List (List Int)} (h : ladB R = true) (k : Nat) : ladB (R.take k) = true := by
  rw [ladB_iff] at h ⊢
  refine ⟨by rw [List.length_take]; omega, fun i hi => ?_⟩
  rw [List.length_take] at hi
  rw [okRow_take (by omega)]
  exact h.2 i (by omega)
theorem rowOf_append {R : List (List Int)} {s : List Int} {i : Nat} (h : i < R.length) : rowOf (R ++ [s]) i = rowOf R i := by simp [rowOf, List.getD, List.getElem?_append_left h]
theorem rowOf_last (R : List (List Int)) (s : List Int) : rowOf (R ++ [s]) R.length = s := by simp [rowOf, List.getD]
theorem okRow_append {R : List (List Int)} {s : List Int} {i : Nat} (h : i < R.length) : okRow (R ++ [s]) i = okRow R i := by
  unfold okRow
  rw [rowOf_append h, rowOf_append (show i - 1 < R.length by omega)]
/-- One step more. -/
theorem ladB_snoc {R : List (List Int)} {s : List Int} (h : ladB R = true) (hs : stepB s = true) (hc : ∀ c, 0 ≤ c → c ≤ 3 → nth s (lcode R R.length c) = nth s c) : ladB (R ++ [s]) = decide (R.length < 3) := by
  have hR := ladB_iff.1 h
  rw [Bool.eq_iff_iff, ladB_iff, decide_eq_true_eq, List.length_append, List.length_singleton]
  refine ⟨fun h' => by omega, fun h' => ⟨by omega, fun i hi => ?_⟩⟩
  rcases Nat.lt_or_ge i R.length with hlt | hge
  · rw [okRow_append hlt]; exact hR.2 i hlt
  · obtain rfl : i = R.length := by omega
    rw [okRow_iff, rowOf_last]
    refine ⟨hs, fun hpos => ?_⟩
    rw [rowOf_append (by omega), coarB_iff]
    intro c hc4
    have := hc c (by omega) (by omega)
    rw [show (R.length : Int) = ((R.length - 1 : Nat) : Int) + 1 by omega, lcode_succ] at this
    exact this
theorem ladB_snoc_no {R : List (List Int)} {s : List Int} (h : ladB (R ++ [s]) = true) : ladB R = true := by
  have := ladB_take h R.length
  rwa [List.take_left] at this
theorem lcode_append {R : List (List Int)} {s : List Int} {lv c : Int} (h0 : 0 ≤ lv) (h1 : lv ≤ R.length) : lcode (R ++ [s]) lv c = lcode R lv c := by
  unfold lcode
  by_cases hz : lv = 0
  · rw [if_pos hz, if_pos hz]
  · rw [if_neg hz, if_neg hz, rowOf_append (by omega)]
theorem lcode_last (R : List (List Int)) (s : List Int) (c : Int) : lcode (R ++ [s]) ((R.length : Int) + 1) c = nth s c := by rw [lcode_succ, rowOf_last]
theorem lcode_take {R : List (List Int)} {k : Nat} {lv c : Int} (h0 : 0 ≤ lv) (h1 : lv ≤ k) : lcode (R.take k) lv c = lcode R lv c := by
  unfold lcode
  by_cases hz : lv = 0
  · rw [if_pos hz, if_pos hz]
  · rw [if_neg hz, if_neg hz, rowOf_take (by omega)]

/-- A row of four numbers, by a function. -/
def rowBy (f : Int → Int) : List Int := [f 0, f 1, f 2, f 3]
theorem nth_rowBy (f : Int → Int) {c : Int} (h0 : 0 ≤ c) (h3 : c ≤ 3) : nth (rowBy f) c = f c := by
  rcases (show c = 0 ∨ c = 1 ∨ c = 2 ∨ c = 3 by omega) with rfl | rfl | rfl | rfl <;> rfl
theorem step_rowBy {f : Int → Int} (h : Lvl f) : stepB (rowBy f) = true := by
  rw [stepB_iff]
  refine ⟨rfl, fun i hi => okAt_iff.2 ?_⟩
  obtain ⟨a, b, c⟩ := h i (by omega) (by omega)
  rw [nth_rowBy f (by omega) (by omega), nth_rowBy f a (by omega)]
  exact ⟨a, b, c⟩
theorem rowBy_nth {s : List Int} (h : s.length = 4) : rowBy (nth s) = s := by
  match s, h with
  | [a, b, c, d], _ => rfl

end Go.Proofs.Ytepnfljhoapdmaa
