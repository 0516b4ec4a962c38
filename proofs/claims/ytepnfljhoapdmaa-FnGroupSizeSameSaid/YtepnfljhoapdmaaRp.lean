/- Plain facts on recoding: no program in sight. No conditions. -/
import Derived.Test.YtepnfljhoapdmaaLb
import Derived.Test.YtepnfljhoapdmaaPn
namespace Go.Proofs.Ytepnfljhoapdmaa

/-- A recoding: how coarse areas, jobs, sexes are. -/
structure Rec where
  a : Int
  j : Int
  s : Int
def recOk (R : List (List Int)) (r : Rec) : Bool := ladB R && (decide (0 ≤ r.a) && (decide (r.a ≤ R.length) && (sexB r.j && sexB r.s)))
def recP (R : List (List Int)) (r : Rec) (x : Pers) : Pers := ⟨lcode R r.a x.a, x.j * (1 - r.j), x.s * (1 - r.s), x.p⟩
def rpOk (L : List Pers) (R : List (List Int)) (r : Rec) : Bool := peopleB L && recOk R r
def recL (L : List Pers) (R : List (List Int)) (r : Rec) : List Pers := if rpOk L R r = true then L.map (recP R r) else []
def finB (R : List (List Int)) (a b : Rec) : Bool := recOk R a && (recOk R b && (decide (a.a ≤ b.a) && (decide (a.j ≤ b.j) && decide (a.s ≤ b.s))))

theorem recOk_iff {R : List (List Int)} {r : Rec} : recOk R r = true ↔ ladB R = true ∧ (0 ≤ r.a ∧ r.a ≤ R.length) ∧ (0 ≤ r.j ∧ r.j ≤ 1) ∧ (0 ≤ r.s ∧ r.s ≤ 1) := by
  unfold recOk; simp [sexB_iff, and_assoc]
theorem rpOk_iff {L : List Pers} {R : List (List Int)} {r : Rec} : rpOk L R r = true ↔ peopleB L = true ∧ recOk R r = true := by unfold rpOk; simp
theorem finB_iff {R : List (List Int)} {a b : Rec} : finB R a b = true ↔ recOk R a = true ∧ recOk R b = true ∧ a.a ≤ b.a ∧ a.j ≤ b.j ∧ a.s ≤ b.s := by unfold finB; simp
theorem recL_yes {L : List Pers} {R : List (List Int)} {r : Rec} (h : rpOk L R r = true) : recL L R r = L.map (recP R r) := by unfold recL; rw [if_pos h]
theorem recL_no {L : List Pers} {R : List (List Int)} {r : Rec} (h : rpOk L R r = false) : recL L R r = [] := by unfold recL; rw [h]; rfl

section
variable {R : List (List Int)} {r : Rec}
theorem recP_ok (hr : recOk R r = true) {x : Pers} (hx : okB x = true) : okB (recP R r x) = true ∧ (recP R r x).a ≤ x.a ∧ (recP R r x).j ≤ x.j ∧ (recP R r x).s ≤ x.s ∧ (recP R r x).p = x.p := by
  obtain ⟨hR, ha, hj, hs⟩ := recOk_iff.1 hr
  obtain ⟨x1, x2, x3, x4⟩ := okB_iff.1 hx
  obtain ⟨l1, l2, _⟩ := lad_lvl hR ha.1 ha.2 x.a x1.1 x1.2
  have j1 : x.j * (1 - r.j) = if r.j = 1 then 0 else x.j := by
    by_cases e : r.j = 1
    · rw [if_pos e, e]; simp
    · rw [if_neg e, show r.j = 0 by omega]; simp
  have s1 : x.s * (1 - r.s) = if r.s = 1 then 0 else x.s := by
    by_cases e : r.s = 1
    · rw [if_pos e, e]; simp
    · rw [if_neg e, show r.s = 0 by omega]; simp
  unfold recP
  simp only
  rw [j1, s1]
  refine ⟨okB_mk (by omega) (by split <;> omega) (by split <;> omega) x4, l2, by split <;> omega, by split <;> omega, trivial⟩
theorem people_rec (hr : recOk R r = true) {L : List Pers} (hL : peopleB L = true) : peopleB (L.map (recP R r)) = true := by
  rw [peopleB_iff] at hL ⊢
  refine ⟨fun x hx => ?_, by simpa using hL.2⟩
  obtain ⟨y, hy, rfl⟩ := List.mem_map.1 hx
  exact (recP_ok hr (hL.1 y hy)).1
/-- A coarser recoding can begin with a finer one (P32). -/
theorem recP_chain {b : Rec} (hf : finB R r b = true) {x : Pers} (hx : okB x = true) : recP R b (recP R r x) = recP R b x := by
  obtain ⟨h1, h2, h3, h4, h5⟩ := finB_iff.1 hf
  obtain ⟨hR, ha, hj, hs⟩ := recOk_iff.1 h1
  obtain ⟨_, ha', hj', hs'⟩ := recOk_iff.1 h2
  obtain ⟨x1, x2, x3, x4⟩ := okB_iff.1 hx
  have e1 : lcode R b.a (lcode R r.a x.a) = lcode R b.a x.a := by
    have := lad_up hR ha.1 x1.1 x1.2 (b.a - r.a).toNat (by omega)
    rwa [show r.a + ((b.a - r.a).toNat : Int) = b.a by omega] at this
  have e2 : x.j * (1 - r.j) * (1 - b.j) = x.j * (1 - b.j) := by
    rcases (show r.j = 0 ∨ b.j = 1 by omega) with e | e <;> rw [e] <;> simp
  have e3 : x.s * (1 - r.s) * (1 - b.s) = x.s * (1 - b.s) := by
    rcases (show r.s = 0 ∨ b.s = 1 by omega) with e | e <;> rw [e] <;> simp
  unfold recP
  simp only
  rw [e1, e2, e3]
theorem finB_refl (hr : recOk R r = true) : finB R r r = true := finB_iff.2 ⟨hr, hr, by omega, by omega, by omega⟩
theorem recOk_zero (h : ladB R = true) : recOk R ⟨0, 0, 0⟩ = true := recOk_iff.2 ⟨h, by simp, by simp, by simp⟩
theorem recP_zero (x : Pers) : recP R ⟨0, 0, 0⟩ x = x := by
  unfold recP
  simp [lcode_zero]
theorem map_recP_zero (L : List Pers) : L.map (recP R ⟨0, 0, 0⟩) = L := by
  rw [List.map_congr_left (g := id) (fun x _ => recP_zero x)]; simp
/-- Codes are recoded one by one (P46). -/
theorem recP_once (x : Pers) : recP R ⟨r.a, 0, 0⟩ (recP R ⟨0, 0, r.s⟩ (recP R ⟨0, r.j, 0⟩ x)) = recP R r x := by
  unfold recP
  simp [lcode_zero]
/-- Finer is an order (P33). -/
theorem finB_back {b : Rec} (hf : finB R r b = true) : finB R b r = (r.a == b.a && (r.j == b.j && r.s == b.s)) := by
  obtain ⟨h1, h2, h3, h4, h5⟩ := finB_iff.1 hf
  rw [Bool.eq_iff_iff, finB_iff]
  simp
  exact ⟨fun ⟨_, _, a, b, c⟩ => by omega, fun h => ⟨h2, h1, by omega, by omega, by omega⟩⟩
end

/-- What recoding leaves of counts and pays (P31, P47). -/
theorem sumP_rec (R : List (List Int)) (r : Rec) (L : List Pers) : sumP (L.map (recP R r)) = sumP L := by
  induction L with
  | nil => rfl
  | cons x L ih => rw [List.map_cons, sumP, sumP, ih]; rfl
theorem cnt_all_zero {L : List Pers} (R : List (List Int)) (a : Int) : cnt (L.map (recP R ⟨a, 1, 1⟩)) (-1) 0 0 = L.length := by
  induction L with
  | nil => rfl
  | cons x L ih =>
    rw [List.map_cons, cnt_cons, ih, List.length_cons]
    have : isB (recP R ⟨a, 1, 1⟩ x) (-1) 0 0 = true := by simp [isB, recP]
    rw [if_pos this]
    omega
/-- How many have a code whose coarse code is 0, of the first k codes. -/
def cntTo (R : List (List Int)) (a : Int) (L : List Pers) : Nat → Int
  | 0 => 0
  | k + 1 => cntTo R a L k + (if lcode R a k = 0 then cnt L k (-1) (-1) else 0)
theorem cntTo_cons (R : List (List Int)) (a : Int) (x : Pers) (L : List Pers) : ∀ k : Nat, cntTo R a (x :: L) k = cntTo R a L k + (if (0 ≤ x.a ∧ x.a < k) ∧ lcode R a x.a = 0 then 1 else 0)
  | 0 => by
    simp only [cntTo]
    rw [if_neg (by omega)]
    omega
  | k + 1 => by
    rw [cntTo, cntTo, cntTo_cons R a x L k, cnt_cons]
    have hb : isB x (k : Int) (-1) (-1) = (x.a == (k : Int)) := by
      unfold isB
      have : decide ((k : Int) < 0) = false := by simp
      simp [this]
    rw [hb]
    obtain ⟨z, hz⟩ : ∃ z, lcode R a x.a = z := ⟨_, rfl⟩
    obtain ⟨u, hu⟩ : ∃ u, lcode R a (k : Int) = u := ⟨_, rfl⟩
    rw [hz, hu]
    generalize cntTo R a L k = q
    generalize cnt L (k : Int) (-1) (-1) = d
    by_cases e : x.a = (k : Int)
    · have e1 : (x.a == (k : Int)) = true := by simpa using e
      have e2 : z = u := by rw [← hz, ← hu, e]
      have c1 : ¬ ((0 ≤ x.a ∧ x.a < (k : Int)) ∧ z = 0) := by omega
      rw [e1, if_neg c1, if_pos rfl]
      by_cases h0 : u = 0
      · have c2 : (0 ≤ x.a ∧ x.a < ((k + 1 : Nat) : Int)) ∧ z = 0 := by omega
        rw [if_pos h0, if_pos h0, if_pos c2]; omega
      · have c2 : ¬ ((0 ≤ x.a ∧ x.a < ((k + 1 : Nat) : Int)) ∧ z = 0) := by omega
        rw [if_neg h0, if_neg h0, if_neg c2]
    · have e1 : (x.a == (k : Int)) = false := by simpa using e
      rw [e1, if_neg (by simp : ¬ (false = true))]
      by_cases h1 : (0 ≤ x.a ∧ x.a < (k : Int)) ∧ z = 0
      · have c2 : (0 ≤ x.a ∧ x.a < ((k + 1 : Nat) : Int)) ∧ z = 0 := by omega
        rw [if_pos h1, if_pos c2]
        by_cases h0 : u = 0
        · rw [if_pos h0, if_pos h0]; omega
        · rw [if_neg h0, if_neg h0]; omega
      · have c2 : ¬ ((0 ≤ x.a ∧ x.a < ((k + 1 : Nat) : Int)) ∧ z = 0) := by omega
        rw [if_neg h1, if_neg c2]
        by_cases h0 : u = 0
        · rw [if_pos h0, if_pos h0]; omega
        · rw [if_neg h0, if_neg h0]
theorem cnt_rec_zero {R : List (List Int)} {r : Rec} {L : List Pers} (h : ∀ x ∈ L, okB x = true) : cnt (L.map (recP R r)) 0 (-1) (-1) = cntTo R r.a L 4 := by
  induction L with
  | nil => simp [cnt_nil, cntTo]
  | cons x L ih =>
    rw [List.map_cons, cnt_cons, ih (fun y hy => h y (by simp [hy])), cntTo_cons]
    obtain ⟨x1, _⟩ := okB_iff.1 (h x (by simp))
    have hb : isB (recP R r x) 0 (-1) (-1) = decide (lcode R r.a x.a = 0) := by
      unfold isB recP
      simp
      rw [Bool.eq_iff_iff]; simp
    rw [hb]
    by_cases e : lcode R r.a x.a = 0
    · rw [if_pos (by simpa using e), if_pos ⟨by omega, e⟩]; omega
    · rw [if_neg (by simpa using e), if_neg (fun h => e h.2)]; omega
theorem cntTo_bound {R : List (List Int)} {a : Int} (L : List Pers) : ∀ k : Nat, 0 ≤ cntTo R a L k ∧ cntTo R a L k ≤ k * L.length
  | 0 => by simp [cntTo]
  | k + 1 => by
    have h1 := cntTo_bound (R := R) (a := a) L k
    have h2 := cnt_bound L k (-1) (-1)
    have e : ((k + 1 : Nat) : Int) * (L.length : Int) = (k : Int) * L.length + L.length := by rw [Int.natCast_add, Int.add_mul]; simp
    rw [cntTo, e]
    split <;> omega

end Go.Proofs.Ytepnfljhoapdmaa
