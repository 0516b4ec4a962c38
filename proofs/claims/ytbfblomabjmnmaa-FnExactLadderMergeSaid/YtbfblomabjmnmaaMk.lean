/- Contracts of markIntS, heldIntS, markIntSS, heldIntSS: rows of one's own are written, and read again. -/
import Derived.Test.YtbfblomabjmnmaaMo
namespace Go.Proofs.Ytbfblomabjmnmaa
open Go.RowKit
set_option linter.unusedVariables false

/-- k, k + 1, .., n of them. -/
def marks (k : Int) (n : Nat) : List Int := (List.range n).map fun i : Nat => k + (i : Int)
theorem marks_length (k : Int) (n : Nat) : (marks k n).length = n := by simp [marks]
theorem marks_get {k : Int} {n i : Nat} (h : i < n) : (marks k n)[i]? = some (k + (i : Int)) := by simp [marks, List.getElem?_range h]

/-- The first j cells are new, the others old. -/
def mixed2 (xs ys : List Value) (j : Nat) : List Value := xs.take j ++ ys.drop j
theorem mixed2_set {xs ys : List Value} {j : Nat} {u : Value} (hl : xs.length = ys.length) (hj : j < xs.length) (hu : xs[j]? = some u) : (mixed2 xs ys j).set j u = mixed2 xs ys (j + 1) := by
  unfold mixed2
  apply List.ext_getElem?
  intro i
  rw [List.getElem?_set]
  by_cases e : j = i
  · subst e
    have l1 : (xs.take j).length = j := by rw [List.length_take]; omega
    rw [if_pos rfl, if_pos (by rw [List.length_append, l1, List.length_drop]; omega), List.getElem?_append_left (by rw [List.length_take]; omega), List.getElem?_take, if_pos (by omega), hu]
  · rw [if_neg e]
    have l1 : (xs.take j).length = j := by rw [List.length_take]; omega
    have l2 : (xs.take (j + 1)).length = j + 1 := by rw [List.length_take]; omega
    rcases Nat.lt_or_ge i j with hlt | hge
    · rw [List.getElem?_append_left (by omega), List.getElem?_append_left (by omega), List.getElem?_take, List.getElem?_take, if_pos (by omega), if_pos (by omega)]
    · rw [List.getElem?_append_right (by omega), List.getElem?_append_right (by omega), l1, l2, List.getElem?_drop, List.getElem?_drop]
      congr 1
      omega
theorem mixed2_zero (xs ys : List Value) : mixed2 xs ys 0 = ys := by simp [mixed2]
theorem mixed2_full {xs ys : List Value} {n : Nat} (h1 : xs.length = n) (h2 : ys.length = n) : mixed2 xs ys n = xs := by
  unfold mixed2
  rw [List.take_of_length_le (by omega), List.drop_eq_nil_of_le (by omega), List.append_nil]

/-- What markIntS leaves: the row holds the marks; only its block has turned. -/
def MarkPost (B : Nat) (A : Option Addr) (n c : Nat) (k : Int) (w : World) (e : Ending) (w' : World) : Prop :=
  e = .returned (.int .i64 (k + n)) ∧ w'.ownsRow B 3 1 (.slice A n c) n (ints (marks k n)) ∧ w.grownBy w' (Value.slice A n c).ownBlock ∧ w'.heap.size = w.heap.size
def MarkRel (B : Nat) (A : Option Addr) (n c : Nat) (k : Int) (s : List Int) (w : World) (v i : Value) (wr : World) : Prop :=
  ∃ j : Nat, j ≤ n ∧ i = .int .i64 j ∧ v = .int .i64 (k + j) ∧ wr.ownsRow B 3 1 (.slice A n c) n (mixed2 (ints (marks k n)) (ints s) j) ∧ w.grownBy wr (Value.slice A n c).ownBlock ∧ wr.heap.size = w.heap.size

set_option maxHeartbeats 1600000 in
theorem markIntS_any (B : Nat) (A : Option Addr) (n c : Nat) (s : List Int) (k : Int) (w : World) (hown : w.ownsRow B 3 1 (.slice A n c) n (ints s)) (hs : s.length = n) (hn : n ≤ 1048576) (h0 : 0 ≤ k) (h1 : k ≤ 1099511627777) :
    Calls Try.prog 34 #[.slice A n c, .int .i64 k] w (MarkPost B A n c k w) := by
  have HS := Lib.hid hs
  have HL := Lib.hid (show (ints (marks k n)).length = (ints s).length by rw [ints_length, ints_length, marks_length, hs])
  have HO := Lib.hid hown
  have hz : mixed2 (ints (marks k n)) (ints s) 0 = ints s := mixed2_zero _ _
  have HZ := Lib.hid hz
  have HF := Lib.hid (show mixed2 (ints (marks k n)) (ints s) n = ints (marks k n) from mixed2_full (by rw [ints_length, marks_length]) (by rw [ints_length, hs]))
  clear hs hown hz
  go_enter Try.func34, Try.ntmps34
  go_wp2
  go_loopw [1, 5] (fun v i wr => MarkRel B A n c k s w v i wr) (fun _ i _ => n - (intOf i).toNat)
  case atStart => exact ⟨0, Nat.zero_le _, rfl, by simp, by rw [HZ.out]; exact HO.out, World.grownBy.refl _ _, rfl⟩
  case round =>
    obtain ⟨j, hj, rfl, rfl, ho, hg, hsz⟩ := hrel
    by_cases hjn : j < n
    · obtain ⟨g, cap, hv, _, _⟩ := ho.form (by omega)
      injection hv with hA _ hc
      subst hA hc
      have hcell : ∃ v, wr.cell? ⟨g, j, none⟩ = some v := by
        rw [ho.cellAt j (by omega)]
        exact ⟨_, List.getElem?_eq_getElem (by have := ho.1; omega)⟩
      obtain ⟨v0, c0⟩ := hcell
      have f0 := ho.frozenAt j
      obtain ⟨ho', hg'⟩ := ho.stored j (.int .i64 (k + (j : Int)))
      rw [mixed2_set HL.out (by rw [ints_length, marks_length]; exact hjn) (by rw [ints_get (marks_get hjn)])] at ho'
      have RR : MarkRel B (some ⟨g, 0, none⟩) n c k s w (.int .i64 (k + (j : Int) + 1)) (.int .i64 ((j : Int) + 1)) (wr.setCell ⟨g, j, none⟩ (.int .i64 (k + (j : Int)))) :=
        ⟨j + 1, by omega, by go_num, by congr 1; omega, ho', hg.trans hg', by simpa [World.setCell] using hsz⟩
      have HR := Lib.hid RR
      clear ho ho' hg hg' RR hsz
      go_wp2
      have RR := HR.out
      go_roundw
      case rel => first | exact RR | ((repeat apply Exists.intro); first | exact ⟨RR, rfl⟩ | exact ⟨RR, rfl, rfl⟩ | exact ⟨RR, rfl, rfl, rfl⟩)
      case measure => simp [intOf]; omega
    · obtain rfl : j = n := by omega
      rw [HF.out] at ho
      have H1 := Lib.hid (And.intro ho (And.intro hg hsz))
      clear ho hg hsz
      go_wp2
      go_ret
      exact ⟨rfl, H1.out.1, H1.out.2.1, H1.out.2.2⟩

set_option maxHeartbeats 1600000 in
theorem heldIntS_any (A : Option Addr) (n c : Nat) (k : Int) (w : World) (hA : Seen w A (ints (marks k n))) (hn : n ≤ 1048576) (h0 : 0 ≤ k) (h1 : k ≤ 1099511627777) :
    Calls Try.prog 35 #[.slice A n c, .int .i64 k] w fun e w' => e = .returned (.int .i64 (k + n)) ∧ w = w' := by
  have HA := Lib.hid hA
  clear hA
  go_enter Try.func35, Try.ntmps35
  go_wp2
  go_loop [1, 5] (fun v i => ∃ j : Nat, j ≤ n ∧ i = .int .i64 j ∧ v = .int .i64 (k + j)) (fun _ i => n - (intOf i).toNat)
  case atStart => exact ⟨0, Nat.zero_le _, rfl, by simp⟩
  case round =>
    obtain ⟨j, hj, rfl, rfl⟩ := hrel
    by_cases hjn : j < n
    · obtain ⟨b, o, hAe, _, hc⟩ := HA.out (by rw [ints_length, marks_length]; omega)
      subst hAe
      have g0 := hc j _ (ints_get (marks_get (k := k) hjn))
      have hne : (k + (j : Int) != k + (j : Int)) = false := by simp
      clear hc
      go_wp2
      go_round
      case rel => exact ⟨j + 1, by omega, by go_num, by congr 1; omega⟩
      case measure => simp [intOf]; omega
    · obtain rfl : j = n := by omega
      go_wp2
      go_ret
      exact ⟨rfl, rfl⟩

/-- How many numbers the rows hold. -/
def tot : List Rw → Int
  | [] => 0
  | r :: R => (r.s.length : Int) + tot R
theorem tot_take_succ {R : List Rw} {i : Nat} {r : Rw} (h : R[i]? = some r) : tot (R.take (i + 1)) = tot (R.take i) + r.s.length := by
  induction R generalizing i with
  | nil => simp at h
  | cons q R ih =>
    cases i with
    | zero => simp at h; subst h; simp [tot]
    | succ i =>
      rw [List.take_succ_cons, List.take_succ_cons, tot, tot, ih (by simpa using h)]
      omega
theorem tot_bound {R : List Rw} (h : ∀ r ∈ R, r.s.length ≤ 1048576) : 0 ≤ tot R ∧ tot R ≤ 1048576 * R.length := by
  induction R with
  | nil => simp [tot]
  | cons q R ih =>
    have := ih (fun r hr => h r (by simp [hr]))
    have := h q (by simp)
    rw [tot, List.length_cons]
    omega
theorem take_bound {R : List Rw} (h : ∀ r ∈ R, r.s.length ≤ 1048576) (hl : R.length ≤ 1048576) (i : Nat) : 0 ≤ tot (R.take i) ∧ tot (R.take i) ≤ 1099511627776 := by
  have h1 := tot_bound (R := R.take i) (fun r hr => h r (List.mem_of_mem_take hr))
  have h2 : (R.take i).length ≤ 1048575 ∨ (R.take i).length = 1048576 := by rw [List.length_take]; omega
  rcases h2 with h2 | h2 <;> omega

/-- What row j holds when the first i rows have been marked. -/
def rowNow (R : List Rw) (k : Int) (i j : Nat) (r : Rw) : List Int := if j < i then marks (k + tot (R.take j)) r.s.length else r.s
/-- Every row as it is now; no two rows in one block. -/
def RowsNow (w : World) (B : Nat) (R : List Rw) (k : Int) (i : Nat) : Prop := ∀ (j : Nat) (r : Rw), R[j]? = some r → w.ownsRow B 3 1 r.val r.s.length (ints (rowNow R k i j r))
/-- Only blocks of the rows have turned. -/
def Touched (R : List Rw) (w w' : World) : Prop := w'.os = w.os ∧ w'.tape = w.tape ∧ w'.output = w.output ∧ w'.heap.size = w.heap.size ∧ ∀ b, (∀ r ∈ R, r.val.ownBlock ≠ some b) → w'.heap[b]? = w.heap[b]?

theorem apart {R : List Rw} (h : R.Pairwise fun r r' => r.val.ownBlock = none ∨ r.val.ownBlock ≠ r'.val.ownBlock) {i j : Nat} {r q : Rw} (hi : R[i]? = some r) (hj : R[j]? = some q) (hne : i ≠ j) : q.val.ownBlock = none ∨ q.val.ownBlock ≠ r.val.ownBlock := by
  have li : i < R.length := by
    rcases Nat.lt_or_ge i R.length with h | h
    · exact h
    · rw [List.getElem?_eq_none h] at hi; cases hi
  have lj : j < R.length := by
    rcases Nat.lt_or_ge j R.length with h | h
    · exact h
    · rw [List.getElem?_eq_none h] at hj; cases hj
  rw [List.getElem?_eq_getElem li] at hi
  rw [List.getElem?_eq_getElem lj] at hj
  injection hi with hi
  injection hj with hj
  rw [List.pairwise_iff_getElem] at h
  rcases Nat.lt_or_ge i j with hlt | hge
  · have := h i j li lj hlt
    rw [hi, hj] at this
    rcases this with e | e
    · rw [e]
      cases q.val.ownBlock <;> simp
    · exact .inr (fun e' => e e'.symm)
  · have := h j i lj li (by omega)
    rw [hi, hj] at this
    exact this

/-- At the head of each round. -/
def MkkRel (B n : Nat) (R : List Rw) (k : Int) (w : World) (v i : Value) (wr : World) : Prop :=
  ∃ j : Nat, j ≤ n ∧ i = .int .i64 j ∧ v = .int .i64 (k + tot (R.take j)) ∧ RowsNow wr B R k j ∧ Touched R w wr
def MkkPost (B n : Nat) (R : List Rw) (k : Int) (w : World) (e : Ending) (w' : World) : Prop :=
  e = .returned (.int .i64 (k + tot R)) ∧ RowsNow w' B R k n ∧ Touched R w w'

/-- One row marked. -/
theorem rows_marked {w w' : World} {B j : Nat} {R : List Rw} {k : Int} {r : Rw} (hp : R.Pairwise fun r r' => r.val.ownBlock = none ∨ r.val.ownBlock ≠ r'.val.ownBlock) (h : RowsNow w B R k j) (hr : R[j]? = some r)
    (ho : w'.ownsRow B 3 1 r.val r.s.length (ints (marks (k + tot (R.take j)) r.s.length))) (hg : w.grownBy w' r.val.ownBlock) : RowsNow w' B R k (j + 1) := by
  intro i q hq
  by_cases e : i = j
  · subst e
    rw [hr] at hq
    injection hq with hq
    subst hq
    unfold rowNow
    rw [if_pos (by omega)]
    exact ho
  · have h1 := (h i q hq).kept hg (apart hp hr hq (fun e' => e e'.symm))
    unfold rowNow at h1 ⊢
    by_cases hi : i < j
    · rw [if_pos hi] at h1; rw [if_pos (by omega)]; exact h1
    · rw [if_neg hi] at h1; rw [if_neg (by omega)]; exact h1
theorem Touched.more {R : List Rw} {w w1 w2 : World} {r : Rw} (h : Touched R w w1) (hr : r ∈ R) (hg : w1.grownBy w2 r.val.ownBlock) (hz : w2.heap.size = w1.heap.size) : Touched R w w2 :=
  ⟨hg.os.trans h.1, hg.tape.trans h.2.1, hg.output.trans h.2.2.1, hz.trans h.2.2.2.1, fun b hb => by
    rcases Nat.lt_or_ge b w1.heap.size with hlt | hge
    · exact (hg.block b hlt (fun e => hb r hr e.symm)).trans (h.2.2.2.2 b hb)
    · rw [Array.getElem?_eq_none (by omega), ← h.2.2.2.2 b hb, Array.getElem?_eq_none hge]⟩

set_option maxHeartbeats 3200000 in
theorem markIntSS_any (B : Nat) (A : Option Addr) (n c : Nat) (R : List Rw) (w : World) (hA : Seen w A (vals R)) (hT : ∃ B', w.ownsRow B' 40 1 (.slice A n c) n (vals R)) (hR : R.length = n) (hn : n ≤ 1048576) (hro : RowsO w B R) (hw : ∀ r ∈ R, r.s.length ≤ 1048576) :
    Calls Try.prog 19 #[.slice A n c, .int .i64 1] w (MkkPost B n R 1 w) := by
  obtain ⟨B', hT⟩ := hT
  have h0 : RowsNow w B R 1 0 := fun j r hr => by
    unfold rowNow
    rw [if_neg (by omega)]
    exact hro.1 r (List.mem_of_getElem? hr)
  have HP := Lib.hid hro.2
  have HR := Lib.hid hR
  have HW := Lib.hid hw
  have HT := Lib.hid hT
  have HTB := Lib.hid (fun i => take_bound hw (by rw [hR]; exact hn) i)
  have HO := Lib.hid (fun (r : Rw) (hr : r ∈ R) => hro.1 r hr)
  clear hA hR hw hT hro
  go_enter Try.func19, Try.ntmps19
  go_wp2
  go_loopw [1, 5] (fun v i wr => MkkRel B n R 1 w v i wr) (fun _ i _ => n - (intOf i).toNat)
  case atStart => exact ⟨0, Nat.zero_le _, rfl, rfl, h0, rfl, rfl, rfl, rfl, fun _ _ => rfl⟩
  case round =>
    obtain ⟨j, hj, rfl, rfl, hnow, ht⟩ := hrel
    obtain ⟨tb0, tb1⟩ := HTB.out j
    by_cases hjn : j < n
    · obtain ⟨g, cap, hv, hgB, hglt⟩ := HT.out.form (by omega)
      injection hv with hA _ hc
      subst hA hc
      obtain ⟨⟨Ar, cr, s⟩, hx⟩ : ∃ r, R[j]? = some r := ⟨_, List.getElem?_eq_getElem (by rw [HR.out]; exact hjn)⟩
      have hmem := List.mem_of_getElem? hx
      have hblk : wr.heap[g]? = w.heap[g]? := ht.2.2.2.2 g (fun r hr e => by
        obtain ⟨cs, hcs⟩ := own_type (HO.out r hr) g e
        obtain ⟨cs', hcs'⟩ := own_type HT.out g rfl
        rw [hcs] at hcs'
        injection hcs' with hcs'
        injection hcs' with _ ht
        exact si_ne ht.symm)
      have g0 : wr.cell? ⟨g, j, none⟩ = some (.slice Ar s.length cr) := (World.cell?_of_block (a := ⟨g, j, none⟩) hblk).trans ((HT.out.cellAt j (by omega)).trans (vals_at hx))
      have hrow := hnow j _ hx
      unfold rowNow at hrow
      rw [if_neg (by omega)] at hrow
      have hsl := HW.out _ hmem
      simp only at hrow hsl
      obtain ⟨q, hq⟩ : ∃ q, s.length = q := ⟨_, rfl⟩
      unfold Rw.val at hrow
      simp only at hrow
      rw [hq] at g0 hrow hsl
      have HQ := Lib.hid hq
      have HX := Lib.hid hx
      have HRW := Lib.hid hrow
      have HNOW := Lib.hid hnow
      have HTC := Lib.hid ht
      obtain ⟨u, hu⟩ : ∃ u, (1 : Int) + tot (R.take j) = u := ⟨_, rfl⟩
      have hts := tot_take_succ hx
      simp only at hts
      rw [hq] at hts
      rw [hu]
      have HU := Lib.hid hu
      have HTS := Lib.hid hts
      have u0 : 0 ≤ u := by omega
      have u1 : u ≤ 1099511627777 := by omega
      clear hq hx hrow hnow ht hmem hu hts hblk tb0 tb1
      go_wp2_with fail
      refine (markIntS_any B Ar q cr s u wr HRW.out HQ.out hsl u0 u1).mono ?_
      rintro e w' ⟨rfl, ho', hg', hz'⟩
      have RR : MkkRel B n R 1 w (.int .i64 (u + q)) (.int .i64 ((j : Int) + 1)) w' := by
        refine ⟨j + 1, by omega, by go_num, ?_, ?_, ?_⟩
        · rw [HTS.out, ← HU.out]; congr 1; omega
        · refine rows_marked HP.out HNOW.out HX.out ?_ ?_
          · unfold Rw.val; simp only; rw [HQ.out, HU.out]; exact ho'
          · unfold Rw.val; simp only; rw [HQ.out]; exact hg'
        · refine HTC.out.more (List.mem_of_getElem? HX.out) ?_ hz'
          unfold Rw.val; simp only; rw [HQ.out]; exact hg'
      clear ho' hg' hz'
      go_wp2
      go_roundw
      case rel => first | exact RR | ((repeat apply Exists.intro); first | exact ⟨RR, rfl⟩ | exact ⟨RR, rfl, rfl⟩ | exact ⟨RR, rfl, rfl, rfl⟩)
      case measure => simp [intOf]; omega
    · obtain rfl : j = n := by omega
      have hfin : tot (R.take j) = tot R := by rw [List.take_of_length_le (by rw [HR.out]; omega)]
      rw [hfin]
      have HN := Lib.hid (And.intro hnow ht)
      clear hfin hnow ht
      go_wp2
      go_ret
      exact ⟨rfl, HN.out.1, HN.out.2⟩

set_option maxHeartbeats 1600000 in
theorem heldIntSS_any (A : Option Addr) (n c : Nat) (R : List Rw) (w : World) (hA : Seen w A (vals R)) (hR : R.length = n) (hn : n ≤ 1048576) (hrow : ∀ (j : Nat) (r : Rw), R[j]? = some r → Seen w r.A (ints (marks (1 + tot (R.take j)) r.s.length))) (hw : ∀ r ∈ R, r.s.length ≤ 1048576) :
    Calls Try.prog 20 #[.slice A n c, .int .i64 1] w fun e w' => e = .returned (.int .i64 (1 + tot R)) ∧ w = w' := by
  have HA := Lib.hid hA
  have HR := Lib.hid hR
  have HW := Lib.hid hw
  have HRW := Lib.hid hrow
  have HTB := Lib.hid (fun i => take_bound hw (by rw [hR]; exact hn) i)
  clear hA hR hw hrow
  go_enter Try.func20, Try.ntmps20
  go_wp2
  go_loop [1, 5] (fun v i => ∃ j : Nat, j ≤ n ∧ i = .int .i64 j ∧ v = .int .i64 (1 + tot (R.take j))) (fun _ i => n - (intOf i).toNat)
  case atStart => exact ⟨0, Nat.zero_le _, rfl, rfl⟩
  case round =>
    obtain ⟨j, hj, rfl, rfl⟩ := hrel
    obtain ⟨tb0, tb1⟩ := HTB.out j
    by_cases hjn : j < n
    · obtain ⟨b, o, hAe, _, hc⟩ := HA.out (by rw [vals_length, HR.out]; omega)
      subst hAe
      obtain ⟨⟨Ar, cr, s⟩, hx⟩ : ∃ r, R[j]? = some r := ⟨_, List.getElem?_eq_getElem (by rw [HR.out]; exact hjn)⟩
      have g0 := hc j _ (vals_at hx)
      have hs := HRW.out j _ hx
      have hsl := HW.out _ (List.mem_of_getElem? hx)
      have hts := tot_take_succ hx
      unfold Rw.val at g0
      simp only at g0 hs hsl hts
      obtain ⟨q, hq⟩ : ∃ q, s.length = q := ⟨_, rfl⟩
      rw [hq] at g0 hs hsl hts
      obtain ⟨u, hu⟩ : ∃ u, (1 : Int) + tot (R.take j) = u := ⟨_, rfl⟩
      rw [hu] at hs ⊢
      have HS := Lib.hid hs
      have HNX := Lib.hid (show (1 : Int) + tot (R.take (j + 1)) = u + q by rw [hts]; omega)
      have u0 : 0 ≤ u := by omega
      have u1 : u ≤ 1099511627777 := by omega
      have hd : decide (u + (q : Int) < 0) = false := by simp; omega
      clear hc hx hs hts hq hu tb0 tb1
      go_wp2_with fail
      refine (heldIntS_any Ar q cr u w HS.out hsl u0 u1).mono ?_
      rintro e w' ⟨rfl, rfl⟩
      go_wp2
      go_round
      case rel => exact ⟨j + 1, by omega, by go_num, by rw [HNX.out]⟩
      case measure => simp [intOf]; omega
    · obtain rfl : j = n := by omega
      have hfin : tot (R.take j) = tot R := by rw [List.take_of_length_le (by rw [HR.out]; omega)]
      rw [hfin]
      clear hfin
      go_wp2
      go_ret
      exact ⟨rfl, rfl⟩

end Go.Proofs.Ytbfblomabjmnmaa
