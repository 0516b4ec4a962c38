/- Contracts of the program's GroupSize, GroupLeast. -/
import Derived.Test.YtepnfljhoapdmaaGi
import Derived.Test.YtepnfljhoapdmaaGr
import Derived.Laws.IdiomRangeMap
import Derived.Maps.RangeRun
import Derived.Deep.DeepCutAuto
import Derived.LoopTactic
namespace Go.Proofs.Ytepnfljhoapdmaa
open Go.RowKit
open Go.ChangeMaps (setBlock)
set_option linter.unusedVariables false

theorem mem_of_ents {G : Grps} {i : Nat} {e : MapEntry} (h : e ∈ ents G i) : ∃ y n, (y, n) ∈ G ∧ e.val = .int .i64 n := by
  induction G generalizing i with
  | nil => simp [ents] at h
  | cons p G ih =>
    obtain ⟨y, n⟩ := p
    rw [ents] at h
    rcases List.mem_cons.1 h with rfl | h
    · exact ⟨y, n, by simp, rfl⟩
    · obtain ⟨z, m, h1, h2⟩ := ih h
      exact ⟨z, m, by simp [h1], h2⟩
theorem ents_of_mem {G : Grps} {y : Pers} {n : Int} (i : Nat) (h : (y, n) ∈ G) : ∃ e ∈ ents G i, e.val = .int .i64 n := by
  induction G generalizing i with
  | nil => simp at h
  | cons p G ih =>
    obtain ⟨z, m⟩ := p
    rw [ents]
    rcases List.mem_cons.1 h with h | h
    · injection h with h1 h2
      subst h1 h2
      exact ⟨⟨keyV y, .int .i64 n, i⟩, by simp, rfl⟩
    · obtain ⟨e, h1, h2⟩ := ih (i + 1) h
      exact ⟨e, by simp [h1], h2⟩
theorem ents_stamp (G : Grps) : (∀ x ∈ (ents G 0).toArray.toList, x.born < G.length) ∧ ((ents G 0).toArray.toList.map (·.born)).Nodup := by
  refine ⟨fun x hx => ?_, ?_⟩
  · have h1 : x.born ∈ (ents G 0).map (·.born) := List.mem_map_of_mem (by simpa using hx)
    rw [ents_born, List.mem_range'_1] at h1
    omega
  · show ((ents G 0).map (·.born)).Nodup
    rw [ents_born]
    exact List.nodup_range'

/-- q is the least of n and of what has been seen. -/
def MinAt (n : Nat) (es : List MapEntry) (seen : Array Nat) (q : Int) : Prop := q ≤ n ∧ (∀ e ∈ es, seen.contains e.born = true → q ≤ valOf e.val) ∧ (q = n ∨ ∃ e ∈ es, q = valOf e.val)
theorem minAt_start (n : Nat) (es : List MapEntry) : MinAt n es #[] n := ⟨Int.le_refl _, fun e _ h => by simp at h, .inl rfl⟩
theorem minAt_step {n : Nat} {es : List MapEntry} {seen : Array Nat} {q z : Int} {e : MapEntry} (hn : (es.map (·.born)).Nodup) (h : MinAt n es seen q) (he : e ∈ es) (hz : valOf e.val = z) : MinAt n es (seen.push e.born) (if z < q then z else q) := by
  obtain ⟨h1, h2, h3⟩ := h
  refine ⟨by split <;> omega, fun x hx hs => ?_, ?_⟩
  · rw [contains_push, Bool.or_eq_true] at hs
    rcases hs with hs | hs
    · have := h2 x hx hs; split <;> omega
    · have : x = e := born_inj hn hx he (by simpa using hs)
      rw [this, hz]; split <;> omega
  · by_cases hlt : z < q
    · rw [if_pos hlt]; exact .inr ⟨e, he, hz.symm⟩
    · rw [if_neg hlt]; exact h3
theorem minAt_least {M : List Pers} {seen : Array Nat} {q : Int} (h : MinAt M.length (ents (groups M) 0) seen q) (hall : ∀ x ∈ ents (groups M) 0, seen.contains x.born = true) : q = lowG M := by
  obtain ⟨h1, h2, h3⟩ := h
  refine IsLeast.uniq (M := M) ⟨h1, fun x hx => ?_, ?_⟩ (lowG_least M)
  · obtain ⟨e, he, hv⟩ := ents_of_mem 0 (groups_at hx)
    have := h2 e he (hall e he)
    rw [hv] at this
    exact this
  · rcases h3 with e | ⟨x, hx, e⟩
    · exact .inl e
    · obtain ⟨y, n, hm, hv⟩ := mem_of_ents hx
      obtain ⟨z, hz, hn⟩ := groups_of hm
      rw [hv] at e
      exact .inr ⟨z, hz, by rw [e, hn]; rfl⟩

/-- Block r is an iterator over block B. -/
def IterAt (w : World) (r B clock : Nat) (seen : Array Nat) : Prop := w.heap[r]? = some (.mapIter (some B) clock seen clock)
theorem iterSeen_at {w : World} {r B clock : Nat} {seen : Array Nat} (h : IterAt w r B clock seen) : w.iterSeen r = seen := by
  unfold IterAt at h
  unfold World.iterSeen
  rw [h]
/-- A step of the iterator: what it leaves. -/
theorem iter_step {w0 wr w1 : World} {r B clock : Nat} {seen : Array Nat} {G : Grps} (k : Nat) (hi : IterAt wr r B clock seen) (hG : GMap wr B G) (hb : Below w0.heap.size w0 wr) (hr : w0.heap.size ≤ r) (hw : w1 = wr ∨ w1 = wr.drew) :
    IterAt (setBlock w1 r (.mapIter (some B) clock (seen.push k) clock)) r B clock (seen.push k) ∧ GMap (setBlock w1 r (.mapIter (some B) clock (seen.push k) clock)) B G ∧ Below w0.heap.size w0 (setBlock w1 r (.mapIter (some B) clock (seen.push k) clock)) := by
  have e1 : w1.heap = wr.heap := by rcases hw with rfl | rfl <;> rfl
  have hb1 : Below w0.heap.size w0 w1 := by
    rcases hw with rfl | rfl
    · exact hb
    · exact hb.drew
  unfold IterAt at hi
  have hlt : r < wr.heap.size := (Array.getElem?_eq_some_iff.1 hi).1
  have hne : r ≠ B := fun e => by
    subst e
    unfold GMap at hG
    rw [hi] at hG
    cases hG
  refine ⟨?_, ?_, ?_⟩
  · unfold IterAt setBlock
    simp [e1, hlt]
  · unfold GMap setBlock at *
    simp only
    rw [e1, Array.getElem?_setIfInBounds_ne hne, hG]
  · exact ⟨hb1.os, hb1.tape, hb1.output, by simp [setBlock]; exact hb1.size, fun i hi' => by unfold setBlock; simp only; rw [Array.getElem?_setIfInBounds_ne (by omega)]; exact hb1.block i hi'⟩

def LstRel (M : List Pers) (w : World) (r B : Nat) (v : Value) (wr : World) : Prop :=
  ∃ (seen : Array Nat) (q : Int), v = .int .i64 q ∧ Hid (MinAt M.length (ents (groups M) 0) seen q) ∧ IterAt wr r B (groups M).length seen ∧ GMap wr B (groups M) ∧ Below w.heap.size w wr

set_option maxRecDepth 100000 in
set_option maxHeartbeats 3200000 in
theorem groupLeast_any (A : Option Addr) (n c : Nat) (L : List Pers) (A' : Option Addr) (m c' : Nat) (R : List Rw) (a j s : Int) (w : World) (hP : Seen w A (pcells L)) (hn : L.length = n) (hnm : n ≤ 1099511627776)
    (hA : LadS w A' R) (hR : R.length = m) (hm : m ≤ 1099511627776) (hr : ∀ r ∈ R, r.s.length ≤ 1099511627776) :
    Calls Try.prog 11 #[.slice A n c, .slice A' m c', .agg #[.int .i64 a, .int .i64 j, .int .i64 s]] w fun e w' => e = .returned (.int .i64 (leastG L (ss R) ⟨a, j, s⟩)) ∧ Below w.heap.size w w' := by
  have b0 := below_new w (.cells #[.int .i64 a, .int .i64 j, .int .i64 s] 26)
  have HP := Lib.hid (hP.below b0)
  have HA := Lib.hid (hA.below b0)
  have HB := Lib.hid b0
  have HN := Lib.hid hn
  have HR := Lib.hid hR
  have HW := Lib.hid hr
  clear hP hA b0 hn hR hr
  cases h2 : rpOk L (ss R) ⟨a, j, s⟩
  · rw [leastG_no h2]
    go_enter Try.func11, Try.ntmps11
    go_wp2_with fail
    refine (recodePeople_any _ _ _ L _ _ _ R _ _ _ _ HP.out HN.out hnm HA.out HR.out hm HW.out).mono ?_
    rintro e w1 ⟨A1, m1, c1, rfl, _, _, hb1⟩
    rw [h2]
    go_wp2
    go_ret
    exact ⟨rfl, below2 HB.out hb1⟩
  · rw [leastG_yes h2]
    have h40 : n ≤ 40 := by rw [← HN.out]; exact rp_len h2
    have HL1 := Lib.hid (recL_length h2)
    obtain ⟨M, hM⟩ : ∃ M, recL L (ss R) ⟨a, j, s⟩ = M := ⟨_, rfl⟩
    go_enter Try.func11, Try.ntmps11
    go_wp2_with fail
    refine (recodePeople_any _ _ _ L _ _ _ R _ _ _ _ HP.out HN.out hnm HA.out HR.out hm HW.out).mono ?_
    rintro e w1 ⟨A1, m1, c1, rfl, hm1, hP1, hb1⟩
    rw [h2]
    have hm1' : m1 ≤ 40 := by rw [← hm1, HL1.out, HN.out]; exact h40
    rw [hM] at hm1 hP1
    have HME := Lib.hid hM
    have HM1 := Lib.hid hm1
    clear hm1 hM
    by_cases h0 : m1 = 0
    · have e0 : ((m1 : Int) == 0) = true := by simp; omega
      have HV := Lib.hid (show (0 : Int) = lowG M by
        have h := HM1.out
        rw [h0] at h
        rw [List.eq_nil_of_length_eq_zero h]
        rfl)
      go_wp2
      go_ret
      exact ⟨ret_int (by rw [HME.out]; exact HV.out), below2 HB.out hb1⟩
    have e0 : ((m1 : Int) == 0) = false := by simp; omega
    go_wp2_with fail
    refine (groupsOf_any _ _ _ M _ hP1.1 HM1.out (by omega)).mono ?_
    rintro e w2 ⟨B, rfl, hG, hb2⟩
    have hrg := run_range_map (P := Try.prog) w2 53 31 3 B _ _ mP hG
    have hi0 : IterAt (w2.alloc (.mapIter (some B) (groups M).length #[] (groups M).length)) w2.heap.size B (groups M).length #[] := heap_alloc_new w2 _
    have hG0 : GMap (w2.alloc (.mapIter (some B) (groups M).length #[] (groups M).length)) B (groups M) := hG.below (below_new w2 _)
    have hb0 : Below w.heap.size w (w2.alloc (.mapIter (some B) (groups M).length #[] (groups M).length)) := below2 (below2 HB.out (below2 hb1 hb2)) (below_new w2 _)
    have R0 : LstRel M w w2.heap.size B (.int .i64 (m1 : Int)) (w2.alloc (.mapIter (some B) (groups M).length #[] (groups M).length)) := ⟨#[], _, rfl, by unfold Hid; rw [HM1.out]; exact minAt_start _ _, hi0, hG0, hb0⟩
    have hr0 : w.heap.size ≤ w2.heap.size := Nat.le_trans HB.out.size (Nat.le_trans hb1.size hb2.size)
    have HR0 := Lib.hid R0
    have HRR := Lib.hid hr0
    obtain ⟨r, hr⟩ : ∃ r, w2.heap.size = r := ⟨_, rfl⟩
    rw [hr] at HR0 HRR hrg
    have HRE := Lib.hid hr
    clear hi0 hG0 hb0 R0 hr0 hG hb1 hb2 hr hP1
    go_wp2
    go_loopw [9] (fun v wr => LstRel M w r B v wr) (fun _ wr => (leftOf (ents (groups M) 0).toArray (wr.iterSeen r)).size)
    case atStart => exact HR0.out
    case round =>
      obtain ⟨seen, q, rfl, hq, hi, hG, hb⟩ := hrel
      obtain ⟨st1, st2⟩ := ents_stamp (groups M)
      rcases run_next_at (P := Try.prog) wr 0 r B (groups M).length (groups M).length seen _ _ hi hG st1 (Nat.le_refl _) with ⟨h0', hrun⟩ | ⟨e, he, w3, hw3, hrun⟩
      · have hnx : ∀ ty, (Instr.next (.pointer (some ⟨r, 0, none⟩)) false ty).run Try.prog wr = _ := fun _ => hrun
        have HF := Lib.hid (minAt_least hq.out (fun x hx => all_seen _ _ h0' x (by simpa using hx)))
        have HB9 := Lib.hid hb
        clear hq hi hG hb hrg st1 st2 hrun
        go_wp2
        go_ret
        exact ⟨ret_int (by rw [HME.out]; exact HF.out), HB9.out⟩
      · have heM : e ∈ ents (groups M) 0 := by simpa using (mem_left he).1
        obtain ⟨y, z, _, hval⟩ := mem_of_ents heM
        have hs := iter_step e.born hi hG hb HRR.out hw3
        have hsh := left_shrinks _ seen e he
        have hst := minAt_step (z := z) (by simpa using st2) hq.out heM (by rw [hval]; rfl)
        obtain ⟨u, hu⟩ : ∃ u, (if z < q then z else q) = u := ⟨_, rfl⟩
        rw [hu] at hst
        rw [hval] at hrun
        obtain ⟨w4, hw4⟩ : ∃ w4, setBlock w3 r (.mapIter (some B) (groups M).length (seen.push e.born) (groups M).length) = w4 := ⟨_, rfl⟩
        rw [hw4] at hs hrun
        have hen := run_entry_at (P := Try.prog) w4 r B (groups M).length seen _ _ e hs.1 hs.2.1 (mem_left he).1 st2
        rw [hval] at hen
        have hnx : ∀ ty, (Instr.next (.pointer (some ⟨r, 0, none⟩)) false ty).run Try.prog wr = _ := fun _ => hrun
        have RR : LstRel M w r B (.int .i64 u) w4 := ⟨_, u, rfl, hst, hs⟩
        have HRR4 := Lib.hid RR
        have HSH := Lib.hid (show (leftOf (ents (groups M) 0).toArray (w4.iterSeen r)).size < (leftOf (ents (groups M) 0).toArray (wr.iterSeen r)).size by rw [iterSeen_at hs.1, iterSeen_at hi]; exact hsh)
        clear hq hi hG hb hrg st1 st2 hrun hs hsh hst RR hw4 hw3 he heM hval
        go_wp2
        have RR := HRR4.out
        go_roundw
        case rel => first | exact RR | ((repeat apply Exists.intro); first | exact ⟨RR, rfl⟩ | exact ⟨RR, rfl, rfl⟩ | exact ⟨RR, rfl, rfl, rfl⟩)
        case measure => exact HSH.out

end Go.Proofs.Ytepnfljhoapdmaa
