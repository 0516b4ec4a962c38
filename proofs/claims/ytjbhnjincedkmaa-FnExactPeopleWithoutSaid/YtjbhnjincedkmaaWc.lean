/- Contracts of slices.Clone and slices.Delete at lists of people. -/
import Derived.Test.YtjbhnjincedkmaaSl
import Derived.Deep.RegionWith
import Derived.Deep.RegionHeld3
import Derived.Deep.RegionLaw
import Derived.Lib.SliceRun
namespace Go.Proofs.Ytjbhnjincedkmaa
open Go.RowKit
set_option linter.unusedVariables false

/-- What slices.Clone leaves: a list of one's own. -/
def ClonePost (L : List Pers) (n : Nat) (w : World) (e : Ending) (w' : World) : Prop :=
  ∃ A c, e = .returned (.slice A n c) ∧ w'.ownsRow w.heap.size 36 4 (.slice A n c) n (pcells L) ∧ Below w.heap.size w w'

set_option maxHeartbeats 1600000 in
theorem clone_any (A : Option Addr) (n c : Nat) (L : List Pers) (w : World) (hP : Ppl w A c L) (hn : L.length = n) (hm : n ≤ 1048576) : Calls Try.prog 23 #[.slice A n c] w (ClonePost L n w) := by
  cases A with
  | none =>
    have hc := hP.2.2.2 rfl
    have hl := hP.2.1
    subst hc
    obtain rfl : n = 0 := by omega
    have H0 := Lib.hid (List.eq_nil_of_length_eq_zero hn)
    clear hP hl hn
    have hq : ∀ w : World, (binOp .eql 23 (.slice none 0 0) (.slice none 0 0)).run Try.prog w = .ok (.bool true) w := fun w => Lib.run_eql_slice_nil w 23 36 _ _ _ _ _ Try.underlying23
    go_enter Try.func23, Try.ntmps23
    go_wp2
    go_ret
    exact ⟨none, 0, rfl, by rw [H0.out]; exact World.ownsRow_nil _ _ _ _, Below.refl _ _⟩
  | some ad =>
    have HO := Lib.hid (own_empty w)
    have HP := Lib.hid (hP.below (below_new w (.cells #[] 36)))
    have HN := Lib.hid hn
    have hq : ∀ w : World, (binOp .eql 23 (.slice (some ad) n c) (.slice none 0 0)).run Try.prog w = .ok (.bool false) w := fun w => Lib.run_eql_slice_nil w 23 36 _ _ _ _ _ Try.underlying23
    clear hP hn
    go_enter Try.func23, Try.ntmps23
    go_wp2_with (at_builtin; refine app_many (w := w.alloc (.cells #[] 36)) rfl (.tmp 5) (.tmp 6) rfl w.heap.size (.slice (some ⟨w.heap.size, 0, none⟩) 0 0) [] L (some ad) 0 n c rfl rfl rfl HN.out HO.out HP.out (by omega) (by omega) (by simp) ?_; intro v' w4 ho4 hg4)
    simp only [Nat.zero_add, List.nil_append] at ho4
    obtain ⟨A4, c4, hv4⟩ := own_shape ho4
    subst hv4
    go_ret
    exact ⟨A4, c4, rfl, ho4, (below_new w (.cells #[] 36)).grown hg4 (by simp) (by simp [Value.ownBlock])⟩

theorem cut_all (A : Option Addr) (n c k j : Nat) (hkj : k ≤ j) (hj : j ≤ n) (hc : n ≤ c) : ∃ V, ∀ w, (Instr.slice 23 (.slice A n c) (some (.int .i64 (k : Int))) (some (.int .i64 (j : Int))) (some (.int .i64 (n : Int)))).run Try.prog w = .ok V w := by
  refine ⟨sliced A (k : Int).toNat (j : Int).toNat (n : Int).toNat 4, fun w => ?_⟩
  rw [run_slice_lhm (P := Try.prog) w 23 A n c sP_elem .i64 .i64 .i64 k j n (by omega) (by omega) (by omega) (by omega), sP_size]
  rfl
/-- s[l:h], not nil, not at the end of its array. -/
theorem cut_mid (g n c l h : Nat) (hlh : l < h) (hc : h ≤ c) (w : World) : (Instr.slice 23 (.slice (some ⟨g, 0, none⟩) n c) (some (.int .i64 (l : Int))) (some (.int .i64 (h : Int))) none).run Try.prog w = .ok (.slice (some ⟨g, l * 4, none⟩) (h - l) (c - l)) w := by
  rw [run_slice_lh (P := Try.prog) w 23 _ n c sP_elem .i64 .i64 l h (by omega) (by omega) (by omega), sP_size]
  have e1 : ¬ c = l := by omega
  simp [sliced, Addr.add, e1]
  omega

theorem cut_to_eq (A : Option Addr) (n c k : Nat) (hk : k ≤ n) (hc : n ≤ c) (w : World) : (Instr.slice 23 (.slice A n c) none (some (.int .i64 (k : Int))) none).run Try.prog w = .ok (.slice A k c) w := by
  rw [run_slice_h (P := Try.prog) w 23 A n c sP_elem .i64 k (by omega) (by omega), sP_size]
  simp [sliced]
  intro _
  cases A <;> simp [Addr.add]

/-- append where there is room, onto a list of one's own: one step of a region that draws. -/
theorem step_app_room {ops : Array Oper} {o : Oper} {ac : Act} {K : Act → World → Prop} {Q : Exit → Act → World → Prop} {E : Prop} {w : World} (hgd : o.guard = none) (sl x : Operand)
    (ho : o.op = .call { callee := .builtin .append, args := #[sl, x], argTypes := #[23, 23] }) (g k c m q cm : Nat) (A : Option Addr) (M : List Pers) (cur : Array Value) (hs : ac.eval sl = .slice (some ⟨g, 0, none⟩) k c) (hx : ac.eval x = .slice A m cm)
    (hA : A ≠ none) (hg : w.heap[g]? = some (.cells cur 36 (0, 0))) (hm : M.length = m) (hM : Seen w A (pcells M)) (hroom : k + m ≤ c) (hfit : k * 4 + m * 4 ≤ cur.size) (hq : k + m = q)
    (h : K (ac.put o.dst (.slice (some ⟨g, 0, none⟩) q c)) (w.setRow g (cur.toList.take (k * 4) ++ pcells M ++ cur.toList.drop (k * 4 + m * 4)).toArray)) :
    if Region.wanted o (yielded ops ac.tmps) = true then Oper.wp Try.prog o ac w K Q else E := by
  rw [if_pos (by simp [Region.wanted, hgd])]
  obtain ⟨i0, hi, hz0, hz1, hz2⟩ := info_parts pInfo
  subst hm hq
  rcases A with _ | ad
  · exact absurd rfl hA
  have hl := pcells_length M
  have hrun := run_append_room (P := Try.prog) w 23 o.type 36 i0 Try.underlying23 hi g k c cur hg ad M.length cm (pcells M) (by rw [hz1]; exact hl) (fun j u hu => by
    obtain ⟨b, o', e, _, hx'⟩ := hM (by
      rcases Nat.lt_or_ge j (pcells M).length with h | h
      · omega
      · rw [List.getElem?_eq_none h] at hu; cases hu)
    injection e with e
    subst e
    have hadd : (⟨b, o', none⟩ : Addr).add j = ⟨b, o' + j, none⟩ := by unfold Addr.add; split <;> simp_all
    rw [hadd]
    exact hx' j u hu) (pcells_one_cell M) hroom (by rw [hz1, hl]; exact hfit)
  rw [hz1, hl] at hrun
  unfold Oper.wp
  simp [execOp, ho, resolve, invoke, builtin, hs, hx, hrun, Result.andThen]
  rw [List.append_assoc] at h
  exact h

/-- clear(s), s one person of a list of one's own. -/
theorem run_clear_one (w : World) (ty : TypeId) (g m c : Nat) (cur : Array Value) (hg : w.heap[g]? = some (.cells cur 36 (0, 0))) (hfit : m * 4 + 4 ≤ cur.size) :
    (Builtin.clear_ #[23] ty #[.slice (some ⟨g, m * 4, none⟩) 1 c]).run Try.prog w = .ok (.tuple #[]) (w.setRow g (cur.toList.take (m * 4) ++ pcells [⟨0, 0, 0, 0⟩] ++ cur.toList.drop (m * 4 + 4)).toArray) := by
  have hzc : (Builtin.zeroCells (Value.agg #[.int .i64 0, .int .i64 0, .int .i64 0, .int .i64 0]).cells 1).toList = pcells [⟨0, 0, 0, 0⟩] := by kernel_rfl
  have hst := run_storeCells_at Try.prog g (m * 4) 36 (pcells [⟨0, 0, 0, 0⟩]) 0 cur w hg (by simpa [pcells_length] using hfit) (pcells_one_cell _)
  simp only [Nat.add_zero, pcells_length, List.length_singleton, Nat.one_mul] at hst
  simp [Builtin.clear_, run_underlying Try.underlying23, hzc, hst]

theorem setRow_grown {w : World} {g : Nat} (cs : Array Value) : w.grownBy (w.setRow g cs) (some g) :=
  ⟨rfl, rfl, rfl, by simp, fun k _ hne => setRow_other w g k cs (fun e => hne (by rw [e]))⟩

/-- The cells that a removal leaves: what stood ahead, what stood behind, one empty place, the rest. -/
theorem del_cells {cur : Array Value} {L : List Pers} {n k j m c : Nat} (hn : L.length = n) (hk : k < n) (hj : j = k + 1) (hm : m + 1 = n) (hsz : cur.size = c * 4) (hnc : n ≤ c) (ht : cur.toList.take (n * 4) = pcells L) :
    let c1 := (cur.toList.take (k * 4) ++ pcells (L.drop j) ++ cur.toList.drop (k * 4 + (n - j) * 4)).toArray
    let c2 := (c1.toList.take (m * 4) ++ pcells [⟨0, 0, 0, 0⟩] ++ c1.toList.drop (m * 4 + 4)).toArray
    c1.size = c * 4 ∧ c2.size = c * 4 ∧ c2.toList.take (m * 4) = pcells (L.take k ++ L.drop j) := by
  intro c1 c2
  have l0 : cur.toList.length = c * 4 := by simpa using hsz
  have l1 : (L.drop j).length = n - j := by simp [hn]
  have e1 : c1.size = c * 4 := by
    simp only [c1, List.size_toArray, List.length_append, List.length_take, List.length_drop, pcells_length, l0, l1]
    omega
  have l2 : c1.toList.length = c * 4 := by simpa using e1
  refine ⟨e1, ?_, ?_⟩
  · simp only [c2, List.size_toArray, List.length_append, List.length_take, List.length_drop, pcells_length, l2, List.length_singleton]
    omega
  · have t1 : cur.toList.take (k * 4) = pcells (L.take k) := by
      rw [pcells_take, ← ht, List.take_take]
      congr 1
      omega
    have t2 : c1.toList.take (m * 4) = pcells (L.take k ++ L.drop j) := by
      have q : (pcells (L.take k ++ L.drop j)).length = m * 4 := by
        rw [pcells_length, List.length_append, List.length_take, List.length_drop, hn]
        omega
      show List.take (m * 4) (cur.toList.take (k * 4) ++ pcells (L.drop j) ++ cur.toList.drop (k * 4 + (n - j) * 4)) = _
      rw [t1, ← pcells_append, ← q, List.take_left]
    show List.take (m * 4) (c1.toList.take (m * 4) ++ pcells [⟨0, 0, 0, 0⟩] ++ c1.toList.drop (m * 4 + 4)) = _
    rw [t2, List.append_assoc]
    have q : (pcells (L.take k ++ L.drop j)).length = m * 4 := by
      rw [pcells_length, List.length_append, List.length_take, List.length_drop, hn]
      omega
    rw [← q, List.take_left]

/-- What slices.Delete leaves. -/
def DelPost (B m c : Nat) (A : Option Addr) (M : List Pers) (w : World) (e : Ending) (w' : World) : Prop :=
  e = .returned (.slice A m c) ∧ w'.ownsRow B 36 4 (.slice A m c) m (pcells M) ∧ w.grownBy w' (Value.slice A m c).ownBlock

set_option maxHeartbeats 1600000 in
theorem delete_any (B : Nat) (A : Option Addr) (n c k j m : Nat) (L : List Pers) (w : World) (hown : w.ownsRow B 36 4 (.slice A n c) n (pcells L)) (hn : L.length = n) (hk : k < n) (hj : j = k + 1) (hm : m + 1 = n) (hn' : n ≤ 1048576) :
    Calls Try.prog 22 #[.slice A n c, .int .i64 (k : Int), .int .i64 (j : Int)] w (DelPost B m c A (L.take k ++ L.drop j) w) := by
  rcases hown.2 with ⟨_, h0⟩ | ⟨g, cap, cur, hv, hBg, hheap, hnc, hcm, hsz, htake⟩
  · omega
  injection hv with hA _ hc
  subst hA hc
  unfold maxLen at hcm
  obtain ⟨V, hV⟩ := cut_all (some ⟨g, 0, none⟩) n c k j (by omega) (by omega) hnc
  have q1 := cut_to_eq (some ⟨g, 0, none⟩) n c k (by omega) hnc
  obtain ⟨A2, q2, s2, n2⟩ := cut_from (some ⟨g, 0, none⟩) n c j L hn (by omega) hnc
  have q3 := cut_mid g m c m n (by omega) hnc
  rw [show n - m = 1 by omega] at q3
  obtain ⟨d1, d2, d3⟩ := del_cells hn hk hj hm hsz hnc htake
  have hsw : Seen w (some ⟨g, 0, none⟩) (pcells L) := (ppl_own_n hn hown).1
  have S2 := Lib.hid (show Seen w.drew A2 (pcells (L.drop j)) from s2 w hsw)
  have N2 := Lib.hid (show A2 ≠ none from fun e => by cases n2 e)
  obtain ⟨c1, hc1⟩ : ∃ c1, c1 = (cur.toList.take (k * 4) ++ pcells (L.drop j) ++ cur.toList.drop (k * 4 + (n - j) * 4)).toArray := ⟨_, rfl⟩
  obtain ⟨W1, hW1⟩ : ∃ W1, W1 = w.drew.setRow g c1 := ⟨_, rfl⟩
  rw [← hc1] at d1 d2 d3
  obtain ⟨c2, hc2⟩ : ∃ c2, c2 = (c1.toList.take (m * 4) ++ pcells [⟨0, 0, 0, 0⟩] ++ c1.toList.drop (m * 4 + 4)).toArray := ⟨_, rfl⟩
  rw [← hc2] at d2 d3
  have hw1 : W1.heap[g]? = some (.cells c1 36 (0, 0)) := by rw [hW1]; exact setRow_heap _ g cur c1 _ _ hheap
  have hcl : ∀ ty, (Builtin.clear_ #[23] ty #[.slice (some ⟨g, m * 4, none⟩) 1 (c - m)]).run Try.prog W1 = .ok (.tuple #[]) (W1.setRow g c2) := fun ty => by
    rw [hc2]
    exact run_clear_one W1 ty g m (c - m) c1 hw1 (by omega)
  have HE := Lib.hid (show (W1.setRow g c2).ownsRow B 36 4 (.slice (some ⟨g, 0, none⟩) m c) m (pcells (L.take k ++ L.drop j)) from by
    refine ⟨by rw [pcells_length, List.length_append, List.length_take, List.length_drop, hn]; omega, .inr ⟨g, c, c2, rfl, hBg, setRow_heap _ g c1 c2 _ _ hw1, by omega, by unfold maxLen; omega, d2, d3⟩⟩)
  have hgr : w.grownBy (W1.setRow g c2) (some g) := by
    have a1 : w.grownBy W1 (some g) := by
      rw [hW1]
      exact ⟨rfl, rfl, rfl, by simp, fun k _ hne => setRow_other w.drew g k c1 (fun e => hne (by rw [e]))⟩
    exact a1.trans (setRow_grown c2)
  have HG := Lib.hid hgr
  have HW := Lib.hid hW1
  have HC := Lib.hid hc1
  have HH := Lib.hid (show w.drew.heap[g]? = some (.cells cur 36 (0, 0)) from hheap)
  have HN := Lib.hid (show (L.drop j).length = n - j by simp [hn])
  have HQ := Lib.hid (show k + (n - j) = m by omega)
  have HF := Lib.hid (show k * 4 + (n - j) * 4 ≤ cur.size by omega)
  have HR := Lib.hid (show k + (n - j) ≤ c by omega)
  have hne : ((k : Int) == (j : Int)) = false := by simp; omega
  clear hown hn hj hm hheap hsz htake d1 d2 d3 hsw s2 n2 hc1 hW1 hc2 hw1 hgr
  go_enter Try.func22, Try.ntmps22
  go_wp2_with fail
  go_region_held3 (fun _ => True) (trivial) ((refine step_app_room rfl (.tmp 22) (.tmp 25) rfl g k c (n - j) m (c - j) A2 (L.drop j) cur rfl rfl N2.out HH.out HN.out S2.out HR.out HF.out HQ.out ?_; rw [← HC.out, ← HW.out]))
  go_wp2
  go_ret
  exact ⟨rfl, HE.out, HG.out⟩

end Go.Proofs.Ytjbhnjincedkmaa
