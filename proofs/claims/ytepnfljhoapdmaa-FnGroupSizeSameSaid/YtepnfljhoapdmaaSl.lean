/- Parts of a list of people: list[:k], list[k:]; append(list, more...). -/
import Derived.Test.YtepnfljhoapdmaaPp
import Derived.Test.YtepnfljhoapdmaaPw
namespace Go.Proofs.Ytepnfljhoapdmaa
open Go.RowKit
set_option linter.unusedVariables false

theorem pcells_take (L : List Pers) (k : Nat) : pcells (L.take k) = (pcells L).take (k * 4) := by
  induction L generalizing k with
  | nil => simp [pcells]
  | cons x L ih =>
    cases k with
    | zero => simp [pcells]
    | succ k =>
      rw [List.take_succ_cons, pcells_cons, pcells_cons, ih, show (k + 1) * 4 = k * 4 + 1 + 1 + 1 + 1 by omega]
      simp only [List.cons_append, List.nil_append, List.take_succ_cons]
theorem pcells_drop (L : List Pers) (k : Nat) : pcells (L.drop k) = (pcells L).drop (k * 4) := by
  induction L generalizing k with
  | nil => simp [pcells]
  | cons x L ih =>
    cases k with
    | zero => simp
    | succ k =>
      rw [List.drop_succ_cons, pcells_cons, ih, show (k + 1) * 4 = k * 4 + 1 + 1 + 1 + 1 by omega]
      simp only [List.cons_append, List.nil_append, List.drop_succ_cons]

theorem sP_elem : Try.prog.underlying 23 = some (.slice (Try.prog.elem 23)) := by kernel_rfl
theorem sP_size (w : World) : (sizeOf (Try.prog.elem 23)).run Try.prog w = .ok 4 w := by kernel_rfl

/-- list[:k] -/
theorem cut_to (A : Option Addr) (n c k : Nat) (L : List Pers) (hn : L.length = n) (hk : k ≤ n) (hc : n ≤ c) : ∃ A', (∀ w, (Instr.slice 23 (.slice A n c) none (some (.int .i64 (k : Int))) none).run Try.prog w = .ok (.slice A' k c) w) ∧
    (∀ w, Seen w A (pcells L) → Seen w A' (pcells (L.take k))) ∧ (A' = none → A = none) := by
  refine ⟨A, fun w => ?_, fun w hs h0 => ?_, id⟩
  · rw [run_slice_h (P := Try.prog) w 23 A n c sP_elem .i64 k (by omega) (by omega), sP_size]
    simp [sliced]
    intro _
    cases A <;> simp [Addr.add]
  · rw [pcells_take] at h0 ⊢
    obtain ⟨b, o, e, hlt, hx⟩ := hs (by simp at h0; omega)
    refine ⟨b, o, e, hlt, fun j u hu => hx j u ?_⟩
    rw [List.getElem?_take] at hu
    split at hu
    · exact hu
    · cases hu

/-- list[k:] -/
theorem cut_from (A : Option Addr) (n c k : Nat) (L : List Pers) (hn : L.length = n) (hk : k ≤ n) (hc : n ≤ c) : ∃ A', (∀ w, (Instr.slice 23 (.slice A n c) (some (.int .i64 (k : Int))) none none).run Try.prog w = .ok (.slice A' (n - k) (c - k)) w) ∧
    (∀ w, Seen w A (pcells L) → Seen w A' (pcells (L.drop k))) ∧ (A' = none → A = none) := by
  refine ⟨if c = k then A else A.map (·.add (k * 4)), fun w => ?_, fun w hs h0 => ?_, fun e => by split at e; exact e; cases A with | none => rfl | some a => simp at e⟩
  · rw [run_slice_l (P := Try.prog) w 23 A n c sP_elem .i64 k (by omega) (by omega), sP_size]
    simp [sliced]
  · rw [pcells_drop] at h0 ⊢
    have hl := pcells_length L
    rw [List.length_drop] at h0
    obtain ⟨b, o, rfl, hlt, hx⟩ := hs (by omega)
    rw [if_neg (by omega)]
    refine ⟨b, o + k * 4, ?_, hlt, fun j u hu => ?_⟩
    · simp [Addr.add]
    · rw [List.getElem?_drop] at hu
      rw [Nat.add_assoc]
      exact hx _ u hu

/-- append(out, more...): 'more' nil, empty or not: one operation. -/
theorem wp_app_many {o : Oper} {ac : Act} {K : Act → World → Prop} {Q : Exit → Act → World → Prop} {w : World} (sl x : Operand)
    (ho : o.op = .call { callee := .builtin .append, args := #[sl, x], argTypes := #[23, 23] }) (B : Nat) (v : Value) (L M : List Pers) (A : Option Addr) (n m c : Nat) (hs : ac.eval sl = v) (hx : ac.eval x = .slice A m c)
    (hn : L.length = n) (hm : M.length = m) (hown : w.ownsRow B 31 4 v n (pcells L)) (hM : Ppl w A c M) (hl : n ≤ 1048576) (hl' : m ≤ 1048576) (hB : B ≤ w.heap.size)
    (h : ∀ v' w', w'.ownsRow B 31 4 v' (n + m) (pcells (L ++ M)) → w.grownBy w' v.ownBlock → K (ac.put o.dst v') w') : o.wp Try.prog ac w K Q := by
  subst hn hm
  obtain ⟨i0, hi, hz0, hz1, hz2⟩ := info_parts pInfo
  obtain ⟨hM, hmc, _, hnil⟩ := hM
  rcases A with _ | ad
  · have hc := hnil rfl
    have hM0 : M = [] := List.eq_nil_of_length_eq_zero (by omega)
    subst hc hM0
    have hrun := run_append_owned_none (P := Try.prog) (w := w) B 23 o.type 31 i0 4 Try.underlying23 hi v L.length (pcells L) hown
    unfold Oper.wp
    simp [execOp, ho, resolve, invoke, builtin, hs, hx, hrun, Result.andThen]
    exact h v w (by simpa using hown) (World.grownBy.refl w _)
  · refine wp_append_own w sl x 23 ho B 31 i0 _ 4 32 Try.underlying23 hi hz0 hz1 hz2 rfl (by decide) v L.length (pcells L) hs hown ad M.length c (pcells M) hx (pcells_length M) ?_ (pcells_one_cell M) (by unfold maxLen; omega) (by omega) hB
      (fun v' w' h2 h3 _ => h v' w' (by rw [pcells_append]; exact h2) h3)
    intro j u hu
    obtain ⟨b, o', e, _, hx'⟩ := hM (by
      rcases Nat.lt_or_ge j (pcells M).length with h | h
      · omega
      · rw [List.getElem?_eq_none h] at hu; cases hu)
    injection e with e
    subst e
    have hadd : (⟨b, o', none⟩ : Addr).add j = ⟨b, o' + j, none⟩ := by unfold Addr.add; split <;> simp_all
    rw [hadd]
    exact hx' j u hu

/-- The same in a list of operations, guarded or not. -/
theorem app_many {ops : Array Oper} {rest : List Oper} {o : Oper} {ac : Act} {Q : Exit → Act → World → Prop} {w : World} (hw : Region.wanted o (yielded ops ac.tmps) = true) (sl x : Operand)
    (ho : o.op = .call { callee := .builtin .append, args := #[sl, x], argTypes := #[23, 23] }) (B : Nat) (v : Value) (L M : List Pers) (A : Option Addr) (n m c : Nat) (hs : ac.eval sl = v) (hx : ac.eval x = .slice A m c)
    (hn : L.length = n) (hm : M.length = m) (hown : w.ownsRow B 31 4 v n (pcells L)) (hM : Ppl w A c M) (hl : n ≤ 1048576) (hl' : m ≤ 1048576) (hB : B ≤ w.heap.size)
    (h : ∀ v' w', w'.ownsRow B 31 4 v' (n + m) (pcells (L ++ M)) → w.grownBy w' v.ownBlock → wpList Try.prog ops Q rest (ac.put o.dst v') w') :
    wpList Try.prog ops Q (o :: rest) ac w :=
  BigFrame.wpList_want hw fun K hK => wp_app_many sl x ho B v L M A n m c hs hx hn hm hown hM hl hl' hB fun v' w' h2 h3 => hK _ _ (h v' w' h2 h3)

/-- The same in a region that draws its order. -/
theorem step_app_many {ops : Array Oper} {o : Oper} {ac : Act} {K : Act → World → Prop} {Q : Exit → Act → World → Prop} {E : Prop} {w : World} (hgd : o.guard = none) (sl x : Operand)
    (ho : o.op = .call { callee := .builtin .append, args := #[sl, x], argTypes := #[23, 23] }) (B : Nat) (v : Value) (L M : List Pers) (A : Option Addr) (n m c : Nat) (hs : ac.eval sl = v) (hx : ac.eval x = .slice A m c)
    (hn : L.length = n) (hm : M.length = m) (hown : w.ownsRow B 31 4 v n (pcells L)) (hM : Ppl w A c M) (hl : n ≤ 1048576) (hl' : m ≤ 1048576) (hB : B ≤ w.heap.size)
    (h : ∀ v' w', w'.ownsRow B 31 4 v' (n + m) (pcells (L ++ M)) → w.grownBy w' v.ownBlock → K (ac.put o.dst v') w') :
    if Region.wanted o (yielded ops ac.tmps) = true then Oper.wp Try.prog o ac w K Q else E := by
  rw [if_pos (by simp [Region.wanted, hgd])]
  exact wp_app_many sl x ho B v L M A n m c hs hx hn hm hown hM hl hl' hB h

theorem own_shape {w : World} {B n : Nat} {v : Value} {xs : List Value} {e : TypeId} {sz : Nat} (h : w.ownsRow B e sz v n xs) : ∃ A c, v = .slice A n c := by
  rcases h.2 with ⟨hv, hn⟩ | ⟨g, cap, cur, hv, _⟩
  · exact ⟨none, 0, by rw [hv, hn]⟩
  · exact ⟨_, _, hv⟩
theorem ppl_own_n {w : World} {B c n : Nat} {A : Option Addr} {L : List Pers} (hn : L.length = n) (h : w.ownsRow B 31 4 (.slice A n c) n (pcells L)) : Ppl w A c L := by subst hn; exact ppl_own h
/-- An empty list made anew. -/
theorem own_empty (w : World) : (w.alloc (.cells #[] 31)).ownsRow w.heap.size 31 4 (.slice (some ⟨w.heap.size, 0, none⟩) 0 0) 0 (pcells []) :=
  World.ownsRow_lit w #[] 0 (Nat.le_refl _) (by unfold maxLen; omega) rfl

theorem peopleValid_n (A : Option Addr) (n c : Nat) (L : List Pers) (w : World) (hA : Seen w A (pcells L)) (hn : L.length = n) (hm : n ≤ 1099511627776) :
    Calls Try.prog 40 #[.slice A n c] w fun e w' => e = .returned (.bool (peopleB L)) ∧ Below w.heap.size w w' := by
  subst hn; exact peopleValid_any A c L w hA hm
theorem sPeopleValid_n (A : Option Addr) (n c : Nat) (L : List Pers) (w : World) (hA : Seen w A (pcells L)) (hn : L.length = n) (hm : n ≤ 1099511627776) :
    Calls Try.prog 55 #[.slice A n c] w fun e w' => e = .returned (.bool (peopleB L)) ∧ Below w.heap.size w w' := by
  subst hn; exact sPeopleValid_any A c L w hA hm

end Go.Proofs.Ytepnfljhoapdmaa
