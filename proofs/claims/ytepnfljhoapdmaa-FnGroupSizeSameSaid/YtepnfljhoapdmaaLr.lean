/- Words for rows of numbers in memory, and for slices of rows; append on them. No conditions. -/
import Derived.Test.YtepnfljhoapdmaaMa
import Derived.Test.YtepnfljhoapdmaaLa
import Derived.Maps.AppendAt
import Derived.Deep.AppendLies
namespace Go.Proofs.Ytepnfljhoapdmaa
open Go.RowKit
set_option linter.unusedVariables false

theorem iInfo : (Try.prog.info? 3).map (fun i => (i.zero, i.size, i.bytes)) = some (some (.int .i64 0), 1, 8) := by kernel_rfl
theorem siInfo : (Try.prog.info? 57).map (fun i => (i.zero, i.size, i.bytes)) = some (some (.slice none 0 0), 1, 24) := by kernel_rfl

theorem below_dr {B : Nat} {w w' : World} (h : Below B w w') (k : Nat) : Below B w (w'.drewN k) := ⟨h.os, h.tape, h.output, h.size, h.block⟩

def ints (s : List Int) : List Value := s.map (Value.int .i64)
theorem ints_length (s : List Int) : (ints s).length = s.length := by simp [ints]
theorem ints_get {s : List Int} {j : Nat} {x : Int} (h : s[j]? = some x) : (ints s)[j]? = some (.int .i64 x) := by simp [ints, h]
theorem ints_append (s t : List Int) : ints (s ++ t) = ints s ++ ints t := by simp [ints]
theorem ints_one (s : List Int) : ∀ u ∈ ints s, u.oneCell' = true := by
  intro u hu
  simp only [ints, List.mem_map] at hu
  obtain ⟨x, _, rfl⟩ := hu
  rfl

/-- A row: where it lies, its capacity, its numbers. -/
structure Rw where
  A : Option Addr
  c : Nat
  s : List Int
def Rw.val (r : Rw) : Value := .slice r.A r.s.length r.c
def vals (R : List Rw) : List Value := R.map Rw.val
def ss (R : List Rw) : List (List Int) := R.map (fun r => r.s)
theorem vals_length (R : List Rw) : (vals R).length = R.length := by simp [vals]
theorem ss_length (R : List Rw) : (ss R).length = R.length := by simp [ss]
theorem vals_at {R : List Rw} {j : Nat} {r : Rw} (h : R[j]? = some r) : (vals R)[j]? = some r.val := by simp [vals, h]
theorem ss_at {R : List Rw} {j : Nat} {r : Rw} (h : R[j]? = some r) : (ss R)[j]? = some r.s := by simp [ss, h]
theorem vals_append (R S : List Rw) : vals (R ++ S) = vals R ++ vals S := by simp [vals]
theorem ss_append (R S : List Rw) : ss (R ++ S) = ss R ++ ss S := by simp [ss]
theorem ss_take (R : List Rw) (k : Nat) : ss (R.take k) = (ss R).take k := by simp [ss]
theorem vals_take (R : List Rw) (k : Nat) : vals (R.take k) = (vals R).take k := by simp [vals]
theorem vals_one (R : List Rw) : ∀ u ∈ vals R, u.oneCell' = true := by
  intro u hu
  simp only [vals, List.mem_map] at hu
  obtain ⟨x, _, rfl⟩ := hu
  rfl

/-- Cells of one kind are seen: none, or from an address on. -/
theorem seen_any {w : World} {A : Option Addr} {xs : List Value} (h : Seen w A xs) : xs = [] ∨ ∃ b o, A = some ⟨b, o, none⟩ ∧ b < w.heap.size ∧ ∀ j u, xs[j]? = some u → w.cell? ⟨b, o + j, none⟩ = some u := by
  rcases xs with _ | ⟨x, L⟩
  · exact .inl rfl
  · exact .inr (h (by simp))
theorem seen_take {w : World} {A : Option Addr} {xs : List Value} (h : Seen w A xs) (k : Nat) : Seen w A (xs.take k) := fun h0 => by
  rw [List.length_take] at h0
  obtain ⟨b, o, e, hlt, hx⟩ := h (by omega)
  refine ⟨b, o, e, hlt, fun j u hu => hx j u ?_⟩
  rw [List.getElem?_take] at hu
  split at hu
  · exact hu
  · cases hu
theorem seen_own {w : World} {B c n : Nat} {e : TypeId} {A : Option Addr} {xs : List Value} (h : w.ownsRow B e 1 (.slice A n c) n xs) : Seen w A xs := fun h0 => by
  have hl := h.1
  obtain ⟨g, cap, hv, _, hlt⟩ := h.form (by omega)
  injection hv with hA _ hc
  subst hA hc
  refine ⟨g, 0, rfl, hlt, fun j u hu => ?_⟩
  have hj : j < n * 1 := by
    rw [← hl]
    rcases Nat.lt_or_ge j xs.length with h | h
    · exact h
    · rw [List.getElem?_eq_none h] at hu; cases hu
  rw [Nat.zero_add, h.cellAt j hj]
  exact hu
theorem own_cap {w : World} {B c n : Nat} {e : TypeId} {sz : Nat} {A : Option Addr} {xs : List Value} (h : w.ownsRow B e sz (.slice A n c) n xs) : n ≤ c ∧ c ≤ 9223372036854775807 ∧ (A = none → c = 0) := by
  rcases h.2 with ⟨hv, hn⟩ | ⟨g, cap, cur, hv, _, _, hnc, hcm, _⟩
  · injection hv with _ _ hc
    exact ⟨by omega, by omega, fun _ => hc⟩
  · injection hv with hA _ hc
    unfold maxLen at hcm
    exact ⟨by omega, by omega, fun e => by rw [hA] at e; cases e⟩
theorem own_type {w : World} {B n : Nat} {e : TypeId} {sz : Nat} {v : Value} {xs : List Value} (h : w.ownsRow B e sz v n xs) : ∀ g, v.ownBlock = some g → ∃ cs, w.heap[g]? = some (.cells cs e (0, 0)) := by
  intro g hg
  rcases h.2 with ⟨rfl, hn⟩ | ⟨g', cap, cur, rfl, _, hh, _⟩
  · simp [Value.ownBlock] at hg
  · simp [Value.ownBlock] at hg
    subst hg
    exact ⟨cur, hh⟩
theorem own_form {w : World} {B n : Nat} {v : Value} {xs : List Value} {e : TypeId} {sz : Nat} (h : w.ownsRow B e sz v n xs) : ∃ A c, v = .slice A n c := by
  rcases h.2 with ⟨hv, hn⟩ | ⟨g, cap, cur, hv, _⟩
  · exact ⟨none, 0, by rw [hv, hn]⟩
  · exact ⟨_, _, hv⟩

/-- Numbers that lie in a block of numbers. -/
def IntsT (w : World) (A : Option Addr) (s : List Int) : Prop :=
  0 < s.length → ∃ b o cs fr, A = some ⟨b, o, none⟩ ∧ w.heap[b]? = some (.cells cs 3 fr) ∧ ∀ (j : Nat) (x : Int), s[j]? = some x → cs[o + j]? = some (.int .i64 x)
theorem heap_lt {w : World} {b : Nat} {o : Obj} (h : w.heap[b]? = some o) : b < w.heap.size := by
  rcases Nat.lt_or_ge b w.heap.size with hlt | hge
  · exact hlt
  · rw [Array.getElem?_eq_none hge] at h; cases h
section
variable {w w' : World} {A : Option Addr} {s : List Int}
theorem IntsT.keep (h : IntsT w A s) (hk : ∀ (b : Nat) (cs : Array Value) (fr : Nat × Nat), w.heap[b]? = some (Obj.cells cs 3 fr) → w'.heap[b]? = w.heap[b]?) : IntsT w' A s := fun h0 => by
  obtain ⟨b, o, cs, fr, e, hb, hx⟩ := h h0
  exact ⟨b, o, cs, fr, e, (hk b cs fr hb).trans hb, hx⟩
theorem IntsT.below (h : IntsT w A s) (hb : Below w.heap.size w w') : IntsT w' A s := h.keep fun b cs fr hh => hb.block b (heap_lt hh)
theorem IntsT.grown {row : Option Nat} (h : IntsT w A s) (hg : w.grownBy w' row) (hr : ∀ g, row = some g → ∃ cs t fr, w.heap[g]? = some (.cells cs t fr) ∧ t ≠ 3) : IntsT w' A s :=
  h.keep fun b cs fr hh => hg.block b (heap_lt hh) fun e => by
    obtain ⟨cs', t, fr', h', hne⟩ := hr b e.symm
    rw [hh] at h'
    injection h' with h'
    injection h' with _ ht
    exact hne ht.symm
theorem IntsT.seen (h : IntsT w A s) : Seen w A (ints s) := fun h0 => by
  obtain ⟨b, o, cs, fr, e, hb, hx⟩ := h (by rwa [ints_length] at h0)
  refine ⟨b, o, e, heap_lt hb, fun j u hu => ?_⟩
  rw [cell_of_row w b (o + j) cs _ _ hb]
  simp only [ints, List.getElem?_map, Option.map_eq_some_iff] at hu
  obtain ⟨x, hj, rfl⟩ := hu
  exact hx j x hj
theorem intsT_own {B c n : Nat} (hn : s.length = n) (h : w.ownsRow B 3 1 (.slice A n c) n (ints s)) : IntsT w A s := fun h0 => by
  rcases h.2 with ⟨hv, h00⟩ | ⟨g, cap, cur, hv, _, hh, hnc, _, hsz, htk⟩
  · omega
  · injection hv with hA _ _
    refine ⟨g, 0, cur, _, hA, hh, fun j x hj => ?_⟩
    have hj' := ints_get hj
    rw [← htk, List.getElem?_take] at hj'
    split at hj'
    · rw [Nat.zero_add]; simpa using hj'
    · cases hj'
theorem intsT_new (w : World) (s : List Int) : IntsT (w.alloc (.cells (ints s).toArray 3)) (some ⟨w.heap.size, 0, none⟩) s := fun _ =>
  ⟨w.heap.size, 0, _, _, rfl, heap_alloc_new w _, fun j x hj => by rw [Nat.zero_add]; simpa using ints_get hj⟩
end

/-- A slice of rows: seen; typed. -/
def LadS (w : World) (A : Option Addr) (R : List Rw) : Prop := Seen w A (vals R) ∧ ∀ r ∈ R, Seen w r.A (ints r.s)
def LadT (w : World) (A : Option Addr) (R : List Rw) : Prop := Seen w A (vals R) ∧ ∀ r ∈ R, IntsT w r.A r.s
section
variable {w w' : World} {A : Option Addr} {R : List Rw}
theorem LadS.below (h : LadS w A R) (hb : Below w.heap.size w w') : LadS w' A R := ⟨h.1.below hb, fun r hr => (h.2 r hr).below hb⟩
theorem LadT.below (h : LadT w A R) (hb : Below w.heap.size w w') : LadT w' A R := ⟨h.1.below hb, fun r hr => (h.2 r hr).below hb⟩
theorem LadT.s (h : LadT w A R) : LadS w A R := ⟨h.1, fun r hr => (h.2 r hr).seen⟩
theorem LadT.take (h : LadT w A R) (k : Nat) : LadT w A (R.take k) := ⟨by rw [vals_take]; exact seen_take h.1 k, fun r hr => h.2 r (List.mem_of_mem_take hr)⟩
end
/-- The same with what is known of the capacity. -/
def Lad (w : World) (A : Option Addr) (c : Nat) (R : List Rw) : Prop := LadT w A R ∧ R.length ≤ c ∧ c ≤ 9223372036854775807 ∧ (A = none → c = 0)
theorem Lad.below {w w' : World} {A : Option Addr} {c : Nat} {R : List Rw} (h : Lad w A c R) (hb : Below w.heap.size w w') : Lad w' A c R := ⟨h.1.below hb, h.2⟩
theorem Lad.s {w : World} {A : Option Addr} {c : Nat} {R : List Rw} (h : Lad w A c R) : LadS w A R := h.1.s

/-- A slice of rows of one's own: the outer cells are owned, the rows are typed. -/
def LadO (w : World) (B : Nat) (v : Value) (n : Nat) (R : List Rw) : Prop := w.ownsRow B 57 1 v n (vals R) ∧ ∀ r ∈ R, IntsT w r.A r.s
theorem si_ne : 57 ≠ 3 := by decide
section
variable {w w' : World} {B n : Nat} {v v' : Value} {R S : List Rw}
theorem LadO.below (h : LadO w B v n R) (hb : Below w.heap.size w w') : LadO w' B v n R :=
  ⟨h.1.kept (row := none) ⟨hb.os, hb.tape, hb.output, hb.size, fun k hk _ => hb.block k hk⟩ (by cases hv : v.ownBlock with | none => exact .inl rfl | some g => exact .inr (by simp)), fun r hr => (h.2 r hr).below hb⟩
theorem LadO.lad {A : Option Addr} {c : Nat} (h : LadO w B (.slice A n c) n R) (hn : R.length = n) : Lad w A c R := by
  obtain ⟨h1, h2, h3⟩ := own_cap h.1
  exact ⟨⟨seen_own h.1, h.2⟩, by omega, h2, h3⟩
/-- A pick and the like: another block than the slice's own and than those of the rows has turned. -/
theorem LadO.kept {row : Option Nat} (h : LadO w B v n R) (hg : w.grownBy w' row) (hne : v.ownBlock = none ∨ v.ownBlock ≠ row) (hr : ∀ g, row = some g → ∃ cs t fr, w.heap[g]? = some (.cells cs t fr) ∧ t ≠ 3) : LadO w' B v n R :=
  ⟨h.1.kept hg hne, fun r hr' => (h.2 r hr').grown hg hr⟩
theorem LadO.more (h : LadO w B v n R) (hS : ∀ r ∈ S, IntsT w r.A r.s) {m : Nat} (ho : w'.ownsRow B 57 1 v' m (vals R ++ vals S)) (hg : w.grownBy w' v.ownBlock) : LadO w' B v' m (R ++ S) := by
  have hr : ∀ g, v.ownBlock = some g → ∃ cs t fr, w.heap[g]? = some (.cells cs t fr) ∧ t ≠ 3 := fun g hgv => by
    obtain ⟨cs, hc⟩ := own_type h.1 g hgv
    exact ⟨cs, _, _, hc, si_ne⟩
  refine ⟨by rw [vals_append]; exact ho, fun r hr' => ?_⟩
  rw [List.mem_append] at hr'
  rcases hr' with hr' | hr'
  · exact (h.2 r hr').grown hg hr
  · exact (hS r hr').grown hg hr
theorem ladO_empty (w : World) : LadO (w.alloc (.cells #[] 57)) w.heap.size (.slice (some ⟨w.heap.size, 0, none⟩) 0 0) 0 [] :=
  ⟨World.ownsRow_lit w #[] 0 (Nat.le_refl _) (by unfold maxLen; omega) rfl, by simp⟩
end

/-- append on a slice whose elements have one cell: one operation. -/
theorem wp_app_row {o : Oper} {ac : Act} {K : Act → World → Prop} {Q : Exit → Act → World → Prop} {w : World} {t e : TypeId} {z : Value} {bytes : Nat} (hu : Try.prog.underlying t = some (.slice e))
    (hinf : (Try.prog.info? e).map (fun i => (i.zero, i.size, i.bytes)) = some (some z, 1, bytes)) (hz1 : z.cells.size = 1) (hby : bytes ≤ 24) (sl x : Operand)
    (ho : o.op = .call { callee := .builtin .append, args := #[sl, x], argTypes := #[t, t] }) (B : Nat) (v : Value) (xs ys : List Value) (A : Option Addr) (n m c : Nat) (hs : ac.eval sl = v) (hx : ac.eval x = .slice A m c)
    (hown : w.ownsRow B e 1 v n xs) (hm : ys.length = m) (hM : Seen w A ys) (hnil : A = none → c = 0) (h1 : ∀ u ∈ ys, u.oneCell' = true) (hl : n ≤ 1048576) (hl' : m ≤ 1048576) (hB : B ≤ w.heap.size)
    (h : ∀ v' w', w'.ownsRow B e 1 v' (n + m) (xs ++ ys) → w.grownBy w' v.ownBlock → (v'.ownBlock = v.ownBlock ∨ v'.ownBlock = some w.heap.size) → K (ac.put o.dst v') w') : o.wp Try.prog ac w K Q := by
  subst hm
  obtain ⟨i0, hi, hz0, hz, hz2⟩ := info_parts hinf
  rcases A with _ | ad
  · have hc := hnil rfl
    have hM0 : ys = [] := by
      rcases seen_any hM with h | ⟨b, o', e', _⟩
      · exact h
      · cases e'
    subst hc hM0
    have hrun := run_append_owned_none (P := Try.prog) (w := w) B t o.type e i0 1 hu hi v n xs hown
    unfold Oper.wp
    simp [execOp, ho, resolve, invoke, builtin, hs, hx, hrun, Result.andThen]
    exact h v w (by simpa using hown) (World.grownBy.refl w _) (.inl rfl)
  · obtain ⟨v', w', hrun, h2, h3, _, h5⟩ := run_append_own_at (P := Try.prog) w B t o.type e i0 z 1 bytes hu hi hz0 hz hz2 hz1 (by decide) v n xs hown ad ys.length c ys (by simp) (fun j u hu => by
        obtain ⟨b, o', e', _, hx'⟩ := hM (by
          rcases Nat.lt_or_ge j ys.length with h | h
          · omega
          · rw [List.getElem?_eq_none h] at hu; cases hu)
        injection e' with e'
        subst e'
        have hadd : (⟨b, o', none⟩ : Addr).add j = ⟨b, o' + j, none⟩ := by unfold Addr.add; split <;> simp_all
        rw [hadd]
        exact hx' j u hu) h1 (by unfold maxLen; omega) (by have := Nat.mul_le_mul (show n + ys.length ≤ 2097152 by omega) hby; omega) hB
    unfold Oper.wp execOp
    simp only [ho, resolve, invoke, builtin, Sem.run_bind, Sem.run_pure, Result.andThen_ok, List.map_toArray, List.map_cons, List.map_nil, hs, hx, hrun]
    exact h v' w' h2 h3 h5

/-- The same in a list of operations, guarded or not. -/
theorem app_row {ops : Array Oper} {rest : List Oper} {o : Oper} {ac : Act} {Q : Exit → Act → World → Prop} {w : World} {t e : TypeId} {z : Value} {bytes : Nat} (hw : Region.wanted o (yielded ops ac.tmps) = true) (hu : Try.prog.underlying t = some (.slice e))
    (hinf : (Try.prog.info? e).map (fun i => (i.zero, i.size, i.bytes)) = some (some z, 1, bytes)) (hz1 : z.cells.size = 1) (hby : bytes ≤ 24) (sl x : Operand)
    (ho : o.op = .call { callee := .builtin .append, args := #[sl, x], argTypes := #[t, t] }) (B : Nat) (v : Value) (xs ys : List Value) (A : Option Addr) (n m c : Nat) (hs : ac.eval sl = v) (hx : ac.eval x = .slice A m c)
    (hown : w.ownsRow B e 1 v n xs) (hm : ys.length = m) (hM : Seen w A ys) (hnil : A = none → c = 0) (h1 : ∀ u ∈ ys, u.oneCell' = true) (hl : n ≤ 1048576) (hl' : m ≤ 1048576) (hB : B ≤ w.heap.size)
    (h : ∀ v' w', w'.ownsRow B e 1 v' (n + m) (xs ++ ys) → w.grownBy w' v.ownBlock → (v'.ownBlock = v.ownBlock ∨ v'.ownBlock = some w.heap.size) → wpList Try.prog ops Q rest (ac.put o.dst v') w') :
    wpList Try.prog ops Q (o :: rest) ac w :=
  BigFrame.wpList_want hw fun K hK => wp_app_row hu hinf hz1 hby sl x ho B v xs ys A n m c hs hx hown hm hM hnil h1 hl hl' hB fun v' w' h2 h3 h4 => hK _ _ (h v' w' h2 h3 h4)

/-- The same in a region that draws its order. -/
theorem step_app_row {ops : Array Oper} {o : Oper} {ac : Act} {K : Act → World → Prop} {Q : Exit → Act → World → Prop} {E : Prop} {w : World} {t e : TypeId} {z : Value} {bytes : Nat} (hw : Region.wanted o (yielded ops ac.tmps) = true) (hu : Try.prog.underlying t = some (.slice e))
    (hinf : (Try.prog.info? e).map (fun i => (i.zero, i.size, i.bytes)) = some (some z, 1, bytes)) (hz1 : z.cells.size = 1) (hby : bytes ≤ 24) (sl x : Operand)
    (ho : o.op = .call { callee := .builtin .append, args := #[sl, x], argTypes := #[t, t] }) (B : Nat) (v : Value) (xs ys : List Value) (A : Option Addr) (n m c : Nat) (hs : ac.eval sl = v) (hx : ac.eval x = .slice A m c)
    (hown : w.ownsRow B e 1 v n xs) (hm : ys.length = m) (hM : Seen w A ys) (hnil : A = none → c = 0) (h1 : ∀ u ∈ ys, u.oneCell' = true) (hl : n ≤ 1048576) (hl' : m ≤ 1048576) (hB : B ≤ w.heap.size)
    (h : ∀ v' w', w'.ownsRow B e 1 v' (n + m) (xs ++ ys) → w.grownBy w' v.ownBlock → (v'.ownBlock = v.ownBlock ∨ v'.ownBlock = some w.heap.size) → K (ac.put o.dst v') w') :
    if Region.wanted o (yielded ops ac.tmps) = true then Oper.wp Try.prog o ac w K Q else E := by
  rw [if_pos hw]
  exact wp_app_row hu hinf hz1 hby sl x ho B v xs ys A n m c hs hx hown hm hM hnil h1 hl hl' hB h

/-- A new cell. -/
theorem seen_new (w : World) (v : Value) (t : TypeId) : Seen (w.alloc (.cells #[v] t)) (some ⟨w.heap.size, 0, none⟩) [v] := fun _ =>
  ⟨w.heap.size, 0, rfl, by simp, fun j u hu => by
    rw [Nat.zero_add, World.cell?_alloc_at _ _ _ _ rfl]
    simpa using hu⟩

end Go.Proofs.Ytepnfljhoapdmaa
