/- Words for making ladders: rows of one's own, one row more. No conditions. -/
import Derived.Test.YtepnfljhoapdmaaLt
import Derived.Test.YtepnfljhoapdmaaLc
namespace Go.Proofs.Ytepnfljhoapdmaa
open Go.RowKit
set_option linter.unusedVariables false

theorem own_below {w w' : World} {B n : Nat} {e : TypeId} {sz : Nat} {v : Value} {xs : List Value} (h : w.ownsRow B e sz v n xs) (hb : Below w.heap.size w w') : w'.ownsRow B e sz v n xs :=
  h.kept (grown_of_below hb none) (by cases hv : v.ownBlock with | none => exact .inl rfl | some g => exact .inr (by simp))
theorem own_mono {w : World} {B B' n : Nat} {e : TypeId} {sz : Nat} {v : Value} {xs : List Value} (h : w.ownsRow B e sz v n xs) (hB : B' ≤ B) : w.ownsRow B' e sz v n xs := by
  refine ⟨h.1, ?_⟩
  rcases h.2 with h | ⟨g, cap, cur, h1, h2, h3⟩
  · exact .inl h
  · exact .inr ⟨g, cap, cur, h1, Nat.le_trans hB h2, h3⟩
theorem RowsO.mono {w : World} {B B' : Nat} {R : List Rw} (h : RowsO w B R) (hB : B' ≤ B) : RowsO w B' R := ⟨fun r hr => own_mono (h.1 r hr) hB, h.2⟩
theorem ladW_empty (w : World) {B : Nat} (hB : B ≤ w.heap.size) : LadW (w.alloc (.cells #[] 57)) B (some ⟨w.heap.size, 0, none⟩) 0 [] :=
  ⟨World.ownsRow_lit w #[] 0 hB (by unfold maxLen; omega) rfl, by simp, by simp⟩
theorem ladW_nil (w : World) (B : Nat) : LadW w B none 0 [] := ⟨World.ownsRow_nil _ _ _ _, by simp, by simp⟩
theorem own_empty_i (w : World) : (w.alloc (.cells #[] 3)).ownsRow w.heap.size 3 1 (.slice (some ⟨w.heap.size, 0, none⟩) 0 0) 0 (ints []) :=
  World.ownsRow_lit w #[] 0 (Nat.le_refl _) (by unfold maxLen; omega) rfl
theorem own_empty_s (w : World) : (w.alloc (.cells #[] 57)).ownsRow w.heap.size 57 1 (.slice (some ⟨w.heap.size, 0, none⟩) 0 0) 0 (vals []) :=
  World.ownsRow_lit w #[] 0 (Nat.le_refl _) (by unfold maxLen; omega) rfl

/-- An append on the outer cells leaves the rows. -/
theorem RowsO.outer {w w' : World} {B B' n : Nat} {R S : List Rw} {v : Value} (h : RowsO w B R) (ho : w.ownsRow B' 57 1 v n (vals S)) (hg : w.grownBy w' v.ownBlock) : RowsO w' B R :=
  h.keep hg fun g e => by
    obtain ⟨cs, hc⟩ := own_type ho g e
    exact ⟨cs, _, _, hc, si_ne⟩
/-- An append on the outer cells leaves a row. -/
theorem own_outer {w w' : World} {B B' n m : Nat} {S : List Rw} {v u : Value} {xs : List Value} (h : w.ownsRow B 3 1 u m xs) (ho : w.ownsRow B' 57 1 v n (vals S)) (hg : w.grownBy w' v.ownBlock) : w'.ownsRow B 3 1 u m xs := by
  refine h.kept hg ?_
  cases e : u.ownBlock with
  | none => exact .inl rfl
  | some g =>
    refine .inr fun e' => ?_
    obtain ⟨cs, hc⟩ := own_type h g e
    obtain ⟨cs', hc'⟩ := own_type ho g e'.symm
    rw [hc] at hc'
    injection hc' with hc'
    injection hc' with _ ht
    exact si_ne ht.symm
theorem own_some {w : World} {B n : Nat} {e : TypeId} {v : Value} {xs : List Value} (h : w.ownsRow B e 1 v n xs) (hn : 0 < n) : v.ownBlock ≠ none := by
  obtain ⟨g, cap, hv, _⟩ := h.form hn
  rw [hv]; simp [Value.ownBlock]

/-- The rows copied so far. -/
def CopyRel (R : List Rw) (n : Nat) (w0 : World) (v i : Value) (wr : World) : Prop :=
  ∃ (k : Nat) (A : Option Addr) (c : Nat) (S : List Rw), k ≤ n ∧ i = .int .i64 k ∧ v = .slice A k c ∧ Hid (S.length = k) ∧ Hid (ss S = (ss R).take k) ∧ wr.ownsRow w0.heap.size 57 1 v k (vals S) ∧ RowsO wr w0.heap.size S ∧ Below w0.heap.size w0 wr

/-- A new row behind the others: the row's block is new since wr. -/
theorem rows_more {wr w1 w2 : World} {B n : Nat} {S : List Rw} {r : Rw} {v : Value} (h : RowsO wr B S) (hb : Below wr.heap.size wr w1) (hr : w1.ownsRow wr.heap.size 3 1 r.val r.s.length (ints r.s)) (h0 : 0 < r.s.length) (hB : B ≤ wr.heap.size)
    (ho : w1.ownsRow B 57 1 v n (vals S)) (hg : w1.grownBy w2 v.ownBlock) : RowsO w2 B (S ++ [r]) := by
  have h1 := (h.below hb).snoc (r := r) (own_mono hr hB) (fun g e q hq => by
    cases e2 : q.val.ownBlock with
    | none => exact .inl rfl
    | some b =>
      have a1 := ((h.1 q hq).lt b e2).2
      have a2 := (hr.lt g e).1
      exact .inr fun e3 => by injection e3 with e3; omega) (own_some hr h0)
  exact h1.outer ho hg

end Go.Proofs.Ytepnfljhoapdmaa
