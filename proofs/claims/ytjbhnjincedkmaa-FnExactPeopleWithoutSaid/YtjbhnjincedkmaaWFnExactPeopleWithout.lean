/- Walk of the law FnExactPeopleWithout. -/
import Derived.Test.YtjbhnjincedkmaaMp
import Derived.Test.YtjbhnjincedkmaaOpen
namespace Go.Proofs.Ytjbhnjincedkmaa
open Go.RowKit
set_option linter.unusedVariables false

theorem own_below {w w' : World} {B n e s : Nat} {v : Value} {xs : List Value} (h : w.ownsRow B e s v n xs) (hb : Below w.heap.size w w') : w'.ownsRow B e s v n xs :=
  h.kept (row := none) ⟨hb.os, hb.tape, hb.output, hb.size, fun k hk _ => hb.block k hk⟩ (by cases hv : v.ownBlock with | none => exact .inl rfl | some g => exact .inr (by simp))
theorem eqPersonS_n (A A' : Option Addr) (n n' c c' : Nat) (L M : List Pers) (w : World) (hA : Seen w A (pcells L)) (hA' : Seen w A' (pcells M)) (hn : L.length = n) (hn' : M.length = n') (hm : n ≤ 1099511627776) (hm' : n' ≤ 1099511627776) :
    Calls Try.prog 13 #[.slice A n c, .slice A' n' c'] w fun e w' => e = .returned (.bool (eqAllB L M)) ∧ Below w.heap.size w w' := by
  subst hn hn'; exact eqPersonS_any A A' c c' L M w hA hA' hm hm'
theorem seen_own {w : World} {B n c : Nat} {A : Option Addr} {L : List Pers} (hn : L.length = n) (h : w.ownsRow B 36 4 (.slice A n c) n (pcells L)) : Seen w A (pcells L) := (ppl_own_n hn h).1
/-- A block that others own stays apart. -/
theorem own_apart {w w1 w' : World} {B n m c : Nat} {A : Option Addr} {v : Value} {xs : List Value} (h : w.ownsRow B 36 4 v n xs) (hg : w.grownBy w' (Value.slice A m c).ownBlock) (hne : ∀ g g', v.ownBlock = some g → (Value.slice A m c).ownBlock = some g' → g ≠ g') : w'.ownsRow B 36 4 v n xs := by
  refine h.kept hg ?_
  cases hv : v.ownBlock with
  | none => exact .inl rfl
  | some g =>
    refine .inr fun e => ?_
    exact hne g g hv e.symm rfl

set_option maxRecDepth 100000 in
set_option maxHeartbeats 6400000 in
theorem fnExactPeopleWithout_walk (w : World) (A : Option Addr) (n c : Nat) (hin : PeopleIn w A n c) (k : Int) (_ : -9223372036854775808 ≤ k) (_ : k ≤ 9223372036854775807) :
    Calls Try.prog 4 #[.slice A n c, .int .i64 k] w fun e w' => e = .returned (.bool true) ∧ Below w.heap.size w w' := by
  obtain ⟨_, hn, L, hL, hA⟩ := hin
  by_cases hbig : (1048576 : Int) - n < 0
  · clear hL hA
    go_enter Try.func4, Try.ntmps4
    go_wp2_with (go_at_call 11; refine (szPersonS_any _ _ _ _ _ hn (by omega) (by omega)).mono ?_; rintro e w' ⟨rfl, rfl⟩; rw [if_pos (by omega)])
    go_ret
    exact ⟨rfl, Below.refl _ _⟩
  have hm : n ≤ 1048576 := by omega
  have hne : (woB L k != woB L k) = false := by simp
  have HE := Lib.hid (show eqAllB L L = true from eqAllB_iff.2 rfl)
  have HEW := Lib.hid (show eqAllB (woL L k) (woL L k) = true from eqAllB_iff.2 rfl)
  have HL := Lib.hid hL.symm
  have hwl := woL_len L k
  rw [← hL] at hwl
  have HA := Lib.hid hA
  have TP := Lib.hid (fun (w' : World) (h : Below w.heap.size w w') => (show Calls Try.prog 12 #[.slice A n c] w' fun e w'' => ∃ g, e = .returned (.slice (some ⟨g, 0, none⟩) n n) ∧ w'.heap.size ≤ g ∧ Filled w'' g n L n ∧ Below w'.heap.size w' w'' from by
    subst hL; exact toPersonS_any A c L w' (hA.below h) hm))
  clear hA hL
  go_enter Try.func4, Try.ntmps4
  go_wp2_with fail
  refine (szPersonS_any _ _ _ _ _ hn (by omega) (by omega)).mono ?_
  rintro e w' ⟨rfl, rfl⟩
  rw [if_neg (by omega)]
  go_wp2_with fail
  refine (TP.out _ (Below.refl _ _)).mono ?_
  rintro e w1 ⟨g1, rfl, _, hf1, hb1⟩
  have hP1 := ppl_own_n HL.out (hf1.own HL.out (Nat.le_refl _) (by omega) (Nat.zero_le _))
  go_wp2_with fail
  refine (sPeopleWithout_any _ _ _ L k _ hP1 HL.out (by omega)).mono ?_
  rintro e w2 ⟨A2, n2, c2, rfl, hn2, ho2, hb2⟩
  have hb02 := below2 hb1 hb2
  have T2 := Lib.hid (fun g (e : (Value.slice A2 n2 c2).ownBlock = some g) => (ho2.lt g e).2)
  have hn2' : n2 ≤ n := by rw [← hn2]; exact hwl
  have HN2 := Lib.hid hn2
  clear hn2 hP1 hf1
  go_wp2_with fail
  refine (TP.out _ hb02).mono ?_
  rintro e w3 ⟨g3, rfl, hg3, hf3, hb3⟩
  have hb03 := below2 hb02 hb3
  have hT3 := own_below ho2 hb3
  have hX3 := hf3.own (B := w2.heap.size) HL.out (Nat.le_refl _) (by omega) hg3
  have hg3' := hf3.lt
  have hP3 := ppl_own_n HL.out hX3
  go_wp2_with fail
  refine (peopleWithout_any _ _ _ L k _ hP3 HL.out (by omega)).mono ?_
  rintro e w4 ⟨A4, n4, c4, rfl, hn4, ho4, hb4⟩
  have hb04 := below2 hb03 hb4
  have hT4 := own_below hT3 hb4
  have hX4 := own_below hX3 hb4
  have G4 := Lib.hid (fun g (e : (Value.slice A4 n4 c4).ownBlock = some g) => (ho4.lt g e).1)
  have hn4' : n4 ≤ n := by rw [← hn4]; exact hwl
  have HN4 := Lib.hid hn4
  have hz2 := hb02.size
  have hz3 := hb3.size
  clear hn4 hP3 hf3 hT3 hX3 ho2 hb1 hb2 hb3 hb4 hb02 hb03
  go_wp2_with fail
  refine (eqPersonS_n _ _ _ _ _ _ (woL L k) (woL L k) _ (seen_own HN4.out ho4) (seen_own HN2.out hT4) HN4.out HN2.out (by omega) (by omega)).mono ?_
  rintro e w5 ⟨rfl, hb5⟩
  rw [HEW.out]
  have hb05 := below2 hb04 hb5
  have hT5 := own_below hT4 hb5
  have hX5 := own_below hX4 hb5
  have hG5 := own_below ho4 hb5
  clear hT4 hX4 ho4 hb04 hb5
  go_wp2_with fail
  refine (TP.out _ hb05).mono ?_
  rintro e w6 ⟨g6, rfl, _, hf6, hb6⟩
  have hb06 := below2 hb05 hb6
  have hT6 := own_below hT5 hb6
  have hX6 := own_below hX5 hb6
  have hG6 := own_below hG5 hb6
  have hY6 := hf6.own (B := 0) HL.out (Nat.le_refl _) (by omega) (Nat.zero_le _)
  clear hT5 hX5 hG5 hb05 hb6 hf6
  go_wp2_with fail
  refine (eqPersonS_n _ _ _ _ _ _ L L _ (seen_own HL.out hX6) (seen_own HL.out hY6) HL.out HL.out (by omega) (by omega)).mono ?_
  rintro e w7 ⟨rfl, hb7⟩
  rw [HE.out]
  have hb07 := below2 hb06 hb7
  have hT7 := own_below hT6 hb7
  have hX7 := own_below hX6 hb7
  have hG7 := own_below hG6 hb7
  clear hT6 hX6 hG6 hY6 hb06 hb7
  go_wp2_with fail
  refine (markPersonS_any w2.heap.size _ _ _ L 1 w7 hX7 hm (by omega) (by omega)).mono ?_
  rintro e w8 ⟨rfl, _, hg8⟩
  have hb08 := hb07.grown hg8 hb07.size (fun g hg => by have e1 : g3 = g := (by simpa [Value.ownBlock] using hg); omega)
  have hT8 := own_apart (w1 := w) hT7 hg8 (fun g g' e e' => by have := T2.out g e; have e1 : g3 = g' := (by simpa [Value.ownBlock] using e'); omega)
  have hG8 := own_apart (w1 := w) hG7 hg8 (fun g g' e e' => by have := G4.out g e; have e1 : g3 = g' := (by simpa [Value.ownBlock] using e'); omega)
  have hk0 : decide (1 + 4 * (n : Int) < 0) = false := by simp; omega
  clear hT7 hX7 hG7 hb07 hg8
  go_wp2_with fail
  refine (eqPersonS_n _ _ _ _ _ _ (woL L k) (woL L k) _ (seen_own HN4.out hG8) (seen_own HN2.out hT8) HN4.out HN2.out (by omega) (by omega)).mono ?_
  rintro e w9 ⟨rfl, hb9⟩
  rw [HEW.out]
  have hb09 := below2 hb08 hb9
  have hT9 := own_below hT8 hb9
  have hG9 := own_below hG8 hb9
  clear hT8 hG8 hb08 hb9
  go_wp2_with fail
  refine (markPersonS_any w3.heap.size _ _ _ (woL L k) 1 w9 hG9 (by omega) (by omega) (by omega)).mono ?_
  rintro e w10 ⟨rfl, hM10, hg10⟩
  have hb010 := hb09.grown hg10 hb09.size (fun g hg => by have := G4.out g hg; omega)
  have hT10 := own_apart (w1 := w) hT9 hg10 (fun g g' e e' => by have := T2.out g e; have := G4.out g' e'; omega)
  have hS10 := seen_own (markP_length 1 n4) hM10
  have hq0 : decide (1 + 4 * (n4 : Int) < 0) = false := by simp; omega
  have hqq : (1 + 4 * (n4 : Int) != 1 + 4 * (n4 : Int)) = false := by simp
  clear hT9 hG9 hM10 hg10 hb09
  go_wp2_with fail
  refine (heldPersonS_any _ _ _ 1 w10 hS10 (by omega) (by omega) (by omega)).mono ?_
  rintro e w' ⟨rfl, rfl⟩
  go_wp2_with fail
  refine (TP.out _ hb010).mono ?_
  rintro e w11 ⟨g11, rfl, _, hf11, hb11⟩
  have hb011 := below2 hb010 hb11
  have hT11 := own_below hT10 hb11
  have hS11 := hS10.below hb11
  have hP11 := ppl_own_n HL.out (hf11.own HL.out (Nat.le_refl _) (by omega) (Nat.zero_le _))
  clear hT10 hS10 hb010 hb11 hf11
  go_wp2_with fail
  refine (peopleWithout_any _ _ _ L k _ hP11 HL.out (by omega)).mono ?_
  rintro e w12 ⟨A12, n12, c12, rfl, hn12, ho12, hb12⟩
  have hb012 := below2 hb011 hb12
  have hT12 := own_below hT11 hb12
  have hS12 := hS11.below hb12
  have hn12' : n12 ≤ n := by rw [← hn12]; exact hwl
  have HN12 := Lib.hid hn12
  clear hT11 hS11 hP11 hb011 hb12 hn12
  go_wp2_with fail
  refine (eqPersonS_n _ _ _ _ _ _ (woL L k) (woL L k) _ (seen_own HN12.out ho12) (seen_own HN2.out hT12) HN12.out HN2.out (by omega) (by omega)).mono ?_
  rintro e w13 ⟨rfl, hb13⟩
  rw [HEW.out]
  have hb013 := below2 hb012 hb13
  have hS13 := hS12.below hb13
  clear hT12 hS12 ho12 hb012 hb13
  go_wp2_with fail
  refine (heldPersonS_any _ _ _ 1 w13 hS13 (by omega) (by omega) (by omega)).mono ?_
  rintro e w' ⟨rfl, rfl⟩
  go_wp2
  go_ret
  exact ⟨rfl, hb013⟩

end Go.Proofs.Ytjbhnjincedkmaa
