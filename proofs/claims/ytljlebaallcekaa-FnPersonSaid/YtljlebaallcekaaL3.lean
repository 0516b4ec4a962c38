/- Walk of the law FnPerson. -/
import Derived.Test.YtljlebaallcekaaDp
namespace Go.Proofs.Ytljlebaallcekaa
open Go.RowKit
set_option linter.unusedVariables false

theorem Boxd.new_at (w : World) (t : TypeId) (cs : Array Value) {B : Nat} (h : B = w.heap.size) : Boxd (w.alloc (.cells cs t)) B t cs := by subst h; exact Boxd.new w t cs
theorem four_boxes (w : World) (t : TypeId) (a b c d : Array Value) :
    Boxd ((((w.alloc (.cells a t)).alloc (.cells b t)).alloc (.cells c t)).alloc (.cells d t)) (w.heap.size + 1) t b ∧
    Boxd ((((w.alloc (.cells a t)).alloc (.cells b t)).alloc (.cells c t)).alloc (.cells d t)) (w.heap.size + 1 + 1) t c ∧
    Boxd ((((w.alloc (.cells a t)).alloc (.cells b t)).alloc (.cells c t)).alloc (.cells d t)) (w.heap.size + 1 + 1 + 1) t d :=
  ⟨((Boxd.new_at _ _ _ (by simp)).alloc _).alloc _, (Boxd.new_at _ _ _ (by simp)).alloc _, Boxd.new_at _ _ _ (by simp)⟩

set_option maxHeartbeats 1600000 in
theorem fnPerson_walk (w : World) (A : Option Addr) (n c : Nat) (hin : BytesIn w A n c) : Calls Try.prog 8 #[.slice A n c] w fun e w' => e = .returned (.bool true) ∧ Below w.heap.size w w' := by
  by_cases hbig : 1048576 < n
  · have hn := hin.2.1
    go_enter Try.func8, Try.ntmps8
    go_wp2
    go_ret
    exact ⟨rfl, Below.refl _ _⟩
  · go_enter Try.func8, Try.ntmps8
    go_wp2_with fail
    refine (drawPersonValid_any A n c w hin).mono ?_
    rintro e w1 ⟨a, j, s, q, rfl, hb1⟩
    have x1 := Boxd.new w1 28 #[.int .i64 a, .int .i64 j, .int .i64 s, .int .i64 q]
    go_wp2_with fail
    refine (personValid_any _ _ _ _ _).mono ?_
    rintro e w2 ⟨rfl, hb2⟩
    have x2 := x1.below hb2
    obtain ⟨⟨c0, c1, c2, c3⟩, _⟩ := cell_four x2
    go_wp2_with fail
    refine (sPersonValid_any _ _ _ _ _).mono ?_
    rintro e w3 ⟨rfl, hb3⟩
    have x3 := x2.below hb3
    clear c0 c1 c2 c3
    obtain ⟨⟨c0, c1, c2, c3⟩, _⟩ := cell_four x3
    have hb03 : Below w.heap.size w w3 := hb1.trans (((below_new w1 _).trans (hb2.mono (by simp))).mono hb1.size |>.trans (hb3.mono (by have := hb1.size; have := hb2.size; simp at this; omega)))
    have hlt3 := x3.lt
    have hne : (okB ⟨a, j, s, q⟩ != okB ⟨a, j, s, q⟩) = false := by simp
    cases hok : okB ⟨a, j, s, q⟩
    · rw [hok] at hne
      go_wp2
      go_ret
      exact ⟨rfl, hb03⟩
    · rw [hok] at hne
      have n1 : okB ⟨4, j, s, q⟩ = false := by cases h : okB ⟨4, j, s, q⟩ with | false => rfl | true => have := okB_un h; omega
      have n2 : okB ⟨a, -1, s, q⟩ = false := by cases h : okB ⟨a, -1, s, q⟩ with | false => rfl | true => have := okB_un h; omega
      have n3 : okB ⟨a, j, 2, q⟩ = false := by cases h : okB ⟨a, j, 2, q⟩ with | false => rfl | true => have := okB_un h; omega
      have n4 : okB ⟨a, j, s, 1000⟩ = false := by cases h : okB ⟨a, j, s, 1000⟩ with | false => rfl | true => have := okB_un h; omega
      have l1 : w1.heap.size < w3.heap.size + 1 := by omega
      have l2 : w1.heap.size < w3.heap.size + 1 + 1 := by omega
      have l3 : w1.heap.size < w3.heap.size + 1 + 1 + 1 := by omega
      go_wp2_with fail
      refine (personValid_any _ _ _ _ _).mono ?_
      rintro e w4 ⟨rfl, hb4⟩
      rw [n1]
      obtain ⟨b2, b3, b4⟩ := four_boxes w3 28 #[.int .i64 4, .int .i64 j, .int .i64 s, .int .i64 q] #[.int .i64 a, .int .i64 (-1), .int .i64 s, .int .i64 q] #[.int .i64 a, .int .i64 j, .int .i64 2, .int .i64 q] #[.int .i64 a, .int .i64 j, .int .i64 s, .int .i64 1000]
      have b2 := b2.below hb4
      have b3 := b3.below hb4
      have b4 := b4.below hb4
      obtain ⟨⟨d0, d1, d2, d3⟩, _⟩ := cell_four b2
      go_wp2_with fail
      refine (personValid_any _ _ _ _ _).mono ?_
      rintro e w5 ⟨rfl, hb5⟩
      rw [n2]
      have b3 := b3.below hb5
      have b4 := b4.below hb5
      clear d0 d1 d2 d3
      obtain ⟨⟨d0, d1, d2, d3⟩, _⟩ := cell_four b3
      go_wp2_with fail
      refine (personValid_any _ _ _ _ _).mono ?_
      rintro e w6 ⟨rfl, hb6⟩
      rw [n3]
      have b4 := b4.below hb6
      clear d0 d1 d2 d3
      obtain ⟨⟨d0, d1, d2, d3⟩, _⟩ := cell_four b4
      go_wp2_with fail
      refine (personValid_any _ _ _ _ _).mono ?_
      rintro e w7 ⟨rfl, hb7⟩
      rw [n4]
      go_wp2
      go_ret
      have hb34 : Below w3.heap.size w3 w4 := below2 (below2 (below2 (below2 (below_new w3 _) (below_new _ _)) (below_new _ _)) (below_new _ _)) hb4
      have := below2 hb34 (below2 hb5 (below2 hb6 hb7))
      exact ⟨rfl, below2 hb03 this⟩

end Go.Proofs.Ytljlebaallcekaa
