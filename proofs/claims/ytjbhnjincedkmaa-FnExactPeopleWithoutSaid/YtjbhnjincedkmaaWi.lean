/- Contracts of PeopleWithout (program and reference). -/
import Derived.Test.YtjbhnjincedkmaaWc
import Derived.Test.YtjbhnjincedkmaaWp
import Derived.Test.YtjbhnjincedkmaaPw
namespace Go.Proofs.Ytjbhnjincedkmaa
open Go.RowKit
set_option linter.unusedVariables false

/-- What PeopleWithout leaves. -/
def WoPost (L : List Pers) (k : Int) (w : World) (e : Ending) (w' : World) : Prop :=
  ∃ (A : Option Addr) (m c : Nat), e = .returned (.tuple #[.slice A m c, .bool (woB L k)]) ∧ (woL L k).length = m ∧ w'.ownsRow w.heap.size 36 4 (.slice A m c) m (pcells (woL L k)) ∧ Below w.heap.size w w'
theorem wo_no {L : List Pers} {k : Int} {w w' : World} (h : woB L k = false) (hb : Below w.heap.size w w') : WoPost L k w (.returned (.tuple #[.slice none 0 0, .bool false])) w' :=
  ⟨none, 0, 0, by rw [h], by rw [woL_no h]; rfl, by rw [woL_no h]; exact World.ownsRow_nil _ _ _ _, hb⟩
theorem own_base {w : World} {B B' e s n : Nat} {v : Value} {xs : List Value} (h : w.ownsRow B e s v n xs) (hB : B' ≤ B) : w.ownsRow B' e s v n xs := by
  refine ⟨h.1, ?_⟩
  rcases h.2 with h | ⟨g, cap, cur, h1, h2, h3⟩
  · exact .inl h
  · exact .inr ⟨g, cap, cur, h1, Nat.le_trans hB h2, h3⟩
theorem wo_no' {L : List Pers} {k : Int} {w w' : World} (h : woB L k = false) (hb : Below w.heap.size w w') : WoPost L k w (.returned (.tuple #[.slice (some ⟨w'.heap.size, 0, none⟩) 0 0, .bool false])) (w'.alloc (.cells #[] 36)) :=
  ⟨_, 0, 0, by rw [h], by rw [woL_no h]; rfl, by rw [woL_no h]; exact own_base (own_empty w') hb.size, below2 hb (below_new _ _)⟩
theorem block_len {A : Option Addr} {n m c c' : Nat} : (Value.slice A n c).ownBlock = (Value.slice A m c').ownBlock := by cases A <;> rfl
theorem delete_at (B : Nat) (A : Option Addr) (n c k m : Nat) (L : List Pers) (w : World) (hown : w.ownsRow B 36 4 (.slice A n c) n (pcells L)) (hn : L.length = n) (hk : k < n) (hm : m + 1 = n) (hn' : n ≤ 1048576) :
    Calls Try.prog 22 #[.slice A n c, .int .i64 (k : Int), .int .i64 ((k : Int) + 1)] w (DelPost B m c A (del L k) w) := delete_any B A n c k (k + 1) m L w hown hn hk rfl hm hn'

set_option maxHeartbeats 1600000 in
theorem peopleWithout_any (A : Option Addr) (n c : Nat) (L : List Pers) (k : Int) (w : World) (hP : Ppl w A c L) (hn : L.length = n) (hm : n ≤ 1099511627776) :
    Calls Try.prog 8 #[.slice A n c, .int .i64 k] w (WoPost L k w) := by
  have HN := Lib.hid hn
  have HP := Lib.hid hP
  cases h1 : peopleB L
  · have HE := Lib.hid (show woB L k = false by unfold woB; rw [h1]; rfl)
    clear hn hP
    go_enter Try.func8, Try.ntmps8
    go_wp2_with fail
    refine (peopleValid_n _ _ _ L _ HP.out.1 HN.out hm).mono ?_
    rintro e w1 ⟨rfl, hb1⟩
    rw [h1]
    go_wp2
    go_ret2
    exact wo_no HE.out hb1
  · by_cases hk0 : k < 0
    · have HE := Lib.hid (show woB L k = false by unfold woB; rw [show decide (0 ≤ k) = false by simp; omega]; simp)
      have hd : decide (k < 0) = true := by simpa using hk0
      clear hn hP
      go_enter Try.func8, Try.ntmps8
      go_wp2_with fail
      refine (peopleValid_n _ _ _ L _ HP.out.1 HN.out hm).mono ?_
      rintro e w1 ⟨rfl, hb1⟩
      rw [h1]
      go_wp2
      go_ret2
      exact wo_no HE.out hb1
    · have hd : decide (k < 0) = false := by simpa using hk0
      by_cases hk1 : k < n
      · obtain ⟨i, rfl⟩ : ∃ i : Nat, k = i := ⟨k.toNat, by omega⟩
        have h40 : n ≤ 40 := by rw [← hn]; exact (peopleB_iff.1 h1).2
        have hW := woB_nat h1 (show i < L.length by omega)
        have HE := Lib.hid hW
        have hd' : decide (n ≤ i) = false := by simp; omega
        have hin : i < n := by omega
        clear hn hP hW hk1
        go_enter Try.func8, Try.ntmps8
        go_wp2_with fail
        refine (peopleValid_n _ _ _ L _ HP.out.1 HN.out hm).mono ?_
        rintro e w1 ⟨rfl, hb1⟩
        rw [h1]
        go_wp2_with fail
        refine (clone_any _ _ _ L _ (HP.out.below hb1) HN.out (by omega)).mono ?_
        rintro e w2 ⟨A2, c2, rfl, ho2, hb2⟩
        go_wp2_with fail
        refine (delete_at _ _ _ _ i (n - 1) L _ ho2 HN.out hin (by omega) (by omega)).mono ?_
        rintro e w3 ⟨rfl, ho3, hg3⟩
        have hz1 := hb1.size
        have hz2 := hb2.size
        have hb3 := (below2 hb1 hb2).grown hg3 (by omega) (fun g hg => by have := (ho2.lt g (block_len.trans hg)).1; omega)
        go_wp2
        go_ret2
        exact ⟨A2, n - 1, c2, by rw [HE.out]; rfl, by rw [woL_yes HE.out, del_length (by rw [HN.out]; exact hin), HN.out], by rw [woL_yes HE.out]; exact own_base ho3 hz1, hb3⟩
      · have HE := Lib.hid (show woB L k = false by unfold woB; rw [show decide (k < L.length) = false by simp; omega]; simp)
        have hd' : decide ((n : Int) ≤ k) = true := by simp; omega
        clear hn hP
        go_enter Try.func8, Try.ntmps8
        go_wp2_with fail
        refine (peopleValid_n _ _ _ L _ HP.out.1 HN.out hm).mono ?_
        rintro e w1 ⟨rfl, hb1⟩
        rw [h1]
        go_wp2
        go_ret2
        exact wo_no HE.out hb1

set_option maxHeartbeats 1600000 in
theorem sPeopleWithout_any (A : Option Addr) (n c : Nat) (L : List Pers) (k : Int) (w : World) (hP : Ppl w A c L) (hn : L.length = n) (hm : n ≤ 1099511627776) :
    Calls Try.prog 9 #[.slice A n c, .int .i64 k] w (WoPost L k w) := by
  have HN := Lib.hid hn
  have HP := Lib.hid hP
  cases h1 : peopleB L
  · have HE := Lib.hid (show woB L k = false by unfold woB; rw [h1]; rfl)
    clear hn hP
    go_enter Try.func9, Try.ntmps9
    go_wp2_with fail
    refine (sPeopleValid_n _ _ _ L _ HP.out.1 HN.out hm).mono ?_
    rintro e w1 ⟨rfl, hb1⟩
    rw [h1]
    go_wp2
    go_ret2
    exact wo_no' HE.out hb1
  · cases h2 : inB k 0 ((n : Int) - 1)
    · have HE := Lib.hid (show woB L k = false by
        cases e : woB L k with
        | false => rfl
        | true =>
          obtain ⟨_, a, b⟩ := woB_iff.1 e
          rw [inB_iff.2 ⟨a, by omega⟩] at h2; cases h2)
      clear hn hP
      go_enter Try.func9, Try.ntmps9
      go_wp2_with fail
      refine (sPeopleValid_n _ _ _ L _ HP.out.1 HN.out hm).mono ?_
      rintro e w1 ⟨rfl, hb1⟩
      rw [h1]
      go_wp2_with (go_at_call 25; refine (l6In_any _ _ _ _).mono ?_; rintro e w' ⟨rfl, rfl⟩)
      go_ret2
      exact wo_no' HE.out hb1
    · have h3 := inB_iff.1 h2
      obtain ⟨i, rfl⟩ : ∃ i : Nat, k = i := ⟨k.toNat, by omega⟩
      have hin : i < n := by omega
      have h40 : n ≤ 40 := by rw [← hn]; exact (peopleB_iff.1 h1).2
      have HE := Lib.hid (woB_nat h1 (show i < L.length by omega))
      have hnc : n ≤ c := by rw [← hn]; exact hP.2.1
      obtain ⟨A1, q1, s1, n1⟩ := cut_to A n c i L hn (by omega) hnc
      obtain ⟨A2, q2', s2, n2⟩ := cut_from A n c (i + 1) L hn (by omega) hnc
      have q2 : ∀ w, (Instr.slice 23 (.slice A n c) (some (.int .i64 ((i : Int) + 1))) none none).run Try.prog w = .ok (.slice A2 (n - (i + 1)) (c - (i + 1))) w := q2'
      have hwr : IntKind.i64.wrap ((i : Int) + 1) = (i : Int) + 1 := IntWalk.i64_in _ (by omega)
      have hA : A ≠ none := fun e => by have := hP.2.2.2 e; omega
      have P1 := Lib.hid (fun (w' : World) (h : Seen w' A (pcells L)) => (show Ppl w' A1 c (L.take i) from ⟨s1 w' h, by rw [List.length_take]; omega, hP.2.2.1, fun e => absurd (n1 e) hA⟩))
      have P2 := Lib.hid (fun (w' : World) (h : Seen w' A (pcells L)) => (show Ppl w' A2 (c - (i + 1)) (L.drop (i + 1)) from ⟨s2 w' h, by rw [List.length_drop]; omega, by have := hP.2.2.1; omega, fun e => absurd (n2 e) hA⟩))
      have L1 := Lib.hid (show (L.take i).length = i by rw [List.length_take]; omega)
      have L2 := Lib.hid (show (L.drop (i + 1)).length = n - (i + 1) by rw [List.length_drop, hn])
      clear hn hP h3 s1 s2 n1 n2 q2'
      go_enter Try.func9, Try.ntmps9
      go_wp2_with fail
      refine (sPeopleValid_n _ _ _ L _ HP.out.1 HN.out hm).mono ?_
      rintro e w1 ⟨rfl, hb1⟩
      rw [h1]
      have SE := Lib.hid (show Seen (w1.alloc (.cells #[] 36)).drew A (pcells L) from (HP.out.1.below hb1).below (below_new w1 _).drew)
      have OE := Lib.hid (show (w1.alloc (.cells #[] 36)).drew.ownsRow w1.heap.size 36 4 (.slice (some ⟨w1.heap.size, 0, none⟩) 0 0) 0 (pcells []) from own_empty w1)
      have BE := Lib.hid (show Below w1.heap.size w1 (w1.alloc (.cells #[] 36)).drew from (below_new w1 _).drew)
      have S1 := Lib.hid (fun (w' : World) (h : Below w1.heap.size w1 w') => (HP.out.1.below hb1).below h)
      go_wp2_with (go_at_call 25; refine (l6In_any _ _ _ _).mono ?_; rintro e w' ⟨rfl, rfl⟩)
      go_region_held3 (fun _ => True) (trivial) (first
        | (refine step_app_many (w := (w1.alloc (.cells #[] 36)).drew) rfl (.tmp 18) (.tmp 21) rfl w1.heap.size (.slice (some ⟨w1.heap.size, 0, none⟩) 0 0) [] (L.take i) A1 0 i c rfl rfl rfl L1.out OE.out (P1.out _ SE.out) (by omega) (by omega) (by simp) ?_; intro v2 w2 ho2 hg2; simp only [Nat.zero_add, List.nil_append] at ho2; have hb2 := BE.out.grown hg2 (by simp) (by simp [Value.ownBlock]); obtain ⟨B2, d2, hv2⟩ := own_shape ho2; subst hv2)
        | (refine step_app_many (w := w2) rfl (.tmp 22) (.tmp 26) rfl w1.heap.size (.slice B2 i d2) (L.take i) (L.drop (i + 1)) A2 i (n - (i + 1)) (c - (i + 1)) rfl rfl L1.out L2.out ho2 (P2.out _ (S1.out _ hb2)) (by omega) (by omega) hb2.size ?_; intro v3 w3 ho3 hg3; have hb3 := hb2.grown hg3 hb2.size (fun g hg => (ho2.lt g hg).1); obtain ⟨B3, d3, hv3⟩ := own_shape ho3; subst hv3))
      have HH := Lib.hid (And.intro ho3 hb3)
      clear ho2 hg2 hb2 ho3 hg3 hb3
      go_wp2
      go_ret2
      exact ⟨B3, _, d3, by rw [HE.out]; rfl, by rw [woL_yes HE.out]; unfold del; rw [List.length_append, L1.out, L2.out], by rw [woL_yes HE.out]; exact own_base HH.out.1 hb1.size, below2 hb1 HH.out.2⟩

end Go.Proofs.Ytjbhnjincedkmaa
