/- Contract of DrawPeopleValid: some list of at most 41 persons in new memory. -/
import Derived.Test.YtljlebaallcekaaPe
namespace Go.Proofs.Ytljlebaallcekaa
open Go.RowKit
set_option linter.unusedVariables false

/-- The slice '.slice A _ c' holds the persons L. -/
def Ppl (w : World) (A : Option Addr) (c : Nat) (L : List Pers) : Prop := Seen w A (pcells L) ∧ L.length ≤ c ∧ c ≤ 9223372036854775807 ∧ (A = none → c = 0)
theorem Ppl.below {w w' : World} {A : Option Addr} {c : Nat} {L : List Pers} (h : Ppl w A c L) (hb : Below w.heap.size w w') : Ppl w' A c L := ⟨h.1.below hb, h.2⟩
theorem ppl_own {w : World} {B c : Nat} {A : Option Addr} {L : List Pers} (h : w.ownsRow B 28 4 (.slice A L.length c) L.length (pcells L)) : Ppl w A c L := by
  refine ⟨fun h0 => ?_, ?_⟩
  · have hpos : 0 < L.length := by rw [pcells_length] at h0; omega
    obtain ⟨g, cap, hv, _, hlt⟩ := h.form hpos
    injection hv with hA _ hc
    subst hA hc
    refine ⟨g, 0, rfl, hlt, fun j u hu => ?_⟩
    have hj : j < L.length * 4 := by
      rw [← pcells_length]
      rcases Nat.lt_or_ge j (pcells L).length with h | h
      · exact h
      · rw [List.getElem?_eq_none h] at hu; cases hu
    rw [Nat.zero_add, h.cellAt j hj]
    exact hu
  · rcases h.2 with ⟨hv, hn⟩ | ⟨g, cap, cur, hv, _, _, hnc, hcm, _⟩
    · injection hv with _ _ hc
      exact ⟨by omega, by omega, fun _ => hc⟩
    · injection hv with hA _ hc
      unfold maxLen at hcm
      exact ⟨by omega, by omega, fun e => by rw [hA] at e; cases e⟩

/-- What a draw of people leaves. -/
def DrawnPost (m : Nat) (w : World) (e : Ending) (w' : World) : Prop := ∃ A c L, e = .returned (.slice A L.length c) ∧ Ppl w' A c L ∧ L.length ≤ m ∧ Below w.heap.size w w'

set_option maxHeartbeats 800000 in
theorem drawPeopleValid_any (A : Option Addr) (n c : Nat) (w : World) (hin : BytesIn w A n c) : Calls Try.prog 23 #[.slice A n c] w (DrawnPost 41 w) := by
  go_enter Try.func23, Try.ntmps23
  go_wp2_with fail
  refine (l6Open_any A n c w hin).mono ?_
  rintro e w1 ⟨g, rfl, hr1, hb1⟩
  have hlt1 := hr1.lt
  go_wp2_with fail
  refine (l91People_any _ g 0 6 _ hr1 (by omega) (by omega) (by omega)).mono ?_
  rintro e w2 ⟨A2, c2, L, q, rfl, ho2, hm, hr2, hq, hg2⟩
  have hb2 := below_grown hb1 hg2 (Nat.le_refl _) hr1.1
  by_cases h3 : 3 < L.length
  · have h3' : (3 : Int) < (L.length : Int) := by omega
    go_wp2_with fail
    refine (pick_any _ g q 10 _ hr2 (by omega) (by omega)).mono ?_
    rintro e w3 ⟨t, rfl, ⟨t0, _, _⟩, hr3, hg3⟩
    have ho3 := ho2.kept hg3 (.inr (fun e => by have := (ho2.lt g e).1; omega))
    have hb3 := below_grown hb2 hg3 (Nat.le_refl _) hr1.1
    cases ht : (t == 0)
    · go_wp2
      go_ret
      exact ⟨A2, c2, L, rfl, ppl_own ho3, by omega, hb3⟩
    · have hz1 := hb1.size
      have hz3 : w1.heap.size ≤ w3.heap.size := Nat.le_trans hg2.size hg3.size
      have HL := Lib.hid (rfl : L.length = L.length)
      go_wp2_with fail
      go_loopw [4] (fun v wr => ∃ (k : Nat) (M : List Pers) (A' : Option Addr) (c' : Nat), v = .slice A' k c' ∧ Hid (M.length = k) ∧ 3 < k ∧ k ≤ 41 ∧ wr.ownsRow w1.heap.size 28 4 v k (pcells M) ∧ Below w.heap.size w wr ∧ w1.heap.size ≤ wr.heap.size) (fun v _ => match v with | .slice _ k _ => 41 - k | _ => 0)
      case atStart => exact ⟨L.length, L, A2, c2, rfl, rfl, by omega, by omega, ho3, hb3, hz3⟩
      case round =>
        obtain ⟨k, M, A', c', rfl, hM, hk3, hk41, hown, hb, hzr⟩ := hrel
        obtain ⟨g', cap, hv, hB', hlt'⟩ := hown.form (by omega)
        injection hv with hA _ hcc
        subst hA hcc
        by_cases hk : k ≤ 40
        · obtain ⟨⟨a, j, s, p⟩, hx⟩ : ∃ x, M[1]? = some x := ⟨_, List.getElem?_eq_getElem (by rw [hM.out]; omega)⟩
          obtain ⟨c0, c1, c2, c3⟩ := own_at (by rw [hM.out]; exact hown) hM.out hx
          have hk' : (1 : Int) < (k : Int) := by omega
          have HX := Lib.hid hx
          clear hx
          go_wp2_with (at_builtin; refine app_one (wx := wr) rfl (.tmp 20) (.tmp 24) rfl w1.heap.size (.slice (some ⟨g', 0, none⟩) k c') M a j s p (wr.heap.size) rfl rfl rfl (by rw [hM.out]; exact hown) (by rw [hM.out]; omega) hzr ?_; intro v' w4 hown' hgrow)
          obtain ⟨g1, cap1, hv', _⟩ := hown'.form (by omega)
          have e1 := hM.out
          rw [e1] at hown' hv'
          have hb4 : Below w.heap.size w w4 := (hb.trans ((below_new wr _).mono hb.size)).grown hgrow (by have := hb.size; simp; omega) (fun i hi => by simp [Value.ownBlock] at hi; omega)
          go_roundw
          case rel => exact ⟨k + 1, M ++ [⟨a, j, s, p⟩], _, _, hv', by unfold Hid; rw [List.length_append, e1]; rfl, by omega, by omega, by rw [pcells_append]; exact hown', hb4, by have := hgrow.size; simp at this; omega⟩
          case measure => rw [hv']; simp; omega
        · go_wp2
          go_ret
          refine ⟨_, _, M, by rw [hM.out]; rfl, ?_, by rw [hM.out]; omega, hb⟩
          exact ppl_own (by rw [hM.out]; exact hown)
  · have h3' : ¬ (3 : Int) < (L.length : Int) := by omega
    have h3d : decide ((3 : Int) < (L.length : Int)) = false := by simpa using h3'
    have h3e : decide (3 < L.length) = false := by simpa using h3
    go_wp2
    go_ret
    exact ⟨A2, c2, L, rfl, ppl_own ho2, by omega, hb2⟩

end Go.Proofs.Ytljlebaallcekaa
