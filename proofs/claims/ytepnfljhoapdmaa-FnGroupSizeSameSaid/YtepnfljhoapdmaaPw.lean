/- Contracts of PeopleValid (program and reference), for every list of fewer than 2^40 persons. -/
import Derived.Test.YtepnfljhoapdmaaMem
namespace Go.Proofs.Ytepnfljhoapdmaa
open Go.RowKit

theorem all_take_succ {L : List Pers} {k : Nat} {x : Pers} (h : ∀ y ∈ L.take k, okB y = true) (hx : L[k]? = some x) (hok : okB x = true) : ∀ y ∈ L.take (k + 1), okB y = true := by
  rw [List.take_add_one, hx]
  intro y hy
  simp at hy
  rcases hy with hy | rfl
  · exact h y hy
  · exact hok
theorem peopleB_bad {L : List Pers} {k : Nat} {x : Pers} (hx : L[k]? = some x) (hok : okB x = false) : peopleB L = false := by
  cases h : peopleB L with
  | false => rfl
  | true => rw [(peopleB_iff.1 h).1 x (List.mem_of_getElem? hx)] at hok; cases hok
theorem peopleB_all {L : List Pers} {k : Nat} (h : ∀ y ∈ L.take k, okB y = true) (hk : L.length ≤ k) : peopleB L = decide (L.length ≤ 40) := by
  rw [List.take_of_length_le hk] at h
  rw [Bool.eq_iff_iff, peopleB_iff]; simp; exact fun _ => h

set_option maxHeartbeats 800000 in
theorem peopleValid_any (A : Option Addr) (c : Nat) (L : List Pers) (w : World) (hA : Seen w A (pcells L)) (hm : L.length ≤ 1099511627776) :
    Calls Try.prog 40 #[.slice A L.length c] w fun e w' => e = .returned (.bool (peopleB L)) ∧ Below w.heap.size w w' := by
  rcases seen_cases hA with rfl | ⟨b, o, rfl, hlt, hc⟩
  · have e0 : peopleB [] = true := rfl
    rw [e0]
    go_enter Try.func40, Try.ntmps40
    go_wp2
    refine wp_loop_rounds 1 ?_
    rw [rounds_succ]
    go_wp2
    go_ret
    exact ⟨rfl, Below.refl _ _⟩
  · obtain ⟨n, hn⟩ : ∃ n, n = L.length := ⟨_, rfl⟩
    rw [← hn] at hm ⊢
    have HN := Lib.hid hn
    clear hn
    have HC := Lib.hid hc
    clear hc hA
    go_enter Try.func40, Try.ntmps40
    go_wp2
    go_loopw [7] (fun i wr => ∃ k : Nat, k ≤ n ∧ i = .int .i64 k ∧ Hid (∀ x ∈ L.take k, okB x = true) ∧ Below w.heap.size w wr) (fun i _ => n - (intOf i).toNat)
    case atStart => exact ⟨0, Nat.zero_le _, rfl, by unfold Hid; simp, Below.refl _ _⟩
    case round =>
      obtain ⟨k, hk, rfl, hok, hb⟩ := hrel
      by_cases hkn : k < n
      · obtain ⟨⟨a, j, s, p⟩, hx⟩ : ∃ x, L[k]? = some x := ⟨_, List.getElem?_eq_getElem (by rw [← HN.out]; exact hkn)⟩
        have HX := Lib.hid hx
        obtain ⟨g0, g1, g2, g3⟩ := cells_later hlt hb (cells_at HC.out hx)
        clear hx
        cases hv : okB ⟨a, j, s, p⟩
        · go_wp2_with (go_at_call 50; refine (personValid_any _ _ _ _ _).mono ?_; rintro e w' ⟨rfl, hb'⟩)
          go_ret
          exact ⟨ret_bool (peopleB_bad HX.out hv).symm, hb.trans (((below_new _ _).trans (hb'.mono (by simp))).mono hb.size)⟩
        · go_wp2_with (go_at_call 50; refine (personValid_any _ _ _ _ _).mono ?_; rintro e w' ⟨rfl, hb'⟩)
          go_roundw
          case rel => exact ⟨k + 1, by omega, by go_num, all_take_succ hok.out HX.out hv, hb.trans (((below_new _ _).trans (hb'.mono (by simp))).mono hb.size)⟩
          case measure => simp [intOf]; omega
      · have hfin : peopleB L = decide ((n : Int) ≤ 40) := by
          have := peopleB_all hok.out (by rw [← HN.out]; omega)
          rw [this, ← HN.out]; simp; omega
        have HF := Lib.hid hfin
        clear hfin
        go_wp2
        go_ret
        exact ⟨ret_bool HF.out.symm, hb⟩

set_option maxHeartbeats 800000 in
theorem sPeopleValid_any (A : Option Addr) (c : Nat) (L : List Pers) (w : World) (hA : Seen w A (pcells L)) (hm : L.length ≤ 1099511627776) :
    Calls Try.prog 55 #[.slice A L.length c] w fun e w' => e = .returned (.bool (peopleB L)) ∧ Below w.heap.size w w' := by
  rcases seen_cases hA with rfl | ⟨b, o, rfl, hlt, hc⟩
  · have e0 : peopleB [] = true := rfl
    rw [e0]
    go_enter Try.func55, Try.ntmps55
    go_wp2
    refine wp_loop_rounds 1 ?_
    rw [rounds_succ]
    go_wp2
    go_ret
    exact ⟨rfl, Below.refl _ _⟩
  · obtain ⟨n, hn⟩ : ∃ n, n = L.length := ⟨_, rfl⟩
    rw [← hn] at hm ⊢
    have HN := Lib.hid hn
    clear hn
    have HC := Lib.hid hc
    clear hc hA
    go_enter Try.func55, Try.ntmps55
    go_wp2
    go_loopw [3] (fun i wr => ∃ k : Nat, k ≤ n ∧ i = .int .i64 k ∧ Hid (∀ x ∈ L.take k, okB x = true) ∧ Below w.heap.size w wr) (fun i _ => n - (intOf i).toNat)
    case atStart => exact ⟨0, Nat.zero_le _, rfl, by unfold Hid; simp, Below.refl _ _⟩
    case round =>
      obtain ⟨k, hk, rfl, hok, hb⟩ := hrel
      by_cases hkn : k < n
      · obtain ⟨⟨a, j, s, p⟩, hx⟩ : ∃ x, L[k]? = some x := ⟨_, List.getElem?_eq_getElem (by rw [← HN.out]; exact hkn)⟩
        have HX := Lib.hid hx
        obtain ⟨g0, g1, g2, g3⟩ := cells_later hlt hb (cells_at HC.out hx)
        clear hx
        cases hv : okB ⟨a, j, s, p⟩
        · go_wp2_with (go_at_call 60; refine (sPersonValid_any _ _ _ _ _).mono ?_; rintro e w' ⟨rfl, hb'⟩)
          go_ret
          exact ⟨ret_bool (peopleB_bad HX.out hv).symm, hb.trans (hb'.mono hb.size)⟩
        · go_wp2_with (go_at_call 60; refine (sPersonValid_any _ _ _ _ _).mono ?_; rintro e w' ⟨rfl, hb'⟩)
          go_roundw
          case rel => exact ⟨k + 1, by omega, by go_num, all_take_succ hok.out HX.out hv, hb.trans (hb'.mono hb.size)⟩
          case measure => simp [intOf]; omega
      · have hfin : peopleB L = decide ((n : Int) ≤ 40) := by
          have := peopleB_all hok.out (by rw [← HN.out]; omega)
          rw [this, ← HN.out]; simp; omega
        have HF := Lib.hid hfin
        clear hfin
        go_wp2
        go_ret
        exact ⟨ret_bool HF.out.symm, hb⟩

end Go.Proofs.Ytepnfljhoapdmaa
