/- Contracts of the exact laws' helpers on persons: toPerson, toPersonS, szPersonS, eqPerson, eqPersonS. -/
import Derived.Test.YtepnfljhoapdmaaMem
import Derived.Deep.QuietTactic
import Derived.BigQuiet
import Derived.Deep.RegionWith
namespace Go.Proofs.Ytepnfljhoapdmaa
open Go.RowKit

theorem below_alloc {B : Nat} {w w' : World} (h : Below B w w') (hB : B ≤ w.heap.size) (o : Obj) : Below B w (w'.alloc o) := h.alloc (Nat.le_trans hB h.size) o

set_option maxHeartbeats 400000 in
theorem toPerson_any (a j s p : Int) (w : World) : Calls Try.prog 33 #[.agg #[.int .i64 a, .int .i64 j, .int .i64 s, .int .i64 p]] w fun e w' => e = .returned (.agg #[.int .i64 a, .int .i64 j, .int .i64 s, .int .i64 p]) ∧ Below w.heap.size w w' := by
  go_enter Try.func33, Try.ntmps33
  go_wp2
  exact bodyPost_ret (v := .agg #[.int .i64 a, .int .i64 j, .int .i64 s, .int .i64 p]) (by simp [results, Try.results33, go_sem]) rfl ⟨rfl, below_alloc (below_alloc (below_alloc (Below.refl _ _) (Nat.le_refl _) _) (Nat.le_refl _) _) (Nat.le_refl _) _⟩

set_option maxHeartbeats 400000 in
theorem szPersonS_any (A : Option Addr) (n c : Nat) (l : Int) (w : World) (hn : n ≤ 9223372036854775807) (h0 : 0 ≤ l) (h1 : l ≤ 1048576) :
    Calls Try.prog 13 #[.slice A n c, .int .i64 l] w fun e w' => e = .returned (.int .i64 (if l - n < 0 then -1 else l - n)) ∧ w = w' := by
  by_cases h : l - n < 0
  · rw [if_pos h]
    go_enter Try.func13, Try.ntmps13
    go_wp2
    go_ret
    exact ⟨rfl, rfl⟩
  · rw [if_neg h]
    go_enter Try.func13, Try.ntmps13
    go_wp2
    go_ret
    exact ⟨rfl, rfl⟩

def sameB (x y : Pers) : Bool := x.a == y.a && (x.j == y.j && (x.s == y.s && x.p == y.p))
theorem sameB_iff {x y : Pers} : sameB x y = true ↔ x = y := by
  unfold sameB; simp
  exact ⟨fun h => Pers.same h.1 h.2.1 h.2.2.1 h.2.2.2, fun h => by subst h; simp⟩

theorem same_n1 {a j s p a' j' s' p' : Int} (h : (a != a') = true) : false = sameB ⟨a, j, s, p⟩ ⟨a', j', s', p'⟩ := by simp at h; simp [sameB, h]
theorem same_n2 {a j s p a' j' s' p' : Int} (h : (j != j') = true) : false = sameB ⟨a, j, s, p⟩ ⟨a', j', s', p'⟩ := by simp at h; simp [sameB, h]
theorem same_n3 {a j s p a' j' s' p' : Int} (h : (s != s') = true) : false = sameB ⟨a, j, s, p⟩ ⟨a', j', s', p'⟩ := by simp at h; simp [sameB, h]
theorem same_n4 {a j s p a' j' s' p' : Int} (h : (p != p') = true) : false = sameB ⟨a, j, s, p⟩ ⟨a', j', s', p'⟩ := by simp at h; simp [sameB, h]
theorem same_y {a j s p a' j' s' p' : Int} (h1 : (a != a') = false) (h2 : (j != j') = false) (h3 : (s != s') = false) (h4 : (p != p') = false) : true = sameB ⟨a, j, s, p⟩ ⟨a', j', s', p'⟩ := by
  simp at h1 h2 h3 h4; simp [sameB, h1, h2, h3, h4]

set_option maxHeartbeats 800000 in
theorem eqPerson_any (a j s p a' j' s' p' : Int) (w : World) : Calls Try.prog 35 #[.agg #[.int .i64 a, .int .i64 j, .int .i64 s, .int .i64 p], .agg #[.int .i64 a', .int .i64 j', .int .i64 s', .int .i64 p']] w
    fun e w' => e = .returned (.bool (sameB ⟨a, j, s, p⟩ ⟨a', j', s', p'⟩)) ∧ Below w.heap.size w w' := by
  have hB : ∀ o o' : Obj, Below w.heap.size w ((w.alloc o).alloc o') := fun o o' => below_alloc (below_new _ _) (Nat.le_refl _) _
  go_enter Try.func35, Try.ntmps35
  go_wp2
  all_goals
    go_ret
    first
      | exact ⟨ret_bool (same_n1 ‹_›), hB _ _⟩
      | exact ⟨ret_bool (same_n2 ‹_›), hB _ _⟩
      | exact ⟨ret_bool (same_n3 ‹_›), hB _ _⟩
      | exact ⟨ret_bool (same_n4 ‹_›), hB _ _⟩
      | exact ⟨ret_bool (same_y ‹_› ‹_› ‹_› ‹_›), hB _ _⟩

def eqAllB : List Pers → List Pers → Bool
  | [], [] => true
  | x :: L, y :: M => sameB x y && eqAllB L M
  | _, _ => false
theorem eqAllB_iff : ∀ {L M : List Pers}, eqAllB L M = true ↔ L = M
  | [], [] => by simp [eqAllB]
  | x :: L, y :: M => by simp [eqAllB, sameB_iff, eqAllB_iff (L := L) (M := M)]
  | [], y :: M => by simp [eqAllB]
  | x :: L, [] => by simp [eqAllB]
theorem eqAllB_len {L M : List Pers} (h : L.length ≠ M.length) : false = eqAllB L M := by
  cases he : eqAllB L M with
  | false => rfl
  | true => rw [eqAllB_iff.1 he] at h; exact absurd rfl h
theorem eqAllB_no {L M : List Pers} {k : Nat} {x y : Pers} (hx : L[k]? = some x) (hy : M[k]? = some y) (h : sameB x y = false) : false = eqAllB L M := by
  cases he : eqAllB L M with
  | false => rfl
  | true =>
    rw [eqAllB_iff.1 he, hy] at hx
    injection hx with hx
    rw [sameB_iff.2 hx.symm] at h; cases h
theorem eqAllB_yes {L M : List Pers} (hl : L.length = M.length) (h : L.take L.length = M.take L.length) : true = eqAllB L M := by
  refine (eqAllB_iff.2 ?_).symm
  rw [List.take_of_length_le (Nat.le_refl _), List.take_of_length_le (by omega)] at h
  exact h
theorem take_same {L M : List Pers} {k : Nat} {x y : Pers} (h : L.take k = M.take k) (hx : L[k]? = some x) (hy : M[k]? = some y) (hs : sameB x y = true) : L.take (k + 1) = M.take (k + 1) := by
  rw [List.take_add_one, List.take_add_one, hx, hy, h, sameB_iff.1 hs]

set_option maxHeartbeats 800000 in
theorem eqPersonS_any (A A' : Option Addr) (c c' : Nat) (L M : List Pers) (w : World) (hA : Seen w A (pcells L)) (hA' : Seen w A' (pcells M)) (hm : L.length ≤ 1099511627776) (hm' : M.length ≤ 1099511627776) :
    Calls Try.prog 20 #[.slice A L.length c, .slice A' M.length c'] w fun e w' => e = .returned (.bool (eqAllB L M)) ∧ Below w.heap.size w w' := by
  by_cases hlen : L.length = M.length
  · rcases seen_cases hA with rfl | ⟨b, o, rfl, hlt, hc⟩
    · have e0 : M = [] := List.eq_nil_of_length_eq_zero (by simpa using hlen.symm)
      subst e0
      have e1 : eqAllB [] [] = true := rfl
      rw [e1]
      go_enter Try.func20, Try.ntmps20
      go_wp2
      refine wp_loop_rounds 1 ?_
      rw [rounds_succ]
      go_wp2
      go_ret
      exact ⟨rfl, Below.refl _ _⟩
    · rcases seen_cases hA' with rfl | ⟨b', o', rfl, hlt', hc'⟩
      · have e0 : L = [] := List.eq_nil_of_length_eq_zero (by simpa using hlen)
        subst e0
        have e1 : eqAllB [] [] = true := rfl
        rw [e1]
        go_enter Try.func20, Try.ntmps20
        go_wp2
        refine wp_loop_rounds 1 ?_
        rw [rounds_succ]
        go_wp2
        go_ret
        exact ⟨rfl, Below.refl _ _⟩
      · obtain ⟨n, hn⟩ : ∃ n, n = L.length := ⟨_, rfl⟩
        rw [← hlen] at hm' ⊢
        rw [← hn] at hm ⊢
        have HN := Lib.hid hn
        have HL := Lib.hid hlen
        have HC := Lib.hid hc
        have HC' := Lib.hid hc'
        have hne : ((n : Int) != (n : Int)) = false := by simp
        clear hn hlen hc hc' hA hA' hm'
        go_enter Try.func20, Try.ntmps20
        go_wp2
        go_loopw [5] (fun i wr => ∃ k : Nat, k ≤ n ∧ i = .int .i64 k ∧ Hid (L.take k = M.take k) ∧ Below w.heap.size w wr) (fun i _ => n - (intOf i).toNat)
        case atStart => exact ⟨0, Nat.zero_le _, rfl, by unfold Hid; simp, Below.refl _ _⟩
        case round =>
          obtain ⟨k, hk, rfl, hok, hb⟩ := hrel
          by_cases hkn : k < n
          · obtain ⟨⟨a, j, s, p⟩, hx⟩ : ∃ x, L[k]? = some x := ⟨_, List.getElem?_eq_getElem (by rw [← HN.out]; exact hkn)⟩
            obtain ⟨⟨a', j', s', p'⟩, hx'⟩ : ∃ x, M[k]? = some x := ⟨_, List.getElem?_eq_getElem (by rw [← HL.out, ← HN.out]; exact hkn)⟩
            have HX := Lib.hid hx
            have HX' := Lib.hid hx'
            obtain ⟨g0, g1, g2, g3⟩ := cells_later hlt hb (cells_at HC.out hx)
            obtain ⟨f0, f1, f2, f3⟩ := cells_later hlt' hb (cells_at HC'.out hx')
            clear hx hx'
            cases hv : sameB ⟨a, j, s, p⟩ ⟨a', j', s', p'⟩
            · go_wp2
              go_region_with (go_at_call 35; refine (eqPerson_any _ _ _ _ _ _ _ _ _).mono ?_; rintro e w' ⟨rfl, hb'⟩)
              all_goals
                go_wp2
                go_ret
                exact ⟨ret_bool (eqAllB_no HX.out HX'.out hv), hb.trans ((Below.trans (Below.refl _ _).drew hb').mono hb.size)⟩
            · go_wp2
              go_region_with (go_at_call 35; refine (eqPerson_any _ _ _ _ _ _ _ _ _).mono ?_; rintro e w' ⟨rfl, hb'⟩)
              all_goals
                go_wp2
                go_roundw
                case rel => exact ⟨k + 1, by omega, by go_num, take_same hok.out HX.out HX'.out hv, hb.trans ((Below.trans (Below.refl _ _).drew hb').mono hb.size)⟩
                case measure => simp [intOf]; omega
          · have hfin := eqAllB_yes HL.out (by have e := HN.out; have : k = L.length := by omega
                                               rw [← this]; exact hok.out)
            have HF := Lib.hid hfin
            clear hfin
            go_wp2
            go_ret
            exact ⟨ret_bool HF.out, hb⟩
  · have hfin := eqAllB_len hlen
    have HF := Lib.hid hfin
    have hne : ((L.length : Int) != (M.length : Int)) = true := by simp; omega
    clear hfin hlen
    go_enter Try.func20, Try.ntmps20
    go_wp2
    go_ret
    exact ⟨ret_bool HF.out, Below.refl _ _⟩

end Go.Proofs.Ytepnfljhoapdmaa
