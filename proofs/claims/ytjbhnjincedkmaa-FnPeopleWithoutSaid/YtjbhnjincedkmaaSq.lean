/- Contract of samePeople: comparing lists of people. -/
import Derived.Test.YtjbhnjincedkmaaPp
import Derived.Deep.QuietTactic
import Derived.BigQuiet
import Derived.Laws.StructEq
namespace Go.Proofs.Ytjbhnjincedkmaa
open Go.RowKit
set_option linter.unusedVariables false

def samB (x y : Pers) : Bool := x.a == y.a && (x.j == y.j && (x.s == y.s && x.p == y.p))
theorem samB_iff {x y : Pers} : samB x y = true ↔ x = y := by
  unfold samB; simp
  exact ⟨fun h => Pers.same h.1 h.2.1 h.2.2.1 h.2.2.2, fun h => by subst h; simp⟩
def samAll : List Pers → List Pers → Bool
  | [], [] => true
  | x :: L, y :: M => samB x y && samAll L M
  | _, _ => false
theorem samAll_iff : ∀ {L M : List Pers}, samAll L M = true ↔ L = M
  | [], [] => by simp [samAll]
  | x :: L, y :: M => by simp [samAll, samB_iff, samAll_iff (L := L) (M := M)]
  | [], y :: M => by simp [samAll]
  | x :: L, [] => by simp [samAll]
theorem samAll_self (L : List Pers) : samAll L L = true := samAll_iff.2 rfl
theorem samAll_len {L M : List Pers} (h : L.length ≠ M.length) : samAll L M = false := by
  cases he : samAll L M with
  | false => rfl
  | true => rw [samAll_iff.1 he] at h; exact absurd rfl h
theorem samAll_no {L M : List Pers} {k : Nat} {x y : Pers} (hx : L[k]? = some x) (hy : M[k]? = some y) (h : samB x y = false) : samAll L M = false := by
  cases he : samAll L M with
  | false => rfl
  | true =>
    rw [samAll_iff.1 he, hy] at hx
    injection hx with hx
    rw [samB_iff.2 hx.symm] at h; cases h
theorem samAll_yes {L M : List Pers} {k : Nat} (hl : L.length = k) (hm : M.length = k) (h : L.take k = M.take k) : samAll L M = true := by
  rw [List.take_of_length_le (by omega), List.take_of_length_le (by omega)] at h
  exact samAll_iff.2 h
theorem sam_take {L M : List Pers} {k : Nat} {x y : Pers} (h : L.take k = M.take k) (hx : L[k]? = some x) (hy : M[k]? = some y) (hs : samB x y = true) : L.take (k + 1) = M.take (k + 1) := by
  rw [List.take_add_one, List.take_add_one, hx, hy, h, samB_iff.1 hs]

theorem neqP (a j s p a' j' s' p' : Int) (w : World) : (binOp .neq 36 (.agg #[.int .i64 a, .int .i64 j, .int .i64 s, .int .i64 p]) (.agg #[.int .i64 a', .int .i64 j', .int .i64 s', .int .i64 p'])).run Try.prog w = .ok (.bool (!samB ⟨a, j, s, p⟩ ⟨a', j', s', p'⟩)) w := by
  have hS : Try.prog.underlying 36 = some (.struct (Try.prog.fieldsOf 36)) := by kernel_rfl
  have hp : Try.prog.stoodInHeld 36 = false := by kernel_rfl
  have u3 := Try.underlying3
  have a3 := Try.isAgg3
  have z3 := Try.sizeOf3
  rw [run_neq_struct, show (10000 : Nat) = 9999 + 1 from rfl, run_equalIn_agg w 9999 36 _ _ hS hp]
  simp only [Program.fieldsOf, Try.underlying36]
  go_simp
  by_cases h1 : a = a' <;> by_cases h2 : j = j' <;> by_cases h3 : s = s' <;> by_cases h4 : p = p' <;> simp [samB, h1, h2, h3, h4]

set_option maxHeartbeats 1600000 in
theorem samePeople_any (A A' : Option Addr) (n n' c c' : Nat) (L M : List Pers) (w : World) (hA : Seen w A (pcells L)) (hA' : Seen w A' (pcells M)) (hs : L.length = n) (ht : M.length = n') (hm : n ≤ 1099511627776) (hm' : n' ≤ 1099511627776) :
    Calls Try.prog 10 #[.slice A n c, .slice A' n' c'] w fun e w' => e = .returned (.bool (samAll L M)) ∧ Below w.heap.size w w' := by
  by_cases hlen : n = n'
  · subst hlen
    rcases Nat.eq_zero_or_pos n with hn0 | hn0
    · subst hn0
      have e1 : samAll L M = true := samAll_yes hs ht rfl
      rw [e1]
      clear hA hA' hs ht e1
      go_enter Try.func10, Try.ntmps10
      go_wp2
      refine wp_loop_rounds 1 ?_
      rw [rounds_succ]
      go_wp2
      go_ret
      exact ⟨rfl, Below.refl _ _⟩
    · obtain ⟨b, o, rfl, hlt, hc⟩ := hA (by rw [pcells_length]; omega)
      obtain ⟨b', o', rfl, hlt', hc'⟩ := hA' (by rw [pcells_length]; omega)
      have HS := Lib.hid hs
      have HT := Lib.hid ht
      have HC := Lib.hid hc
      have HC' := Lib.hid hc'
      have hne : ((n : Int) != (n : Int)) = false := by simp
      clear hs ht hc hc' hA hA' hm'
      go_enter Try.func10, Try.ntmps10
      go_wp2
      go_loopw [5] (fun i wr => ∃ k : Nat, k ≤ n ∧ i = .int .i64 k ∧ Hid (L.take k = M.take k) ∧ Below w.heap.size w wr) (fun i _ => n - (intOf i).toNat)
      case atStart => exact ⟨0, Nat.zero_le _, rfl, by unfold Hid; simp, Below.refl _ _⟩
      case round =>
        obtain ⟨k, hk, rfl, hok, hb⟩ := hrel
        by_cases hkn : k < n
        · obtain ⟨⟨a, j, s, p⟩, hx⟩ : ∃ x, L[k]? = some x := ⟨_, List.getElem?_eq_getElem (by rw [HS.out]; exact hkn)⟩
          obtain ⟨⟨a', j', s', p'⟩, hx'⟩ : ∃ x, M[k]? = some x := ⟨_, List.getElem?_eq_getElem (by rw [HT.out]; exact hkn)⟩
          have HX := Lib.hid hx
          have HX' := Lib.hid hx'
          obtain ⟨g0, g1, g2, g3⟩ := cells_later hlt hb (cells_at HC.out hx)
          obtain ⟨f0, f1, f2, f3⟩ := cells_later hlt' hb (cells_at HC'.out hx')
          clear hx hx'
          have hq := neqP a j s p a' j' s' p'
          have kk : (k : Int) < (n : Int) := by omega
          cases hv : samB ⟨a, j, s, p⟩ ⟨a', j', s', p'⟩
          · rw [hv] at hq
            go_wp2
            go_quiet (fail)
            go_wp2
            go_ret
            exact ⟨ret_bool (samAll_no HX.out HX'.out hv).symm, ⟨hb.os, hb.tape, hb.output, hb.size, hb.block⟩⟩
          · rw [hv] at hq
            go_wp2
            go_quiet (fail)
            go_wp2
            go_roundw
            case rel => exact ⟨k + 1, by omega, by go_num, sam_take hok.out HX.out HX'.out hv, ⟨hb.os, hb.tape, hb.output, hb.size, hb.block⟩⟩
            case measure => simp [intOf]; omega
        · have hfin : samAll L M = true := samAll_yes (k := k) (by rw [HS.out]; omega) (by rw [HT.out]; omega) hok.out
          have HF := Lib.hid hfin
          clear hfin
          go_wp2
          go_ret
          exact ⟨ret_bool HF.out.symm, hb⟩
  · have hfin : samAll L M = false := samAll_len (by rw [hs, ht]; exact hlen)
    have HF := Lib.hid hfin
    have hne : ((n : Int) != (n' : Int)) = true := by simp; omega
    clear hfin hlen hA hA' hs ht
    go_enter Try.func10, Try.ntmps10
    go_wp2
    go_ret
    exact ⟨ret_bool HF.out.symm, Below.refl _ _⟩

end Go.Proofs.Ytjbhnjincedkmaa
