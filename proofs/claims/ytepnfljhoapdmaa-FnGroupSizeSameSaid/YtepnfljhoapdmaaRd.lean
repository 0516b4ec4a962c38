/- Contracts of the reader of codes: l6Open, pick. A reader has a place of at most a million. -/
import Derived.Test.YtepnfljhoapdmaaOa
import Derived.Deep.QuietTactic
import Derived.BigQuiet
import Derived.IntWalk
namespace Go.Proofs.Ytepnfljhoapdmaa
open Go.RowKit
set_option linter.unusedVariables false

/-- The reader in block g, at place p; its bytes lie below 'base'. -/
def Rdr (base : Nat) (w : World) (g p : Nat) : Prop :=
  base ≤ g ∧ ∃ (A : Option Addr) (n c : Nat) (z : List Int), w.heap[g]? = some (.cells #[.slice A n c, .int .i64 (p : Nat)] 73 (0, 0)) ∧ n ≤ 2000 ∧ z.length = n ∧ (∀ x ∈ z, 0 ≤ x ∧ x < 256) ∧
    (0 < n → ∃ b o, A = some ⟨b, o, none⟩ ∧ b < base ∧ ∀ j x, z[j]? = some x → w.cell? ⟨b, o + j, none⟩ = some (.int .u8 x))

theorem Rdr.lt {base : Nat} {w : World} {g p : Nat} (h : Rdr base w g p) : g < w.heap.size := by
  obtain ⟨_, A, n, c, z, h, _⟩ := h
  rcases Nat.lt_or_ge g w.heap.size with hlt | hge
  · exact hlt
  · rw [Array.getElem?_eq_none hge] at h; cases h
theorem Rdr.keep {base : Nat} {w w' : World} {g p : Nat} (h : Rdr base w g p) (hb : Below base w w') (hg : w'.heap[g]? = w.heap[g]?) : Rdr base w' g p := by
  obtain ⟨h0, A, n, c, z, h, h1, h2, h3, h4⟩ := h
  refine ⟨h0, A, n, c, z, hg.trans h, h1, h2, h3, fun hn => ?_⟩
  obtain ⟨b, o, e, hlt, hc⟩ := h4 hn
  exact ⟨b, o, e, hlt, fun j x hx => (hb.cell (p := ⟨b, o + j, none⟩) hlt).trans (hc j x hx)⟩
theorem Rdr.below {base : Nat} {w w' : World} {g p : Nat} (h : Rdr base w g p) (hb : Below w.heap.size w w') : Rdr base w' g p :=
  h.keep (hb.mono (Nat.le_trans h.1 (Nat.le_of_lt h.lt))) (hb.block g h.lt)

/-- The place of the reader has gone on by one; nothing else has turned. -/
theorem Rdr.next {base : Nat} {w : World} {g p : Nat} (h : Rdr base w g p) : Rdr base (w.setCell ⟨g, 1, none⟩ (.int .i64 ((p : Nat) + 1 : Int))) g (p + 1) := by
  obtain ⟨h0, A, n, c, z, h, h1, h2, h3, h4⟩ := h
  refine ⟨h0, A, n, c, z, ?_, h1, h2, h3, fun hn => ?_⟩
  · have := heap_setCell_same w g 1 _ _ (.int .i64 ((p : Nat) + 1 : Int)) h
    rw [this]
    simp
  · obtain ⟨b, o, e, hlt, hc⟩ := h4 hn
    exact ⟨b, o, e, hlt, fun j x hx => by
      rw [World.cell?_of_block (Below.heap_setCell w ⟨g, 1, none⟩ _ b (by simp; omega))]
      exact hc j x hx⟩
theorem grown_set (w : World) (g i : Nat) (v : Value) : w.grownBy (w.setCell ⟨g, i, none⟩ v) (some g) :=
  ⟨rfl, rfl, rfl, by simp [World.setCell], fun k _ hne => Below.heap_setCell w ⟨g, i, none⟩ v k (fun e => hne (by rw [e]))⟩

theorem rdr_drewN {base : Nat} {w : World} {g p : Nat} (h : Rdr base w g p) (k : Nat) : Rdr base (w.drewN k) g p := h
theorem grown_drewN {w w' : World} {row : Option Nat} (h : w.grownBy w' row) (k : Nat) : w.grownBy (w'.drewN k) row := ⟨h.os, h.tape, h.output, h.size, h.block⟩

/-- What a pick from N gives. -/
def Picked (N v : Int) : Prop := 0 ≤ v ∧ v ≤ 9223372036854775807 ∧ (1 ≤ N → v < N)

def PickPost (base g p : Nat) (N : Int) (w : World) (e : Ending) (w' : World) : Prop := ∃ v : Int, e = .returned (.int .i64 v) ∧ Picked N v ∧ Rdr base w' g (p + 1) ∧ w.grownBy w' (some g)

theorem cell_two {w : World} {g : Nat} {u v : Value} {t : TypeId} (h : w.heap[g]? = some (.cells #[u, v] t (0, 0))) : w.cell? ⟨g, 0, none⟩ = some u ∧ w.cell? ⟨g, 1, none⟩ = some v ∧ w.frozen? ⟨g, 1, none⟩ = false :=
  ⟨cell_of_row w g 0 _ _ _ h, cell_of_row w g 1 _ _ _ h, frozen_of_row w g 1 _ _ h⟩

set_option maxHeartbeats 400000 in
theorem pick_none (base g p : Nat) (N : Int) (w : World) (h : Rdr base w g p) (hp : p ≤ 1000000) (hN : N < 1) : Calls Try.prog 49 #[.pointer (some ⟨g, 0, none⟩), .int .i64 N] w (PickPost base g p N w) := by
  have HR := Lib.hid h
  obtain ⟨_, A, n, c, z, hg, _⟩ := h
  obtain ⟨c0, c1, f1⟩ := cell_two hg
  clear hg
  have hd : decide (N < 1) = true := by simpa using hN
  go_enter Try.func49, Try.ntmps49
  go_wp2
  go_ret
  exact ⟨0, rfl, ⟨by omega, by omega, fun h => by omega⟩, HR.out.next, grown_set _ _ _ _⟩

set_option maxHeartbeats 400000 in
theorem pick_empty (base g p c : Nat) (A : Option Addr) (N : Int) (w : World) (h : Rdr base w g p) (hp : p ≤ 1000000) (hN : ¬ N < 1) (hg : w.heap[g]? = some (.cells #[.slice A 0 c, .int .i64 (p : Nat)] 73 (0, 0))) :
    Calls Try.prog 49 #[.pointer (some ⟨g, 0, none⟩), .int .i64 N] w (PickPost base g p N w) := by
  have HR := Lib.hid h
  obtain ⟨c0, c1, f1⟩ := cell_two hg
  clear hg h
  have hd : decide (N < 1) = false := by simpa using hN
  go_enter Try.func49, Try.ntmps49
  go_wp2
  go_ret
  exact ⟨0, rfl, ⟨by omega, by omega, fun h => by omega⟩, HR.out.next, grown_set _ _ _ _⟩

set_option maxHeartbeats 400000 in
theorem pick_first (base g p n c b o : Nat) (x N : Int) (w : World) (h : Rdr base w g p) (hp : p ≤ 1000000) (hn : n ≤ 2000) (hN : ¬ N < 1) (hN' : N ≤ 9223372036854775807) (hpn : p < n) (hbg : ¬ b = g)
    (hg : w.heap[g]? = some (.cells #[.slice (some ⟨b, o, none⟩) n c, .int .i64 (p : Nat)] 73 (0, 0))) (hx : w.cell? ⟨b, o + p, none⟩ = some (.int .u8 x)) (h0 : 0 ≤ x) (h1 : x < 256) :
    Calls Try.prog 49 #[.pointer (some ⟨g, 0, none⟩), .int .i64 N] w (PickPost base g p N w) := by
  have HR := Lib.hid h
  obtain ⟨c0, c1, f1⟩ := cell_two hg
  clear hg h
  have hd : decide (N < 1) = false := by simpa using hN
  have hn0 : ((n : Int) == 0) = false := by simp; omega
  go_enter Try.func49, Try.ntmps49
  go_wp2
  go_ret
  exact ⟨x % N, rfl, ⟨Int.emod_nonneg _ (by omega), by have := Int.emod_lt_of_pos x (show 0 < N by omega); omega, fun h => Int.emod_lt_of_pos x (by omega)⟩, HR.out.next, grown_set _ _ _ _⟩

/-- The exclusive or of two numbers that are not negative is not negative. -/
theorem xor_in (a b : Int) (ha : 0 ≤ a) (ha' : a < 1099511627776) (hb : 0 ≤ b) (hb' : b < 1099511627776) : 0 ≤ bits .xor .i64 a b ∧ bits .xor .i64 a b < 1099511627776 := by
  obtain ⟨a, rfl⟩ := Int.eq_ofNat_of_zero_le ha
  obtain ⟨b, rfl⟩ := Int.eq_ofNat_of_zero_le hb
  have hx : a ^^^ b < 2 ^ 40 := Nat.xor_lt_two_pow (by omega) (by omega)
  have h1 : (BitVec.ofInt 64 (a : Int)).toNat = a := by
    rw [BitVec.ofInt_natCast, BitVec.toNat_ofNat]; exact Nat.mod_eq_of_lt (by omega)
  have h2 : (BitVec.ofInt 64 (b : Int)).toNat = b := by
    rw [BitVec.ofInt_natCast, BitVec.toNat_ofNat]; exact Nat.mod_eq_of_lt (by omega)
  have e : bits .xor .i64 (a : Int) (b : Int) = ((a ^^^ b : Nat) : Int) := by
    show IntKind.i64.wrap ((BitVec.ofInt 64 (a : Int) ^^^ BitVec.ofInt 64 (b : Int)).toNat : Int) = _
    rw [BitVec.toNat_xor, h1, h2]
    exact IntWalk.i64_in _ (by omega)
  rw [e]
  omega

theorem mixed (x y : Int) (p n : Nat) (N : Int) (hp : p ≤ 1000000) (hN : ¬ N < 1) (hN' : N ≤ 9223372036854775807) (h0 : 0 ≤ x) (h1 : x < 256) (h2 : 0 ≤ y) (h3 : y < 256) (d0 : 0 ≤ (p : Int) / (n : Int)) (d1 : (p : Int) / (n : Int) ≤ (p : Int)) :
    Picked N ((bits BinOp.xor IntKind.i64 (x * 131 + y * 1117 + ↑p * 29 + ↑p / ↑n * 53) ((x * 131 + y * 1117 + ↑p * 29 + ↑p / ↑n * 53) / 64)).tmod N) := by
  generalize (p : Int) / (n : Int) = q at d0 d1 ⊢
  obtain ⟨k0, k1⟩ := xor_in (x * 131 + y * 1117 + ↑p * 29 + q * 53) ((x * 131 + y * 1117 + ↑p * 29 + q * 53) / 64) (by omega) (by omega) (by omega) (by omega)
  generalize bits BinOp.xor IntKind.i64 (x * 131 + y * 1117 + ↑p * 29 + q * 53) ((x * 131 + y * 1117 + ↑p * 29 + q * 53) / 64) = t at k0 k1
  rw [Int.tmod_eq_emod_of_nonneg k0]
  have e0 := Int.emod_nonneg t (show N ≠ 0 by omega)
  have e1 := Int.emod_lt_of_pos t (show 0 < N by omega)
  exact ⟨e0, by omega, fun _ => e1⟩

set_option maxHeartbeats 1000000 in
theorem pick_later (base g p n c b o : Nat) (x y N : Int) (w : World) (h : Rdr base w g p) (hp : p ≤ 1000000) (hn : n ≤ 2000) (hN : ¬ N < 1) (hN' : N ≤ 9223372036854775807) (hpn : n ≤ p) (hn0 : 0 < n) (hbg : ¬ b = g)
    (hg : w.heap[g]? = some (.cells #[.slice (some ⟨b, o, none⟩) n c, .int .i64 (p : Nat)] 73 (0, 0)))
    (hx : w.cell? ⟨b, o + p % n, none⟩ = some (.int .u8 x)) (h0 : 0 ≤ x) (h1 : x < 256)
    (hy : w.cell? ⟨b, o + (p * 7 + 3) % n, none⟩ = some (.int .u8 y)) (h2 : 0 ≤ y) (h3 : y < 256) :
    Calls Try.prog 49 #[.pointer (some ⟨g, 0, none⟩), .int .i64 N] w (PickPost base g p N w) := by
  have HR := Lib.hid h
  obtain ⟨c0, c1, f1⟩ := cell_two hg
  clear hg h
  have hd : decide (N < 1) = false := by simpa using hN
  have hn1 : ((n : Int) == 0) = false := by simp; omega
  have hlt : decide (p < n) = false := by simp; omega
  go_enter Try.func49, Try.ntmps49
  go_wp2
  have i0 : 0 ≤ (p : Int) % (n : Int) := Int.emod_nonneg _ (by omega)
  have i1 : (p : Int) % (n : Int) < (n : Int) := Int.emod_lt_of_pos _ (by omega)
  have j0 : 0 ≤ ((p : Int) * 7 + 3) % (n : Int) := Int.emod_nonneg _ (by omega)
  have j1 : ((p : Int) * 7 + 3) % (n : Int) < (n : Int) := Int.emod_lt_of_pos _ (by omega)
  have ej : (((p : Int) * 7 + 3) % (n : Int)).toNat = (p * 7 + 3) % n := by
    rw [show (p : Int) * 7 + 3 = ((p * 7 + 3 : Nat) : Int) by omega, ← Int.natCast_emod, Int.toNat_natCast]
  have hy' : w.cell? ⟨b, o + (((p : Int) * 7 + 3) % (n : Int)).toNat, none⟩ = some (.int .u8 y) := by rw [ej]; exact hy
  clear ej
  have d0 : 0 ≤ (p : Int) / (n : Int) := Int.ediv_nonneg (by omega) (by omega)
  have d1 : (p : Int) / (n : Int) ≤ (p : Int) := Int.ediv_le_self _ (by omega)
  go_quiet (fail)
  go_wp2
  go_ret
  exact ⟨_, rfl, mixed x y p n N hp (by omega) hN' h0 h1 h2 h3 d0 d1, rdr_drewN HR.out.next _, grown_drewN (grown_set _ _ _ _) _⟩

/-- A pick from N: a number from 0 to N-1 (0 where N is less than 1). -/
theorem pick_any (base g p : Nat) (N : Int) (w : World) (h : Rdr base w g p) (hp : p ≤ 1000000) (hN' : N ≤ 9223372036854775807) : Calls Try.prog 49 #[.pointer (some ⟨g, 0, none⟩), .int .i64 N] w (PickPost base g p N w) := by
  by_cases hN : N < 1
  · exact pick_none base g p N w h hp hN
  · have h' := h
    obtain ⟨hbg, A, n, c, z, hg, hn, hz, hzb, hc⟩ := h
    rcases Nat.eq_zero_or_pos n with rfl | hn0
    · exact pick_empty base g p c A N w h' hp hN hg
    · obtain ⟨b, o, rfl, hlt, hcell⟩ := hc hn0
      have hne : ¬ b = g := by omega
      have get : ∀ j, j < n → ∃ x, w.cell? ⟨b, o + j, none⟩ = some (.int .u8 x) ∧ 0 ≤ x ∧ x < 256 := fun j hj => by
        have e : z[j]? = some (z[j]'(by omega)) := List.getElem?_eq_getElem (by omega)
        have m := hzb _ (List.getElem_mem (show j < z.length by omega))
        exact ⟨_, hcell j _ e, m.1, m.2⟩
      rcases Nat.lt_or_ge p n with hpn | hpn
      · obtain ⟨x, e, h0, h1⟩ := get p hpn
        exact pick_first base g p n c b o x N w h' hp hn hN hN' hpn hne hg e h0 h1
      · obtain ⟨x, e, h0, h1⟩ := get (p % n) (Nat.mod_lt _ hn0)
        obtain ⟨y, f, h2, h3⟩ := get ((p * 7 + 3) % n) (Nat.mod_lt _ hn0)
        exact pick_later base g p n c b o x y N w h' hp hn hN hN' hpn hn0 hne hg e h0 h1 f h2 h3

end Go.Proofs.Ytepnfljhoapdmaa
