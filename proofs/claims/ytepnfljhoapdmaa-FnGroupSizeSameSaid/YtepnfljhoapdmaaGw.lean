/- Contracts of groupOf, groupsOf. -/
import Derived.Test.YtepnfljhoapdmaaGm
import Derived.Test.YtepnfljhoapdmaaPp
import Derived.Carry
import Derived.Deep.RegionWith
import Derived.Deep.RegionHeld3
import Derived.Outline
namespace Go.Proofs.Ytepnfljhoapdmaa
open Go.RowKit
set_option linter.unusedVariables false

set_option maxHeartbeats 400000 in
theorem groupOf_any (a j s p : Int) (w : World) : Calls Try.prog 38 #[.agg #[.int .i64 a, .int .i64 j, .int .i64 s, .int .i64 p]] w fun e w' => e = .returned (.agg #[.int .i64 a, .int .i64 j, .int .i64 s, .int .i64 0]) ∧ Below w.heap.size w w' := by
  go_enter Try.func38, Try.ntmps38
  go_wp2
  exact bodyPost_ret (v := .agg #[.int .i64 a, .int .i64 j, .int .i64 s, .int .i64 0]) (by simp [results, Try.results38, go_sem]) rfl ⟨rfl, below2 (below_new _ _) (below_new _ _)⟩

/-- What a round does to the map, whatever the order. -/
theorem round_map {w : World} {B : Nat} {G : Grps} (h : GMap w B G) (a j s : Int) : ∃ (st : Int) (w7 w8 : World),
    (Instr.lookup 53 (.map (some B)) (.agg #[.int .i64 a, .int .i64 j, .int .i64 s, .int .i64 0]) false).run Try.prog w = .ok (.int .i64 (gval G ⟨a, j, s, 0⟩)) w ∧
    (Instr.mapEntry 53 (.map (some B)) (.agg #[.int .i64 a, .int .i64 j, .int .i64 s, .int .i64 0])).run Try.prog w = .ok (.tuple #[.int .i64 (gval G ⟨a, j, s, 0⟩), .int .i64 st]) w7 ∧
    (Instr.lookup 53 (.map (some B)) (.agg #[.int .i64 a, .int .i64 j, .int .i64 s, .int .i64 0]) false).run Try.prog w7 = .ok (.int .i64 (gval G ⟨a, j, s, 0⟩)) w7 ∧
    (Instr.entryStore 53 (.map (some B)) (.int .i64 st) (.int .i64 (gval G ⟨a, j, s, 0⟩ + 1))).run Try.prog w7 = .ok () w8 ∧
    GMap w8 B (bump G ⟨a, j, s, 0⟩) ∧ w.grownBy w8 (some B) := by
  have hk : keyV ⟨a, j, s, 0⟩ = .agg #[.int .i64 a, .int .i64 j, .int .i64 s, .int .i64 0] := rfl
  have h7 : GMap (setMap w B (gopen G ⟨a, j, s, 0⟩)) B (gopen G ⟨a, j, s, 0⟩) := GMap.set h.lt
  have l1 := look_map h ⟨a, j, s, 0⟩
  have l2 := entry_map h ⟨a, j, s, 0⟩
  have l3 := look_map h7 ⟨a, j, s, 0⟩
  have l4 := store_map h7
  rw [gopen_val] at l3
  rw [hk] at l1 l2 l3
  generalize hst : ((gat G ⟨a, j, s, 0⟩ : Nat) : Int) = st at l2 l4
  exact ⟨st, _, _, l1, l2, l3, l4, GMap.set h7.lt, (grown_setMap _ _ _).trans (grown_setMap _ _ _)⟩

def GroupsPost (L : List Pers) (w : World) (e : Ending) (w' : World) : Prop := ∃ B, e = .returned (.map (some B)) ∧ GMap w' B (groups L) ∧ Below w.heap.size w w'
def GrRel (n B : Nat) (L : List Pers) (w : World) (i : Value) (wr : World) : Prop := ∃ k : Nat, k ≤ n ∧ i = .int .i64 k ∧ GMap wr B (groups (L.take k)) ∧ Below w.heap.size w wr
theorem gval_bound (L : List Pers) (a j s p : Int) : 0 ≤ gval (groups L) ⟨a, j, s, 0⟩ ∧ gval (groups L) ⟨a, j, s, 0⟩ ≤ L.length := by
  have := cnt3_bound L ⟨a, j, s, p⟩
  rw [← groups_val] at this
  exact this

set_option maxRecDepth 100000 in
set_option maxHeartbeats 3200000 in
theorem groupsOf_any (A : Option Addr) (n c : Nat) (L : List Pers) (w : World) (hA : Seen w A (pcells L)) (hn : L.length = n) (hm : n ≤ 1048576) :
    Calls Try.prog 29 #[.slice A n c] w (GroupsPost L w) := by
  have hmm := @run_makeMap Try.prog
  have HM := Lib.hid (show GMap (w.alloc (.map #[] 0)) w.heap.size (groups []) from heap_alloc_new w _)
  have HBN := Lib.hid (below_new w (.map #[] 0))
  have HA := Lib.hid hA
  have HN := Lib.hid hn
  clear hA hn
  go_enter Try.func29, Try.ntmps29
  go_wp2
  clear hmm
  obtain ⟨B, hB⟩ : ∃ B, w.heap.size = B := ⟨_, rfl⟩
  rw [hB] at HM ⊢
  have HB := Lib.hid hB
  clear hB
  go_loopw [9] (fun i wr => GrRel n B L w i wr) (fun i _ => n - (intOf i).toNat)
  case atStart => exact ⟨0, Nat.zero_le _, rfl, HM.out, HBN.out⟩
  case round =>
    obtain ⟨k, hk, rfl, hG, hb⟩ := hrel
    by_cases hkn : k < n
    · obtain ⟨b, o, hAe, hlt, hc⟩ := HA.out (by rw [pcells_length, HN.out]; omega)
      subst hAe
      obtain ⟨⟨a, j, s, p⟩, hx⟩ : ∃ x, L[k]? = some x := ⟨_, List.getElem?_eq_getElem (by rw [HN.out]; exact hkn)⟩
      obtain ⟨g0, g1, g2, g3⟩ := cells_later hlt hb (cells_at hc hx)
      obtain ⟨v, hv⟩ : ∃ v, gval (groups (L.take k)) ⟨a, j, s, 0⟩ = v := ⟨_, rfl⟩
      have v0 := gval_bound (L.take k) a j s p
      rw [hv, List.length_take, HN.out] at v0
      obtain ⟨v1, v2'⟩ := v0
      have v2 : v ≤ 1048576 := by omega
      have hw : IntKind.i64.wrap (v + 1) = v + 1 := IntWalk.i64_in _ (by omega)
      have HX := Lib.hid hx
      have HV := Lib.hid hv
      have HC := Lib.hid hc
      have kk : (k : Int) < (n : Int) := by omega
      have HG5 := Lib.hid (fun (w' : World) (h : Below (wr.alloc (.cells #[.int .i64 a, .int .i64 j, .int .i64 s, .int .i64 p] 31)).drew.heap.size (wr.alloc (.cells #[.int .i64 a, .int .i64 j, .int .i64 s, .int .i64 p] 31)).drew w') => (hG.below (below_new wr (.cells #[.int .i64 a, .int .i64 j, .int .i64 s, .int .i64 p] 31)).drew).below h)
      have HB5 := Lib.hid (show Below w.heap.size w (wr.alloc (.cells #[.int .i64 a, .int .i64 j, .int .i64 s, .int .i64 p] 31)).drew from (hb.trans ((below_new wr _).mono hb.size)).drew)
      have hBs : w.heap.size ≤ B := by rw [HB.out]; exact Nat.le_refl _
      have HBS := Lib.hid hBs
      clear hx hv hc v2' hG hb hBs
      go_wp2
      go_region_with (go_at_call 38; refine (groupOf_any a j s p _).mono ?_; rintro e w6 ⟨rfl, hb6⟩; obtain ⟨st, w7, w8, r1, r2, r3, r4, hG8, hg8⟩ := round_map (HG5.out _ hb6) a j s; rw [HV.out] at r1 r2 r3 r4; have R8 := Lib.hid (And.intro hG8 (And.intro hb6 hg8)); clear hG8 hg8 hb6)
      all_goals
        have RR : GrRel n B L w (.int .i64 ((k : Int) + 1)) w8 := ⟨k + 1, by omega, by go_num, by rw [groups_take HX.out]; exact R8.out.1, (HB5.out.trans (R8.out.2.1.mono HB5.out.size)).grown R8.out.2.2 (Nat.le_trans HB5.out.size R8.out.2.1.size) (fun g hg => by injection hg with hg; subst hg; exact HBS.out)⟩
        go_wp2
        go_roundw
        case rel => first | exact RR | ((repeat apply Exists.intro); first | exact ⟨RR, rfl⟩ | exact ⟨RR, rfl, rfl⟩ | exact ⟨RR, rfl, rfl, rfl⟩)
        case measure => simp [intOf]; omega
    · have hfin : L.take k = L := List.take_of_length_le (by rw [HN.out]; omega)
      rw [hfin] at hG
      have HF := Lib.hid (And.intro hG hb)
      clear hfin hG hb
      go_wp2
      go_ret
      exact ⟨B, rfl, HF.out.1, HF.out.2⟩

end Go.Proofs.Ytepnfljhoapdmaa
