/- The laws of a map from groups to sizes, at its block. -/
import Derived.Test.YtepnfljhoapdmaaGp
import Derived.Test.YtepnfljhoapdmaaMem
import Derived.WideKeyEntry
import Derived.Laws.StructEq
namespace Go.Proofs.Ytepnfljhoapdmaa
open Go.RowKit
set_option linter.unusedVariables false

def keyV (x : Pers) : Value := .agg #[.int .i64 x.a, .int .i64 x.j, .int .i64 x.s, .int .i64 x.p]
def ents : Grps → Nat → List MapEntry
  | [], _ => []
  | (y, n) :: G, i => ⟨keyV y, .int .i64 n, i⟩ :: ents G (i + 1)
theorem ents_length (G : Grps) (i : Nat) : (ents G i).length = G.length := by
  induction G generalizing i with
  | nil => rfl
  | cons p G ih => obtain ⟨y, n⟩ := p; simp [ents, ih]
theorem ents_born (G : Grps) (i : Nat) : (ents G i).map (·.born) = List.range' i G.length := by
  induction G generalizing i with
  | nil => rfl
  | cons p G ih => obtain ⟨y, n⟩ := p; simp [ents, ih, List.range'_succ]
theorem ents_append (G H : Grps) (i : Nat) : ents (G ++ H) i = ents G i ++ ents H (i + G.length) := by
  induction G generalizing i with
  | nil => simp [ents]
  | cons p G ih =>
    obtain ⟨y, n⟩ := p
    rw [List.cons_append, ents, ents, ih, List.length_cons, show i + 1 + G.length = i + (G.length + 1) by omega]
    rfl
theorem ents_get (G : Grps) (i j : Nat) : (ents G i)[j]? = (G[j]?).map fun p => ⟨keyV p.1, .int .i64 p.2, i + j⟩ := by
  induction G generalizing i j with
  | nil => simp [ents]
  | cons p G ih =>
    obtain ⟨y, n⟩ := p
    cases j with
    | zero => simp [ents]
    | succ j =>
      rw [ents, List.getElem?_cons_succ, List.getElem?_cons_succ, ih, show i + 1 + j = i + (j + 1) by omega]
theorem ents_set (G : Grps) (i j : Nat) (x : Pers) (n : Int) : ents (G.set j (x, n)) i = (ents G i).set j ⟨keyV x, .int .i64 n, i + j⟩ := by
  apply List.ext_getElem?
  intro k
  rw [ents_get, List.getElem?_set, List.getElem?_set, ents_get, ents_length]
  by_cases h : j = k
  · subst h
    rw [if_pos rfl, if_pos rfl]
    by_cases hj : j < G.length
    · rw [if_pos hj, if_pos hj]; rfl
    · rw [if_neg hj, if_neg hj]; rfl
  · rw [if_neg h, if_neg h]

theorem eqlP (x y : Pers) (w : World) : (Op.equal 31 (keyV x) (keyV y)).run Try.prog w = .ok (kB x y) w := by
  obtain ⟨a, j, s, p⟩ := x
  obtain ⟨a', j', s', p'⟩ := y
  have hS : Try.prog.underlying 31 = some (.struct (Try.prog.fieldsOf 31)) := by kernel_rfl
  have hp : Try.prog.stoodInHeld 31 = false := by kernel_rfl
  have u3 := Try.underlying3
  have a3 := Try.isAgg3
  have z3 := Try.sizeOf3
  unfold keyV Op.equal
  rw [show Op.maxDepth = 9999 + 1 from rfl, run_equalIn_agg w 9999 31 _ _ hS hp]
  simp only [Program.fieldsOf, Try.underlying31]
  go_simp
  by_cases h1 : a = a' <;> by_cases h2 : j = j' <;> by_cases h3 : s = s' <;> by_cases h4 : p = p' <;> simp [kB, h1, h2, h3, h4]
theorem checkP (x : Pers) (em : Bool) (w : World) : (Instr.checkKey em 10000 31 (keyV x)).run Try.prog w = .ok () w := by
  kernel_rfl
theorem staysP (x : Pers) (w : World) : (Instr.keyThatStays (keyV x) (keyV x)).run Try.prog w = .ok (keyV x) w := by
  unfold Instr.keyThatStays
  rw [show (10000 : Nat) = 9999 + 1 from rfl]
  simp [keyV, Instr.sameBits]
theorem findAsk (G : Grps) (x : Pers) (i : Nat) (w : World) : (Instr.findAsking 31 (keyV x) (ents G i) i).run Try.prog w = .ok (if ghas G x = true then some (i + gat G x, .int .i64 (gval G x)) else none) w := by
  induction G generalizing i with
  | nil => simp [ents, Instr.findAsking, ghas]
  | cons p G ih =>
    obtain ⟨y, n⟩ := p
    rw [ents, Instr.findAsking]
    simp only [Sem.run_bind, eqlP, Result.andThen_ok]
    cases h : kB x y
    · simp only [Bool.false_eq_true, if_false]
      rw [ih]
      simp [ghas, gat, gval, h, show i + 1 + gat G x = i + (gat G x + 1) by omega]
    · simp [ghas, gat, gval, h]
theorem findP (G : Grps) (x : Pers) (w : World) : (Instr.findKey 31 (keyV x) (ents G 0)).run Try.prog w = .ok (if ghas G x = true then some (gat G x, .int .i64 (gval G x)) else none) w := by
  have hS : Try.prog.underlying 31 = some (.struct (Try.prog.fieldsOf 31)) := by kernel_rfl
  have h0 := findAsk G x 0 w
  rw [Nat.zero_add] at h0
  unfold Instr.findKey
  simp only [Sem.run_bind, run_underlying hS, Result.andThen_ok]
  cases G with
  | nil => simp [ents, Instr.findNow, ghas]
  | cons p G =>
    obtain ⟨y, n⟩ := p
    have : Instr.findNow (.struct (Try.prog.fieldsOf 31)) (keyV x) (ents ((y, n) :: G) 0) 0 = none := by simp [ents, Instr.findNow, Instr.sameNow]
    rw [this]
    exact h0

/-- Block B is the map of the groups G. -/
def GMap (w : World) (B : Nat) (G : Grps) : Prop := w.heap[B]? = some (.map (ents G 0).toArray G.length)
def setMap (w : World) (B : Nat) (G : Grps) : World := { w with heap := w.heap.setIfInBounds B (.map (ents G 0).toArray G.length) }
theorem GMap.lt {w : World} {B : Nat} {G : Grps} (h : GMap w B G) : B < w.heap.size := (Array.getElem?_eq_some_iff.1 h).1
theorem GMap.set {w : World} {B : Nat} {G : Grps} (h : B < w.heap.size) : GMap (setMap w B G) B G := by
  unfold GMap setMap
  simp [h]
theorem grown_setMap (w : World) (B : Nat) (G : Grps) : w.grownBy (setMap w B G) (some B) :=
  ⟨rfl, rfl, rfl, by simp [setMap], fun k _ hne => by unfold setMap; exact Array.getElem?_setIfInBounds_ne (fun e => hne (by rw [e]))⟩
theorem GMap.below {w w' : World} {B : Nat} {G : Grps} (h : GMap w B G) (hb : Below w.heap.size w w') : GMap w' B G := (hb.block B h.lt).trans h
theorem setMap_self {w : World} {B : Nat} {G : Grps} (h : GMap w B G) : setMap w B G = w := by
  unfold setMap
  have : w.heap.setIfInBounds B (.map (ents G 0).toArray G.length) = w.heap := by
    apply Array.ext_getElem?
    intro i
    rw [Array.getElem?_setIfInBounds]
    split
    · rename_i e
      subst e
      rw [if_pos h.lt, h]
    · rfl
  rw [this]

theorem mP : Try.prog.underlying 53 = some (.map 31 3) := by kernel_rfl
theorem zeroI (w : World) : (zeroValue 3).run Try.prog w = .ok (.int .i64 0) w := by kernel_rfl
theorem look_map {w : World} {B : Nat} {G : Grps} (h : GMap w B G) (x : Pers) : (Instr.lookup 53 (.map (some B)) (keyV x) false).run Try.prog w = .ok (.int .i64 (gval G x)) w := by
  cases hx : ghas G x
  · have e := (gopen_new hx).2.2
    simp [Instr.lookup, run_underlying mP, MapKept.run_getObj_map h, checkP, findP, hx, Result.andThen, e]
  · simp [Instr.lookup, run_underlying mP, MapKept.run_getObj_map h, checkP, findP, hx, Result.andThen]
theorem entry_map {w : World} {B : Nat} {G : Grps} (h : GMap w B G) (x : Pers) : (Instr.mapEntry 53 (.map (some B)) (keyV x)).run Try.prog w = .ok (.tuple #[.int .i64 (gval G x), .int .i64 (gat G x : Nat)]) (setMap w B (gopen G x)) := by
  cases hx : ghas G x
  · obtain ⟨e1, e2, e3⟩ := gopen_new hx
    simp [Instr.mapEntry, run_underlying mP, MapKept.run_getObj_map h, checkP, findP, hx, MapKept.run_setObj_map _ h, Result.andThen, e1, e2, e3, goInt, setMap, ents_append, ents]
  · have e1 := gopen_has hx
    have e2 := gopen_at G x
    rw [e1] at e2
    have e3 : (ents G 0)[gat G x]? = some ⟨keyV x, .int .i64 (gval G x), gat G x⟩ := by
      rw [ents_get, e2]; simp
    have e4 : (ents G 0).modify (gat G x) (fun e => { e with key := keyV x }) = ents G 0 := by
      apply List.ext_getElem?
      intro i
      rw [List.getElem?_modify]
      split
      · rename_i hi
        subst hi
        rw [e3]; rfl
      · simp
    simp [Instr.mapEntry, run_underlying mP, MapKept.run_getObj_map h, checkP, findP, hx, staysP, MapKept.run_setObj_map _ h, Result.andThen, e1, e3, e4, goInt, setMap]
theorem store_map {w : World} {B : Nat} {G : Grps} {x : Pers} (h : GMap w B (gopen G x)) : (Instr.entryStore 53 (.map (some B)) (.int .i64 (gat G x : Nat)) (.int .i64 (gval G x + 1))).run Try.prog w = .ok () (setMap w B (bump G x)) := by
  have e2 := gopen_at G x
  have hlt : gat G x < (gopen G x).length := (List.getElem?_eq_some_iff.1 e2).1
  have e3 : (ents (gopen G x) 0).toArray[gat G x]? = some ⟨keyV x, .int .i64 (gval G x), gat G x⟩ := by
    rw [List.getElem?_toArray, ents_get, e2]; simp
  have hidx : (ents (gopen G x) 0).toArray.findIdx? (fun e => ((e.born : Nat) : Int) == ((gat G x : Nat) : Int)) = some (gat G x) := by
    rw [WideElems.findIdx_arr]
    have hn : ((ents (gopen G x) 0).map (·.born)).Nodup := by rw [ents_born]; exact List.nodup_range'
    exact WideElems.findIdx_born (e0 := ⟨keyV x, .int .i64 (gval G x), gat G x⟩) hn (by simpa using e3)
  have e4 : (ents (gopen G x) 0).toArray.modify (gat G x) (fun e => { e with val := .int .i64 (gval G x + 1) }) = (ents (bump G x) 0).toArray := by
    apply Array.ext_getElem?
    intro i
    rw [Array.getElem?_modify, ← gopen_bump, ents_set, List.getElem?_toArray, List.getElem?_toArray, List.getElem?_set, Nat.zero_add]
    split
    · rename_i hi
      subst hi
      rw [ents_length, if_pos hlt]
      simp at e3
      rw [e3]; rfl
    · rfl
  have e5 := gopen_length G x
  simp [Instr.entryStore, MapKept.run_getObj_map h, asInt, asIntOf, hidx, e4, MapKept.run_setObj_map _ h, Result.andThen, setMap, e5]

end Go.Proofs.Ytepnfljhoapdmaa
