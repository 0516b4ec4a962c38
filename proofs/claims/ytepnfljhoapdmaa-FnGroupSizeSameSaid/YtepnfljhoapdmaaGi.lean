/- Contracts of the program's GroupSize, GroupMany. -/
import Derived.Test.YtepnfljhoapdmaaGw
import Derived.Test.YtepnfljhoapdmaaGq
import Derived.Test.YtepnfljhoapdmaaRi
namespace Go.Proofs.Ytepnfljhoapdmaa
open Go.RowKit
set_option linter.unusedVariables false

theorem look_at {w : World} {B : Nat} {M : List Pers} {v a j s : Int} (p : Int) (h : GMap w B (groups M)) (hv : cnt3 M ⟨a, j, s, p⟩ = v) : (Instr.lookup 53 (.map (some B)) (.agg #[.int .i64 a, .int .i64 j, .int .i64 s, .int .i64 0]) false).run Try.prog w = .ok (.int .i64 v) w := by
  have l1 := look_map h ⟨a, j, s, 0⟩
  have hk : keyV ⟨a, j, s, 0⟩ = .agg #[.int .i64 a, .int .i64 j, .int .i64 s, .int .i64 0] := rfl
  have hg : (⟨a, j, s, 0⟩ : Pers) = pgrp ⟨a, j, s, p⟩ := rfl
  rw [hk, hg, groups_val, hv] at l1
  exact l1
theorem len_map {ops : Array Oper} {rest : List Oper} {o : Oper} {ac : Act} {Q : Exit → Act → World → Prop} {w : World} (hg : o.guard = none) (m : Operand) (hop : o.op = .call { callee := .builtin .len, args := #[m], argTypes := #[53] }) (B : Nat) (G : Grps)
    (hm : ac.eval m = .map (some B)) (h : GMap w B G) (hK : wpList Try.prog ops Q rest (ac.put o.dst (.int .i64 (G.length : Nat))) w) : wpList Try.prog ops Q (o :: rest) ac w := by
  refine wpList_plain hg fun K' hK' => ?_
  have hrun : (Builtin.len_ #[53] o.type #[.map (some B)]).run Try.prog w = .ok (.int .i64 (G.length : Nat)) w := by
    simp [Builtin.len_, run_underlying mP, MapKept.run_getObj_map h, ents_length, goInt]
  unfold Oper.wp
  simp [execOp, hop, resolve, invoke, builtin, hm, hrun, Result.andThen]
  exact hK' _ _ hK

set_option maxRecDepth 100000 in
set_option maxHeartbeats 3200000 in
theorem groupMany_any (A : Option Addr) (n c : Nat) (L : List Pers) (A' : Option Addr) (m c' : Nat) (R : List Rw) (a j s : Int) (w : World) (hP : Seen w A (pcells L)) (hn : L.length = n) (hnm : n ≤ 1099511627776)
    (hA : LadS w A' R) (hR : R.length = m) (hm : m ≤ 1099511627776) (hr : ∀ r ∈ R, r.s.length ≤ 1099511627776) :
    Calls Try.prog 19 #[.slice A n c, .slice A' m c', .agg #[.int .i64 a, .int .i64 j, .int .i64 s]] w fun e w' => e = .returned (.int .i64 (manyG L (ss R) ⟨a, j, s⟩)) ∧ Below w.heap.size w w' := by
  have b0 := below_new w (.cells #[.int .i64 a, .int .i64 j, .int .i64 s] 26)
  have HP := Lib.hid (hP.below b0)
  have HA := Lib.hid (hA.below b0)
  have HB := Lib.hid b0
  have HN := Lib.hid hn
  have HR := Lib.hid hR
  have HW := Lib.hid hr
  clear hP hA b0 hn hR hr
  cases h2 : rpOk L (ss R) ⟨a, j, s⟩
  · rw [manyG_no h2]
    go_enter Try.func19, Try.ntmps19
    go_wp2_with fail
    refine (recodePeople_any _ _ _ L _ _ _ R _ _ _ _ HP.out HN.out hnm HA.out HR.out hm HW.out).mono ?_
    rintro e w1 ⟨A1, m1, c1, rfl, _, _, hb1⟩
    rw [h2]
    go_wp2
    go_ret
    exact ⟨rfl, below2 HB.out hb1⟩
  · have HV := Lib.hid (manyG_yes h2)
    have h40 : n ≤ 40 := by rw [← HN.out]; exact rp_len h2
    have HL1 := Lib.hid (recL_length h2)
    go_enter Try.func19, Try.ntmps19
    go_wp2_with fail
    refine (recodePeople_any _ _ _ L _ _ _ R _ _ _ _ HP.out HN.out hnm HA.out HR.out hm HW.out).mono ?_
    rintro e w1 ⟨A1, m1, c1, rfl, hm1, hP1, hb1⟩
    rw [h2]
    have hm1' : m1 ≤ 40 := by rw [← hm1, HL1.out, HN.out]; exact h40
    have HM1 := Lib.hid hm1
    clear hm1
    go_wp2_with fail
    refine (groupsOf_any _ _ _ (recL L (ss R) ⟨a, j, s⟩) _ hP1.1 HM1.out (by omega)).mono ?_
    rintro e w2 ⟨B, rfl, hG, hb2⟩
    go_wp2_with (refine len_map rfl (.tmp 19) rfl B _ rfl hG ?_)
    go_ret
    exact ⟨ret_int HV.out.symm, below2 HB.out (below2 hb1 hb2)⟩

end Go.Proofs.Ytepnfljhoapdmaa
