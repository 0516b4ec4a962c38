/- Walk of the law FnLadderMergeSame. -/
import Derived.Test.YtbfblomabjmnmaaMi
import Derived.Test.YtbfblomabjmnmaaMs
import Derived.Test.YtbfblomabjmnmaaLf
import Derived.Test.YtbfblomabjmnmaaDm
import Derived.Test.YtbfblomabjmnmaaLd
import Derived.Test.YtbfblomabjmnmaaLxc
import Derived.Deep.DeepCutAuto
namespace Go.Proofs.Ytbfblomabjmnmaa
open Go.RowKit
set_option linter.unusedVariables false

set_option maxRecDepth 100000 in
set_option maxHeartbeats 6400000 in
theorem fnLadderMergeSame_walk (w : World) (A : Option Addr) (n c : Nat) (hin : BytesIn w A n c) :
    Calls Try.prog 4 #[.slice A n c] w fun e w' => e = .returned (.bool true) ∧ Below w.heap.size w w' := by
  have hn := hin.2.1
  by_cases hbig : 1048576 < n
  · have hd : decide (1048576 < (n : Int)) = true := by simp; omega
    go_enter Try.func4, Try.ntmps4
    go_wp2
    go_ret
    exact ⟨rfl, Below.refl _ _⟩
  have hd : decide (1048576 < (n : Int)) = false := by simp; omega
  go_enter Try.func4, Try.ntmps4
  go_wp2_with fail
  refine (drawLadderMerge_any A n c w hin).mono ?_
  rintro e w1 ⟨B, m, d, R, a, b, rfl, hR, hm, hrow, ha, hbb, hL1, hb1⟩
  have HR := Lib.hid hR
  have HW4 := Lib.hid (show ∀ s ∈ ss R, s.length ≤ 4 from fun s hs => by obtain ⟨r, hr, rfl⟩ := List.mem_map.1 hs; exact hrow r hr)
  have HW := Lib.hid (fun r hr => Nat.le_trans (hrow r hr) (show 4 ≤ 1099511627776 by omega))
  have HWs := Lib.hid (fun r hr => Nat.le_trans (hrow r hr) (show 4 ≤ 1048576 by omega))
  clear hR hrow
  go_wp2_with fail
  refine (ladderMerge_any _ _ _ R _ _ _ hL1.s HR.out (by omega) HW.out).mono ?_
  rintro e w2 ⟨A2, n2, c2, S, rfl, hS, hSs, hW2, hb2⟩
  go_wp2_with fail
  refine (sLadderMerge_any _ _ _ R _ _ _ (hL1.below hb2).s HR.out (by omega) HW.out).mono ?_
  rintro e w3 ⟨A3, n3, c3, T, rfl, hT, hTs, hW3, hb3⟩
  have hL3 := (hL1.below hb2).below hb3
  have hLS3 := hW2.lad.below hb3
  have hLT3 := hW3.lad
  have hb03 := below2 hb1 (below2 hb2 hb3)
  have hn2 : n2 ≤ m + 1 := by have := merR_length (R := ss R) (a := a) (b := b); rw [← hSs, ss_length, ss_length, hS, HR.out] at this; exact this
  have hn3 : n3 ≤ m + 1 := by have := merR_length (R := ss R) (a := a) (b := b); rw [← hTs, ss_length, ss_length, hT, HR.out] at this; exact this
  have hwS : ∀ r ∈ S, r.s.length ≤ 4 := fun r hr => merR_rows (by omega) HW4.out r.s (by rw [← hSs]; exact List.mem_map_of_mem hr)
  have hwT : ∀ r ∈ T, r.s.length ≤ 4 := fun r hr => merR_rows (by omega) HW4.out r.s (by rw [← hTs]; exact List.mem_map_of_mem hr)
  have hST : decide (ss S = ss T) = true := by rw [hSs, hTs]; simp
  have HS := Lib.hid hS
  have HT := Lib.hid hT
  have HSS := Lib.hid hSs
  have HST := Lib.hid hST
  have HWS := Lib.hid (fun r hr => Nat.le_trans (hwS r hr) (show 4 ≤ 1048576 by omega))
  have HWS' := Lib.hid (fun r hr => Nat.le_trans (hwS r hr) (show 4 ≤ 1099511627776 by omega))
  have HWT := Lib.hid (fun r hr => Nat.le_trans (hwT r hr) (show 4 ≤ 1048576 by omega))
  clear hS hT hSs hTs hST hwS hwT hL1 hW2 hW3 hb1 hb2 hb3
  cases hok : merOk (ss R) a b
  · go_wp2_with fail
    refine (sameRows_any _ _ _ _ _ _ S T _ hLS3.s hLT3.s HS.out HT.out (by omega) (by omega) HWS.out HWT.out).mono ?_
    rintro e w4 ⟨rfl, hb4⟩
    rw [HST.out]
    go_wp2_with fail
    refine (sameRows_any _ _ _ _ _ _ S T _ (hLS3.below hb4).s (hLT3.below hb4).s HS.out HT.out (by omega) (by omega) HWS.out HWT.out).mono ?_
    rintro e w5 ⟨rfl, hb5⟩
    rw [HST.out]
    go_wp2
    go_ret
    exact ⟨rfl, below2 hb03 (below2 hb4 hb5)⟩
  go_wp2_with fail
  refine (sameRows_any _ _ _ _ _ _ S T _ hLS3.s hLT3.s HS.out HT.out (by omega) (by omega) HWS.out HWT.out).mono ?_
  rintro e w4 ⟨rfl, hb4⟩
  rw [HST.out]
  have hL4 := hL3.below hb4
  have hLS4 := hLS3.below hb4
  have hb04 := below2 hb03 hb4
  obtain ⟨hRv, hm3, haa, hbc, hne⟩ := merOk_iff.1 hok
  rw [ss_length, HR.out] at hm3
  have hSS' : ss S = ss R ++ [merS (ss R) a b] := by rw [HSS.out, merR_yes hok]
  have hn2' : m + 1 ≤ n2 := by have := congrArg List.length hSS'; rw [ss_length, HS.out, mer_len, ss_length, HR.out] at this; omega
  have HSE := Lib.hid hSS'
  have HOK := Lib.hid hok
  have HRV := Lib.hid hRv
  have HNE := Lib.hid hne
  have HSV := Lib.hid (show ladB (ss S) = true by rw [hSS']; exact mer_lad hok)
  have hmd2 : n2 ≤ c2 := by rw [← HS.out]; exact hLS4.2.1
  clear hSS' hok hRv hne hL3 hLS3 hLT3 hb03 hb4 hn3
  have hag := mer_again HOK.out
  rw [← HSE.out] at hag
  have hco : codeOk (ss S) (n2 : Int) a = true := codeOk_mk HSV.out (by omega) (by rw [ss_length, HS.out]; omega) haa.1 haa.2
  have htp : lcode (ss S) (n2 : Int) a = topF (ss S) a := by unfold topF; rw [ss_length, HS.out]
  have HAG := Lib.hid hag
  have HCO := Lib.hid hco
  have HTP := Lib.hid htp
  clear hag hco htp
  go_wp2_with fail
  refine (ladderMerge_any _ _ _ S _ _ _ hLS4.s HS.out (by omega) HWS'.out).mono ?_
  rintro e w5 ⟨A5, n5, c5, X, rfl, _, _, _, hb5⟩
  rw [HAG.out.1]
  go_wp2_with fail
  refine (ladderCodeL_any _ _ _ S _ _ _ (hLS4.below hb5).s HS.out (by omega) HWS'.out).mono ?_
  rintro e w' ⟨rfl, rfl⟩
  rw [codeI_yes HCO.out, HCO.out, HTP.out]
  go_wp2_with fail
  refine (ladderMerge_any _ _ _ S _ _ _ (hLS4.below hb5).s HS.out (by omega) HWS'.out).mono ?_
  rintro e w6 ⟨A6, n6, c6, Y, rfl, _, _, _, hb6⟩
  rw [HAG.out.2]
  go_wp2
  go_ret
  exact ⟨rfl, below2 hb04 (below2 hb5 hb6)⟩

end Go.Proofs.Ytbfblomabjmnmaa
