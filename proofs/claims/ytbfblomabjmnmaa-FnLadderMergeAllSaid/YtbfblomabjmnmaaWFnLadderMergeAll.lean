/- Walk of the law FnLadderMergeAll. -/
import Derived.Test.YtbfblomabjmnmaaMi
import Derived.Test.YtbfblomabjmnmaaMs
import Derived.Test.YtbfblomabjmnmaaLf
import Derived.Test.YtbfblomabjmnmaaDm
import Derived.Test.YtbfblomabjmnmaaLd
import Derived.Test.YtbfblomabjmnmaaLxg
import Derived.Deep.DeepCutAuto
namespace Go.Proofs.Ytbfblomabjmnmaa
open Go.RowKit
set_option linter.unusedVariables false

/-- At the head of each outer round: k + 1 steps have been made. -/
def AllO (w0 : World) (v i : Value) (wr : World) : Prop :=
  ∃ (k l : Nat) (A : Option Addr) (c : Nat) (X : List Rw), k ≤ 2 ∧ i = .int .i64 k ∧ v = .slice A l c ∧ l = k + 1 ∧ X.length = l ∧ Good (ss X) ∧ (∀ r ∈ X, r.s.length ≤ 1099511627776) ∧ Lad wr A c X ∧ Below w0.heap.size w0 wr
/-- At the head of each inner round: a step more has been made, or the codes before j are together with 0. -/
def AllI (k : Nat) (w0 : World) (v i : Value) (wr : World) : Prop :=
  ∃ (j l : Nat) (A : Option Addr) (c : Nat) (X : List Rw), 1 ≤ j ∧ j ≤ 4 ∧ i = .int .i64 j ∧ v = .slice A l c ∧ X.length = l ∧ Good (ss X) ∧ (∀ r ∈ X, r.s.length ≤ 1099511627776) ∧ ((l = k + 1 ∧ ∀ d : Int, 1 ≤ d → d < j → topF (ss X) d = topF (ss X) 0) ∨ l = k + 2) ∧ Lad wr A c X ∧ Below w0.heap.size w0 wr

set_option maxRecDepth 100000 in
set_option maxHeartbeats 6400000 in
theorem fnLadderMergeAll_walk (w : World) (A : Option Addr) (n c : Nat) (hin : BytesIn w A n c) :
    Calls Try.prog 6 #[.slice A n c] w fun e w' => e = .returned (.bool true) ∧ Below w.heap.size w w' := by
  have hn := hin.2.1
  by_cases hbig : 1048576 < n
  · have hd : decide (1048576 < (n : Int)) = true := by simp; omega
    go_enter Try.func6, Try.ntmps6
    go_wp2
    go_ret
    exact ⟨rfl, Below.refl _ _⟩
  have hd : decide (1048576 < (n : Int)) = false := by simp; omega
  go_enter Try.func6, Try.ntmps6
  go_wp2_with fail
  refine (drawLadderMerge_any A n c w hin).mono ?_
  rintro e w1 ⟨B, m, d, R, a, b, rfl, hR, hm, hrow, ha, hbb, hL1, hb1⟩
  have HR := Lib.hid hR
  have HW4 := Lib.hid (show ∀ s ∈ ss R, s.length ≤ 4 from fun s hs => by obtain ⟨r, hr, rfl⟩ := List.mem_map.1 hs; exact hrow r hr)
  have HW := Lib.hid (fun r hr => Nat.le_trans (hrow r hr) (show 4 ≤ 1099511627776 by omega))
  have HWs := Lib.hid (fun r hr => Nat.le_trans (hrow r hr) (show 4 ≤ 1048576 by omega))
  clear hR hrow
  go_wp2_with fail
  refine (ladderMerge_any _ _ _ R _ _ _ hL1.s HR.out (by omega) HW.out).mono ?_
  rintro e w2 ⟨A2, n2, c2, S, rfl, hS, hSs, hW2, hb2⟩
  go_wp2_with fail
  refine (sLadderMerge_any _ _ _ R _ _ _ (hL1.below hb2).s HR.out (by omega) HW.out).mono ?_
  rintro e w3 ⟨A3, n3, c3, T, rfl, hT, hTs, hW3, hb3⟩
  have hL3 := (hL1.below hb2).below hb3
  have hLS3 := hW2.lad.below hb3
  have hLT3 := hW3.lad
  have hb03 := below2 hb1 (below2 hb2 hb3)
  have hn2 : n2 ≤ m + 1 := by have := merR_length (R := ss R) (a := a) (b := b); rw [← hSs, ss_length, ss_length, hS, HR.out] at this; exact this
  have hn3 : n3 ≤ m + 1 := by have := merR_length (R := ss R) (a := a) (b := b); rw [← hTs, ss_length, ss_length, hT, HR.out] at this; exact this
  have hwS : ∀ r ∈ S, r.s.length ≤ 4 := fun r hr => merR_rows (by omega) HW4.out r.s (by rw [← hSs]; exact List.mem_map_of_mem hr)
  have hwT : ∀ r ∈ T, r.s.length ≤ 4 := fun r hr => merR_rows (by omega) HW4.out r.s (by rw [← hTs]; exact List.mem_map_of_mem hr)
  have hST : decide (ss S = ss T) = true := by rw [hSs, hTs]; simp
  have HS := Lib.hid hS
  have HT := Lib.hid hT
  have HSS := Lib.hid hSs
  have HST := Lib.hid hST
  have HWS := Lib.hid (fun r hr => Nat.le_trans (hwS r hr) (show 4 ≤ 1048576 by omega))
  have HWS' := Lib.hid (fun r hr => Nat.le_trans (hwS r hr) (show 4 ≤ 1099511627776 by omega))
  have HWT := Lib.hid (fun r hr => Nat.le_trans (hwT r hr) (show 4 ≤ 1048576 by omega))
  clear hS hT hSs hTs hST hwS hwT hL1 hW2 hW3 hb1 hb2 hb3
  cases hok : merOk (ss R) a b
  · go_wp2_with fail
    refine (sameRows_any _ _ _ _ _ _ S T _ hLS3.s hLT3.s HS.out HT.out (by omega) (by omega) HWS.out HWT.out).mono ?_
    rintro e w4 ⟨rfl, hb4⟩
    rw [HST.out]
    go_wp2_with fail
    refine (sameRows_any _ _ _ _ _ _ S T _ (hLS3.below hb4).s (hLT3.below hb4).s HS.out HT.out (by omega) (by omega) HWS.out HWT.out).mono ?_
    rintro e w5 ⟨rfl, hb5⟩
    rw [HST.out]
    go_wp2
    go_ret
    exact ⟨rfl, below2 hb03 (below2 hb4 hb5)⟩
  go_wp2_with fail
  refine (sameRows_any _ _ _ _ _ _ S T _ hLS3.s hLT3.s HS.out HT.out (by omega) (by omega) HWS.out HWT.out).mono ?_
  rintro e w4 ⟨rfl, hb4⟩
  rw [HST.out]
  have hL4 := hL3.below hb4
  have hLS4 := hLS3.below hb4
  have hb04 := below2 hb03 hb4
  obtain ⟨hRv, hm3, haa, hbc, hne⟩ := merOk_iff.1 hok
  rw [ss_length, HR.out] at hm3
  have hSS' : ss S = ss R ++ [merS (ss R) a b] := by rw [HSS.out, merR_yes hok]
  have hn2' : m + 1 ≤ n2 := by have := congrArg List.length hSS'; rw [ss_length, HS.out, mer_len, ss_length, HR.out] at this; omega
  have HSE := Lib.hid hSS'
  have HOK := Lib.hid hok
  have HRV := Lib.hid hRv
  have HNE := Lib.hid hne
  have HSV := Lib.hid (show ladB (ss S) = true by rw [hSS']; exact mer_lad hok)
  have hmd2 : n2 ≤ c2 := by rw [← HS.out]; exact hLS4.2.1
  clear hSS' hok hRv hne hL3 hLS3 hLT3 hb03 hb4 hn3
  rcases Nat.eq_zero_or_pos m with hm0 | hm0
  · have hm0' : ¬ (0 : Int) < (m : Int) := by omega
    have hm0d : decide ((0 : Int) < (m : Int)) = false := by simpa using hm0'
    have hm0e : decide (0 < m) = false := by simp; omega
    have hR0 : ss R = [] := List.eq_nil_of_length_eq_zero (by rw [ss_length, HR.out]; exact hm0)
    have hgd : Good (ss S) := by rw [HSS.out]; exact Good.mer (by rw [hR0]; exact good_nil) HOK.out
    have hn21 : n2 = 0 + 1 := by omega
    have HGD := Lib.hid hgd
    have H21 := Lib.hid hn21
    clear hgd hR0 hm0 hn21
    go_wp2_with fail
    go_loopw [10, 11] (fun v i wr => AllO w4 v i wr) (fun _ i _ => 2 - (intOf i).toNat)
    case atStart => exact ⟨0, n2, A2, c2, S, by omega, rfl, rfl, H21.out, HS.out, HGD.out, HWS'.out, hLS4, Below.refl _ _⟩
    case round =>
      obtain ⟨k, l, Ax, cx, X, hk, rfl, rfl, hl, hX, hgX, hwX, hLX, hbX⟩ := hrel
      obtain ⟨wo, rfl⟩ : ∃ wo : World, wo = wr := ⟨_, rfl⟩
      by_cases hk2 : k < 2
      · have hk2d : decide ((k : Int) < 2) = true := by simp; omega
        have HLK := Lib.hid hl
        have HX0 := Lib.hid hX
        have HG0 := Lib.hid hgX
        have HW0 := Lib.hid hwX
        clear hl hX hgX hwX
        go_wp2_with fail
        go_loopw [10, 12] (fun v i wr => AllI k wo v i wr) (fun _ i _ => 4 - (intOf i).toNat)
        case atStart => exact ⟨1, l, Ax, cx, X, by omega, by omega, rfl, rfl, HX0.out, HG0.out, HW0.out, .inl ⟨HLK.out, fun d h1 h2 => by omega⟩, hLX, Below.refl _ _⟩
        case round =>
          obtain ⟨j, l', Ay, cy, Y, hj1, hj4, rfl, rfl, hY, hgY, hwY, hcase, hLY, hbY⟩ := hrel
          by_cases hj : j < 4
          · have hl3 : l' ≤ 3 := by rcases hcase with ⟨h, _⟩ | h <;> omega
            have HY := Lib.hid hY
            have HGY := Lib.hid hgY
            have HWY := Lib.hid hwY
            have HCS := Lib.hid hcase
            clear hY hgY hwY hcase
            go_wp2_with fail
            refine (ladderMerge_any _ _ _ Y _ _ _ hLY.s HY.out (by omega) HWY.out).mono ?_
            rintro e w6 ⟨Az, nz, cz, Z, rfl, hZ, hZs, hWZ, hb6⟩
            cases hmk : merOk (ss Y) 0 (j : Int)
            · have RR : AllI k wo (.slice Ay l' cy) (.int .i64 ((j : Int) + 1)) w6 := by
                refine ⟨j + 1, l', Ay, cy, Y, by omega, by omega, by go_num, rfl, HY.out, HGY.out, HWY.out, ?_, hLY.below hb6, hbY.trans (hb6.mono hbY.size)⟩
                rcases HCS.out with ⟨h, hd⟩ | h
                · refine .inl ⟨h, fun d h1 h2 => ?_⟩
                  by_cases e : d < (j : Int)
                  · exact hd d h1 e
                  · obtain rfl : d = (j : Int) := by omega
                    exact HGY.out.same (by rw [ss_length, HY.out]; omega) (by omega) (by omega) hmk
                · exact .inr h
              clear hZ hZs
              go_wp2
              go_roundw
              case rel => first | exact RR | ((repeat apply Exists.intro); first | exact ⟨RR, rfl⟩ | exact ⟨RR, rfl, rfl⟩ | exact ⟨RR, rfl, rfl, rfl⟩)
              case measure => simp [intOf]; omega
            · have hnz : nz = l' + 1 := mer_count hmk hZs HY.out hZ
              have hgZ : Good (ss Z) := by rw [hZs]; exact HGY.out.mer hmk
              have hwZ : ∀ r ∈ Z, r.s.length ≤ 1099511627776 := fun r hr => by have := mer_four hmk hZs r hr; omega
              by_cases hl' : l' = k + 1
              · have RR : AllI k wo (.slice Az nz cz) (.int .i64 ((j : Int) + 1)) w6 := ⟨j + 1, nz, Az, cz, Z, by omega, by omega, by go_num, rfl, hZ, hgZ, hwZ, .inr (by omega), hWZ.lad, hbY.trans (hb6.mono hbY.size)⟩
                have hee : ((nz : Int) == (k : Int) + 2) = true := by simp; omega
                clear hZ hZs hnz hgZ hwZ hl'
                go_wp2
                go_roundw
                case rel => first | exact RR | ((repeat apply Exists.intro); first | exact ⟨RR, rfl⟩ | exact ⟨RR, rfl, rfl⟩ | exact ⟨RR, rfl, rfl, rfl⟩)
                case measure => simp [intOf]; omega
              · have hl2 : l' = k + 2 := by rcases HCS.out with ⟨h, _⟩ | h <;> omega
                have RR : AllI k wo (.slice Ay l' cy) (.int .i64 ((j : Int) + 1)) w6 := ⟨j + 1, l', Ay, cy, Y, by omega, by omega, by go_num, rfl, HY.out, HGY.out, HWY.out, .inr hl2, hLY.below hb6, hbY.trans (hb6.mono hbY.size)⟩
                have hee : ((nz : Int) == (k : Int) + 2) = false := by simp; omega
                clear hZ hZs hnz hgZ hwZ hl' hl2
                go_wp2
                go_roundw
                case rel => first | exact RR | ((repeat apply Exists.intro); first | exact ⟨RR, rfl⟩ | exact ⟨RR, rfl, rfl⟩ | exact ⟨RR, rfl, rfl, rfl⟩)
                case measure => simp [intOf]; omega
          · have hl2 : l' = k + 1 + 1 := by
              rcases hcase with ⟨h, hd⟩ | h
              · exact (hgY.not_all (by rw [ss_length, hY]; omega) (fun d h1 h2 => hd d h1 (by omega))).elim
              · omega
            have RR : AllO w4 (.slice Ay l' cy) (.int .i64 ((k : Int) + 1)) wr := ⟨k + 1, l', Ay, cy, Y, by omega, by go_num, rfl, hl2, hY, hgY, hwY, hLY, hbX.trans (hbY.mono hbX.size)⟩
            clear hl2 hcase hY hgY hwY
            go_wp2
            go_roundw
            case rel => first | exact RR | ((repeat apply Exists.intro); first | exact ⟨RR, rfl⟩ | exact ⟨RR, rfl, rfl⟩ | exact ⟨RR, rfl, rfl, rfl⟩)
            case measure => simp [intOf]; omega
      · obtain rfl : l = 3 := by omega
        have HX := Lib.hid hX
        have HGX := Lib.hid hgX
        have HWX := Lib.hid hwX
        clear hX hgX hwX hl
        have E1 := Lib.hid (merOk_full (a := 1) (b := 2) (show (ss X).length = 3 by rw [ss_length, HX.out]))
        have E2 := Lib.hid (HGX.out.last (by rw [ss_length, HX.out]))
        go_wp2_with fail
        refine (ladderMerge_any _ _ _ X _ _ _ hLX.s HX.out (by omega) HWX.out).mono ?_
        rintro e w6 ⟨Az, nz, cz, Z, rfl, _, _, _, hb6⟩
        rw [E1.out]
        go_wp2_with fail
        refine (ladderGroups_any _ _ _ X _ _ (hLX.below hb6).s HX.out (by omega) HWX.out).mono ?_
        rintro e w' ⟨rfl, rfl⟩
        rw [E2.out]
        go_wp2
        go_ret
        exact ⟨rfl, below2 hb04 (below2 hbX hb6)⟩
  · have hm0' : (0 : Int) < (m : Int) := by omega
    go_wp2_with fail
    refine (ladderValid_any _ _ _ S _ hLS4.s HS.out (by omega) HWS'.out).mono ?_
    rintro e w' ⟨rfl, rfl⟩
    rw [HSV.out]
    go_wp2
    go_ret
    exact ⟨rfl, hb04⟩

end Go.Proofs.Ytbfblomabjmnmaa
