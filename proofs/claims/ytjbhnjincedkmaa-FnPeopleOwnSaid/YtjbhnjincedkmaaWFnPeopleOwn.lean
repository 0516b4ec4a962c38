/- Walk of the law FnPeopleOwn. -/
import Derived.Test.YtjbhnjincedkmaaWi
import Derived.Test.YtjbhnjincedkmaaDx
import Derived.Test.YtjbhnjincedkmaaSq
import Derived.Test.YtjbhnjincedkmaaSm
import Derived.Deep.DeepCutAuto
import Derived.Deep.RegionWith
import Derived.Deep.RegionHeld3
namespace Go.Proofs.Ytjbhnjincedkmaa
open Go.RowKit
set_option linter.unusedVariables false

set_option maxRecDepth 100000 in
set_option maxHeartbeats 6400000 in
theorem fnPeopleOwn_walk (w : World) (A : Option Addr) (n c : Nat) (hin : BytesIn w A n c) :
    Calls Try.prog 5 #[.slice A n c] w fun e w' => e = .returned (.bool true) ∧ Below w.heap.size w w' := by
  have hn := hin.2.1
  by_cases hbig : 1048576 < n
  · have hd : decide (1048576 < (n : Int)) = true := by simp; omega
    go_enter Try.func5, Try.ntmps5
    go_wp2
    go_ret
    exact ⟨rfl, Below.refl _ _⟩
  have hd : decide (1048576 < (n : Int)) = false := by simp; omega
  go_enter Try.func5, Try.ntmps5
  go_wp2_with fail
  refine (drawPeopleWithout_any A n c w hin).mono ?_
  rintro e w1 ⟨B, d, L, m, k, rfl, hL, hm, hP1, hb1⟩
  have HL := Lib.hid hL
  have hrl : (woL L k).length ≤ 8 := by have := woL_len L k; omega
  clear hL
  go_wp2_with fail
  refine (peopleWithout_any _ _ _ L k _ hP1 HL.out (by omega)).mono ?_
  rintro e w2 ⟨A2, n2, c2, rfl, hn2, ho2, hb2⟩
  have hP2 := hP1.below hb2
  have hO2 := ppl_own_n hn2 ho2
  go_wp2_with fail
  refine (sPeopleWithout_any _ _ _ L k _ hP2 HL.out (by omega)).mono ?_
  rintro e w3 ⟨A3, n3, c3, rfl, hn3, ho3, hb3⟩
  have hQ3 := hP2.below hb3
  have hO3 := hO2.below hb3
  have hP3 := ppl_own_n hn3 ho3
  have hb03 := below2 hb1 (below2 hb2 hb3)
  have hn2' : n2 ≤ 8 := by omega
  have hn3' : n3 ≤ 8 := by omega
  have HN2 := Lib.hid hn2
  have HN3 := Lib.hid hn3
  have HSS := Lib.hid (samAll_self (woL L k))
  clear hn2 hn3 hrl hP1 hP2 hO2 ho2 ho3 hb1 hb2 hb3
  cases hok : woB L k
  · go_wp2_with fail
    refine (samePeople_any _ _ _ _ _ _ (woL L k) (woL L k) _ hO3.1 hP3.1 HN2.out HN3.out (by omega) (by omega)).mono ?_
    rintro e w4 ⟨rfl, hb4⟩
    rw [HSS.out]
    go_wp2_with fail
    refine (samePeople_any _ _ _ _ _ _ (woL L k) (woL L k) _ (hO3.below hb4).1 (hP3.below hb4).1 HN2.out HN3.out (by omega) (by omega)).mono ?_
    rintro e w5 ⟨rfl, hb5⟩
    rw [HSS.out]
    go_wp2
    go_ret
    exact ⟨rfl, below2 hb03 (below2 hb4 hb5)⟩
  go_wp2_with fail
  refine (samePeople_any _ _ _ _ _ _ (woL L k) (woL L k) _ hO3.1 hP3.1 HN2.out HN3.out (by omega) (by omega)).mono ?_
  rintro e w4 ⟨rfl, hb4⟩
  rw [HSS.out]
  have hQ4 := hQ3.below hb4
  have hO4 := hO3.below hb4
  have hb04 := below2 hb03 hb4
  obtain ⟨hPv, hk0, hk1⟩ := woB_iff.1 hok
  obtain ⟨i, rfl⟩ : ∃ i : Nat, k = i := ⟨k.toNat, by omega⟩
  rw [woL_yes hok] at hO4
  have hn2 := HN2.out
  rw [woL_yes hok] at hn2
  have hN2 := hn2
  rw [del_length (show i < L.length by omega), HL.out] at hN2
  rw [HL.out] at hk1
  have hi : i < m := by omega
  have hn2m : n2 ≤ m - 1 := by omega
  have hn2m' : m - 1 ≤ n2 := by omega
  have HD := Lib.hid hn2
  have HPV := Lib.hid hPv
  clear hn2 hN2 hPv hk0 hk1 hQ3 hO3 hP3 hb03 hb4 HN2 HN3 HSS
  obtain ⟨⟨a, j, s, p⟩, hx⟩ : ∃ x, L[i]? = some x := ⟨_, List.getElem?_eq_getElem (by rw [HL.out]; exact hi)⟩
  have hpo := (peopleB_iff.1 HPV.out).1 _ (List.mem_of_getElem? hx)
  obtain ⟨⟨pa0, pa1⟩, ⟨pj0, pj1⟩, ⟨ps0, ps1⟩, pp0, pp1⟩ := okB_un hpo
  obtain ⟨b, o, hBe, hlt, hc⟩ := hQ4.1 (by rw [pcells_length, HL.out]; omega)
  subst hBe
  obtain ⟨k0, k1, k2, k3⟩ := cells_at hc hx
  have ask1 : askB a j s = true := askB_iff.2 ⟨by omega, by omega, by omega⟩
  have ask2 : askB (-1) j (-1) = true := askB_iff.2 ⟨by omega, by omega, by omega⟩
  have iB1 : isB ⟨a, j, s, p⟩ a j s = true := by simp [isB]
  have iB2 : isB ⟨a, j, s, p⟩ (-1) j (-1) = true := by simp [isB]
  have D1 : manyI (del L i) a j s = manyI L a j s - 1 := by
    rw [many_cnt (del_ok HPV.out) ask1, many_cnt HPV.out ask1, del_cnt hx, if_pos iB1]; omega
  have D2 : manyI (del L i) (-1) j (-1) = manyI L (-1) j (-1) - 1 := by
    rw [many_cnt (del_ok HPV.out) ask2, many_cnt HPV.out ask2, del_cnt hx, if_pos iB2]; omega
  have q0 := (many_le (L := L) a j s).2
  have r0 := (many_le (L := L) (-1) j (-1)).2
  have q1 : 0 ≤ manyI (del L i) a j s := by rw [many_cnt (del_ok HPV.out) ask1]; exact (cnt_bound _ _ _ _).1
  have r1 : 0 ≤ manyI (del L i) (-1) j (-1) := by rw [many_cnt (del_ok HPV.out) ask2]; exact (cnt_bound _ _ _ _).1
  rw [HL.out] at q0 r0
  obtain ⟨q, hq⟩ : ∃ q, manyI L a j s = q := ⟨_, rfl⟩
  obtain ⟨r, hr⟩ : ∃ r, manyI L (-1) j (-1) = r := ⟨_, rfl⟩
  obtain ⟨q', hq'⟩ : ∃ q', manyI (del L i) a j s = q' := ⟨_, rfl⟩
  obtain ⟨r', hr'⟩ : ∃ r', manyI (del L i) (-1) j (-1) = r' := ⟨_, rfl⟩
  rw [hq, hq'] at D1
  rw [hr, hr'] at D2
  rw [hq] at q0
  rw [hq'] at q1
  rw [hr] at r0
  rw [hr'] at r1
  have HQ := Lib.hid hq
  have HR := Lib.hid hr
  have HQ' := Lib.hid hq'
  have HR' := Lib.hid hr'
  have E1 : (q' == q - 1) = true := by simpa using D1
  have E2 : (r' == r - 1) = true := by simpa using D2
  have E3 : decide (1 ≤ q) = true := by simp; omega
  have q2 : 1 ≤ q := by omega
  have r2 : 1 ≤ r := by omega
  clear hq hr hq' hr' D1 D2 iB1 iB2 ask1 ask2 hpo hx hc
  have bx := Boxd.new w4 36 #[.int .i64 a, .int .i64 j, .int .i64 s, .int .i64 p]
  have bN := below_new w4 (.cells #[.int .i64 a, .int .i64 j, .int .i64 s, .int .i64 p] 36)
  have HQ5 := Lib.hid (hQ4.below bN).1
  have HO5 := Lib.hid (hO4.below bN).1
  have HB5 := Lib.hid (below2 hb04 bN)
  have HX5 := Lib.hid bx
  clear bx bN
  go_wp2_with fail
  refine (peopleMany_any _ _ _ L _ _ _ _ HQ5.out HL.out (by omega)).mono ?_
  rintro e w6 ⟨rfl, hb6⟩
  rw [HQ.out]
  have HXG := Lib.hid (fun (w' : World) (h : Below w6.heap.size w6 w') => (cell_four ((HX5.out.below hb6).below h)).1)
  have HOG := Lib.hid (fun (w' : World) (h : Below w6.heap.size w6 w') => (HO5.out.below hb6).below h)
  have HQG := Lib.hid (fun (w' : World) (h : Below w6.heap.size w6 w') => (HQ5.out.below hb6).below h)
  have HB6 := Lib.hid (below2 HB5.out hb6)
  have cur : Below w6.heap.size w6 w6.drew := (Below.refl _ _).drew
  have W1 : IntKind.i64.wrap (q - 1) = q - 1 := IntWalk.i64_in _ (by omega)
  have W2 : IntKind.i64.wrap (r - 1) = r - 1 := IntWalk.i64_in _ (by omega)
  generalize hG : w4.heap.size = G at *
  clear hG HX5 HO5 HQ5 HB5 hb6 hb04 hQ4 hO4 k0 k1 k2 k3 hlt hin hd hbig hn
  go_wp2_with fail
  go_region_held3 (fun w' => w'.cell? ⟨G, 0, none⟩ = some (.int .i64 a) ∧ w'.cell? ⟨G, 1, none⟩ = some (.int .i64 j) ∧ w'.cell? ⟨G, 2, none⟩ = some (.int .i64 s) ∧ w'.cell? ⟨G, 3, none⟩ = some (.int .i64 p)) (with_reducible exact HXG.out _ cur) (first
    | (go_at_call 16; (with_reducible refine (peopleMany_any A2 n2 c2 (del L i) a j s _ (HOG.out _ cur) HD.out (by omega)).mono ?_); rintro e w7 ⟨rfl, hb7⟩; rw [HQ'.out]; have cur := below2 cur hb7; clear hb7)
    | (go_at_call 16; (with_reducible refine (peopleMany_any A2 n2 c2 (del L i) (-1) j (-1) _ (HOG.out _ cur) HD.out (by omega)).mono ?_); rintro e w7 ⟨rfl, hb7⟩; rw [HR'.out]; have cur := below2 cur hb7; clear hb7)
    | (go_at_call 16; (with_reducible refine (peopleMany_any (some ⟨b, o, none⟩) m d L (-1) j (-1) _ (HQG.out _ cur) HL.out (by omega)).mono ?_); rintro e w7 ⟨rfl, hb7⟩; rw [HR.out]; have cur := below2 cur hb7; clear hb7))
  all_goals
    go_wp2
    go_ret
    exact ⟨rfl, below2 HB6.out cur⟩

end Go.Proofs.Ytjbhnjincedkmaa
