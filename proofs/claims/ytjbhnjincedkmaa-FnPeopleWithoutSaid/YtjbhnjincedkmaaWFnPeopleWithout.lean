/- Walk of the law FnPeopleWithout. -/
import Derived.Test.YtjbhnjincedkmaaWi
import Derived.Test.YtjbhnjincedkmaaDx
import Derived.Test.YtjbhnjincedkmaaSq
import Derived.Test.YtjbhnjincedkmaaSm
import Derived.Deep.DeepCutAuto
import Derived.Deep.RegionWith
import Derived.Deep.RegionHeld3
namespace Go.Proofs.Ytjbhnjincedkmaa
open Go.RowKit
set_option linter.unusedVariables false

/-- A person in a box of its own, as a list of one. -/
theorem ppl_box {w : World} {g : Nat} {a j s p : Int} (h : Boxd w g 36 #[.int .i64 a, .int .i64 j, .int .i64 s, .int .i64 p]) : Ppl w (some ⟨g, 0, none⟩) 1 [⟨a, j, s, p⟩] := by
  refine ⟨fun _ => ⟨g, 0, rfl, h.lt, fun i u hu => ?_⟩, by simp, by omega, fun e => by cases e⟩
  rw [Nat.zero_add, cell_of_row w g i _ _ _ h]
  simpa [pcells_one] using hu
/-- What the statement that puts a person back leaves. -/
def Added (w0 : World) (M : List Pers) (m : Nat) (v : Value) (wx : World) : Prop := ∃ A c, v = .slice A m c ∧ Ppl wx A c M ∧ Below w0.heap.size w0 wx

set_option maxRecDepth 100000 in
set_option maxHeartbeats 6400000 in
theorem fnPeopleWithout_walk (w : World) (A : Option Addr) (n c : Nat) (hin : BytesIn w A n c) :
    Calls Try.prog 6 #[.slice A n c] w fun e w' => e = .returned (.bool true) ∧ Below w.heap.size w w' := by
  have hn := hin.2.1
  by_cases hbig : 1048576 < n
  · have hd : decide (1048576 < (n : Int)) = true := by simp; omega
    go_enter Try.func6, Try.ntmps6
    go_wp2
    go_ret
    exact ⟨rfl, Below.refl _ _⟩
  have hd : decide (1048576 < (n : Int)) = false := by simp; omega
  go_enter Try.func6, Try.ntmps6
  go_wp2_with fail
  refine (drawPeopleWithout_any A n c w hin).mono ?_
  rintro e w1 ⟨B, d, L, m, k, rfl, hL, hm, hP1, hb1⟩
  have HL := Lib.hid hL
  have hrl : (woL L k).length ≤ 8 := by have := woL_len L k; omega
  clear hL
  go_wp2_with fail
  refine (peopleWithout_any _ _ _ L k _ hP1 HL.out (by omega)).mono ?_
  rintro e w2 ⟨A2, n2, c2, rfl, hn2, ho2, hb2⟩
  have hP2 := hP1.below hb2
  have hO2 := ppl_own_n hn2 ho2
  go_wp2_with fail
  refine (sPeopleWithout_any _ _ _ L k _ hP2 HL.out (by omega)).mono ?_
  rintro e w3 ⟨A3, n3, c3, rfl, hn3, ho3, hb3⟩
  have hQ3 := hP2.below hb3
  have hO3 := hO2.below hb3
  have hP3 := ppl_own_n hn3 ho3
  have hb03 := below2 hb1 (below2 hb2 hb3)
  have hn2' : n2 ≤ 8 := by omega
  have hn3' : n3 ≤ 8 := by omega
  have HN2 := Lib.hid hn2
  have HN3 := Lib.hid hn3
  have HSS := Lib.hid (samAll_self (woL L k))
  clear hn2 hn3 hrl hP1 hP2 hO2 ho2 ho3 hb1 hb2 hb3
  cases hok : woB L k
  · go_wp2_with fail
    refine (samePeople_any _ _ _ _ _ _ (woL L k) (woL L k) _ hO3.1 hP3.1 HN2.out HN3.out (by omega) (by omega)).mono ?_
    rintro e w4 ⟨rfl, hb4⟩
    rw [HSS.out]
    go_wp2_with fail
    refine (samePeople_any _ _ _ _ _ _ (woL L k) (woL L k) _ (hO3.below hb4).1 (hP3.below hb4).1 HN2.out HN3.out (by omega) (by omega)).mono ?_
    rintro e w5 ⟨rfl, hb5⟩
    rw [HSS.out]
    go_wp2
    go_ret
    exact ⟨rfl, below2 hb03 (below2 hb4 hb5)⟩
  go_wp2_with fail
  refine (samePeople_any _ _ _ _ _ _ (woL L k) (woL L k) _ hO3.1 hP3.1 HN2.out HN3.out (by omega) (by omega)).mono ?_
  rintro e w4 ⟨rfl, hb4⟩
  rw [HSS.out]
  have hQ4 := hQ3.below hb4
  have hO4 := hO3.below hb4
  have hb04 := below2 hb03 hb4
  obtain ⟨hPv, hk0, hk1⟩ := woB_iff.1 hok
  obtain ⟨i, rfl⟩ : ∃ i : Nat, k = i := ⟨k.toNat, by omega⟩
  rw [woL_yes hok] at hO4
  have hn2 := HN2.out
  rw [woL_yes hok] at hn2
  have hN2 := hn2
  rw [del_length (show i < L.length by omega), HL.out] at hN2
  rw [HL.out] at hk1
  have hi : i < m := by omega
  have hn2m : n2 ≤ m - 1 := by omega
  have hn2m' : m - 1 ≤ n2 := by omega
  have HD := Lib.hid hn2
  have HPV := Lib.hid hPv
  clear hn2 hN2 hPv hk0 hk1 hQ3 hO3 hP3 hb03 hb4 HN2 HN3 HSS
  obtain ⟨⟨a, j, s, p⟩, hx⟩ : ∃ x, L[i]? = some x := ⟨_, List.getElem?_eq_getElem (by rw [HL.out]; exact hi)⟩
  have hpo := (peopleB_iff.1 HPV.out).1 _ (List.mem_of_getElem? hx)
  obtain ⟨⟨pa0, pa1⟩, ⟨pj0, pj1⟩, ⟨ps0, ps1⟩, pp0, pp1⟩ := okB_un hpo
  obtain ⟨b, o, hBe, hlt, hc⟩ := hQ4.1 (by rw [pcells_length, HL.out]; omega)
  subst hBe
  obtain ⟨k0, k1, k2, k3⟩ := cells_at hc hx
  have D1 : manyI (del L i) (-1) (-1) (-1) = manyI L (-1) (-1) (-1) - 1 := by
    rw [many_cnt (del_ok HPV.out) ask_any, many_cnt HPV.out ask_any, del_cnt hx, if_pos (isB_any _)]; omega
  have D2 : payI (del L i) (-1) (-1) (-1) = payI L (-1) (-1) (-1) - p := by
    rw [pay_pys (del_ok HPV.out) ask_any, pay_pys HPV.out ask_any, del_pys hx, if_pos (isB_any _)]; simp only; omega
  have q0 := many_le (L := L) (-1) (-1) (-1)
  have r0 := pay_le (L := L) (-1) (-1) (-1)
  have q1 := many_le (L := del L i) (-1) (-1) (-1)
  have r1 := pay_le (L := del L i) (-1) (-1) (-1)
  rw [HL.out] at q0
  rw [HD.out] at q1
  obtain ⟨q, hq⟩ : ∃ q, manyI L (-1) (-1) (-1) = q := ⟨_, rfl⟩
  obtain ⟨r, hr⟩ : ∃ r, payI L (-1) (-1) (-1) = r := ⟨_, rfl⟩
  obtain ⟨q', hq'⟩ : ∃ q', manyI (del L i) (-1) (-1) (-1) = q' := ⟨_, rfl⟩
  obtain ⟨r', hr'⟩ : ∃ r', payI (del L i) (-1) (-1) (-1) = r' := ⟨_, rfl⟩
  rw [hq, hq'] at D1
  rw [hr, hr'] at D2
  rw [hq] at q0
  rw [hq'] at q1
  rw [hr] at r0
  rw [hr'] at r1
  have HQ := Lib.hid hq
  have HR := Lib.hid hr
  have HQ' := Lib.hid hq'
  have HR' := Lib.hid hr'
  have E1 : (q - q' == 1) = true := by simp; omega
  have E2 : (r - r' == p) = true := by simp; omega
  obtain ⟨q2, q3⟩ := q0
  obtain ⟨r2, r3⟩ := r0
  obtain ⟨q4, q5⟩ := q1
  obtain ⟨r4, r5⟩ := r1
  have HBK := Lib.hid (del_back hx)
  have HXX := Lib.hid hx
  have HCC := Lib.hid hc
  have hnc : n2 ≤ c2 := by rw [← HD.out]; exact hO4.2.1
  obtain ⟨A1, u1, s1, n1⟩ := cut_to A2 n2 c2 i (del L i) HD.out (by omega) hnc
  obtain ⟨A3', u2, s2, n3'⟩ := cut_from A2 n2 c2 i (del L i) HD.out (by omega) hnc
  have P1 := Lib.hid (fun (w' : World) (h : Ppl w' A2 c2 (del L i)) => (show Ppl w' A1 c2 ((del L i).take i) from ⟨s1 w' h.1, by rw [List.length_take]; omega, h.2.2.1, fun e => h.2.2.2 (n1 e)⟩))
  have P2 := Lib.hid (fun (w' : World) (h : Ppl w' A2 c2 (del L i)) => (show Ppl w' A3' (c2 - i) ((del L i).drop i) from ⟨s2 w' h.1, by rw [List.length_drop, HD.out]; omega, by have := h.2.2.1; omega, fun e => by have := h.2.2.2 (n3' e); omega⟩))
  have L1 := Lib.hid (show ((del L i).take i).length = i by rw [List.length_take, HD.out]; omega)
  have L2 := Lib.hid (show ((del L i).drop i).length = n2 - i by rw [List.length_drop, HD.out])
  have L3 := Lib.hid (show ((del L i).take i ++ [(⟨a, j, s, p⟩ : Pers)]).length = i + 1 by rw [List.length_append, L1.out, List.length_singleton])
  clear hq hr hq' hr' D1 D2 hpo hx hc s1 s2 n1 n3' k0 k1 k2 k3
  go_wp2_with fail
  refine (peopleMany_any _ _ _ L _ _ _ _ hQ4.1 HL.out (by omega)).mono ?_
  rintro e w5 ⟨rfl, hb5⟩
  rw [HQ.out]
  go_wp2_with fail
  refine (peopleMany_any _ _ _ (del L i) _ _ _ _ (hO4.below hb5).1 HD.out (by omega)).mono ?_
  rintro e w6 ⟨rfl, hb6⟩
  rw [HQ'.out]
  go_wp2_with fail
  refine (peoplePay_any _ _ _ L _ _ _ _ ((hQ4.below hb5).below hb6).1 HL.out (by omega)).mono ?_
  rintro e w7 ⟨rfl, hb7⟩
  rw [HR.out]
  go_wp2_with fail
  refine (peoplePay_any _ _ _ (del L i) _ _ _ _ (((hO4.below hb5).below hb6).below hb7).1 HD.out (by omega)).mono ?_
  rintro e W ⟨rfl, hb8⟩
  rw [HR'.out]
  have hb4W := below2 hb5 (below2 hb6 (below2 hb7 hb8))
  have hQW := hQ4.below hb4W
  have hOW := hO4.below hb4W
  have hb0W := below2 hb04 hb4W
  have HCW := Lib.hid (fun (w' : World) (h : Below W.heap.size W w') => cells_later hlt (below2 hb4W h) (cells_at HCC.out HXX.out))
  clear hb5 hb6 hb7 hb8 hQ4 hO4 hb04 hb4W hlt
  go_upto_region 10 with fail
  have bE : Below W.heap.size W (W.alloc (.cells #[] 36)).drew := (below_new W _).drew
  have bEP : Below W.heap.size W ((W.alloc (.cells #[] 36)).alloc (.cells #[.int .i64 a, .int .i64 j, .int .i64 s, .int .i64 p] 36)).drew := (below2 (below_new W _) (below_new _ _)).drew
  have bPE : Below W.heap.size W ((W.alloc (.cells #[.int .i64 a, .int .i64 j, .int .i64 s, .int .i64 p] 36)).alloc (.cells #[] 36)).drew := (below2 (below_new W _) (below_new _ _)).drew
  have oE : (W.alloc (.cells #[] 36)).drew.ownsRow W.heap.size 36 4 (.slice (some ⟨W.heap.size, 0, none⟩) 0 0) 0 (pcells []) := own_empty W
  have oEP : ((W.alloc (.cells #[] 36)).alloc (.cells #[.int .i64 a, .int .i64 j, .int .i64 s, .int .i64 p] 36)).drew.ownsRow W.heap.size 36 4 (.slice (some ⟨W.heap.size, 0, none⟩) 0 0) 0 (pcells []) := (own_empty W).alloc _
  have oPE : ((W.alloc (.cells #[.int .i64 a, .int .i64 j, .int .i64 s, .int .i64 p] 36)).alloc (.cells #[] 36)).drew.ownsRow W.heap.size 36 4 (.slice (some ⟨W.heap.size + 1, 0, none⟩) 0 0) 0 (pcells []) := by
    have := World.ownsRow_lit (base := W.heap.size) (e := 36) (size := 4) (W.alloc (.cells #[.int .i64 a, .int .i64 j, .int .i64 s, .int .i64 p] 36)) #[] 0 (by simp) (by unfold maxLen; omega) rfl
    simp at this
    exact this
  have xEP : Boxd ((W.alloc (.cells #[] 36)).alloc (.cells #[.int .i64 a, .int .i64 j, .int .i64 s, .int .i64 p] 36)).drew (W.heap.size + 1) 36 #[.int .i64 a, .int .i64 j, .int .i64 s, .int .i64 p] := by
    have := Boxd.new (W.alloc (.cells #[] 36)) 36 #[.int .i64 a, .int .i64 j, .int .i64 s, .int .i64 p]
    simp at this
    exact this
  have xPE : Boxd ((W.alloc (.cells #[.int .i64 a, .int .i64 j, .int .i64 s, .int .i64 p] 36)).alloc (.cells #[] 36)).drew W.heap.size 36 #[.int .i64 a, .int .i64 j, .int .i64 s, .int .i64 p] := (Boxd.new W _ _).alloc _
  have HH := Lib.hid (And.intro bE (And.intro bEP (And.intro bPE (And.intro oE (And.intro oEP (And.intro oPE (And.intro xEP xPE)))))))
  clear bE bEP bPE oE oEP oPE xEP xPE
  go_cut [11] (fun v wx => Added W L (i + 1 + (n2 - i)) v wx)
  case first =>
    have HP1 := Lib.hid (show Below W.heap.size W (W.alloc (.cells #[.int .i64 a, .int .i64 j, .int .i64 s, .int .i64 p] 36)).drew from (below_new W _).drew)
    have cur : Below W.heap.size W W.drew := (Below.refl _ _).drew
    clear hin hd hbig hn hb0W HQ HR HQ' HR' E1 E2 HPV hQW
    have HOW := Lib.hid hOW
    clear hOW
    go_region_held3 (fun w' => w'.cell? ⟨b, o + i * 4, none⟩ = some (.int .i64 a) ∧ w'.cell? ⟨b, o + i * 4 + 1, none⟩ = some (.int .i64 j) ∧ w'.cell? ⟨b, o + i * 4 + 2, none⟩ = some (.int .i64 s) ∧ w'.cell? ⟨b, o + i * 4 + 3, none⟩ = some (.int .i64 p)) (first | with_reducible exact HCW.out _ cur | with_reducible exact HCW.out _ HH.out.1 | with_reducible exact HCW.out _ HH.out.2.1 | with_reducible exact HCW.out _ HH.out.2.2.1 | with_reducible exact HCW.out _ HP1.out | exact HCW.out _ (cur.alloc cur.size _)) (first
      | (with_reducible show if _ then Oper.wp _ _ _ ((W.alloc (.cells #[] 36)).drew) _ _ else _; refine step_app_many rfl (.tmp 63) (.tmp 66) rfl W.heap.size (.slice (some ⟨W.heap.size, 0, none⟩) 0 0) [] ((del L i).take i) A1 0 i c2 rfl rfl rfl L1.out HH.out.2.2.2.1 (P1.out _ (HOW.out.below HH.out.1)) (by omega) (by omega) (by simp) ?_; intro v1 w6 ho6 hg6; simp only [Nat.zero_add, List.nil_append] at ho6; have hb6 := HH.out.1.grown hg6 (by simp) (by simp [Value.ownBlock]); obtain ⟨A6, c6, hv6⟩ := own_shape ho6; subst hv6; have cur := hb6)
      | (with_reducible show if _ then Oper.wp _ _ _ (((W.alloc (.cells #[] 36)).alloc (.cells #[.int .i64 a, .int .i64 j, .int .i64 s, .int .i64 p] 36)).drew) _ _ else _; refine step_app_many rfl (.tmp 63) (.tmp 66) rfl W.heap.size (.slice (some ⟨W.heap.size, 0, none⟩) 0 0) [] ((del L i).take i) A1 0 i c2 rfl rfl rfl L1.out HH.out.2.2.2.2.1 (P1.out _ (HOW.out.below HH.out.2.1)) (by omega) (by omega) (by simp; omega) ?_; intro v1 w6 ho6 hg6; simp only [Nat.zero_add, List.nil_append] at ho6; have hb6 := HH.out.2.1.grown hg6 (by simp; omega) (by simp [Value.ownBlock]); obtain ⟨A6, c6, hv6⟩ := own_shape ho6; subst hv6; have y6 := ppl_box (HH.out.2.2.2.2.2.2.1.grown hg6 (Nat.succ_ne_self _)); have cur := hb6)
      | (with_reducible show if _ then Oper.wp _ _ _ (((W.alloc (.cells #[.int .i64 a, .int .i64 j, .int .i64 s, .int .i64 p] 36)).alloc (.cells #[] 36)).drew) _ _ else _; refine step_app_many rfl (.tmp 63) (.tmp 66) rfl W.heap.size (.slice (some ⟨W.heap.size + 1, 0, none⟩) 0 0) [] ((del L i).take i) A1 0 i c2 rfl rfl rfl L1.out HH.out.2.2.2.2.2.1 (P1.out _ (HOW.out.below HH.out.2.2.1)) (by omega) (by omega) (by simp; omega) ?_; intro v1 w6 ho6 hg6; simp only [Nat.zero_add, List.nil_append] at ho6; have hb6 := HH.out.2.2.1.grown hg6 (by simp; omega) (by simp [Value.ownBlock]); obtain ⟨A6, c6, hv6⟩ := own_shape ho6; subst hv6; have y6 := ppl_box (HH.out.2.2.2.2.2.2.2.grown hg6 (Nat.ne_of_lt (Nat.lt_succ_self _))); have cur := hb6)
      | (with_reducible show if _ then Oper.wp _ _ _ (w6) _ _ else _; refine step_app_many (w := w6) rfl (.tmp 67) (.tmp 72) rfl W.heap.size (.slice A6 i c6) ((del L i).take i) [⟨a, j, s, p⟩] _ i 1 1 rfl rfl L1.out rfl ho6 y6 (by omega) (by omega) hb6.size ?_; intro v2 w7 ho7 hg7; have hb7 := hb6.grown hg7 hb6.size (fun k hk => (ho6.lt k hk).1); obtain ⟨A7, c7, hv7⟩ := own_shape ho7; subst hv7; have cur := hb7)
      | (with_reducible show if _ then Oper.wp _ _ _ (w6.alloc (.cells #[.int .i64 a, .int .i64 j, .int .i64 s, .int .i64 p] 36)) _ _ else _; refine step_app_many (w := w6.alloc (.cells #[.int .i64 a, .int .i64 j, .int .i64 s, .int .i64 p] 36)) rfl (.tmp 67) (.tmp 72) rfl W.heap.size (.slice A6 i c6) ((del L i).take i) [⟨a, j, s, p⟩] _ i 1 1 rfl rfl L1.out rfl (ho6.alloc _) (ppl_box (Boxd.new w6 _ _)) (by omega) (by omega) (by have := hb6.size; simp; omega) ?_; intro v2 w7 ho7 hg7; have hb7 := (hb6.alloc hb6.size _).grown hg7 (by have := hb6.size; simp; omega) (fun k hk => (ho6.lt k hk).1); obtain ⟨A7, c7, hv7⟩ := own_shape ho7; subst hv7; have cur := hb7)
      | (with_reducible show if _ then Oper.wp _ _ _ (w7) _ _ else _; refine step_app_many (w := w7) rfl (.tmp 73) (.tmp 76) rfl W.heap.size (.slice A7 (i + 1) c7) ((del L i).take i ++ [⟨a, j, s, p⟩]) ((del L i).drop i) A3' (i + 1) (n2 - i) (c2 - i) rfl rfl L3.out L2.out ho7 (P2.out _ (HOW.out.below hb7)) (by omega) (by omega) hb7.size ?_; intro v3 w8 ho8 hg8; have hb8 := hb7.grown hg8 hb7.size (fun k hk => (ho7.lt k hk).1); obtain ⟨A8, c8, hv8⟩ := own_shape ho8; subst hv8; have cur := hb8))
    all_goals
      go_wp2
      go_meet
      rw [HBK.out] at ho8
      exact ⟨A8, c8, rfl, ppl_own_n (by rw [HL.out]; omega) ho8, hb8⟩
  case rest =>
    obtain ⟨A5, c5, rfl, hP5, hb5⟩ := hcut
    have hQ5 := hQW.below hb5
    obtain ⟨k0, k1, k2, k3⟩ := HCW.out _ hb5
    have HSS := Lib.hid (samAll_self L)
    have i0 : i + 1 + (n2 - i) ≤ m := by omega
    have HLB := Lib.hid (show L.length = i + 1 + (n2 - i) by rw [HL.out]; omega)
    clear HH hQW hOW
    go_wp2_with fail
    refine (samePeople_any _ _ _ _ _ _ L L _ hP5.1 hQ5.1 HLB.out HL.out (by omega) (by omega)).mono ?_
    rintro e w9 ⟨rfl, hb9⟩
    rw [HSS.out]
    go_wp2
    go_ret
    exact ⟨rfl, below2 hb0W (below2 hb5 hb9)⟩

end Go.Proofs.Ytjbhnjincedkmaa
