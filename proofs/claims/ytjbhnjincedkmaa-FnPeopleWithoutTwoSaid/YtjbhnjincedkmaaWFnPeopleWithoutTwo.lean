/- Walk of the law FnPeopleWithoutTwo. -/
import Derived.Test.YtjbhnjincedkmaaWi
import Derived.Test.YtjbhnjincedkmaaDx
import Derived.Test.YtjbhnjincedkmaaSq
import Derived.Deep.DeepCutAuto
namespace Go.Proofs.Ytjbhnjincedkmaa
open Go.RowKit
set_option linter.unusedVariables false

set_option maxRecDepth 100000 in
set_option maxHeartbeats 6400000 in
theorem fnPeopleWithoutTwo_walk (w : World) (A : Option Addr) (n c : Nat) (hin : BytesIn w A n c) :
    Calls Try.prog 3 #[.slice A n c] w fun e w' => e = .returned (.bool true) ∧ Below w.heap.size w w' := by
  have hn := hin.2.1
  by_cases hbig : 1048576 < n
  · have hd : decide (1048576 < (n : Int)) = true := by simp; omega
    go_enter Try.func3, Try.ntmps3
    go_wp2
    go_ret
    exact ⟨rfl, Below.refl _ _⟩
  have hd : decide (1048576 < (n : Int)) = false := by simp; omega
  go_enter Try.func3, Try.ntmps3
  go_wp2_with fail
  refine (drawPeopleWithout_any A n c w hin).mono ?_
  rintro e w1 ⟨B, d, L, m, k, rfl, hL, hm, hP1, hb1⟩
  have HL := Lib.hid hL
  have hrl : (woL L k).length ≤ 8 := by have := woL_len L k; omega
  clear hL
  go_wp2_with fail
  refine (peopleWithout_any _ _ _ L k _ hP1 HL.out (by omega)).mono ?_
  rintro e w2 ⟨A2, n2, c2, rfl, hn2, ho2, hb2⟩
  have hP2 := hP1.below hb2
  have hO2 := ppl_own_n hn2 ho2
  go_wp2_with fail
  refine (sPeopleWithout_any _ _ _ L k _ hP2 HL.out (by omega)).mono ?_
  rintro e w3 ⟨A3, n3, c3, rfl, hn3, ho3, hb3⟩
  have hQ3 := hP2.below hb3
  have hO3 := hO2.below hb3
  have hP3 := ppl_own_n hn3 ho3
  have hb03 := below2 hb1 (below2 hb2 hb3)
  have hn2' : n2 ≤ 8 := by omega
  have hn3' : n3 ≤ 8 := by omega
  have HN2 := Lib.hid hn2
  have HN3 := Lib.hid hn3
  have HSS := Lib.hid (samAll_self (woL L k))
  clear hn2 hn3 hrl hP1 hP2 hO2 ho2 ho3 hb1 hb2 hb3
  cases hok : woB L k
  · go_wp2_with fail
    refine (samePeople_any _ _ _ _ _ _ (woL L k) (woL L k) _ hO3.1 hP3.1 HN2.out HN3.out (by omega) (by omega)).mono ?_
    rintro e w4 ⟨rfl, hb4⟩
    rw [HSS.out]
    go_wp2_with fail
    refine (samePeople_any _ _ _ _ _ _ (woL L k) (woL L k) _ (hO3.below hb4).1 (hP3.below hb4).1 HN2.out HN3.out (by omega) (by omega)).mono ?_
    rintro e w5 ⟨rfl, hb5⟩
    rw [HSS.out]
    go_wp2
    go_ret
    exact ⟨rfl, below2 hb03 (below2 hb4 hb5)⟩
  go_wp2_with fail
  refine (samePeople_any _ _ _ _ _ _ (woL L k) (woL L k) _ hO3.1 hP3.1 HN2.out HN3.out (by omega) (by omega)).mono ?_
  rintro e w4 ⟨rfl, hb4⟩
  rw [HSS.out]
  have hQ4 := hQ3.below hb4
  have hO4 := hO3.below hb4
  have hb04 := below2 hb03 hb4
  obtain ⟨hPv, hk0, hk1⟩ := woB_iff.1 hok
  obtain ⟨i, rfl⟩ : ∃ i : Nat, k = i := ⟨k.toNat, by omega⟩
  rw [woL_yes hok] at hO4
  have hn2 := HN2.out
  rw [woL_yes hok] at hn2
  have hN2 := hn2
  rw [del_length (show i < L.length by omega), HL.out] at hN2
  rw [HL.out] at hk1
  have hi : i < m := by omega
  have hn2m : n2 ≤ m - 1 := by omega
  have hn2m' : m - 1 ≤ n2 := by omega
  have HD := Lib.hid hn2
  have HPV := Lib.hid hPv
  clear hn2 hN2 hPv hk0 hk1 hQ3 hO3 hP3 hb03 hb4 HN2 HN3 HSS
  by_cases h2 : m < 2
  · have hd2 : decide ((m : Int) < 2) = true := by simp; omega
    have HF := Lib.hid (woB_empty (L := del L i) (by rw [HD.out]; omega) 0)
    go_wp2_with fail
    refine (peopleWithout_any _ _ _ (del L i) 0 _ hO4 HD.out (by omega)).mono ?_
    rintro e w5 ⟨A5, n5, c5, rfl, _, _, hb5⟩
    rw [HF.out]
    go_wp2
    go_ret
    exact ⟨rfl, below2 hb04 hb5⟩
  have hd2 : decide ((m : Int) < 2) = false := by simp; omega
  obtain ⟨X1, X2⟩ := woL_at (k := 0) (i := 0) rfl (del_ok (i := i) HPV.out) (by rw [HD.out]; omega)
  have HX1 := Lib.hid X1
  have HX2 := Lib.hid X2
  clear X1 X2
  have HT := Lib.hid (del_two (L := L) (k := i) (by rw [HL.out]; omega) (by rw [HL.out]; omega))
  by_cases h0 : i = 0
  · have e0 : ((i : Int) == 0) = true := by simp; omega
    obtain ⟨Y1, Y2⟩ := woL_at (L := L) (k := 1) (i := 1) rfl HPV.out (by rw [HL.out]; omega)
    have ly := del_length (L := L) (i := 1) (by rw [HL.out]; omega)
    rw [HL.out] at ly
    obtain ⟨Z1, Z2⟩ := woL_at (L := del L 1) (k := 0) (i := 0) (rfl) (del_ok HPV.out) (by rw [ly]; omega)
    have HY1 := Lib.hid Y1
    have HY2 := Lib.hid Y2
    have HZ1 := Lib.hid Z1
    have HZ2 := Lib.hid Z2
    have HTT := Lib.hid (show samAll (del (del L i) 0) (del (del L 1) (0)) = true from samAll_iff.2 (by have := HT.out; simp only [h0, if_true] at this; rw [h0]; exact this))
    have lz := del_length (L := del L 1) (i := 0) (by rw [ly]; omega)
    have lx := del_length (L := del L i) (i := 0) (by rw [HD.out]; omega)
    rw [HD.out] at lx
    rw [ly] at lz
    have HLY := Lib.hid ly
    have HLZ := Lib.hid lz
    have HLX := Lib.hid lx
    have i0 : i ≤ 0 := by omega
    clear Y1 Y2 Z1 Z2 ly lz lx h0 HT
    go_wp2_with fail
    refine (peopleWithout_any _ _ _ (del L i) 0 _ hO4 HD.out (by omega)).mono ?_
    rintro e w5 ⟨A5, n5, c5, rfl, hl5, ho5, hb5⟩
    rw [HX1.out]
    rw [HX2.out] at hl5 ho5
    have hO5 := ppl_own_n hl5 ho5
    have hQ5 := hQ4.below hb5
    have H5 := Lib.hid hl5
    have b5 : n5 ≤ 8 := by have := HLX.out; omega
    clear hl5 ho5
    go_wp2_with fail
    refine (peopleWithout_any _ _ _ L (1) _ hQ5 HL.out (by omega)).mono ?_
    rintro e w6 ⟨A6, n6, c6, rfl, hl6, ho6, hb6⟩
    rw [HY1.out]
    rw [HY2.out] at hl6 ho6
    have hY6 := ppl_own_n hl6 ho6
    have hO6 := hO5.below hb6
    have H6 := Lib.hid hl6
    have b6 : n6 ≤ 8 := by have := HLY.out; omega
    clear hl6 ho6
    go_wp2_with fail
    refine (peopleWithout_any _ _ _ (del L 1) (0) _ hY6 H6.out (by omega)).mono ?_
    rintro e w7 ⟨A7, n7, c7, rfl, hl7, ho7, hb7⟩
    rw [HZ1.out]
    rw [HZ2.out] at hl7 ho7
    have hZ7 := ppl_own_n hl7 ho7
    have hO7 := hO6.below hb7
    have H7 := Lib.hid hl7
    have b7 : n7 ≤ 8 := by have := HLZ.out; omega
    clear hl7 ho7
    go_wp2_with fail
    refine (samePeople_any _ _ _ _ _ _ (del (del L i) 0) (del (del L 1) (0)) _ hO7.1 hZ7.1 H5.out H7.out (by omega) (by omega)).mono ?_
    rintro e w8 ⟨rfl, hb8⟩
    rw [HTT.out]
    go_wp2
    go_ret
    exact ⟨rfl, below2 hb04 (below2 hb5 (below2 hb6 (below2 hb7 hb8)))⟩
  · have e0 : ((i : Int) == 0) = false := by simp; omega
    obtain ⟨Y1, Y2⟩ := woL_at (L := L) (k := 0) (i := 0) rfl HPV.out (by rw [HL.out]; omega)
    have ly := del_length (L := L) (i := 0) (by rw [HL.out]; omega)
    rw [HL.out] at ly
    obtain ⟨Z1, Z2⟩ := woL_at (L := del L 0) (k := (i : Int) - 1) (i := i - 1) (by omega) (del_ok HPV.out) (by rw [ly]; omega)
    have HY1 := Lib.hid Y1
    have HY2 := Lib.hid Y2
    have HZ1 := Lib.hid Z1
    have HZ2 := Lib.hid Z2
    have HTT := Lib.hid (show samAll (del (del L i) 0) (del (del L 0) (i - 1)) = true from samAll_iff.2 (by have := HT.out; simp only [h0, if_false] at this; exact this))
    have lz := del_length (L := del L 0) (i := i - 1) (by rw [ly]; omega)
    have lx := del_length (L := del L i) (i := 0) (by rw [HD.out]; omega)
    rw [HD.out] at lx
    rw [ly] at lz
    have HLY := Lib.hid ly
    have HLZ := Lib.hid lz
    have HLX := Lib.hid lx
    have i0 : 1 ≤ i := by omega
    clear Y1 Y2 Z1 Z2 ly lz lx h0 HT
    go_wp2_with fail
    refine (peopleWithout_any _ _ _ (del L i) 0 _ hO4 HD.out (by omega)).mono ?_
    rintro e w5 ⟨A5, n5, c5, rfl, hl5, ho5, hb5⟩
    rw [HX1.out]
    rw [HX2.out] at hl5 ho5
    have hO5 := ppl_own_n hl5 ho5
    have hQ5 := hQ4.below hb5
    have H5 := Lib.hid hl5
    have b5 : n5 ≤ 8 := by have := HLX.out; omega
    clear hl5 ho5
    go_wp2_with fail
    refine (peopleWithout_any _ _ _ L (0) _ hQ5 HL.out (by omega)).mono ?_
    rintro e w6 ⟨A6, n6, c6, rfl, hl6, ho6, hb6⟩
    rw [HY1.out]
    rw [HY2.out] at hl6 ho6
    have hY6 := ppl_own_n hl6 ho6
    have hO6 := hO5.below hb6
    have H6 := Lib.hid hl6
    have b6 : n6 ≤ 8 := by have := HLY.out; omega
    clear hl6 ho6
    go_wp2_with fail
    refine (peopleWithout_any _ _ _ (del L 0) ((i : Int) - 1) _ hY6 H6.out (by omega)).mono ?_
    rintro e w7 ⟨A7, n7, c7, rfl, hl7, ho7, hb7⟩
    rw [HZ1.out]
    rw [HZ2.out] at hl7 ho7
    have hZ7 := ppl_own_n hl7 ho7
    have hO7 := hO6.below hb7
    have H7 := Lib.hid hl7
    have b7 : n7 ≤ 8 := by have := HLZ.out; omega
    clear hl7 ho7
    go_wp2_with fail
    refine (samePeople_any _ _ _ _ _ _ (del (del L i) 0) (del (del L 0) (i - 1)) _ hO7.1 hZ7.1 H5.out H7.out (by omega) (by omega)).mono ?_
    rintro e w8 ⟨rfl, hb8⟩
    rw [HTT.out]
    go_wp2
    go_ret
    exact ⟨rfl, below2 hb04 (below2 hb5 (below2 hb6 (below2 hb7 hb8)))⟩

end Go.Proofs.Ytjbhnjincedkmaa
