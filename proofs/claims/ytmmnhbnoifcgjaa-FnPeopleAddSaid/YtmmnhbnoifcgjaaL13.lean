/- Walk of the law FnPeopleAdd. -/
import Derived.Test.YtmmnhbnoifcgjaaSm
import Derived.Test.YtmmnhbnoifcgjaaSp
import Derived.Test.YtmmnhbnoifcgjaaAk
import Derived.Test.YtmmnhbnoifcgjaaPn
import Derived.Test.YtmmnhbnoifcgjaaSl
import Derived.Deep.RegionWith
import Derived.Deep.RegionHeld3
import Derived.Deep.DeepCutAuto
namespace Go.Proofs.Ytmmnhbnoifcgjaa
open Go.RowKit
set_option linter.unusedVariables false

/-- A person in a box of its own, as a list of one. -/
theorem ppl_box {w : World} {g : Nat} {a j s p : Int} (h : Boxd w g 35 #[.int .i64 a, .int .i64 j, .int .i64 s, .int .i64 p]) : Ppl w (some ⟨g, 0, none⟩) 1 [⟨a, j, s, p⟩] := by
  refine ⟨fun _ => ⟨g, 0, rfl, h.lt, fun i u hu => ?_⟩, by simp, by omega, fun e => by cases e⟩
  rw [Nat.zero_add, cell_of_row w g i _ _ _ h]
  simpa [pcells_one] using hu
/-- What the statement that adds a person leaves. -/
def Added (w0 : World) (M : List Pers) (m : Nat) (v : Value) (wx : World) : Prop := ∃ A c, v = .slice A m c ∧ Ppl wx A c M ∧ Below w0.heap.size w0 wx

set_option maxRecDepth 100000 in
set_option maxHeartbeats 3200000 in
theorem fnPeopleAdd_walk (w : World) (A : Option Addr) (n c : Nat) (hin : BytesIn w A n c) (A' : Option Addr) (n' c' : Nat) (hin' : BytesIn w A' n' c') :
    Calls Try.prog 7 #[.slice A n c, .slice A' n' c'] w fun e w' => e = .returned (.bool true) ∧ Below w.heap.size w w' := by
  have hn := hin.2.1
  have hn' := hin'.2.1
  by_cases hbig : 1048576 < n
  · have hd : decide (1048576 < (n : Int)) = true := by simp; omega
    go_enter Try.func7, Try.ntmps7
    go_wp2
    go_ret
    exact ⟨rfl, Below.refl _ _⟩
  have hd : decide (1048576 < (n : Int)) = false := by simp; omega
  by_cases hbig' : 1048576 < n'
  · have hd' : decide (1048576 < (n' : Int)) = true := by simp; omega
    go_enter Try.func7, Try.ntmps7
    go_wp2
    go_ret
    exact ⟨rfl, Below.refl _ _⟩
  have hd' : decide (1048576 < (n' : Int)) = false := by simp; omega
  go_enter Try.func7, Try.ntmps7
  go_wp2_with fail
  refine (drawPeopleMany_any A n c w hin).mono ?_
  rintro e w1 ⟨B, d, L, x, y, z, rfl, hP1, hm, hb1⟩
  obtain ⟨m, hL⟩ : ∃ m, L.length = m := ⟨_, rfl⟩
  rw [hL] at hm ⊢
  have HL := Lib.hid hL
  clear hL
  go_wp2_with fail
  refine (peopleMany_any _ _ _ L _ _ _ _ hP1.1 HL.out (by omega)).mono ?_
  rintro e w2 ⟨rfl, hb2⟩
  have hP2 := hP1.below hb2
  go_wp2_with fail
  refine (sPeopleMany_any _ _ _ L _ _ _ _ hP2.1 HL.out (by omega)).mono ?_
  rintro e w3 ⟨rfl, hb3⟩
  have hP3 := hP2.below hb3
  have hb03 := below2 hb1 (below2 hb2 hb3)
  have hne : (manyI L x y z != manyI L x y z) = false := by simp
  cases h12 : peopleB L && askB x y z
  · have e0 := manyI_no h12
    rw [e0] at hne ⊢
    clear e0
    go_wp2
    go_ret
    exact ⟨rfl, hb03⟩
  have h12' := h12
  simp only [Bool.and_eq_true] at h12'
  obtain ⟨h1, h2⟩ := h12'
  have hpos : 0 ≤ manyI L x y z := by rw [manyI_yes h1 h2]; omega
  have hpd : decide (manyI L x y z < 0) = false := by simp; omega
  have hmd : m ≤ d := by rw [← HL.out]; exact hP3.2.1
  clear h12 hP1 hP2 hb1 hb2 hb3
  have hok : okB ⟨(n' : Int) % 4, (n' : Int) / 4 % 4, (n' : Int) / 16 % 2, 1 + (n' : Int) % 900⟩ = true := okB_mk (by omega) (by omega) (by omega) (by omega)
  have hmi : ((m : Int) == 40) = false := by simp; omega
  go_upto_region 11 with fail
  generalize ha : (n' : Int) % 4 = a at hok ⊢
  generalize hj : (n' : Int) / 4 % 4 = j at hok ⊢
  generalize hs : (n' : Int) / 16 % 2 = s at hok ⊢
  generalize hp : (1 : Int) + (n' : Int) % 900 = p at hok ⊢
  clear ha hj hs hp
  have bx := Boxd.new w3 35 #[.int .i64 a, .int .i64 j, .int .i64 s, .int .i64 p]
  have hP4 := hP3.below (below_new w3 (.cells #[.int .i64 a, .int .i64 j, .int .i64 s, .int .i64 p] 35))
  have hb34 := below_new w3 (.cells #[.int .i64 a, .int .i64 j, .int .i64 s, .int .i64 p] 35)
  generalize w3.alloc (.cells #[.int .i64 a, .int .i64 j, .int .i64 s, .int .i64 p] 35) = w4 at bx hP4 hb34 ⊢
  obtain ⟨⟨c0, c1, c2, c3⟩, _⟩ := cell_four bx
  have bE : Below w4.heap.size w4 (w4.alloc (.cells #[] 35)).drew := (below_new w4 _).drew
  have bEP : Below w4.heap.size w4 ((w4.alloc (.cells #[] 35)).alloc (.cells #[.int .i64 a, .int .i64 j, .int .i64 s, .int .i64 p] 35)).drew := (below2 (below_new w4 _) (below_new _ _)).drew
  have bPE : Below w4.heap.size w4 ((w4.alloc (.cells #[.int .i64 a, .int .i64 j, .int .i64 s, .int .i64 p] 35)).alloc (.cells #[] 35)).drew := (below2 (below_new w4 _) (below_new _ _)).drew
  have oE : (w4.alloc (.cells #[] 35)).drew.ownsRow w4.heap.size 35 4 (.slice (some ⟨w4.heap.size, 0, none⟩) 0 0) 0 (pcells []) := own_empty w4
  have oEP : ((w4.alloc (.cells #[] 35)).alloc (.cells #[.int .i64 a, .int .i64 j, .int .i64 s, .int .i64 p] 35)).drew.ownsRow w4.heap.size 35 4 (.slice (some ⟨w4.heap.size, 0, none⟩) 0 0) 0 (pcells []) := (own_empty w4).alloc _
  have oPE : ((w4.alloc (.cells #[.int .i64 a, .int .i64 j, .int .i64 s, .int .i64 p] 35)).alloc (.cells #[] 35)).drew.ownsRow w4.heap.size 35 4 (.slice (some ⟨w4.heap.size + 1, 0, none⟩) 0 0) 0 (pcells []) := by
    have := World.ownsRow_lit (base := w4.heap.size) (e := 35) (size := 4) (w4.alloc (.cells #[.int .i64 a, .int .i64 j, .int .i64 s, .int .i64 p] 35)) #[] 0 (by simp) (by unfold maxLen; omega) rfl
    simp at this
    exact this
  have xEP : Boxd ((w4.alloc (.cells #[] 35)).alloc (.cells #[.int .i64 a, .int .i64 j, .int .i64 s, .int .i64 p] 35)).drew (w4.heap.size + 1) 35 #[.int .i64 a, .int .i64 j, .int .i64 s, .int .i64 p] := by
    have := Boxd.new (w4.alloc (.cells #[] 35)) 35 #[.int .i64 a, .int .i64 j, .int .i64 s, .int .i64 p]
    simp at this
    exact this
  have xPE : Boxd ((w4.alloc (.cells #[.int .i64 a, .int .i64 j, .int .i64 s, .int .i64 p] 35)).alloc (.cells #[] 35)).drew w4.heap.size 35 #[.int .i64 a, .int .i64 j, .int .i64 s, .int .i64 p] := (Boxd.new w4 _ _).alloc _
  have HH := Lib.hid (And.intro bE (And.intro bEP (And.intro bPE (And.intro oE (And.intro oEP (And.intro oPE (And.intro xEP xPE)))))))
  have hbx := bx.lt
  clear bE bEP bPE oE oEP oPE xEP xPE
  go_cut [12] (fun v wx => Added w4 (L ++ [⟨a, j, s, p⟩]) (m + 1) v wx)
  case first =>
    have HC := Lib.hid (fun (w' : World) (h : Below w4.heap.size w4 w') => (cell_four (bx.below h)).1)
    have HP1 := Lib.hid (show Below w4.heap.size w4 (w4.alloc (.cells #[.int .i64 a, .int .i64 j, .int .i64 s, .int .i64 p] 35)).drew from (below_new w4 _).drew)
    have cur : Below w4.heap.size w4 w4.drew := (Below.refl _ _).drew
    generalize hG : w3.heap.size = G at *
    clear c0 c1 c2 c3 bx hbx hin hin' hd hd' hbig hbig' hn hn' hb03 hb34 hG hpd hpos hne hok hmi h1 h2 hP3
    go_region_held3 (fun w' => w'.cell? ⟨G, 0, none⟩ = some (.int .i64 a) ∧ w'.cell? ⟨G, 1, none⟩ = some (.int .i64 j) ∧ w'.cell? ⟨G, 2, none⟩ = some (.int .i64 s) ∧ w'.cell? ⟨G, 3, none⟩ = some (.int .i64 p)) (first | with_reducible exact HC.out _ cur | with_reducible exact HC.out _ HH.out.1 | with_reducible exact HC.out _ HH.out.2.1 | with_reducible exact HC.out _ HH.out.2.2.1 | with_reducible exact HC.out _ HP1.out | exact HC.out _ (cur.alloc cur.size _)) (first
      | (with_reducible show if _ then Oper.wp _ _ _ ((w4.alloc (.cells #[] 35)).drew) _ _ else _; refine step_app_many rfl (.tmp 73) (.tmp 74) rfl w4.heap.size (.slice (some ⟨w4.heap.size, 0, none⟩) 0 0) [] L B 0 m d rfl rfl rfl HL.out HH.out.2.2.2.1 (hP4.below HH.out.1) (by omega) (by omega) (by simp) ?_; intro v1 w6 ho6 hg6; simp only [Nat.zero_add, List.nil_append] at ho6; have hb6 := HH.out.1.grown hg6 (by simp) (by simp [Value.ownBlock]); obtain ⟨A6, c6, hv6⟩ := own_shape ho6; subst hv6; have cur := hb6)
      | (with_reducible show if _ then Oper.wp _ _ _ (((w4.alloc (.cells #[] 35)).alloc (.cells #[.int .i64 a, .int .i64 j, .int .i64 s, .int .i64 p] 35)).drew) _ _ else _; refine step_app_many rfl (.tmp 73) (.tmp 74) rfl w4.heap.size (.slice (some ⟨w4.heap.size, 0, none⟩) 0 0) [] L B 0 m d rfl rfl rfl HL.out HH.out.2.2.2.2.1 (hP4.below HH.out.2.1) (by omega) (by omega) (by simp; omega) ?_; intro v1 w6 ho6 hg6; simp only [Nat.zero_add, List.nil_append] at ho6; have hb6 := HH.out.2.1.grown hg6 (by simp; omega) (by simp [Value.ownBlock]); obtain ⟨A6, c6, hv6⟩ := own_shape ho6; subst hv6; have y6 := ppl_box (HH.out.2.2.2.2.2.2.1.grown hg6 (Nat.succ_ne_self _)); have cur := hb6)
      | (with_reducible show if _ then Oper.wp _ _ _ (((w4.alloc (.cells #[.int .i64 a, .int .i64 j, .int .i64 s, .int .i64 p] 35)).alloc (.cells #[] 35)).drew) _ _ else _; refine step_app_many rfl (.tmp 73) (.tmp 74) rfl w4.heap.size (.slice (some ⟨w4.heap.size + 1, 0, none⟩) 0 0) [] L B 0 m d rfl rfl rfl HL.out HH.out.2.2.2.2.2.1 (hP4.below HH.out.2.2.1) (by omega) (by omega) (by simp; omega) ?_; intro v1 w6 ho6 hg6; simp only [Nat.zero_add, List.nil_append] at ho6; have hb6 := HH.out.2.2.1.grown hg6 (by simp; omega) (by simp [Value.ownBlock]); obtain ⟨A6, c6, hv6⟩ := own_shape ho6; subst hv6; have y6 := ppl_box (HH.out.2.2.2.2.2.2.2.grown hg6 (Nat.ne_of_lt (Nat.lt_succ_self _))); have cur := hb6)
      | (with_reducible show if _ then Oper.wp _ _ _ (w6) _ _ else _; refine step_app_many (w := w6) rfl (.tmp 75) (.tmp 77) rfl w4.heap.size (.slice A6 m c6) L [⟨a, j, s, p⟩] _ m 1 1 rfl rfl HL.out rfl ho6 y6 (by omega) (by omega) hb6.size ?_; intro v2 w7 ho7 hg7; have hb7 := hb6.grown hg7 hb6.size (fun k hk => (ho6.lt k hk).1); obtain ⟨A7, c7, hv7⟩ := own_shape ho7; subst hv7; have cur := hb7)
      | (with_reducible show if _ then Oper.wp _ _ _ (w6.alloc (.cells #[.int .i64 a, .int .i64 j, .int .i64 s, .int .i64 p] 35)) _ _ else _; refine step_app_many (w := w6.alloc (.cells #[.int .i64 a, .int .i64 j, .int .i64 s, .int .i64 p] 35)) rfl (.tmp 75) (.tmp 77) rfl w4.heap.size (.slice A6 m c6) L [⟨a, j, s, p⟩] _ m 1 1 rfl rfl HL.out rfl (ho6.alloc _) (ppl_box (Boxd.new w6 _ _)) (by omega) (by omega) (by have := hb6.size; simp; omega) ?_; intro v2 w7 ho7 hg7; have hb7 := (hb6.alloc hb6.size _).grown hg7 (by have := hb6.size; simp; omega) (fun k hk => (ho6.lt k hk).1); obtain ⟨A7, c7, hv7⟩ := own_shape ho7; subst hv7; have cur := hb7))
    all_goals
      go_wp2
      go_meet
      exact ⟨A7, c7, rfl, ppl_own_n (by rw [List.length_append, HL.out]; rfl) ho7, hb7⟩
  case rest =>
    obtain ⟨A5, c5, rfl, hP5, hb5⟩ := hcut
    have h1M : peopleB (L ++ [⟨a, j, s, p⟩]) = true := by
      refine peopleB_iff.2 ⟨fun t ht => ?_, by rw [List.length_append, HL.out]; simp; omega⟩
      rcases List.mem_append.1 ht with h | h
      · exact (peopleB_iff.1 h1).1 t h
      · rw [List.mem_singleton.1 h]; exact hok
    have eM : manyI (L ++ [⟨a, j, s, p⟩]) x y z = manyI L x y z + (if isB ⟨a, j, s, p⟩ x y z = true then 1 else 0) := by rw [many_cnt h1M h2, many_cnt h1 h2, cnt_append, cnt_cons, cnt_nil, Int.add_zero]
    have eP : payI (L ++ [⟨a, j, s, p⟩]) x y z = payI L x y z + (if isB ⟨a, j, s, p⟩ x y z = true then p else 0) := by rw [pay_pys h1M h2, pay_pys h1 h2, pys_append, pys_cons, pys_nil, Int.add_zero]
    have HM := Lib.hid (show (L ++ [(⟨a, j, s, p⟩ : Pers)]).length = m + 1 by rw [List.length_append, HL.out]; rfl)
    obtain ⟨q0, q1⟩ := many_le (L := L) x y z
    rw [HL.out] at q1
    obtain ⟨r0, r1⟩ := pay_le (L := L) x y z
    obtain ⟨o0, o1⟩ := pay_le (L := (L ++ [⟨a, j, s, p⟩])) x y z
    have hp9 := (okB_un hok).2.2.2
    have bx5 := bx.below hb5
    have hP6 := hP4.below hb5
    have hb05 := below2 hb03 (below2 hb34 hb5)
    clear h1M h1 h2 hok bx hP4 hP3 hb03 hb34 hb5 c0 c1 c2 c3 HH hbx hne hpd hpos
    generalize hq : manyI L x y z = q at *
    generalize hr : payI L x y z = r at *
    generalize hqM : manyI (L ++ [(⟨a, j, s, p⟩ : Pers)]) x y z = qM at *
    generalize hrM : payI (L ++ [(⟨a, j, s, p⟩ : Pers)]) x y z = rM at *
    generalize hG : w3.heap.size = G at *
    have HR := Lib.hid hr
    have HQM := Lib.hid hqM
    have HRM := Lib.hid hrM
    clear hq hr hqM hrM hG
    cases hB : isB ⟨a, j, s, p⟩ x y z
    · rw [hB] at eM eP
      have s1 : qM - q = 0 := by simp at eM; omega
      have s2 : rM - r = 0 := by simp at eP; omega
      clear eM eP
      go_wp2_with fail
      refine (peopleMany_any _ _ _ (L ++ [⟨a, j, s, p⟩]) _ _ _ _ hP5.1 HM.out (by omega)).mono ?_
      rintro e w7 ⟨rfl, hb7⟩
      rw [HQM.out]
      go_wp2_with fail
      refine (peoplePay_any _ _ _ (L ++ [⟨a, j, s, p⟩]) _ _ _ _ (hP5.below hb7).1 HM.out (by omega)).mono ?_
      rintro e w8 ⟨rfl, hb8⟩
      rw [HRM.out]
      go_wp2_with fail
      refine (peoplePay_any _ _ _ L _ _ _ _ ((hP6.below hb7).below hb8).1 HL.out (by omega)).mono ?_
      rintro e w9 ⟨rfl, hb9⟩
      rw [HR.out]
      obtain ⟨⟨d0, d1, d2, d3⟩, _⟩ := cell_four (((bx5.below hb7).below hb8).below hb9)
      go_wp2
      go_ret
      exact ⟨ret_bool (by simp), below2 hb05 (below2 hb7 (below2 hb8 hb9))⟩
    · rw [hB] at eM eP
      have s1 : qM - q = 1 := by simp at eM; omega
      have s2 : rM - r = p := by simp at eP; omega
      clear eM eP
      go_wp2_with fail
      refine (peopleMany_any _ _ _ (L ++ [⟨a, j, s, p⟩]) _ _ _ _ hP5.1 HM.out (by omega)).mono ?_
      rintro e w7 ⟨rfl, hb7⟩
      rw [HQM.out]
      go_wp2_with fail
      refine (peoplePay_any _ _ _ (L ++ [⟨a, j, s, p⟩]) _ _ _ _ (hP5.below hb7).1 HM.out (by omega)).mono ?_
      rintro e w8 ⟨rfl, hb8⟩
      rw [HRM.out]
      go_wp2_with fail
      refine (peoplePay_any _ _ _ L _ _ _ _ ((hP6.below hb7).below hb8).1 HL.out (by omega)).mono ?_
      rintro e w9 ⟨rfl, hb9⟩
      rw [HR.out]
      obtain ⟨⟨d0, d1, d2, d3⟩, _⟩ := cell_four (((bx5.below hb7).below hb8).below hb9)
      go_wp2
      go_ret
      exact ⟨ret_bool (by simp), below2 hb05 (below2 hb7 (below2 hb8 hb9))⟩

end Go.Proofs.Ytmmnhbnoifcgjaa
