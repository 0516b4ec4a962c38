/- Walk of the law FnExactLadderMerge. -/
import Derived.Test.YtbfblomabjmnmaaMi
import Derived.Test.YtbfblomabjmnmaaMs
import Derived.Test.YtbfblomabjmnmaaMk
import Derived.Test.YtbfblomabjmnmaaLd
import Derived.Test.YtbfblomabjmnmaaLz
import Derived.Test.YtbfblomabjmnmaaLt
import Derived.Test.YtbfblomabjmnmaaLe
import Derived.Test.YtbfblomabjmnmaaOpenL
namespace Go.Proofs.Ytbfblomabjmnmaa
open Go.RowKit
set_option linter.unusedVariables false

theorem own_same {w w' : World} {B n : Nat} {e : TypeId} {sz : Nat} {v : Value} {xs : List Value} (h : w.ownsRow B e sz v n xs) (hs : ∀ g, v.ownBlock = some g → w'.heap[g]? = w.heap[g]?) : w'.ownsRow B e sz v n xs := by
  refine ⟨h.1, ?_⟩
  rcases h.2 with h | ⟨g, cap, cur, rfl, h2, h3, h4⟩
  · exact .inl h
  · exact .inr ⟨g, cap, cur, rfl, h2, (hs g rfl).trans h3, h4⟩
/-- A ladder of one's own stays where only blocks elsewhere have turned. -/
theorem LadW.same {w w' : World} {B : Nat} {A : Option Addr} {c : Nat} {G R : List Rw} (h : LadW w B A c G) (ht : Touched R w w') (hd : ∀ g, (∃ q ∈ G, q.val.ownBlock = some g) → ∀ r ∈ R, r.val.ownBlock ≠ some g) (hty : ∀ r ∈ R, ∀ g, r.val.ownBlock = some g → ∃ cs, w.heap[g]? = some (.cells cs 3 (0, 0))) : LadW w' B A c G := by
  refine ⟨own_same h.1 fun g e => ht.2.2.2.2 g fun r hr e' => ?_, ⟨fun q hq => own_same (h.2.1 q hq) fun g e => ht.2.2.2.2 g (hd g ⟨q, hq, e⟩), h.2.2⟩⟩
  obtain ⟨cs, hc⟩ := own_type h.1 g e
  obtain ⟨cs', hc'⟩ := hty r hr g e'
  rw [hc] at hc'
  injection hc' with hc'
  injection hc' with _ ht
  exact si_ne ht
theorem rows_type {w : World} {B : Nat} {R : List Rw} (h : RowsO w B R) : ∀ r ∈ R, ∀ g, r.val.ownBlock = some g → ∃ cs, w.heap[g]? = some (.cells cs 3 (0, 0)) := fun r hr g e => own_type (h.1 r hr) g e
theorem Touched.below {R : List Rw} {w w' : World} {B : Nat} (h : Touched R w w') (hr : ∀ r ∈ R, ∀ g, r.val.ownBlock = some g → B ≤ g) : Below B w w' :=
  ⟨h.1, h.2.1, h.2.2.1, by rw [h.2.2.2.1]; exact Nat.le_refl _, fun k hk => h.2.2.2.2 k fun r hr' e => by have := hr r hr' k e; omega⟩
/-- What was marked is seen. -/
theorem now_seen {w : World} {B n : Nat} {R : List Rw} (h : RowsNow w B R 1 n) (hn : R.length = n) : ∀ (j : Nat) (r : Rw), R[j]? = some r → Seen w r.A (ints (marks (1 + tot (R.take j)) r.s.length)) := by
  intro j r hr
  have hj : j < n := by
    rcases Nat.lt_or_ge j n with h | h
    · exact h
    · rw [List.getElem?_eq_none (by omega)] at hr; cases hr
  have := h j r hr
  unfold rowNow at this
  rw [if_pos hj] at this
  exact seen_own (c := r.c) this

set_option maxRecDepth 100000 in
set_option maxHeartbeats 6400000 in
theorem fnExactLadderMerge_walk (w : World) (A : Option Addr) (n c : Nat) (hin : RowsIn w A n c) (x : Int) (_ : -9223372036854775808 ≤ x) (_ : x ≤ 9223372036854775807) (y : Int) (_ : -9223372036854775808 ≤ y) (_ : y ≤ 9223372036854775807) :
    Calls Try.prog 7 #[.slice A n c, .int .i64 x, .int .i64 y] w fun e w' => e = .returned (.bool true) ∧ Below w.heap.size w w' := by
  obtain ⟨hn, R, hR, hA, hrow⟩ := hin
  by_cases hbig : szRR (ss R) 1048576 < 0
  · have hbd : decide (szRR (ss R) 1048576 < 0) = true := by simpa using hbig
    go_enter Try.func7, Try.ntmps7
    go_wp2_with (go_at_call 16; refine (szIntSS_any _ _ _ _ R _ hA hR hn hrow (by omega) (by omega)).mono ?_; rintro e w' ⟨rfl, rfl⟩)
    go_ret
    exact ⟨rfl, Below.refl _ _⟩
  obtain ⟨hm', hrow'⟩ := szRR_le (R := ss R) (l := 1048576) (by omega) (by omega)
  rw [ss_length, hR] at hm'
  have hm : n ≤ 1048576 := by omega
  have hw : ∀ r ∈ R, r.s.length ≤ 1048576 := fun r hr => by have := hrow' r.s (List.mem_map_of_mem hr); omega
  have hbd : decide (szRR (ss R) 1048576 < 0) = false := by simpa using hbig
  have hne : (merOk (ss R) x y != merOk (ss R) x y) = false := by simp
  have HA := Lib.hid hA
  have HR := Lib.hid hR
  have HW := Lib.hid hw
  have HN := Lib.hid hrow
  have hcp : ∀ S : List Rw, ss S = ss R → ∀ r ∈ S, r.s.length ≤ 1048576 := fun S he r hr => by
    have h1 : r.s ∈ ss S := List.mem_map_of_mem hr
    rw [he] at h1
    obtain ⟨q, hq, e⟩ := List.mem_map.1 h1
    have := hw q hq
    rw [e] at this
    exact this
  have HCP := Lib.hid hcp
  have hmp : ∀ T : List Rw, ss T = merR (ss R) x y → T.length ≤ 1048576 ∧ ∀ r ∈ T, r.s.length ≤ 1048576 := fun T he => by
    constructor
    · have h1 := merR_length (R := ss R) (a := x) (b := y)
      rw [← he, ss_length, ss_length, hR] at h1
      by_cases hk : merOk (ss R) x y = true
      · have := (merOk_iff.1 hk).2.1
        rw [ss_length, hR] at this
        omega
      · have h2 : merR (ss R) x y = [] := merR_no (by simpa using hk)
        have h3 : ss T = [] := he.trans h2
        have h4 : (ss T).length = 0 := by rw [h3]; rfl
        rw [ss_length] at h4
        omega
    · exact fun r hr => merR_rows (R := ss R) (a := x) (b := y) (by omega) (fun s hs => by obtain ⟨q, hq, e⟩ := List.mem_map.1 hs; rw [← e]; exact hw q hq) r.s (by rw [← he]; exact List.mem_map_of_mem hr)
  have HMP := Lib.hid hmp
  clear hA hR hw hrow hrow' hm' hbig hcp hmp
  go_enter Try.func7, Try.ntmps7
  go_wp2_with fail
  refine (szIntSS_any _ _ _ _ R _ HA.out HR.out hn HN.out (by omega) (by omega)).mono ?_
  rintro e w' ⟨rfl, rfl⟩
  go_wp2_with fail
  refine (toIntSS_any A n c R _ HA.out HR.out hm HW.out).mono ?_
  rintro e w1 ⟨g1, S1, rfl, hl1, he1, hL1, hb1⟩
  have HL1 := Lib.hid hl1
  have HE1 := Lib.hid he1
  have HS1 := Lib.hid (HCP.out S1 he1)
  clear hl1 he1
  go_wp2_with fail
  refine (sLadderMerge_any _ _ _ S1 _ _ _ hL1.lad.s HL1.out (by omega) (fun r hr => by have := HS1.out r hr; omega)).mono ?_
  rintro e w2 ⟨A2, n2, c2, T, rfl, hT, hTs, hW2, hb2⟩
  rw [HE1.out] at hTs ⊢
  have HTL := Lib.hid hT
  have HTS := Lib.hid hTs
  obtain ⟨tl, tr⟩ := HMP.out T hTs
  rw [hT] at tl
  have HTR := Lib.hid tr
  have hb02 := below2 hb1 hb2
  have hz1 := hb1.size
  clear hT hTs tr hL1 hb1
  go_wp2_with fail
  refine (toIntSS_any A n c R _ (HA.out.below hb02) HR.out hm HW.out).mono ?_
  rintro e w3 ⟨g3, S3, rfl, hl3, he3, hL3, hb3⟩
  have HL3 := Lib.hid hl3
  have HE3 := Lib.hid he3
  have HS3 := Lib.hid (HCP.out S3 he3)
  have hT3 := hW2.below hb3
  have hb03 := below2 hb02 hb3
  have hz2 := hb02.size
  have hz12 := hb2.size
  have hz3 := hb3.size
  have T2 := Lib.hid (fun (q : Rw) (hq : q ∈ T) (g : Nat) (e : q.val.ownBlock = some g) => ((hW2.2.1 q hq).lt g e).2)
  have S3lt := Lib.hid (fun (r : Rw) (hr : r ∈ S3) (g : Nat) (e : r.val.ownBlock = some g) => (hL3.2.1 r hr).lt g e)
  clear hl3 he3 hW2 hb2
  go_wp2_with fail
  refine (ladderMerge_any _ _ _ S3 _ _ _ hL3.lad.s HL3.out (by omega) (fun r hr => by have := HS3.out r hr; omega)).mono ?_
  rintro e w4 ⟨A4, n4, c4, G, rfl, hG, hGs, hW4, hb4⟩
  rw [HE3.out] at hGs ⊢
  have HGL := Lib.hid hG
  have HGS := Lib.hid hGs
  obtain ⟨gl, gr⟩ := HMP.out G hGs
  rw [hG] at gl
  have HGR := Lib.hid gr
  have EGT := Lib.hid (show decide (ss G = ss T) = true by rw [hGs, HTS.out]; simp)
  have hX4 := hL3.below hb4
  have hT4 := hT3.below hb4
  have hb04 := below2 hb03 hb4
  have G4 := Lib.hid (fun (q : Rw) (hq : q ∈ G) (g : Nat) (e : q.val.ownBlock = some g) => (hW4.2.1 q hq).lt g e)
  clear hG hGs gr hL3 hT3 hb3 hb4 hb02
  go_wp2_with fail
  refine (eqIntSS_any _ _ _ _ _ _ G T _ hW4.lad.s hT4.lad.s HGL.out HTL.out gl tl HGR.out HTR.out).mono ?_
  rintro e w5 ⟨rfl, hb5⟩
  rw [EGT.out]
  have hG5 := hW4.below hb5
  have hX5 := hX4.below hb5
  have hT5 := hT4.below hb5
  have hb05 := below2 hb04 hb5
  clear hW4 hX4 hT4 hb5 hb04
  go_wp2_with fail
  refine (toIntSS_any A n c R _ (HA.out.below hb05) HR.out hm HW.out).mono ?_
  rintro e w6 ⟨g6, S6, rfl, hl6, he6, hL6, hb6⟩
  have HL6 := Lib.hid hl6
  have HS6 := Lib.hid (HCP.out S6 he6)
  have E36 := Lib.hid (show decide (ss S3 = ss S6) = true by rw [HE3.out, he6]; simp)
  have hG6 := hG5.below hb6
  have hX6 := hX5.below hb6
  have hT6 := hT5.below hb6
  have hb06 := below2 hb05 hb6
  clear hl6 he6 hG5 hX5 hT5 hb6 hb05
  go_wp2_with fail
  refine (eqIntSS_any _ _ _ _ _ _ S3 S6 _ hX6.lad.s hL6.lad.s HL3.out HL6.out hm hm HS3.out HS6.out).mono ?_
  rintro e w7 ⟨rfl, hb7⟩
  rw [E36.out]
  have hG7 := hG6.below hb7
  have hX7 := hX6.below hb7
  have hT7 := hT6.below hb7
  have hb07 := below2 hb06 hb7
  clear hG6 hX6 hT6 hL6 hb7 hb06
  go_wp2_with fail
  refine (markIntSS_any w2.heap.size _ _ _ S3 w7 hX7.lad.1.1 ⟨_, by have h := hX7.1; rw [HL3.out] at h; exact h⟩ HL3.out hm hX7.2 HS3.out).mono ?_
  rintro e w8 ⟨rfl, _, ht8⟩
  have hb78 : Below w.heap.size w7 w8 := ht8.below (fun r hr g e => by have := (S3lt.out r hr g e).1; omega)
  have hb08 := hb07.trans hb78
  have hG8 := hG7.same ht8 (fun g ⟨q, hq, e⟩ r hr e' => by have a1 := (G4.out q hq g e).1; have a2 := (S3lt.out r hr g e').2; omega) (rows_type hX7.2)
  have hT8 := hT7.same ht8 (fun g ⟨q, hq, e⟩ r hr e' => by have a1 := T2.out q hq g e; have a2 := (S3lt.out r hr g e').1; omega) (rows_type hX7.2)
  obtain ⟨tb0, tb1⟩ := tot_bound HS3.out
  have hk0 : decide (1 + tot S3 < 0) = false := by simp; omega
  clear hG7 hX7 hT7 ht8 hb07 hb78 tb0 tb1
  go_wp2_with fail
  refine (eqIntSS_any _ _ _ _ _ _ G T _ hG8.lad.s hT8.lad.s HGL.out HTL.out gl tl HGR.out HTR.out).mono ?_
  rintro e w9 ⟨rfl, hb9⟩
  rw [EGT.out]
  have hG9 := hG8.below hb9
  have hT9 := hT8.below hb9
  have hb09 := below2 hb08 hb9
  clear hG8 hT8 hb9 hb08
  go_wp2_with fail
  refine (markIntSS_any w3.heap.size _ _ _ G w9 hG9.lad.1.1 ⟨_, by have h := hG9.1; rw [HGL.out] at h; exact h⟩ HGL.out gl hG9.2 HGR.out).mono ?_
  rintro e w10 ⟨rfl, hnow, ht10⟩
  have hb910 : Below w.heap.size w9 w10 := ht10.below (fun r hr g e => by have := (G4.out r hr g e).1; omega)
  have hb010 := hb09.trans hb910
  have hT10 := hT9.same ht10 (fun g ⟨q, hq, e⟩ r hr e' => by have a1 := T2.out q hq g e; have a2 := (G4.out r hr g e').1; omega) (rows_type hG9.2)
  have hGo : w10.ownsRow w3.heap.size 40 1 (.slice A4 n4 c4) n4 (vals G) := by
    have h := hG9.1
    rw [HGL.out] at h
    refine own_same h fun g e => ht10.2.2.2.2 g fun r hr e' => ?_
    obtain ⟨cs, hc⟩ := own_type h g e
    obtain ⟨cs', hc'⟩ := rows_type hG9.2 r hr g e'
    rw [hc] at hc'
    injection hc' with hc'
    injection hc' with _ ht
    exact si_ne ht
  have SG := Lib.hid (And.intro (seen_own hGo) (now_seen hnow HGL.out))
  obtain ⟨tb0, tb1⟩ := tot_bound HGR.out
  have hq0 : decide (1 + tot G < 0) = false := by simp; omega
  have hqq : (1 + tot G != 1 + tot G) = false := by simp
  clear hG9 hT9 ht10 hnow hGo hb09 hb910 tb0 tb1
  go_wp2_with fail
  refine (heldIntSS_any _ _ _ G w10 SG.out.1 HGL.out gl SG.out.2 HGR.out).mono ?_
  rintro e w' ⟨rfl, rfl⟩
  go_wp2_with fail
  refine (toIntSS_any A n c R _ (HA.out.below hb010) HR.out hm HW.out).mono ?_
  rintro e w11 ⟨g11, S11, rfl, hl11, he11, hL11, hb11⟩
  have HL11 := Lib.hid hl11
  have HE11 := Lib.hid he11
  have HS11 := Lib.hid (HCP.out S11 he11)
  have hT11 := hT10.below hb11
  have hb011 := below2 hb010 hb11
  have SG1 := Lib.hid (And.intro (SG.out.1.below hb11) (fun (j : Nat) (r : Rw) (hr : G[j]? = some r) => (SG.out.2 j r hr).below hb11))
  clear hl11 he11 hT10 hb11 hb010
  go_wp2_with fail
  refine (ladderMerge_any _ _ _ S11 _ _ _ hL11.lad.s HL11.out (by omega) (fun r hr => by have := HS11.out r hr; omega)).mono ?_
  rintro e w12 ⟨A12, n12, c12, H, rfl, hH, hHs, hW12, hb12⟩
  rw [HE11.out] at hHs ⊢
  have HHL := Lib.hid hH
  obtain ⟨hl, hr⟩ := HMP.out H hHs
  rw [hH] at hl
  have HHR := Lib.hid hr
  have EHT := Lib.hid (show decide (ss H = ss T) = true by rw [hHs, HTS.out]; simp)
  have hT12 := hT11.below hb12
  have hb012 := below2 hb011 hb12
  have SG2 := Lib.hid (And.intro (SG1.out.1.below hb12) (fun (j : Nat) (r : Rw) (hr : G[j]? = some r) => (SG1.out.2 j r hr).below hb12))
  clear hH hHs hr hT11 hL11 hb12 hb011
  go_wp2_with fail
  refine (eqIntSS_any _ _ _ _ _ _ H T _ hW12.lad.s hT12.lad.s HHL.out HTL.out hl tl HHR.out HTR.out).mono ?_
  rintro e w13 ⟨rfl, hb13⟩
  rw [EHT.out]
  have hb013 := below2 hb012 hb13
  have SG3 := Lib.hid (And.intro (SG2.out.1.below hb13) (fun (j : Nat) (r : Rw) (hr : G[j]? = some r) => (SG2.out.2 j r hr).below hb13))
  clear hb13 hb012 hW12 hT12
  go_wp2_with fail
  refine (heldIntSS_any _ _ _ G w13 SG3.out.1 HGL.out gl SG3.out.2 HGR.out).mono ?_
  rintro e w' ⟨rfl, rfl⟩
  go_wp2
  go_ret
  exact ⟨rfl, hb013⟩

end Go.Proofs.Ytbfblomabjmnmaa
