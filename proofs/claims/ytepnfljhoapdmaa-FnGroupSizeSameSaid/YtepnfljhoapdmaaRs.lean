/- Contract of the reference's RecodePeople. -/
import Derived.Test.YtepnfljhoapdmaaRl
import Derived.Deep.RegionWith
import Derived.Deep.RegionHeld3
namespace Go.Proofs.Ytepnfljhoapdmaa
open Go.RowKit
set_option linter.unusedVariables false

/-- A person in a box of its own, as a list of one. -/
theorem ppl_boxd {w : World} {g : Nat} {a j s p : Int} (h : Boxd w g 31 #[.int .i64 a, .int .i64 j, .int .i64 s, .int .i64 p]) : Ppl w (some ⟨g, 0, none⟩) 1 [⟨a, j, s, p⟩] := by
  refine ⟨fun _ => ⟨g, 0, rfl, h.lt, fun i u hu => ?_⟩, by simp, by omega, fun e => by cases e⟩
  rw [Nat.zero_add, cell_of_row w g i _ _ _ h]
  simpa [pcells_one] using hu
theorem ppl_empty (w : World) : Ppl (w.alloc (.cells #[] 31)) (some ⟨w.heap.size, 0, none⟩) 0 [] := ⟨Seen.nil _ _, by simp, by omega, fun e => by cases e⟩

theorem rec_post_none {L : List Pers} {R : List (List Int)} {r : Rec} {w w' : World} {a : Addr} (h : rpOk L R r = false) (hb : Below w.heap.size w w') : RecPost L R r w (.returned (.tuple #[.slice (some a) 0 0, .bool false])) w' :=
  ⟨some a, 0, 0, by rw [h], by rw [recL_no h]; rfl, by rw [recL_no h]; exact ⟨Seen.nil _ _, by simp, by omega, fun e => by cases e⟩, hb⟩

set_option maxRecDepth 100000 in
set_option maxHeartbeats 6400000 in
theorem sRecodePeople_any (A : Option Addr) (n c : Nat) (L : List Pers) (A' : Option Addr) (m c' : Nat) (R : List Rw) (a j s : Int) (w : World) (hP : Seen w A (pcells L)) (hn : L.length = n) (hnm : n ≤ 1099511627776)
    (hA : LadS w A' R) (hR : R.length = m) (hm : m ≤ 1099511627776) (hr : ∀ r ∈ R, r.s.length ≤ 1099511627776) :
    Calls Try.prog 30 #[.slice A n c, .slice A' m c', .agg #[.int .i64 a, .int .i64 j, .int .i64 s]] w (RecPost L (ss R) ⟨a, j, s⟩ w) := by
  have b0 := below_new w (.cells #[.int .i64 a, .int .i64 j, .int .i64 s] 26)
  have b1 := below_new (w.alloc (.cells #[.int .i64 a, .int .i64 j, .int .i64 s] 26)) (.cells #[] 31)
  have HP0 := Lib.hid (hP.below b0)
  have HA0 := Lib.hid (hA.below b0)
  have HX0 := Lib.hid (Boxd.new w 26 #[.int .i64 a, .int .i64 j, .int .i64 s])
  have HP := Lib.hid ((hP.below b0).below b1)
  have HA := Lib.hid ((hA.below b0).below b1)
  have HX := Lib.hid ((Boxd.new w 26 #[.int .i64 a, .int .i64 j, .int .i64 s]).below b1)
  have HB0 := Lib.hid b0
  have HB1 := Lib.hid b1
  have hO : ((w.alloc (.cells #[.int .i64 a, .int .i64 j, .int .i64 s] 26)).alloc (.cells #[] 31)).ownsRow (w.alloc (.cells #[.int .i64 a, .int .i64 j, .int .i64 s] 26)).heap.size 31 4 (.slice (some ⟨w.heap.size + 1, 0, none⟩) 0 0) 0 (pcells []) := by
    have := World.ownsRow_lit (base := (w.alloc (.cells #[.int .i64 a, .int .i64 j, .int .i64 s] 26)).heap.size) (e := 31) (size := 4) (w.alloc (.cells #[.int .i64 a, .int .i64 j, .int .i64 s] 26)) #[] 0 (Nat.le_refl _) (by unfold maxLen; omega) rfl
    simp at this
    simp
    exact this
  have HO := Lib.hid hO
  have HN := Lib.hid hn
  have HR := Lib.hid hR
  have HW := Lib.hid hr
  clear hP hA b0 b1 hn hR hr hO
  cases h2 : rpOk L (ss R) ⟨a, j, s⟩
  · have HE := Lib.hid h2
    go_enter Try.func30, Try.ntmps30
    go_wp2_with fail
    refine (l3Ok_any _ _ _ L _ _ _ R _ _ _ _ HP.out HN.out hnm HA.out HR.out hm HW.out).mono ?_
    rintro e w1 ⟨rfl, hb1⟩
    rw [h2]
    go_wp2
    go_ret2
    exact rec_post_none HE.out (below2 (below2 HB0.out HB1.out) hb1)
  · have HE := Lib.hid h2
    obtain ⟨h1, h3⟩ := rpOk_iff.1 h2
    have hm40 : n ≤ 40 := by rw [← HN.out]; exact (peopleB_iff.1 h1).2
    have HOK := Lib.hid (peopleB_iff.1 h1).1
    have H3 := Lib.hid h3
    clear h1 h3
    go_enter Try.func30, Try.ntmps30
    go_wp2_with fail
    refine (l3Ok_any _ _ _ L _ _ _ R _ _ _ _ HP.out HN.out hnm HA.out HR.out hm HW.out).mono ?_
    rintro e w1 ⟨rfl, hb1⟩
    rw [h2]
    have hO1 := HO.out.kept (row := none) ⟨hb1.os, hb1.tape, hb1.output, hb1.size, fun k hk _ => hb1.block k hk⟩ (.inr (by simp [Value.ownBlock]))
    have hb01 := below2 HB1.out hb1
    have x1 := HX.out.below hb1
    clear hb1
    go_wp2_with fail
    go_loopw [8, 9] (fun v i wr => RcRel n L (ss R) ⟨a, j, s⟩ (w.alloc (.cells #[.int .i64 a, .int .i64 j, .int .i64 s] 26)) v i wr) (fun _ i _ => n - (intOf i).toNat)
    case atStart => exact ⟨0, _, _, Nat.zero_le _, rfl, rfl, hO1, hb01⟩
    case round =>
      obtain ⟨k, Ak, ck, hk, rfl, rfl, hown, hbr⟩ := hrel
      have hzr := hbr.size
      by_cases hkn : k < n
      · obtain ⟨b, o, hAe, hlt, hc⟩ := HP0.out (by rw [pcells_length, HN.out]; omega)
        subst hAe
        obtain ⟨⟨pa, pj, ps, pp⟩, hx⟩ : ∃ x, L[k]? = some x := ⟨_, List.getElem?_eq_getElem (by rw [HN.out]; exact hkn)⟩
        have HPO := Lib.hid (HOK.out _ (List.mem_of_getElem? hx))
        obtain ⟨k0, k1, k2, k3⟩ := cells_later hlt hbr (cells_at hc hx)
        obtain ⟨⟨g0, g1, g2⟩, _⟩ := cell_three (HX0.out.below hbr)
        have HXX := Lib.hid hx
        have hAr : LadS wr.drew A' R := HA0.out.below hbr.drew
        have HAR := Lib.hid hAr
        have hownD : wr.drew.ownsRow (w.alloc (.cells #[.int .i64 a, .int .i64 j, .int .i64 s] 26)).heap.size 31 4 (.slice Ak k ck) k (pcells ((L.take k).map (recP (ss R) ⟨a, j, s⟩))) := hown
        have HOD := Lib.hid hownD
        have HOW := Lib.hid hown
        have HBR := Lib.hid hbr
        have bdr : Below wr.heap.size wr wr.drew := (Below.refl _ _).drew
        have HLK := Lib.hid (show ((L.take k).map (recP (ss R) ⟨a, j, s⟩)).length = k by rw [List.length_map, List.length_take, HN.out]; omega)
        have kk : (k : Int) < (n : Int) := by omega
        have keep : ∀ w' : World, Below (w.alloc (.cells #[.int .i64 a, .int .i64 j, .int .i64 s] 26)).heap.size (w.alloc (.cells #[.int .i64 a, .int .i64 j, .int .i64 s] 26)) w' → w'.cell? ⟨b, o + k * 4, none⟩ = some (.int .i64 pa) ∧ w'.cell? ⟨b, o + k * 4 + 1, none⟩ = some (.int .i64 pj) ∧ w'.cell? ⟨b, o + k * 4 + 2, none⟩ = some (.int .i64 ps) ∧ w'.cell? ⟨b, o + k * 4 + 3, none⟩ = some (.int .i64 pp) ∧ w'.cell? ⟨w.heap.size, 0, none⟩ = some (.int .i64 a) ∧ w'.cell? ⟨w.heap.size, 1, none⟩ = some (.int .i64 j) ∧ w'.cell? ⟨w.heap.size, 2, none⟩ = some (.int .i64 s) := fun w' hw' => by
          obtain ⟨q0, q1, q2, q3⟩ := cells_later hlt hw' (cells_at hc hx)
          obtain ⟨⟨r0, r1, r2⟩, _⟩ := cell_three (HX0.out.below hw')
          exact ⟨q0, q1, q2, q3, r0, r1, r2⟩
        have KEEP := Lib.hid keep
        have HZR := Lib.hid hzr
        clear hx hc hAr hownD hown hbr hzr keep
        go_wp2
        go_region_held3 (fun w' => w'.cell? ⟨b, o + k * 4, none⟩ = some (.int .i64 pa) ∧ w'.cell? ⟨b, o + k * 4 + 1, none⟩ = some (.int .i64 pj) ∧ w'.cell? ⟨b, o + k * 4 + 2, none⟩ = some (.int .i64 ps) ∧ w'.cell? ⟨b, o + k * 4 + 3, none⟩ = some (.int .i64 pp) ∧ w'.cell? ⟨w.heap.size, 0, none⟩ = some (.int .i64 a) ∧ w'.cell? ⟨w.heap.size, 1, none⟩ = some (.int .i64 j) ∧ w'.cell? ⟨w.heap.size, 2, none⟩ = some (.int .i64 s)) (first | exact KEEP.out _ hb04 | exact KEEP.out _ (hb03.trans ((below_new w3 _).mono hb03.size)) | exact KEEP.out _ hb03 | exact KEEP.out _ HBR.out.drew | exact KEEP.out _ HBR.out) (first
          | (go_at_call 47; refine (l3Recode_any pa pj ps pp A' m c' R a j s wr.drew HAR.out HR.out HPO.out H3.out).mono ?_; rintro e w3 ⟨rfl, hb3⟩; have ho3 := HOD.out.kept (row := none) ⟨hb3.os, hb3.tape, hb3.output, hb3.size, fun k hk _ => hb3.block k hk⟩ (by cases hv : (Value.slice Ak k ck).ownBlock with | none => exact .inl rfl | some g => exact .inr (by simp)); have hbx : Below wr.heap.size wr w3 := bdr.trans hb3; have hz3 := hbx.size; have hb03 := HBR.out.trans (hbx.mono HBR.out.size))
          | (refine step_app_many (w := w3.alloc (.cells #[.int .i64 (lcode (ss R) a pa), .int .i64 (pj * (1 - j)), .int .i64 (ps * (1 - s)), .int .i64 pp] 31)) rfl (.tmp 23) (.tmp 31) rfl (w.alloc (.cells #[.int .i64 a, .int .i64 j, .int .i64 s] 26)).heap.size (.slice Ak k ck) ((L.take k).map (recP (ss R) ⟨a, j, s⟩)) [⟨lcode (ss R) a pa, pj * (1 - j), ps * (1 - s), pp⟩] (some ⟨w3.heap.size, 0, none⟩) k 1 1 rfl rfl HLK.out rfl (ho3.alloc _) (ppl_boxd (Boxd.new w3 _ _)) (by omega) (by omega) (by have h := HZR.out; exact Nat.le_trans h (Nat.le_trans hz3 (below_new w3 _).size)) ?_; intro v' w4 ho4 hg4; have hb04 := (hb03.trans ((below_new w3 (.cells #[.int .i64 (lcode (ss R) a pa), .int .i64 (pj * (1 - j)), .int .i64 (ps * (1 - s)), .int .i64 pp] 31)).mono hb03.size)).grown hg4 (by have h := HZR.out; exact Nat.le_trans h (Nat.le_trans hz3 (below_new w3 _).size)) (fun i hi => (HOW.out.lt i hi).1)))
        all_goals
          rw [pcells_append, pcells_one] at ho4
          have RR := rc_more (wx := w3.alloc (.cells #[.int .i64 (lcode (ss R) a pa), .int .i64 (pj * (1 - j)), .int .i64 (ps * (1 - s)), .int .i64 pp] 31)) HXX.out rfl hkn HN.out HOW.out HBR.out (hbx.trans ((below_new _ _).mono hbx.size)) ho4 hg4
          go_wp2
          go_roundw
          case rel => first | exact RR | ((repeat apply Exists.intro); first | exact ⟨RR, rfl⟩ | exact ⟨RR, rfl, rfl⟩ | exact ⟨RR, rfl, rfl, rfl⟩)
          case measure => simp [intOf]; omega
      · obtain rfl : k = n := by omega
        go_wp2
        go_ret2
        exact rc_done HE.out HN.out hown HB0.out hbr

end Go.Proofs.Ytepnfljhoapdmaa
