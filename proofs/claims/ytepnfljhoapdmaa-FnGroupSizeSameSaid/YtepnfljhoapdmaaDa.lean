/- Contract of l91All: some people, ladder and recoding. -/
import Derived.Test.YtepnfljhoapdmaaDr
import Derived.Test.YtepnfljhoapdmaaPp
namespace Go.Proofs.Ytepnfljhoapdmaa
open Go.RowKit
set_option linter.unusedVariables false

/-- What l91All leaves. -/
def AllPost (base g p : Nat) (w : World) (e : Ending) (w' : World) : Prop :=
  ∃ (A : Option Addr) (n c : Nat) (L : List Pers) (B : Option Addr) (m d : Nat) (R : List Rw) (a j s : Int) (q : Nat), e = .returned (.tuple #[.slice A n c, .slice B m d, .agg #[.int .i64 a, .int .i64 j, .int .i64 s]]) ∧
    L.length = n ∧ n ≤ 10 ∧ w'.ownsRow w.heap.size 31 4 (.slice A n c) n (pcells L) ∧ R.length = m ∧ m ≤ 4 ∧ (∀ r ∈ R, r.s.length ≤ 4) ∧ LadO w' w.heap.size (.slice B m d) m R ∧ Rdr base w' g q ∧ q ≤ p + 2100 ∧ w.grownBy w' (some g)

theorem own_not {w : World} {g B n : Nat} {e : TypeId} {sz : Nat} {v : Value} {xs : List Value} (h : w.ownsRow B e sz v n xs) (hg : g < B) : v.ownBlock = none ∨ v.ownBlock ≠ some g := by
  cases e : v.ownBlock with
  | none => exact .inl rfl
  | some b => have := (h.lt b e).1; exact .inr (fun e' => by injection e' with e'; omega)
/-- Stores into a box that is new and no row's block. -/
theorem own_put {w : World} {B n G : Nat} {e t : TypeId} {sz : Nat} {v : Value} {xs : List Value} {cs : Array Value} (h : w.ownsRow B e sz v n xs) (hx : Boxd w G t cs) (hne : e ≠ t) : v.ownBlock = none ∨ v.ownBlock ≠ some G := by
  cases e1 : v.ownBlock with
  | none => exact .inl rfl
  | some b =>
    refine .inr fun e2 => ?_
    injection e2 with e2
    subst e2
    obtain ⟨cs', hc⟩ := own_type h b e1
    unfold Boxd at hx
    rw [hc] at hx
    injection hx with hx
    injection hx with _ ht
    exact hne ht
theorem own_put3 {w : World} {B n G : Nat} {e t : TypeId} {sz : Nat} {v : Value} {xs : List Value} {a b c a' b' c' : Value} (h : w.ownsRow B e sz v n xs) (hx : Boxd w G t #[a, b, c]) (hne : e ≠ t) :
    (((w.setCell ⟨G, 0, none⟩ a').setCell ⟨G, 1, none⟩ b').setCell ⟨G, 2, none⟩ c').ownsRow B e sz v n xs := by
  have h1 := own_put h hx hne
  exact ((h.kept (grown_set w G 0 a') h1).kept (grown_set _ G 1 b') h1).kept (grown_set _ G 2 c') h1
theorem p_ne_r : 31 ≠ 26 := by decide
theorem si_ne_r : 57 ≠ 26 := by decide
theorem r_ne_i : 26 ≠ 3 := by decide
theorem ladO_put3 {w : World} {B n G : Nat} {v : Value} {R : List Rw} {a b c a' b' c' : Value} (h : LadO w B v n R) (hx : Boxd w G 26 #[a, b, c]) :
    LadO (((w.setCell ⟨G, 0, none⟩ a').setCell ⟨G, 1, none⟩ b').setCell ⟨G, 2, none⟩ c') B v n R := by
  refine ⟨own_put3 h.1 hx si_ne_r, fun r hr => ?_⟩
  have k1 := (h.2 r hr).grown (grown_set w G 0 a') (fun g e => by injection e with e; subst e; exact ⟨_, _, _, hx, r_ne_i⟩)
  have x1 := hx.set 0 a'
  have k2 := k1.grown (grown_set _ G 1 b') (fun g e => by injection e with e; subst e; exact ⟨_, _, _, x1, r_ne_i⟩)
  have x2 := x1.set 1 b'
  exact k2.grown (grown_set _ G 2 c') (fun g e => by injection e with e; subst e; exact ⟨_, _, _, x2, r_ne_i⟩)

set_option maxRecDepth 100000 in
set_option maxHeartbeats 3200000 in
theorem l91All_any (base g p : Nat) (w : World) (h : Rdr base w g p) (hp : p ≤ 800000) : Calls Try.prog 27 #[.pointer (some ⟨g, 0, none⟩)] w (AllPost base g p w) := by
  have hltg := h.lt
  go_enter Try.func27, Try.ntmps27
  go_wp2_with fail
  refine (l91People_any base g p 10 _ (h.below (below_new _ _)) (by omega) (by omega) (by omega)).mono ?_
  rintro e w1 ⟨A, c, L, q1, rfl, ho1, hm1, hr1, hq1, hg1⟩
  obtain ⟨n, hn⟩ : ∃ n, L.length = n := ⟨_, rfl⟩
  rw [hn] at ho1 hm1 ⊢
  have HN := Lib.hid hn
  clear hn
  have x1 : Boxd w1 w.heap.size 26 #[.int .i64 0, .int .i64 0, .int .i64 0] := (Boxd.new w _ _).grown hg1 (by omega)
  have hG1 := (World.grownBy_alloc w (.cells #[.int .i64 0, .int .i64 0, .int .i64 0] 26) (some g)).trans hg1
  have hlt1 := hr1.lt
  have hx1 := x1.lt
  have ho1' := own_mono ho1 (show w.heap.size ≤ (w.alloc (.cells #[.int .i64 0, .int .i64 0, .int .i64 0] 26)).heap.size by simp)
  go_wp2_with fail
  refine (l91Ladder_any base g q1 _ hr1 (by omega)).mono ?_
  rintro e w2 ⟨B, m, d, R, q2, rfl, hR, hm4, hrow, hL2, hr2, hq2, hg2⟩
  have HR := Lib.hid hR
  have HW := Lib.hid hrow
  have x2 := x1.grown hg2 (by omega)
  have ho2 := ho1'.kept hg2 (own_not ho1' hltg)
  have hG2 := hG1.trans hg2
  have hz1 := hG1.size
  have hvB := own_not hL2.1 hlt1
  clear hR hrow ho1 ho1' x1 hg1 hg2
  go_wp2_with fail
  refine (l91Recode_any base g q2 B m d _ hr2 (by omega) (by omega)).mono ?_
  rintro e w3 ⟨a, j, s, q3, rfl, ha, hj, hs, hr3, hq3, hg3⟩
  have x3 := x2.grown hg3 (by omega)
  have ho3 := ho2.kept hg3 (own_not ho2 hltg)
  have hL3 := hL2.kept hg3 hvB (rdr_type hr2)
  have hG3 := hG2.trans hg3
  obtain ⟨⟨c0, c1, c2⟩, f0, f1, f2⟩ := cell_three x3
  have HP := Lib.hid (put_new hr3 hG3 (Nat.le_refl _) hltg (.int .i64 a) (.int .i64 j) (.int .i64 s))
  have HO := Lib.hid (own_put3 (a' := .int .i64 a) (b' := .int .i64 j) (c' := .int .i64 s) ho3 x3 p_ne_r)
  have HL := Lib.hid (ladO_put3 (a' := .int .i64 a) (b' := .int .i64 j) (c' := .int .i64 s) (show LadO w3 w.heap.size (.slice B m d) m R from ⟨own_mono hL3.1 (by omega), hL3.2⟩) x3)
  clear x2 x3 ho2 ho3 hL2 hL3 hG1 hG2 hG3 hg3 hr1 hr2 hr3 hvB
  go_wp2
  refine bodyPost_ret (v := .tuple #[.slice A n c, .slice B m d, .agg #[.int .i64 a, .int .i64 j, .int .i64 s]]) (by simp [results, Try.results27, go_sem, c0, c1, c2]) rfl ?_
  exact ⟨A, n, c, L, B, m, d, R, a, j, s, q3, rfl, HN.out, by omega, HO.out, HR.out, hm4, HW.out, HL.out, HP.out.1, by omega, HP.out.2⟩

end Go.Proofs.Ytepnfljhoapdmaa
