/- Contract of DrawGroupSize: some people, ladder, recoding and number. -/
import Derived.Test.YtepnfljhoapdmaaDGa
import Derived.Test.YtepnfljhoapdmaaDo
namespace Go.Proofs.Ytepnfljhoapdmaa
open Go.RowKit
set_option linter.unusedVariables false

/-- What DrawGroupSize leaves. -/
def DgsPost (w : World) (e : Ending) (w' : World) : Prop :=
  ∃ (A : Option Addr) (n c : Nat) (L : List Pers) (B : Option Addr) (m d : Nat) (R : List Rw) (a j s k : Int), e = .returned (.tuple #[.slice A n c, .slice B m d, .agg #[.int .i64 a, .int .i64 j, .int .i64 s], .int .i64 k]) ∧
    L.length = n ∧ n ≤ 10 ∧ Ppl w' A c L ∧ R.length = m ∧ m ≤ 4 ∧ (∀ r ∈ R, r.s.length ≤ 4) ∧ Lad w' B d R ∧ -1 ≤ k ∧ k ≤ n ∧ Below w.heap.size w w'

set_option maxRecDepth 100000 in
set_option maxHeartbeats 1600000 in
theorem drawGroupSize_any (A : Option Addr) (n c : Nat) (w : World) (hin : BytesIn w A n c) : Calls Try.prog 25 #[.slice A n c] w (DgsPost w) := by
  go_enter Try.func25, Try.ntmps25
  go_wp2_with fail
  refine (l6Open_any A n c _ (hin.below (below_new _ _))).mono ?_
  rintro e w1 ⟨g, rfl, hr1, hb1⟩
  have x1 := (Boxd.new w 26 #[.int .i64 0, .int .i64 0, .int .i64 0]).below hb1
  have hb01 := below2 (below_new w (.cells #[.int .i64 0, .int .i64 0, .int .i64 0] 26)) hb1
  have hgB := hr1.1
  simp at hgB
  have hz1 := hb01.size
  go_wp2_with fail
  refine (l91At_any _ g 0 _ hr1 (by omega)).mono ?_
  rintro e w2 ⟨A2, n2, c2, L, B, m, d, R, a, j, s, k, q, rfl, hn, hn10, ho2, hR, hm4, hrow, hL2, hk0, hk1, hr2, hg2⟩
  have x2 := x1.grown hg2 (by omega)
  have hb02 := below_grown hb01 hg2 (Nat.le_refl _) (by omega)
  obtain ⟨⟨c0, c1, c2'⟩, f0, f1, f2⟩ := cell_three x2
  have HP := Lib.hid (below_put3 hb02 (Nat.le_refl _) (.int .i64 a) (.int .i64 j) (.int .i64 s))
  have HO := Lib.hid (own_put3 (a' := .int .i64 a) (b' := .int .i64 j) (c' := .int .i64 s) ho2 x2 p_ne_r)
  have HL := Lib.hid (ladO_put3 (a' := .int .i64 a) (b' := .int .i64 j) (c' := .int .i64 s) hL2 x2)
  have HN := Lib.hid hn
  have HR := Lib.hid hR
  have HW := Lib.hid hrow
  clear x1 x2 ho2 hL2 hn hR hrow hb1 hb01 hb02 hg2 hr1 hr2
  go_wp2
  refine bodyPost_ret (v := .tuple #[.slice A2 n2 c2, .slice B m d, .agg #[.int .i64 a, .int .i64 j, .int .i64 s], .int .i64 k]) (by simp [results, Try.results25, go_sem, c0, c1, c2']) rfl ?_
  exact ⟨A2, n2, c2, L, B, m, d, R, a, j, s, k, rfl, HN.out, hn10, ppl_own_m HN.out HO.out, HR.out, hm4, HW.out, HL.out.lad HR.out, hk0, hk1, HP.out⟩

end Go.Proofs.Ytepnfljhoapdmaa
