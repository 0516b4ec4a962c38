/- Contracts of l91Ask, DrawPeopleMany. -/
import Derived.Test.YtmmnhbnoifcgjaaPp
namespace Go.Proofs.Ytmmnhbnoifcgjaa
open Go.RowKit
set_option linter.unusedVariables false

def AskPost (base g p : Nat) (most : Int) (w : World) (e : Ending) (w' : World) : Prop :=
  ∃ (v : Int) (q : Nat), e = .returned (.int .i64 v) ∧ -2 ≤ v ∧ v ≤ 1000 ∧ Rdr base w' g q ∧ q ≤ p + 2 ∧ w.grownBy w' (some g)

set_option maxHeartbeats 1600000 in
theorem l91Ask_any (base g p : Nat) (most : Int) (w : World) (h : Rdr base w g p) (hp : p ≤ 900000) (h0 : 1 ≤ most) (h1 : most ≤ 100) : Calls Try.prog 31 #[.pointer (some ⟨g, 0, none⟩), .int .i64 most] w (AskPost base g p most w) := by
  go_enter Try.func31, Try.ntmps31
  go_wp2_with fail
  refine (pick_any base g p 24 _ h (by omega) (by omega)).mono ?_
  rintro e w1 ⟨t, rfl, ⟨t0, _, _⟩, hr1, hg1⟩
  cases c0 : (t == 0)
  · go_wp2_with (go_at_call 32; refine (pick_any base g (p + 1) most _ hr1 (by omega) (by omega)).mono ?_; rintro e w2 ⟨u, rfl, ⟨u0, _, u2⟩, hr2, hg2⟩)
    all_goals
      go_ret
      first
        | exact ⟨-1, p + 1, rfl, by omega, by omega, hr1, by omega, hg1⟩
        | exact ⟨u, p + 2, rfl, by omega, by have := u2 h0; omega, hr2, by omega, hg1.trans hg2⟩
  · have hnb : w1.heap.size ≠ g := by have := hr1.lt; omega
    go_wp2_with fail
    refine (pick_any base g (p + 1) 2 _ (hr1.below (below_new _ _)) (by omega) (by omega)).mono ?_
    rintro e w2 ⟨u, rfl, ⟨u0, _, u2⟩, hr2, hg2⟩
    have u3 := u2 (by omega)
    obtain ⟨x, hx, hx'⟩ := two_of u0 u3 (.int .i64 (-2)) (.int .i64 most)
    have hc := (later_cell (i := u.toNat) hg2 (heap_alloc_new _ _) hnb).trans hx
    have hxi : ∃ y : Int, x = .int .i64 y ∧ -2 ≤ y ∧ y ≤ 1000 := by
      rcases hx' with rfl | rfl
      · exact ⟨_, rfl, by omega, by omega⟩
      · exact ⟨_, rfl, by omega, by omega⟩
    obtain ⟨y, rfl, hy0, hy1⟩ := hxi
    clear hx hx'
    go_wp2
    go_ret
    exact ⟨y, p + 2, rfl, hy0, hy1, hr2, by omega, (hg1.trans (World.grownBy_alloc _ _ _)).trans hg2⟩

theorem results_tmp4 {fn : Func} {t u v x : Tmp} (h : fn.results = #[.tmp t, .tmp u, .tmp v, .tmp x]) (tmps : Array Value) (P : Program) (w : World) :
    (results fn tmps).run P w = .ok (.tuple #[tmps.getD t undef, tmps.getD u undef, tmps.getD v undef, tmps.getD x undef]) w := by simp [results, h]

/-- What DrawPeopleMany leaves. -/
def ManyPost (w : World) (e : Ending) (w' : World) : Prop :=
  ∃ A c L x y z, e = .returned (.tuple #[.slice A L.length c, .int .i64 x, .int .i64 y, .int .i64 z]) ∧ Ppl w' A c L ∧ L.length ≤ 10 ∧ Below w.heap.size w w'

set_option maxHeartbeats 1600000 in
theorem drawPeopleMany_any (A : Option Addr) (n c : Nat) (w : World) (hin : BytesIn w A n c) : Calls Try.prog 20 #[.slice A n c] w (ManyPost w) := by
  go_enter Try.func20, Try.ntmps20
  go_wp2_with fail
  refine (l6Open_any A n c w hin).mono ?_
  rintro e w1 ⟨g, rfl, hr1, hb1⟩
  have hlt1 := hr1.lt
  have hBg := hr1.1
  go_wp2_with fail
  refine (l91People_any _ g 0 10 _ hr1 (by omega) (by omega) (by omega)).mono ?_
  rintro e w2 ⟨A2, c2, L, q, rfl, ho2, hm, hr2, hq, hg2⟩
  have hb2 := below_grown hb1 hg2 (Nat.le_refl _) hBg
  have hng : (Value.slice A2 L.length c2).ownBlock ≠ some g := fun e => by have := (ho2.lt g e).1; omega
  go_wp2_with fail
  refine (l91Ask_any _ g q 4 _ hr2 (by omega) (by omega) (by omega)).mono ?_
  rintro e w3 ⟨x, q3, rfl, _, _, hr3, hq3, hg3⟩
  have ho3 := ho2.kept hg3 (.inr hng)
  have hb3 := below_grown hb2 hg3 (Nat.le_refl _) hBg
  go_wp2_with fail
  refine (l91Ask_any _ g q3 4 _ hr3 (by omega) (by omega) (by omega)).mono ?_
  rintro e w4 ⟨y, q4, rfl, _, _, hr4, hq4, hg4⟩
  have ho4 := ho3.kept hg4 (.inr hng)
  have hb4 := below_grown hb3 hg4 (Nat.le_refl _) hBg
  go_wp2_with fail
  refine (pick_any _ g q4 3 _ hr4 (by omega) (by omega)).mono ?_
  rintro e w5 ⟨t, rfl, ⟨t0, _, _⟩, hr5, hg5⟩
  have ho5 := ho4.kept hg5 (.inr hng)
  have hb5 := below_grown hb4 hg5 (Nat.le_refl _) hBg
  by_cases ht : 0 < t
  all_goals
    go_wp2_with fail
    refine (l91Ask_any _ g (q4 + 1) 2 _ hr5 (by omega) (by omega) (by omega)).mono ?_
    rintro e w6 ⟨z, q6, rfl, _, _, hr6, hq6, hg6⟩
    have ho6 := ho5.kept hg6 (.inr hng)
    have hb6 := below_grown hb5 hg6 (Nat.le_refl _) hBg
    go_wp2
    refine bodyPost_ret (results_tmp4 rfl _ _ _) rfl ?_
    exact ⟨A2, c2, L, x, _, z, rfl, ppl_own ho6, by omega, hb6⟩

end Go.Proofs.Ytmmnhbnoifcgjaa
