/- Contract of DrawLadderGroups: some ladder and level. -/
import Derived.Test.YtfggfblneggncaaDc
namespace Go.Proofs.Ytfggfblneggncaa
open Go.RowKit
set_option linter.unusedVariables false

/-- What DrawLadderGroups leaves. -/
def LgPost (w : World) (e : Ending) (w' : World) : Prop :=
  ∃ A n c R lv, e = .returned (.tuple #[.slice A n c, .int .i64 lv]) ∧ R.length = n ∧ n ≤ 4 ∧ (∀ r ∈ R, r.s.length ≤ 4) ∧ (-1 ≤ lv ∧ lv ≤ 5) ∧ Lad w' A c R ∧ Below w.heap.size w w'

set_option maxHeartbeats 800000 in
theorem drawLadderGroups_any (A : Option Addr) (n c : Nat) (w : World) (hin : BytesIn w A n c) : Calls Try.prog 25 #[.slice A n c] w (LgPost w) := by
  go_enter Try.func25, Try.ntmps25
  go_wp2_with fail
  refine (drawLadderCode_any A n c w hin).mono ?_
  rintro e w1 ⟨A1, n1, c1, R, lv, x, rfl, hR, hn, hrow, hlv, hx, hL, hb⟩
  have HH := Lib.hid (And.intro hR hrow)
  clear hR hrow
  go_wp2
  go_ret2
  exact ⟨A1, n1, c1, R, lv, rfl, HH.out.1, hn, HH.out.2, hlv, hL, hb⟩

end Go.Proofs.Ytfggfblneggncaa
