/- deep: few items: the walk. -/
import Derived.Test.YtgjnmfjiolpikaaGreatDoorDpCa
namespace Go.Proofs.YtgjnmfjiolpikaaGreatDoor
open Go.RowKit
namespace Dp
theorem vagg {w : World} {B : Nat} {g : GV} {x : Value} (h : VAt w B g x) : ∃ (k n : Int) (t : ByteArray) (A : Option Addr) (l c : Nat), x = .agg #[.int .i64 k, .int .i64 n, .string t, .slice A l c] := by
  cases h
  exact ⟨_, _, _, _, _, _, rfl⟩
/-- Few enough items. -/
def fewB (g : GV) : Bool := decide (0 ≤ leftV g 2048)
def sameB (g g' : GV) : Bool := fewB g && (fewB g' && alikeV g g')
theorem few_no {g : GV} (h : ¬ 0 ≤ leftV g 2048) : fewB g = false := decide_eq_false h
theorem few_yes {g : GV} (h : 0 ≤ leftV g 2048) : fewB g = true := decide_eq_true h
section
variable {w : World} {B : Nat}
set_option maxRecDepth 100000 in
theorem few_any (hBw : B ≤ w.heap.size) {g : GV} {x : Value} (h : VAt w B g x) (w' : World) (hb : Below B w w') :
    Calls Tryz.prog 12 #[x] w' fun e w'' => e = .returned (.bool (fewB g)) ∧ Below w'.heap.size w' w'' := by
  obtain ⟨k, n, t, A, l, c, rfl⟩ := vagg h
  have HL := Lib.hid (rleft_any hBw h (w'.alloc (.cells #[.int .i64 k, .int .i64 n, .string t, .slice A l c] 25)) (hb.alloc (Nat.le_trans hBw hb.size) _) 2048 (by omega) (by omega))
  have HB0 := Lib.hid ((Below.refl w'.heap.size w').alloc (Nat.le_refl _) (.cells #[.int .i64 k, .int .i64 n, .string t, .slice A l c] 25))
  unfold fewB
  clear h hb
  generalize leftV g 2048 = m at *
  go_enter Tryz.func12, Tryz.ntmps12
  go_wp2_with (go_at_call 73; refine (HL.out).mono ?_; rintro e w2 ⟨rfl, hle, hb2⟩)
  go_ret
  exact ⟨rfl, HB0.out.trans (hb2.mono HB0.out.size)⟩
end
end Dp
end Go.Proofs.YtgjnmfjiolpikaaGreatDoor
