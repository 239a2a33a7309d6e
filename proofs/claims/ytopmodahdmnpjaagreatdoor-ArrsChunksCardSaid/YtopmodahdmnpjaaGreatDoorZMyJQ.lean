/- deep.may at any value: the walk. -/
import Derived.Test.YtopmodahdmnpjaaGreatDoorZMyI
import Derived.Test.YtopmodahdmnpjaaGreatDoorZMyM
import Derived.Test.YtopmodahdmnpjaaGreatDoorZDpBlQ
namespace Go.Proofs.YtopmodahdmnpjaaGreatDoor
open Go Go.RowKit
namespace Dp
section
variable {w : World} {B : Nat}
set_option maxRecDepth 100000 in
theorem may_any (hBw : B ≤ w.heap.size) (hLib : ∀ w', Below B w w' → LibS w') {g : GV} {x : Value} (h : VAt w B g x) : Fit g → ∀ (w' : World), Below B w w' → ∀ d : Int, 0 ≤ d → d ≤ 64 →
    Calls Tryz.prog 79 #[x, .int .i64 d] w' fun e w'' => e = .returned (.bool (mayV g d)) ∧ Below w'.heap.size w' w'' := by
  induction h with
  | mk k n t l A c b off C hc hn hA hi hv ih =>
    intro hf w' hb d hd0 hd1
    cases hf with
    | mk _ _ _ _ hk hn' ht h1 h2 =>
    have ih' := fun i it hit => ih i it hit (h2 i it hit)
    by_cases h4 : k = 4
    · subst h4
      rw [mayV, if_pos rfl]
      have HIt := Lib.hid (fun w1 (hz : Below B w w1) => items_any hBw hLib 4 n t l A c b off C hn hA hi hv h1 ih' w1 hz d hd0 hd1)
      have HB0 := Lib.hid ((Below.refl w'.heap.size w').alloc (Nat.le_refl _) (.cells #[.int .i64 4, .int .i64 n, .string t, .slice A l.length c] 24))
      have HZ := Lib.hid (hb.alloc (Nat.le_trans hBw hb.size) (.cells #[.int .i64 4, .int .i64 n, .string t, .slice A l.length c] 24))
      clear hA hi hv ih ih' h1 h2 hLib
      generalize (if t.size = 0 ∧ -1 ≤ n ∧ l.length ≤ 2048 ∧ d < 64 then mayL l [] n d else false) = r at *
      go_enter Tryz.func79, Tryz.ntmps79
      go_wp2_with (go_at_call 139; refine (HIt.out _ HZ.out).mono ?_; rintro e w1 ⟨rfl, hb1⟩)
      go_ret
      exact ⟨rfl, HB0.out.trans (hb1.mono HB0.out.size)⟩
    · rw [mayV, if_neg h4]
      by_cases hkk : 0 ≤ k ∧ k ≤ 5
      · obtain rfl | rfl | rfl | rfl | rfl : k = 0 ∨ k = 1 ∨ k = 2 ∨ k = 3 ∨ k = 5 := by omega
        · exact dmay_0 n t A l.length c w' d
        · exact dmay_1 n t A l.length c w' d
        · exact dmay_2 n t A l.length c w' d
        · exact dmay_3 n t A l.length c w' d
        · exact dmay_5 n t A l.length c w' d
      · have e : flatB k n t = false := by
          unfold flatB
          rw [if_neg (by omega), if_neg (by omega), if_neg (by omega), if_neg (by omega), if_neg (by omega)]
        rw [e, Bool.and_false]
        exact dmay_no n t A l.length c w' d k hkk
end
end Dp
end Go.Proofs.YtopmodahdmnpjaaGreatDoor
/- deep.Right: the walk. -/
namespace Go.Proofs.YtopmodahdmnpjaaGreatDoor
open Go.RowKit
namespace Dp
/-- May a value be? -/
def rightB (g : GV) : Bool := fewB g && mayV g 0
def countV (g : GV) : Int := 2048 - max (leftV g 2048) (-1)
section
variable {w : World} {B : Nat}
set_option maxRecDepth 100000 in
set_option maxHeartbeats 2000000 in
theorem right_any (hBw : B ≤ w.heap.size) (hLib : ∀ w', Below B w w' → LibS w') {g : GV} {x : Value} (h : VAt w B g x) (hf : Fit g) (w' : World) (hb : Below B w w') :
    Calls Tryz.prog 14 #[x] w' fun e w'' => e = .returned (.bool (rightB g)) ∧ Below w'.heap.size w' w'' := by
  obtain ⟨k, n, t, A, l, c, rfl⟩ := vagg h
  have HS := Lib.hid (Nat.le_trans hBw hb.size)
  have HL := Lib.hid (fun w1 hz => left_any hBw h w1 hz 2048 (by omega) (by omega))
  have HM := Lib.hid (fun w1 hz => may_any hBw hLib h hf w1 hz 0 (by omega) (by omega))
  have HY := Lib.hid ((Below.refl w'.heap.size w').alloc (Nat.le_refl _) (.cells #[.int .i64 k, .int .i64 n, .string t, .slice A l c] 24))
  have HZ := Lib.hid (hb.trans (HY.out.mono HS.out))
  have HX := Lib.hid (Blk.new w' 24 #[.int .i64 k, .int .i64 n, .string t, .slice A l c])
  clear h hb hBw hLib hf
  unfold rightB
  by_cases hm : 0 ≤ leftV g 2048
  · have f1 := few_yes hm
    have d1 : decide (0 ≤ leftV g 2048) = true := decide_eq_true hm
    rw [f1, Bool.true_and]
    generalize leftV g 2048 = m at *
    generalize mayV g 0 = q at *
    go_enter Tryz.func14, Tryz.ntmps14
    go_wp2_with (first | (go_at_call 78; refine (HL.out _ HZ.out).mono ?_; rintro e w2 ⟨rfl, -, hb2⟩; have HZ := Lib.hid (HZ.out.trans (hb2.mono (Nat.le_trans HS.out HY.out.size))); have HY := Lib.hid (HY.out.trans (hb2.mono HY.out.size)); have HX := Lib.hid (blk_below HX.out hb2); have x0 := HX.out.cell 0; have x1 := HX.out.cell 1; have x2 := HX.out.cell 2; have x3 := HX.out.cell 3; clear hb2) | (go_at_call 79; refine (HM.out _ HZ.out).mono ?_; rintro e w3 ⟨rfl, hb3⟩; have HY := Lib.hid (HY.out.trans (hb3.mono HY.out.size)); clear hb3))
    go_ret
    exact ⟨rfl, HY.out⟩
  · have f1 := few_no hm
    have d1 : decide (0 ≤ leftV g 2048) = false := decide_eq_false hm
    rw [f1, Bool.false_and]
    clear hm
    generalize leftV g 2048 = m at *
    go_enter Tryz.func14, Tryz.ntmps14
    go_wp2_with (go_at_call 78; refine (HL.out _ HZ.out).mono ?_; rintro e w2 ⟨rfl, -, hb2⟩; have HY := Lib.hid (HY.out.trans (hb2.mono HY.out.size)); clear hb2)
    go_ret
    exact ⟨rfl, HY.out⟩
end
end Dp
end Go.Proofs.YtopmodahdmnpjaaGreatDoor
