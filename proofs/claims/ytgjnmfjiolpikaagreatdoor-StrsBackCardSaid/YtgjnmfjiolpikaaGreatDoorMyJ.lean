/- deep.may at any value: the walk. -/
import Derived.Test.YtgjnmfjiolpikaaGreatDoorMyI
import Derived.Test.YtgjnmfjiolpikaaGreatDoorMyM
namespace Go.Proofs.YtgjnmfjiolpikaaGreatDoor
open Go Go.RowKit
namespace Dp
section
variable {w : World} {B : Nat}
set_option maxRecDepth 100000 in
theorem may_any (hBw : B ≤ w.heap.size) (hLib : ∀ w', Below B w w' → LibS w') {g : GV} {x : Value} (h : VAt w B g x) : Fit g → ∀ (w' : World), Below B w w' → ∀ d : Int, 0 ≤ d → d ≤ 64 →
    Calls Tryz.prog 115 #[x, .int .i64 d] w' fun e w'' => e = .returned (.bool (mayV g d)) ∧ Below w'.heap.size w' w'' := by
  induction h with
  | mk k n t l A c b off C hc hn hA hi hv ih =>
    intro hf w' hb d hd0 hd1
    cases hf with
    | mk _ _ _ _ hk hn' ht h1 h2 =>
    have ih' := fun i it hit => ih i it hit (h2 i it hit)
    by_cases h4 : k = 4
    · subst h4
      rw [mayV, if_pos rfl]
      have HIt := Lib.hid (fun w1 (hz : Below B w w1) => items_any hBw hLib 4 n t l A c b off C hn hA hi hv h1 ih' w1 hz d hd0 hd1)
      have HB0 := Lib.hid ((Below.refl w'.heap.size w').alloc (Nat.le_refl _) (.cells #[.int .i64 4, .int .i64 n, .string t, .slice A l.length c] 25))
      have HZ := Lib.hid (hb.alloc (Nat.le_trans hBw hb.size) (.cells #[.int .i64 4, .int .i64 n, .string t, .slice A l.length c] 25))
      clear hA hi hv ih ih' h1 h2 hLib
      generalize (if t.size = 0 ∧ -1 ≤ n ∧ l.length ≤ 2048 ∧ d < 64 then mayL l [] n d else false) = r at *
      go_enter Tryz.func115, Tryz.ntmps115
      go_wp2_with (go_at_call 150; refine (HIt.out _ HZ.out).mono ?_; rintro e w1 ⟨rfl, hb1⟩)
      go_ret
      exact ⟨rfl, HB0.out.trans (hb1.mono HB0.out.size)⟩
    · rw [mayV, if_neg h4]
      by_cases hkk : 0 ≤ k ∧ k ≤ 5
      · obtain rfl | rfl | rfl | rfl | rfl : k = 0 ∨ k = 1 ∨ k = 2 ∨ k = 3 ∨ k = 5 := by omega
        · exact dmay_0 n t A l.length c w' d
        · exact dmay_1 n t A l.length c w' d
        · exact dmay_2 n t A l.length c w' d
        · exact dmay_3 n t A l.length c w' d
        · exact dmay_5 n t A l.length c w' d
      · have e : flatB k n t = false := by
          unfold flatB
          rw [if_neg (by omega), if_neg (by omega), if_neg (by omega), if_neg (by omega), if_neg (by omega)]
        rw [e, Bool.and_false]
        exact dmay_no n t A l.length c w' d k hkk
end
end Dp
end Go.Proofs.YtgjnmfjiolpikaaGreatDoor
