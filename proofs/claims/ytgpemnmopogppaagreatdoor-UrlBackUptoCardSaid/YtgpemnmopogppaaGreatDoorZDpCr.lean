/- conv's Plain and Same in the document: the walks. -/
import Derived.Test.YtgpemnmopogppaaGreatDoorZDpCaQ
namespace Go.Proofs.YtgpemnmopogppaaGreatDoor
open Go.RowKit
namespace Dp
section
variable (n n' : Int) (t t' : ByteArray) (A A' : Option Addr) (l l' c c' : Nat) (w : World)
set_option maxRecDepth 100000 in
theorem rplain_any (k : Int) : Calls Tryz.prog 78 #[.agg #[.int .i64 k, .int .i64 n, .string t, .slice A l c]] w fun e w' => e = .returned (.bool (plainB k)) ∧ w' = w.alloc (.cells #[.int .i64 k, .int .i64 n, .string t, .slice A l c] 25) := by
  unfold plainB
  by_cases h1 : 0 ≤ k
  · by_cases h2 : k ≤ 3
    · rw [decide_eq_true h1, decide_eq_true h2]
      go_enter Tryz.func78, Tryz.ntmps78
      go_wp2_with fail
      go_ret
      exact ⟨rfl, rfl⟩
    · rw [decide_eq_true h1, decide_eq_false h2]
      go_enter Tryz.func78, Tryz.ntmps78
      go_wp2_with fail
      go_ret
      exact ⟨rfl, rfl⟩
  · rw [decide_eq_false h1, Bool.false_and]
    go_enter Tryz.func78, Tryz.ntmps78
    go_wp2_with fail
    go_ret
    exact ⟨rfl, rfl⟩
set_option maxRecDepth 100000 in
set_option maxHeartbeats 2000000 in
theorem rsame_0 : Calls Tryz.prog 79 #[.agg #[.int .i64 0, .int .i64 n, .string t, .slice A l c], .agg #[.int .i64 0, .int .i64 n', .string t', .slice A' l' c']] w fun e w' => e = .returned (.bool (true)) ∧ Below w.heap.size w w' := by
  have HP := Lib.hid (fun w => rplain_any n t A l c w 0)
  have hp : plainB 0 = true := rfl
  rw [hp] at HP
  have HB0 := Lib.hid (((Below.refl w.heap.size w).alloc (Nat.le_refl _) (.cells #[.int .i64 0, .int .i64 n, .string t, .slice A l c] 25)).alloc (by simp) (.cells #[.int .i64 0, .int .i64 n', .string t', .slice A' l' c'] 25))
  go_enter Tryz.func79, Tryz.ntmps79
  go_wp2_with (go_at_call 78; refine (HP.out _).mono ?_; rintro e w1 ⟨rfl, rfl⟩)
  go_ret
  exact ⟨rfl, HB0.out.alloc HB0.out.size _⟩
set_option maxRecDepth 100000 in
set_option maxHeartbeats 2000000 in
theorem rsame_1 : Calls Tryz.prog 79 #[.agg #[.int .i64 1, .int .i64 n, .string t, .slice A l c], .agg #[.int .i64 1, .int .i64 n', .string t', .slice A' l' c']] w fun e w' => e = .returned (.bool ((n != 0) == (n' != 0))) ∧ Below w.heap.size w w' := by
  have HP := Lib.hid (fun w => rplain_any n t A l c w 1)
  have hp : plainB 1 = true := rfl
  rw [hp] at HP
  have HB0 := Lib.hid (((Below.refl w.heap.size w).alloc (Nat.le_refl _) (.cells #[.int .i64 1, .int .i64 n, .string t, .slice A l c] 25)).alloc (by simp) (.cells #[.int .i64 1, .int .i64 n', .string t', .slice A' l' c'] 25))
  go_enter Tryz.func79, Tryz.ntmps79
  go_wp2_with (go_at_call 78; refine (HP.out _).mono ?_; rintro e w1 ⟨rfl, rfl⟩)
  go_ret
  refine ⟨?_, HB0.out.alloc HB0.out.size _⟩
  congr 2
  simp only [bne]
  generalize (n == 0) = p
  generalize (n' == 0) = q
  cases p <;> cases q <;> rfl
set_option maxRecDepth 100000 in
set_option maxHeartbeats 2000000 in
theorem rsame_2 : Calls Tryz.prog 79 #[.agg #[.int .i64 2, .int .i64 n, .string t, .slice A l c], .agg #[.int .i64 2, .int .i64 n', .string t', .slice A' l' c']] w fun e w' => e = .returned (.bool (n == n')) ∧ Below w.heap.size w w' := by
  have HP := Lib.hid (fun w => rplain_any n t A l c w 2)
  have hp : plainB 2 = true := rfl
  rw [hp] at HP
  have HB0 := Lib.hid (((Below.refl w.heap.size w).alloc (Nat.le_refl _) (.cells #[.int .i64 2, .int .i64 n, .string t, .slice A l c] 25)).alloc (by simp) (.cells #[.int .i64 2, .int .i64 n', .string t', .slice A' l' c'] 25))
  go_enter Tryz.func79, Tryz.ntmps79
  go_wp2_with (go_at_call 78; refine (HP.out _).mono ?_; rintro e w1 ⟨rfl, rfl⟩)
  go_ret
  exact ⟨rfl, HB0.out.alloc HB0.out.size _⟩
set_option maxRecDepth 100000 in
set_option maxHeartbeats 2000000 in
theorem rsame_3 : Calls Tryz.prog 79 #[.agg #[.int .i64 3, .int .i64 n, .string t, .slice A l c], .agg #[.int .i64 3, .int .i64 n', .string t', .slice A' l' c']] w fun e w' => e = .returned (.bool (t.toList == t'.toList)) ∧ Below w.heap.size w w' := by
  have HP := Lib.hid (fun w => rplain_any n t A l c w 3)
  have hp : plainB 3 = true := rfl
  rw [hp] at HP
  have HB0 := Lib.hid (((Below.refl w.heap.size w).alloc (Nat.le_refl _) (.cells #[.int .i64 3, .int .i64 n, .string t, .slice A l c] 25)).alloc (by simp) (.cells #[.int .i64 3, .int .i64 n', .string t', .slice A' l' c'] 25))
  go_enter Tryz.func79, Tryz.ntmps79
  go_wp2_with (go_at_call 78; refine (HP.out _).mono ?_; rintro e w1 ⟨rfl, rfl⟩)
  go_ret
  exact ⟨rfl, HB0.out.alloc HB0.out.size _⟩
end
end Dp
end Go.Proofs.YtgpemnmopogppaaGreatDoor
