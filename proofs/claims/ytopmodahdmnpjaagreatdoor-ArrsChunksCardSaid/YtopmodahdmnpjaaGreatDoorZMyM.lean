/- deep.may and ostlerref08.may at values that are no lists: the walks. -/
import Derived.Test.YtopmodahdmnpjaaGreatDoorZMyA
import Derived.Test.YtopmodahdmnpjaaGreatDoorZDpBlQ
import Derived.BigQuiet
namespace Go.Proofs.YtopmodahdmnpjaaGreatDoor
open Go Go.RowKit
namespace Dp
theorem empty_eq {t : ByteArray} (h : t.size = 0) : t = ⟨#[]⟩ := ByteArray.ext (Array.eq_empty_of_size_eq_zero h)
theorem empty_no {t : ByteArray} (h : ¬ t.size = 0) : (t.toList == []) = false := by
  simp only [beq_eq_false_iff_ne, ne_eq]
  intro h2
  apply h
  rw [ByteArray.toList_eq] at h2
  show t.data.size = 0
  rw [← Array.length_toList, h2]
  rfl
theorem shr_one {n : Int} : (n >>> (1 : Nat) = 0) ↔ (n = 0 ∨ n = 1) := by
  rw [Int.shiftRight_eq_div_pow]
  omega
section
variable (n : Int) (t : ByteArray) (A : Option Addr) (l c : Nat) (w : World) (d : Int)
set_option maxRecDepth 100000 in
theorem dmay_0 : Calls Tryz.prog 79 #[.agg #[.int .i64 0, .int .i64 n, .string t, .slice A l c], .int .i64 d] w fun e w' => e = .returned (.bool (l == 0 && flatB 0 n t)) ∧ Below w.heap.size w w' := by
  have HB0 := Lib.hid ((Below.refl w.heap.size w).alloc (Nat.le_refl _) (.cells #[.int .i64 0, .int .i64 n, .string t, .slice A l c] 24))
  by_cases hL : l = 0
  · subst hL
    by_cases hN : n = 0
    · subst hN
      by_cases hT : t.size = 0
      · obtain rfl := empty_eq hT
        go_enter Tryz.func79, Tryz.ntmps79
        go_wp2_with fail
        go_ret
        exact ⟨by first | (simp [flatB, *]; done) | (simp [flatB, *]; intros; omega), HB0.out⟩
      · have bt := empty_no hT
        go_enter Tryz.func79, Tryz.ntmps79
        go_wp2_with fail
        go_ret
        exact ⟨by first | (simp [flatB, *]; done) | (simp [flatB, *]; intros; omega), HB0.out⟩
    · have bn : (n == 0) = false := by simpa using hN
      go_enter Tryz.func79, Tryz.ntmps79
      go_wp2_with fail
      go_ret
      exact ⟨by first | (simp [flatB, *]; done) | (simp [flatB, *]; intros; omega), HB0.out⟩
  · have bl : ((l : Int) == 0) = false := by simp; omega
    go_enter Tryz.func79, Tryz.ntmps79
    go_wp2_with fail
    go_ret
    exact ⟨by first | (simp [flatB, *]; done) | (simp [flatB, *]; intros; omega), HB0.out⟩
set_option maxRecDepth 100000 in
theorem dmay_1 : Calls Tryz.prog 79 #[.agg #[.int .i64 1, .int .i64 n, .string t, .slice A l c], .int .i64 d] w fun e w' => e = .returned (.bool (l == 0 && flatB 1 n t)) ∧ Below w.heap.size w w' := by
  have HB0 := Lib.hid ((Below.refl w.heap.size w).alloc (Nat.le_refl _) (.cells #[.int .i64 1, .int .i64 n, .string t, .slice A l c] 24))
  by_cases hL : l = 0
  · subst hL
    by_cases hS : n = 0 ∨ n = 1
    · rcases hS with rfl | rfl
      · skip
        by_cases hT : t.size = 0
        · obtain rfl := empty_eq hT
          go_enter Tryz.func79, Tryz.ntmps79
          go_wp2_with fail
          go_ret
          exact ⟨by first | (simp [flatB, *]; done) | (simp [flatB, *]; intros; omega), HB0.out⟩
        · have bt := empty_no hT
          go_enter Tryz.func79, Tryz.ntmps79
          go_wp2_with fail
          go_ret
          exact ⟨by first | (simp [flatB, *]; done) | (simp [flatB, *]; intros; omega), HB0.out⟩
      · skip
        by_cases hT : t.size = 0
        · obtain rfl := empty_eq hT
          go_enter Tryz.func79, Tryz.ntmps79
          go_wp2_with fail
          go_ret
          exact ⟨by first | (simp [flatB, *]; done) | (simp [flatB, *]; intros; omega), HB0.out⟩
        · have bt := empty_no hT
          go_enter Tryz.func79, Tryz.ntmps79
          go_wp2_with fail
          go_ret
          exact ⟨by first | (simp [flatB, *]; done) | (simp [flatB, *]; intros; omega), HB0.out⟩
    · have bs0 : (n == 0) = false := by simp; omega
      have bs1 : (n == 1) = false := by simp; omega
      have bs : (n >>> (1 : Nat) == 0) = false := by
          simp only [beq_eq_false_iff_ne, ne_eq]
          exact fun h => hS (shr_one.1 h)
      go_enter Tryz.func79, Tryz.ntmps79
      go_wp2_with fail
      go_ret
      exact ⟨by first | (simp [flatB, *]; done) | (simp [flatB, *]; intros; omega), HB0.out⟩
  · have bl : ((l : Int) == 0) = false := by simp; omega
    go_enter Tryz.func79, Tryz.ntmps79
    go_wp2_with fail
    go_ret
    exact ⟨by first | (simp [flatB, *]; done) | (simp [flatB, *]; intros; omega), HB0.out⟩
set_option maxRecDepth 100000 in
theorem dmay_2 : Calls Tryz.prog 79 #[.agg #[.int .i64 2, .int .i64 n, .string t, .slice A l c], .int .i64 d] w fun e w' => e = .returned (.bool (l == 0 && flatB 2 n t)) ∧ Below w.heap.size w w' := by
  have HB0 := Lib.hid ((Below.refl w.heap.size w).alloc (Nat.le_refl _) (.cells #[.int .i64 2, .int .i64 n, .string t, .slice A l c] 24))
  by_cases hL : l = 0
  · subst hL
    by_cases hT : t.size = 0
    · obtain rfl := empty_eq hT
      go_enter Tryz.func79, Tryz.ntmps79
      go_wp2_with fail
      go_ret
      exact ⟨by first | (simp [flatB, *]; done) | (simp [flatB, *]; intros; omega), HB0.out⟩
    · have bt := empty_no hT
      go_enter Tryz.func79, Tryz.ntmps79
      go_wp2_with fail
      go_ret
      exact ⟨by first | (simp [flatB, *]; done) | (simp [flatB, *]; intros; omega), HB0.out⟩
  · have bl : ((l : Int) == 0) = false := by simp; omega
    go_enter Tryz.func79, Tryz.ntmps79
    go_wp2_with fail
    go_ret
    exact ⟨by first | (simp [flatB, *]; done) | (simp [flatB, *]; intros; omega), HB0.out⟩
set_option maxRecDepth 100000 in
theorem dmay_3 : Calls Tryz.prog 79 #[.agg #[.int .i64 3, .int .i64 n, .string t, .slice A l c], .int .i64 d] w fun e w' => e = .returned (.bool (l == 0 && flatB 3 n t)) ∧ Below w.heap.size w w' := by
  have HB0 := Lib.hid ((Below.refl w.heap.size w).alloc (Nat.le_refl _) (.cells #[.int .i64 3, .int .i64 n, .string t, .slice A l c] 24))
  by_cases hL : l = 0
  · subst hL
    by_cases hN : n = 0
    · subst hN
      by_cases hZ : t.size ≤ 65536
      · have hz : (t.size : Int) ≤ 65536 := by omega
        go_enter Tryz.func79, Tryz.ntmps79
        go_wp2_with fail
        go_ret
        exact ⟨by first | (simp [flatB, *]; done) | (simp [flatB, *]; intros; omega), HB0.out⟩
      · have hz : ¬ (t.size : Int) ≤ 65536 := by omega
        go_enter Tryz.func79, Tryz.ntmps79
        go_wp2_with fail
        go_ret
        exact ⟨by first | (simp [flatB, *]; done) | (simp [flatB, *]; intros; omega), HB0.out⟩
    · have bn : (n == 0) = false := by simpa using hN
      go_enter Tryz.func79, Tryz.ntmps79
      go_wp2_with fail
      go_ret
      exact ⟨by first | (simp [flatB, *]; done) | (simp [flatB, *]; intros; omega), HB0.out⟩
  · have bl : ((l : Int) == 0) = false := by simp; omega
    go_enter Tryz.func79, Tryz.ntmps79
    go_wp2_with fail
    go_ret
    exact ⟨by first | (simp [flatB, *]; done) | (simp [flatB, *]; intros; omega), HB0.out⟩
set_option maxRecDepth 100000 in
theorem dmay_5 : Calls Tryz.prog 79 #[.agg #[.int .i64 5, .int .i64 n, .string t, .slice A l c], .int .i64 d] w fun e w' => e = .returned (.bool (l == 0 && flatB 5 n t)) ∧ Below w.heap.size w w' := by
  have HB0 := Lib.hid ((Below.refl w.heap.size w).alloc (Nat.le_refl _) (.cells #[.int .i64 5, .int .i64 n, .string t, .slice A l c] 24))
  by_cases hL : l = 0
  · subst hL
    by_cases hP : 0 < n
    · skip
      by_cases hT : t.size = 0
      · obtain rfl := empty_eq hT
        go_enter Tryz.func79, Tryz.ntmps79
        go_wp2_with fail
        go_ret
        exact ⟨by first | (simp [flatB, *]; done) | (simp [flatB, *]; intros; omega), HB0.out⟩
      · have bt := empty_no hT
        go_enter Tryz.func79, Tryz.ntmps79
        go_wp2_with fail
        go_ret
        exact ⟨by first | (simp [flatB, *]; done) | (simp [flatB, *]; intros; omega), HB0.out⟩
    · skip
      go_enter Tryz.func79, Tryz.ntmps79
      go_wp2_with fail
      go_ret
      exact ⟨by first | (simp [flatB, *]; done) | (simp [flatB, *]; intros; omega), HB0.out⟩
  · have bl : ((l : Int) == 0) = false := by simp; omega
    go_enter Tryz.func79, Tryz.ntmps79
    go_wp2_with fail
    go_ret
    exact ⟨by first | (simp [flatB, *]; done) | (simp [flatB, *]; intros; omega), HB0.out⟩
set_option maxRecDepth 100000 in
theorem dmay_no (k : Int) (h0 : ¬ (0 ≤ k ∧ k ≤ 5)) : Calls Tryz.prog 79 #[.agg #[.int .i64 k, .int .i64 n, .string t, .slice A l c], .int .i64 d] w fun e w' => e = .returned (.bool false) ∧ Below w.heap.size w w' := by
  have HB0 := Lib.hid ((Below.refl w.heap.size w).alloc (Nat.le_refl _) (.cells #[.int .i64 k, .int .i64 n, .string t, .slice A l c] 24))
  have b0 : (k == 0) = false := by simp; omega
  have b1 : (k == 1) = false := by simp; omega
  have b2 : (k == 2) = false := by simp; omega
  have b3 : (k == 3) = false := by simp; omega
  have b4 : (k == 4) = false := by simp; omega
  have b5 : (k == 5) = false := by simp; omega
  go_enter Tryz.func79, Tryz.ntmps79
  go_wp2_with fail
  go_ret
  exact ⟨rfl, HB0.out⟩
set_option maxRecDepth 100000 in
theorem rmay_0 : Calls Tryz.prog 17 #[.agg #[.int .i64 0, .int .i64 n, .string t, .slice A l c], .int .i64 d] w fun e w' => e = .returned (.bool (l == 0 && flatB 0 n t)) ∧ Below w.heap.size w w' := by
  have HB0 := Lib.hid ((Below.refl w.heap.size w).alloc (Nat.le_refl _) (.cells #[.int .i64 0, .int .i64 n, .string t, .slice A l c] 24))
  by_cases hN : n = 0
  · subst hN
    by_cases hT : t.size = 0
    · obtain rfl := empty_eq hT
      by_cases hL : l = 0
      · subst hL
        go_enter Tryz.func17, Tryz.ntmps17
        go_wp2_with fail
        go_ret
        exact ⟨by first | (simp [flatB, *]; done) | (simp [flatB, *]; intros; omega), HB0.out⟩
      · have bl : ((l : Int) == 0) = false := by simp; omega
        go_enter Tryz.func17, Tryz.ntmps17
        go_wp2_with fail
        go_ret
        exact ⟨by first | (simp [flatB, *]; done) | (simp [flatB, *]; intros; omega), HB0.out⟩
    · have bt := empty_no hT
      go_enter Tryz.func17, Tryz.ntmps17
      go_wp2_with fail
      go_ret
      exact ⟨by first | (simp [flatB, *]; done) | (simp [flatB, *]; intros; omega), HB0.out⟩
  · have bn : (n == 0) = false := by simpa using hN
    go_enter Tryz.func17, Tryz.ntmps17
    go_wp2_with fail
    go_ret
    exact ⟨by first | (simp [flatB, *]; done) | (simp [flatB, *]; intros; omega), HB0.out⟩
set_option maxRecDepth 100000 in
theorem rmay_1 : Calls Tryz.prog 17 #[.agg #[.int .i64 1, .int .i64 n, .string t, .slice A l c], .int .i64 d] w fun e w' => e = .returned (.bool (l == 0 && flatB 1 n t)) ∧ Below w.heap.size w w' := by
  have HB0 := Lib.hid ((Below.refl w.heap.size w).alloc (Nat.le_refl _) (.cells #[.int .i64 1, .int .i64 n, .string t, .slice A l c] 24))
  by_cases hS : n = 0 ∨ n = 1
  · rcases hS with rfl | rfl
    · skip
      by_cases hT : t.size = 0
      · obtain rfl := empty_eq hT
        by_cases hL : l = 0
        · subst hL
          go_enter Tryz.func17, Tryz.ntmps17
          go_wp2_with fail
          go_ret
          exact ⟨by first | (simp [flatB, *]; done) | (simp [flatB, *]; intros; omega), HB0.out⟩
        · have bl : ((l : Int) == 0) = false := by simp; omega
          go_enter Tryz.func17, Tryz.ntmps17
          go_wp2_with fail
          go_ret
          exact ⟨by first | (simp [flatB, *]; done) | (simp [flatB, *]; intros; omega), HB0.out⟩
      · have bt := empty_no hT
        go_enter Tryz.func17, Tryz.ntmps17
        go_wp2_with fail
        go_ret
        exact ⟨by first | (simp [flatB, *]; done) | (simp [flatB, *]; intros; omega), HB0.out⟩
    · skip
      by_cases hT : t.size = 0
      · obtain rfl := empty_eq hT
        by_cases hL : l = 0
        · subst hL
          go_enter Tryz.func17, Tryz.ntmps17
          go_wp2_with fail
          go_ret
          exact ⟨by first | (simp [flatB, *]; done) | (simp [flatB, *]; intros; omega), HB0.out⟩
        · have bl : ((l : Int) == 0) = false := by simp; omega
          go_enter Tryz.func17, Tryz.ntmps17
          go_wp2_with fail
          go_ret
          exact ⟨by first | (simp [flatB, *]; done) | (simp [flatB, *]; intros; omega), HB0.out⟩
      · have bt := empty_no hT
        go_enter Tryz.func17, Tryz.ntmps17
        go_wp2_with fail
        go_ret
        exact ⟨by first | (simp [flatB, *]; done) | (simp [flatB, *]; intros; omega), HB0.out⟩
  · have bs0 : (n == 0) = false := by simp; omega
    have bs1 : (n == 1) = false := by simp; omega
    have bs : (n >>> (1 : Nat) == 0) = false := by
        simp only [beq_eq_false_iff_ne, ne_eq]
        exact fun h => hS (shr_one.1 h)
    go_enter Tryz.func17, Tryz.ntmps17
    go_wp2_with fail
    go_ret
    exact ⟨by first | (simp [flatB, *]; done) | (simp [flatB, *]; intros; omega), HB0.out⟩
set_option maxRecDepth 100000 in
theorem rmay_2 : Calls Tryz.prog 17 #[.agg #[.int .i64 2, .int .i64 n, .string t, .slice A l c], .int .i64 d] w fun e w' => e = .returned (.bool (l == 0 && flatB 2 n t)) ∧ Below w.heap.size w w' := by
  have HB0 := Lib.hid ((Below.refl w.heap.size w).alloc (Nat.le_refl _) (.cells #[.int .i64 2, .int .i64 n, .string t, .slice A l c] 24))
  by_cases hT : t.size = 0
  · obtain rfl := empty_eq hT
    by_cases hL : l = 0
    · subst hL
      go_enter Tryz.func17, Tryz.ntmps17
      go_wp2_with fail
      go_ret
      exact ⟨by first | (simp [flatB, *]; done) | (simp [flatB, *]; intros; omega), HB0.out⟩
    · have bl : ((l : Int) == 0) = false := by simp; omega
      go_enter Tryz.func17, Tryz.ntmps17
      go_wp2_with fail
      go_ret
      exact ⟨by first | (simp [flatB, *]; done) | (simp [flatB, *]; intros; omega), HB0.out⟩
  · have bt := empty_no hT
    go_enter Tryz.func17, Tryz.ntmps17
    go_wp2_with fail
    go_ret
    exact ⟨by first | (simp [flatB, *]; done) | (simp [flatB, *]; intros; omega), HB0.out⟩
set_option maxRecDepth 100000 in
theorem rmay_3 : Calls Tryz.prog 17 #[.agg #[.int .i64 3, .int .i64 n, .string t, .slice A l c], .int .i64 d] w fun e w' => e = .returned (.bool (l == 0 && flatB 3 n t)) ∧ Below w.heap.size w w' := by
  have HB0 := Lib.hid ((Below.refl w.heap.size w).alloc (Nat.le_refl _) (.cells #[.int .i64 3, .int .i64 n, .string t, .slice A l c] 24))
  by_cases hN : n = 0
  · subst hN
    by_cases hL : l = 0
    · subst hL
      by_cases hZ : t.size ≤ 65536
      · have hz : (t.size : Int) ≤ 65536 := by omega
        go_enter Tryz.func17, Tryz.ntmps17
        go_wp2_with fail
        go_ret
        exact ⟨by first | (simp [flatB, *]; done) | (simp [flatB, *]; intros; omega), HB0.out⟩
      · have hz : ¬ (t.size : Int) ≤ 65536 := by omega
        go_enter Tryz.func17, Tryz.ntmps17
        go_wp2_with fail
        go_ret
        exact ⟨by first | (simp [flatB, *]; done) | (simp [flatB, *]; intros; omega), HB0.out⟩
    · have bl : ((l : Int) == 0) = false := by simp; omega
      go_enter Tryz.func17, Tryz.ntmps17
      go_wp2_with fail
      go_ret
      exact ⟨by first | (simp [flatB, *]; done) | (simp [flatB, *]; intros; omega), HB0.out⟩
  · have bn : (n == 0) = false := by simpa using hN
    go_enter Tryz.func17, Tryz.ntmps17
    go_wp2_with fail
    go_ret
    exact ⟨by first | (simp [flatB, *]; done) | (simp [flatB, *]; intros; omega), HB0.out⟩
set_option maxRecDepth 100000 in
theorem rmay_5 : Calls Tryz.prog 17 #[.agg #[.int .i64 5, .int .i64 n, .string t, .slice A l c], .int .i64 d] w fun e w' => e = .returned (.bool (l == 0 && flatB 5 n t)) ∧ Below w.heap.size w w' := by
  have HB0 := Lib.hid ((Below.refl w.heap.size w).alloc (Nat.le_refl _) (.cells #[.int .i64 5, .int .i64 n, .string t, .slice A l c] 24))
  by_cases hP : 0 < n
  · skip
    by_cases hT : t.size = 0
    · obtain rfl := empty_eq hT
      by_cases hL : l = 0
      · subst hL
        go_enter Tryz.func17, Tryz.ntmps17
        go_wp2_with fail
        go_ret
        exact ⟨by first | (simp [flatB, *]; done) | (simp [flatB, *]; intros; omega), HB0.out⟩
      · have bl : ((l : Int) == 0) = false := by simp; omega
        go_enter Tryz.func17, Tryz.ntmps17
        go_wp2_with fail
        go_ret
        exact ⟨by first | (simp [flatB, *]; done) | (simp [flatB, *]; intros; omega), HB0.out⟩
    · have bt := empty_no hT
      go_enter Tryz.func17, Tryz.ntmps17
      go_wp2_with fail
      go_ret
      exact ⟨by first | (simp [flatB, *]; done) | (simp [flatB, *]; intros; omega), HB0.out⟩
  · skip
    go_enter Tryz.func17, Tryz.ntmps17
    go_wp2_with fail
    go_ret
    exact ⟨by first | (simp [flatB, *]; done) | (simp [flatB, *]; intros; omega), HB0.out⟩
set_option maxRecDepth 100000 in
theorem rmay_no (k : Int) (h0 : ¬ (0 ≤ k ∧ k ≤ 5)) : Calls Tryz.prog 17 #[.agg #[.int .i64 k, .int .i64 n, .string t, .slice A l c], .int .i64 d] w fun e w' => e = .returned (.bool false) ∧ Below w.heap.size w w' := by
  have HB0 := Lib.hid ((Below.refl w.heap.size w).alloc (Nat.le_refl _) (.cells #[.int .i64 k, .int .i64 n, .string t, .slice A l c] 24))
  have b0 : (k == 0) = false := by simp; omega
  have b1 : (k == 1) = false := by simp; omega
  have b2 : (k == 2) = false := by simp; omega
  have b3 : (k == 3) = false := by simp; omega
  have b4 : (k == 4) = false := by simp; omega
  have b5 : (k == 5) = false := by simp; omega
  go_enter Tryz.func17, Tryz.ntmps17
  go_wp2_with fail
  go_ret
  exact ⟨rfl, HB0.out⟩
end
end Dp
end Go.Proofs.YtopmodahdmnpjaaGreatDoor
