/- Truth, truths, numbers, texts of both: the walks. -/
import Derived.Test.YthdnflklhhfojaaGreatDoorOrA
import Derived.Test.YthdnflklhhfojaaGreatDoorMyM
import Derived.Test.YthdnflklhhfojaaGreatDoorDpC
import Derived.BigQuiet
import Derived.Laws.Cover1
namespace Go.Proofs.YthdnflklhhfojaaGreatDoor
open Go Go.RowKit
namespace Dp
theorem zero_eq {t : ByteArray} (h : t.toList = [48]) : t = ⟨#[48]⟩ := by
  rw [ByteArray.toList_eq] at h
  exact ByteArray.ext (Array.toList_inj.mp h)
section
variable (n : Int) (t : ByteArray) (A : Option Addr) (l c : Nat) (w : World)
set_option maxRecDepth 100000 in
theorem ctruth_any (k : Int) : Calls Tryz.prog 108 #[.agg #[.int .i64 k, .int .i64 n, .string t, .slice A l c]] w fun e w' => e = .returned (.bool (truthK k n t l)) ∧ Below w.heap.size w w' := by
  by_cases h0 : k = 0
  · subst h0
    go_enter Tryz.func108, Tryz.ntmps108
    go_wp2_with fail
    go_ret
    exact ⟨by simp [truthK, *], (Below.refl w.heap.size w).alloc (Nat.le_refl _) _⟩
  · by_cases h1 : k = 1
    · subst h1
      go_enter Tryz.func108, Tryz.ntmps108
      go_wp2_with fail
      go_ret
      exact ⟨by simp [truthK, *], (Below.refl w.heap.size w).alloc (Nat.le_refl _) _⟩
    · by_cases h2 : k = 2
      · subst h2
        go_enter Tryz.func108, Tryz.ntmps108
        go_wp2_with fail
        go_ret
        exact ⟨by simp [truthK, *], (Below.refl w.heap.size w).alloc (Nat.le_refl _) _⟩
      · by_cases h3 : k = 3
        · subst h3
          by_cases ht : t.size = 0
          · obtain rfl := empty_eq ht
            go_enter Tryz.func108, Tryz.ntmps108
            go_wp2_with fail
            go_ret
            exact ⟨by simp [truthK], (Below.refl w.heap.size w).alloc (Nat.le_refl _) _⟩
          · have bt := empty_no ht
            by_cases hz : t.toList = [48]
            · obtain rfl := zero_eq hz
              clear bt ht hz
              go_enter Tryz.func108, Tryz.ntmps108
              go_wp2_with fail
              go_ret
              exact ⟨by simp [truthK], (Below.refl w.heap.size w).alloc (Nat.le_refl _) _⟩
            · have bz : (t.toList == [48]) = false := by simpa using hz
              have bn : ¬ t.toList = [] := by simpa using bt
              go_enter Tryz.func108, Tryz.ntmps108
              go_wp2_with fail
              go_ret
              exact ⟨by simp [truthK, bn, hz], (Below.refl w.heap.size w).alloc (Nat.le_refl _) _⟩
        · have b0 : (k == 0) = false := by simpa using h0
          have b1 : (k == 1) = false := by simpa using h1
          have b2 : (k == 2) = false := by simpa using h2
          have b3 : (k == 3) = false := by simpa using h3
          by_cases h4 : k = 4
          · subst h4
            have hl : decide ((0 : Int) < (l : Int)) = decide (0 < l) := by simp
            go_enter Tryz.func108, Tryz.ntmps108
            go_wp2_with fail
            go_ret
            exact ⟨by simp [truthK], (Below.refl w.heap.size w).alloc (Nat.le_refl _) _⟩
          · have b4 : (k == 4) = false := by simpa using h4
            have e : truthK k n t l = true := by
              unfold truthK
              rw [if_neg h0, if_neg (by omega), if_neg h3, if_neg h4]
            rw [e]
            go_enter Tryz.func108, Tryz.ntmps108
            go_wp2_with fail
            go_ret
            exact ⟨rfl, (Below.refl w.heap.size w).alloc (Nat.le_refl _) _⟩
set_option maxRecDepth 100000 in
theorem rtruth_any (k : Int) : Calls Tryz.prog 77 #[.agg #[.int .i64 k, .int .i64 n, .string t, .slice A l c]] w fun e w' => e = .returned (.bool (truthK k n t l)) ∧ Below w.heap.size w w' := by
  by_cases h0 : k = 0
  · subst h0
    go_enter Tryz.func77, Tryz.ntmps77
    go_wp2_with fail
    go_ret
    exact ⟨by simp [truthK, *], (Below.refl w.heap.size w).alloc (Nat.le_refl _) _⟩
  · by_cases h1 : k = 1
    · subst h1
      go_enter Tryz.func77, Tryz.ntmps77
      go_wp2_with fail
      go_ret
      exact ⟨by simp [truthK, *], (Below.refl w.heap.size w).alloc (Nat.le_refl _) _⟩
    · by_cases h2 : k = 2
      · subst h2
        go_enter Tryz.func77, Tryz.ntmps77
        go_wp2_with fail
        go_ret
        exact ⟨by simp [truthK, *], (Below.refl w.heap.size w).alloc (Nat.le_refl _) _⟩
      · by_cases h3 : k = 3
        · subst h3
          by_cases ht : t.size = 0
          · obtain rfl := empty_eq ht
            go_enter Tryz.func77, Tryz.ntmps77
            go_wp2_with fail
            go_ret
            exact ⟨by simp [truthK], (Below.refl w.heap.size w).alloc (Nat.le_refl _) _⟩
          · have bt := empty_no ht
            by_cases hz : t.toList = [48]
            · obtain rfl := zero_eq hz
              clear bt ht hz
              go_enter Tryz.func77, Tryz.ntmps77
              go_wp2_with fail
              go_ret
              exact ⟨by simp [truthK], (Below.refl w.heap.size w).alloc (Nat.le_refl _) _⟩
            · have bz : (t.toList == [48]) = false := by simpa using hz
              have bn : ¬ t.toList = [] := by simpa using bt
              go_enter Tryz.func77, Tryz.ntmps77
              go_wp2_with fail
              go_ret
              exact ⟨by simp [truthK, bn, hz], (Below.refl w.heap.size w).alloc (Nat.le_refl _) _⟩
        · have b0 : (k == 0) = false := by simpa using h0
          have b1 : (k == 1) = false := by simpa using h1
          have b2 : (k == 2) = false := by simpa using h2
          have b3 : (k == 3) = false := by simpa using h3
          by_cases h4 : k = 4
          · subst h4
            have hl : decide ((0 : Int) < (l : Int)) = decide (0 < l) := by simp
            go_enter Tryz.func77, Tryz.ntmps77
            go_wp2_with fail
            go_ret
            exact ⟨by simp [truthK], (Below.refl w.heap.size w).alloc (Nat.le_refl _) _⟩
          · have b4 : (k == 4) = false := by simpa using h4
            have e : truthK k n t l = true := by
              unfold truthK
              rw [if_neg h0, if_neg (by omega), if_neg h3, if_neg h4]
            rw [e]
            go_enter Tryz.func77, Tryz.ntmps77
            go_wp2_with fail
            go_ret
            exact ⟨rfl, (Below.refl w.heap.size w).alloc (Nat.le_refl _) _⟩
end
theorem ctruths_any (a b : Bool) (w : World) : Calls Tryz.prog 107 #[.bool a, .bool b] w fun e w' => e = .returned (.int .i64 (truthsI a b)) ∧ w = w' := by
  cases a <;> cases b <;>
  · go_enter Tryz.func107, Tryz.ntmps107
    go_wp2_with fail
    go_ret
    exact ⟨rfl, rfl⟩
theorem rtruths_any (a b : Bool) (w : World) : Calls Tryz.prog 112 #[.bool a, .bool b] w fun e w' => e = .returned (.int .i64 (truthsI a b)) ∧ w = w' := by
  cases a <;> cases b <;>
  · go_enter Tryz.func112, Tryz.ntmps112
    go_wp2_with fail
    go_ret
    exact ⟨rfl, rfl⟩
theorem nan_any (a : Int) (w : World) : Calls Tryz.prog 138 #[.int .i64 a] w fun e w' => e = .returned (.bool false) ∧ w = w' := by
  go_enter Tryz.func138, Tryz.ntmps138
  go_wp2_with fail
  go_ret
  exact ⟨by simp, rfl⟩
theorem ccmp_any (a b : Int) (w : World) : Calls Tryz.prog 110 #[.int .i64 a, .int .i64 b] w fun e w' => e = .returned (.int .i64 (cmpI a b)) ∧ w = w' := by
  unfold cmpI
  by_cases h1 : a < b
  · rw [if_pos h1]
    go_enter Tryz.func110, Tryz.ntmps110
    go_wp2_with (go_at_call 138; refine (nan_any _ _).mono ?_; rintro e w1 ⟨rfl, rfl⟩)
    go_ret
    exact ⟨rfl, rfl⟩
  · rw [if_neg h1]
    by_cases h2 : b < a
    · rw [if_pos h2]
      go_enter Tryz.func110, Tryz.ntmps110
      go_wp2_with (go_at_call 138; refine (nan_any _ _).mono ?_; rintro e w1 ⟨rfl, rfl⟩)
      go_ret
      exact ⟨rfl, rfl⟩
    · rw [if_neg h2]
      go_enter Tryz.func110, Tryz.ntmps110
      go_wp2_with (go_at_call 138; refine (nan_any _ _).mono ?_; rintro e w1 ⟨rfl, rfl⟩)
      go_ret
      exact ⟨rfl, rfl⟩
theorem rnums_any (a b : Int) (w : World) : Calls Tryz.prog 114 #[.int .i64 a, .int .i64 b] w fun e w' => e = .returned (.int .i64 (cmpI a b)) ∧ w = w' := by
  unfold cmpI
  by_cases h1 : a < b
  · rw [if_pos h1]
    go_enter Tryz.func114, Tryz.ntmps114
    go_wp2_with fail
    go_ret
    exact ⟨rfl, rfl⟩
  · rw [if_neg h1]
    by_cases h2 : b < a
    · rw [if_pos h2]
      go_enter Tryz.func114, Tryz.ntmps114
      go_wp2_with fail
      go_ret
      exact ⟨rfl, rfl⟩
    · rw [if_neg h2]
      go_enter Tryz.func114, Tryz.ntmps114
      go_wp2_with fail
      go_ret
      exact ⟨rfl, rfl⟩
theorem cmp_lt : ∀ (a b : List UInt8), Op.bytesLess a b = true → Lib.compareBytes a b = -1
  | _, [], h => by cases ‹List UInt8› <;> simp [Op.bytesLess] at h
  | [], _ :: _, _ => rfl
  | a :: x, b :: y, h => by
    simp only [Op.bytesLess, Bool.or_eq_true, Bool.and_eq_true, decide_eq_true_eq, beq_iff_eq] at h
    unfold Lib.compareBytes
    rcases h with h | ⟨rfl, h⟩
    · rw [if_pos h]
    · rw [if_neg (UInt8.lt_irrefl a), if_neg (UInt8.lt_irrefl a)]
      exact cmp_lt x y h
theorem cmp_self : ∀ a : List UInt8, Lib.compareBytes a a = 0
  | [] => rfl
  | a :: x => by
    unfold Lib.compareBytes
    rw [if_neg (UInt8.lt_irrefl a), if_neg (UInt8.lt_irrefl a)]
    exact cmp_self x
theorem cmp_gt : ∀ (a b : List UInt8), Op.bytesLess a b = false → ¬ a = b → Lib.compareBytes a b = 1
  | [], [], _, hne => absurd rfl hne
  | a :: x, [], _, _ => rfl
  | [], _ :: _, h, _ => by simp [Op.bytesLess] at h
  | a :: x, b :: y, h, hne => by
    simp only [Op.bytesLess, Bool.or_eq_false_iff, decide_eq_false_iff_not] at h
    obtain ⟨h1, h2⟩ := h
    unfold Lib.compareBytes
    rw [if_neg h1]
    by_cases hb : b < a
    · rw [if_pos hb]
    · rw [if_neg hb]
      have e : a = b := UInt8.le_antisymm (UInt8.not_lt.1 hb) (UInt8.not_lt.1 h1)
      subst e
      simp at h2
      exact cmp_gt x y h2 (fun e => hne (by rw [e]))
theorem rtexts_any (a b : ByteArray) (w : World) : Calls Tryz.prog 113 #[.string a, .string b] w fun e w' => e = .returned (.int .i64 (cmpT a b)) ∧ w = w' := by
  have e : cmpT a b = Lib.compareBytes a.toList b.toList := by unfold cmpT; rw [ByteArray.toList_eq, ByteArray.toList_eq]
  rw [e]
  clear e
  by_cases h1 : Op.bytesLess a.toList b.toList = true
  · rw [cmp_lt _ _ h1]
    go_enter Tryz.func113, Tryz.ntmps113
    go_wp2_with fail
    go_ret
    exact ⟨rfl, rfl⟩
  · have h1' : Op.bytesLess a.toList b.toList = false := by simpa using h1
    clear h1
    by_cases h2 : a.toList = b.toList
    · obtain rfl : a = b := by
        rw [ByteArray.toList_eq, ByteArray.toList_eq] at h2
        exact ByteArray.ext (Array.toList_inj.mp h2)
      rw [cmp_self]
      clear h2
      go_enter Tryz.func113, Tryz.ntmps113
      go_wp2_with fail
      go_ret
      exact ⟨rfl, rfl⟩
    · rw [cmp_gt _ _ h1' h2]
      have h2' : (a.toList == b.toList) = false := by simpa using h2
      clear h2
      go_enter Tryz.func113, Tryz.ntmps113
      go_wp2_with fail
      go_ret
      exact ⟨rfl, rfl⟩
end Dp
end Go.Proofs.YthdnflklhhfojaaGreatDoor
