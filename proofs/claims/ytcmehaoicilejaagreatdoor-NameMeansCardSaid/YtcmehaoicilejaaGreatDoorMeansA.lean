/- What a class's name means: plain definitions, and the small functions that both tellers of it call. -/
import Derived.Test.YtcmehaoicilejaaGreatDoorAliveN
import Derived.WalkKit
import Derived.WalkMore
import Derived.BigQuiet
import Derived.Deep.LoopGhost
import Derived.Lib.Hide
import Derived.Lib.SmallJoins
import Derived.Lib.IndexBytes
import Derived.Handy
namespace Go.Proofs.YtcmehaoicilejaaGreatDoor
open Go.RowKit

/-- How many bytes stand ahead of the first backslash. -/
def ixL (l : List UInt8) : Nat := l.findIdx (· == 92)
def ixS (s : ByteArray) : Nat := ixL s.data.toList
def inB (space s : ByteArray) : ByteArray := if space.toList == [] then s else space ++ ⟨#[92]⟩ ++ s
theorem drewN' {B : Nat} {w w' : World} (h : Below B w w') (n : Nat) : Below B w (w'.drewN n) := ⟨h.os, h.tape, h.output, h.size, h.block⟩
theorem ixS_le (s : ByteArray) : ixS s ≤ s.size := by
  have := Lib.size_eq s
  have h : ixL s.data.toList ≤ s.data.toList.length := List.findIdx_le_length
  unfold ixS; omega
theorem ixL_index : ∀ l : List UInt8, Lib.indexByte l 92 = if ixL l < l.length then (ixL l : Int) else -1
  | [] => rfl
  | b :: l => by
    have ih := ixL_index l
    unfold Lib.indexByte ixL
    rw [List.findIdx_cons]
    by_cases hb : (b == 92) = true
    · rw [if_pos hb, hb]; simp
    · have hb' : (b == 92) = false := by simpa using hb
      rw [if_neg hb, hb']
      simp only [cond_false, List.length_cons]
      unfold ixL at ih
      generalize l.findIdx (· == 92) = k at *
      by_cases hl : k < l.length
      · rw [if_pos hl] at ih
        have h2 : ¬ (((k : Int) == -1) = true) := by intro h; have := eq_of_beq h; omega
        have h3 : k + 1 < l.length + 1 := Nat.succ_lt_succ hl
        rw [ih, if_neg h2, if_pos h3]; push_cast; rfl
      · rw [if_neg hl] at ih
        have h3 : ¬ (k + 1 < l.length + 1) := fun h => hl (Nat.lt_of_succ_lt_succ h)
        rw [ih, if_neg h3]; rfl

theorem in_any (space s : ByteArray) (h1 : space.size ≤ 140737488355328) (h2 : s.size ≤ 140737488355328) (w : World) :
    Calls Tryz.prog 16 #[.string space, .string s] w fun e w' => e = .returned (.string (inB space s)) ∧ w = w' := by
  cases hz : (space.toList == ([] : List UInt8)) with
  | true =>
    go_enter Tryz.func16, Tryz.ntmps16
    go_wp2_with fail
    go_ret
    exact ⟨by unfold inB; rw [hz]; rfl, rfl⟩
  | false =>
    go_enter Tryz.func16, Tryz.ntmps16
    go_wp2_with fail
    go_ret
    exact ⟨by unfold inB; rw [hz]; rfl, rfl⟩
theorem rin_any (space s : ByteArray) (h1 : space.size ≤ 140737488355328) (h2 : s.size ≤ 140737488355328) (w : World) :
    Calls Tryz.prog 18 #[.string space, .string s] w fun e w' => e = .returned (.string (inB space s)) ∧ w = w' := by
  cases hz : (space.toList == ([] : List UInt8)) with
  | true =>
    go_enter Tryz.func18, Tryz.ntmps18
    go_wp2_with fail
    go_ret
    exact ⟨by unfold inB; rw [hz]; rfl, rfl⟩
  | false =>
    go_enter Tryz.func18, Tryz.ntmps18
    go_wp2_with fail
    go_ret
    exact ⟨by unfold inB; rw [hz]; rfl, rfl⟩

set_option maxRecDepth 100000 in
theorem lcut_any (s : ByteArray) (hs : s.size ≤ 140737488355328) (w : World) :
    Calls Tryz.prog 28 #[.string s, .string ⟨#[92]⟩] w fun e w' => (∃ t b, e = .returned (.tuple #[.string (s.extract 0 (ixS s)), .string t, .bool b])) ∧ Below w.heap.size w w' := by
  have hI := Tryz.stringslite_Index_one s 92 w
  have hl := Lib.size_eq s
  have hle := ixS_le s
  rw [ixL_index] at hI
  by_cases h : ixL s.data.toList < s.data.toList.length
  · rw [if_pos h] at hI
    have HI := Lib.hid hI; clear hI
    have h0 : ixS s + 1 ≤ s.size := by unfold ixS; omega
    change Hid (Calls _ _ _ _ fun e w' => e = .returned (.int .i64 (ixS s : Nat)) ∧ w' = w) at HI
    clear h hl
    generalize ixS s = i at *
    go_enter Tryz.func28, Tryz.ntmps28
    go_wp2_with (go_at_call 47; refine HI.out.mono ?_; rintro e w1 ⟨rfl, rfl⟩)
    go_quiet (fail)
    go_wp2_with fail
    go_ret3
    exact ⟨⟨_, _, rfl⟩, drewN' (Below.refl _ _) _⟩
  · rw [if_neg h] at hI
    have HI := Lib.hid hI; clear hI
    have e : s.extract 0 (ixS s) = s := by
      have : ixS s = s.size := by unfold ixS at *; omega
      rw [this]; simp
    rw [e]
    go_enter Tryz.func28, Tryz.ntmps28
    go_wp2_with (go_at_call 47; refine HI.out.mono ?_; rintro e w1 ⟨rfl, rfl⟩)
    go_ret3
    exact ⟨⟨_, _, rfl⟩, Below.refl _ _⟩

set_option maxRecDepth 100000 in
theorem cut_any (s : ByteArray) (hs : s.size ≤ 140737488355328) (w : World) :
    Calls Tryz.prog 15 #[.string s, .string ⟨#[92]⟩] w fun e w' => (∃ t b, e = .returned (.tuple #[.string (s.extract 0 (ixS s)), .string t, .bool b])) ∧ Below w.heap.size w w' := by
  have HC := Lib.hid (lcut_any s hs w)
  go_enter Tryz.func15, Tryz.ntmps15
  go_wp2_with (go_at_call 28; refine HC.out.mono ?_; rintro e w1 ⟨⟨t, b, rfl⟩, hb⟩)
  go_ret3
  exact ⟨⟨_, _, rfl⟩, hb⟩

theorem ixL_at (l : List UInt8) (k : Nat) (h : k ≤ ixL l) (hk : k < l.length) : (l[k] = 92 ↔ k = ixL l) := by
  unfold ixL at *
  constructor
  · intro e
    rcases Nat.lt_or_ge k (l.findIdx (· == 92)) with h1 | h1
    · have := List.not_of_lt_findIdx h1
      simp [e] at this
    · omega
  · intro e
    have h2 : l.findIdx (· == 92) < l.length := by omega
    have := List.findIdx_getElem (w := h2)
    subst e
    simpa using this

set_option maxRecDepth 100000 in
set_option maxHeartbeats 1000000 in
theorem split_any (s : ByteArray) (hs : s.size ≤ 140737488355328) (w : World) :
    Calls Tryz.prog 17 #[.string s] w fun e w' => e = .returned (.tuple #[.string (s.extract 0 (ixS s)), .string (s.extract (ixS s) s.size)]) ∧ Below w.heap.size w w' := by
  have hl := Lib.size_eq s
  have hle := ixS_le s
  have HA : Hid (∀ k (h : k < s.size), k ≤ ixS s → (s[k] = 92 ↔ k = ixS s)) := fun k h h1 => by
    have := ixL_at s.data.toList k h1 (by omega)
    rw [Array.getElem_toList] at this
    exact this
  clear hl
  generalize ixS s = i at *
  go_enter Tryz.func17, Tryz.ntmps17
  go_wp2_with fail
  go_loopw [4] (fun x wx => ∃ k : Nat, k ≤ i ∧ x = .int .i64 k ∧ w = wx) (fun x _ => s.size - (intOf x).toNat)
  case atStart => exact ⟨0, Nat.zero_le _, rfl, rfl⟩
  case round =>
    obtain ⟨k, hk, rfl, rfl⟩ := hrel
    by_cases hlt : k < s.size
    · have hx := HA.out k hlt hk
      by_cases he : k = i
      · have hb : (((s[k]).toNat : Int) == 92) = true := by rw [hx.2 he]; rfl
        subst he
        clear hx
        go_wp2_with fail
        go_quiet (fail)
        go_wp2_with fail
        go_ret2
        exact ⟨rfl, drewN' (Below.refl _ _) _⟩
      · have hb : (((s[k]).toNat : Int) == 92) = false := by
          cases h : (((s[k]).toNat : Int) == 92) with
          | false => rfl
          | true => exact absurd (hx.1 (by have := eq_of_beq h; exact UInt8.toNat_inj.1 (by rw [show (92 : UInt8).toNat = 92 from rfl]; omega))) he
        clear hx
        go_wp2_with fail
        go_roundw
        case rel => exact ⟨k + 1, by omega, by go_num, by first | rfl | trivial⟩
        case measure => simp [intOf] <;> omega
    · obtain rfl : k = s.size := by omega
      obtain rfl : s.size = i := by omega
      go_wp2_with fail
      go_ret2
      exact ⟨by simp; rfl, Below.refl _ _⟩
end Go.Proofs.YtcmehaoicilejaaGreatDoor
