/- raw: the reader's line, heads and body: plain laws on what the library answers. -/
import Derived.Test.YtnbhaokbaonjkaaGreatDoorRwM
import Derived.Test.YtnbhaokbaonjkaaGreatDoorShM
import Derived.Shelf.Strings.SlTrimAscii
import Derived.Lib.ItoaNum
namespace Go.Proofs.YtnbhaokbaonjkaaGreatDoor
open Go.RowKit
namespace Rw
theorem pre_one (c b : UInt8) (l : Bytes) : [c].isPrefixOf (b :: l) = (c == b) := by
  rw [List.isPrefixOf, List.isPrefixOf, Bool.and_true]
theorem index_cons (c b : UInt8) (l : Bytes) : Lib.index (b :: l) [c] = if c = b then 0 else if Lib.index l [c] = -1 then -1 else Lib.index l [c] + 1 := by
  rw [Lib.index, pre_one]
  by_cases h : c = b
  · subst h; simp
  · simp [h]
theorem cut_q : ∀ l : Bytes, (Lib.cut l [63]).1 = (cutQ l).1 ∧ (Lib.cut l [63]).2.1 = (cutQ l).2
  | [] => by decide
  | b :: l => by
    obtain ⟨h1, h2⟩ := cut_q l
    have hge := Lib.index_ge l [63]
    have hi := index_cons 63 b l
    unfold Lib.cut at h1 h2 ⊢
    rw [cutQ]
    by_cases h : b = 63
    · subst h
      rw [if_pos rfl] at hi
      rw [hi, if_pos rfl]
      simp
    · rw [if_neg (fun e => h e.symm)] at hi
      rw [if_neg h]
      by_cases hn : Lib.index l [63] = -1
      · rw [if_pos hn] at hi
        rw [hn] at h1 h2
        rw [hi]
        simp only [show ¬ (0 ≤ (-1 : Int)) by decide, if_false] at h1 h2 ⊢
        exact ⟨by rw [← h1], h2⟩
      · rw [if_neg hn] at hi
        have hp : 0 ≤ Lib.index l [63] := by omega
        have hp2 : 0 ≤ Lib.index l [63] + 1 := by omega
        rw [if_pos hp] at h1 h2
        rw [hi, if_pos hp2]
        have e : (Lib.index l [63] + 1).toNat = (Lib.index l [63]).toNat + 1 := by omega
        rw [e]
        refine ⟨by rw [← h1]; simp, ?_⟩
        rw [← h2]
        simp only [List.length_cons, List.length_nil]
        rw [show (Lib.index l [63]).toNat + 1 + (0 + 1) = ((Lib.index l [63]).toNat + (0 + 1)) + 1 by omega, List.drop_succ_cons]
theorem trim_snoc (l : Bytes) (c : UInt8) : Lib.trimRightS (l ++ [c]) [32, 9] = if blankB c = true then Lib.trimRightS l [32, 9] else l ++ [c] := by
  have hb : ([32, 9] : Bytes).contains c = blankB c := by
    unfold blankB
    rw [Bool.eq_iff_iff]
    simp [← UInt8.toNat_inj]
  unfold Lib.trimRightS
  rw [List.reverse_append, List.reverse_singleton, List.singleton_append, List.dropWhile_cons, hb]
  by_cases h : blankB c = true
  · rw [if_pos h, if_pos h]
  · rw [if_neg h, if_neg h]
    simp
theorem trim_r (l : Bytes) : Lib.trimRightS l [32, 9] = trimR l := by
  suffices h : ∀ n (l : Bytes), l.length = n → Lib.trimRightS l [32, 9] = trimR l from h _ l rfl
  intro n
  induction n with
  | zero => intro l hl; rw [List.length_eq_zero_iff.1 hl]; rfl
  | succ n ih =>
    intro l hl
    have hne : l ≠ [] := by intro e; subst e; simp at hl
    have e := (List.dropLast_concat_getLast hne).symm
    generalize l.getLast hne = c at e
    generalize l.dropLast = r at e
    subst e
    rw [trim_snoc, trimR_snoc, ih r (by simpa using hl)]
theorem prefix_at (L : Bytes) (a : Nat) : Lib.hasPrefix (L.drop a) [13] = decide (L[a]? = some 13) := by
  unfold Lib.hasPrefix
  by_cases h : a < L.length
  · rw [List.drop_eq_getElem_cons h, pre_one, List.getElem?_eq_getElem h]
    by_cases e : L[a] = 13
    · rw [e]; rfl
    · rw [decide_eq_false (by simpa using e)]
      exact beq_eq_false_iff_ne.2 (fun h => e h.symm)
  · rw [List.drop_eq_nil_of_le (by omega), List.getElem?_eq_none (by omega)]
    rfl
theorem piece_end (s : ByteArray) (a : Nat) : piece s.data.toList a s.size = s.data.toList.drop a := by
  unfold piece
  rw [List.take_of_length_le (by rw [List.length_drop, Lib.size_eq]; exact Nat.le_refl _)]
theorem bytes_list (l : Bytes) : (bytes l).data.toList = l := by simp [bytes]
theorem bytes_size (l : Bytes) : (bytes l).size = l.length := by simp [bytes, ByteArray.size]
/-- The calls of the library, in these words. -/
theorem cutL_any (l : Bytes) (m : Int) (hl : l.length ≤ 1000000) (w : World) (hm : w.cell? ⟨0, 0, none⟩ = some (.int .i64 m)) :
    Calls Tryz.prog 66 #[.string (bytes l), .string ⟨#[63]⟩] w fun e w' => (∃ b, e = .returned (.tuple #[.string (bytes (cutQ l).1), .string (bytes (cutQ l).2), .bool b])) ∧ ∃ n, w' = w.drewN n := by
  have h := Tryz.strings_Cut (bytes l) ⟨#[63]⟩ m w (by rw [bytes_size]; omega) hm
  rw [bytes_list] at h
  have e1 : (⟨#[63]⟩ : ByteArray).data.toList = [63] := rfl
  rw [e1, (cut_q l).1, (cut_q l).2] at h
  exact h.mono fun e w' ⟨h1, h2⟩ => ⟨⟨_, h1⟩, h2⟩
theorem trimL_any (l : Bytes) (hl : l.length ≤ 1000000) (w : World) :
    Calls Tryz.prog 69 #[.string (bytes l), .string ⟨#[32, 9]⟩] w fun e w' => e = .returned (.string (bytes (trimR l))) ∧ Below w.heap.size w w' := by
  have h := Any.strings_TrimRight_laid Tryz.lays162 (by kernel_rfl) (bytes l) ⟨#[32, 9]⟩ w (by rw [bytes_size]; omega) (by decide) (ascii_of_all (by decide))
  rw [bytes_list] at h
  have e1 : (⟨#[32, 9]⟩ : ByteArray).data.toList = [32, 9] := rfl
  rw [e1, trim_r] at h
  exact h
theorem preL_any (l : Bytes) (a : Nat) (w : World) :
    Calls Tryz.prog 57 #[.string (bytes (l.drop a)), .string ⟨#[13]⟩] w fun e w' => e = .returned (.bool (decide (l[a]? = some 13))) ∧ w' = w := by
  have h := Tryz.strings_HasPrefix (bytes (l.drop a)) ⟨#[13]⟩ w
  rw [bytes_list] at h
  have e1 : (⟨#[13]⟩ : ByteArray).data.toList = [13] := rfl
  rw [e1, prefix_at] at h
  exact h
theorem kind_capital : Kind 62 upB := ⟨enters_of Tryz.func62 (by kernel_rfl) rfl, fun c w => capital_any _ rfl c w⟩
theorem kind_named : Kind 67 namedB := ⟨enters_of Tryz.func67 (by kernel_rfl) rfl, fun c w => named_any _ rfl c w⟩
theorem kind_blank : Kind 68 blankB := ⟨enters_of Tryz.func68 (by kernel_rfl) rfl, fun c w => blank_any _ rfl c w⟩
theorem kind_valued : Kind 70 valuedB := ⟨enters_of Tryz.func70 (by kernel_rfl) rfl, fun c w => valued_any _ rfl c w⟩
theorem kind_shown : Kind 65 shownB := ⟨enters_of Tryz.func65 (by kernel_rfl) rfl, fun c w => shown_any _ rfl c w⟩
end Rw
end Go.Proofs.YtnbhaokbaonjkaaGreatDoor
