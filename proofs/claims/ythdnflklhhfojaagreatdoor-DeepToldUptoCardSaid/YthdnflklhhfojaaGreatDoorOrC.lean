/- conv.split: the walk. -/
import Derived.Test.YthdnflklhhfojaaGreatDoorOrB
import Derived.Test.YthdnflklhhfojaaGreatDoorShP
import Derived.Laws.RangeAny
import Derived.Shelf.Strings.SlTrimAscii
import Derived.Deep.CutBlock
import Derived.Deep.CutRange
import Derived.Deep.DeepCutAuto
import Derived.Laws.DeepStrings4
import Derived.WalkKit
import Derived.BigQuiet
namespace Go.Proofs.YthdnflklhhfojaaGreatDoor
open Go Go.RowKit
namespace Dp
open Go.Proofs.YthdnflklhhfojaaGreatDoor.Nm (skipB skipD signB digitB blankB signed1 headD minusB)
def blanks : ByteArray := ⟨#[32, 9, 10, 11, 12, 13]⟩
theorem blank_fin : ∀ c : Fin 256, blanks.data.toList.contains (UInt8.ofNat c.val) = blankB (UInt8.ofNat c.val) := by decide +kernel
theorem trim_skip (l : List UInt8) : Lib.trimLeftS l blanks.data.toList = skipB l := by
  unfold Lib.trimLeftS skipB
  congr 1
  funext c
  have := blank_fin ⟨c.toNat, c.toNat_lt⟩
  simp only [UInt8.ofNat_toNat] at this
  exact this
theorem trim_any (s : ByteArray) (w : World) : Calls Tryz.prog 179 #[.string s, .string blanks] w fun e w' => e = .returned (.string ⟨(skipB s.data.toList).toArray⟩) ∧ Below w.heap.size w w' := by
  have h := Any.strings_TrimLeft_laid Tryz.lays161 (by kernel_rfl) s blanks w (by decide) (ascii_of_all (by decide))
  rw [trim_skip] at h
  exact h
/-- How long a sign and digits lead a text. -/
def pre (l : List UInt8) : Nat := match l with
  | [] => 0
  | c :: r => if signB c || digitB c then 1 + (r.takeWhile digitB).length else 0
def splitV (l : List UInt8) : Value := if headD (signed1 l) then .tuple #[.string ⟨(l.take (pre l)).toArray⟩, .string ⟨(skipB (l.drop (pre l))).toArray⟩, .bool true] else .tuple #[.string ⟨#[]⟩, .string ⟨#[]⟩, .bool false]
theorem pre_cons (c : UInt8) (r : List UInt8) : pre (c :: r) = if (signB c || digitB c) = true then 1 + (r.takeWhile digitB).length else 0 := rfl
theorem pre_le (l : List UInt8) : pre l ≤ l.length := by
  cases l with
  | nil => exact Nat.le_refl _
  | cons c r =>
    rw [pre_cons]
    have := (List.takeWhile_prefix (p := digitB) (l := r)).length_le
    split
    · simp only [List.length_cons]; omega
    · omega
/-- The scan has come to j. -/
def Scan (l : List UInt8) (j : Nat) : Prop := j = 0 ∨ (0 < j ∧ j + ((l.drop j).takeWhile digitB).length = pre l)
theorem Scan.stop {l : List UInt8} {j : Nat} (h : Scan l j) (hj : 0 < j) (hs : ∀ c, l[j]? = some c → digitB c = false) : pre l = j := by
  rcases h with h | ⟨_, h⟩
  · omega
  · rw [← h]
    cases e : l.drop j with
    | nil => simp
    | cons c r =>
      have hc : l[j]? = some c := by
        have h0 : (l.drop j)[0]? = some c := by rw [e]; rfl
        rw [List.getElem?_drop] at h0
        simpa using h0
      rw [List.takeWhile_cons, hs c hc]
      simp
theorem Scan.stop0 {l : List UInt8} (hs : ∀ c, l[0]? = some c → (signB c || digitB c) = false) : pre l = 0 := by
  cases l with
  | nil => rfl
  | cons c r =>
    rw [pre_cons, hs c rfl]
    rfl
theorem drop_c {l : List UInt8} {j : Nat} {c : UInt8} (hc : l[j]? = some c) : l.drop j = c :: l.drop (j + 1) := by
  obtain ⟨hj, rfl⟩ := List.getElem?_eq_some_iff.1 hc
  exact List.drop_eq_getElem_cons hj
theorem Scan.digit {l : List UInt8} {j : Nat} {c : UInt8} (h : Scan l j) (hc : l[j]? = some c) (hd : digitB c = true) : Scan l (j + 1) := by
  refine .inr ⟨by omega, ?_⟩
  rcases h with rfl | ⟨_, h⟩
  · have e := drop_c hc
    rw [List.drop_zero] at e
    rw [e, pre_cons]
    simp [hd]
  · rw [← h, drop_c hc, List.takeWhile_cons, hd]
    simp only [if_true, List.length_cons]
    omega
theorem Scan.sign {l : List UInt8} {c : UInt8} (hc : l[0]? = some c) (hd : signB c = true) : Scan l 1 := by
  refine .inr ⟨by omega, ?_⟩
  have e := drop_c hc
  rw [List.drop_zero] at e
  rw [e, pre_cons]
  simp [hd]
end Dp
end Go.Proofs.YthdnflklhhfojaaGreatDoor
