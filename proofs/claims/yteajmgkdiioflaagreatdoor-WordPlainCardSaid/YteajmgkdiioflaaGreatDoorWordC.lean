/- Keywords: the program and its reference tell them alike. -/
import Derived.Test.YteajmgkdiioflaaGreatDoorWordB
import Derived.Lib.IndexMore
import Derived.Lib.IndexLaws
namespace Go.Proofs.YteajmgkdiioflaaGreatDoor
open Go.RowKit

def keysL : Bytes := [32, 97, 98, 115, 116, 114, 97, 99, 116, 32, 97, 110, 100, 32, 97, 115, 32, 98, 114, 101, 97, 107, 32, 99, 97, 115, 101, 32, 99, 97, 116, 99, 104, 32, 99, 108, 97, 115, 115, 32, 99, 108, 111, 110, 101, 32, 99, 111, 110, 115, 116, 32, 99, 111, 110, 116, 105, 110, 117, 101, 32, 100, 101, 102, 97, 117, 108, 116, 32, 100, 111, 32, 101, 99, 104, 111, 32, 101, 108, 115, 101, 32, 101, 108, 115, 101, 105, 102, 32, 101, 109, 112, 116, 121, 32, 101, 120, 105, 116, 32, 101, 120, 116, 101, 110, 100, 115, 32, 102, 105, 110, 97, 108, 32, 102, 105, 110, 97, 108, 108, 121, 32, 102, 110, 32, 102, 111, 114, 32, 102, 111, 114, 101, 97, 99, 104, 32, 102, 117, 110, 99, 116, 105, 111, 110, 32, 103, 108, 111, 98, 97, 108, 32, 105, 102, 32, 105, 109, 112, 108, 101, 109, 101, 110, 116, 115, 32, 105, 110, 99, 108, 117, 100, 101, 32, 105, 110, 99, 108, 117, 100, 101, 95, 111, 110, 99, 101, 32, 105, 110, 115, 116, 97, 110, 99, 101, 111, 102, 32, 105, 110, 115, 116, 101, 97, 100, 111, 102, 32, 105, 110, 116, 101, 114, 102, 97, 99, 101, 32, 105, 115, 115, 101, 116, 32, 110, 97, 109, 101, 115, 112, 97, 99, 101, 32, 110, 101, 119, 32, 111, 114, 32, 112, 117, 98, 108, 105, 99, 32, 114, 101, 113, 117, 105, 114, 101, 32, 114, 101, 113, 117, 105, 114, 101, 95, 111, 110, 99, 101, 32, 114, 101, 116, 117, 114, 110, 32, 115, 116, 97, 116, 105, 99, 32, 115, 119, 105, 116, 99, 104, 32, 116, 104, 114, 111, 119, 32, 116, 114, 97, 105, 116, 32, 116, 114, 121, 32, 117, 110, 115, 101, 116, 32, 117, 115, 101, 32, 119, 104, 105, 108, 101, 32]
def keyL (l : Bytes) : Bool := if l = [] then false else if wordN l = l.length then Lib.contains keysL (32 :: (l.map lowB ++ [32])) else false

theorem wordT_all : ∀ (l : Bytes), wordT l = l.length → ∀ b ∈ l, letterB b = true ∨ digitB b = true
  | [], _, b, h => by simp at h
  | c :: r, h, b, hb => by
    rw [wordT] at h
    split at h
    · rename_i hc
      rcases List.mem_cons.1 hb with rfl | hb
      · simpa using hc
      · exact wordT_all r (by simpa using h) b hb
    · simp at h
theorem wordN_all (l : Bytes) (h : wordN l = l.length) : ∀ b ∈ l, b.toNat < 128 := by
  intro b hb
  have key : letterB b = true ∨ digitB b = true := by
    cases l with
    | nil => simp at hb
    | cons c r =>
      rw [wordN] at h
      split at h
      · rename_i hc
        rcases List.mem_cons.1 hb with rfl | hb
        · exact .inl hc
        · exact wordT_all r (by simpa using h) b hb
      · simp at h
  rcases key with h | h
  · exact letter_low b h
  · exact digit_low b h
theorem letter_lowB (c : UInt8) : letterB (lowB c) = letterB c ∧ digitB (lowB c) = digitB c := by
  have key : ∀ c : Fin 256, letterB (lowB (UInt8.ofNat c.val)) = letterB (UInt8.ofNat c.val) ∧ digitB (lowB (UInt8.ofNat c.val)) = digitB (UInt8.ofNat c.val) := by decide +kernel
  have := key ⟨c.toNat, c.toNat_lt⟩
  simpa using this
theorem wordT_low : ∀ l : Bytes, wordT (l.map lowB) = wordT l
  | [] => rfl
  | c :: r => by rw [List.map_cons, wordT, wordT, (letter_lowB c).1, (letter_lowB c).2, wordT_low r]
theorem wordN_low (l : Bytes) : wordN (l.map lowB) = wordN l := by
  cases l with
  | nil => rfl
  | cons c r => rw [List.map_cons, wordN, wordN, (letter_lowB c).1, wordT_low r]
theorem lowB_idem (c : UInt8) : lowB (lowB c) = lowB c := by
  have key : ∀ c : Fin 256, lowB (lowB (UInt8.ofNat c.val)) = lowB (UInt8.ofNat c.val) := by decide +kernel
  have := key ⟨c.toNat, c.toNat_lt⟩
  simpa using this

/-- What the laws of this seat ask of the world. -/
structure LibW (m : Int) (w : World) : Prop where
  tabs : Lib.Utf8Tabs 4 5 w
  max : w.cell? ⟨0, 0, none⟩ = some (.int .i64 m)
theorem LibW.lt {m : Int} {w : World} (h : LibW m w) : 0 < w.heap.size := World.block_lt_of_cell? w _ h.max
theorem LibW.below {m : Int} {w w' : World} (h : LibW m w) (hb : Below w.heap.size w w') : LibW m w' :=
  ⟨Utf8Tabs_below h.tabs hb, (hb.cell (p := ⟨0, 0, none⟩) h.lt).trans h.max⟩

set_option maxRecDepth 100000 in
set_option maxHeartbeats 2000000 in
theorem key_any (s : ByteArray) (hs : s.size < 35184372088832) (m : Int) (w : World) (hL : LibW m w) :
    Calls Tryz.prog 10 #[.string s] w fun e w' => e = .returned (.bool (keyL s.data.toList)) ∧ Below w.heap.size w w' := by
  have HN := Lib.hid (fun w => length_any s (by omega) w)
  have hsl := Lib.size_eq s
  cases hz : (s.toList == ([] : List UInt8)) with
  | true =>
    have hk : keyL s.data.toList = false := by
      unfold keyL
      rw [ByteArray.toList_eq] at hz
      rw [if_pos (by simpa using hz)]
    have Hk := Lib.hid hk
    clear hk hsl
    go_enter Tryz.func10, Tryz.ntmps10
    go_wp2_with fail
    go_ret
    exact ⟨by rw [Hk.out]; rfl, Below.refl _ _⟩
  | false =>
    have hne : s.data.toList ≠ [] := by
      rw [ByteArray.toList_eq] at hz
      simpa using hz
    by_cases hn : wordN s.data.toList = s.size
    · have hk : keyL s.data.toList = Lib.contains keysL (32 :: (s.data.toList.map lowB ++ [32])) := by
        unfold keyL
        rw [if_neg hne, if_pos (by omega)]
      have HW := Lib.hid (fun w hT => lower_any s hs (wordN_all _ (by omega)) w hT)
      have HC := Lib.hid (fun (k sub : ByteArray) w => Tryz.strings_Contains k sub m w)
      have HL := Lib.hid hL
      have hls : (⟨(s.data.toList.map lowB).toArray⟩ : ByteArray).size = s.size := by
        rw [Lib.size_eq]; simp
      have Hk := Lib.hid hk
      rw [hn] at HN
      have hcon : (32 :: (s.data.toList.map lowB ++ [32]) : Bytes) = (⟨#[32]⟩ ++ (⟨(s.data.toList.map lowB).toArray⟩ : ByteArray) ++ ⟨#[32]⟩ : ByteArray).data.toList := by simp
      have Hcon := Lib.hid hcon
      clear hk hL hcon hne hn hsl
      generalize hgl : (⟨(s.data.toList.map lowB).toArray⟩ : ByteArray) = L at HW hls Hcon
      clear hgl
      go_enter Tryz.func10, Tryz.ntmps10
      go_wp2_with (first
        | (go_at_call 19; refine (HN.out _).mono ?_; rintro e w1 ⟨rfl, hb1⟩; have HB1 := Lib.hid hb1; clear hb1)
        | (go_at_call 21; refine (HW.out _ (HL.out.below HB1.out).tabs).mono ?_; rintro e w2 ⟨rfl, hb2⟩; have HB2 := Lib.hid (HB1.out.trans (hb2.mono HB1.out.size)); clear hb2)
        | (go_at_call 20; refine (HC.out _ _ _ (by decide) (HL.out.below HB2.out).max).mono ?_; rintro e w3 ⟨rfl, rfl⟩))
      go_ret
      refine ⟨?_, HB2.out⟩
      rw [Hk.out, Hcon.out]
      rfl
    · have hk : keyL s.data.toList = false := by
        unfold keyL
        rw [if_neg hne, if_neg (by omega)]
      have Hk := Lib.hid hk
      have hle := wordN_le s.data.toList
      have hnI : ((wordN s.data.toList : Int) == (s.size : Int)) = false := by simp; omega
      clear hk hne hn hsl hle
      generalize (wordN s.data.toList : Int) = n at *
      go_enter Tryz.func10, Tryz.ntmps10
      go_wp2_with (go_at_call 19; refine (HN.out _).mono ?_; rintro e w1 ⟨rfl, hb1⟩; have HB1 := Lib.hid hb1; clear hb1)
      go_ret
      exact ⟨by rw [Hk.out]; rfl, HB1.out⟩
end Go.Proofs.YteajmgkdiioflaaGreatDoor
