/- strs.bin2hex: the walk. -/
import Derived.Test.YtgjnmfjiolpikaaGreatDoorSbE
import Derived.Test.YtgjnmfjiolpikaaGreatDoorWords
import Derived.Lib.BufferOld
import Derived.Deep.QuietTactic
import Derived.BigQuiet
namespace Go.Proofs.YtgjnmfjiolpikaaGreatDoor
open Go Go.RowKit
set_option maxRecDepth 100000
namespace Sb
def hexC (c : UInt8) : List UInt8 := [UInt8.ofNat (digN (c.toNat / 16)), UInt8.ofNat (digN (c.toNat % 16))]
def hexAll (l : List UInt8) : List UInt8 := l.flatMap hexC
theorem hexAll_len : ∀ l : List UInt8, (hexAll l).length = 2 * l.length
  | [] => rfl
  | c :: l => by
    have e : hexAll (c :: l) = hexC c ++ hexAll l := rfl
    rw [e, List.length_append, hexAll_len l]
    simp [hexC]
    omega
theorem hexAll_take (s : ByteArray) (j : Nat) (h : j < s.size) : hexAll (s.data.toList.take (j + 1)) = hexAll (s.data.toList.take j) ++ hexC s[j] := by
  have hj : j < s.data.toList.length := by simpa using h
  unfold hexAll
  rw [List.take_succ_eq_append_getElem hj, List.flatMap_append]
  simp
  rfl
def padB (c : UInt8) : ByteArray := ⟨(Lib.repeatL [48] (2 - (hexN c.toNat).length)).toArray⟩
theorem pad_hex (c : UInt8) : (padB c ++ Go.Ev.mkS (hexN c.toNat)).data.toList = hexC c ∧ (Go.Ev.mkS (hexN c.toNat)).size = (hexN c.toNat).length ∧ (padB c).size + (Go.Ev.mkS (hexN c.toNat)).size = 2 ∧ (hexN c.toNat).length ≤ 2 ∧ 1 ≤ (hexN c.toNat).length := by
  have hs : (Go.Ev.mkS (hexN c.toNat)).size = (hexN c.toNat).length := by simp [Go.Ev.mkS, ByteArray.size]
  have hc := c.toNat_lt
  by_cases h : c.toNat < 16
  · have e : hexN c.toNat = [digN c.toNat] := by unfold hexN; rw [if_pos h]
    have e1 : c.toNat / 16 = 0 := by omega
    have e2 : c.toNat % 16 = c.toNat := by omega
    refine ⟨?_, hs, ?_, ?_, ?_⟩
    · unfold padB hexC
      rw [e, e1, e2]
      rfl
    · rw [hs]
      unfold padB
      rw [e]
      rfl
    · rw [e]; simp
    · rw [e]; simp
  · have e : hexN c.toNat = [digN (c.toNat / 16), digN (c.toNat % 16)] := by unfold hexN; rw [if_neg h]
    refine ⟨?_, hs, ?_, ?_, ?_⟩
    · unfold padB hexC
      rw [e]
      rfl
    · rw [hs]
      unfold padB
      rw [e]
      rfl
    · rw [e]; simp
    · rw [e]; simp
set_option maxHeartbeats 4000000 in
theorem bin2hex_any (s : ByteArray) (hs : s.size ≤ 65536) (m : Int) (w : World) (hL : LibA m w) : Calls Tryz.prog 54 #[.string s] w fun e w' => e = .returned (.string ⟨(hexAll s.data.toList).toArray⟩) ∧ Below w.heap.size w w' := by
  have HI0 : Hid (Lib.IsBuffer 86 5 w.heap.size w.heap.size (Lib.byteCells (hexAll (s.data.toList.take 0))) (w.alloc (.cells #[.slice none 0 0, .int .i64 0, .int .i8 0] 86))) := Lib.fresh_isBuffer 86 5 w
  have HB0 := Lib.hid ((Below.refl w.heap.size w).alloc (Nat.le_refl _) (.cells #[.slice none 0 0, .int .i64 0, .int .i8 0] 86))
  have HX := Lib.hid (fun (c : UInt8) wz (hb : Below w.heap.size w wz) => hex_any c.toNat c.toNat_lt m wz (hL.below hb))
  have HFin : Hid (s.data.toList.take s.size = s.data.toList) := by
    show _ = _
    have e : s.size = s.data.toList.length := by simp
    rw [e, List.take_length]
  clear hL
  go_enter Tryz.func54, Tryz.ntmps54
  go_wp2_with fail
  go_loopw [8] (fun xi wx => ∃ (j : Nat), j ≤ s.size ∧ xi = .int .i64 j ∧ Hid (Lib.IsBuffer 86 5 w.heap.size w.heap.size (Lib.byteCells (hexAll (s.data.toList.take j))) wx) ∧ Hid (Below w.heap.size w wx)) (fun xi _ => s.size - (match xi with | .int _ q => q | _ => 0).toNat)
  case atStart => exact ⟨0, Nat.zero_le _, rfl, HI0, HB0⟩
  case round =>
    obtain ⟨j, hj, rfl, HI, HB⟩ := hrel
    clear HB0 HI0
    by_cases hlt : j < s.size
    · have hlt' : (j : Int) < (s.size : Int) := by omega
      have HE := Lib.hid (hexAll_take s j hlt)
      obtain ⟨p1, p2, p3, p4, p5⟩ := pad_hex s[j]
      have hlen : (Lib.byteCells (hexAll (s.data.toList.take j))).length + (padB s[j] ++ Go.Ev.mkS (hexN s[j].toNat)).size ≤ 140737488355328 := by
        rw [Lib.byteCells_length, hexAll_len, ByteArray.size_append]
        have h2 : (s.data.toList.take j).length ≤ j := by rw [List.length_take]; exact Nat.min_le_left _ _
        omega
      have HLn := Lib.hid hlen
      have HP1 := Lib.hid p1
      have HXj := Lib.hid (HX.out s[j])
      have hw2 : IntKind.i64.wrap (2 - ((Go.Ev.mkS (hexN s[j].toNat)).size : Int)) = 2 - ((Go.Ev.mkS (hexN s[j].toNat)).size : Int) := IntWalk.i64_in _ (by omega)
      have HRp : Hid (∀ wz : World, Calls Tryz.prog 87 #[.string ⟨#[48]⟩, .int .i64 (2 - ((Go.Ev.mkS (hexN s[j].toNat)).size : Int))] wz fun e w' => e = .returned (.string (padB s[j])) ∧ Below wz.heap.size wz w') := fun wz => by
        have h := Tryz.strings_Repeat ⟨#[48]⟩ (2 - (hexN s[j].toNat).length) wz (by omega) (by show 1 * _ ≤ _; omega)
        have e : ((2 - (hexN s[j].toNat).length : Nat) : Int) = 2 - ((Go.Ev.mkS (hexN s[j].toNat)).size : Int) := by omega
        rw [e] at h
        exact h
      have hcw : wrap64 (s[j].toNat : Int) = (s[j].toNat : Int) := by have := s[j].toNat_lt; unfold wrap64; omega
      have hsz : ¬ 9223372036854775807 < (padB s[j]).size + (Go.Ev.mkS (hexN s[j].toNat)).size := by omega
      clear p1 p2 p3 p4 p5 hlen HX
      generalize padB s[j] = PB at *
      generalize Go.Ev.mkS (hexN s[j].toNat) = HB2 at *
      go_wp2_with (first
        | (go_at_call 70; refine (HXj.out _ HB.out).mono ?_; rintro e w2 ⟨rfl, hb2⟩; have HIn := Lib.hid (HI.out.old hb2); have HBn := Lib.hid (HB.out.trans (hb2.mono HB.out.size)); clear HI HB hb2; have HI := HIn; have HB := HBn; clear HIn HBn)
        | (go_at_call 87; refine (HRp.out _).mono ?_; rintro e w3 ⟨rfl, hb3⟩; have HIn := Lib.hid (HI.out.old hb3); have HBn := Lib.hid (HB.out.trans (hb3.mono HB.out.size)); clear HI HB hb3; have HI := HIn; have HB := HBn; clear HIn HBn)
        | (go_at_call 95; refine (Tryz.Buffer_WriteString w.heap.size w.heap.size _ (PB ++ HB2) _ HI.out HB.out.size (Lib.byteCells_one _) HLn.out).mono ?_; rintro e w4 ⟨rfl, hi4, hb4⟩; have HI4 := Lib.hid hi4; have HB4 := Lib.hid (HB.out.trans hb4); clear hi4 hb4))
      have HI5 : Hid (Lib.IsBuffer 86 5 w.heap.size w.heap.size (Lib.byteCells (hexAll (s.data.toList.take (j + 1)))) w4) := by
        show Lib.IsBuffer _ _ _ _ _ _
        rw [HE.out, Lib.byteCells_append, ← HP1.out]
        exact HI4.out
      clear HI4 HE HP1
      go_roundw
      case rel => exact ⟨j + 1, by omega, by go_num, HI5, HB4⟩
      case measure => simp <;> omega
    · obtain rfl : j = s.size := by omega
      have HI2 := HI
      rw [HFin.out] at HI2
      go_wp2_with (go_at_call 96; refine (Tryz.Buffer_String w.heap.size w.heap.size _ _ HI2.out).mono ?_; rintro e w5 ⟨rfl, n5, rfl⟩)
      go_ret
      exact ⟨rfl, ⟨HB.out.os, HB.out.tape, HB.out.output, HB.out.size, HB.out.block⟩⟩
end Sb
end Go.Proofs.YtgjnmfjiolpikaaGreatDoor
