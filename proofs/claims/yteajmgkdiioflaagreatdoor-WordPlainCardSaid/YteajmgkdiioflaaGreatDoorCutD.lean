/- The walk of cut.tag. -/
import Derived.Test.YteajmgkdiioflaaGreatDoorCutC
namespace Go.Proofs.YteajmgkdiioflaaGreatDoor
open Go.RowKit

theorem hasPrefix_any (s p : ByteArray) (w : World) : Calls Tryz.prog 37 #[.string s, .string p] w fun e w' => e = .returned (.bool (Lib.hasPrefix s.data.toList p.data.toList)) ∧ w = w' := callsSym (Tryz.strings_HasPrefix s p w)
theorem head2 (s : ByteArray) (h : 2 ≤ s.size) : ((s.extract 0 2).toList == [60, 63]) = Lib.hasPrefix s.data.toList [60, 63] := by
  have := Lib.hasPrefix_raw s ⟨#[60, 63]⟩
  rw [decide_eq_true (by exact h), Bool.true_and] at this
  rw [← this, show (⟨#[60, 63]⟩ : ByteArray).toList = [60, 63] from Lib.toList_data _]
  rfl
theorem blank_index (c : UInt8) : decide (0 ≤ Lib.indexByte [32, 9, 10, 13] c) = blankB c := by
  have := lift8 (p := fun c => decide (0 ≤ Lib.indexByte [32, 9, 10, 13] c) == blankB c) (by decide +kernel) c
  simpa using this
theorem drop5 (s : ByteArray) : (s.extract 5 s.size).data.toList = s.data.toList.drop 5 := Lib.extract_to_end s 5
theorem mid3 (s : ByteArray) : (s.extract 2 5).data.toList = (s.data.toList.drop 2).take 3 := by rw [Lib.extract_data]

theorem indexByte_any (s : ByteArray) (c : UInt8) (w : World) : Calls Tryz.prog 36 #[.string s, .int .u8 (c.toNat : Int)] w fun e w' => e = .returned (.int .i64 (Lib.indexByte s.data.toList c)) ∧ w = w' := by
  have h := callsSym (Tryz.strings_IndexByte s (c.toNat : Int) w)
  rwa [Lib.byte_back] at h
theorem fold_mid (s : ByteArray) (h3 : (s.extract 2 5).size = 3) (w : World) (hF : FoldAt w) :
    Calls Tryz.prog 50 #[.string (s.extract 2 5), .string ⟨#[112, 104, 112]⟩] w fun e w' => e = .returned (.bool (phpB ((s.data.toList.drop 2).take 3))) ∧ Below w.heap.size w w' := by
  rw [← mid3 s]; exact fold_any _ h3 w hF

set_option maxRecDepth 100000 in
set_option maxHeartbeats 2000000 in
theorem tag_any (s : ByteArray) (hs : s.size ≤ maxLen) (w : World) (hF : FoldAt w) :
    Calls Tryz.prog 30 #[.string s] w fun e w' => e = .returned (.tuple #[.int .i64 ((tagN s.data.toList).1 : Nat), .int .i64 ((tagN s.data.toList).2 : Nat)]) ∧ Below w.heap.size w w' := by
  unfold maxLen at hs
  have HF := Lib.hid hF; clear hF
  have hlen := Lib.size_eq s
  cases k1 : Lib.hasPrefix s.data.toList [60, 63, 61] with
  | true =>
    have e : tagN s.data.toList = (3, 3) := by unfold tagN; rw [if_pos k1]
    rw [e]
    clear e hlen
    go_enter Tryz.func30, Tryz.ntmps30
    go_wp2_with (go_at_call 37; refine (hasPrefix_any _ _ _).mono ?_; rintro e w' ⟨rfl, rfl⟩)
    go_ret2
    exact ⟨rfl, Below.refl _ _⟩
  | false =>
    by_cases h5 : s.size < 5
    · have e : tagN s.data.toList = (0, 0) := by
        unfold tagN; rw [if_neg (by rw [k1]; decide), if_neg (by rw [decide_eq_false (by omega)]; simp)]
      rw [e]
      have k2 : decide ((s.size : Int) < 5) = true := by simp; omega
      clear e hlen
      go_enter Tryz.func30, Tryz.ntmps30
      go_wp2_with (go_at_call 37; refine (hasPrefix_any _ _ _).mono ?_; rintro e w' ⟨rfl, rfl⟩)
      go_ret2
      exact ⟨rfl, Below.refl _ _⟩
    · have k2 : decide ((s.size : Int) < 5) = false := by simp; omega
      have h5' : (5 : Int) ≤ (s.size : Int) := by omega
      have hh2 := head2 s (by omega)
      have hl5 : 5 ≤ s.data.toList.length := by omega
      cases k3 : Lib.hasPrefix s.data.toList [60, 63] with
      | false =>
        have e : tagN s.data.toList = (0, 0) := by
          unfold tagN; rw [if_neg (by rw [k1]; decide), if_neg (by rw [k3]; simp)]
        rw [e]
        rw [k3] at hh2
        have k4 : ((s.extract 0 2).toList != [60, 63]) = true := by rw [bne, hh2]; rfl
        clear e hlen hl5 k3
        go_enter Tryz.func30, Tryz.ntmps30
        go_wp2_with (go_at_call 37; refine (hasPrefix_any _ _ _).mono ?_; rintro e w' ⟨rfl, rfl⟩)
        go_ret2
        exact ⟨rfl, Below.refl _ _⟩
      | true =>
        rw [k3] at hh2
        have k4 : ((s.extract 0 2).toList != [60, 63]) = false := by rw [bne, hh2]; rfl
        have h3 : (s.extract 2 5).size = 3 := by rw [ByteArray.size_extract]; omega
        cases k5 : phpB ((s.data.toList.drop 2).take 3) with
        | false =>
          have e : tagN s.data.toList = (0, 0) := by
            unfold tagN; rw [if_neg (by rw [k1]; decide), if_neg (by rw [k5]; simp)]
          rw [e]
          clear e hlen hl5 k3
          go_enter Tryz.func30, Tryz.ntmps30
          go_wp2_with (first | (go_at_call 37; refine (hasPrefix_any _ _ _).mono ?_; rintro e w' ⟨rfl, rfl⟩) | (go_at_call 50; refine (fold_mid s h3 _ HF.out).mono ?_; rintro e w1 ⟨rfl, hb1⟩))
          go_ret2
          exact ⟨rfl, hb1⟩
        | true =>
          have hd5 := drop5 s
          have htag : tagN s.data.toList = match s.data.toList.drop 5 with
              | [] => (2, 5)
              | c :: r => if Lib.hasPrefix (c :: r) [13, 10] then (2, 7) else if blankB c then (2, 6) else (0, 0) := by
            unfold tagN; rw [if_neg (by rw [k1]; decide), if_pos (by rw [k3, decide_eq_true hl5, k5]; rfl)]; rfl
          by_cases hz : s.size = 5
          · have e : tagN s.data.toList = (2, 5) := by rw [htag, List.drop_eq_nil_of_le (by omega)]
            rw [e]
            have k6 : (s.extract 5 s.size).toList.isEmpty = true := by
              rw [Lib.toList_data, hd5, List.drop_eq_nil_of_le (by omega)]; rfl
            clear e htag hd5 hlen hl5 k3
            go_enter Tryz.func30, Tryz.ntmps30
            go_wp2_with (first | (go_at_call 37; refine (hasPrefix_any _ _ _).mono ?_; rintro e w' ⟨rfl, rfl⟩) | (go_at_call 50; refine (fold_mid s h3 _ HF.out).mono ?_; rintro e w1 ⟨rfl, hb1⟩))
            go_ret2
            exact ⟨rfl, hb1⟩
          · have h6 : 5 < s.size := by omega
            have hcons := drop_cons s 5 h6
            have hr0 : ∀ h, (s.extract 5 s.size)[0]'h = s[5] := fun h => by simp [ByteArray.getElem_extract]
            have k6 : (s.extract 5 s.size).toList.isEmpty = false := by
              rw [Lib.toList_data, hd5, hcons]; rfl
            have hn : List.take (s.size - 5) (List.drop 5 s.data.toList) = List.drop 5 s.data.toList := List.take_of_length_le (by rw [List.length_drop]; omega)
            have hsz : 0 < (s.extract 5 s.size).size := by rw [ByteArray.size_extract]; omega
            have hsz' : (0 : Int) < ((s.extract 5 s.size).size : Int) := by omega
            cases k7 : Lib.hasPrefix (s.data.toList.drop 5) [13, 10] with
            | true =>
              have e : tagN s.data.toList = (2, 7) := by rw [htag, hcons]; simp only; rw [← hcons, if_pos k7]
              rw [e]
              clear e htag hd5 hlen hl5 k3 hcons hr0
              go_enter Tryz.func30, Tryz.ntmps30
              go_wp2_with (first | (go_at_call 37; refine (hasPrefix_any _ _ _).mono ?_; rintro e w' ⟨rfl, rfl⟩) | (go_at_call 50; refine (fold_mid s h3 _ HF.out).mono ?_; rintro e w1 ⟨rfl, hb1⟩))
              go_ret2
              exact ⟨rfl, hb1⟩
            | false =>
              have hbl := blank_index s[5]
              cases k8 : blankB s[5] with
              | true =>
                have e : tagN s.data.toList = (2, 6) := by rw [htag, hcons]; simp only; rw [← hcons, if_neg (by rw [k7]; decide), if_pos k8]
                rw [e]
                rw [k8] at hbl
                clear e htag hd5 hlen hl5 k3 hcons k8
                go_enter Tryz.func30, Tryz.ntmps30
                go_wp2_with (first | (go_at_call 37; refine (hasPrefix_any _ _ _).mono ?_; rintro e w' ⟨rfl, rfl⟩) | (go_at_call 50; refine (fold_mid s h3 _ HF.out).mono ?_; rintro e w1 ⟨rfl, hb1⟩) | (go_at_call 36; refine (indexByte_any _ _ _).mono ?_; rintro e w2 ⟨rfl, rfl⟩))
                go_ret2
                exact ⟨rfl, hb1⟩
              | false =>
                have e : tagN s.data.toList = (0, 0) := by rw [htag, hcons]; simp only; rw [← hcons, if_neg (by rw [k7]; decide), if_neg (by rw [k8]; decide)]
                rw [e]
                rw [k8] at hbl
                clear e htag hd5 hlen hl5 k3 hcons k8
                go_enter Tryz.func30, Tryz.ntmps30
                go_wp2_with (first | (go_at_call 37; refine (hasPrefix_any _ _ _).mono ?_; rintro e w' ⟨rfl, rfl⟩) | (go_at_call 50; refine (fold_mid s h3 _ HF.out).mono ?_; rintro e w1 ⟨rfl, hb1⟩) | (go_at_call 36; refine (indexByte_any _ _ _).mono ?_; rintro e w2 ⟨rfl, rfl⟩))
                go_ret2
                exact ⟨rfl, hb1⟩
end Go.Proofs.YteajmgkdiioflaaGreatDoor
