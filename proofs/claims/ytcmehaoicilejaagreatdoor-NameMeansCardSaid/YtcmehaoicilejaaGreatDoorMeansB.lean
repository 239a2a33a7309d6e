/- What a class's name means: both tellers give the same text. -/
import Derived.Test.YtcmehaoicilejaaGreatDoorMeansA
namespace Go.Proofs.YtcmehaoicilejaaGreatDoor
open Go.RowKit

/-- A slice of pairs in memory. -/
def PairsAt (w : World) (B : Nat) (A : Option Addr) (fs : List (ByteArray × ByteArray)) : Prop :=
  0 < fs.length → ∃ b off, A = some ⟨b, off, none⟩ ∧ b < B ∧ ∀ k, k < fs.length → w.cell? ⟨b, off + k * 2, none⟩ = some (.string (fs.getD k default).1) ∧ w.cell? ⟨b, off + k * 2 + 1, none⟩ = some (.string (fs.getD k default).2)
theorem PairsAt.below {w w' : World} {A : Option Addr} {fs : List (ByteArray × ByteArray)} (h : PairsAt w w.heap.size A fs) (hb1 : Below w.heap.size w w') : PairsAt w' w'.heap.size A fs := fun h0 => by
  obtain ⟨b, off, hA, hb, hc⟩ := h h0
  exact ⟨b, off, hA, Nat.lt_of_lt_of_le hb hb1.size, fun k hk => ⟨(hb1.cell (p := ⟨b, off + k * 2, none⟩) hb).trans (hc k hk).1, (hb1.cell (p := ⟨b, off + k * 2 + 1, none⟩) hb).trans (hc k hk).2⟩⟩
def findU (f : ByteArray) : List (ByteArray × ByteArray) → Option ByteArray
  | [] => none
  | u :: l => if (u.1.toList == f.toList) = true then some u.2 else findU f l
theorem findU_step (f : ByteArray) (us : List (ByteArray × ByteArray)) (k : Nat) (hk : k < us.length) : findU f (us.drop k) = if ((us.getD k default).1.toList == f.toList) = true then some (us.getD k default).2 else findU f (us.drop (k + 1)) := by
  rw [List.drop_eq_getElem_cons hk, findU, show us.getD k default = us[k] by simp [hk]]
/-- self, parent, static. -/
def selfB (s : ByteArray) : Bool := if (s.toList == [115, 101, 108, 102]) = true then true else if (s.toList == [112, 97, 114, 101, 110, 116]) = true then true else s.toList == [115, 116, 97, 116, 105, 99]
theorem self_1 {s : ByteArray} (e : (s.toList == [115, 101, 108, 102]) = true) : selfB s = true := by unfold selfB; simp [e]
theorem self_2 {s : ByteArray} (e : (s.toList == [112, 97, 114, 101, 110, 116]) = true) : selfB s = true := by unfold selfB; simp [e]
theorem self_3 {s : ByteArray} (e : (s.toList == [115, 116, 97, 116, 105, 99]) = true) : selfB s = true := by unfold selfB; simp [e]
theorem self_0 {s : ByteArray} (e1 : (s.toList == [115, 101, 108, 102]) = false) (e2 : (s.toList == [112, 97, 114, 101, 110, 116]) = false) (e3 : (s.toList == [115, 116, 97, 116, 105, 99]) = false) : ¬ selfB s = true := by unfold selfB; simp [e1, e2, e3]
def meansB (space s : ByteArray) (us : List (ByteArray × ByteArray)) : ByteArray :=
  if Lib.hasPrefix s.data.toList [92] = true then s.extract 1 s.size else
  if selfB s = true then s else
  match findU (s.extract 0 (ixS s)) us with
  | some v => v ++ s.extract (ixS s) s.size
  | none => inB space s
theorem trim_one (s : ByteArray) (h : Lib.hasPrefix s.data.toList [92] = true) : (⟨(Lib.trimPrefix s.data.toList [92]).toArray⟩ : ByteArray) = s.extract 1 s.size := by
  unfold Lib.trimPrefix
  rw [if_pos h]
  apply ByteArray.ext
  apply Array.toList_inj.1
  have hl := Lib.size_eq s
  simp only [ByteArray.data_extract, Array.toList_extract]
  rw [List.extract_eq_take_drop]
  simp only [List.length_cons, List.length_nil]
  rw [List.take_of_length_le (by rw [List.length_drop]; omega)]
theorem prefix_one (s : ByteArray) : Lib.hasPrefix s.data.toList [92] = (decide (0 < s.size) && ((s.data.toList.getD 0 0) == 92)) := by
  have hl := Lib.size_eq s
  cases h : s.data.toList with
  | nil => rw [h] at hl; simp [Lib.hasPrefix]
  | cons a l => rw [h] at hl; simp only [Lib.hasPrefix, List.length_cons, List.isPrefixOf, Bool.and_true, List.getD_cons_zero] at *; rw [hl]; simp only [Nat.zero_lt_succ, decide_true, Bool.true_and]; exact BEq.comm (α := UInt8)

section
variable (space s : ByteArray) (A : Option Addr) (c : Nat) (us : List (ByteArray × ByteArray)) (w : World)
set_option maxRecDepth 100000 in
set_option maxHeartbeats 4000000 in
theorem means_any (h1 : space.size ≤ 140737488355328) (h2 : s.size ≤ 140737488355328) (hA : PairsAt w w.heap.size A us) (hn : us.length ≤ 140737488355328) (hz : ∀ k, (us.getD k default).2.size ≤ 140737488355328) :
    Calls Tryz.prog 6 #[.string space, .string s, .slice A us.length c] w fun e w' => e = .returned (.string (meansB space s us)) ∧ Below w.heap.size w w' := by
  have HA := Lib.hid hA; clear hA
  have HZ := Lib.hid hz; clear hz
  have HP := Lib.hid (Tryz.strings_CutPrefix s ⟨#[92]⟩ w)
  have HT := Lib.hid (trim_one s)
  obtain ⟨M, HM⟩ : ∃ z, Hid (meansB space s us = z) := ⟨_, rfl⟩
  rw [HM.out]
  cases hp : Lib.hasPrefix s.data.toList [92] with
  | true =>
    have e1 : M = s.extract 1 s.size := by rw [← HM.out]; unfold meansB; rw [if_pos hp]
    have hp' : Lib.hasPrefix s.data.toList (⟨#[92]⟩ : ByteArray).data.toList = true := hp
    have HP2 : Hid (Calls Tryz.prog 14 #[.string s, .string ⟨#[92]⟩] w fun e w' => e = .returned (.tuple #[.string M, .bool true]) ∧ w' = w) := by
      have := HP.out
      rw [hp'] at this
      have h3 := HT.out hp
      rw [e1, ← h3]
      exact this
    clear HP HT hp hp' e1 HM
    go_enter Tryz.func6, Tryz.ntmps6
    go_wp2_with (go_at_call 14; refine HP2.out.mono ?_; rintro e w1 ⟨rfl, rfl⟩)
    go_ret
    exact ⟨rfl, Below.refl _ _⟩
  | false =>
    have hp' : Lib.hasPrefix s.data.toList (⟨#[92]⟩ : ByteArray).data.toList = false := hp
    have HP2 : Hid (∃ t, Calls Tryz.prog 14 #[.string s, .string ⟨#[92]⟩] w fun e w' => e = .returned (.tuple #[.string t, .bool false]) ∧ w' = w) := by
      have := HP.out
      rw [hp'] at this
      exact ⟨_, this⟩
    obtain ⟨t, HP3⟩ := HP2.out
    replace HP3 := Lib.hid HP3
    have HM1 : Hid (M = if selfB s = true then s else match findU (s.extract 0 (ixS s)) us with
      | some v => v ++ s.extract (ixS s) s.size
      | none => inB space s) := by
      show _ = _
      rw [← HM.out]; unfold meansB; rw [if_neg (by rw [hp]; decide)]
    clear HP HT hp hp' HM HP2
    cases e1 : (s.toList == [115, 101, 108, 102]) with
    | true =>
      have hM : M = s := by rw [HM1.out, if_pos (self_1 e1)]
      subst hM
      go_enter Tryz.func6, Tryz.ntmps6
      go_wp2_with (go_at_call 14; refine HP3.out.mono ?_; rintro e w1 ⟨rfl, rfl⟩)
      go_ret
      exact ⟨rfl, Below.refl _ _⟩
    | false =>
      cases e2 : (s.toList == [112, 97, 114, 101, 110, 116]) with
      | true =>
        have hM : M = s := by rw [HM1.out, if_pos (self_2 e2)]
        subst hM
        go_enter Tryz.func6, Tryz.ntmps6
        go_wp2_with (go_at_call 14; refine HP3.out.mono ?_; rintro e w1 ⟨rfl, rfl⟩)
        go_ret
        exact ⟨rfl, Below.refl _ _⟩
      | false =>
        cases e3 : (s.toList == [115, 116, 97, 116, 105, 99]) with
        | true =>
          have hM : M = s := by rw [HM1.out, if_pos (self_3 e3)]
          subst hM
          go_enter Tryz.func6, Tryz.ntmps6
          go_wp2_with (go_at_call 14; refine HP3.out.mono ?_; rintro e w1 ⟨rfl, rfl⟩)
          go_ret
          exact ⟨rfl, Below.refl _ _⟩
        | false =>
          have HM2 : Hid (M = match findU (s.extract 0 (ixS s)) us with
              | some v => v ++ s.extract (ixS s) s.size
              | none => inB space s) := by
            show _ = _
            rw [HM1.out, if_neg (self_0 e1 e2 e3)]
          have HC := Lib.hid (fun w => cut_any s h2 w)
          have hle := ixS_le s
          generalize ixS s = ix at *
          have hfs : (s.extract 0 ix).size = ix := by rw [ByteArray.size_extract]; omega
          generalize hf : s.extract 0 ix = f at *
          clear hf HM1
          subst hfs
          go_enter Tryz.func6, Tryz.ntmps6
          go_wp2_with (first | (go_at_call 14; refine HP3.out.mono ?_; rintro e w1 ⟨rfl, rfl⟩) | (go_at_call 15; refine (HC.out _).mono ?_; rintro e w2 ⟨⟨t2, b2, rfl⟩, hb⟩))
          have HB := Lib.hid hb
          clear hb HP3 HC e1 e2 e3
          go_loopw [40] (fun x wx => ∃ k : Nat, k ≤ us.length ∧ x = .int .i64 k ∧ Hid (Below w1.heap.size w1 wx ∧ findU f us = findU f (us.drop k))) (fun x _ => us.length - (intOf x).toNat)
          case atStart => exact ⟨0, Nat.zero_le _, rfl, HB.out, by simp⟩
          case round =>
            obtain ⟨k, hk, rfl, HR⟩ := hrel
            clear HB
            by_cases hlt : k < us.length
            · obtain ⟨b, off, rfl, hb, hc⟩ := HA.out (by omega)
              obtain ⟨hc1, hc2⟩ := hc k hlt
              have hk1 := (HR.out.1.cell (p := ⟨b, off + k * 2, none⟩) hb).trans hc1
              have hk2 := (HR.out.1.cell (p := ⟨b, off + k * 2 + 1, none⟩) hb).trans hc2
              have hs3 := HZ.out k
              have HF := Lib.hid (HR.out.2.trans (findU_step f us k hlt))
              clear hc hc1 hc2 hb HA HZ
              generalize us.getD k default = u at *
              obtain ⟨p, x⟩ := u
              dsimp only at hk1 hk2 hs3 HF
              cases heq : (p.toList == f.toList) with
              | true =>
                have hM : M = x ++ s.extract f.size s.size := by rw [HM2.out, HF.out, if_pos heq]
                clear HM2 HF
                subst hM
                have HB1 := Lib.hid HR.out.1
                have hq : (s.extract f.size s.size).size ≤ 140737488355328 := by rw [ByteArray.size_extract]; omega
                clear HR
                go_wp2_with fail
                go_quiet (fail)
                go_wp2_with fail
                go_ret
                exact ⟨rfl, drewN' (HB1.out.alloc HB1.out.size _) _⟩
              | false =>
                have HF2 : Hid (findU f us = findU f (us.drop (k + 1))) := by
                  have := HF.out
                  rw [heq, if_neg (by decide)] at this
                  exact this
                have HB1 := Lib.hid HR.out.1
                clear HR HF
                go_wp2_with fail
                go_roundw
                case rel => exact ⟨k + 1, by omega, by go_num, HB1.out.alloc HB1.out.size _, HF2.out⟩
                case measure => simp [intOf] <;> omega
            · obtain rfl : k = us.length := by omega
              have hM : M = inB space s := by
                have := HR.out.2
                rw [List.drop_length] at this
                rw [HM2.out, this]; rfl
              have HI := Lib.hid (fun w => in_any space s h1 h2 w)
              rw [← hM] at HI
              clear hM HM2
              go_wp2_with (go_at_call 16; refine (HI.out _).mono ?_; rintro e w3 ⟨rfl, rfl⟩)
              go_ret
              exact ⟨rfl, HR.out.1⟩

theorem head_case (s : ByteArray) : (Lib.hasPrefix s.data.toList [92] = true ∧ ∃ h : 0 < s.size, (((s[0]).toNat : Int) == 92) = true) ∨ (Lib.hasPrefix s.data.toList [92] = false ∧ (¬ (0 < s.size) ∨ ∃ h : 0 < s.size, (((s[0]).toNat : Int) == 92) = false)) := by
  have hpo := prefix_one s
  by_cases h0 : 0 < s.size
  · rw [decide_eq_true h0, Bool.true_and] at hpo
    have hd0 : s.data.toList.getD 0 0 = s[0] := by
      have h3 : 0 < s.data.toList.length := by have := Lib.size_eq s; omega
      rw [List.getD_eq_getElem?_getD, List.getElem?_eq_getElem h3]
      rw [Array.getElem_toList]; rfl
    rw [hd0] at hpo
    have hb : (((s[0]).toNat : Int) == 92) = (s[0] == 92) := by
      rw [Bool.eq_iff_iff, beq_iff_eq, beq_iff_eq, ← UInt8.toNat_inj, show (92 : UInt8).toNat = 92 from rfl]
      omega
    cases hp : Lib.hasPrefix s.data.toList [92] with
    | true => exact .inl ⟨rfl, h0, by rw [hb, ← hpo, hp]⟩
    | false => exact .inr ⟨rfl, .inr ⟨h0, by rw [hb, ← hpo, hp]⟩⟩
  · rw [decide_eq_false h0, Bool.false_and] at hpo
    exact .inr ⟨hpo, .inl h0⟩

set_option maxRecDepth 100000 in
set_option maxHeartbeats 4000000 in
theorem rmeans_any (h1 : space.size ≤ 140737488355328) (h2 : s.size ≤ 140737488355328) (hA : PairsAt w w.heap.size A us) (hn : us.length ≤ 140737488355328) (hz : ∀ k, (us.getD k default).2.size ≤ 140737488355328) :
    Calls Tryz.prog 7 #[.string space, .string s, .slice A us.length c] w fun e w' => e = .returned (.string (meansB space s us)) ∧ Below w.heap.size w w' := by
  have HA := Lib.hid hA; clear hA
  have HZ := Lib.hid hz; clear hz
  obtain ⟨M, HM⟩ : ∃ z, Hid (meansB space s us = z) := ⟨_, rfl⟩
  rw [HM.out]
  rcases head_case s with ⟨hp, h0, hb⟩ | ⟨hp, h0 | ⟨h0, hb⟩⟩
  · have e1 : M = s.extract 1 s.size := by rw [← HM.out]; unfold meansB; rw [if_pos hp]
    subst e1
    clear hp HM
    go_enter Tryz.func7, Tryz.ntmps7
    go_wp2_with fail
    go_ret
    exact ⟨rfl, Below.refl _ _⟩
  all_goals
    have HM1 : Hid (M = if selfB s = true then s else match findU (s.extract 0 (ixS s)) us with
      | some v => v ++ s.extract (ixS s) s.size
      | none => inB space s) := by
      show _ = _
      rw [← HM.out]; unfold meansB; rw [if_neg (by rw [hp]; decide)]
    clear hp HM
    cases e1 : (s.toList == [115, 101, 108, 102]) with
    | true =>
      have hM : M = s := by rw [HM1.out, if_pos (self_1 e1)]
      subst hM
      go_enter Tryz.func7, Tryz.ntmps7
      go_wp2_with fail
      go_ret
      exact ⟨rfl, Below.refl _ _⟩
    | false =>
      cases e2 : (s.toList == [112, 97, 114, 101, 110, 116]) with
      | true =>
        have hM : M = s := by rw [HM1.out, if_pos (self_2 e2)]
        subst hM
        go_enter Tryz.func7, Tryz.ntmps7
        go_wp2_with fail
        go_ret
        exact ⟨rfl, Below.refl _ _⟩
      | false =>
        cases e3 : (s.toList == [115, 116, 97, 116, 105, 99]) with
        | true =>
          have hM : M = s := by rw [HM1.out, if_pos (self_3 e3)]
          subst hM
          go_enter Tryz.func7, Tryz.ntmps7
          go_wp2_with fail
          go_ret
          exact ⟨rfl, Below.refl _ _⟩
        | false =>
          have HM2 : Hid (M = match findU (s.extract 0 (ixS s)) us with
              | some v => v ++ s.extract (ixS s) s.size
              | none => inB space s) := by
            show _ = _
            rw [HM1.out, if_neg (self_0 e1 e2 e3)]
          have HC := Lib.hid (fun w => split_any s h2 w)
          have hq : (s.extract (ixS s) s.size).size ≤ 140737488355328 := by rw [ByteArray.size_extract]; omega
          generalize s.extract 0 (ixS s) = f at *
          generalize s.extract (ixS s) s.size = r at *
          clear HM1
          go_enter Tryz.func7, Tryz.ntmps7
          go_wp2_with (go_at_call 17; refine (HC.out _).mono ?_; rintro e w2 ⟨rfl, hb2⟩)
          have HB := Lib.hid hb2
          clear hb2 HC e1 e2 e3
          go_loopw [9] (fun x wx => ∃ k : Nat, k ≤ us.length ∧ x = .int .i64 k ∧ Hid (Below w.heap.size w wx ∧ findU f us = findU f (us.drop k))) (fun x _ => us.length - (intOf x).toNat)
          case atStart => exact ⟨0, Nat.zero_le _, rfl, HB.out, by simp⟩
          case round =>
            obtain ⟨k, hk, rfl, HR⟩ := hrel
            clear HB
            by_cases hlt : k < us.length
            · obtain ⟨b, off, rfl, hb3, hc⟩ := HA.out (by omega)
              obtain ⟨hc1, hc2⟩ := hc k hlt
              have hk1 := (HR.out.1.cell (p := ⟨b, off + k * 2, none⟩) hb3).trans hc1
              have hk2 := (HR.out.1.cell (p := ⟨b, off + k * 2 + 1, none⟩) hb3).trans hc2
              have hs3 := HZ.out k
              have HF := Lib.hid (HR.out.2.trans (findU_step f us k hlt))
              have hltI : (k : Int) < (us.length : Int) := by omega
              clear hc hc1 hc2 hb3 HA HZ
              generalize us.getD k default = u at *
              obtain ⟨p, x⟩ := u
              dsimp only at hk1 hk2 hs3 HF
              cases heq : (p.toList == f.toList) with
              | true =>
                have hM : M = x ++ r := by rw [HM2.out, HF.out, if_pos heq]
                clear HM2 HF
                subst hM
                have HB1 := Lib.hid HR.out.1
                clear HR
                go_wp2_with fail
                go_ret
                exact ⟨rfl, HB1.out⟩
              | false =>
                have HF2 : Hid (findU f us = findU f (us.drop (k + 1))) := by
                  have := HF.out
                  rw [heq, if_neg (by decide)] at this
                  exact this
                have HB1 := Lib.hid HR.out.1
                clear HR HF
                go_wp2_with fail
                go_roundw
                case rel => exact ⟨k + 1, by omega, by go_num, HB1.out, HF2.out⟩
                case measure => simp [intOf] <;> omega
            · obtain rfl : k = us.length := by omega
              have hM : M = inB space s := by
                have := HR.out.2
                rw [List.drop_length] at this
                rw [HM2.out, this]; rfl
              have HI := Lib.hid (fun w => rin_any space s h1 h2 w)
              rw [← hM] at HI
              clear hM HM2
              go_wp2_with (go_at_call 18; refine (HI.out _).mono ?_; rintro e w3 ⟨rfl, rfl⟩)
              go_ret
              exact ⟨rfl, HR.out.1⟩

/-- THE LAW. -/
theorem nameMeans_any (h1 : space.size ≤ 140737488355328) (h2 : s.size ≤ 140737488355328) (hA : PairsAt w w.heap.size A us) (hn : us.length ≤ 140737488355328) (hz : ∀ k, (us.getD k default).2.size ≤ 140737488355328) :
    Calls Tryz.prog 3 #[.string space, .string s, .slice A us.length c] w fun e w' => e = .returned (.bool true) ∧ Below w.heap.size w w' := by
  have H1 := Lib.hid (means_any space s A c us w h1 h2 hA hn hz)
  have H2 := Lib.hid (fun w (hA : PairsAt w w.heap.size A us) => rmeans_any space s A c us w h1 h2 hA hn hz)
  have HA := Lib.hid hA
  have HL := Lib.hid alive_any
  generalize meansB space s us = M at *
  clear hA hn hz
  go_enter Tryz.func3, Tryz.ntmps3
  go_wp2_with (first
    | (go_at_call 6; refine H1.out.mono ?_; rintro e w1 ⟨rfl, hb1⟩; have HB1 := Lib.hid hb1; clear hb1)
    | (go_at_call 7; refine (H2.out _ (HA.out.below HB1.out)).mono ?_; rintro e w2 ⟨rfl, hb2⟩; have HB2 := Lib.hid (HB1.out.trans (hb2.mono HB1.out.size)); clear hb2)
    | (go_at_call 8; refine (HL.out _).mono ?_; rintro e w3 ⟨rfl, hb3⟩; have HB3 := Lib.hid (HB2.out.trans (hb3.mono HB2.out.size)); clear hb3))
  go_ret
  exact ⟨rfl, HB3.out⟩
end
end Go.Proofs.YtcmehaoicilejaaGreatDoor
