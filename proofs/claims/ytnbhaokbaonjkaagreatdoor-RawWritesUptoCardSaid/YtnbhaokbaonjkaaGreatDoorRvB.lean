/- ostlerref10: the reader's word: the walk. -/
import Derived.Test.YtnbhaokbaonjkaaGreatDoorRvA
import Derived.Test.YtnbhaokbaonjkaaGreatDoorRwK
namespace Go.Proofs.YtnbhaokbaonjkaaGreatDoor
open Go.RowKit
namespace Rv
open Go.Proofs.YtnbhaokbaonjkaaGreatDoor.Rw
def wordT (L : Bytes) (P : UInt8 → Bool) (mo : Nat) : Option Nat → Bytes
  | some a => piece L a (whileN L P mo a)
  | none => []
def wordS (L : Bytes) (P : UInt8 → Bool) (mo : Nat) : Option Nat → Option Nat
  | some a => if whileN L P mo a = a then none else some (whileN L P mo a)
  | none => none
theorem piece_none (l : Bytes) (a : Nat) : piece l a a = [] := by simp [piece]
theorem up_named {c : UInt8} (h : upB c = true) : namedB c = true := by simp [namedB, h]
section
variable (s : ByteArray) (g : Nat)
set_option maxRecDepth 100000 in
set_option maxHeartbeats 8000000 in
theorem word_f (mo a : Nat) (why fat : Int) (st : Option Nat) (ho : Ok st a why fat) (w : World) (h : RvAt w g s a why fat) (hs : s.size ≤ 1000000) (hm : mo ≤ 1000000) (ha : a ≤ s.size) :
    Calls Tryz.prog 50 #[.pointer (some ⟨g, 0, none⟩), .bool false, .int .i64 (mo : Int)] w fun e w' => ∃ X, e = .returned (.string X) ∧ Hid (X = Rw.bytes (wordT s.data.toList upB mo st)) ∧ Left s g a (wordS s.data.toList upB mo st) w w' := by
  have HF := Lib.hid (fun a why fat st ho w h => fails_any s g a why fat st ho w h)
  have H := Lib.hid h
  have HLs := Lib.hid (Lib.size_eq s)
  have c0 : w.cell? ⟨g, 0, none⟩ = some (.string s) := h.cell 0
  have c1 : w.cell? ⟨g, 1, none⟩ = some (.int .i64 (a : Int)) := h.cell 1
  have hq0 : (0 : Int) ≤ (a : Int) := by omega
  have hqa : (a : Int) ≤ (s.size : Int) := by omega
  rcases ho with ⟨rfl, rfl, rfl⟩ | ⟨hw, rfl⟩
  · have HWt := Lib.hid (fun k w (h : RvAt w g s k 0 0) => (show Calls Tryz.prog 52 #[.pointer (some ⟨g, 0, none⟩)] w fun e w' => e = .returned (.bool true) ∧ w' = w from well_any s g k 0 0 (some k) (.inl ⟨rfl, rfl, rfl⟩) w h))
    have HX := Lib.hid (extract_piece s a (whileN s.data.toList upB mo a))
    have HZ := Lib.hid (while_le upB mo (show a ≤ s.data.toList.length by rw [← HLs.out]; exact ha))
    have hge := while_ge s.data.toList upB mo a
    obtain ⟨M, HM⟩ : ∃ z, Hid (whileN s.data.toList upB mo a = z) := ⟨_, rfl⟩
    rw [HM.out] at HX HZ hge
    have hMz : M ≤ s.size := by rw [HLs.out]; exact HZ.out
    have hq1 : (a : Int) ≤ (M : Int) := by omega
    have hq2 : (M : Int) ≤ (s.size : Int) := by omega
    have hqM : (0 : Int) ≤ (M : Int) := by omega
    clear h
    go_enter Tryz.func50, Tryz.ntmps50
    go_wp2_with fail
    clear c0 c1
    go_loopg [] (s.size - a) (fun gk wx => ∃ k r : Nat, gk + k = s.size ∧ a ≤ k ∧ k + r = a + mo ∧ Hid (Keeps (· = g) w wx) ∧ Hid (RvAt wx g s k 0 0) ∧ Hid (whileN s.data.toList upB r k = M))
    case atStart => exact ⟨a, mo, by omega, Nat.le_refl _, rfl, Keeps.refl _ _, H.out, HM.out⟩
    case round =>
      obtain ⟨k, r, hk, hak, hkr, HK, HB, HR⟩ := hrel
      have c0 : wr.cell? ⟨g, 0, none⟩ = some (.string s) := HB.out.cell 0
      have c1 : wr.cell? ⟨g, 1, none⟩ = some (.int .i64 (k : Int)) := HB.out.cell 1
      have z1 := HB.out.frozen 1
      have hw1 : IntKind.i64.wrap ((k : Int) - (a : Int)) = (k : Int) - (a : Int) := IntWalk.i64_in _ (by omega)
      have HWt := Lib.hid (HWt.out k)
      by_cases hks : k < s.size
      · have hJ : (k : Int) < (s.size : Int) := by omega
        by_cases hr : 0 < r
        · have hJ2 : (k : Int) - (a : Int) < (mo : Int) := by omega
          have hlt' : k < s.data.toList.length := by rw [← HLs.out]; exact hks
          have HS : Hid (whileN s.data.toList upB r k = if upB s.data.toList[k] = true then whileN s.data.toList upB (r - 1) (k + 1) else k) := by
            have := while_step upB (r - 1) hlt'
            rw [show r - 1 + 1 = r by omega] at this
            exact this
          have es : s[k] = s.data.toList[k] := by simp [ByteArray.getElem_eq_getElem_data]
          rw [← es] at HS
          clear es
          generalize hc : s[k] = c at *
          have hc1 := c.toNat_lt
          have HUc := Lib.hid (fun w => upper_any _ rfl c w)
          have HNc := Lib.hid (fun w => rnamed_any _ rfl c w)
          cases hu : upB c with
          | true =>
            rw [hu] at HUc
            have hp : upB c = true := hu
            have HR2 : Hid (whileN s.data.toList upB (r - 1) (k + 1) = M) := by show _ = _; rw [← HR.out, HS.out, if_pos hp]
            have h1 : IntKind.i64.wrap ((k : Int) + 1) = ((k + 1 : Nat) : Int) := by rw [IntWalk.i64_in _ (by omega)]; rfl
            clear HR HS
            go_wp2_with fail
            go_quiet (first | (go_at_call 52; exact Calls.quiet_of_same (HWt.out _ (HB.out.drewN _))) | (go_at_call 86; exact Calls.quiet_of_same (HUc.out _)))
            go_wp2_with fail
            go_roundg (gk - 1)
            case rel => exact ⟨k + 1, r - 1, by omega, by omega, by omega, (HK.out.drewN _).setCell (p := ⟨g, 1, none⟩) (.inl rfl) _, (HB.out.drewN _).set_ 1 _, HR2.out⟩
            case measure => omega
          | false =>
            rw [hu] at HUc
            have hp : upB c = false := hu
            have hM : M = k := by rw [← HR.out, HS.out, if_neg (by rw [hp]; decide)]
            subst hM
            clear HR HS
            go_wp2_with fail
            go_quiet (first | (go_at_call 52; exact Calls.quiet_of_same (HWt.out _ (HB.out.drewN _))) | (go_at_call 86; exact Calls.quiet_of_same (HUc.out _)))
            have HK2 := Lib.hid (HK.out.drewN nq)
            have HB2 := Lib.hid (HB.out.drewN nq)
            generalize wr.drewN nq = w2 at *
            have d0 : w2.cell? ⟨g, 0, none⟩ = some (.string s) := HB2.out.cell 0
            have d1 : w2.cell? ⟨g, 1, none⟩ = some (.int .i64 (M : Int)) := HB2.out.cell 1
            clear c0 c1 z1
            by_cases hma : M = a
            · subst hma
              have hbe : ((M : Int) == (M : Int)) = true := by simp
              have HFk := Lib.hid (HF.out M 0 0 (some M) (.inl ⟨rfl, rfl, rfl⟩))
              go_wp2_with (go_at_call 88; refine (HFk.out _ HB2.out).mono ?_; rintro e w3 ⟨rfl, hk3, why3, fat3, hw3, hr3⟩; have HR3 := Lib.hid hr3; have d0 : w3.cell? ⟨g, 0, none⟩ = some (.string s) := hr3.cell 0; have d1 : w3.cell? ⟨g, 1, none⟩ = some (.int .i64 (M : Int)) := hr3.cell 1; have HK3 := Lib.hid (HK2.out.trans hk3); clear hr3 hk3)
              go_quiet (fail)
              go_wp2_with fail
              go_ret
              refine ⟨_, rfl, ?_, HK3.out.drewN _, M, why3, fat3, ?_, by omega, by omega, HR3.out.drewN _⟩
              · show _ = _
                simp only [wordT, HM.out]; rw [piece_none]; rfl
              · show Ok (wordS s.data.toList upB mo (some M)) _ _ _
                simp only [wordS, HM.out, if_true]
                exact .inr ⟨hw3, rfl⟩
            · have hbe : ((M : Int) == (a : Int)) = false := by simp; omega
              go_wp2_with fail
              go_quiet (fail)
              go_wp2_with fail
              go_ret
              refine ⟨_, rfl, ?_, HK2.out.drewN _, M, 0, 0, ?_, by omega, by omega, HB2.out.drewN _⟩
              · show _ = _
                rw [HX.out]; simp only [wordT, HM.out]
              · show Ok (wordS s.data.toList upB mo (some a)) _ _ _
                simp only [wordS, HM.out]
                rw [if_neg hma]
                exact .inl ⟨rfl, rfl, rfl⟩
        · have hJ2 : ¬ ((k : Int) - (a : Int) < (mo : Int)) := by omega
          have hd2 : decide ((k : Int) - (a : Int) < (mo : Int)) = false := decide_eq_false hJ2
          obtain rfl : r = 0 := by omega
          have hM : M = k := by rw [← HR.out, while_zero]
          subst hM
          clear HR
          go_wp2_with fail
          go_quiet (first | (go_at_call 52; exact Calls.quiet_of_same (HWt.out _ (HB.out.drewN _))))
          have HK2 := Lib.hid (HK.out.drewN nq)
          have HB2 := Lib.hid (HB.out.drewN nq)
          generalize wr.drewN nq = w2 at *
          have d0 : w2.cell? ⟨g, 0, none⟩ = some (.string s) := HB2.out.cell 0
          have d1 : w2.cell? ⟨g, 1, none⟩ = some (.int .i64 (M : Int)) := HB2.out.cell 1
          clear c0 c1 z1
          by_cases hma : M = a
          · subst hma
            have hbe : ((M : Int) == (M : Int)) = true := by simp
            have HFk := Lib.hid (HF.out M 0 0 (some M) (.inl ⟨rfl, rfl, rfl⟩))
            go_wp2_with (go_at_call 88; refine (HFk.out _ HB2.out).mono ?_; rintro e w3 ⟨rfl, hk3, why3, fat3, hw3, hr3⟩; have HR3 := Lib.hid hr3; have d0 : w3.cell? ⟨g, 0, none⟩ = some (.string s) := hr3.cell 0; have d1 : w3.cell? ⟨g, 1, none⟩ = some (.int .i64 (M : Int)) := hr3.cell 1; have HK3 := Lib.hid (HK2.out.trans hk3); clear hr3 hk3)
            go_quiet (fail)
            go_wp2_with fail
            go_ret
            refine ⟨_, rfl, ?_, HK3.out.drewN _, M, why3, fat3, ?_, by omega, by omega, HR3.out.drewN _⟩
            · show _ = _
              simp only [wordT, HM.out]; rw [piece_none]; rfl
            · show Ok (wordS s.data.toList upB mo (some M)) _ _ _
              simp only [wordS, HM.out, if_true]
              exact .inr ⟨hw3, rfl⟩
          · have hbe : ((M : Int) == (a : Int)) = false := by simp; omega
            go_wp2_with fail
            go_quiet (fail)
            go_wp2_with fail
            go_ret
            refine ⟨_, rfl, ?_, HK2.out.drewN _, M, 0, 0, ?_, by omega, by omega, HB2.out.drewN _⟩
            · show _ = _
              rw [HX.out]; simp only [wordT, HM.out]
            · show Ok (wordS s.data.toList upB mo (some a)) _ _ _
              simp only [wordS, HM.out]
              rw [if_neg hma]
              exact .inl ⟨rfl, rfl, rfl⟩
      · have hJ : ¬ ((k : Int) < (s.size : Int)) := by omega
        have hM : M = k := by rw [← HR.out, while_end upB r (by rw [← HLs.out]; omega)]
        subst hM
        clear HR
        go_wp2_with fail
        go_quiet (first | (go_at_call 52; exact Calls.quiet_of_same (HWt.out _ (HB.out.drewN _))))
        have HK2 := Lib.hid (HK.out.drewN nq)
        have HB2 := Lib.hid (HB.out.drewN nq)
        generalize wr.drewN nq = w2 at *
        have d0 : w2.cell? ⟨g, 0, none⟩ = some (.string s) := HB2.out.cell 0
        have d1 : w2.cell? ⟨g, 1, none⟩ = some (.int .i64 (M : Int)) := HB2.out.cell 1
        clear c0 c1 z1
        by_cases hma : M = a
        · subst hma
          have hbe : ((M : Int) == (M : Int)) = true := by simp
          have HFk := Lib.hid (HF.out M 0 0 (some M) (.inl ⟨rfl, rfl, rfl⟩))
          go_wp2_with (go_at_call 88; refine (HFk.out _ HB2.out).mono ?_; rintro e w3 ⟨rfl, hk3, why3, fat3, hw3, hr3⟩; have HR3 := Lib.hid hr3; have d0 : w3.cell? ⟨g, 0, none⟩ = some (.string s) := hr3.cell 0; have d1 : w3.cell? ⟨g, 1, none⟩ = some (.int .i64 (M : Int)) := hr3.cell 1; have HK3 := Lib.hid (HK2.out.trans hk3); clear hr3 hk3)
          go_quiet (fail)
          go_wp2_with fail
          go_ret
          refine ⟨_, rfl, ?_, HK3.out.drewN _, M, why3, fat3, ?_, by omega, by omega, HR3.out.drewN _⟩
          · show _ = _
            simp only [wordT, HM.out]; rw [piece_none]; rfl
          · show Ok (wordS s.data.toList upB mo (some M)) _ _ _
            simp only [wordS, HM.out, if_true]
            exact .inr ⟨hw3, rfl⟩
        · have hbe : ((M : Int) == (a : Int)) = false := by simp; omega
          go_wp2_with fail
          go_quiet (fail)
          go_wp2_with fail
          go_ret
          refine ⟨_, rfl, ?_, HK2.out.drewN _, M, 0, 0, ?_, by omega, by omega, HB2.out.drewN _⟩
          · show _ = _
            rw [HX.out]; simp only [wordT, HM.out]
          · show Ok (wordS s.data.toList upB mo (some a)) _ _ _
            simp only [wordS, HM.out]
            rw [if_neg hma]
            exact .inl ⟨rfl, rfl, rfl⟩
  · have HWt := Lib.hid (fun w (h : RvAt w g s a why fat) => (show Calls Tryz.prog 52 #[.pointer (some ⟨g, 0, none⟩)] w fun e w' => e = .returned (.bool false) ∧ w' = w from well_any s g a why fat none (.inr ⟨hw, rfl⟩) w h))
    have HX := Lib.hid ((extract_piece s a a).trans (congrArg Rw.bytes (piece_none _ a)))
    have HFk := Lib.hid (HF.out a why fat none (.inr ⟨hw, rfl⟩))
    have hbe : ((a : Int) == (a : Int)) = true := by simp
    have HB := H
    clear h
    go_enter Tryz.func50, Tryz.ntmps50
    go_wp2_with fail
    go_loopg [] 0 (fun _ wx => Hid (Keeps (· = g) w wx) ∧ Hid (RvAt wx g s a why fat))
    case atStart => exact ⟨Keeps.refl _ _, H.out⟩
    case round =>
      obtain ⟨HK, HB⟩ := hrel
      have c0 : wr.cell? ⟨g, 0, none⟩ = some (.string s) := HB.out.cell 0
      have c1 : wr.cell? ⟨g, 1, none⟩ = some (.int .i64 (a : Int)) := HB.out.cell 1
      go_wp2_with fail
      go_quiet (first | (go_at_call 52; exact Calls.quiet_of_same (HWt.out _ (HB.out.drewN _))))
      have HK2 := Lib.hid (HK.out.drewN nq)
      have HB2 := Lib.hid (HB.out.drewN nq)
      generalize wr.drewN nq = w2 at *
      have d0 : w2.cell? ⟨g, 0, none⟩ = some (.string s) := HB2.out.cell 0
      have d1 : w2.cell? ⟨g, 1, none⟩ = some (.int .i64 (a : Int)) := HB2.out.cell 1
      clear c0 c1
      go_wp2_with (go_at_call 88; refine (HFk.out _ HB2.out).mono ?_; rintro e w3 ⟨rfl, hk3, why3, fat3, hw3, hr3⟩; have HR3 := Lib.hid hr3; have d0 : w3.cell? ⟨g, 0, none⟩ = some (.string s) := hr3.cell 0; have d1 : w3.cell? ⟨g, 1, none⟩ = some (.int .i64 (a : Int)) := hr3.cell 1; have HK3 := Lib.hid (HK2.out.trans hk3); clear hr3 hk3)
      go_quiet (fail)
      go_wp2_with fail
      go_ret
      exact ⟨_, rfl, Lib.hid rfl, HK3.out.drewN _, a, why3, fat3, .inr ⟨hw3, rfl⟩, Nat.le_refl _, ha, HR3.out.drewN _⟩
set_option maxRecDepth 100000 in
set_option maxHeartbeats 8000000 in
theorem word_t (mo a : Nat) (why fat : Int) (st : Option Nat) (ho : Ok st a why fat) (w : World) (h : RvAt w g s a why fat) (hs : s.size ≤ 1000000) (hm : mo ≤ 1000000) (ha : a ≤ s.size) :
    Calls Tryz.prog 50 #[.pointer (some ⟨g, 0, none⟩), .bool true, .int .i64 (mo : Int)] w fun e w' => ∃ X, e = .returned (.string X) ∧ Hid (X = Rw.bytes (wordT s.data.toList namedB mo st)) ∧ Left s g a (wordS s.data.toList namedB mo st) w w' := by
  have HF := Lib.hid (fun a why fat st ho w h => fails_any s g a why fat st ho w h)
  have H := Lib.hid h
  have HLs := Lib.hid (Lib.size_eq s)
  have c0 : w.cell? ⟨g, 0, none⟩ = some (.string s) := h.cell 0
  have c1 : w.cell? ⟨g, 1, none⟩ = some (.int .i64 (a : Int)) := h.cell 1
  have hq0 : (0 : Int) ≤ (a : Int) := by omega
  have hqa : (a : Int) ≤ (s.size : Int) := by omega
  rcases ho with ⟨rfl, rfl, rfl⟩ | ⟨hw, rfl⟩
  · have HWt := Lib.hid (fun k w (h : RvAt w g s k 0 0) => (show Calls Tryz.prog 52 #[.pointer (some ⟨g, 0, none⟩)] w fun e w' => e = .returned (.bool true) ∧ w' = w from well_any s g k 0 0 (some k) (.inl ⟨rfl, rfl, rfl⟩) w h))
    have HX := Lib.hid (extract_piece s a (whileN s.data.toList namedB mo a))
    have HZ := Lib.hid (while_le namedB mo (show a ≤ s.data.toList.length by rw [← HLs.out]; exact ha))
    have hge := while_ge s.data.toList namedB mo a
    obtain ⟨M, HM⟩ : ∃ z, Hid (whileN s.data.toList namedB mo a = z) := ⟨_, rfl⟩
    rw [HM.out] at HX HZ hge
    have hMz : M ≤ s.size := by rw [HLs.out]; exact HZ.out
    have hq1 : (a : Int) ≤ (M : Int) := by omega
    have hq2 : (M : Int) ≤ (s.size : Int) := by omega
    have hqM : (0 : Int) ≤ (M : Int) := by omega
    clear h
    go_enter Tryz.func50, Tryz.ntmps50
    go_wp2_with fail
    clear c0 c1
    go_loopg [] (s.size - a) (fun gk wx => ∃ k r : Nat, gk + k = s.size ∧ a ≤ k ∧ k + r = a + mo ∧ Hid (Keeps (· = g) w wx) ∧ Hid (RvAt wx g s k 0 0) ∧ Hid (whileN s.data.toList namedB r k = M))
    case atStart => exact ⟨a, mo, by omega, Nat.le_refl _, rfl, Keeps.refl _ _, H.out, HM.out⟩
    case round =>
      obtain ⟨k, r, hk, hak, hkr, HK, HB, HR⟩ := hrel
      have c0 : wr.cell? ⟨g, 0, none⟩ = some (.string s) := HB.out.cell 0
      have c1 : wr.cell? ⟨g, 1, none⟩ = some (.int .i64 (k : Int)) := HB.out.cell 1
      have z1 := HB.out.frozen 1
      have hw1 : IntKind.i64.wrap ((k : Int) - (a : Int)) = (k : Int) - (a : Int) := IntWalk.i64_in _ (by omega)
      have HWt := Lib.hid (HWt.out k)
      by_cases hks : k < s.size
      · have hJ : (k : Int) < (s.size : Int) := by omega
        by_cases hr : 0 < r
        · have hJ2 : (k : Int) - (a : Int) < (mo : Int) := by omega
          have hlt' : k < s.data.toList.length := by rw [← HLs.out]; exact hks
          have HS : Hid (whileN s.data.toList namedB r k = if namedB s.data.toList[k] = true then whileN s.data.toList namedB (r - 1) (k + 1) else k) := by
            have := while_step namedB (r - 1) hlt'
            rw [show r - 1 + 1 = r by omega] at this
            exact this
          have es : s[k] = s.data.toList[k] := by simp [ByteArray.getElem_eq_getElem_data]
          rw [← es] at HS
          clear es
          generalize hc : s[k] = c at *
          have hc1 := c.toNat_lt
          have HUc := Lib.hid (fun w => upper_any _ rfl c w)
          have HNc := Lib.hid (fun w => rnamed_any _ rfl c w)
          cases hu : upB c with
          | true =>
            rw [hu] at HUc
            have hp : namedB c = true := up_named hu
            have HR2 : Hid (whileN s.data.toList namedB (r - 1) (k + 1) = M) := by show _ = _; rw [← HR.out, HS.out, if_pos hp]
            have h1 : IntKind.i64.wrap ((k : Int) + 1) = ((k + 1 : Nat) : Int) := by rw [IntWalk.i64_in _ (by omega)]; rfl
            clear HR HS
            go_wp2_with fail
            go_quiet (first | (go_at_call 52; exact Calls.quiet_of_same (HWt.out _ (HB.out.drewN _))) | (go_at_call 86; exact Calls.quiet_of_same (HUc.out _)))
            go_wp2_with fail
            go_roundg (gk - 1)
            case rel => exact ⟨k + 1, r - 1, by omega, by omega, by omega, (HK.out.drewN _).setCell (p := ⟨g, 1, none⟩) (.inl rfl) _, (HB.out.drewN _).set_ 1 _, HR2.out⟩
            case measure => omega
          | false =>
            rw [hu] at HUc
            cases hp : namedB c with
            | true =>
              rw [hp] at HNc
              have HR2 : Hid (whileN s.data.toList namedB (r - 1) (k + 1) = M) := by show _ = _; rw [← HR.out, HS.out, if_pos hp]
              have h1 : IntKind.i64.wrap ((k : Int) + 1) = ((k + 1 : Nat) : Int) := by rw [IntWalk.i64_in _ (by omega)]; rfl
              clear HR HS
              go_wp2_with fail
              go_quiet (first | (go_at_call 52; exact Calls.quiet_of_same (HWt.out _ (HB.out.drewN _))) | (go_at_call 86; exact Calls.quiet_of_same (HUc.out _)) | (go_at_call 87; exact Calls.quiet_of_same (HNc.out _)))
              go_wp2_with fail
              go_roundg (gk - 1)
              case rel => exact ⟨k + 1, r - 1, by omega, by omega, by omega, (HK.out.drewN _).setCell (p := ⟨g, 1, none⟩) (.inl rfl) _, (HB.out.drewN _).set_ 1 _, HR2.out⟩
              case measure => omega
            | false =>
              rw [hp] at HNc
              have hM : M = k := by rw [← HR.out, HS.out, if_neg (by rw [hp]; decide)]
              subst hM
              clear HR HS
              go_wp2_with fail
              go_quiet (first | (go_at_call 52; exact Calls.quiet_of_same (HWt.out _ (HB.out.drewN _))) | (go_at_call 86; exact Calls.quiet_of_same (HUc.out _)) | (go_at_call 87; exact Calls.quiet_of_same (HNc.out _)))
              have HK2 := Lib.hid (HK.out.drewN nq)
              have HB2 := Lib.hid (HB.out.drewN nq)
              generalize wr.drewN nq = w2 at *
              have d0 : w2.cell? ⟨g, 0, none⟩ = some (.string s) := HB2.out.cell 0
              have d1 : w2.cell? ⟨g, 1, none⟩ = some (.int .i64 (M : Int)) := HB2.out.cell 1
              clear c0 c1 z1
              by_cases hma : M = a
              · subst hma
                have hbe : ((M : Int) == (M : Int)) = true := by simp
                have HFk := Lib.hid (HF.out M 0 0 (some M) (.inl ⟨rfl, rfl, rfl⟩))
                go_wp2_with (go_at_call 88; refine (HFk.out _ HB2.out).mono ?_; rintro e w3 ⟨rfl, hk3, why3, fat3, hw3, hr3⟩; have HR3 := Lib.hid hr3; have d0 : w3.cell? ⟨g, 0, none⟩ = some (.string s) := hr3.cell 0; have d1 : w3.cell? ⟨g, 1, none⟩ = some (.int .i64 (M : Int)) := hr3.cell 1; have HK3 := Lib.hid (HK2.out.trans hk3); clear hr3 hk3)
                go_quiet (fail)
                go_wp2_with fail
                go_ret
                refine ⟨_, rfl, ?_, HK3.out.drewN _, M, why3, fat3, ?_, by omega, by omega, HR3.out.drewN _⟩
                · show _ = _
                  simp only [wordT, HM.out]; rw [piece_none]; rfl
                · show Ok (wordS s.data.toList namedB mo (some M)) _ _ _
                  simp only [wordS, HM.out, if_true]
                  exact .inr ⟨hw3, rfl⟩
              · have hbe : ((M : Int) == (a : Int)) = false := by simp; omega
                go_wp2_with fail
                go_quiet (fail)
                go_wp2_with fail
                go_ret
                refine ⟨_, rfl, ?_, HK2.out.drewN _, M, 0, 0, ?_, by omega, by omega, HB2.out.drewN _⟩
                · show _ = _
                  rw [HX.out]; simp only [wordT, HM.out]
                · show Ok (wordS s.data.toList namedB mo (some a)) _ _ _
                  simp only [wordS, HM.out]
                  rw [if_neg hma]
                  exact .inl ⟨rfl, rfl, rfl⟩
        · have hJ2 : ¬ ((k : Int) - (a : Int) < (mo : Int)) := by omega
          have hd2 : decide ((k : Int) - (a : Int) < (mo : Int)) = false := decide_eq_false hJ2
          obtain rfl : r = 0 := by omega
          have hM : M = k := by rw [← HR.out, while_zero]
          subst hM
          clear HR
          go_wp2_with fail
          go_quiet (first | (go_at_call 52; exact Calls.quiet_of_same (HWt.out _ (HB.out.drewN _))))
          have HK2 := Lib.hid (HK.out.drewN nq)
          have HB2 := Lib.hid (HB.out.drewN nq)
          generalize wr.drewN nq = w2 at *
          have d0 : w2.cell? ⟨g, 0, none⟩ = some (.string s) := HB2.out.cell 0
          have d1 : w2.cell? ⟨g, 1, none⟩ = some (.int .i64 (M : Int)) := HB2.out.cell 1
          clear c0 c1 z1
          by_cases hma : M = a
          · subst hma
            have hbe : ((M : Int) == (M : Int)) = true := by simp
            have HFk := Lib.hid (HF.out M 0 0 (some M) (.inl ⟨rfl, rfl, rfl⟩))
            go_wp2_with (go_at_call 88; refine (HFk.out _ HB2.out).mono ?_; rintro e w3 ⟨rfl, hk3, why3, fat3, hw3, hr3⟩; have HR3 := Lib.hid hr3; have d0 : w3.cell? ⟨g, 0, none⟩ = some (.string s) := hr3.cell 0; have d1 : w3.cell? ⟨g, 1, none⟩ = some (.int .i64 (M : Int)) := hr3.cell 1; have HK3 := Lib.hid (HK2.out.trans hk3); clear hr3 hk3)
            go_quiet (fail)
            go_wp2_with fail
            go_ret
            refine ⟨_, rfl, ?_, HK3.out.drewN _, M, why3, fat3, ?_, by omega, by omega, HR3.out.drewN _⟩
            · show _ = _
              simp only [wordT, HM.out]; rw [piece_none]; rfl
            · show Ok (wordS s.data.toList namedB mo (some M)) _ _ _
              simp only [wordS, HM.out, if_true]
              exact .inr ⟨hw3, rfl⟩
          · have hbe : ((M : Int) == (a : Int)) = false := by simp; omega
            go_wp2_with fail
            go_quiet (fail)
            go_wp2_with fail
            go_ret
            refine ⟨_, rfl, ?_, HK2.out.drewN _, M, 0, 0, ?_, by omega, by omega, HB2.out.drewN _⟩
            · show _ = _
              rw [HX.out]; simp only [wordT, HM.out]
            · show Ok (wordS s.data.toList namedB mo (some a)) _ _ _
              simp only [wordS, HM.out]
              rw [if_neg hma]
              exact .inl ⟨rfl, rfl, rfl⟩
      · have hJ : ¬ ((k : Int) < (s.size : Int)) := by omega
        have hM : M = k := by rw [← HR.out, while_end namedB r (by rw [← HLs.out]; omega)]
        subst hM
        clear HR
        go_wp2_with fail
        go_quiet (first | (go_at_call 52; exact Calls.quiet_of_same (HWt.out _ (HB.out.drewN _))))
        have HK2 := Lib.hid (HK.out.drewN nq)
        have HB2 := Lib.hid (HB.out.drewN nq)
        generalize wr.drewN nq = w2 at *
        have d0 : w2.cell? ⟨g, 0, none⟩ = some (.string s) := HB2.out.cell 0
        have d1 : w2.cell? ⟨g, 1, none⟩ = some (.int .i64 (M : Int)) := HB2.out.cell 1
        clear c0 c1 z1
        by_cases hma : M = a
        · subst hma
          have hbe : ((M : Int) == (M : Int)) = true := by simp
          have HFk := Lib.hid (HF.out M 0 0 (some M) (.inl ⟨rfl, rfl, rfl⟩))
          go_wp2_with (go_at_call 88; refine (HFk.out _ HB2.out).mono ?_; rintro e w3 ⟨rfl, hk3, why3, fat3, hw3, hr3⟩; have HR3 := Lib.hid hr3; have d0 : w3.cell? ⟨g, 0, none⟩ = some (.string s) := hr3.cell 0; have d1 : w3.cell? ⟨g, 1, none⟩ = some (.int .i64 (M : Int)) := hr3.cell 1; have HK3 := Lib.hid (HK2.out.trans hk3); clear hr3 hk3)
          go_quiet (fail)
          go_wp2_with fail
          go_ret
          refine ⟨_, rfl, ?_, HK3.out.drewN _, M, why3, fat3, ?_, by omega, by omega, HR3.out.drewN _⟩
          · show _ = _
            simp only [wordT, HM.out]; rw [piece_none]; rfl
          · show Ok (wordS s.data.toList namedB mo (some M)) _ _ _
            simp only [wordS, HM.out, if_true]
            exact .inr ⟨hw3, rfl⟩
        · have hbe : ((M : Int) == (a : Int)) = false := by simp; omega
          go_wp2_with fail
          go_quiet (fail)
          go_wp2_with fail
          go_ret
          refine ⟨_, rfl, ?_, HK2.out.drewN _, M, 0, 0, ?_, by omega, by omega, HB2.out.drewN _⟩
          · show _ = _
            rw [HX.out]; simp only [wordT, HM.out]
          · show Ok (wordS s.data.toList namedB mo (some a)) _ _ _
            simp only [wordS, HM.out]
            rw [if_neg hma]
            exact .inl ⟨rfl, rfl, rfl⟩
  · have HWt := Lib.hid (fun w (h : RvAt w g s a why fat) => (show Calls Tryz.prog 52 #[.pointer (some ⟨g, 0, none⟩)] w fun e w' => e = .returned (.bool false) ∧ w' = w from well_any s g a why fat none (.inr ⟨hw, rfl⟩) w h))
    have HX := Lib.hid ((extract_piece s a a).trans (congrArg Rw.bytes (piece_none _ a)))
    have HFk := Lib.hid (HF.out a why fat none (.inr ⟨hw, rfl⟩))
    have hbe : ((a : Int) == (a : Int)) = true := by simp
    have HB := H
    clear h
    go_enter Tryz.func50, Tryz.ntmps50
    go_wp2_with fail
    go_loopg [] 0 (fun _ wx => Hid (Keeps (· = g) w wx) ∧ Hid (RvAt wx g s a why fat))
    case atStart => exact ⟨Keeps.refl _ _, H.out⟩
    case round =>
      obtain ⟨HK, HB⟩ := hrel
      have c0 : wr.cell? ⟨g, 0, none⟩ = some (.string s) := HB.out.cell 0
      have c1 : wr.cell? ⟨g, 1, none⟩ = some (.int .i64 (a : Int)) := HB.out.cell 1
      go_wp2_with fail
      go_quiet (first | (go_at_call 52; exact Calls.quiet_of_same (HWt.out _ (HB.out.drewN _))))
      have HK2 := Lib.hid (HK.out.drewN nq)
      have HB2 := Lib.hid (HB.out.drewN nq)
      generalize wr.drewN nq = w2 at *
      have d0 : w2.cell? ⟨g, 0, none⟩ = some (.string s) := HB2.out.cell 0
      have d1 : w2.cell? ⟨g, 1, none⟩ = some (.int .i64 (a : Int)) := HB2.out.cell 1
      clear c0 c1
      go_wp2_with (go_at_call 88; refine (HFk.out _ HB2.out).mono ?_; rintro e w3 ⟨rfl, hk3, why3, fat3, hw3, hr3⟩; have HR3 := Lib.hid hr3; have d0 : w3.cell? ⟨g, 0, none⟩ = some (.string s) := hr3.cell 0; have d1 : w3.cell? ⟨g, 1, none⟩ = some (.int .i64 (a : Int)) := hr3.cell 1; have HK3 := Lib.hid (HK2.out.trans hk3); clear hr3 hk3)
      go_quiet (fail)
      go_wp2_with fail
      go_ret
      exact ⟨_, rfl, Lib.hid rfl, HK3.out.drewN _, a, why3, fat3, .inr ⟨hw3, rfl⟩, Nat.le_refl _, ha, HR3.out.drewN _⟩
end
end Rv
end Go.Proofs.YtnbhaokbaonjkaaGreatDoor
