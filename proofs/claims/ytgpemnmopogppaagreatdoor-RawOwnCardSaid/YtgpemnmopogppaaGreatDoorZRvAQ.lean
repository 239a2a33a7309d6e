import Derived.Test.YtgpemnmopogppaaGreatDoorZRwMQ
import Derived.Laws.StructEq
import Derived.Laws.EntriesVeiled
import Derived.Test.YtgpemnmopogppaaGreatDoorZRwAQ
import Derived.Deep.DeepCutAuto
import Derived.Test.YtgpemnmopogppaaGreatDoorZRwQQ
import Derived.Deep.CutBlock
set_option maxRecDepth 1000000
set_option maxHeartbeats 16000000
namespace Go.Proofs.YtgpemnmopogppaaGreatDoor
open Go.Proofs.Tryz
open Go Go.RowKit
namespace Rv
open Rw
abbrev RvAt (w : World) (g : Nat) (s : ByteArray) (a : Nat) (why fat : Int) : Prop := Blk w g 91 #[.string s, .int .i64 (a : Int), .int .i64 why, .int .i64 fat]
def Ok (st : Option Nat) (a : Nat) (why fat : Int) : Prop := (why = 0 ∧ fat = 0 ∧ st = some a) ∨ (why ≠ 0 ∧ st = none)
section
variable (s : ByteArray) (g : Nat)
theorem well_any (a : Nat) (why fat : Int) (st : Option Nat) (ho : Ok st a why fat) (w : World) (h : RvAt w g s a why fat) :
  Calls prog 56 #[.pointer (some ⟨g, 0, none⟩)] w fun e w' => e = .returned (.bool st.isSome) ∧ w' = w := by
 have c2 : w.cell? ⟨g, 2, none⟩ = some (.int .i64 why) := h.cell 2
 have c3 : w.cell? ⟨g, 3, none⟩ = some (.int .i64 fat) := h.cell 3
 clear h
 rcases ho with ⟨rfl, rfl, rfl⟩ | ⟨hw, rfl⟩
 · go_enter func56, ntmps56
   go_wp2_with fail
   go_ret
   exact ⟨rfl, rfl⟩
 · have hb : (why == 0) = false := beq_eq_false_iff_ne.2 hw
   go_enter func56, ntmps56
   go_wp2_with fail
   go_ret
   exact ⟨rfl, rfl⟩
theorem fails_any (a : Nat) (why fat : Int) (st : Option Nat) (ho : Ok st a why fat) (w : World) (h : RvAt w g s a why fat) :
  Calls prog 101 #[.pointer (some ⟨g, 0, none⟩)] w fun e w' => e = .returned (.tuple #[]) ∧ Keeps (· = g) w w' ∧ ∃ why' fat', why' ≠ 0 ∧ RvAt w' g s a why' fat' := by
 have HW := lH (fun w h => well_any s g a why fat st ho w h)
 have H := lH h
 rcases ho with ⟨rfl, rfl, rfl⟩ | ⟨hw, rfl⟩
 · have c0 : w.cell? ⟨g, 0, none⟩ = some (.string s) := h.cell 0
   have c1 : w.cell? ⟨g, 1, none⟩ = some (.int .i64 (a : Int)) := h.cell 1
   have c2 : w.cell? ⟨g, 2, none⟩ = some (.int .i64 0) := h.cell 2
   have c3 : w.cell? ⟨g, 3, none⟩ = some (.int .i64 0) := h.cell 3
   have z2 := h.frozen 2
   have z3 := h.frozen 3
   clear h
   go_enter func101, ntmps101
   go_wp2_with (go_at_call 56; refine (HW.out _ H.out).mono ?_; rintro e w1 ⟨rfl, hw1⟩; rw [hw1]; clear hw1 w1)
   have H2 := lH ((H.out.set_ 2 (.int .i64 7)).set_ 3 (.int .i64 (a : Int)))
   have HK := lH (((Keeps.refl (· = g) w).setCell (p := ⟨g, 2, none⟩) (.inl rfl) (.int .i64 7)).setCell (p := ⟨g, 3, none⟩) (.inl rfl) (.int .i64 (a : Int)))
   generalize (w.setCell ⟨g, 2, none⟩ (.int .i64 7)).setCell ⟨g, 3, none⟩ (.int .i64 (a : Int)) = w2 at *
   have c0 : w2.cell? ⟨g, 0, none⟩ = some (.string s) := H2.out.cell 0
   have c1 : w2.cell? ⟨g, 1, none⟩ = some (.int .i64 (a : Int)) := H2.out.cell 1
   have c2 : w2.cell? ⟨g, 2, none⟩ = some (.int .i64 7) := H2.out.cell 2
   have z2 := H2.out.frozen 2
   go_quiet (fail)
   by_cases hle : (s.size : Int) ≤ (a : Int)
   · go_wp2_with fail
     go_end0
     exact ⟨rfl, (HK.out.drewN _).setCell (p := ⟨g, 2, none⟩) (.inl rfl) _, 10, (a : Int), by decide, (H2.out.drewN _).set_ 2 _⟩
   · have hle2 : (a : Int) < (s.size : Int) := by omega
     go_wp2_with fail
     go_end0
     first | exact ⟨rfl, HK.out.drewN _, 7, (a : Int), by decide, H2.out.drewN _⟩ | exact ⟨rfl, HK.out.drewN _, 7, by decide, (a : Int), H2.out.drewN _⟩
 · go_enter func101, ntmps101
   go_wp2_with (go_at_call 56; refine (HW.out _ H.out).mono ?_; rintro e w1 ⟨rfl, hw1⟩; rw [hw1]; clear hw1 w1)
   go_end0
   exact ⟨rfl, Keeps.refl _ _, why, fat, hw, H.out⟩
def Left (a0 : Nat) (st : Option Nat) (w w' : World) : Prop := Keeps (· = g) w w' ∧ ∃ a why fat, Hid (Ok st a why fat) ∧ a0 ≤ a ∧ a ≤ s.size ∧ Hid (RvAt w' g s a why fat)
theorem must_any (t : ByteArray) (a : Nat) (why fat : Int) (st : Option Nat) (ho : Ok st a why fat) (w : World) (h : RvAt w g s a why fat) (hs : s.size ≤ 1000000) (ht : t.size ≤ 1000000) (ha : a ≤ s.size) :
  Calls prog 55 #[.pointer (some ⟨g, 0, none⟩), .string t] w fun e w' => e = .returned (.tuple #[]) ∧ Left s g a (st.bind (mustN s.data.toList t.data.toList)) w w' := by
 have HW := lH (fun a why fat st ho w h => well_any s g a why fat st ho w h)
 have HF := lH (fun a why fat st ho w h => fails_any s g a why fat st ho w h)
 have H := lH h
 have HO := lH ho
 have HLs := lH (Lib.size_eq s)
 have HLt := lH (Lib.size_eq t)
 obtain ⟨M, HM⟩ : ∃ z, Hid (st.bind (mustN s.data.toList t.data.toList) = z) := ⟨_, rfl⟩
 rw [HM.out]
 clear h ho
 go_enter func55, ntmps55
 go_wp2_with fail
 go_loopw [4] (fun x wx => ∃ i k why fat st, i ≤ t.size ∧ a ≤ k ∧ k ≤ s.size ∧ x = .int .i64 (i : Nat) ∧ Hid (Ok st k why fat) ∧ Hid (Keeps (· = g) w wx) ∧ Hid (RvAt wx g s k why fat) ∧ Hid (st.bind (mustN s.data.toList (t.data.toList.drop i)) = M)) (fun x _ => t.size - (ixOf x).toNat)
 case atStart => exact ⟨0, a, why, fat, st, Nat.zero_le _, Nat.le_refl _, ha, rfl, HO, Keeps.refl _ _, H, HM⟩
 case round =>
  clear H HO HM
  obtain ⟨i, k, why, fat, st, hi, hak, hk, rfl, HO, HK, HB, HR⟩ := hrel
  have HWk := lH (HW.out k why fat st HO.out)
  by_cases hlt : i < t.size
  · have hI : (i : Int) < (t.size : Int) := by omega
    rcases HO.out with ⟨rfl, rfl, rfl⟩ | ⟨hw, rfl⟩
    · have HFk := lH (HF.out k 0 0 (some k) HO.out)
      have c0 : wr.cell? ⟨g, 0, none⟩ = some (.string s) := HB.out.cell 0
      have c1 : wr.cell? ⟨g, 1, none⟩ = some (.int .i64 (k : Int)) := HB.out.cell 1
      have z1 := HB.out.frozen 1
      have HS : Hid (mustN s.data.toList (t.data.toList.drop i) k = if s.data.toList[k]? = some t.data.toList[i] then mustN s.data.toList (t.data.toList.drop (i + 1)) (k + 1) else none) := must_step (by rw [← HLt.out]; exact hlt)
      have HR1 : Hid (mustN s.data.toList (t.data.toList.drop i) k = M) := HR.out
      have et : t[i] = t.data.toList[i] := by simp [ByteArray.getElem_eq_getElem_data]
      rw [← et] at HS
      clear et
      by_cases hks : k < s.size
      · have es : s.data.toList[k]? = some s[k] := by rw [List.getElem?_eq_getElem (by rw [← HLs.out]; exact hks)]; simp [ByteArray.getElem_eq_getElem_data]
        rw [es] at HS
        clear es
        have hJ : (k : Int) < (s.size : Int) := by omega
        have hN : ¬ (s.size ≤ k) := by omega
        generalize hc : s[k] = c at *
        generalize hd : t[i] = d at *
        have hc1 := c.toNat_lt
        have hd1 := d.toNat_lt
        cases he : ((c.toNat : Int) == (d.toNat : Int)) with
        | true =>
         have HE : Hid (c = d) := UInt8.toNat_inj.1 (by have := eq_of_beq he; omega)
         have hb : ((c.toNat : Int) != (d.toNat : Int)) = false := by rw [bne, he]; rfl
         have HR2 : Hid ((some (k + 1)).bind (mustN s.data.toList (t.data.toList.drop (i + 1))) = M) := by show _ = _; rw [← HR1.out, HS.out, if_pos (by rw [HE.out])]; rfl
         have h1 : IntKind.i64.wrap ((k : Int) + 1) = ((k + 1 : Nat) : Int) := by rw [IntWalk.i64_in _ (by omega)]; rfl
         clear HR HR1 HS HE
         go_wp2_with (go_at_call 56; refine (HWk.out _ HB.out).mono ?_; rintro e w1 ⟨rfl, rfl⟩)
         go_quiet (fail)
         go_wp2_with fail
         go_roundw
         case rel => exact ⟨i + 1, k + 1, 0, 0, some (k + 1), by omega, by omega, by omega, by go_num, .inl ⟨rfl, rfl, rfl⟩, (HK.out.drewN _).setCell (p := ⟨g, 1, none⟩) (.inl rfl) _, (HB.out.drewN _).set_ 1 _, HR2.out⟩
         case measure => simp [ixOf] <;> omega
        | false =>
         have hb : ((c.toNat : Int) != (d.toNat : Int)) = true := by rw [bne, he]; rfl
         have hM : M = none := by rw [← HR1.out, HS.out, if_neg (by intro e; simp only [Option.some.injEq] at e; subst e; simp at he)]
         subst hM
         clear HR HR1 HS
         go_wp2_with (go_at_call 56; refine (HWk.out _ HB.out).mono ?_; rintro e w1 ⟨rfl, rfl⟩)
         go_quiet (fail)
         have HB2 := lH (HB.out.drewN nq)
         go_wp2_with (go_at_call 101; refine (HFk.out _ HB2.out).mono ?_; rintro e w1 ⟨rfl, hk1, why1, fat1, hw1, hr1⟩)
         go_roundw
         case rel => exact ⟨i + 1, k, why1, fat1, none, by omega, hak, hk, by go_num, .inr ⟨hw1, rfl⟩, (HK.out.drewN _).trans hk1, hr1, rfl⟩
         case measure => simp [ixOf] <;> omega
      · have hJ : ¬ ((k : Int) < (s.size : Int)) := by omega
        have hJ2 : (s.size : Int) ≤ (k : Int) := by omega
        have hN : s.size ≤ k := by omega
        have hM : M = none := by rw [← HR1.out, HS.out, if_neg (by rw [List.getElem?_eq_none (by rw [← HLs.out]; omega)]; simp)]
        subst hM
        clear HR HR1 HS
        go_wp2_with (go_at_call 56; refine (HWk.out _ HB.out).mono ?_; rintro e w1 ⟨rfl, rfl⟩)
        go_quiet (fail)
        have HB2 := lH (HB.out.drewN nq)
        go_wp2_with (go_at_call 101; refine (HFk.out _ HB2.out).mono ?_; rintro e w1 ⟨rfl, hk1, why1, fat1, hw1, hr1⟩)
        go_roundw
        case rel => exact ⟨i + 1, k, why1, fat1, none, by omega, hak, hk, by go_num, .inr ⟨hw1, rfl⟩, (HK.out.drewN _).trans hk1, hr1, rfl⟩
        case measure => simp [ixOf] <;> omega
    · have hM : M = none := HR.out.symm
      subst hM
      clear HR
      go_wp2_with (go_at_call 56; refine (HWk.out _ HB.out).mono ?_; rintro e w1 ⟨rfl, rfl⟩)
      go_end0
      exact ⟨rfl, HK.out, k, why, fat, HO, hak, hk, HB⟩
  · obtain rfl : i = t.size := by omega
    have hM : M = st := by
     rw [← HR.out, List.drop_eq_nil_of_le (by rw [← HLt.out]; exact Nat.le_refl _)]
     cases st <;> rfl
    subst hM
    clear HR
    go_wp2_with fail
    go_end0
    exact ⟨rfl, HK.out, k, why, fat, HO, hak, hk, HB⟩
end
end Rv
open Go.RowKit
namespace Rv
open Rw
def wordT (L : Bytes) (P : UInt8 → Bool) (mo : Nat) : Option Nat → Bytes
 | some a => piece L a (whileN L P mo a)
 | none => []
def wordS (L : Bytes) (P : UInt8 → Bool) (mo : Nat) : Option Nat → Option Nat
 | some a => if whileN L P mo a = a then none else some (whileN L P mo a)
 | none => none
theorem piece_none (l : Bytes) (a : Nat) : piece l a a = [] := by simp [piece]
theorem up_named {c : UInt8} (h : upB c = true) : namedB c = true := by simp [namedB, h]
section
variable (s : ByteArray) (g : Nat)
theorem word_f (mo a : Nat) (why fat : Int) (st : Option Nat) (ho : Ok st a why fat) (w : World) (h : RvAt w g s a why fat) (hs : s.size ≤ 1000000) (hm : mo ≤ 1000000) (ha : a ≤ s.size) :
  Calls prog 54 #[.pointer (some ⟨g, 0, none⟩), .bool false, .int .i64 (mo : Int)] w fun e w' => ∃ X, e = .returned (.string X) ∧ Hid (X = Rw.bytes (wordT s.data.toList upB mo st)) ∧ Left s g a (wordS s.data.toList upB mo st) w w' := by
 have HF := lH (fun a why fat st ho w h => fails_any s g a why fat st ho w h)
 have H := lH h
 have HLs := lH (Lib.size_eq s)
 have c0 : w.cell? ⟨g, 0, none⟩ = some (.string s) := h.cell 0
 have c1 : w.cell? ⟨g, 1, none⟩ = some (.int .i64 (a : Int)) := h.cell 1
 have hq0 : (0 : Int) ≤ (a : Int) := by omega
 have hqa : (a : Int) ≤ (s.size : Int) := by omega
 rcases ho with ⟨rfl, rfl, rfl⟩ | ⟨hw, rfl⟩
 · have HWt := lH (fun k w (h : RvAt w g s k 0 0) => (show Calls prog 56 #[.pointer (some ⟨g, 0, none⟩)] w fun e w' => e = .returned (.bool true) ∧ w' = w from well_any s g k 0 0 (some k) (.inl ⟨rfl, rfl, rfl⟩) w h))
   have HX := lH (extract_piece s a (whileN s.data.toList upB mo a))
   have HZ := lH (while_le upB mo (show a ≤ s.data.toList.length by rw [← HLs.out]; exact ha))
   have hge := while_ge s.data.toList upB mo a
   obtain ⟨M, HM⟩ : ∃ z, Hid (whileN s.data.toList upB mo a = z) := ⟨_, rfl⟩
   rw [HM.out] at HX HZ hge
   have hMz : M ≤ s.size := by rw [HLs.out]; exact HZ.out
   have hq1 : (a : Int) ≤ (M : Int) := by omega
   have hq2 : (M : Int) ≤ (s.size : Int) := by omega
   have hqM : (0 : Int) ≤ (M : Int) := by omega
   clear h
   go_enter func54, ntmps54
   go_wp2_with fail
   clear c0 c1
   go_loopg [] (s.size - a) (fun gk wx => ∃ k r : Nat, gk + k = s.size ∧ a ≤ k ∧ k + r = a + mo ∧ Hid (Keeps (· = g) w wx) ∧ Hid (RvAt wx g s k 0 0) ∧ Hid (whileN s.data.toList upB r k = M))
   case atStart => exact ⟨a, mo, by omega, Nat.le_refl _, rfl, Keeps.refl _ _, H.out, HM.out⟩
   case round =>
    obtain ⟨k, r, hk, hak, hkr, HK, HB, HR⟩ := hrel
    have c0 : wr.cell? ⟨g, 0, none⟩ = some (.string s) := HB.out.cell 0
    have c1 : wr.cell? ⟨g, 1, none⟩ = some (.int .i64 (k : Int)) := HB.out.cell 1
    have z1 := HB.out.frozen 1
    have hw1 : IntKind.i64.wrap ((k : Int) - (a : Int)) = (k : Int) - (a : Int) := IntWalk.i64_in _ (by omega)
    have HWt := lH (HWt.out k)
    by_cases hks : k < s.size
    · have hJ : (k : Int) < (s.size : Int) := by omega
      by_cases hr : 0 < r
      · have hJ2 : (k : Int) - (a : Int) < (mo : Int) := by omega
        have hlt' : k < s.data.toList.length := by rw [← HLs.out]; exact hks
        have HS : Hid (whileN s.data.toList upB r k = if upB s.data.toList[k] = true then whileN s.data.toList upB (r - 1) (k + 1) else k) := by
         have := while_step upB (r - 1) hlt'
         rw [show r - 1 + 1 = r by omega] at this
         exact this
        have es : s[k] = s.data.toList[k] := by simp [ByteArray.getElem_eq_getElem_data]
        rw [← es] at HS
        clear es
        generalize hc : s[k] = c at *
        have hc1 := c.toNat_lt
        have HUc := lH (fun w => upper_any _ rfl c w)
        have HNc := lH (fun w => rnamed_any _ rfl c w)
        cases hu : upB c with
        | true =>
         rw [hu] at HUc
         have hp : upB c = true := hu
         have HR2 : Hid (whileN s.data.toList upB (r - 1) (k + 1) = M) := by show _ = _; rw [← HR.out, HS.out, if_pos hp]
         have h1 : IntKind.i64.wrap ((k : Int) + 1) = ((k + 1 : Nat) : Int) := by rw [IntWalk.i64_in _ (by omega)]; rfl
         clear HR HS
         go_wp2_with fail
         go_quiet (first | (go_at_call 56; exact Calls.quiet_of_same (HWt.out _ (HB.out.drewN _))) | (go_at_call 99; exact Calls.quiet_of_same (HUc.out _)))
         go_wp2_with fail
         go_roundg (gk - 1)
         case rel => exact ⟨k + 1, r - 1, by omega, by omega, by omega, (HK.out.drewN _).setCell (p := ⟨g, 1, none⟩) (.inl rfl) _, (HB.out.drewN _).set_ 1 _, HR2.out⟩
         case measure => omega
        | false =>
         rw [hu] at HUc
         have hp : upB c = false := hu
         have hM : M = k := by rw [← HR.out, HS.out, if_neg (by rw [hp]; decide)]
         subst hM
         clear HR HS
         go_wp2_with fail
         go_quiet (first | (go_at_call 56; exact Calls.quiet_of_same (HWt.out _ (HB.out.drewN _))) | (go_at_call 99; exact Calls.quiet_of_same (HUc.out _)))
         have HK2 := lH (HK.out.drewN nq)
         have HB2 := lH (HB.out.drewN nq)
         generalize wr.drewN nq = w2 at *
         have d0 : w2.cell? ⟨g, 0, none⟩ = some (.string s) := HB2.out.cell 0
         have d1 : w2.cell? ⟨g, 1, none⟩ = some (.int .i64 (M : Int)) := HB2.out.cell 1
         clear c0 c1 z1
         by_cases hma : M = a
         · subst hma
           have hbe : ((M : Int) == (M : Int)) = true := by simp
           have HFk := lH (HF.out M 0 0 (some M) (.inl ⟨rfl, rfl, rfl⟩))
           go_wp2_with (go_at_call 101; refine (HFk.out _ HB2.out).mono ?_; rintro e w3 ⟨rfl, hk3, why3, fat3, hw3, hr3⟩; have HR3 := lH hr3; have d0 : w3.cell? ⟨g, 0, none⟩ = some (.string s) := hr3.cell 0; have d1 : w3.cell? ⟨g, 1, none⟩ = some (.int .i64 (M : Int)) := hr3.cell 1; have HK3 := lH (HK2.out.trans hk3); clear hr3 hk3)
           go_quiet (fail)
           go_wp2_with fail
           go_ret
           refine ⟨_, rfl, ?_, HK3.out.drewN _, M, why3, fat3, ?_, by omega, by omega, HR3.out.drewN _⟩
           · show _ = _
             simp only [wordT, HM.out]; rw [piece_none]; rfl
           · show Ok (wordS s.data.toList upB mo (some M)) _ _ _
             simp only [wordS, HM.out, if_true]
             exact .inr ⟨hw3, rfl⟩
         · have hbe : ((M : Int) == (a : Int)) = false := by simp; omega
           go_wp2_with fail
           go_quiet (fail)
           go_wp2_with fail
           go_ret
           refine ⟨_, rfl, ?_, HK2.out.drewN _, M, 0, 0, ?_, by omega, by omega, HB2.out.drewN _⟩
           · show _ = _
             rw [HX.out]; simp only [wordT, HM.out]
           · show Ok (wordS s.data.toList upB mo (some a)) _ _ _
             simp only [wordS, HM.out]
             rw [if_neg hma]
             exact .inl ⟨rfl, rfl, rfl⟩
      · have hJ2 : ¬ ((k : Int) - (a : Int) < (mo : Int)) := by omega
        have hd2 : decide ((k : Int) - (a : Int) < (mo : Int)) = false := decide_eq_false hJ2
        obtain rfl : r = 0 := by omega
        have hM : M = k := by rw [← HR.out, while_zero]
        subst hM
        clear HR
        go_wp2_with fail
        go_quiet (first | (go_at_call 56; exact Calls.quiet_of_same (HWt.out _ (HB.out.drewN _))))
        have HK2 := lH (HK.out.drewN nq)
        have HB2 := lH (HB.out.drewN nq)
        generalize wr.drewN nq = w2 at *
        have d0 : w2.cell? ⟨g, 0, none⟩ = some (.string s) := HB2.out.cell 0
        have d1 : w2.cell? ⟨g, 1, none⟩ = some (.int .i64 (M : Int)) := HB2.out.cell 1
        clear c0 c1 z1
        by_cases hma : M = a
        · subst hma
          have hbe : ((M : Int) == (M : Int)) = true := by simp
          have HFk := lH (HF.out M 0 0 (some M) (.inl ⟨rfl, rfl, rfl⟩))
          go_wp2_with (go_at_call 101; refine (HFk.out _ HB2.out).mono ?_; rintro e w3 ⟨rfl, hk3, why3, fat3, hw3, hr3⟩; have HR3 := lH hr3; have d0 : w3.cell? ⟨g, 0, none⟩ = some (.string s) := hr3.cell 0; have d1 : w3.cell? ⟨g, 1, none⟩ = some (.int .i64 (M : Int)) := hr3.cell 1; have HK3 := lH (HK2.out.trans hk3); clear hr3 hk3)
          go_quiet (fail)
          go_wp2_with fail
          go_ret
          refine ⟨_, rfl, ?_, HK3.out.drewN _, M, why3, fat3, ?_, by omega, by omega, HR3.out.drewN _⟩
          · show _ = _
            simp only [wordT, HM.out]; rw [piece_none]; rfl
          · show Ok (wordS s.data.toList upB mo (some M)) _ _ _
            simp only [wordS, HM.out, if_true]
            exact .inr ⟨hw3, rfl⟩
        · have hbe : ((M : Int) == (a : Int)) = false := by simp; omega
          go_wp2_with fail
          go_quiet (fail)
          go_wp2_with fail
          go_ret
          refine ⟨_, rfl, ?_, HK2.out.drewN _, M, 0, 0, ?_, by omega, by omega, HB2.out.drewN _⟩
          · show _ = _
            rw [HX.out]; simp only [wordT, HM.out]
          · show Ok (wordS s.data.toList upB mo (some a)) _ _ _
            simp only [wordS, HM.out]
            rw [if_neg hma]
            exact .inl ⟨rfl, rfl, rfl⟩
    · have hJ : ¬ ((k : Int) < (s.size : Int)) := by omega
      have hM : M = k := by rw [← HR.out, while_end upB r (by rw [← HLs.out]; omega)]
      subst hM
      clear HR
      go_wp2_with fail
      go_quiet (first | (go_at_call 56; exact Calls.quiet_of_same (HWt.out _ (HB.out.drewN _))))
      have HK2 := lH (HK.out.drewN nq)
      have HB2 := lH (HB.out.drewN nq)
      generalize wr.drewN nq = w2 at *
      have d0 : w2.cell? ⟨g, 0, none⟩ = some (.string s) := HB2.out.cell 0
      have d1 : w2.cell? ⟨g, 1, none⟩ = some (.int .i64 (M : Int)) := HB2.out.cell 1
      clear c0 c1 z1
      by_cases hma : M = a
      · subst hma
        have hbe : ((M : Int) == (M : Int)) = true := by simp
        have HFk := lH (HF.out M 0 0 (some M) (.inl ⟨rfl, rfl, rfl⟩))
        go_wp2_with (go_at_call 101; refine (HFk.out _ HB2.out).mono ?_; rintro e w3 ⟨rfl, hk3, why3, fat3, hw3, hr3⟩; have HR3 := lH hr3; have d0 : w3.cell? ⟨g, 0, none⟩ = some (.string s) := hr3.cell 0; have d1 : w3.cell? ⟨g, 1, none⟩ = some (.int .i64 (M : Int)) := hr3.cell 1; have HK3 := lH (HK2.out.trans hk3); clear hr3 hk3)
        go_quiet (fail)
        go_wp2_with fail
        go_ret
        refine ⟨_, rfl, ?_, HK3.out.drewN _, M, why3, fat3, ?_, by omega, by omega, HR3.out.drewN _⟩
        · show _ = _
          simp only [wordT, HM.out]; rw [piece_none]; rfl
        · show Ok (wordS s.data.toList upB mo (some M)) _ _ _
          simp only [wordS, HM.out, if_true]
          exact .inr ⟨hw3, rfl⟩
      · have hbe : ((M : Int) == (a : Int)) = false := by simp; omega
        go_wp2_with fail
        go_quiet (fail)
        go_wp2_with fail
        go_ret
        refine ⟨_, rfl, ?_, HK2.out.drewN _, M, 0, 0, ?_, by omega, by omega, HB2.out.drewN _⟩
        · show _ = _
          rw [HX.out]; simp only [wordT, HM.out]
        · show Ok (wordS s.data.toList upB mo (some a)) _ _ _
          simp only [wordS, HM.out]
          rw [if_neg hma]
          exact .inl ⟨rfl, rfl, rfl⟩
 · have HWt := lH (fun w (h : RvAt w g s a why fat) => (show Calls prog 56 #[.pointer (some ⟨g, 0, none⟩)] w fun e w' => e = .returned (.bool false) ∧ w' = w from well_any s g a why fat none (.inr ⟨hw, rfl⟩) w h))
   have HX := lH ((extract_piece s a a).trans (congrArg Rw.bytes (piece_none _ a)))
   have HFk := lH (HF.out a why fat none (.inr ⟨hw, rfl⟩))
   have hbe : ((a : Int) == (a : Int)) = true := by simp
   have HB := H
   clear h
   go_enter func54, ntmps54
   go_wp2_with fail
   go_loopg [] 0 (fun _ wx => Hid (Keeps (· = g) w wx) ∧ Hid (RvAt wx g s a why fat))
   case atStart => exact ⟨Keeps.refl _ _, H.out⟩
   case round =>
    obtain ⟨HK, HB⟩ := hrel
    have c0 : wr.cell? ⟨g, 0, none⟩ = some (.string s) := HB.out.cell 0
    have c1 : wr.cell? ⟨g, 1, none⟩ = some (.int .i64 (a : Int)) := HB.out.cell 1
    go_wp2_with fail
    go_quiet (first | (go_at_call 56; exact Calls.quiet_of_same (HWt.out _ (HB.out.drewN _))))
    have HK2 := lH (HK.out.drewN nq)
    have HB2 := lH (HB.out.drewN nq)
    generalize wr.drewN nq = w2 at *
    have d0 : w2.cell? ⟨g, 0, none⟩ = some (.string s) := HB2.out.cell 0
    have d1 : w2.cell? ⟨g, 1, none⟩ = some (.int .i64 (a : Int)) := HB2.out.cell 1
    clear c0 c1
    go_wp2_with (go_at_call 101; refine (HFk.out _ HB2.out).mono ?_; rintro e w3 ⟨rfl, hk3, why3, fat3, hw3, hr3⟩; have HR3 := lH hr3; have d0 : w3.cell? ⟨g, 0, none⟩ = some (.string s) := hr3.cell 0; have d1 : w3.cell? ⟨g, 1, none⟩ = some (.int .i64 (a : Int)) := hr3.cell 1; have HK3 := lH (HK2.out.trans hk3); clear hr3 hk3)
    go_quiet (fail)
    go_wp2_with fail
    go_ret
    exact ⟨_, rfl, lH rfl, HK3.out.drewN _, a, why3, fat3, .inr ⟨hw3, rfl⟩, Nat.le_refl _, ha, HR3.out.drewN _⟩
theorem word_t (mo a : Nat) (why fat : Int) (st : Option Nat) (ho : Ok st a why fat) (w : World) (h : RvAt w g s a why fat) (hs : s.size ≤ 1000000) (hm : mo ≤ 1000000) (ha : a ≤ s.size) :
  Calls prog 54 #[.pointer (some ⟨g, 0, none⟩), .bool true, .int .i64 (mo : Int)] w fun e w' => ∃ X, e = .returned (.string X) ∧ Hid (X = Rw.bytes (wordT s.data.toList namedB mo st)) ∧ Left s g a (wordS s.data.toList namedB mo st) w w' := by
 have HF := lH (fun a why fat st ho w h => fails_any s g a why fat st ho w h)
 have H := lH h
 have HLs := lH (Lib.size_eq s)
 have c0 : w.cell? ⟨g, 0, none⟩ = some (.string s) := h.cell 0
 have c1 : w.cell? ⟨g, 1, none⟩ = some (.int .i64 (a : Int)) := h.cell 1
 have hq0 : (0 : Int) ≤ (a : Int) := by omega
 have hqa : (a : Int) ≤ (s.size : Int) := by omega
 rcases ho with ⟨rfl, rfl, rfl⟩ | ⟨hw, rfl⟩
 · have HWt := lH (fun k w (h : RvAt w g s k 0 0) => (show Calls prog 56 #[.pointer (some ⟨g, 0, none⟩)] w fun e w' => e = .returned (.bool true) ∧ w' = w from well_any s g k 0 0 (some k) (.inl ⟨rfl, rfl, rfl⟩) w h))
   have HX := lH (extract_piece s a (whileN s.data.toList namedB mo a))
   have HZ := lH (while_le namedB mo (show a ≤ s.data.toList.length by rw [← HLs.out]; exact ha))
   have hge := while_ge s.data.toList namedB mo a
   obtain ⟨M, HM⟩ : ∃ z, Hid (whileN s.data.toList namedB mo a = z) := ⟨_, rfl⟩
   rw [HM.out] at HX HZ hge
   have hMz : M ≤ s.size := by rw [HLs.out]; exact HZ.out
   have hq1 : (a : Int) ≤ (M : Int) := by omega
   have hq2 : (M : Int) ≤ (s.size : Int) := by omega
   have hqM : (0 : Int) ≤ (M : Int) := by omega
   clear h
   go_enter func54, ntmps54
   go_wp2_with fail
   clear c0 c1
   go_loopg [] (s.size - a) (fun gk wx => ∃ k r : Nat, gk + k = s.size ∧ a ≤ k ∧ k + r = a + mo ∧ Hid (Keeps (· = g) w wx) ∧ Hid (RvAt wx g s k 0 0) ∧ Hid (whileN s.data.toList namedB r k = M))
   case atStart => exact ⟨a, mo, by omega, Nat.le_refl _, rfl, Keeps.refl _ _, H.out, HM.out⟩
   case round =>
    obtain ⟨k, r, hk, hak, hkr, HK, HB, HR⟩ := hrel
    have c0 : wr.cell? ⟨g, 0, none⟩ = some (.string s) := HB.out.cell 0
    have c1 : wr.cell? ⟨g, 1, none⟩ = some (.int .i64 (k : Int)) := HB.out.cell 1
    have z1 := HB.out.frozen 1
    have hw1 : IntKind.i64.wrap ((k : Int) - (a : Int)) = (k : Int) - (a : Int) := IntWalk.i64_in _ (by omega)
    have HWt := lH (HWt.out k)
    by_cases hks : k < s.size
    · have hJ : (k : Int) < (s.size : Int) := by omega
      by_cases hr : 0 < r
      · have hJ2 : (k : Int) - (a : Int) < (mo : Int) := by omega
        have hlt' : k < s.data.toList.length := by rw [← HLs.out]; exact hks
        have HS : Hid (whileN s.data.toList namedB r k = if namedB s.data.toList[k] = true then whileN s.data.toList namedB (r - 1) (k + 1) else k) := by
         have := while_step namedB (r - 1) hlt'
         rw [show r - 1 + 1 = r by omega] at this
         exact this
        have es : s[k] = s.data.toList[k] := by simp [ByteArray.getElem_eq_getElem_data]
        rw [← es] at HS
        clear es
        generalize hc : s[k] = c at *
        have hc1 := c.toNat_lt
        have HUc := lH (fun w => upper_any _ rfl c w)
        have HNc := lH (fun w => rnamed_any _ rfl c w)
        cases hu : upB c with
        | true =>
         rw [hu] at HUc
         have hp : namedB c = true := up_named hu
         have HR2 : Hid (whileN s.data.toList namedB (r - 1) (k + 1) = M) := by show _ = _; rw [← HR.out, HS.out, if_pos hp]
         have h1 : IntKind.i64.wrap ((k : Int) + 1) = ((k + 1 : Nat) : Int) := by rw [IntWalk.i64_in _ (by omega)]; rfl
         clear HR HS
         go_wp2_with fail
         go_quiet (first | (go_at_call 56; exact Calls.quiet_of_same (HWt.out _ (HB.out.drewN _))) | (go_at_call 99; exact Calls.quiet_of_same (HUc.out _)))
         go_wp2_with fail
         go_roundg (gk - 1)
         case rel => exact ⟨k + 1, r - 1, by omega, by omega, by omega, (HK.out.drewN _).setCell (p := ⟨g, 1, none⟩) (.inl rfl) _, (HB.out.drewN _).set_ 1 _, HR2.out⟩
         case measure => omega
        | false =>
         rw [hu] at HUc
         cases hp : namedB c with
         | true =>
          rw [hp] at HNc
          have HR2 : Hid (whileN s.data.toList namedB (r - 1) (k + 1) = M) := by show _ = _; rw [← HR.out, HS.out, if_pos hp]
          have h1 : IntKind.i64.wrap ((k : Int) + 1) = ((k + 1 : Nat) : Int) := by rw [IntWalk.i64_in _ (by omega)]; rfl
          clear HR HS
          go_wp2_with fail
          go_quiet (first | (go_at_call 56; exact Calls.quiet_of_same (HWt.out _ (HB.out.drewN _))) | (go_at_call 99; exact Calls.quiet_of_same (HUc.out _)) | (go_at_call 100; exact Calls.quiet_of_same (HNc.out _)))
          go_wp2_with fail
          go_roundg (gk - 1)
          case rel => exact ⟨k + 1, r - 1, by omega, by omega, by omega, (HK.out.drewN _).setCell (p := ⟨g, 1, none⟩) (.inl rfl) _, (HB.out.drewN _).set_ 1 _, HR2.out⟩
          case measure => omega
         | false =>
          rw [hp] at HNc
          have hM : M = k := by rw [← HR.out, HS.out, if_neg (by rw [hp]; decide)]
          subst hM
          clear HR HS
          go_wp2_with fail
          go_quiet (first | (go_at_call 56; exact Calls.quiet_of_same (HWt.out _ (HB.out.drewN _))) | (go_at_call 99; exact Calls.quiet_of_same (HUc.out _)) | (go_at_call 100; exact Calls.quiet_of_same (HNc.out _)))
          have HK2 := lH (HK.out.drewN nq)
          have HB2 := lH (HB.out.drewN nq)
          generalize wr.drewN nq = w2 at *
          have d0 : w2.cell? ⟨g, 0, none⟩ = some (.string s) := HB2.out.cell 0
          have d1 : w2.cell? ⟨g, 1, none⟩ = some (.int .i64 (M : Int)) := HB2.out.cell 1
          clear c0 c1 z1
          by_cases hma : M = a
          · subst hma
            have hbe : ((M : Int) == (M : Int)) = true := by simp
            have HFk := lH (HF.out M 0 0 (some M) (.inl ⟨rfl, rfl, rfl⟩))
            go_wp2_with (go_at_call 101; refine (HFk.out _ HB2.out).mono ?_; rintro e w3 ⟨rfl, hk3, why3, fat3, hw3, hr3⟩; have HR3 := lH hr3; have d0 : w3.cell? ⟨g, 0, none⟩ = some (.string s) := hr3.cell 0; have d1 : w3.cell? ⟨g, 1, none⟩ = some (.int .i64 (M : Int)) := hr3.cell 1; have HK3 := lH (HK2.out.trans hk3); clear hr3 hk3)
            go_quiet (fail)
            go_wp2_with fail
            go_ret
            refine ⟨_, rfl, ?_, HK3.out.drewN _, M, why3, fat3, ?_, by omega, by omega, HR3.out.drewN _⟩
            · show _ = _
              simp only [wordT, HM.out]; rw [piece_none]; rfl
            · show Ok (wordS s.data.toList namedB mo (some M)) _ _ _
              simp only [wordS, HM.out, if_true]
              exact .inr ⟨hw3, rfl⟩
          · have hbe : ((M : Int) == (a : Int)) = false := by simp; omega
            go_wp2_with fail
            go_quiet (fail)
            go_wp2_with fail
            go_ret
            refine ⟨_, rfl, ?_, HK2.out.drewN _, M, 0, 0, ?_, by omega, by omega, HB2.out.drewN _⟩
            · show _ = _
              rw [HX.out]; simp only [wordT, HM.out]
            · show Ok (wordS s.data.toList namedB mo (some a)) _ _ _
              simp only [wordS, HM.out]
              rw [if_neg hma]
              exact .inl ⟨rfl, rfl, rfl⟩
      · have hJ2 : ¬ ((k : Int) - (a : Int) < (mo : Int)) := by omega
        have hd2 : decide ((k : Int) - (a : Int) < (mo : Int)) = false := decide_eq_false hJ2
        obtain rfl : r = 0 := by omega
        have hM : M = k := by rw [← HR.out, while_zero]
        subst hM
        clear HR
        go_wp2_with fail
        go_quiet (first | (go_at_call 56; exact Calls.quiet_of_same (HWt.out _ (HB.out.drewN _))))
        have HK2 := lH (HK.out.drewN nq)
        have HB2 := lH (HB.out.drewN nq)
        generalize wr.drewN nq = w2 at *
        have d0 : w2.cell? ⟨g, 0, none⟩ = some (.string s) := HB2.out.cell 0
        have d1 : w2.cell? ⟨g, 1, none⟩ = some (.int .i64 (M : Int)) := HB2.out.cell 1
        clear c0 c1 z1
        by_cases hma : M = a
        · subst hma
          have hbe : ((M : Int) == (M : Int)) = true := by simp
          have HFk := lH (HF.out M 0 0 (some M) (.inl ⟨rfl, rfl, rfl⟩))
          go_wp2_with (go_at_call 101; refine (HFk.out _ HB2.out).mono ?_; rintro e w3 ⟨rfl, hk3, why3, fat3, hw3, hr3⟩; have HR3 := lH hr3; have d0 : w3.cell? ⟨g, 0, none⟩ = some (.string s) := hr3.cell 0; have d1 : w3.cell? ⟨g, 1, none⟩ = some (.int .i64 (M : Int)) := hr3.cell 1; have HK3 := lH (HK2.out.trans hk3); clear hr3 hk3)
          go_quiet (fail)
          go_wp2_with fail
          go_ret
          refine ⟨_, rfl, ?_, HK3.out.drewN _, M, why3, fat3, ?_, by omega, by omega, HR3.out.drewN _⟩
          · show _ = _
            simp only [wordT, HM.out]; rw [piece_none]; rfl
          · show Ok (wordS s.data.toList namedB mo (some M)) _ _ _
            simp only [wordS, HM.out, if_true]
            exact .inr ⟨hw3, rfl⟩
        · have hbe : ((M : Int) == (a : Int)) = false := by simp; omega
          go_wp2_with fail
          go_quiet (fail)
          go_wp2_with fail
          go_ret
          refine ⟨_, rfl, ?_, HK2.out.drewN _, M, 0, 0, ?_, by omega, by omega, HB2.out.drewN _⟩
          · show _ = _
            rw [HX.out]; simp only [wordT, HM.out]
          · show Ok (wordS s.data.toList namedB mo (some a)) _ _ _
            simp only [wordS, HM.out]
            rw [if_neg hma]
            exact .inl ⟨rfl, rfl, rfl⟩
    · have hJ : ¬ ((k : Int) < (s.size : Int)) := by omega
      have hM : M = k := by rw [← HR.out, while_end namedB r (by rw [← HLs.out]; omega)]
      subst hM
      clear HR
      go_wp2_with fail
      go_quiet (first | (go_at_call 56; exact Calls.quiet_of_same (HWt.out _ (HB.out.drewN _))))
      have HK2 := lH (HK.out.drewN nq)
      have HB2 := lH (HB.out.drewN nq)
      generalize wr.drewN nq = w2 at *
      have d0 : w2.cell? ⟨g, 0, none⟩ = some (.string s) := HB2.out.cell 0
      have d1 : w2.cell? ⟨g, 1, none⟩ = some (.int .i64 (M : Int)) := HB2.out.cell 1
      clear c0 c1 z1
      by_cases hma : M = a
      · subst hma
        have hbe : ((M : Int) == (M : Int)) = true := by simp
        have HFk := lH (HF.out M 0 0 (some M) (.inl ⟨rfl, rfl, rfl⟩))
        go_wp2_with (go_at_call 101; refine (HFk.out _ HB2.out).mono ?_; rintro e w3 ⟨rfl, hk3, why3, fat3, hw3, hr3⟩; have HR3 := lH hr3; have d0 : w3.cell? ⟨g, 0, none⟩ = some (.string s) := hr3.cell 0; have d1 : w3.cell? ⟨g, 1, none⟩ = some (.int .i64 (M : Int)) := hr3.cell 1; have HK3 := lH (HK2.out.trans hk3); clear hr3 hk3)
        go_quiet (fail)
        go_wp2_with fail
        go_ret
        refine ⟨_, rfl, ?_, HK3.out.drewN _, M, why3, fat3, ?_, by omega, by omega, HR3.out.drewN _⟩
        · show _ = _
          simp only [wordT, HM.out]; rw [piece_none]; rfl
        · show Ok (wordS s.data.toList namedB mo (some M)) _ _ _
          simp only [wordS, HM.out, if_true]
          exact .inr ⟨hw3, rfl⟩
      · have hbe : ((M : Int) == (a : Int)) = false := by simp; omega
        go_wp2_with fail
        go_quiet (fail)
        go_wp2_with fail
        go_ret
        refine ⟨_, rfl, ?_, HK2.out.drewN _, M, 0, 0, ?_, by omega, by omega, HB2.out.drewN _⟩
        · show _ = _
          rw [HX.out]; simp only [wordT, HM.out]
        · show Ok (wordS s.data.toList namedB mo (some a)) _ _ _
          simp only [wordS, HM.out]
          rw [if_neg hma]
          exact .inl ⟨rfl, rfl, rfl⟩
 · have HWt := lH (fun w (h : RvAt w g s a why fat) => (show Calls prog 56 #[.pointer (some ⟨g, 0, none⟩)] w fun e w' => e = .returned (.bool false) ∧ w' = w from well_any s g a why fat none (.inr ⟨hw, rfl⟩) w h))
   have HX := lH ((extract_piece s a a).trans (congrArg Rw.bytes (piece_none _ a)))
   have HFk := lH (HF.out a why fat none (.inr ⟨hw, rfl⟩))
   have hbe : ((a : Int) == (a : Int)) = true := by simp
   have HB := H
   clear h
   go_enter func54, ntmps54
   go_wp2_with fail
   go_loopg [] 0 (fun _ wx => Hid (Keeps (· = g) w wx) ∧ Hid (RvAt wx g s a why fat))
   case atStart => exact ⟨Keeps.refl _ _, H.out⟩
   case round =>
    obtain ⟨HK, HB⟩ := hrel
    have c0 : wr.cell? ⟨g, 0, none⟩ = some (.string s) := HB.out.cell 0
    have c1 : wr.cell? ⟨g, 1, none⟩ = some (.int .i64 (a : Int)) := HB.out.cell 1
    go_wp2_with fail
    go_quiet (first | (go_at_call 56; exact Calls.quiet_of_same (HWt.out _ (HB.out.drewN _))))
    have HK2 := lH (HK.out.drewN nq)
    have HB2 := lH (HB.out.drewN nq)
    generalize wr.drewN nq = w2 at *
    have d0 : w2.cell? ⟨g, 0, none⟩ = some (.string s) := HB2.out.cell 0
    have d1 : w2.cell? ⟨g, 1, none⟩ = some (.int .i64 (a : Int)) := HB2.out.cell 1
    clear c0 c1
    go_wp2_with (go_at_call 101; refine (HFk.out _ HB2.out).mono ?_; rintro e w3 ⟨rfl, hk3, why3, fat3, hw3, hr3⟩; have HR3 := lH hr3; have d0 : w3.cell? ⟨g, 0, none⟩ = some (.string s) := hr3.cell 0; have d1 : w3.cell? ⟨g, 1, none⟩ = some (.int .i64 (a : Int)) := hr3.cell 1; have HK3 := lH (HK2.out.trans hk3); clear hr3 hk3)
    go_quiet (fail)
    go_wp2_with fail
    go_ret
    exact ⟨_, rfl, lH rfl, HK3.out.drewN _, a, why3, fat3, .inr ⟨hw3, rfl⟩, Nat.le_refl _, ha, HR3.out.drewN _⟩
end
end Rv
open Go.RowKit
namespace Rv
open Rw
theorem gd (s : ByteArray) (k : Nat) (h : k < s.data.toList.length) : s.data.toList.getD k 0 = s.data.toList[k] := by rw [List.getD_eq_getElem?_getD, List.getElem?_eq_getElem h]; rfl
theorem gd2 (s : ByteArray) (k : Nat) (h : k < s.size) : s.data.toList.getD k 0 = s[k] := by
 rw [gd s k (by rw [← Lib.size_eq]; exact h)]
 simp [ByteArray.getElem_eq_getElem_data]
theorem head_none {L : Bytes} {at_ : Nat} (h : (wordS L namedB 64 (some at_)).bind (mustN L [58]) = none) : headN L at_ = none := by
 unfold headN
 simp only [wordS] at h
 by_cases h0 : whileN L namedB 64 at_ = at_
 · simp [h0]
 · rw [if_neg h0] at h
   have h1 : mustN L [58] (whileN L namedB 64 at_) = none := h
   simp [h0, h1]
theorem head_some {L : Bytes} {at_ a1 : Nat} (h : (wordS L namedB 64 (some at_)).bind (mustN L [58]) = some a1) : headN L at_ = (mustN L [13, 10] (whileN L valuedB L.length (whileN L blankB L.length a1))).map fun z => (piece L at_ (whileN L namedB 64 at_), trimR (piece L (whileN L blankB L.length a1) (whileN L valuedB L.length (whileN L blankB L.length a1))), whileN L blankB L.length a1, z) := by
 unfold headN
 simp only [wordS] at h
 by_cases h0 : whileN L namedB 64 at_ = at_
 · rw [if_pos h0] at h; cases h
 · rw [if_neg h0] at h
   have h1 : mustN L [58] (whileN L namedB 64 at_) = some a1 := h
   simp only [h0, if_false, h1]
   cases mustN L [13, 10] (whileN L valuedB L.length (whileN L blankB L.length a1)) <;> rfl
theorem piece_snoc {L : Bytes} {a k : Nat} (hk : k < L.length) (ha : a ≤ k) : piece L a (k + 1) = piece L a k ++ [L[k]] := by
 unfold piece
 rw [show k + 1 - a = (k - a) + 1 by omega, List.take_succ_eq_append_getElem (by rw [List.length_drop]; omega)]
 congr 2
 rw [List.getElem_drop]
 simp only [show a + (k - a) = k by omega]
theorem piece_trim (L : Bytes) (a e : Nat) : piece L a (a + (trimR (piece L a e)).length) = trimR (piece L a e) := by
 have h := trimR_take (piece L a e)
 have hl := trimR_len (piece L a e)
 generalize hn : (trimR (piece L a e)).length = n at h hl ⊢
 rw [h]
 unfold piece at hl ⊢
 rw [show a + n - a = n by omega, List.take_take]
 rw [List.length_take] at hl
 rw [Nat.min_eq_left (by omega)]
def HeadR (L : Bytes) (at_ : Nat) (X1 X2 : ByteArray) (f : Nat) : Prop := ∀ n v f' z, headN L at_ = some (n, v, f', z) → X1 = Rw.bytes n ∧ X2 = Rw.bytes v ∧ f = f'
theorem piece_size (L : Bytes) (a b : Nat) : (piece L a b).length ≤ L.length := by
 unfold piece
 rw [List.length_take, List.length_drop]
 omega
structure HdS (w wx : World) (s : ByteArray) (g a : Nat) (why fat : Int) (R B : Nat) (X1 : ByteArray) : Prop where
 k : Keeps (· = g) w wx
 rd : RvAt wx g s a why fat
 res : Blk wx R 48 #[.string ⟨#[]⟩, .string ⟨#[]⟩]
 par : Blk wx B 48 #[.string X1, .string ⟨#[]⟩]
 ne : R ≠ g
 ne2 : B ≠ g
 ne3 : R ≠ B
section
variable {s : ByteArray} {g a R B : Nat} {why fat : Int} {X1 : ByteArray} {w wx wy : World}
theorem HdS.drewN (h : HdS w wx s g a why fat R B X1) (n : Nat) : HdS w (wx.drewN n) s g a why fat R B X1 := ⟨h.k.drewN n, h.rd.drewN n, h.res.drewN n, h.par.drewN n, h.ne, h.ne2, h.ne3⟩
theorem HdS.step {a' : Nat} {why' fat' : Int} (h : HdS w wx s g a why fat R B X1) (hk : Keeps (· = g) wx wy) (hr : RvAt wy g s a' why' fat') : HdS w wy s g a' why' fat' R B X1 := ⟨h.k.trans hk, hr, h.res.keeps hk h.ne, h.par.keeps hk h.ne2, h.ne, h.ne2, h.ne3⟩
theorem HdS.told (h : HdS w wx s g a why fat R B X1) (X2 : ByteArray) : Keeps (· = g) w (wx.setCell ⟨B, 1, none⟩ (.string X2)) → Blk (wx.setCell ⟨B, 1, none⟩ (.string X2)) B 48 #[.string X1, .string X2] ∧ Blk (wx.setCell ⟨B, 1, none⟩ (.string X2)) R 48 #[.string ⟨#[]⟩, .string ⟨#[]⟩] ∧ RvAt (wx.setCell ⟨B, 1, none⟩ (.string X2)) g s a why fat := fun _ =>
 ⟨h.par.set_ 1 _, h.res.far (p := ⟨B, 1, none⟩) h.ne3 _, h.rd.far (p := ⟨B, 1, none⟩) (Ne.symm h.ne2) _⟩
theorem HdS.move {a' : Nat} (h : HdS w wx s g a why fat R B X1) : HdS w (wx.setCell ⟨g, 1, none⟩ (.int .i64 (a' : Int))) s g a' why fat R B X1 := h.step ((Keeps.refl (· = g) wx).setCell (p := ⟨g, 1, none⟩) (.inl rfl) _) (h.rd.set_ 1 _)
end
section
variable (s : ByteArray) (g : Nat)
theorem head_any (a : Nat) (w : World) (h : RvAt w g s a 0 0) (hs : s.size ≤ 1000000) (ha : a ≤ s.size) :
  Calls prog 57 #[.pointer (some ⟨g, 0, none⟩)] w fun e w' => ∃ X1 X2 f, e = .returned (.tuple #[.agg #[.string X1, .string X2], .int .i64 ((f : Nat) : Int)]) ∧ X1.size ≤ s.size ∧ f ≤ s.size ∧ Hid (HeadR s.data.toList a X1 X2 f) ∧ Keeps (· = g) w w' ∧ ∃ a' why fat, Hid (Ok ((headN s.data.toList a).map (·.2.2.2)) a' why fat) ∧ a' ≤ s.size ∧ Hid (RvAt w' g s a' why fat) := by
 have HWe := lH (fun a why fat st ho w h => well_any s g a why fat st ho w h)
 have HM := lH (fun t a why fat st ho w h ht ha => must_any s g t a why fat st ho w h hs ht ha)
 have HSz := lH (Lib.size_eq s)
 have HB0 := lH (((Below.refl w.heap.size w).alloc (Nat.le_refl _) (.cells #[.string ⟨#[]⟩, .string ⟨#[]⟩] 48)))
 have HR0 := lH (Blk.new w 48 #[.string ⟨#[]⟩, .string ⟨#[]⟩])
 have H0 := lH (h.alloc (.cells #[.string ⟨#[]⟩, .string ⟨#[]⟩] 48))
 have hlt := h.lt
 have HK0 := lH ((Keeps.refl (· = g) w).alloc (.cells #[.string ⟨#[]⟩, .string ⟨#[]⟩] 48))
 have HWo := lH (fun w h => word_t s g 64 a 0 0 (some a) (.inl ⟨rfl, rfl, rfl⟩) w h hs (by decide) ha)
 clear h
 go_enter func57, ntmps57
 go_wp2_with fail
 generalize w.alloc (.cells #[.string ⟨#[]⟩, .string ⟨#[]⟩] 48) = w0 at *
 refine (HWo.out w0 H0.out).mono ?_
 rintro e w1 ⟨X1, rfl, HX1, hk1, a1, why1, fat1, HO1, -, ha1, HB1⟩
 have hk01 := ((Keeps.refl (· = g) w).alloc (.cells #[.string ⟨#[]⟩, .string ⟨#[]⟩] 48))
 have HP1 := lH (Blk.new w1 48 #[.string X1, .string ⟨#[]⟩])
 have hx1 : X1.size ≤ s.size := by
  rw [HX1.out, Rw.bytes_size, HSz.out]
  exact piece_size _ _ _
 have hsz1 := hk1.size
 have hlt1 := HR0.out.lt
 have HS1 : Hid (HdS w (w1.alloc (.cells #[.string X1, .string ⟨#[]⟩] 48)) s g a1 why1 fat1 w.heap.size w1.heap.size X1) :=
  ⟨(HK0.out.trans hk1).alloc _, HB1.out.alloc _, (HR0.out.keeps hk1 (by omega)).alloc _, HP1.out, by omega, by omega, by omega⟩
 have hB4x : w.heap.size ≤ w1.heap.size := by omega
 have HM1 := lH (HM.out ⟨#[58]⟩ a1 why1 fat1 _ HO1.out _ HS1.out.rd (by decide) ha1)
 clear hk01 hk1 HB1 HP1 HB0 HR0 H0 HWo HK0
 go_wp2_with fail
 refine HM1.out.mono ?_
 rintro e w3 ⟨rfl, hk3, a2, why2, fat2, HO2, -, ha2, HB2⟩
 have HS2 := lH (HS1.out.step hk3 HB2.out)
 generalize w1.heap.size = B4 at *
 clear hk3 HB2 HM1 HS1 HO1
 have hB4 : w.heap.size ≤ B4 := hB4x
 have hst2 : (wordS s.data.toList namedB 64 (some a)).bind (mustN s.data.toList (⟨#[58]⟩ : ByteArray).data.toList) = (wordS s.data.toList namedB 64 (some a)).bind (mustN s.data.toList [58]) := rfl
 rw [hst2] at HO2
 clear hst2
 have HWe2 := lH (fun w h => HWe.out a2 why2 fat2 _ HO2.out w h)
 -- behind the colon (mkrvc.py)
 rcases HO2.out with ⟨rfl, rfl, hst⟩ | ⟨hw2, hst⟩
 · have hhs := head_some hst
   have hX1b : X1 = Rw.bytes (piece s.data.toList a (whileN s.data.toList namedB 64 a)) := HX1.out
   have HWt := lH (fun (k : Nat) (w : World) (h : RvAt w g s k 0 0) => (show Calls prog 56 #[.pointer (some ⟨g, 0, none⟩)] w fun e w' => e = .returned (.bool true) ∧ w' = w from HWe.out k 0 0 (some k) (.inl ⟨rfl, rfl, rfl⟩) w h))
   have HH := lH hhs
   have HXb := lH hX1b
   clear hhs hX1b HWe2 HO2 hst HX1
   obtain ⟨F, HF⟩ : ∃ z, Hid (whileN s.data.toList blankB s.data.toList.length a2 = z) := ⟨_, rfl⟩
   rw [HF.out] at HH
   have hF0 := while_ge s.data.toList blankB s.data.toList.length a2
   have hF1 := while_le blankB s.data.toList.length (show a2 ≤ s.data.toList.length by rw [← HSz.out]; exact ha2)
   rw [HF.out] at hF0 hF1
   rw [← HSz.out] at hF1
   go_wp2_with fail
   go_loopg [] (s.size - a2) (fun gk wx => ∃ k : Nat, gk + k = s.size ∧ Hid (HdS w wx s g k 0 0 w.heap.size B4 X1) ∧ Hid (∃ r, whileN s.data.toList blankB r k = F ∧ s.data.toList.length ≤ r + k))
   case atStart => exact ⟨a2, by omega, HS2, _, HF.out, by omega⟩
   case round =>
    clear HS2
    obtain ⟨k, hgk, HS3, HR⟩ := hrel
    have c0 : wr.cell? ⟨g, 0, none⟩ = some (.string s) := HS3.out.rd.cell 0
    have c1 : wr.cell? ⟨g, 1, none⟩ = some (.int .i64 (k : Int)) := HS3.out.rd.cell 1
    have z1 := HS3.out.rd.frozen 1
    have hk0 : (0 : Int) ≤ (k : Int) := by omega
    by_cases hks : k < s.size ∧ blankB (s.data.toList.getD k 0) = true
    · obtain ⟨hks, hbl⟩ := hks
      have hJ : (k : Int) < (s.size : Int) := by omega
      have hlt' : k < s.data.toList.length := by rw [← HSz.out]; exact hks
      have HR2 : Hid (∃ r, whileN s.data.toList blankB r (k + 1) = F ∧ s.data.toList.length ≤ r + (k + 1)) := by
       obtain ⟨r, h1, h2⟩ := HR.out
       refine ⟨r - 1, ?_, by omega⟩
       have := while_step blankB (r - 1) hlt'
       rw [show r - 1 + 1 = r by omega, h1, if_pos (by rw [← gd s k hlt']; exact hbl)] at this
       exact this.symm
      have hb2 : blankB s[k] = true := by rw [← gd2 s k hks]; exact hbl
      have h1 : IntKind.i64.wrap ((k : Int) + 1) = ((k + 1 : Nat) : Int) := by rw [IntWalk.i64_in _ (by omega)]; rfl
      clear HR hbl
      generalize hc : s[k] = c at *
      have hc1 := c.toNat_lt
      cases e32 : ((c.toNat : Int) == 32) with
      | true =>
       go_wp2_with fail
       go_quiet (first | (go_at_call 56; exact Calls.quiet_of_same (HWt.out _ _ (HS3.out.rd.drewN _))))
       go_wp2_with fail
       go_roundg (gk - 1)
       case rel => exact ⟨k + 1, by omega, (HS3.out.drewN _).move (a' := k + 1), HR2.out⟩
       case measure => omega
      | false =>
       have e9 : ((c.toNat : Int) == 9) = true := by
        unfold blankB at hb2
        have : ¬ c.toNat = 32 := by intro e; simp [e] at e32
        simp [this] at hb2
        simp [hb2]
       go_wp2_with fail
       go_quiet (first | (go_at_call 56; exact Calls.quiet_of_same (HWt.out _ _ (HS3.out.rd.drewN _))))
       go_wp2_with fail
       go_roundg (gk - 1)
       case rel => exact ⟨k + 1, by omega, (HS3.out.drewN _).move (a' := k + 1), HR2.out⟩
       case measure => omega
    · have hkF : k = F := by
       obtain ⟨r, h1, h2⟩ := HR.out
       by_cases hk2 : k < s.size
       · have hlt' : k < s.data.toList.length := by rw [← HSz.out]; exact hk2
         have := while_step blankB (r - 1) hlt'
         rw [show r - 1 + 1 = r by omega, h1, if_neg (by intro e; exact hks ⟨hk2, by rw [gd s k hlt']; exact e⟩)] at this
         exact this.symm
       · rw [while_end blankB r (by rw [← HSz.out]; omega)] at h1
         exact h1
      subst hkF
      clear HR
      go_wp2_with fail
      go_cut [49] (fun x wx => x = .bool false ∧ Hid (HdS w wx s g k 0 0 w.heap.size B4 X1))
      case first =>
       by_cases hk2 : k < s.size
       · have hJ : (k : Int) < (s.size : Int) := by omega
         have hlt' : k < s.data.toList.length := by rw [← HSz.out]; exact hk2
         have hb2 : blankB s[k] = false := by
          cases hq : blankB s[k] with
          | false => rfl
          | true => exact absurd ⟨hk2, by rw [gd2 s k hk2]; exact hq⟩ hks
         clear hks
         generalize hc : s[k] = c at *
         have hc1 := c.toNat_lt
         have e32 : ((c.toNat : Int) == 32) = false := by
          unfold blankB at hb2
          simp at hb2 ⊢
          omega
         have e9 : ((c.toNat : Int) == 9) = false := by
          unfold blankB at hb2
          simp at hb2 ⊢
          omega
         go_quiet (first | (go_at_call 56; exact Calls.quiet_of_same (HWt.out _ _ (HS3.out.rd.drewN _))))
         go_wp2_with fail
         go_meet
         exact ⟨rfl, lH (HS3.out.drewN _)⟩
       · have hJ : ¬ ((k : Int) < (s.size : Int)) := by omega
         go_quiet (first | (go_at_call 56; exact Calls.quiet_of_same (HWt.out _ _ (HS3.out.rd.drewN _))))
         go_wp2_with fail
         go_meet
         exact ⟨rfl, lH (HS3.out.drewN _)⟩
      case rest =>
       obtain ⟨rfl, HS4⟩ := hcut
       clear HS3 c0 c1 z1 hks
       have c1 : wc.cell? ⟨g, 1, none⟩ = some (.int .i64 (k : Int)) := HS4.out.rd.cell 1
       obtain ⟨G, HG⟩ : ∃ z, Hid (whileN s.data.toList valuedB s.data.toList.length k = z) := ⟨_, rfl⟩
       rw [HG.out] at HH
       have hG0 := while_ge s.data.toList valuedB s.data.toList.length k
       have hG1 := while_le valuedB s.data.toList.length (show k ≤ s.data.toList.length by rw [← HSz.out]; exact hF1)
       rw [HG.out] at hG0 hG1
       rw [← HSz.out] at hG1
       go_wp2_with fail
       clear c1
       go_loopg [6] (s.size - k) (fun gk x wx => ∃ e t : Nat, gk + e = s.size ∧ k ≤ e ∧ t ≤ e ∧ k ≤ t ∧ x = .int .i64 (t : Int) ∧ Hid (HdS w wx s g e 0 0 w.heap.size B4 X1) ∧ Hid (t = k + (trimR (piece s.data.toList k e)).length) ∧ Hid (∃ r, whileN s.data.toList valuedB r e = G ∧ s.data.toList.length ≤ r + e))
       case atStart => exact ⟨k, k, by omega, Nat.le_refl _, Nat.le_refl _, Nat.le_refl _, rfl, HS4, lH (by rw [piece_none]; rfl), _, HG.out, by omega⟩
       case round =>
        clear HS4
        obtain ⟨e, t, hge, hke, hte, hkt, rfl, HS5, HTt, HR⟩ := hrel
        have c0 : wr.cell? ⟨g, 0, none⟩ = some (.string s) := HS5.out.rd.cell 0
        have c1 : wr.cell? ⟨g, 1, none⟩ = some (.int .i64 (e : Int)) := HS5.out.rd.cell 1
        have z1 := HS5.out.rd.frozen 1
        have he0 : (0 : Int) ≤ (e : Int) := by omega
        by_cases hes : e < s.size ∧ valuedB (s.data.toList.getD e 0) = true
        · obtain ⟨hes, hvl⟩ := hes
          have hJ : (e : Int) < (s.size : Int) := by omega
          have hlt' : e < s.data.toList.length := by rw [← HSz.out]; exact hes
          have HR2 : Hid (∃ r, whileN s.data.toList valuedB r (e + 1) = G ∧ s.data.toList.length ≤ r + (e + 1)) := by
           obtain ⟨r, h1, h2⟩ := HR.out
           refine ⟨r - 1, ?_, by omega⟩
           have := while_step valuedB (r - 1) hlt'
           rw [show r - 1 + 1 = r by omega, h1, if_pos (by rw [← gd s e hlt']; exact hvl)] at this
           exact this.symm
          have hv2 : valuedB s[e] = true := by rw [← gd2 s e hes]; exact hvl
          have hsn := piece_snoc hlt' hke
          rw [← gd s e hlt', gd2 s e hes] at hsn
          have htr := trimR_snoc (piece s.data.toList k e) s[e]
          rw [← hsn] at htr
          have hpl : (piece s.data.toList k e).length = e - k := by
           unfold piece
           rw [List.length_take, List.length_drop]
           omega
          have HTr := lH htr
          have HPl := lH hpl
          have h1 : IntKind.i64.wrap ((e : Int) + 1) = ((e + 1 : Nat) : Int) := by rw [IntWalk.i64_in _ (by omega)]; rfl
          clear HR hvl htr hsn hpl
          generalize hc : s[e] = c at *
          have hc1 := c.toNat_lt
          have HVc := lH (fun w => rvalued_any _ rfl c w)
          rw [hv2] at HVc
          by_cases hbl : blankB c = true
          · have HTt2 : Hid (t = k + (trimR (piece s.data.toList k (e + 1))).length) := by show _ = _; rw [HTr.out, if_pos hbl]; exact HTt.out
            cases e32 : ((c.toNat : Int) == 32) with
            | true =>
             have n32 : ((c.toNat : Int) != 32) = false := by rw [bne, e32]; rfl
             go_wp2_with fail
             go_quiet (first | (go_at_call 56; exact Calls.quiet_of_same (HWt.out _ _ (HS5.out.rd.drewN _))) | (go_at_call 102; exact Calls.quiet_of_same (HVc.out _)))
             have HS6 := lH (HS5.out.drewN nq)
             generalize wr.drewN nq = w6 at *
             clear c0 c1 z1 HS5
             have c0 : w6.cell? ⟨g, 0, none⟩ = some (.string s) := HS6.out.rd.cell 0
             have c1 : w6.cell? ⟨g, 1, none⟩ = some (.int .i64 (e : Int)) := HS6.out.rd.cell 1
             have z1 := HS6.out.rd.frozen 1
             go_wp2_with fail
             go_quiet (fail)
             go_wp2_with fail
             go_roundg (gk - 1)
             case rel => exact ⟨e + 1, t, by omega, by omega, by omega, by omega, by go_num, (HS6.out.drewN _).move (a' := e + 1), HTt2, HR2.out⟩
             case measure => omega
            | false =>
             have n32 : ((c.toNat : Int) != 32) = true := by rw [bne, e32]; rfl
             have n9 : ((c.toNat : Int) != 9) = false := by
              unfold blankB at hbl
              have : ¬ c.toNat = 32 := by intro e; simp [e] at e32
              simp [this] at hbl
              simp [hbl]
             go_wp2_with fail
             go_quiet (first | (go_at_call 56; exact Calls.quiet_of_same (HWt.out _ _ (HS5.out.rd.drewN _))) | (go_at_call 102; exact Calls.quiet_of_same (HVc.out _)))
             have HS6 := lH (HS5.out.drewN nq)
             generalize wr.drewN nq = w6 at *
             clear c0 c1 z1 HS5
             have c0 : w6.cell? ⟨g, 0, none⟩ = some (.string s) := HS6.out.rd.cell 0
             have c1 : w6.cell? ⟨g, 1, none⟩ = some (.int .i64 (e : Int)) := HS6.out.rd.cell 1
             have z1 := HS6.out.rd.frozen 1
             go_wp2_with fail
             go_quiet (fail)
             go_wp2_with fail
             go_roundg (gk - 1)
             case rel => exact ⟨e + 1, t, by omega, by omega, by omega, by omega, by go_num, (HS6.out.drewN _).move (a' := e + 1), HTt2, HR2.out⟩
             case measure => omega
          · have hbf : blankB c = false := by simpa using hbl
            have HTt2 : Hid (e + 1 = k + (trimR (piece s.data.toList k (e + 1))).length) := by
             show _ = _
             rw [HTr.out, if_neg hbl]
             unfold piece
             rw [List.length_take, List.length_drop]
             omega
            have n32 : ((c.toNat : Int) != 32) = true := by
             unfold blankB at hbf
             simp at hbf ⊢
             omega
            have n9 : ((c.toNat : Int) != 9) = true := by
             unfold blankB at hbf
             simp at hbf ⊢
             omega
            go_wp2_with fail
            go_quiet (first | (go_at_call 56; exact Calls.quiet_of_same (HWt.out _ _ (HS5.out.rd.drewN _))) | (go_at_call 102; exact Calls.quiet_of_same (HVc.out _)))
            have HS6 := lH (HS5.out.drewN nq)
            generalize wr.drewN nq = w6 at *
            clear c0 c1 z1 HS5
            have c0 : w6.cell? ⟨g, 0, none⟩ = some (.string s) := HS6.out.rd.cell 0
            have c1 : w6.cell? ⟨g, 1, none⟩ = some (.int .i64 (e : Int)) := HS6.out.rd.cell 1
            have z1 := HS6.out.rd.frozen 1
            go_wp2_with fail
            go_quiet (fail)
            go_wp2_with fail
            go_roundg (gk - 1)
            case rel => exact ⟨e + 1, e + 1, by omega, by omega, by omega, by omega, by go_num, (HS6.out.drewN _).move (a' := e + 1), HTt2, HR2.out⟩
            case measure => omega
        · have heG : e = G := by
           obtain ⟨r, h1, h2⟩ := HR.out
           by_cases hk2 : e < s.size
           · have hlt' : e < s.data.toList.length := by rw [← HSz.out]; exact hk2
             have := while_step valuedB (r - 1) hlt'
             rw [show r - 1 + 1 = r by omega, h1, if_neg (by intro q; exact hes ⟨hk2, by rw [gd s e hlt']; exact q⟩)] at this
             exact this.symm
           · rw [while_end valuedB r (by rw [← HSz.out]; omega)] at h1
             exact h1
          subst heG
          clear HR
          go_wp2_with fail
          go_cut [87] (fun x wx => x = .bool false ∧ Hid (HdS w wx s g e 0 0 w.heap.size B4 X1))
          case first =>
           by_cases hk2 : e < s.size
           · have hJ : (e : Int) < (s.size : Int) := by omega
             have hb2 : valuedB s[e] = false := by
              cases hq : valuedB s[e] with
              | false => rfl
              | true => exact absurd ⟨hk2, by rw [gd2 s e hk2]; exact hq⟩ hes
             clear hes
             generalize hc : s[e] = c at *
             have hc1 := c.toNat_lt
             have HVc := lH (fun w => rvalued_any _ rfl c w)
             rw [hb2] at HVc
             go_quiet (first | (go_at_call 56; exact Calls.quiet_of_same (HWt.out _ _ (HS5.out.rd.drewN _))) | (go_at_call 102; exact Calls.quiet_of_same (HVc.out _)))
             go_wp2_with fail
             go_meet
             exact ⟨rfl, lH (HS5.out.drewN _)⟩
           · have hJ : ¬ ((e : Int) < (s.size : Int)) := by omega
             go_quiet (first | (go_at_call 56; exact Calls.quiet_of_same (HWt.out _ _ (HS5.out.rd.drewN _))))
             go_wp2_with fail
             go_meet
             exact ⟨rfl, lH (HS5.out.drewN _)⟩
          case rest =>
           obtain ⟨rfl, HS6⟩ := hcut
           clear HS5 c0 c1 z1 hes
           have c0 : wc.cell? ⟨g, 0, none⟩ = some (.string s) := HS6.out.rd.cell 0
           have hq0 : (0 : Int) ≤ (k : Int) := by omega
           have hq1 : (k : Int) ≤ (t : Int) := by omega
           have hq2 : (t : Int) ≤ (s.size : Int) := by omega
           have HX2 : Hid (s.extract k t = Rw.bytes (trimR (piece s.data.toList k e))) := by
            show _ = _
            rw [extract_piece, HTt.out, piece_trim]
           have HO6 : Hid (Ok (some e) e 0 0) := lH (.inl ⟨rfl, rfl, rfl⟩)
           obtain ⟨X2, hX2⟩ : ∃ X2, s.extract k t = X2 := ⟨_, rfl⟩
           rw [hX2] at HX2
           have b1 := HS6.out.par.frozen 1
           have b0c : wc.cell? ⟨B4, 0, none⟩ = some (.string X1) := HS6.out.par.cell 0
           have b1c : wc.cell? ⟨B4, 1, none⟩ = some (.string ⟨#[]⟩) := HS6.out.par.cell 1
           have HT6 := lH (HS6.out.told (X2) ((HS6.out.k).setCell (p := ⟨B4, 1, none⟩) (.inr (by omega)) _))
           have HK6 := lH ((HS6.out.k).setCell (p := ⟨B4, 1, none⟩) (.inr (by omega)) (.string (X2)))
           have hRg := HS6.out.ne
           have hBg := HS6.out.ne2
           go_wp2_with (go_at_call 55; refine (HM.out ⟨#[13, 10]⟩ e 0 0 _ HO6.out _ HT6.out.2.2 (by decide) (by omega)).mono ?_; rintro e w7 ⟨rfl, hk7, a7, why7, fat7, HO7, -, ha7, HB7⟩; have HP7 := lH (HT6.out.1.keeps hk7 hBg); have HR7 := lH (HT6.out.2.1.keeps hk7 hRg); have HK7 := lH (HK6.out.trans hk7); have p0 : w7.cell? ⟨B4, 0, none⟩ = some (.string X1) := HP7.out.cell 0; have p1 : w7.cell? ⟨B4, 1, none⟩ = some (.string (X2)) := HP7.out.cell 1; have r0 : w7.cell? ⟨w.heap.size, 0, none⟩ = some (.string ⟨#[]⟩) := HR7.out.cell 0; have r1 : w7.cell? ⟨w.heap.size, 1, none⟩ = some (.string ⟨#[]⟩) := HR7.out.cell 1; have q0 := HR7.out.frozen 0; have q1 := HR7.out.frozen 1; clear hk7)
           have HR8 := lH ((HR7.out.set_ 0 (.string X1)).set_ 1 (.string (X2)))
           have HK8 := lH ((HK7.out.setCell (p := ⟨w.heap.size, 0, none⟩) (.inr (Nat.le_refl _)) (.string X1)).setCell (p := ⟨w.heap.size, 1, none⟩) (.inr (Nat.le_refl _)) (.string (X2)))
           have HB8 := lH ((HB7.out.far (p := ⟨w.heap.size, 0, none⟩) (Ne.symm hRg) (.string X1)).far (p := ⟨w.heap.size, 1, none⟩) (Ne.symm hRg) (.string (X2)))
           generalize (w7.setCell ⟨w.heap.size, 0, none⟩ (.string X1)).setCell ⟨w.heap.size, 1, none⟩ (.string (X2)) = w8 at *
           clear p0 p1 r0 r1 q0 q1
           have r0 : w8.cell? ⟨w.heap.size, 0, none⟩ = some (.string X1) := HR8.out.cell 0
           have r1 : w8.cell? ⟨w.heap.size, 1, none⟩ = some (.string (X2)) := HR8.out.cell 1
           refine bodyPost_ret (v := .tuple #[.agg #[.string X1, .string (X2)], .int .i64 ((k : Nat) : Int)]) (by simp [results, results57, go_sem, r0, r1]) rfl ?_
           refine ⟨X1, X2, k, rfl, hx1, hF1, ?_, HK8.out, a7, why7, fat7, ?_, ha7, HB8⟩
           · intro n v f z hn
             rw [HH.out] at hn
             obtain ⟨z', hz', he'⟩ := Option.map_eq_some_iff.1 hn
             simp only [Prod.mk.injEq] at he'
             obtain ⟨rfl, rfl, rfl, rfl⟩ := he'
             exact ⟨HXb.out, HX2.out, rfl⟩
           · rw [HH.out, Option.map_map]
             have := HO7.out
             have e9 : (some e).bind (mustN s.data.toList (⟨#[13, 10]⟩ : ByteArray).data.toList) = mustN s.data.toList [13, 10] e := rfl
             rw [e9] at this
             show Ok _ _ _ _
             rw [show ((fun x : Bytes × Bytes × Nat × Nat => x.2.2.2) ∘ fun z => (piece s.data.toList a (whileN s.data.toList namedB 64 a), trimR (piece s.data.toList k e), k, z)) = id from rfl, Option.map_id]
             exact this
 · have hhn := head_none hst
   rw [hst] at HWe2 HO2
   have HWf := lH (fun w h => (show Calls prog 56 #[.pointer (some ⟨g, 0, none⟩)] w fun e w' => e = .returned (.bool false) ∧ w' = w from HWe2.out w h))
   have hq0 : (0 : Int) ≤ (a2 : Int) := by omega
   have hq1 : (a2 : Int) ≤ (s.size : Int) := by omega
   clear HWe2 hst HX1
   go_wp2_with fail
   go_loopg [] 0 (fun _ wx => Hid (HdS w wx s g a2 why2 fat2 w.heap.size B4 X1))
   case atStart => exact HS2
   case round =>
    clear HS2
    have HS2 := hrel
    have c1 : wr.cell? ⟨g, 1, none⟩ = some (.int .i64 (a2 : Int)) := HS2.out.rd.cell 1
    go_wp2_with fail
    go_quiet (first | (go_at_call 56; exact Calls.quiet_of_same (HWf.out _ (HS2.out.rd.drewN _))))
    have HS3 := lH (HS2.out.drewN nq)
    generalize wr.drewN nq = w4 at *
    clear c1 HS2 hrel
    have c1 : w4.cell? ⟨g, 1, none⟩ = some (.int .i64 (a2 : Int)) := HS3.out.rd.cell 1
    go_wp2_with fail
    go_loopg [6] 0 (fun _ x wx => x = .int .i64 (a2 : Int) ∧ Hid (HdS w wx s g a2 why2 fat2 w.heap.size B4 X1))
    case atStart => exact ⟨rfl, HS3⟩
    case round =>
     clear HS3 c1
     obtain ⟨rfl, HS4⟩ := hrel
     go_wp2_with fail
     go_quiet (first | (go_at_call 56; exact Calls.quiet_of_same (HWf.out _ (HS4.out.rd.drewN _))))
     have HS5 := lH (HS4.out.drewN nq)
     generalize wr.drewN nq = w5 at *
     clear HS4
     have c0 : w5.cell? ⟨g, 0, none⟩ = some (.string s) := HS5.out.rd.cell 0
     have b1 := HS5.out.par.frozen 1
     have b0c : w5.cell? ⟨B4, 0, none⟩ = some (.string X1) := HS5.out.par.cell 0
     have b1c : w5.cell? ⟨B4, 1, none⟩ = some (.string ⟨#[]⟩) := HS5.out.par.cell 1
     have HT6 := lH (HS5.out.told (⟨#[]⟩) ((HS5.out.k).setCell (p := ⟨B4, 1, none⟩) (.inr (by omega)) _))
     have HK6 := lH ((HS5.out.k).setCell (p := ⟨B4, 1, none⟩) (.inr (by omega)) (.string (⟨#[]⟩)))
     have hRg := HS5.out.ne
     have hBg := HS5.out.ne2
     go_wp2_with (go_at_call 55; refine (HM.out ⟨#[13, 10]⟩ a2 why2 fat2 _ HO2.out _ HT6.out.2.2 (by decide) (by omega)).mono ?_; rintro e w7 ⟨rfl, hk7, a7, why7, fat7, HO7, -, ha7, HB7⟩; have HP7 := lH (HT6.out.1.keeps hk7 hBg); have HR7 := lH (HT6.out.2.1.keeps hk7 hRg); have HK7 := lH (HK6.out.trans hk7); have p0 : w7.cell? ⟨B4, 0, none⟩ = some (.string X1) := HP7.out.cell 0; have p1 : w7.cell? ⟨B4, 1, none⟩ = some (.string (⟨#[]⟩)) := HP7.out.cell 1; have r0 : w7.cell? ⟨w.heap.size, 0, none⟩ = some (.string ⟨#[]⟩) := HR7.out.cell 0; have r1 : w7.cell? ⟨w.heap.size, 1, none⟩ = some (.string ⟨#[]⟩) := HR7.out.cell 1; have q0 := HR7.out.frozen 0; have q1 := HR7.out.frozen 1; clear hk7)
     have HR8 := lH ((HR7.out.set_ 0 (.string X1)).set_ 1 (.string (⟨#[]⟩)))
     have HK8 := lH ((HK7.out.setCell (p := ⟨w.heap.size, 0, none⟩) (.inr (Nat.le_refl _)) (.string X1)).setCell (p := ⟨w.heap.size, 1, none⟩) (.inr (Nat.le_refl _)) (.string (⟨#[]⟩)))
     have HB8 := lH ((HB7.out.far (p := ⟨w.heap.size, 0, none⟩) (Ne.symm hRg) (.string X1)).far (p := ⟨w.heap.size, 1, none⟩) (Ne.symm hRg) (.string (⟨#[]⟩)))
     generalize (w7.setCell ⟨w.heap.size, 0, none⟩ (.string X1)).setCell ⟨w.heap.size, 1, none⟩ (.string (⟨#[]⟩)) = w8 at *
     clear p0 p1 r0 r1 q0 q1
     have r0 : w8.cell? ⟨w.heap.size, 0, none⟩ = some (.string X1) := HR8.out.cell 0
     have r1 : w8.cell? ⟨w.heap.size, 1, none⟩ = some (.string (⟨#[]⟩)) := HR8.out.cell 1
     refine bodyPost_ret (v := .tuple #[.agg #[.string X1, .string (⟨#[]⟩)], .int .i64 ((a2 : Nat) : Int)]) (by simp [results, results57, go_sem, r0, r1]) rfl ?_
     refine ⟨X1, ⟨#[]⟩, a2, rfl, hx1, ha2, ?_, HK8.out, a7, why7, fat7, ?_, ha7, HB8⟩
     · intro n v f z hn
       rw [hhn] at hn; cases hn
     · rw [hhn]
       exact HO7
end
end Rv
open Go.RowKit
namespace Rv
open Rw
structure PR (w wx : World) (s : ByteArray) (Q a : Nat) (why fat : Int) (m p y : ByteArray) (v : Value) (b : ByteArray) (hs : List (Bytes × Bytes)) : Prop where
 bel : Below w.heap.size w wx
 res : Blk wx w.heap.size 43 #[.string ⟨#[]⟩, .string ⟨#[]⟩, .string ⟨#[]⟩, .slice none 0 0, .string ⟨#[]⟩]
 flt : Blk wx (w.heap.size + 1) 53 #[.int .i64 0, .int .i64 0]
 rd : RvAt wx (w.heap.size + 1 + 1) s a why fat
 q : Blk wx Q 43 #[.string m, .string p, .string y, v, .string b]
 owns : wx.ownsRow (Q + 1) 48 2 v hs.length (hs.flatMap prCells)
 far : w.heap.size + 1 + 1 < Q
section
variable {w wx wy : World} {s : ByteArray} {Q a : Nat} {why fat : Int} {m p y : ByteArray} {v : Value} {b : ByteArray} {hs : List (Bytes × Bytes)}
theorem PR.lt (h : PR w wx s Q a why fat m p y v b hs) : Q + 1 ≤ wx.heap.size := h.q.lt
theorem PR.step {a' : Nat} {why' fat' : Int} (h : PR w wx s Q a why fat m p y v b hs) (hk : Keeps (· = w.heap.size + 1 + 1) wx wy) (hr : RvAt wy (w.heap.size + 1 + 1) s a' why' fat') : PR w wy s Q a' why' fat' m p y v b hs :=
 ⟨h.bel.trans (hk.below h.bel.size (fun i hi => by omega)), h.res.keeps hk (by omega), h.flt.keeps hk (by omega), hr, h.q.keeps hk (by have := h.far; omega),
  h.owns.kept (row := some (w.heap.size + 1 + 1)) ⟨hk.os, hk.tape, hk.output, hk.size, fun i hi hn => hk.block i hi (fun e => hn (by rw [e]))⟩ (.inr (own_blk_ne h.owns h.rd (by decide))), h.far⟩
theorem PR.below (h : PR w wx s Q a why fat m p y v b hs) (hb : Below wx.heap.size wx wy) : PR w wy s Q a why fat m p y v b hs :=
 ⟨h.bel.trans (hb.mono h.bel.size), h.res.below hb h.res.lt, h.flt.below hb h.flt.lt, h.rd.below hb h.rd.lt, h.q.below hb h.q.lt, h.owns.kept (row := none) ⟨hb.os, hb.tape, hb.output, hb.size, fun i hi _ => hb.block i hi⟩ (by cases v.ownBlock <;> simp), h.far⟩
theorem PR.drewN (h : PR w wx s Q a why fat m p y v b hs) (n : Nat) : PR w (wx.drewN n) s Q a why fat m p y v b hs := h.below ⟨rfl, rfl, rfl, Nat.le_refl _, fun _ _ => rfl⟩
theorem PR.drew (h : PR w wx s Q a why fat m p y v b hs) : PR w wx.drew s Q a why fat m p y v b hs := h.below ⟨rfl, rfl, rfl, Nat.le_refl _, fun _ _ => rfl⟩
theorem PR.move {a' : Nat} (h : PR w wx s Q a why fat m p y v b hs) : PR w (wx.setCell ⟨w.heap.size + 1 + 1, 1, none⟩ (.int .i64 (a' : Int))) s Q a' why fat m p y v b hs := h.step ((Keeps.refl (· = w.heap.size + 1 + 1) wx).setCell (p := ⟨w.heap.size + 1 + 1, 1, none⟩) (.inl rfl) _) (h.rd.set_ 1 _)
theorem PR.put (h : PR w wx s Q a why fat m p y v b hs) {w' : World} (hk : Keeps (· = Q) wx w') {m' p' y' b' : ByteArray} (hq : Blk w' Q 43 #[.string m', .string p', .string y', v, .string b']) : PR w w' s Q a why fat m' p' y' v b' hs :=
 ⟨h.bel.trans (hk.below h.bel.size (fun i hi => by have := h.far; omega)), h.res.keeps hk (by have := h.far; omega), h.flt.keeps hk (by have := h.far; omega), h.rd.keeps hk (by have := h.far; omega), hq,
  h.owns.kept (row := some Q) ⟨hk.os, hk.tape, hk.output, hk.size, fun i hi hn => hk.block i hi (fun e => hn (by rw [e]))⟩ (.inr (own_blk_ne h.owns h.q (by decide))), h.far⟩
theorem PR.path (h : PR w wx s Q a why fat m p y v b hs) (p' : ByteArray) : PR w (wx.setCell ⟨Q, 1, none⟩ (.string p')) s Q a why fat m p' y v b hs := h.put ((Keeps.refl (· = Q) wx).setCell (p := ⟨Q, 1, none⟩) (.inl rfl) _) (h.q.set_ 1 _)
theorem PR.query (h : PR w wx s Q a why fat m p y v b hs) (y' : ByteArray) : PR w (wx.setCell ⟨Q, 2, none⟩ (.string y')) s Q a why fat m p y' v b hs := h.put ((Keeps.refl (· = Q) wx).setCell (p := ⟨Q, 2, none⟩) (.inl rfl) _) (h.q.set_ 2 _)
theorem PR.body (h : PR w wx s Q a why fat m p y v b hs) (b' : ByteArray) : PR w (wx.setCell ⟨Q, 4, none⟩ (.string b')) s Q a why fat m p y v b' hs := h.put ((Keeps.refl (· = Q) wx).setCell (p := ⟨Q, 4, none⟩) (.inl rfl) _) (h.q.set_ 4 _)
theorem PR.slice (h : PR w wx s Q a why fat m p y v b hs) : ∃ A c, v = .slice A hs.length c := by
 rcases h.owns.2 with ⟨e, h0⟩ | ⟨g', cap, cur, e, _⟩
 · exact ⟨none, 0, by rw [e, h0]⟩
 · exact ⟨_, _, e⟩
theorem PR.app {w1 : World} {v' : Value} {u : Bytes × Bytes} {o : Obj} (h : PR w wx s Q a why fat m p y v b hs) (hown : w1.ownsRow (Q + 1) 48 2 v' (hs.length + 1) (hs.flatMap prCells ++ prCells u)) (hgrow : (wx.alloc o).grownBy w1 v.ownBlock) :
  PR w (w1.setCell ⟨Q, 3, none⟩ v') s Q a why fat m p y v' b (hs ++ [u]) := by
 have hl := fun g hg => (h.owns.lt g hg).1
 have hf := h.far
 have ho := h.bel.alloc h.bel.size o
 have n1 : ∀ g, v.ownBlock = some g → Q + 1 ≤ g := hl
 have r1 := (h.res.alloc o).grown hgrow (fun e => by have := n1 _ e.symm; omega)
 have r2 := (h.flt.alloc o).grown hgrow (fun e => by have := n1 _ e.symm; omega)
 have r3 := (h.rd.alloc o).grown hgrow (fun e => by have := n1 _ e.symm; omega)
 have r4 := (h.q.alloc o).grown hgrow (fun e => by have := n1 _ e.symm; omega)
 have hne := own_blk_ne hown r4 (by decide)
 have hk : Keeps (fun i => Q ≤ i) (wx.alloc o) w1 := Keeps.of_grown hgrow (fun g hg => by have := n1 g hg; omega)
 have hk2 := hk.setCell (p := ⟨Q, 3, none⟩) (.inl (Nat.le_refl _)) v'
 refine ⟨ho.trans (hk2.below ho.size (fun i hi => by omega)), r1.far (p := ⟨Q, 3, none⟩) (by simp only; omega) _, r2.far (p := ⟨Q, 3, none⟩) (by simp only; omega) _, r3.far (p := ⟨Q, 3, none⟩) (by simp only; omega) _, r4.set_ 3 _, ?_, hf⟩
 have := hown.kept (w' := w1.setCell ⟨Q, 3, none⟩ v') (row := some Q) (⟨rfl, rfl, rfl, by simp [World.setCell], fun i _ hi => Below.heap_setCell _ _ _ _ (fun e => hi (by rw [e]))⟩) (.inr hne)
 simpa using this
end
def lineS (L : Bytes) : Option Nat := ((((wordS L upB 16 (some 0)).bind (mustN L [32])).bind (mustN L [47])).map (whileN L shownB L.length)).bind (mustN L versL)
theorem lineN_eq (L : Bytes) (f e : Nat) (h : (wordS L upB 16 (some 0)).bind (mustN L [32]) = some f) (h2 : (mustN L [47] f).map (whileN L shownB L.length) = some e) : lineN L = (mustN L versL e).map fun z => (wordT L upB 16 (some 0), (cutQ (piece L f e)).1, (cutQ (piece L f e)).2, z) := by
 unfold lineN
 simp only [wordS] at h
 by_cases h0 : whileN L upB 16 0 = 0
 · rw [if_pos h0] at h; cases h
 · rw [if_neg h0] at h
   have h1 : mustN L [32] (whileN L upB 16 0) = some f := h
   obtain ⟨a2, h3, h4⟩ := Option.map_eq_some_iff.1 h2
   simp only [h0, if_false, h1, h3, h4, wordT]
   cases mustN L versL e <;> rfl
theorem lineN_none (L : Bytes) (h : lineS L = none) : lineN L = none := by
 unfold lineS at h
 unfold lineN
 simp only [wordS] at h
 by_cases h0 : whileN L upB 16 0 = 0
 · simp [h0]
 · rw [if_neg h0] at h
   simp only [Option.bind_some] at h
   cases h1 : mustN L [32] (whileN L upB 16 0) with
   | none => simp [h0, h1]
   | some f =>
    rw [h1] at h
    simp only [Option.bind_some] at h
    cases h2 : mustN L [47] f with
    | none => simp [h0, h1, h2]
    | some a2 =>
     rw [h2] at h
     simp only [Option.map_some, Option.bind_some] at h
     simp [h0, h1, h2, h]
end Rv
end Go.Proofs.YtgpemnmopogppaaGreatDoor
