/- ostlerref10: the reader in memory; its well, fails and must: the walks. -/
import Derived.Test.YtnbhaokbaonjkaaGreatDoorRwN
import Derived.Laws.StructEq
import Derived.Laws.EntriesVeiled
namespace Go.Proofs.YtnbhaokbaonjkaaGreatDoor
open Go Go.RowKit
namespace Rv
open Go.Proofs.YtnbhaokbaonjkaaGreatDoor.Rw
abbrev RvAt (w : World) (g : Nat) (s : ByteArray) (a : Nat) (why fat : Int) : Prop := Blk w g 104 #[.string s, .int .i64 (a : Int), .int .i64 why, .int .i64 fat]
/-- Where a reader stands, if it is well. -/
def Ok (st : Option Nat) (a : Nat) (why fat : Int) : Prop := (why = 0 ∧ fat = 0 ∧ st = some a) ∨ (why ≠ 0 ∧ st = none)
section
variable (s : ByteArray) (g : Nat)
set_option maxRecDepth 100000 in
theorem well_any (a : Nat) (why fat : Int) (st : Option Nat) (ho : Ok st a why fat) (w : World) (h : RvAt w g s a why fat) :
    Calls Tryz.prog 52 #[.pointer (some ⟨g, 0, none⟩)] w fun e w' => e = .returned (.bool st.isSome) ∧ w' = w := by
  have c2 : w.cell? ⟨g, 2, none⟩ = some (.int .i64 why) := h.cell 2
  have c3 : w.cell? ⟨g, 3, none⟩ = some (.int .i64 fat) := h.cell 3
  clear h
  rcases ho with ⟨rfl, rfl, rfl⟩ | ⟨hw, rfl⟩
  · go_enter Tryz.func52, Tryz.ntmps52
    go_wp2_with fail
    go_ret
    exact ⟨rfl, rfl⟩
  · have hb : (why == 0) = false := beq_eq_false_iff_ne.2 hw
    go_enter Tryz.func52, Tryz.ntmps52
    go_wp2_with fail
    go_ret
    exact ⟨rfl, rfl⟩
set_option maxRecDepth 100000 in
set_option maxHeartbeats 1000000 in
theorem fails_any (a : Nat) (why fat : Int) (st : Option Nat) (ho : Ok st a why fat) (w : World) (h : RvAt w g s a why fat) :
    Calls Tryz.prog 88 #[.pointer (some ⟨g, 0, none⟩)] w fun e w' => e = .returned (.tuple #[]) ∧ Keeps (· = g) w w' ∧ ∃ why' fat', why' ≠ 0 ∧ RvAt w' g s a why' fat' := by
  have HW := Lib.hid (fun w h => well_any s g a why fat st ho w h)
  have H := Lib.hid h
  rcases ho with ⟨rfl, rfl, rfl⟩ | ⟨hw, rfl⟩
  · have c0 : w.cell? ⟨g, 0, none⟩ = some (.string s) := h.cell 0
    have c1 : w.cell? ⟨g, 1, none⟩ = some (.int .i64 (a : Int)) := h.cell 1
    have c2 : w.cell? ⟨g, 2, none⟩ = some (.int .i64 0) := h.cell 2
    have c3 : w.cell? ⟨g, 3, none⟩ = some (.int .i64 0) := h.cell 3
    have z2 := h.frozen 2
    have z3 := h.frozen 3
    clear h
    go_enter Tryz.func88, Tryz.ntmps88
    go_wp2_with (go_at_call 52; refine (HW.out _ H.out).mono ?_; rintro e w1 ⟨rfl, hw1⟩; rw [hw1]; clear hw1 w1)
    have H2 := Lib.hid ((H.out.set_ 2 (.int .i64 7)).set_ 3 (.int .i64 (a : Int)))
    have HK := Lib.hid (((Keeps.refl (· = g) w).setCell (p := ⟨g, 2, none⟩) (.inl rfl) (.int .i64 7)).setCell (p := ⟨g, 3, none⟩) (.inl rfl) (.int .i64 (a : Int)))
    generalize (w.setCell ⟨g, 2, none⟩ (.int .i64 7)).setCell ⟨g, 3, none⟩ (.int .i64 (a : Int)) = w2 at *
    have c0 : w2.cell? ⟨g, 0, none⟩ = some (.string s) := H2.out.cell 0
    have c1 : w2.cell? ⟨g, 1, none⟩ = some (.int .i64 (a : Int)) := H2.out.cell 1
    have c2 : w2.cell? ⟨g, 2, none⟩ = some (.int .i64 7) := H2.out.cell 2
    have z2 := H2.out.frozen 2
    go_quiet (fail)
    by_cases hle : (s.size : Int) ≤ (a : Int)
    · go_wp2_with fail
      go_end0
      exact ⟨rfl, (HK.out.drewN _).setCell (p := ⟨g, 2, none⟩) (.inl rfl) _, 10, (a : Int), by decide, (H2.out.drewN _).set_ 2 _⟩
    · have hle2 : (a : Int) < (s.size : Int) := by omega
      go_wp2_with fail
      go_end0
      first | exact ⟨rfl, HK.out.drewN _, 7, (a : Int), by decide, H2.out.drewN _⟩ | exact ⟨rfl, HK.out.drewN _, 7, by decide, (a : Int), H2.out.drewN _⟩
  · go_enter Tryz.func88, Tryz.ntmps88
    go_wp2_with (go_at_call 52; refine (HW.out _ H.out).mono ?_; rintro e w1 ⟨rfl, hw1⟩; rw [hw1]; clear hw1 w1)
    go_end0
    exact ⟨rfl, Keeps.refl _ _, why, fat, hw, H.out⟩
/-- What a step of the reader leaves. -/
def Left (a0 : Nat) (st : Option Nat) (w w' : World) : Prop := Keeps (· = g) w w' ∧ ∃ a why fat, Hid (Ok st a why fat) ∧ a0 ≤ a ∧ a ≤ s.size ∧ Hid (RvAt w' g s a why fat)
set_option maxRecDepth 100000 in
set_option maxHeartbeats 4000000 in
theorem must_any (t : ByteArray) (a : Nat) (why fat : Int) (st : Option Nat) (ho : Ok st a why fat) (w : World) (h : RvAt w g s a why fat) (hs : s.size ≤ 1000000) (ht : t.size ≤ 1000000) (ha : a ≤ s.size) :
    Calls Tryz.prog 51 #[.pointer (some ⟨g, 0, none⟩), .string t] w fun e w' => e = .returned (.tuple #[]) ∧ Left s g a (st.bind (mustN s.data.toList t.data.toList)) w w' := by
  have HW := Lib.hid (fun a why fat st ho w h => well_any s g a why fat st ho w h)
  have HF := Lib.hid (fun a why fat st ho w h => fails_any s g a why fat st ho w h)
  have H := Lib.hid h
  have HO := Lib.hid ho
  have HLs := Lib.hid (Lib.size_eq s)
  have HLt := Lib.hid (Lib.size_eq t)
  obtain ⟨M, HM⟩ : ∃ z, Hid (st.bind (mustN s.data.toList t.data.toList) = z) := ⟨_, rfl⟩
  rw [HM.out]
  clear h ho
  go_enter Tryz.func51, Tryz.ntmps51
  go_wp2_with fail
  go_loopw [4] (fun x wx => ∃ i k why fat st, i ≤ t.size ∧ a ≤ k ∧ k ≤ s.size ∧ x = .int .i64 (i : Nat) ∧ Hid (Ok st k why fat) ∧ Hid (Keeps (· = g) w wx) ∧ Hid (RvAt wx g s k why fat) ∧ Hid (st.bind (mustN s.data.toList (t.data.toList.drop i)) = M)) (fun x _ => t.size - (ixOf x).toNat)
  case atStart => exact ⟨0, a, why, fat, st, Nat.zero_le _, Nat.le_refl _, ha, rfl, HO, Keeps.refl _ _, H, HM⟩
  case round =>
    clear H HO HM
    obtain ⟨i, k, why, fat, st, hi, hak, hk, rfl, HO, HK, HB, HR⟩ := hrel
    have HWk := Lib.hid (HW.out k why fat st HO.out)
    by_cases hlt : i < t.size
    · have hI : (i : Int) < (t.size : Int) := by omega
      rcases HO.out with ⟨rfl, rfl, rfl⟩ | ⟨hw, rfl⟩
      · have HFk := Lib.hid (HF.out k 0 0 (some k) HO.out)
        have c0 : wr.cell? ⟨g, 0, none⟩ = some (.string s) := HB.out.cell 0
        have c1 : wr.cell? ⟨g, 1, none⟩ = some (.int .i64 (k : Int)) := HB.out.cell 1
        have z1 := HB.out.frozen 1
        have HS : Hid (mustN s.data.toList (t.data.toList.drop i) k = if s.data.toList[k]? = some t.data.toList[i] then mustN s.data.toList (t.data.toList.drop (i + 1)) (k + 1) else none) := must_step (by rw [← HLt.out]; exact hlt)
        have HR1 : Hid (mustN s.data.toList (t.data.toList.drop i) k = M) := HR.out
        have et : t[i] = t.data.toList[i] := by simp [ByteArray.getElem_eq_getElem_data]
        rw [← et] at HS
        clear et
        by_cases hks : k < s.size
        · have es : s.data.toList[k]? = some s[k] := by rw [List.getElem?_eq_getElem (by rw [← HLs.out]; exact hks)]; simp [ByteArray.getElem_eq_getElem_data]
          rw [es] at HS
          clear es
          have hJ : (k : Int) < (s.size : Int) := by omega
          have hN : ¬ (s.size ≤ k) := by omega
          generalize hc : s[k] = c at *
          generalize hd : t[i] = d at *
          have hc1 := c.toNat_lt
          have hd1 := d.toNat_lt
          cases he : ((c.toNat : Int) == (d.toNat : Int)) with
          | true =>
            have HE : Hid (c = d) := UInt8.toNat_inj.1 (by have := eq_of_beq he; omega)
            have hb : ((c.toNat : Int) != (d.toNat : Int)) = false := by rw [bne, he]; rfl
            have HR2 : Hid ((some (k + 1)).bind (mustN s.data.toList (t.data.toList.drop (i + 1))) = M) := by show _ = _; rw [← HR1.out, HS.out, if_pos (by rw [HE.out])]; rfl
            have h1 : IntKind.i64.wrap ((k : Int) + 1) = ((k + 1 : Nat) : Int) := by rw [IntWalk.i64_in _ (by omega)]; rfl
            clear HR HR1 HS HE
            go_wp2_with (go_at_call 52; refine (HWk.out _ HB.out).mono ?_; rintro e w1 ⟨rfl, rfl⟩)
            go_quiet (fail)
            go_wp2_with fail
            go_roundw
            case rel => exact ⟨i + 1, k + 1, 0, 0, some (k + 1), by omega, by omega, by omega, by go_num, .inl ⟨rfl, rfl, rfl⟩, (HK.out.drewN _).setCell (p := ⟨g, 1, none⟩) (.inl rfl) _, (HB.out.drewN _).set_ 1 _, HR2.out⟩
            case measure => simp [ixOf] <;> omega
          | false =>
            have hb : ((c.toNat : Int) != (d.toNat : Int)) = true := by rw [bne, he]; rfl
            have hM : M = none := by rw [← HR1.out, HS.out, if_neg (by intro e; simp only [Option.some.injEq] at e; subst e; simp at he)]
            subst hM
            clear HR HR1 HS
            go_wp2_with (go_at_call 52; refine (HWk.out _ HB.out).mono ?_; rintro e w1 ⟨rfl, rfl⟩)
            go_quiet (fail)
            have HB2 := Lib.hid (HB.out.drewN nq)
            go_wp2_with (go_at_call 88; refine (HFk.out _ HB2.out).mono ?_; rintro e w1 ⟨rfl, hk1, why1, fat1, hw1, hr1⟩)
            go_roundw
            case rel => exact ⟨i + 1, k, why1, fat1, none, by omega, hak, hk, by go_num, .inr ⟨hw1, rfl⟩, (HK.out.drewN _).trans hk1, hr1, rfl⟩
            case measure => simp [ixOf] <;> omega
        · have hJ : ¬ ((k : Int) < (s.size : Int)) := by omega
          have hJ2 : (s.size : Int) ≤ (k : Int) := by omega
          have hN : s.size ≤ k := by omega
          have hM : M = none := by rw [← HR1.out, HS.out, if_neg (by rw [List.getElem?_eq_none (by rw [← HLs.out]; omega)]; simp)]
          subst hM
          clear HR HR1 HS
          go_wp2_with (go_at_call 52; refine (HWk.out _ HB.out).mono ?_; rintro e w1 ⟨rfl, rfl⟩)
          go_quiet (fail)
          have HB2 := Lib.hid (HB.out.drewN nq)
          go_wp2_with (go_at_call 88; refine (HFk.out _ HB2.out).mono ?_; rintro e w1 ⟨rfl, hk1, why1, fat1, hw1, hr1⟩)
          go_roundw
          case rel => exact ⟨i + 1, k, why1, fat1, none, by omega, hak, hk, by go_num, .inr ⟨hw1, rfl⟩, (HK.out.drewN _).trans hk1, hr1, rfl⟩
          case measure => simp [ixOf] <;> omega
      · have hM : M = none := HR.out.symm
        subst hM
        clear HR
        go_wp2_with (go_at_call 52; refine (HWk.out _ HB.out).mono ?_; rintro e w1 ⟨rfl, rfl⟩)
        go_end0
        exact ⟨rfl, HK.out, k, why, fat, HO, hak, hk, HB⟩
    · obtain rfl : i = t.size := by omega
      have hM : M = st := by
        rw [← HR.out, List.drop_eq_nil_of_le (by rw [← HLt.out]; exact Nat.le_refl _)]
        cases st <;> rfl
      subst hM
      clear HR
      go_wp2_with fail
      go_end0
      exact ⟨rfl, HK.out, k, why, fat, HO, hak, hk, HB⟩
end
end Rv
end Go.Proofs.YtnbhaokbaonjkaaGreatDoor
