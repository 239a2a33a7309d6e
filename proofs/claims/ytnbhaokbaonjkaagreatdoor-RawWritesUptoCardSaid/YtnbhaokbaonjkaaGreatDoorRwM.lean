/- raw: the reader in memory; its fail, must and while: the walks. -/
import Derived.Test.YtnbhaokbaonjkaaGreatDoorRwK
import Derived.Test.YtnbhaokbaonjkaaGreatDoorWords
import Derived.Test.YtnbhaokbaonjkaaGreatDoorRhB
import Derived.Deep.QuietTactic
import Derived.Deep.RegionLaw
import Derived.BigQuiet
import Derived.Deep.LoopGhost
namespace Go.Proofs.YtnbhaokbaonjkaaGreatDoor
open Go.RowKit
namespace Rw
/-- The cells of a reader. -/
def rdCs (s : ByteArray) (a : Nat) (m p y : ByteArray) (v : Value) (b : ByteArray) (why fat ln : Int) (many : ByteArray) : Array Value :=
  #[.string s, .int .i64 (a : Int), .string m, .string p, .string y, v, .string b, .int .i64 why, .int .i64 fat, .int .i64 ln, .string many]
abbrev RdAt (w : World) (g : Nat) (s : ByteArray) (a : Nat) (m p y : ByteArray) (v : Value) (b : ByteArray) (why fat ln : Int) (many : ByteArray) : Prop := Blk w g 85 (rdCs s a m p y v b why fat ln many)
section
variable (s m p y b many : ByteArray) (v : Value) (why fat ln : Int) (g : Nat)
set_option maxRecDepth 100000 in
set_option maxHeartbeats 1000000 in
theorem fail_any (a : Nat) (w : World) (h : RdAt w g s a m p y v b why fat ln many) :
    Calls Tryz.prog 63 #[.pointer (some ⟨g, 0, none⟩)] w fun e w' => e = .returned (.bool false) ∧ Keeps (· = g) w w' ∧ ∃ why', why' ≠ 0 ∧ RdAt w' g s a m p y v b why' a ln many := by
  have H := Lib.hid h
  have c0 : w.cell? ⟨g, 0, none⟩ = some (.string s) := h.cell 0
  have c1 : w.cell? ⟨g, 1, none⟩ = some (.int .i64 (a : Int)) := h.cell 1
  have c7 : w.cell? ⟨g, 7, none⟩ = some (.int .i64 why) := h.cell 7
  have c8 : w.cell? ⟨g, 8, none⟩ = some (.int .i64 fat) := h.cell 8
  have z7 := h.frozen 7
  have z8 := h.frozen 8
  clear h
  go_enter Tryz.func63, Tryz.ntmps63
  go_wp2_with fail
  have H2 := Lib.hid ((H.out.set_ 7 (.int .i64 7)).set_ 8 (.int .i64 (a : Int)))
  have HK := Lib.hid (((Keeps.refl (· = g) w).setCell (p := ⟨g, 7, none⟩) (.inl rfl) (.int .i64 7)).setCell (p := ⟨g, 8, none⟩) (.inl rfl) (.int .i64 (a : Int)))
  generalize (w.setCell ⟨g, 7, none⟩ (.int .i64 7)).setCell ⟨g, 8, none⟩ (.int .i64 (a : Int)) = w2 at *
  have c0 : w2.cell? ⟨g, 0, none⟩ = some (.string s) := H2.out.cell 0
  have c1 : w2.cell? ⟨g, 1, none⟩ = some (.int .i64 (a : Int)) := H2.out.cell 1
  have c7 : w2.cell? ⟨g, 7, none⟩ = some (.int .i64 7) := H2.out.cell 7
  have z7 := H2.out.frozen 7
  go_quiet (fail)
  by_cases hle : (s.size : Int) ≤ (a : Int)
  · go_wp2_with fail
    go_ret
    exact ⟨rfl, (HK.out.drewN _).setCell (p := ⟨g, 7, none⟩) (.inl rfl) _, 10, by decide, (H2.out.drewN _).set_ 7 _⟩
  · have hle2 : (a : Int) < (s.size : Int) := by omega
    go_wp2_with fail
    go_ret
    exact ⟨rfl, HK.out.drewN _, 7, by decide, H2.out.drewN _⟩
/-- What must leaves. -/
def MustP (w : World) (r : Option Nat) (e : Ending) (w' : World) : Prop :=
  Keeps (· = g) w w' ∧ ((∃ z, r = some z ∧ e = .returned (.bool true) ∧ RdAt w' g s z m p y v b why fat ln many) ∨ (r = none ∧ e = .returned (.bool false) ∧ ∃ a' why', why' ≠ 0 ∧ RdAt w' g s a' m p y v b why' a' ln many))
theorem must_step {L T : Bytes} {i a : Nat} (hi : i < T.length) : mustN L (T.drop i) a = if L[a]? = some T[i] then mustN L (T.drop (i + 1)) (a + 1) else none := by
  rw [List.drop_eq_getElem_cons hi, mustN]
set_option maxRecDepth 100000 in
set_option maxHeartbeats 4000000 in
theorem must_any (t : ByteArray) (a : Nat) (w : World) (h : RdAt w g s a m p y v b why fat ln many) (hs : s.size ≤ 1000000) (ht : t.size ≤ 1000000) (ha : a ≤ s.size) :
    Calls Tryz.prog 64 #[.pointer (some ⟨g, 0, none⟩), .string t] w (MustP s m p y b many v why fat ln g w (mustN s.data.toList t.data.toList a)) := by
  have HF := Lib.hid (fun a w h => fail_any s m p y b many v why fat ln g a w h)
  have H := Lib.hid h
  have HLs := Lib.hid (Lib.size_eq s)
  have HLt := Lib.hid (Lib.size_eq t)
  obtain ⟨M, HM⟩ : ∃ z, Hid (mustN s.data.toList t.data.toList a = z) := ⟨_, rfl⟩
  rw [HM.out]
  clear h
  go_enter Tryz.func64, Tryz.ntmps64
  go_wp2_with fail
  go_loopw [8] (fun x wx => ∃ i k : Nat, i ≤ t.size ∧ k ≤ s.size ∧ x = .int .i64 i ∧ Hid (k = a + i) ∧ Hid (Keeps (· = g) w wx) ∧ Hid (RdAt wx g s k m p y v b why fat ln many) ∧ Hid (mustN s.data.toList (t.data.toList.drop i) k = M)) (fun x _ => t.size - (ixOf x).toNat)
  case atStart => exact ⟨0, a, Nat.zero_le _, ha, rfl, rfl, Keeps.refl _ _, H.out, HM.out⟩
  case round =>
    obtain ⟨i, k, hi, hk, rfl, Hk, HK, HB, HR⟩ := hrel
    have c0 : wr.cell? ⟨g, 0, none⟩ = some (.string s) := HB.out.cell 0
    have c1 : wr.cell? ⟨g, 1, none⟩ = some (.int .i64 (k : Int)) := HB.out.cell 1
    have z1 := HB.out.frozen 1
    by_cases hlt : i < t.size
    · have hI : (i : Int) < (t.size : Int) := by omega
      have HS : Hid (mustN s.data.toList (t.data.toList.drop i) k = if s.data.toList[k]? = some t.data.toList[i] then mustN s.data.toList (t.data.toList.drop (i + 1)) (k + 1) else none) := must_step (by rw [← HLt.out]; exact hlt)
      have et : t[i] = t.data.toList[i] := by simp [ByteArray.getElem_eq_getElem_data]
      rw [← et] at HS
      clear et
      by_cases hks : k < s.size
      · have es : s.data.toList[k]? = some s[k] := by rw [List.getElem?_eq_getElem (by rw [← HLs.out]; exact hks)]; simp [ByteArray.getElem_eq_getElem_data]
        rw [es] at HS
        clear es
        have hJ : (k : Int) < (s.size : Int) := by omega
        generalize hc : s[k] = c at *
        generalize hd : t[i] = d at *
        have hc1 := c.toNat_lt
        have hd1 := d.toNat_lt
        have hN : ¬ (s.size ≤ k) := by omega
        cases he : ((c.toNat : Int) == (d.toNat : Int)) with
        | true =>
          have HE : Hid (c = d) := UInt8.toNat_inj.1 (by have := eq_of_beq he; omega)
          have HR2 : Hid (mustN s.data.toList (t.data.toList.drop (i + 1)) (k + 1) = M) := by rw [← HR.out, HS.out, if_pos (by rw [HE.out])]; rfl
          have hb : ((c.toNat : Int) != (d.toNat : Int)) = false := by rw [bne, he]; rfl
          have h1 : IntKind.i64.wrap ((k : Int) + 1) = ((k + 1 : Nat) : Int) := by rw [IntWalk.i64_in _ (by omega)]; rfl
          clear HR HS HE
          go_wp2_with fail
          go_quiet (fail)
          go_wp2_with fail
          go_roundw
          case rel => exact ⟨i + 1, k + 1, by omega, by omega, by go_num, by have := Hk.out; show _ = _; omega, (HK.out.drewN _).setCell (p := ⟨g, 1, none⟩) (.inl rfl) _, (HB.out.drewN _).set_ 1 _, HR2.out⟩
          case measure => simp [ixOf] <;> omega
        | false =>
          have hb : ((c.toNat : Int) != (d.toNat : Int)) = true := by rw [bne, he]; rfl
          have hM : M = none := by rw [← HR.out, HS.out, if_neg (by intro e; simp only [Option.some.injEq] at e; subst e; simp at he)]
          subst hM
          clear HR HS HM
          go_wp2_with fail
          go_quiet (fail)
          have HB2 := Lib.hid (HB.out.drewN nq)
          go_wp2_with (go_at_call 63; refine (HF.out _ _ HB2.out).mono ?_; rintro e w1 ⟨rfl, hk1, why1, hw1, hr1⟩)
          go_ret
          exact ⟨(HK.out.drewN _).trans hk1, .inr ⟨rfl, rfl, _, why1, hw1, hr1⟩⟩
      · have hJ : ¬ ((k : Int) < (s.size : Int)) := by omega
        have hJ2 : (s.size : Int) ≤ (k : Int) := by omega
        have hN : s.size ≤ k := by omega
        have hM : M = none := by rw [← HR.out, HS.out, if_neg (by rw [List.getElem?_eq_none (by rw [← HLs.out]; omega)]; simp)]
        subst hM
        clear HR HS HM
        go_wp2_with fail
        go_quiet (fail)
        have HB2 := Lib.hid (HB.out.drewN nq)
        go_wp2_with (go_at_call 63; refine (HF.out _ _ HB2.out).mono ?_; rintro e w1 ⟨rfl, hk1, why1, hw1, hr1⟩)
        go_ret
        exact ⟨(HK.out.drewN _).trans hk1, .inr ⟨rfl, rfl, _, why1, hw1, hr1⟩⟩
    · obtain rfl : i = t.size := by omega
      have hM : M = some k := by rw [← HR.out, List.drop_eq_nil_of_le (by rw [← HLt.out]; exact Nat.le_refl _), mustN]
      subst hM
      clear HR HM
      go_wp2_with fail
      go_ret
      exact ⟨HK.out, .inl ⟨k, rfl, rfl, HB.out⟩⟩
theorem extract_piece (s : ByteArray) (a b : Nat) : s.extract a b = bytes (piece s.data.toList a b) := by
  have h1 : (s.extract a b).data.toList = piece s.data.toList a b := by
    unfold piece
    simp only [ByteArray.data_extract, Array.toList_extract, List.take_drop]
  unfold bytes
  rw [← h1]
/-- A function that says whether a letter is of a kind. -/
structure Kind (fid : Nat) (P : UInt8 → Bool) : Prop where
  fn : ∀ args w, (callFunc fid args).run Tryz.prog w = .ok (.enter fid args) w
  says : ∀ (c : UInt8) (w : World), Calls Tryz.prog fid #[.int .u8 (c.toNat : Int)] w fun e w' => e = .returned (.bool (P c)) ∧ w' = w
set_option maxRecDepth 100000 in
set_option maxHeartbeats 4000000 in
theorem while_any (fid : Nat) (P : UInt8 → Bool) (hP : Kind fid P) (a mo : Nat) (w : World) (h : RdAt w g s a m p y v b why fat ln many) (hs : s.size ≤ 1000000) (hm : mo ≤ 1000000) (ha : a ≤ s.size) :
    Calls Tryz.prog 61 #[.pointer (some ⟨g, 0, none⟩), .int .i64 (mo : Int), .func (.func fid) #[] #[]] w fun e w' => e = .returned (.string (bytes (piece s.data.toList a (whileN s.data.toList P mo a)))) ∧ Keeps (· = g) w w' ∧ RdAt w' g s (whileN s.data.toList P mo a) m p y v b why fat ln many := by
  have HX := Lib.hid (extract_piece s a (whileN s.data.toList P mo a))
  have HP := Lib.hid hP.says
  have HFn := Lib.hid hP.fn
  have H := Lib.hid h
  have HLs := Lib.hid (Lib.size_eq s)
  have HZ := Lib.hid (while_le P mo (show a ≤ s.data.toList.length by rw [← HLs.out]; exact ha))
  have c1 : w.cell? ⟨g, 1, none⟩ = some (.int .i64 (a : Int)) := h.cell 1
  obtain ⟨M, HM⟩ : ∃ z, Hid (whileN s.data.toList P mo a = z) := ⟨_, rfl⟩
  rw [HM.out] at HX HZ ⊢
  clear h hP
  go_enter Tryz.func61, Tryz.ntmps61
  go_wp2_with fail
  go_loopg [] (s.size - a) (fun gk wx => ∃ k r : Nat, gk + k = s.size ∧ a ≤ k ∧ k + r = a + mo ∧ Hid (Keeps (· = g) w wx) ∧ Hid (RdAt wx g s k m p y v b why fat ln many) ∧ Hid (whileN s.data.toList P r k = M))
  case atStart => exact ⟨a, mo, by omega, Nat.le_refl _, rfl, Keeps.refl _ _, H.out, HM.out⟩
  case round =>
    obtain ⟨k, r, hk, hak, hkr, HK, HB, HR⟩ := hrel
    have c0 : wr.cell? ⟨g, 0, none⟩ = some (.string s) := HB.out.cell 0
    have c1 : wr.cell? ⟨g, 1, none⟩ = some (.int .i64 (k : Int)) := HB.out.cell 1
    have z1 := HB.out.frozen 1
    have hw1 : IntKind.i64.wrap ((k : Int) - (a : Int)) = (k : Int) - (a : Int) := IntWalk.i64_in _ (by omega)
    have go_on : ∀ (b : Bool), b = false → True := fun _ _ => trivial
    by_cases hks : k < s.size
    · have hJ : (k : Int) < (s.size : Int) := by omega
      by_cases hr : 0 < r
      · have hJ2 : (k : Int) - (a : Int) < (mo : Int) := by omega
        have hlt' : k < s.data.toList.length := by rw [← HLs.out]; exact hks
        have HS : Hid (whileN s.data.toList P r k = if P s.data.toList[k] = true then whileN s.data.toList P (r - 1) (k + 1) else k) := by
          have := while_step P (r - 1) hlt'
          rw [show r - 1 + 1 = r by omega] at this
          exact this
        have es : s[k] = s.data.toList[k] := by simp [ByteArray.getElem_eq_getElem_data]
        rw [← es] at HS
        clear es
        generalize hc : s[k] = c at *
        have hc1 := c.toNat_lt
        have HPc := Lib.hid (HP.out c)
        have hfn := HFn.out #[.int .u8 (c.toNat : Int)]
        cases hp : P c with
        | true =>
          rw [hp] at HPc
          have HR2 : Hid (whileN s.data.toList P (r - 1) (k + 1) = M) := by rw [← HR.out, HS.out, if_pos hp]; rfl
          have h1 : IntKind.i64.wrap ((k : Int) + 1) = ((k + 1 : Nat) : Int) := by rw [IntWalk.i64_in _ (by omega)]; rfl
          clear HR HS
          go_wp2_with fail
          go_quiet (exact Calls.quiet_of_same (HPc.out _))
          go_wp2_with fail
          go_roundg (gk - 1)
          case rel => exact ⟨k + 1, r - 1, by omega, by omega, by omega, (HK.out.drewN _).setCell (p := ⟨g, 1, none⟩) (.inl rfl) _, (HB.out.drewN _).set_ 1 _, HR2.out⟩
          case measure => omega
        | false =>
          rw [hp] at HPc
          have hM : M = k := by rw [← HR.out, HS.out, if_neg (by rw [hp]; decide)]
          subst hM
          clear HR HS
          go_wp2_with fail
          go_quiet (exact Calls.quiet_of_same (HPc.out _))
          have hq0 : (0 : Int) ≤ (a : Int) := by omega
          have hq1 : (a : Int) ≤ (M : Int) := by omega
          have hq2 : (M : Int) ≤ (s.size : Int) := by omega
          have HK2 := Lib.hid (HK.out.drewN nq)
          have HB2 := Lib.hid (HB.out.drewN nq)
          generalize wr.drewN nq = w2 at *
          have d0 : w2.cell? ⟨g, 0, none⟩ = some (.string s) := HB2.out.cell 0
          have d1 : w2.cell? ⟨g, 1, none⟩ = some (.int .i64 (M : Int)) := HB2.out.cell 1
          go_wp2_with fail
          go_quiet (fail)
          go_wp2_with fail
          go_ret
          exact ⟨congrArg (fun x => Ending.returned (.string x)) HX.out, HK2.out.drewN _, HB2.out.drewN _⟩
      · have hJ2 : ¬ ((k : Int) - (a : Int) < (mo : Int)) := by omega
        have hd2 : decide ((k : Int) - (a : Int) < (mo : Int)) = false := decide_eq_false hJ2
        obtain rfl : r = 0 := by omega
        have hM : M = k := by rw [← HR.out, while_zero]
        subst hM
        clear HR
        go_wp2_with fail
        go_quiet (fail)
        have hq0 : (0 : Int) ≤ (a : Int) := by omega
        have hq1 : (a : Int) ≤ (M : Int) := by omega
        have hq2 : (M : Int) ≤ (s.size : Int) := by omega
        have HK2 := Lib.hid (HK.out.drewN nq)
        have HB2 := Lib.hid (HB.out.drewN nq)
        generalize wr.drewN nq = w2 at *
        have d0 : w2.cell? ⟨g, 0, none⟩ = some (.string s) := HB2.out.cell 0
        have d1 : w2.cell? ⟨g, 1, none⟩ = some (.int .i64 (M : Int)) := HB2.out.cell 1
        go_wp2_with fail
        go_quiet (fail)
        go_wp2_with fail
        go_ret
        exact ⟨congrArg (fun x => Ending.returned (.string x)) HX.out, HK2.out.drewN _, HB2.out.drewN _⟩
    · have hJ : ¬ ((k : Int) < (s.size : Int)) := by omega
      have hM : M = k := by rw [← HR.out, while_end P r (by rw [← HLs.out]; omega)]
      subst hM
      clear HR
      go_wp2_with fail
      go_quiet (fail)
      have hq0 : (0 : Int) ≤ (a : Int) := by omega
      have hq1 : (a : Int) ≤ (M : Int) := by omega
      have hq2 : (M : Int) ≤ (s.size : Int) := by omega
      have HK2 := Lib.hid (HK.out.drewN nq)
      have HB2 := Lib.hid (HB.out.drewN nq)
      generalize wr.drewN nq = w2 at *
      have d0 : w2.cell? ⟨g, 0, none⟩ = some (.string s) := HB2.out.cell 0
      have d1 : w2.cell? ⟨g, 1, none⟩ = some (.int .i64 (M : Int)) := HB2.out.cell 1
      go_wp2_with fail
      go_quiet (fail)
      go_wp2_with fail
      go_ret
      exact ⟨congrArg (fun x => Ending.returned (.string x)) HX.out, HK2.out.drewN _, HB2.out.drewN _⟩
end
end Rw
end Go.Proofs.YtnbhaokbaonjkaaGreatDoor
