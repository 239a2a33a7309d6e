import Derived.Test.YtgpemnmopogppaaGreatDoorZRwAQ
import Derived.Test.YtgpemnmopogppaaGreatDoorZWordsQ
import Derived.Test.YtgpemnmopogppaaGreatDoorZRhAQ
import Derived.Deep.QuietTactic
import Derived.Deep.RegionLaw
import Derived.BigQuiet
import Derived.Deep.LoopGhost
import Derived.Test.YtgpemnmopogppaaGreatDoorZShM
import Derived.Shelf.Strings.SlTrimAscii
import Derived.Lib.ItoaNum
import Derived.StillTailTactics
set_option maxRecDepth 1000000
set_option maxHeartbeats 16000000
namespace Go.Proofs.YtgpemnmopogppaaGreatDoor
open Go.Proofs.Tryz
open Go.RowKit
namespace Rw
def rdCs (s : ByteArray) (a : Nat) (m p y : ByteArray) (v : Value) (b : ByteArray) (why fat ln : Int) (many : ByteArray) : Array Value :=
 #[.string s, .int .i64 (a : Int), .string m, .string p, .string y, v, .string b, .int .i64 why, .int .i64 fat, .int .i64 ln, .string many]
abbrev RdAt (w : World) (g : Nat) (s : ByteArray) (a : Nat) (m p y : ByteArray) (v : Value) (b : ByteArray) (why fat ln : Int) (many : ByteArray) : Prop := Blk w g 88 (rdCs s a m p y v b why fat ln many)
section
variable (s m p y b many : ByteArray) (v : Value) (why fat ln : Int) (g : Nat)
theorem fail_any (a : Nat) (w : World) (h : RdAt w g s a m p y v b why fat ln many) :
  Calls prog 91 #[.pointer (some ⟨g, 0, none⟩)] w fun e w' => e = .returned (.bool false) ∧ Keeps (· = g) w w' ∧ ∃ why', why' ≠ 0 ∧ RdAt w' g s a m p y v b why' a ln many := by
 have H := lH h
 have c0 : w.cell? ⟨g, 0, none⟩ = some (.string s) := h.cell 0
 have c1 : w.cell? ⟨g, 1, none⟩ = some (.int .i64 (a : Int)) := h.cell 1
 have c7 : w.cell? ⟨g, 7, none⟩ = some (.int .i64 why) := h.cell 7
 have c8 : w.cell? ⟨g, 8, none⟩ = some (.int .i64 fat) := h.cell 8
 have z7 := h.frozen 7
 have z8 := h.frozen 8
 clear h
 go_enter func91, ntmps91
 go_wp2_with fail
 have H2 := lH ((H.out.set_ 7 (.int .i64 7)).set_ 8 (.int .i64 (a : Int)))
 have HK := lH (((Keeps.refl (· = g) w).setCell (p := ⟨g, 7, none⟩) (.inl rfl) (.int .i64 7)).setCell (p := ⟨g, 8, none⟩) (.inl rfl) (.int .i64 (a : Int)))
 generalize (w.setCell ⟨g, 7, none⟩ (.int .i64 7)).setCell ⟨g, 8, none⟩ (.int .i64 (a : Int)) = w2 at *
 have c0 : w2.cell? ⟨g, 0, none⟩ = some (.string s) := H2.out.cell 0
 have c1 : w2.cell? ⟨g, 1, none⟩ = some (.int .i64 (a : Int)) := H2.out.cell 1
 have c7 : w2.cell? ⟨g, 7, none⟩ = some (.int .i64 7) := H2.out.cell 7
 have z7 := H2.out.frozen 7
 go_quiet (fail)
 by_cases hle : (s.size : Int) ≤ (a : Int)
 · go_wp2_with fail
   go_ret
   exact ⟨rfl, (HK.out.drewN _).setCell (p := ⟨g, 7, none⟩) (.inl rfl) _, 10, by decide, (H2.out.drewN _).set_ 7 _⟩
 · have hle2 : (a : Int) < (s.size : Int) := by omega
   go_wp2_with fail
   go_ret
   exact ⟨rfl, HK.out.drewN _, 7, by decide, H2.out.drewN _⟩
def MustP (w : World) (r : Option Nat) (e : Ending) (w' : World) : Prop :=
 Keeps (· = g) w w' ∧ ((∃ z, r = some z ∧ e = .returned (.bool true) ∧ RdAt w' g s z m p y v b why fat ln many) ∨ (r = none ∧ e = .returned (.bool false) ∧ ∃ a' why', why' ≠ 0 ∧ RdAt w' g s a' m p y v b why' a' ln many))
theorem must_step {L T : Bytes} {i a : Nat} (hi : i < T.length) : mustN L (T.drop i) a = if L[a]? = some T[i] then mustN L (T.drop (i + 1)) (a + 1) else none := by
 rw [List.drop_eq_getElem_cons hi, mustN]
theorem must_any (t : ByteArray) (a : Nat) (w : World) (h : RdAt w g s a m p y v b why fat ln many) (hs : s.size ≤ 1000000) (ht : t.size ≤ 1000000) (ha : a ≤ s.size) :
  Calls prog 92 #[.pointer (some ⟨g, 0, none⟩), .string t] w (MustP s m p y b many v why fat ln g w (mustN s.data.toList t.data.toList a)) := by
 have HF := lH (fun a w h => fail_any s m p y b many v why fat ln g a w h)
 have H := lH h
 have HLs := lH (Lib.size_eq s)
 have HLt := lH (Lib.size_eq t)
 obtain ⟨M, HM⟩ : ∃ z, Hid (mustN s.data.toList t.data.toList a = z) := ⟨_, rfl⟩
 rw [HM.out]
 clear h
 go_enter func92, ntmps92
 go_wp2_with fail
 go_loopw [8] (fun x wx => ∃ i k : Nat, i ≤ t.size ∧ k ≤ s.size ∧ x = .int .i64 i ∧ Hid (k = a + i) ∧ Hid (Keeps (· = g) w wx) ∧ Hid (RdAt wx g s k m p y v b why fat ln many) ∧ Hid (mustN s.data.toList (t.data.toList.drop i) k = M)) (fun x _ => t.size - (ixOf x).toNat)
 case atStart => exact ⟨0, a, Nat.zero_le _, ha, rfl, rfl, Keeps.refl _ _, H.out, HM.out⟩
 case round =>
  obtain ⟨i, k, hi, hk, rfl, Hk, HK, HB, HR⟩ := hrel
  have c0 : wr.cell? ⟨g, 0, none⟩ = some (.string s) := HB.out.cell 0
  have c1 : wr.cell? ⟨g, 1, none⟩ = some (.int .i64 (k : Int)) := HB.out.cell 1
  have z1 := HB.out.frozen 1
  by_cases hlt : i < t.size
  · have hI : (i : Int) < (t.size : Int) := by omega
    have HS : Hid (mustN s.data.toList (t.data.toList.drop i) k = if s.data.toList[k]? = some t.data.toList[i] then mustN s.data.toList (t.data.toList.drop (i + 1)) (k + 1) else none) := must_step (by rw [← HLt.out]; exact hlt)
    have et : t[i] = t.data.toList[i] := by simp [ByteArray.getElem_eq_getElem_data]
    rw [← et] at HS
    clear et
    by_cases hks : k < s.size
    · have es : s.data.toList[k]? = some s[k] := by rw [List.getElem?_eq_getElem (by rw [← HLs.out]; exact hks)]; simp [ByteArray.getElem_eq_getElem_data]
      rw [es] at HS
      clear es
      have hJ : (k : Int) < (s.size : Int) := by omega
      generalize hc : s[k] = c at *
      generalize hd : t[i] = d at *
      have hc1 := c.toNat_lt
      have hd1 := d.toNat_lt
      have hN : ¬ (s.size ≤ k) := by omega
      cases he : ((c.toNat : Int) == (d.toNat : Int)) with
      | true =>
       have HE : Hid (c = d) := UInt8.toNat_inj.1 (by have := eq_of_beq he; omega)
       have HR2 : Hid (mustN s.data.toList (t.data.toList.drop (i + 1)) (k + 1) = M) := by rw [← HR.out, HS.out, if_pos (by rw [HE.out])]; rfl
       have hb : ((c.toNat : Int) != (d.toNat : Int)) = false := by rw [bne, he]; rfl
       have h1 : IntKind.i64.wrap ((k : Int) + 1) = ((k + 1 : Nat) : Int) := by rw [IntWalk.i64_in _ (by omega)]; rfl
       clear HR HS HE
       go_wp2_with fail
       go_quiet (fail)
       go_wp2_with fail
       go_roundw
       case rel => exact ⟨i + 1, k + 1, by omega, by omega, by go_num, by have := Hk.out; show _ = _; omega, (HK.out.drewN _).setCell (p := ⟨g, 1, none⟩) (.inl rfl) _, (HB.out.drewN _).set_ 1 _, HR2.out⟩
       case measure => simp [ixOf] <;> omega
      | false =>
       have hb : ((c.toNat : Int) != (d.toNat : Int)) = true := by rw [bne, he]; rfl
       have hM : M = none := by rw [← HR.out, HS.out, if_neg (by intro e; simp only [Option.some.injEq] at e; subst e; simp at he)]
       subst hM
       clear HR HS HM
       go_wp2_with fail
       go_quiet (fail)
       have HB2 := lH (HB.out.drewN nq)
       go_wp2_with (go_at_call 91; refine (HF.out _ _ HB2.out).mono ?_; rintro e w1 ⟨rfl, hk1, why1, hw1, hr1⟩)
       go_ret
       exact ⟨(HK.out.drewN _).trans hk1, .inr ⟨rfl, rfl, _, why1, hw1, hr1⟩⟩
    · have hJ : ¬ ((k : Int) < (s.size : Int)) := by omega
      have hJ2 : (s.size : Int) ≤ (k : Int) := by omega
      have hN : s.size ≤ k := by omega
      have hM : M = none := by rw [← HR.out, HS.out, if_neg (by rw [List.getElem?_eq_none (by rw [← HLs.out]; omega)]; simp)]
      subst hM
      clear HR HS HM
      go_wp2_with fail
      go_quiet (fail)
      have HB2 := lH (HB.out.drewN nq)
      go_wp2_with (go_at_call 91; refine (HF.out _ _ HB2.out).mono ?_; rintro e w1 ⟨rfl, hk1, why1, hw1, hr1⟩)
      go_ret
      exact ⟨(HK.out.drewN _).trans hk1, .inr ⟨rfl, rfl, _, why1, hw1, hr1⟩⟩
  · obtain rfl : i = t.size := by omega
    have hM : M = some k := by rw [← HR.out, List.drop_eq_nil_of_le (by rw [← HLt.out]; exact Nat.le_refl _), mustN]
    subst hM
    clear HR HM
    go_wp2_with fail
    go_ret
    exact ⟨HK.out, .inl ⟨k, rfl, rfl, HB.out⟩⟩
theorem extract_piece (s : ByteArray) (a b : Nat) : s.extract a b = bytes (piece s.data.toList a b) := by
 have h1 : (s.extract a b).data.toList = piece s.data.toList a b := by
  unfold piece
  simp only [ByteArray.data_extract, Array.toList_extract, List.take_drop]
 unfold bytes
 rw [← h1]
structure Kind (fid : Nat) (P : UInt8 → Bool) : Prop where
 fn : ∀ args w, (callFunc fid args).run prog w = .ok (.enter fid args) w
 says : ∀ (c : UInt8) (w : World), Calls prog fid #[.int .u8 (c.toNat : Int)] w fun e w' => e = .returned (.bool (P c)) ∧ w' = w
theorem while_any (fid : Nat) (P : UInt8 → Bool) (hP : Kind fid P) (a mo : Nat) (w : World) (h : RdAt w g s a m p y v b why fat ln many) (hs : s.size ≤ 1000000) (hm : mo ≤ 1000000) (ha : a ≤ s.size) :
  Calls prog 90 #[.pointer (some ⟨g, 0, none⟩), .int .i64 (mo : Int), .func (.func fid) #[] #[]] w fun e w' => e = .returned (.string (bytes (piece s.data.toList a (whileN s.data.toList P mo a)))) ∧ Keeps (· = g) w w' ∧ RdAt w' g s (whileN s.data.toList P mo a) m p y v b why fat ln many := by
 have HX := lH (extract_piece s a (whileN s.data.toList P mo a))
 have HP := lH hP.says
 have HFn := lH hP.fn
 have H := lH h
 have HLs := lH (Lib.size_eq s)
 have HZ := lH (while_le P mo (show a ≤ s.data.toList.length by rw [← HLs.out]; exact ha))
 have c1 : w.cell? ⟨g, 1, none⟩ = some (.int .i64 (a : Int)) := h.cell 1
 obtain ⟨M, HM⟩ : ∃ z, Hid (whileN s.data.toList P mo a = z) := ⟨_, rfl⟩
 rw [HM.out] at HX HZ ⊢
 clear h hP
 go_enter func90, ntmps90
 go_wp2_with fail
 go_loopg [] (s.size - a) (fun gk wx => ∃ k r : Nat, gk + k = s.size ∧ a ≤ k ∧ k + r = a + mo ∧ Hid (Keeps (· = g) w wx) ∧ Hid (RdAt wx g s k m p y v b why fat ln many) ∧ Hid (whileN s.data.toList P r k = M))
 case atStart => exact ⟨a, mo, by omega, Nat.le_refl _, rfl, Keeps.refl _ _, H.out, HM.out⟩
 case round =>
  obtain ⟨k, r, hk, hak, hkr, HK, HB, HR⟩ := hrel
  have c0 : wr.cell? ⟨g, 0, none⟩ = some (.string s) := HB.out.cell 0
  have c1 : wr.cell? ⟨g, 1, none⟩ = some (.int .i64 (k : Int)) := HB.out.cell 1
  have z1 := HB.out.frozen 1
  have hw1 : IntKind.i64.wrap ((k : Int) - (a : Int)) = (k : Int) - (a : Int) := IntWalk.i64_in _ (by omega)
  have go_on : ∀ (b : Bool), b = false → True := fun _ _ => trivial
  by_cases hks : k < s.size
  · have hJ : (k : Int) < (s.size : Int) := by omega
    by_cases hr : 0 < r
    · have hJ2 : (k : Int) - (a : Int) < (mo : Int) := by omega
      have hlt' : k < s.data.toList.length := by rw [← HLs.out]; exact hks
      have HS : Hid (whileN s.data.toList P r k = if P s.data.toList[k] = true then whileN s.data.toList P (r - 1) (k + 1) else k) := by
       have := while_step P (r - 1) hlt'
       rw [show r - 1 + 1 = r by omega] at this
       exact this
      have es : s[k] = s.data.toList[k] := by simp [ByteArray.getElem_eq_getElem_data]
      rw [← es] at HS
      clear es
      generalize hc : s[k] = c at *
      have hc1 := c.toNat_lt
      have HPc := lH (HP.out c)
      have hfn := HFn.out #[.int .u8 (c.toNat : Int)]
      cases hp : P c with
      | true =>
       rw [hp] at HPc
       have HR2 : Hid (whileN s.data.toList P (r - 1) (k + 1) = M) := by rw [← HR.out, HS.out, if_pos hp]; rfl
       have h1 : IntKind.i64.wrap ((k : Int) + 1) = ((k + 1 : Nat) : Int) := by rw [IntWalk.i64_in _ (by omega)]; rfl
       clear HR HS
       go_wp2_with fail
       go_quiet (exact Calls.quiet_of_same (HPc.out _))
       go_wp2_with fail
       go_roundg (gk - 1)
       case rel => exact ⟨k + 1, r - 1, by omega, by omega, by omega, (HK.out.drewN _).setCell (p := ⟨g, 1, none⟩) (.inl rfl) _, (HB.out.drewN _).set_ 1 _, HR2.out⟩
       case measure => omega
      | false =>
       rw [hp] at HPc
       have hM : M = k := by rw [← HR.out, HS.out, if_neg (by rw [hp]; decide)]
       subst hM
       clear HR HS
       go_wp2_with fail
       go_quiet (exact Calls.quiet_of_same (HPc.out _))
       have hq0 : (0 : Int) ≤ (a : Int) := by omega
       have hq1 : (a : Int) ≤ (M : Int) := by omega
       have hq2 : (M : Int) ≤ (s.size : Int) := by omega
       have HK2 := lH (HK.out.drewN nq)
       have HB2 := lH (HB.out.drewN nq)
       generalize wr.drewN nq = w2 at *
       have d0 : w2.cell? ⟨g, 0, none⟩ = some (.string s) := HB2.out.cell 0
       have d1 : w2.cell? ⟨g, 1, none⟩ = some (.int .i64 (M : Int)) := HB2.out.cell 1
       go_wp2_with fail
       go_quiet (fail)
       go_wp2_with fail
       go_ret
       exact ⟨congrArg (fun x => Ending.returned (.string x)) HX.out, HK2.out.drewN _, HB2.out.drewN _⟩
    · have hJ2 : ¬ ((k : Int) - (a : Int) < (mo : Int)) := by omega
      have hd2 : decide ((k : Int) - (a : Int) < (mo : Int)) = false := decide_eq_false hJ2
      obtain rfl : r = 0 := by omega
      have hM : M = k := by rw [← HR.out, while_zero]
      subst hM
      clear HR
      go_wp2_with fail
      go_quiet (fail)
      have hq0 : (0 : Int) ≤ (a : Int) := by omega
      have hq1 : (a : Int) ≤ (M : Int) := by omega
      have hq2 : (M : Int) ≤ (s.size : Int) := by omega
      have HK2 := lH (HK.out.drewN nq)
      have HB2 := lH (HB.out.drewN nq)
      generalize wr.drewN nq = w2 at *
      have d0 : w2.cell? ⟨g, 0, none⟩ = some (.string s) := HB2.out.cell 0
      have d1 : w2.cell? ⟨g, 1, none⟩ = some (.int .i64 (M : Int)) := HB2.out.cell 1
      go_wp2_with fail
      go_quiet (fail)
      go_wp2_with fail
      go_ret
      exact ⟨congrArg (fun x => Ending.returned (.string x)) HX.out, HK2.out.drewN _, HB2.out.drewN _⟩
  · have hJ : ¬ ((k : Int) < (s.size : Int)) := by omega
    have hM : M = k := by rw [← HR.out, while_end P r (by rw [← HLs.out]; omega)]
    subst hM
    clear HR
    go_wp2_with fail
    go_quiet (fail)
    have hq0 : (0 : Int) ≤ (a : Int) := by omega
    have hq1 : (a : Int) ≤ (M : Int) := by omega
    have hq2 : (M : Int) ≤ (s.size : Int) := by omega
    have HK2 := lH (HK.out.drewN nq)
    have HB2 := lH (HB.out.drewN nq)
    generalize wr.drewN nq = w2 at *
    have d0 : w2.cell? ⟨g, 0, none⟩ = some (.string s) := HB2.out.cell 0
    have d1 : w2.cell? ⟨g, 1, none⟩ = some (.int .i64 (M : Int)) := HB2.out.cell 1
    go_wp2_with fail
    go_quiet (fail)
    go_wp2_with fail
    go_ret
    exact ⟨congrArg (fun x => Ending.returned (.string x)) HX.out, HK2.out.drewN _, HB2.out.drewN _⟩
end
end Rw
open Go.RowKit
namespace Rw
theorem pre_one (c b : UInt8) (l : Bytes) : [c].isPrefixOf (b :: l) = (c == b) := by
 rw [List.isPrefixOf, List.isPrefixOf, Bool.and_true]
theorem index_cons (c b : UInt8) (l : Bytes) : Lib.index (b :: l) [c] = if c = b then 0 else if Lib.index l [c] = -1 then -1 else Lib.index l [c] + 1 := by
 rw [Lib.index, pre_one]
 by_cases h : c = b
 · subst h; simp
 · simp [h]
theorem cut_q : ∀ l : Bytes, (Lib.cut l [63]).1 = (cutQ l).1 ∧ (Lib.cut l [63]).2.1 = (cutQ l).2
 | [] => by decide
 | b :: l => by
  obtain ⟨h1, h2⟩ := cut_q l
  have hge := Lib.index_ge l [63]
  have hi := index_cons 63 b l
  unfold Lib.cut at h1 h2 ⊢
  rw [cutQ]
  by_cases h : b = 63
  · subst h
    rw [if_pos rfl] at hi
    rw [hi, if_pos rfl]
    simp
  · rw [if_neg (fun e => h e.symm)] at hi
    rw [if_neg h]
    by_cases hn : Lib.index l [63] = -1
    · rw [if_pos hn] at hi
      rw [hn] at h1 h2
      rw [hi]
      simp only [show ¬ (0 ≤ (-1 : Int)) by decide, if_false] at h1 h2 ⊢
      exact ⟨by rw [← h1], h2⟩
    · rw [if_neg hn] at hi
      have hp : 0 ≤ Lib.index l [63] := by omega
      have hp2 : 0 ≤ Lib.index l [63] + 1 := by omega
      rw [if_pos hp] at h1 h2
      rw [hi, if_pos hp2]
      have e : (Lib.index l [63] + 1).toNat = (Lib.index l [63]).toNat + 1 := by omega
      rw [e]
      refine ⟨by rw [← h1]; simp, ?_⟩
      rw [← h2]
      simp only [List.length_cons, List.length_nil]
      rw [show (Lib.index l [63]).toNat + 1 + (0 + 1) = ((Lib.index l [63]).toNat + (0 + 1)) + 1 by omega, List.drop_succ_cons]
theorem trim_snoc (l : Bytes) (c : UInt8) : Lib.trimRightS (l ++ [c]) [32, 9] = if blankB c = true then Lib.trimRightS l [32, 9] else l ++ [c] := by
 have hb : ([32, 9] : Bytes).contains c = blankB c := by
  unfold blankB
  rw [Bool.eq_iff_iff]
  simp [← UInt8.toNat_inj]
 unfold Lib.trimRightS
 rw [List.reverse_append, List.reverse_singleton, List.singleton_append, List.dropWhile_cons, hb]
 by_cases h : blankB c = true
 · rw [if_pos h, if_pos h]
 · rw [if_neg h, if_neg h]
   simp
theorem trim_r (l : Bytes) : Lib.trimRightS l [32, 9] = trimR l := by
 suffices h : ∀ n (l : Bytes), l.length = n → Lib.trimRightS l [32, 9] = trimR l from h _ l rfl
 intro n
 induction n with
 | zero => intro l hl; rw [List.length_eq_zero_iff.1 hl]; rfl
 | succ n ih =>
  intro l hl
  have hne : l ≠ [] := by intro e; subst e; simp at hl
  have e := (List.dropLast_concat_getLast hne).symm
  generalize l.getLast hne = c at e
  generalize l.dropLast = r at e
  subst e
  rw [trim_snoc, trimR_snoc, ih r (by simpa using hl)]
theorem prefix_at (L : Bytes) (a : Nat) : Lib.hasPrefix (L.drop a) [13] = decide (L[a]? = some 13) := by
 unfold Lib.hasPrefix
 by_cases h : a < L.length
 · rw [List.drop_eq_getElem_cons h, pre_one, List.getElem?_eq_getElem h]
   by_cases e : L[a] = 13
   · rw [e]; rfl
   · rw [decide_eq_false (by simpa using e)]
     exact beq_eq_false_iff_ne.2 (fun h => e h.symm)
 · rw [List.drop_eq_nil_of_le (by omega), List.getElem?_eq_none (by omega)]
   rfl
theorem piece_end (s : ByteArray) (a : Nat) : piece s.data.toList a s.size = s.data.toList.drop a := by
 unfold piece
 rw [List.take_of_length_le (by rw [List.length_drop, Lib.size_eq]; exact Nat.le_refl _)]
theorem bytes_list (l : Bytes) : (bytes l).data.toList = l := by simp [bytes]
theorem bytes_size (l : Bytes) : (bytes l).size = l.length := by simp [bytes, ByteArray.size]
theorem cutL_any (l : Bytes) (m : Int) (hl : l.length ≤ 1000000) (w : World) (hm : w.cell? ⟨0, 0, none⟩ = some (.int .i64 m)) :
  Calls prog 27 #[.string (bytes l), .string ⟨#[63]⟩] w fun e w' => (∃ b, e = .returned (.tuple #[.string (bytes (cutQ l).1), .string (bytes (cutQ l).2), .bool b])) ∧ ∃ n, w' = w.drewN n := by
 have h := Tryz.strings_Cut (bytes l) ⟨#[63]⟩ m w (by rw [bytes_size]; omega) hm
 rw [bytes_list] at h
 have e1 : (⟨#[63]⟩ : ByteArray).data.toList = [63] := rfl
 rw [e1, (cut_q l).1, (cut_q l).2] at h
 exact h.mono fun e w' ⟨h1, h2⟩ => ⟨⟨_, h1⟩, h2⟩
theorem trimL_any (l : Bytes) (hl : l.length ≤ 1000000) (w : World) :
  Calls prog 96 #[.string (bytes l), .string ⟨#[32, 9]⟩] w fun e w' => e = .returned (.string (bytes (trimR l))) ∧ Below w.heap.size w w' := by
 have h := Any.strings_TrimRight_laid Tryz.lays162 (by kernel_rfl) (bytes l) ⟨#[32, 9]⟩ w (by rw [bytes_size]; omega) (by decide) (ascii_of_all (by decide))
 rw [bytes_list] at h
 have e1 : (⟨#[32, 9]⟩ : ByteArray).data.toList = [32, 9] := rfl
 rw [e1, trim_r] at h
 exact h
theorem preL_any (l : Bytes) (a : Nat) (w : World) :
  Calls prog 43 #[.string (bytes (l.drop a)), .string ⟨#[13]⟩] w fun e w' => e = .returned (.bool (decide (l[a]? = some 13))) ∧ w' = w := by
 have h := Tryz.strings_HasPrefix (bytes (l.drop a)) ⟨#[13]⟩ w
 rw [bytes_list] at h
 have e1 : (⟨#[13]⟩ : ByteArray).data.toList = [13] := rfl
 rw [e1, prefix_at] at h
 exact h
theorem kind_capital : Kind 89 upB := ⟨enters_of func89 (by kernel_rfl) rfl, fun c w => capital_any _ rfl c w⟩
theorem kind_named : Kind 94 namedB := ⟨enters_of func94 (by kernel_rfl) rfl, fun c w => named_any _ rfl c w⟩
theorem kind_blank : Kind 95 blankB := ⟨enters_of func95 (by kernel_rfl) rfl, fun c w => blank_any _ rfl c w⟩
theorem kind_valued : Kind 97 valuedB := ⟨enters_of func97 (by kernel_rfl) rfl, fun c w => valued_any _ rfl c w⟩
theorem kind_shown : Kind 93 shownB := ⟨enters_of func93 (by kernel_rfl) rfl, fun c w => shown_any _ rfl c w⟩
end Rw
open Go.RowKit
namespace Rw
theorem step_callP {P : Program} {ops : Array Oper} {o : Oper} {a : Act} {w : World} {K : Act → World → Prop} {Q : Exit → Act → World → Prop} {E : Prop} (hgd : o.guard = none) (f : FuncId) (xs : Array Operand) (ats : Array TypeId)
  (ho : o.op = .call { callee := .value (.func f), args := xs, argTypes := ats }) (args : Array Value) (hargs : #[] ++ xs.map a.eval ++ #[] = args)
  (eg : (callFunc f args).run P w = .ok (.enter f args) w) (R : Value → World → Prop) (hc : Calls P f args w fun e w' => ∃ v, e = .returned v ∧ R v w')
  (h : ∀ v w', R v w' → K (a.put o.dst v) w') : if Region.wanted o (yielded ops a.tmps) = true then Oper.wp P o a w K Q else E := by
 have hw : Region.wanted o (yielded ops a.tmps) = true := by simp [Region.wanted, hgd]
 rw [if_pos hw]
 obtain ⟨dst, op, ty, pos, after, guard⟩ := o
 simp only at ho hgd
 subst ho hgd
 unfold Oper.wp
 rw [execOp_call_go, hargs, eg, Oper.upon_enter]
 refine hc.mono ?_
 rintro e w' ⟨v, rfl, hR⟩
 exact h v w' hR
section
variable (s m p y b many : ByteArray) (v : Value) (why fat ln : Int) (g : Nat)
theorem whileX (fid : Nat) (P : UInt8 → Bool) (hP : Kind fid P) (a mo : Nat) (w : World) (h : RdAt w g s a m p y v b why fat ln many) (hs : s.size ≤ 1000000) (hm : mo ≤ 1000000) (ha : a ≤ s.size) :
  Calls prog 90 #[.pointer (some ⟨g, 0, none⟩), .int .i64 (mo : Int), .func (.func fid) #[] #[]] w fun e w' => ∃ X z, Hid (X = bytes (piece s.data.toList a z)) ∧ Hid (z = whileN s.data.toList P mo a) ∧ a ≤ z ∧ z ≤ s.size ∧ e = .returned (.string X) ∧ Keeps (· = g) w w' ∧ RdAt w' g s z m p y v b why fat ln many := by
 refine (while_any s m p y b many v why fat ln g fid P hP a mo w h hs hm ha).mono ?_
 rintro e w' ⟨h1, h2, h3⟩
 refine ⟨_, _, rfl, rfl, while_ge .., ?_, h1, h2, h3⟩
 have := while_le P mo (show a ≤ s.data.toList.length by rw [← Lib.size_eq]; exact ha)
 rw [← Lib.size_eq] at this
 exact this
theorem piece_empty {l : Bytes} {a z : Nat} (hz : z ≤ l.length) (haz : a ≤ z) : (bytes (piece l a z)).toList.isEmpty = decide (z = a) := by
 rw [Lib.toList_data, bytes_list, Bool.eq_iff_iff, List.isEmpty_iff_length_eq_zero, decide_eq_true_iff]
 unfold piece
 rw [List.length_take, List.length_drop]
 omega
theorem must_le' {s t : Bytes} {n a b : Nat} (ha : a ≤ n) (hn : s.length ≤ n) (h : mustN s t a = some b) : b ≤ n := by
 obtain ⟨h1, h2⟩ := must_le h
 rcases h2 with h2 | rfl
 · omega
 · simp only [List.length_nil] at h1; omega
theorem cutX (l : Bytes) (mx : Int) (hl : l.length ≤ 1000000) (w : World) (hm : w.cell? ⟨0, 0, none⟩ = some (.int .i64 mx)) :
  Calls prog 27 #[.string (bytes l), .string ⟨#[63]⟩] w fun e w' => ∃ v, e = .returned v ∧ ∃ P Q b, Hid (P = bytes (cutQ l).1) ∧ Hid (Q = bytes (cutQ l).2) ∧ v = .tuple #[.string P, .string Q, .bool b] ∧ ∃ n, w' = w.drewN n :=
 (cutL_any l mx hl w hm).mono fun _ _ ⟨⟨b, h1⟩, h2⟩ => ⟨_, h1, _, _, b, rfl, rfl, rfl, h2⟩
theorem cut_in (args : Array Value) (w : World) : (callFunc 27 args).run prog w = .ok (.enter 27 args) w := enters_of func27 (by kernel_rfl) rfl args w
def LineP (w : World) (r : Option (Bytes × Bytes × Bytes × Nat)) (e : Ending) (w' : World) : Prop :=
 Keeps (· = g) w w' ∧ ((∃ m' p' y' z, r = some (m', p', y', z) ∧ z ≤ s.size ∧ e = .returned (.bool true) ∧ RdAt w' g s z (bytes m') (bytes p') (bytes y') v b why fat ln many) ∨
  (r = none ∧ e = .returned (.bool false) ∧ ∃ a' m' p' y' why' fat', why' ≠ 0 ∧ RdAt w' g s a' m' p' y' v b why' fat' ln many))
theorem line_any (w : World) (h : RdAt w g s 0 m p y v b why fat ln many) (hs : s.size ≤ 1000000) (mx : Int) (hmx : w.cell? ⟨0, 0, none⟩ = some (.int .i64 mx)) (hg : g ≠ 0) :
  Calls prog 51 #[.pointer (some ⟨g, 0, none⟩)] w (LineP s b many v why fat ln g w (lineN s.data.toList)) := by
 have H := lH h
 have c0 : w.cell? ⟨g, 0, none⟩ = some (.string s) := h.cell 0
 have HW := lH (fun m a mo w h hm ha => whileX s m p y b many v why fat ln g _ _ kind_capital a mo w h hs hm ha)
 clear h
 obtain ⟨R, HR⟩ : ∃ z, Hid (lineN s.data.toList = z) := ⟨_, rfl⟩
 rw [HR.out]
 go_enter func51, ntmps51
 have HMu := lH (fun m p y t a w h ht ha => must_any s m p y b many v why fat ln g t a w h hs ht ha)
 have HFa := lH (fun m p y a w h => fail_any s m p y b many v why fat ln g a w h)
 have HSh := lH (fun m a mo w h hm ha => whileX s m p y b many v why fat ln g _ _ kind_shown a mo w h hs hm ha)
 go_wp2_with fail
 refine (HW.out _ 0 16 _ H.out (by decide) (Nat.zero_le _)).mono ?_
 rintro e w1 ⟨X1, a1, HX1, Ha1, -, hle1, rfl, hk1, hr1⟩
 have z2 := hr1.frozen 2
 have c2 : w1.cell? ⟨g, 2, none⟩ = some (.string m) := hr1.cell 2
 have hlL : s.size = s.data.toList.length := Lib.size_eq s
 have HE : Hid (X1.toList.isEmpty = decide (a1 = 0)) := by
  show _ = _
  rw [HX1.out]
  exact piece_empty (by omega) (Nat.zero_le _)
 have HSz := lH (Lib.size_eq s)
 have hLe : Hid (s.data.toList.length ≤ s.size) := Nat.le_of_eq hlL.symm
 clear hlL
 have HB1 := lH (hr1.set_ 2 (.string X1))
 have HK1 := lH (hk1.setCell (p := ⟨g, 2, none⟩) (.inl rfl) (.string X1))
 clear hr1 hk1 c0 H
 by_cases h0 : a1 = 0
 · have hM : R = none := by rw [← HR.out]; simp [lineN, ← Ha1.out, h0]
   subst hM
   have he := HE.out
   rw [decide_eq_true h0] at he
   clear h0 HR HE Ha1
   go_wp2_with fail
   refine (HFa.out _ _ _ _ _ HB1.out).mono ?_
   rintro e w2 ⟨rfl, hk2, why2, hw2, hr2⟩
   go_wp2_with fail
   go_ret
   exact ⟨HK1.out.trans hk2, .inr ⟨rfl, rfl, _, _, _, _, _, _, hw2, hr2⟩⟩
 · have he := HE.out
   rw [decide_eq_false h0] at he
   clear HE
   go_wp2_with fail
   generalize w1.setCell ⟨g, 2, none⟩ (.string X1) = w2 at *
   refine (HMu.out _ _ _ _ _ _ HB1.out (by decide) hle1).mono ?_
   rintro e w3 ⟨hk3, hor⟩
   have HK3 := lH (HK1.out.trans hk3)
   clear hk3 HK1 HB1
   rcases hor with ⟨a3, hm3, rfl, hr3⟩ | ⟨hm3, rfl, a3, why3, hw3, hr3⟩
   · have ha3 : a3 ≤ s.size := must_le' hle1 hLe.out hm3
     have c1 : w3.cell? ⟨g, 1, none⟩ = some (.int .i64 (a3 : Int)) := hr3.cell 1
     go_wp2_with fail
     refine (HMu.out _ _ _ _ _ _ hr3 (by decide) ha3).mono ?_
     rintro e w4 ⟨hk4, hor⟩
     have HK4 := lH (HK3.out.trans hk4)
     clear hk4 hr3 HK3 c1
     rcases hor with ⟨a4, hm4, rfl, hr4⟩ | ⟨hm4, rfl, a4, why4, hw4, hr4⟩
     · have ha4 : a4 ≤ s.size := must_le' ha3 hLe.out hm4
       have ha34 : a3 ≤ a4 := by have := (must_le hm4).1; omega
       have c0 : w4.cell? ⟨g, 0, none⟩ = some (.string s) := hr4.cell 0
       have hs2 : s.size ≤ 9223372036854775807 := by omega
       go_wp2_with fail
       refine (HSh.out _ a4 s.size _ hr4 (by omega) ha4).mono ?_
       rintro e w5 ⟨X5, a5, HX5, Ha5, hge5, hle5, rfl, hk5, hr5⟩
       have HK5 := lH (HK4.out.trans hk5)
       have hmx5 := (HK5.out.cell (p := ⟨0, 0, none⟩) (World.block_lt_of_cell? w _ hmx) (fun e => hg e.symm)).trans hmx
       clear hk5 hr4 HK4 c0
       have c0 : w5.cell? ⟨g, 0, none⟩ = some (.string s) := hr5.cell 0
       have c1 : w5.cell? ⟨g, 1, none⟩ = some (.int .i64 (a5 : Int)) := hr5.cell 1
       have c3 : w5.cell? ⟨g, 3, none⟩ = some (.string p) := hr5.cell 3
       have c4 : w5.cell? ⟨g, 4, none⟩ = some (.string y) := hr5.cell 4
       have z3 := hr5.frozen 3
       have z4 := hr5.frozen 4
       go_wp2_with fail
       have HXc := lH (extract_piece s a3 a5)
       have HLen : Hid ((piece s.data.toList a3 a5).length ≤ 1000000) := by
        show _ ≤ _
        have := hLe.out
        unfold piece
        rw [List.length_take, List.length_drop]
        omega
       have HCu := lH (fun w hm => cutX (piece s.data.toList a3 a5) mx HLen.out w hm)
       rw [← HXc.out] at HCu
       have hq0 : (0 : Int) ≤ (a3 : Int) := by omega
       have hq1 : (a3 : Int) ≤ (a5 : Int) := by omega
       have hq2 : (a5 : Int) ≤ (s.size : Int) := by omega
       go_region_law ((refine step_callP rfl 27 _ _ rfl #[.string (s.extract a3 a5), .string ⟨#[63]⟩] (by simp [Act.eval, Act.put]) (cut_in _ _) _ (HCu.out _ (by exact hmx5)) ?_; rintro e w6 ⟨P6, Q6, b6, HP6, HQ6, rfl, n6, rfl⟩))
       all_goals
        have HB6 := lH (((hr5.drewN (1 + n6)).set_ 3 (.string P6)).set_ 4 (.string Q6))
        have HK6 := lH (((HK5.out.drewN (1 + n6)).setCell (p := ⟨g, 3, none⟩) (.inl rfl) (.string P6)).setCell (p := ⟨g, 4, none⟩) (.inl rfl) (.string Q6))
        generalize ((w5.drewN (1 + n6)).setCell ⟨g, 3, none⟩ (.string P6)).setCell ⟨g, 4, none⟩ (.string Q6) = w6 at *
        clear c0 c1 c2 c3 c4 z2 z3 z4 HCu HXc hmx5 hr5 HK5
        go_wp2_with fail
        refine (HMu.out _ _ _ _ _ _ HB6.out (by decide) hle5).mono ?_
        rintro e w7 ⟨hk7, hor⟩
        have HK7 := lH (HK6.out.trans hk7)
        rcases hor with ⟨a7, hm7, rfl, hr7⟩ | ⟨hm7, rfl, a7, why7, hw7, hr7⟩
        · have hM : R = some (piece s.data.toList 0 a1, (cutQ (piece s.data.toList a3 a5)).1, (cutQ (piece s.data.toList a3 a5)).2, a7) := by
           rw [← HR.out]
           simp [lineN, ← Ha1.out, h0, show mustN s.data.toList [32] a1 = _ from hm3, show mustN s.data.toList [47] a3 = _ from hm4, ← HSz.out, ← Ha5.out, show mustN s.data.toList versL a5 = _ from hm7]
          subst hM
          have ha7 := must_le' hle5 hLe.out hm7
          go_wp2_with fail
          go_ret
          refine ⟨HK7.out, .inl ⟨_, _, _, _, rfl, ha7, rfl, ?_⟩⟩
          rw [← HX1.out, ← HP6.out, ← HQ6.out]
          exact hr7
        · have hM : R = none := by
           rw [← HR.out]
           simp [lineN, ← Ha1.out, h0, show mustN s.data.toList [32] a1 = _ from hm3, show mustN s.data.toList [47] a3 = _ from hm4, ← HSz.out, ← Ha5.out, show mustN s.data.toList versL a5 = _ from hm7]
          subst hM
          go_wp2_with fail
          go_ret
          exact ⟨HK7.out, .inr ⟨rfl, rfl, _, _, _, _, _, _, hw7, hr7⟩⟩
     · have hM : R = none := by rw [← HR.out]; simp [lineN, ← Ha1.out, h0, show mustN s.data.toList [32] a1 = _ from hm3, show mustN s.data.toList [47] a3 = _ from hm4]
       subst hM
       go_wp2_with fail
       go_ret
       exact ⟨HK4.out, .inr ⟨rfl, rfl, _, _, _, _, _, _, hw4, hr4⟩⟩
   · have hM : R = none := by rw [← HR.out]; simp [lineN, ← Ha1.out, h0, show mustN s.data.toList [32] a1 = _ from hm3]
     subst hM
     go_wp2_with fail
     go_ret
     exact ⟨HK3.out, .inr ⟨rfl, rfl, _, _, _, _, _, _, hw3, hr3⟩⟩
end
end Rw
end Go.Proofs.YtgpemnmopogppaaGreatDoor
