import Derived.Test.YtgpemnmopogppaaGreatDoorZRvAQ
import Derived.Test.YtgpemnmopogppaaGreatDoorZDpCaQ
set_option maxRecDepth 1000000
set_option maxHeartbeats 16000000
namespace Go.Proofs.YtgpemnmopogppaaGreatDoor
open Go.Proofs.Tryz
open Go.RowKit
namespace Rv
open Rw
theorem cutQ_step {l : Bytes} {i : Nat} (hi : i < l.length) (h : l[i] ≠ 63) : ((l.take i) ++ (cutQ (l.drop i)).1, (cutQ (l.drop i)).2) = ((l.take (i + 1)) ++ (cutQ (l.drop (i + 1))).1, (cutQ (l.drop (i + 1))).2) := by
 rw [List.drop_eq_getElem_cons hi, cutQ, if_neg h, List.take_succ_eq_append_getElem hi]
 simp only [List.append_assoc, List.singleton_append]
theorem cutQ_here {l : Bytes} {i : Nat} (hi : i < l.length) (h : l[i] = 63) : ((l.take i) ++ (cutQ (l.drop i)).1, (cutQ (l.drop i)).2) = (l.take i, l.drop (i + 1)) := by
 rw [List.drop_eq_getElem_cons hi, cutQ, if_pos h]
 simp
theorem piece_from (l : Bytes) (i : Nat) : piece l 0 i = l.take i := by simp [piece]
theorem clen_low : clenL.map lowB = [99, 111, 110, 116, 101, 110, 116, 45, 108, 101, 110, 103, 116, 104] := by decide
theorem smallX (Y : ByteArray) {T : Bool} (hy : Y.size ≤ 9223372036854775807) (hT : sameS Y (Rw.bytes clenL) = T) (w : World) : Calls prog 58 #[.string Y] w fun e w' => ∃ Z : ByteArray, (Z.toList == [99, 111, 110, 116, 101, 110, 116, 45, 108, 101, 110, 103, 116, 104]) = T ∧ e = .returned (.string Z) ∧ Below w.heap.size w w' := by
 refine (small_any Y hy w).mono ?_
 rintro e w' ⟨rfl, hb⟩
 refine ⟨_, ?_, rfl, hb⟩
 rw [← hT, Lib.toList_data]
 unfold sameS
 rw [Rw.bytes_list, clen_low, Bool.eq_iff_iff]
 simp
theorem digX (n : Nat) (hn : n ≤ 1000000) (x0 : Bytes) {cmp : Bool} (h : ((Rw.bytes x0).toList == (⟨(Lib.itoa (n : Int)).toArray⟩ : ByteArray).toList) = cmp) (w : World) : Calls prog 59 #[.int .i64 (n : Int)] w fun e w' => ∃ D : ByteArray, ((Rw.bytes x0).toList == D.toList) = cmp ∧ e = .returned (.string D) ∧ Below w.heap.size w w' :=
 (Nm.rdigits_any (n : Int) (by omega) (by omega) w).mono fun _ _ ⟨h1, h2⟩ => ⟨_, h, h1, h2⟩
theorem line_told {L : Bytes} {st2 st3 : Option Nat} {a2 a4 : Nat} {why2 fat2 why4 fat4 : Int} {CP CY : Bytes} (h2 : (wordS L upB 16 (some 0)).bind (mustN L [32]) = st2) (h3 : st2.bind (mustN L [47]) = st3) (o2 : Ok st2 a2 why2 fat2) (o4 : Ok (st3.map (whileN L shownB L.length)) a4 why4 fat4) (hc : cutQ (piece L a2 a4) = (CP, CY)) :
  lineN L = ((st3.map (whileN L shownB L.length)).bind (mustN L versL)).map fun z => (wordT L upB 16 (some 0), CP, CY, z) := by
 cases hs : st3 with
 | none =>
  rw [lineN_none L (by unfold lineS; rw [h2, h3, hs]; rfl)]
  rfl
 | some x =>
  subst hs
  obtain ⟨f, hf, hx⟩ := Option.bind_eq_some_iff.1 h3
  have hfa : f = a2 := by
   rcases o2 with ⟨-, -, e⟩ | ⟨-, e⟩
   · rw [hf] at e; injection e
   · rw [hf] at e; cases e
  subst hfa
  have hxa : whileN L shownB L.length x = a4 := by
   rcases o4 with ⟨-, -, e⟩ | ⟨-, e⟩
   · simpa using e
   · simp at e
  have := lineN_eq L f a4 (by rw [h2, hf]) (by rw [hx]; simp [hxa])
  rw [this, hc]
  simp [hxa]
theorem headN_end {L : Bytes} {k : Nat} (h : L.length ≤ k) : headN L k = none := by
 unfold headN
 simp [while_end namedB 64 h]
theorem heads_step {L : Bytes} {k : Nat} {hl : List (Bytes × Bytes)} {ln : Option (Nat × Bytes)} {M : Option (List (Bytes × Bytes) × Option (Nat × Bytes) × Nat)} {Y1 Y2 : ByteArray} {f : Nat}
  (hHe : headsN L k hl ln = if 64 ≤ hl.length then none else match headN L k with | none => none | some (n, v, f, z) => headsN L z (hl ++ [(n, v)]) (lenN ln n v f)) (hM : headsN L k hl ln = M) (hmany : ¬ (64 ≤ hl.length ∧ k < L.length)) (hY : HeadR L k Y1 Y2 f) :
  ((headN L k).map (·.2.2.2)).bind (fun e => headsN L e (hl ++ [(Y1.data.toList, Y2.data.toList)]) (lenN ln Y1.data.toList Y2.data.toList f)) = M ∧ (((headN L k).map (·.2.2.2)).isSome = true → hl.length < 64) := by
 cases hh : headN L k with
 | none =>
  rw [hh] at hHe
  refine ⟨?_, fun h => by simp at h⟩
  rw [← hM, hHe]
  split <;> rfl
 | some r =>
  obtain ⟨n, v, f', z⟩ := r
  obtain ⟨h1, h2, h3⟩ := hY n v f' z hh
  have h64 : ¬ 64 ≤ hl.length := fun h => by
   have : L.length ≤ k := by
    by_cases hk : k < L.length
    · exact absurd ⟨h, hk⟩ hmany
    · omega
   rw [headN_end this] at hh; cases hh
  rw [hh, if_neg h64] at hHe
  subst h1 h2 h3
  refine ⟨?_, fun _ => by omega⟩
  rw [← hM, hHe]
  simp only [Option.map_some, Option.bind_some, Rw.bytes_list]
def contB (L : Bytes) : Option Nat → Bool
 | some k => !decide (L[k]? = some 13)
 | none => false
theorem heads_not {L : Bytes} {st5 : Option Nat} {Wd CP CY : Bytes} {s : ByteArray} (hL : s.data.toList = L) (hlong : ¬ 65536 < L.length) (h1 : lineN L = st5.map fun z => (Wd, CP, CY, z)) (h2 : st5.bind (fun e => headsN L e [] none) = none) : parseN L = none := by
 subst hL
 refine parse_no hlong ?_
 cases st5 with
 | none => exact .inl h1
 | some e => exact .inr ⟨Wd, CP, CY, e, h1, .inl h2⟩
theorem rparse_any (s : ByteArray) (hz : s.size ≤ 9223372036854775807) (w : World) :
  Calls prog 24 #[.string s] w (ParseP s.data.toList w) := by
 have HZ := lH (Lib.size_eq s)
 by_cases hlong : 65536 < s.size
 · have hlI : (65536 : Int) < (s.size : Int) := by omega
   go_enter func24, ntmps24
   go_wp2_with fail
   have HQ := lH ((Blk.new w 43 #[.string ⟨#[]⟩, .string ⟨#[]⟩, .string ⟨#[]⟩, .slice none 0 0, .string ⟨#[]⟩]).alloc (.cells #[.int .i64 2, .int .i64 0] 53))
   have HF0 := Blk.new (w.alloc (.cells #[.string ⟨#[]⟩, .string ⟨#[]⟩, .string ⟨#[]⟩, .slice none 0 0, .string ⟨#[]⟩] 43)) 53 #[.int .i64 2, .int .i64 0]
   rw [show (w.alloc (.cells #[.string ⟨#[]⟩, .string ⟨#[]⟩, .string ⟨#[]⟩, .slice none 0 0, .string ⟨#[]⟩] 43)).heap.size = w.heap.size + 1 by simp] at HF0
   have HF := lH HF0
   have HB := lH (((Below.refl w.heap.size w).alloc (Nat.le_refl _) (.cells #[.string ⟨#[]⟩, .string ⟨#[]⟩, .string ⟨#[]⟩, .slice none 0 0, .string ⟨#[]⟩] 43)).alloc (by simp) (.cells #[.int .i64 2, .int .i64 0] 53))
   clear HF0
   generalize (w.alloc (.cells #[.string ⟨#[]⟩, .string ⟨#[]⟩, .string ⟨#[]⟩, .slice none 0 0, .string ⟨#[]⟩] 43)).alloc (.cells #[.int .i64 2, .int .i64 0] 53) = w1 at *
   have q0 : w1.cell? ⟨w.heap.size, 0, none⟩ = some (.string ⟨#[]⟩) := HQ.out.cell 0
   have q1 : w1.cell? ⟨w.heap.size, 1, none⟩ = some (.string ⟨#[]⟩) := HQ.out.cell 1
   have q2 : w1.cell? ⟨w.heap.size, 2, none⟩ = some (.string ⟨#[]⟩) := HQ.out.cell 2
   have q3 : w1.cell? ⟨w.heap.size, 3, none⟩ = some (.slice none 0 0) := HQ.out.cell 3
   have q4 : w1.cell? ⟨w.heap.size, 4, none⟩ = some (.string ⟨#[]⟩) := HQ.out.cell 4
   have f0 : w1.cell? ⟨w.heap.size + 1, 0, none⟩ = some (.int .i64 2) := HF.out.cell 0
   have f1 : w1.cell? ⟨w.heap.size + 1, 1, none⟩ = some (.int .i64 0) := HF.out.cell 1
   refine bodyPost_ret (v := .tuple #[req0, .agg #[.int .i64 2, .int .i64 0]]) (by simp [results, results24, go_sem, q0, q1, q2, q3, q4, f0, f1, req0]) rfl ?_
   refine ⟨HB.out, .inr ⟨?_, _, _, (by decide : (2 : Int) ≠ 0), rfl⟩⟩
   unfold parseN
   rw [if_pos (by rw [← HZ.out]; exact hlong)]
 · have hlI : ¬ ((65536 : Int) < (s.size : Int)) := by omega
   have hlL : Hid (¬ 65536 < s.data.toList.length) := by show ¬ _; rw [← HZ.out]; exact hlong
   have hs : s.size ≤ 1000000 := by omega
   have HWe := lH (fun a why fat st ho => well_any s (w.heap.size + 1 + 1) a why fat st ho)
   have HWt := lH (fun (k : Nat) (w' : World) (h : RvAt w' (w.heap.size + 1 + 1) s k 0 0) => (show Calls prog 56 #[.pointer (some ⟨w.heap.size + 1 + 1, 0, none⟩)] w' fun e w'' => e = .returned (.bool true) ∧ w'' = w' from HWe.out k 0 0 (some k) (.inl ⟨rfl, rfl, rfl⟩) w' h))
   have HWf := lH (fun (k : Nat) (why fat : Int) (hw : why ≠ 0) (w' : World) (h : RvAt w' (w.heap.size + 1 + 1) s k why fat) => (show Calls prog 56 #[.pointer (some ⟨w.heap.size + 1 + 1, 0, none⟩)] w' fun e w'' => e = .returned (.bool false) ∧ w'' = w' from HWe.out k why fat none (.inr ⟨hw, rfl⟩) w' h))
   have HMu := lH (fun t a why fat st ho w' h ht ha => must_any s (w.heap.size + 1 + 1) t a why fat st ho w' h hs ht ha)
   have HHd := lH (fun a w' h ha => head_any s (w.heap.size + 1 + 1) a w' h hs ha)
   have l2 : ((w.alloc (.cells #[.string ⟨#[]⟩, .string ⟨#[]⟩, .string ⟨#[]⟩, .slice none 0 0, .string ⟨#[]⟩] 43)).alloc (.cells #[.int .i64 0, .int .i64 0] 53)).heap.size = w.heap.size + 1 + 1 := by simp
   have b3 := (((Below.refl w.heap.size w).alloc (Nat.le_refl _) (.cells #[.string ⟨#[]⟩, .string ⟨#[]⟩, .string ⟨#[]⟩, .slice none 0 0, .string ⟨#[]⟩] 43)).alloc (by simp) (.cells #[.int .i64 0, .int .i64 0] 53)).alloc (by simp; omega) (.cells #[.string s, .int .i64 0, .int .i64 0, .int .i64 0] 91)
   have x1 := ((Blk.new w 43 #[.string ⟨#[]⟩, .string ⟨#[]⟩, .string ⟨#[]⟩, .slice none 0 0, .string ⟨#[]⟩]).alloc (.cells #[.int .i64 0, .int .i64 0] 53)).alloc (.cells #[.string s, .int .i64 0, .int .i64 0, .int .i64 0] 91)
   have x2 := (Blk.new (w.alloc (.cells #[.string ⟨#[]⟩, .string ⟨#[]⟩, .string ⟨#[]⟩, .slice none 0 0, .string ⟨#[]⟩] 43)) 53 #[.int .i64 0, .int .i64 0]).alloc (.cells #[.string s, .int .i64 0, .int .i64 0, .int .i64 0] 91)
   rw [show (w.alloc (.cells #[.string ⟨#[]⟩, .string ⟨#[]⟩, .string ⟨#[]⟩, .slice none 0 0, .string ⟨#[]⟩] 43)).heap.size = w.heap.size + 1 by simp] at x2
   have x3 := Blk.new ((w.alloc (.cells #[.string ⟨#[]⟩, .string ⟨#[]⟩, .string ⟨#[]⟩, .slice none 0 0, .string ⟨#[]⟩] 43)).alloc (.cells #[.int .i64 0, .int .i64 0] 53)) 91 #[.string s, .int .i64 0, .int .i64 0, .int .i64 0]
   rw [l2] at x3
   have HB := lH b3; have HQ := lH x1; have HF := lH x2; have HG : Hid (RvAt (((w.alloc (.cells #[.string ⟨#[]⟩, .string ⟨#[]⟩, .string ⟨#[]⟩, .slice none 0 0, .string ⟨#[]⟩] 43)).alloc (.cells #[.int .i64 0, .int .i64 0] 53)).alloc (.cells #[.string s, .int .i64 0, .int .i64 0, .int .i64 0] 91)) (w.heap.size + 1 + 1) s 0 0 0) := x3
   clear b3 x1 x2 x3 l2
   go_enter func24, ntmps24
   go_wp2_with fail
   generalize ((w.alloc (.cells #[.string ⟨#[]⟩, .string ⟨#[]⟩, .string ⟨#[]⟩, .slice none 0 0, .string ⟨#[]⟩] 43)).alloc (.cells #[.int .i64 0, .int .i64 0] 53)).alloc (.cells #[.string s, .int .i64 0, .int .i64 0, .int .i64 0] 91) = w1 at *
   refine (word_f s (w.heap.size + 1 + 1) 16 0 0 0 (some 0) (.inl ⟨rfl, rfl, rfl⟩) w1 HG.out hs (by decide) (Nat.zero_le _)).mono ?_
   rintro e w4 ⟨X1, rfl, HX1, hk4, a1, why1, fat1, HO1, -, ha1, HB4⟩
   have hgl := HG.out.lt
   have hsz4 := hk4.size
   have HQ4 := lH (HQ.out.keeps hk4 (by omega))
   have HF4 := lH (HF.out.keeps hk4 (by omega))
   have HP1 : Hid (PR w (w4.alloc (.cells #[.string X1, .string ⟨#[]⟩, .string ⟨#[]⟩, .slice none 0 0, .string ⟨#[]⟩] 43)) s w4.heap.size a1 why1 fat1 X1 ⟨#[]⟩ ⟨#[]⟩ (.slice none 0 0) ⟨#[]⟩ []) :=
    ⟨(HB.out.trans (hk4.below HB.out.size (fun i hi => by omega))).alloc (Nat.le_trans HB.out.size hsz4) _, HQ4.out.alloc _, HF4.out.alloc _, HB4.out.alloc _, Blk.new _ _ _, World.ownsRow_nil .., by omega⟩
   clear hgl hsz4 hk4 HQ HF HG HB HQ4 HF4 HB4
   go_wp2_with fail
   refine (HMu.out ⟨#[32]⟩ a1 why1 fat1 _ HO1.out _ HP1.out.rd (by decide) ha1).mono ?_
   rintro e w5 ⟨rfl, hk5, a2, why2, fat2, HO2, -, ha2, HB5⟩
   have HP2 := lH (HP1.out.step hk5 HB5.out)
   clear HP1 HO1 hk5 HB5
   generalize w4.heap.size = Q at *
   have c1 : w5.cell? ⟨w.heap.size + 1 + 1, 1, none⟩ = some (.int .i64 (a2 : Int)) := HP2.out.rd.cell 1
   go_wp2_with fail
   refine (HMu.out ⟨#[47]⟩ a2 why2 fat2 _ HO2.out _ HP2.out.rd (by decide) ha2).mono ?_
   rintro e w6 ⟨rfl, hk6, a3, why3, fat3, HO3, ha23, ha3, HB6⟩
   have HP3 := lH (HP2.out.step hk6 HB6.out)
   clear HP2 hk6 HB6 c1
   obtain ⟨st2, HE2⟩ : ∃ z, Hid ((wordS s.data.toList upB 16 (some 0)).bind (mustN s.data.toList (⟨#[32]⟩ : ByteArray).data.toList) = z) := ⟨_, rfl⟩
   rw [HE2.out] at HO2 HO3
   obtain ⟨st3, HE3⟩ : ∃ z, Hid (st2.bind (mustN s.data.toList (⟨#[47]⟩ : ByteArray).data.toList) = z) := ⟨_, rfl⟩
   rw [HE3.out] at HO3
   go_upto_block 0 with fail
   go_cut [] (fun wx => ∃ a why fat, Hid (Ok (st3.map (whileN s.data.toList shownB s.data.toList.length)) a why fat) ∧ a2 ≤ a ∧ a ≤ s.size ∧ Hid (PR w wx s Q a why fat X1 ⟨#[]⟩ ⟨#[]⟩ (.slice none 0 0) ⟨#[]⟩ []))
   case first =>
    rcases HO3.out with ⟨rfl, rfl, rfl⟩ | ⟨hw3, rfl⟩
    · obtain ⟨F, HFe⟩ : ∃ z, Hid (whileN s.data.toList shownB s.data.toList.length a3 = z) := ⟨_, rfl⟩
      have hOk : ∀ k, k = F → Hid (Ok ((some a3).map (whileN s.data.toList shownB s.data.toList.length)) k 0 0) := fun k hk => .inl ⟨rfl, rfl, by rw [Option.map_some, HFe.out, hk]⟩
      have HOk := lH hOk
      clear hOk
      go_wp2_with fail
      go_loopg [] (s.size - a3) (fun gk wx => ∃ k : Nat, gk + k = s.size ∧ a2 ≤ k ∧ Hid (PR w wx s Q k 0 0 X1 ⟨#[]⟩ ⟨#[]⟩ (.slice none 0 0) ⟨#[]⟩ []) ∧ Hid (∃ r, whileN s.data.toList shownB r k = F ∧ s.data.toList.length ≤ r + k))
      case atStart => exact ⟨a3, by omega, ha23, HP3, _, HFe.out, by omega⟩
      case round =>
       clear HP3
       obtain ⟨k, hgk, h2k, HP, HR⟩ := hrel
       have c1 : wr.cell? ⟨w.heap.size + 1 + 1, 1, none⟩ = some (.int .i64 (k : Int)) := HP.out.rd.cell 1
       have z1 := HP.out.rd.frozen 1
       have hk0 : (0 : Int) ≤ (k : Int) := by omega
       have HWk := lH (HWt.out k)
       by_cases hks : k < s.size
       · have hJ : (k : Int) < (s.size : Int) := by omega
         have hlt' : k < s.data.toList.length := by rw [← HZ.out]; exact hks
         have HS : Hid (F = if shownB s[k] = true then F else k) := by
          show _ = _
          obtain ⟨r, h1, h2⟩ := HR.out
          have := while_step shownB (r - 1) hlt'
          rw [show r - 1 + 1 = r by omega, h1, ← gd s k hlt', gd2 s k hks] at this
          by_cases hb : shownB s[k] = true
          · rw [if_pos hb]
          · rw [if_neg hb] at this ⊢; exact this
         have HR2 : Hid (shownB s[k] = true → ∃ r, whileN s.data.toList shownB r (k + 1) = F ∧ s.data.toList.length ≤ r + (k + 1)) := fun hb => by
          obtain ⟨r, h1, h2⟩ := HR.out
          refine ⟨r - 1, ?_, by omega⟩
          have := while_step shownB (r - 1) hlt'
          rw [show r - 1 + 1 = r by omega, h1, ← gd s k hlt', gd2 s k hks, if_pos hb] at this
          exact this.symm
         have h1 : IntKind.i64.wrap ((k : Int) + 1) = ((k + 1 : Nat) : Int) := by rw [IntWalk.i64_in _ (by omega)]; rfl
         clear HR
         generalize hc : s[k] = c at *
         have hc1 := c.toNat_lt
         by_cases h33 : 32 < c.toNat
         · have i33 : (33 : Int) ≤ (c.toNat : Int) := by omega
           by_cases h126 : c.toNat < 127
           · have i126 : (c.toNat : Int) ≤ 126 := by omega
             have HR3 := lH (HR2.out (by simp [shownB, h33, h126]))
             clear HR2 HS
             go_wp2_with (go_at_call 56; refine (HWk.out _ HP.out.rd).mono ?_; rintro e w9 ⟨rfl, rfl⟩)
             go_roundg (gk - 1)
             case rel => exact ⟨k + 1, by omega, by omega, HP.out.move (a' := k + 1), HR3.out⟩
             case measure => omega
           · have i126 : (126 : Int) < (c.toNat : Int) := by omega
             have j126 : ¬ (c.toNat : Int) ≤ 126 := by omega
             have hkF : Hid (k = F) := by show _ = _; rw [HS.out, if_neg (by simp [shownB]; omega)]
             clear HR2 HS
             go_wp2_with (go_at_call 56; refine (HWk.out _ HP.out.rd).mono ?_; rintro e w9 ⟨rfl, rfl⟩)
             go_meet
             exact ⟨k, 0, 0, HOk.out k hkF.out, h2k, by omega, HP⟩
         · have i33 : (c.toNat : Int) < 33 := by omega
           have j33 : ¬ (33 : Int) ≤ (c.toNat : Int) := by omega
           have hkF : Hid (k = F) := by show _ = _; rw [HS.out, if_neg (by simp [shownB]; omega)]
           clear HR2 HS
           go_wp2_with (go_at_call 56; refine (HWk.out _ HP.out.rd).mono ?_; rintro e w9 ⟨rfl, rfl⟩)
           go_meet
           exact ⟨k, 0, 0, HOk.out k hkF.out, h2k, by omega, HP⟩
       · have hJ : ¬ ((k : Int) < (s.size : Int)) := by omega
         have hkF : Hid (k = F) := by
          obtain ⟨r, h1, h2⟩ := HR.out
          rw [while_end shownB r (by rw [← HZ.out]; omega)] at h1
          exact h1
         clear HR
         go_wp2_with (go_at_call 56; refine (HWk.out _ HP.out.rd).mono ?_; rintro e w9 ⟨rfl, rfl⟩)
         go_meet
         exact ⟨k, 0, 0, HOk.out k hkF.out, h2k, by omega, HP⟩
    · go_wp2_with fail
      go_loopg [] 0 (fun _ wx => Hid (PR w wx s Q a3 why3 fat3 X1 ⟨#[]⟩ ⟨#[]⟩ (.slice none 0 0) ⟨#[]⟩ []))
      case atStart => exact HP3
      case round =>
       clear HP3
       have HP := hrel
       have HWk := lH (HWf.out a3 why3 fat3 hw3)
       go_wp2_with (go_at_call 56; refine (HWk.out _ HP.out.rd).mono ?_; rintro e w9 ⟨rfl, rfl⟩)
       go_meet
       exact ⟨a3, why3, fat3, .inr ⟨hw3, rfl⟩, ha23, ha3, HP⟩
   case rest =>
    obtain ⟨a4, why4, fat4, HO4, ha24, ha4, HP4⟩ := hcut
    clear HP3 HO3 ha23 ha3
    -- the target (rve2.py)
    have c1 : wc.cell? ⟨w.heap.size + 1 + 1, 1, none⟩ = some (.int .i64 (a4 : Int)) := HP4.out.rd.cell 1
    have q1 : wc.cell? ⟨Q, 1, none⟩ = some (.string ⟨#[]⟩) := HP4.out.q.cell 1
    have y1 := HP4.out.q.frozen 1
    have hq0 : (0 : Int) ≤ (a2 : Int) := by omega
    have hq1 : (a2 : Int) ≤ (a4 : Int) := by omega
    have hq2 : (a4 : Int) ≤ (s.size : Int) := by omega
    obtain ⟨T, hT⟩ : ∃ T, s.extract a2 a4 = T := ⟨_, rfl⟩
    have HTl : Hid (T.data.toList = piece s.data.toList a2 a4) := by
     show _ = _
     rw [← hT, extract_piece, Rw.bytes_list]
    have HTz := lH (Lib.size_eq T)
    have HTx := lH (fun i j => extract_piece T i j)
    have hTs : T.size ≤ s.size := by
     rw [HTz.out, HTl.out, HZ.out]
     exact piece_size _ _ _
    have HP5 := lH (HP4.out.path T)
    go_upto_block 2 with fail
    generalize wc.setCell ⟨Q, 1, none⟩ (.string T) = w7 at *
    clear c1 q1 y1 hq0 hq1 hq2 HP4
    obtain ⟨CP, CY, HC⟩ : ∃ CP CY, Hid (cutQ T.data.toList = (CP, CY)) := ⟨_, _, rfl⟩
    go_cut [] (fun wx => Hid (PR w wx s Q a4 why4 fat4 X1 (Rw.bytes CP) (Rw.bytes CY) (.slice none 0 0) ⟨#[]⟩ []))
    case first =>
     clear HO2 HO4 HE2 HE3
     go_wp2_with fail
     go_loopw [8] (fun x wx => ∃ i : Nat, i ≤ T.size ∧ x = .int .i64 i ∧ Hid (PR w wx s Q a4 why4 fat4 X1 T ⟨#[]⟩ (.slice none 0 0) ⟨#[]⟩ []) ∧ Hid (((T.data.toList.take i) ++ (cutQ (T.data.toList.drop i)).1, (cutQ (T.data.toList.drop i)).2) = (CP, CY))) (fun x _ => T.size - (ixOf x).toNat)
     case atStart => exact ⟨0, Nat.zero_le _, rfl, HP5, lH (by rw [List.drop_zero, List.take_zero, List.nil_append]; exact HC.out)⟩
     case round =>
      clear HP5
      obtain ⟨i, hi, rfl, HP, HR⟩ := hrel
      have q1 : wr.cell? ⟨Q, 1, none⟩ = some (.string T) := HP.out.q.cell 1
      have q2 : wr.cell? ⟨Q, 2, none⟩ = some (.string ⟨#[]⟩) := HP.out.q.cell 2
      have y1 := HP.out.q.frozen 1
      have y2 := HP.out.q.frozen 2
      by_cases hlt : i < T.size
      · have hI : (i : Int) < (T.size : Int) := by omega
        have hI0 : (0 : Int) ≤ (i : Int) := by omega
        have hI1 : (i : Int) ≤ (T.size : Int) := by omega
        have hI2 : (i : Int) + 1 ≤ (T.size : Int) := by omega
        have hI3 : (0 : Int) ≤ (i : Int) + 1 := by omega
        have hlt' : i < T.data.toList.length := by rw [← HTz.out]; exact hlt
        have et : T[i] = T.data.toList[i] := by simp [ByteArray.getElem_eq_getElem_data]
        by_cases h63 : T.data.toList[i] = 63
        · have HR2 := lH (HR.out.symm.trans (cutQ_here hlt' h63))
          have e63 : ((T[i].toNat : Int) == 63) = true := by rw [et, h63]; rfl
          have HX1 : Hid (T.extract 0 i = Rw.bytes CP) := by
           show _ = _
           rw [HTx.out, piece_from]
           have := HR2.out
           simp only [Prod.mk.injEq] at this
           rw [this.1]
          have HX2 : Hid (T.extract (i + 1) T.size = Rw.bytes CY) := by
           show _ = _
           rw [HTx.out, piece_end]
           have := HR2.out
           simp only [Prod.mk.injEq] at this
           rw [this.2]
          have h1 : IntKind.i64.wrap ((i : Int) + 1) = ((i : Int) + 1) := IntWalk.i64_in _ (by omega)
          clear et HR HR2 h63
          go_wp2_with fail
          go_region_law (fail)
          all_goals
           have HP9 := lH ((((HP.out).path (T.extract 0 i)).query (T.extract (i + 1) T.size)).drew)
           generalize (((wr.setCell ⟨Q, 1, none⟩ (.string (T.extract 0 i))).setCell ⟨Q, 2, none⟩ (.string (T.extract (i + 1) T.size)))).drew = w8 at *
           rw [HX1.out, HX2.out] at HP9
           go_wp2_with fail
           go_meet
           exact HP9
        · have HR2 := lH (HR.out.symm.trans (cutQ_step hlt' h63))
          have e63 : ((T[i].toNat : Int) == 63) = false := by
           rw [et]
           have : T.data.toList[i].toNat ≠ 63 := fun e => h63 (UInt8.toNat_inj.1 e)
           exact beq_eq_false_iff_ne.2 (by omega)
          have h1 : IntKind.i64.wrap ((i : Int) + 1) = ((i + 1 : Nat) : Int) := by rw [IntWalk.i64_in _ (by omega)]; rfl
          clear et HR h63
          go_wp2_with fail
          go_roundw
          case rel => exact ⟨i + 1, by omega, by go_num, HP, HR2.out.symm⟩
          case measure => simp [ixOf] <;> omega
      · obtain rfl : i = T.size := by omega
        have HR2 := HR.out
        rw [List.drop_eq_nil_of_le (by rw [← HTz.out]; exact Nat.le_refl _), List.take_of_length_le (by rw [← HTz.out]; exact Nat.le_refl _)] at HR2
        simp only [cutQ, List.append_nil, Prod.mk.injEq] at HR2
        obtain ⟨e1, e2⟩ := HR2
        have HX1 : Hid (Rw.bytes CP = T) := by
         show _ = _
         rw [← e1]
         rfl
        have HX2 : Hid (Rw.bytes CY = ⟨#[]⟩) := by
         show _ = _
         rw [← e2]
         rfl
        clear HR e1 e2
        go_wp2_with fail
        go_meet
        exact lH (by rw [HX1.out, HX2.out]; exact HP.out)
    case rest =>
     have HP6 := lH hcut.out
     clear hcut HP5
     -- the heads (rve3.py)
     have hver : (⟨#[32, 72, 84, 84, 80, 47, 49, 46, 49, 13, 10]⟩ : ByteArray).data.toList = versL := rfl
     have HLn := lH (line_told (L := s.data.toList) (CP := CP) (CY := CY) HE2.out HE3.out HO2.out HO4.out (by rw [← HTl.out]; exact HC.out))
     go_wp2_with fail
     refine (HMu.out ⟨#[32, 72, 84, 84, 80, 47, 49, 46, 49, 13, 10]⟩ a4 why4 fat4 _ HO4.out _ HP6.out.rd (by decide) ha4).mono ?_
     rintro e w8 ⟨rfl, hk8, a5, why5, fat5, HO5, -, ha5, HB8⟩
     rw [hver] at HO5
     have HP7 := lH (HP6.out.step hk8 HB8.out)
     clear HP6 hk8 HB8 hver HO4 HO2 HE2 HE3 HTl HTz HTx HC hTs
     obtain ⟨st5, HE5⟩ : ∃ z, Hid ((st3.map (whileN s.data.toList shownB s.data.toList.length)).bind (mustN s.data.toList versL) = z) := ⟨_, rfl⟩
     rw [HE5.out] at HO5 HLn
     obtain ⟨M, HM⟩ : ∃ z, Hid (st5.bind (fun e => headsN s.data.toList e [] none) = z) := ⟨_, rfl⟩
     have HNo : Hid (M = none → parseN s.data.toList = none) := fun h => heads_not rfl hlL.out HLn.out (by rw [HM.out]; exact h)
     go_upto_block 4 with fail
     go_wp2_with fail
     go_loopg [9, 10] (s.size + 1 - a5) (fun gk x9 x10 wx => ∃ a why fat st hl ln many lnI v, x9 = .string many ∧ x10 = .int .i64 lnI ∧ a ≤ s.size ∧ Hid (∀ k, st = some k → gk + k = s.size + 1) ∧ hl.length ≤ 65 ∧ Hid (st.isSome = true → hl.length ≤ 64) ∧ Hid (LnIs lnI many ln) ∧ Hid (Ok st a why fat) ∧ Hid (PR w wx s Q a why fat X1 (Rw.bytes CP) (Rw.bytes CY) v ⟨#[]⟩ hl) ∧ Hid (st.bind (fun e => headsN s.data.toList e hl ln) = M))
     case atStart => exact ⟨a5, why5, fat5, st5, [], none, ⟨#[]⟩, -1, _, rfl, rfl, ha5, lH (fun k hk => by
       rcases HO5.out with ⟨-, -, e⟩ | ⟨-, e⟩
       · rw [hk] at e; injection e with e; omega
       · rw [hk] at e; cases e), by simp, lH (fun _ => by simp), lH rfl, HO5, HP7, HM⟩
     case round =>
      clear HP7 HO5
      obtain ⟨a, why, fat, st, hl, ln, many, lnI, v, rfl, rfl, ha, HGk, hh65, Hh64, HLI, HOk, HP, HR⟩ := hrel
      obtain ⟨A, c, hv⟩ := HP.out.slice
      subst hv
      go_upto_region 19 with fail
      go_cut [94] (fun x wx => x = .bool (contB s.data.toList st) ∧ Hid (PR w wx s Q a why fat X1 (Rw.bytes CP) (Rw.bytes CY) (.slice A hl.length c) ⟨#[]⟩ hl))
      case first =>
       have c1 : wr.cell? ⟨w.heap.size + 1 + 1, 1, none⟩ = some (.int .i64 (a : Int)) := HP.out.rd.cell 1
       rcases HOk.out with ⟨rfl, rfl, rfl⟩ | ⟨hw, rfl⟩
       · have HWk := lH (HWt.out a)
         have ha0 : (0 : Int) ≤ (a : Int) := by omega
         by_cases hks : a < s.size
         · have hJ : (a : Int) < (s.size : Int) := by omega
           have es : s.data.toList[a]? = some s[a] := by
            rw [List.getElem?_eq_getElem (by rw [← HZ.out]; exact hks)]
            simp [ByteArray.getElem_eq_getElem_data]
           have hcb : Hid (contB s.data.toList (some a) = !((s[a].toNat : Int) == 13)) := by
            show _ = _
            simp only [contB, es, Option.some.injEq]
            congr 1
            rw [Bool.eq_iff_iff, decide_eq_true_iff, beq_iff_eq, ← UInt8.toNat_inj]
            show _ ↔ ((s[a].toNat : Nat) : Int) = ((13 : Nat) : Int)
            rw [Int.ofNat_inj]
            rfl
           clear es
           generalize hc : s[a] = cc at *
           have hc1 := cc.toNat_lt
           cases e13 : ((cc.toNat : Int) == 13) with
           | true =>
            go_wp2_with (go_at_call 56; refine (HWk.out _ HP.out.rd).mono ?_; rintro e w9 ⟨rfl, rfl⟩)
            go_meet
            exact ⟨by rw [hcb.out, e13] <;> rfl, HP⟩
           | false =>
            go_wp2_with (go_at_call 56; refine (HWk.out _ HP.out.rd).mono ?_; rintro e w9 ⟨rfl, rfl⟩)
            go_meet
            exact ⟨by rw [hcb.out, e13] <;> rfl, HP⟩
         · have hJ : ¬ ((a : Int) < (s.size : Int)) := by omega
           have hcb : Hid (contB s.data.toList (some a) = true) := by
            show _ = _
            simp only [contB]
            rw [List.getElem?_eq_none (by rw [← HZ.out]; omega)] <;> rfl
           go_wp2_with (go_at_call 56; refine (HWk.out _ HP.out.rd).mono ?_; rintro e w9 ⟨rfl, rfl⟩)
           go_meet
           exact ⟨by rw [hcb.out], HP⟩
       · have HWk := lH (HWf.out a why fat hw)
         go_wp2_with (go_at_call 56; refine (HWk.out _ HP.out.rd).mono ?_; rintro e w9 ⟨rfl, rfl⟩)
         go_meet
         exact ⟨rfl, HP⟩
      case rest =>
       obtain ⟨rfl, HP1⟩ := hcut
       clear HP
       cases hC : contB s.data.toList st with
       | false =>
        go_wp2_with fail
        refine (HMu.out ⟨#[13, 10]⟩ a why fat st HOk.out _ HP1.out.rd (by decide) ha).mono ?_
        rintro e w9 ⟨rfl, hk9, a6, why6, fat6, HO6, -, ha6, HB6⟩
        have hcr : (⟨#[13, 10]⟩ : ByteArray).data.toList = [13, 10] := rfl
        rw [hcr] at HO6
        have HP2 := lH (HP1.out.step hk9 HB6.out)
        clear HP1 hk9 HB6 hcr
        rcases HO6.out with ⟨rfl, rfl, h6⟩ | ⟨hw6, h6⟩
        · obtain ⟨k, hst, hmk⟩ := Option.bind_eq_some_iff.1 h6
          subst hst
          have h13 : s.data.toList[k]? = some 13 := by
           cases hd : decide (s.data.toList[k]? = some 13) with
           | true => exact of_decide_eq_true hd
           | false => exact absurd hC (by simp only [contB, hd]; decide)
          have hHe := headsN_eq s.data.toList k hl ln
          rw [if_pos h13, hmk] at hHe
          have hR : headsN s.data.toList k hl ln = M := HR.out
          have hMv : M = some (hl, ln, a6) := by rw [← hR, hHe]
          obtain ⟨e5, hs5, hh5⟩ := Option.bind_eq_some_iff.1 (HM.out.trans hMv)
          have hln5 : lineN s.data.toList = some (wordT s.data.toList upB 16 (some 0), CP, CY, e5) := by rw [HLn.out, hs5]; rfl
          have hh64 : hl.length ≤ 64 := Hh64.out rfl
          have HWk := lH (HWt.out a6)
          have hx := (extract_piece s a6 s.size).trans (congrArg Rw.bytes (piece_end s a6))
          obtain ⟨B9, hB9⟩ : ∃ B9, s.extract a6 s.size = B9 := ⟨_, rfl⟩
          have HB9x : Hid (B9 = Rw.bytes (s.data.toList.drop a6)) := by show _ = _; rw [← hB9]; exact hx
          have hq0 : (0 : Int) ≤ (a6 : Int) := by omega
          have hq1 : (a6 : Int) ≤ (s.size : Int) := by omega
          have c1 : w9.cell? ⟨w.heap.size + 1 + 1, 1, none⟩ = some (.int .i64 (a6 : Int)) := HP2.out.rd.cell 1
          have q4 : w9.cell? ⟨Q, 4, none⟩ = some (.string ⟨#[]⟩) := HP2.out.q.cell 4
          have z4 := HP2.out.q.frozen 4
          have HP3 := lH (HP2.out.body B9)
          have HNo9 : Hid (lenOk ln (s.data.toList.drop a6) = false → parseN s.data.toList = none) := fun h => parse_no hlL.out (.inr ⟨_, _, _, _, hln5, .inr ⟨_, _, _, hh5, h⟩⟩)
          have HFin : Hid (lenOk ln (s.data.toList.drop a6) = true → parseN s.data.toList = some ⟨wordT s.data.toList upB 16 (some 0), CP, CY, hl, s.data.toList.drop a6⟩) := fun h => parse_yes hlL.out hln5 hh5 h
          clear hx h6 hmk h13 hHe hR hMv hs5 hh5 hln5 hC HO6 HOk HGk
          go_upto_region 30 with (go_at_call 56; refine (HWk.out _ HP2.out.rd).mono ?_; rintro e w99 ⟨rfl, hw99⟩; rw [hw99]; clear hw99 w99)
          generalize w9.setCell ⟨Q, 4, none⟩ (.string B9) = w10 at *
          clear c1 q4 z4 HP2 hB9
          cases ln with
          | none =>
           have hl1 : lnI = -1 := HLI.out
           subst hl1
           have HFin0 := lH (HFin.out rfl)
           clear HLI HNo9 HFin
           have r0 : w10.cell? ⟨w.heap.size, 0, none⟩ = some (.string ⟨#[]⟩) := HP3.out.res.cell 0
           have r1 : w10.cell? ⟨w.heap.size, 1, none⟩ = some (.string ⟨#[]⟩) := HP3.out.res.cell 1
           have r2 : w10.cell? ⟨w.heap.size, 2, none⟩ = some (.string ⟨#[]⟩) := HP3.out.res.cell 2
           have r3 : w10.cell? ⟨w.heap.size, 3, none⟩ = some (.slice none 0 0) := HP3.out.res.cell 3
           have r4 : w10.cell? ⟨w.heap.size, 4, none⟩ = some (.string ⟨#[]⟩) := HP3.out.res.cell 4
           have t0 : w10.cell? ⟨w.heap.size + 1, 0, none⟩ = some (.int .i64 0) := HP3.out.flt.cell 0
           have t1 : w10.cell? ⟨w.heap.size + 1, 1, none⟩ = some (.int .i64 0) := HP3.out.flt.cell 1
           have v0 := HP3.out.res.frozen 0
           have v1 := HP3.out.res.frozen 1
           have v2 := HP3.out.res.frozen 2
           have v3 := HP3.out.res.frozen 3
           have v4 := HP3.out.res.frozen 4
           have u0 := HP3.out.flt.frozen 0
           have u1 := HP3.out.flt.frozen 1
           have g0 : w10.cell? ⟨Q, 0, none⟩ = some (.string X1) := HP3.out.q.cell 0
           have g1 : w10.cell? ⟨Q, 1, none⟩ = some (.string (Rw.bytes CP)) := HP3.out.q.cell 1
           have g2 : w10.cell? ⟨Q, 2, none⟩ = some (.string (Rw.bytes CY)) := HP3.out.q.cell 2
           have g3 : w10.cell? ⟨Q, 3, none⟩ = some (.slice A hl.length c) := HP3.out.q.cell 3
           have g4 : w10.cell? ⟨Q, 4, none⟩ = some (.string B9) := HP3.out.q.cell 4
           go_wp2_with fail
           have hend := ended (B := w.heap.size) HP3.out.res HP3.out.flt (by omega) (Nat.le_refl _) (by omega) (.string X1) (.string (Rw.bytes CP)) (.string (Rw.bytes CY)) (.slice A hl.length c) (.string B9) (.int .i64 0) (.int .i64 0)
           have HB9 := lH (HP3.out.bel.trans hend.2.2)
           have HPb := lH (own_mono (B := w.heap.size) (by have := HP3.out.far; omega) (own_ended HP3.out.owns HP3.out.res HP3.out.flt (by omega) (.string X1) (.string (Rw.bytes CP)) (.string (Rw.bytes CY)) (.slice A hl.length c) (.string B9) (.int .i64 0) (.int .i64 0)))
           have HQ9 := lH hend.1
           have HF9 := lH hend.2.1
           generalize ((((((w10.setCell ⟨w.heap.size, 0, none⟩ (.string X1)).setCell ⟨w.heap.size, 1, none⟩ (.string (Rw.bytes CP))).setCell ⟨w.heap.size, 2, none⟩ (.string (Rw.bytes CY))).setCell ⟨w.heap.size, 3, none⟩ (.slice A hl.length c)).setCell ⟨w.heap.size, 4, none⟩ (.string B9)).setCell ⟨w.heap.size + 1, 0, none⟩ (.int .i64 0)).setCell ⟨w.heap.size + 1, 1, none⟩ (.int .i64 0) = w19 at *
           clear hend r0 r1 r2 r3 r4 t0 t1 v0 v1 v2 v3 v4 u0 u1
           have r0 : w19.cell? ⟨w.heap.size, 0, none⟩ = some (.string X1) := HQ9.out.cell 0
           have r1 : w19.cell? ⟨w.heap.size, 1, none⟩ = some (.string (Rw.bytes CP)) := HQ9.out.cell 1
           have r2 : w19.cell? ⟨w.heap.size, 2, none⟩ = some (.string (Rw.bytes CY)) := HQ9.out.cell 2
           have r3 : w19.cell? ⟨w.heap.size, 3, none⟩ = some (.slice A hl.length c) := HQ9.out.cell 3
           have r4 : w19.cell? ⟨w.heap.size, 4, none⟩ = some (.string B9) := HQ9.out.cell 4
           have t0 : w19.cell? ⟨w.heap.size + 1, 0, none⟩ = some (.int .i64 0) := HF9.out.cell 0
           have t1 : w19.cell? ⟨w.heap.size + 1, 1, none⟩ = some (.int .i64 0) := HF9.out.cell 1
           refine bodyPost_ret (v := .tuple #[.agg #[.string X1, .string (Rw.bytes CP), .string (Rw.bytes CY), .slice A hl.length c, .string B9], .agg #[.int .i64 0, .int .i64 0]]) (by simp [results, results24, go_sem, r0, r1, r2, r3, r4, t0, t1]) rfl ?_
           refine ⟨HB9.out, .inl ⟨⟨wordT s.data.toList upB 16 (some 0), CP, CY, hl, s.data.toList.drop a6⟩, A, c, HFin0.out, hh64, HPb.out, ?_⟩⟩
           unfold reqV
           rw [HX1.out, ← HB9x.out]
          | some fx =>
           obtain ⟨f0, x0⟩ := fx
           obtain ⟨hl1, hmy⟩ := HLI.out
           subst hl1 hmy
           have hf0 : (0 : Int) ≤ (f0 : Int) := by omega
           have hBs : B9.size = (s.data.toList.drop a6).length := by rw [HB9x.out, Rw.bytes_size]
           have q4 : w10.cell? ⟨Q, 4, none⟩ = some (.string B9) := HP3.out.q.cell 4
           have hBl : B9.size ≤ s.size := by rw [hBs, List.length_drop, ← HZ.out]; omega
           have HOk9 : Hid (lenOk (some (f0, x0)) (s.data.toList.drop a6) = ((Rw.bytes x0).toList == (⟨(Lib.itoa (B9.size : Int)).toArray⟩ : ByteArray).toList)) := by
            show _ = _
            rw [hBs]
            exact (list_beq x0 (Lib.itoa _)).symm
           clear HLI hBs
           cases hcmp : ((Rw.bytes x0).toList == (⟨(Lib.itoa (B9.size : Int)).toArray⟩ : ByteArray).toList) with
           | true =>
            have HFin0 := lH (HFin.out (HOk9.out.trans hcmp))
            have HDg := lH (fun w' => digX B9.size (by omega) x0 hcmp w')
            clear HOk9 HFin HNo9 hcmp
            go_wp2_with fail
            refine (HDg.out w10).mono ?_
            rintro e w11 ⟨D9, hD9, rfl, hb11⟩
            have HP4 := lH (HP3.out.below hb11)
            clear hb11
            have r0 : w11.cell? ⟨w.heap.size, 0, none⟩ = some (.string ⟨#[]⟩) := HP4.out.res.cell 0
            have r1 : w11.cell? ⟨w.heap.size, 1, none⟩ = some (.string ⟨#[]⟩) := HP4.out.res.cell 1
            have r2 : w11.cell? ⟨w.heap.size, 2, none⟩ = some (.string ⟨#[]⟩) := HP4.out.res.cell 2
            have r3 : w11.cell? ⟨w.heap.size, 3, none⟩ = some (.slice none 0 0) := HP4.out.res.cell 3
            have r4 : w11.cell? ⟨w.heap.size, 4, none⟩ = some (.string ⟨#[]⟩) := HP4.out.res.cell 4
            have t0 : w11.cell? ⟨w.heap.size + 1, 0, none⟩ = some (.int .i64 0) := HP4.out.flt.cell 0
            have t1 : w11.cell? ⟨w.heap.size + 1, 1, none⟩ = some (.int .i64 0) := HP4.out.flt.cell 1
            have v0 := HP4.out.res.frozen 0
            have v1 := HP4.out.res.frozen 1
            have v2 := HP4.out.res.frozen 2
            have v3 := HP4.out.res.frozen 3
            have v4 := HP4.out.res.frozen 4
            have u0 := HP4.out.flt.frozen 0
            have u1 := HP4.out.flt.frozen 1
            have g0 : w11.cell? ⟨Q, 0, none⟩ = some (.string X1) := HP4.out.q.cell 0
            have g1 : w11.cell? ⟨Q, 1, none⟩ = some (.string (Rw.bytes CP)) := HP4.out.q.cell 1
            have g2 : w11.cell? ⟨Q, 2, none⟩ = some (.string (Rw.bytes CY)) := HP4.out.q.cell 2
            have g3 : w11.cell? ⟨Q, 3, none⟩ = some (.slice A hl.length c) := HP4.out.q.cell 3
            have g4 : w11.cell? ⟨Q, 4, none⟩ = some (.string B9) := HP4.out.q.cell 4
            go_wp2_with fail
            have hend := ended (B := w.heap.size) HP4.out.res HP4.out.flt (by omega) (Nat.le_refl _) (by omega) (.string X1) (.string (Rw.bytes CP)) (.string (Rw.bytes CY)) (.slice A hl.length c) (.string B9) (.int .i64 0) (.int .i64 0)
            have HB9 := lH (HP4.out.bel.trans hend.2.2)
            have HPb := lH (own_mono (B := w.heap.size) (by have := HP4.out.far; omega) (own_ended HP4.out.owns HP4.out.res HP4.out.flt (by omega) (.string X1) (.string (Rw.bytes CP)) (.string (Rw.bytes CY)) (.slice A hl.length c) (.string B9) (.int .i64 0) (.int .i64 0)))
            have HQ9 := lH hend.1
            have HF9 := lH hend.2.1
            generalize ((((((w11.setCell ⟨w.heap.size, 0, none⟩ (.string X1)).setCell ⟨w.heap.size, 1, none⟩ (.string (Rw.bytes CP))).setCell ⟨w.heap.size, 2, none⟩ (.string (Rw.bytes CY))).setCell ⟨w.heap.size, 3, none⟩ (.slice A hl.length c)).setCell ⟨w.heap.size, 4, none⟩ (.string B9)).setCell ⟨w.heap.size + 1, 0, none⟩ (.int .i64 0)).setCell ⟨w.heap.size + 1, 1, none⟩ (.int .i64 0) = w19 at *
            clear hend r0 r1 r2 r3 r4 t0 t1 v0 v1 v2 v3 v4 u0 u1
            have r0 : w19.cell? ⟨w.heap.size, 0, none⟩ = some (.string X1) := HQ9.out.cell 0
            have r1 : w19.cell? ⟨w.heap.size, 1, none⟩ = some (.string (Rw.bytes CP)) := HQ9.out.cell 1
            have r2 : w19.cell? ⟨w.heap.size, 2, none⟩ = some (.string (Rw.bytes CY)) := HQ9.out.cell 2
            have r3 : w19.cell? ⟨w.heap.size, 3, none⟩ = some (.slice A hl.length c) := HQ9.out.cell 3
            have r4 : w19.cell? ⟨w.heap.size, 4, none⟩ = some (.string B9) := HQ9.out.cell 4
            have t0 : w19.cell? ⟨w.heap.size + 1, 0, none⟩ = some (.int .i64 0) := HF9.out.cell 0
            have t1 : w19.cell? ⟨w.heap.size + 1, 1, none⟩ = some (.int .i64 0) := HF9.out.cell 1
            refine bodyPost_ret (v := .tuple #[.agg #[.string X1, .string (Rw.bytes CP), .string (Rw.bytes CY), .slice A hl.length c, .string B9], .agg #[.int .i64 0, .int .i64 0]]) (by simp [results, results24, go_sem, r0, r1, r2, r3, r4, t0, t1]) rfl ?_
            refine ⟨HB9.out, .inl ⟨⟨wordT s.data.toList upB 16 (some 0), CP, CY, hl, s.data.toList.drop a6⟩, A, c, HFin0.out, hh64, HPb.out, ?_⟩⟩
            unfold reqV
            rw [HX1.out, ← HB9x.out]
           | false =>
            have HN9 := lH (HNo9.out (HOk9.out.trans hcmp))
            have HDg := lH (fun w' => digX B9.size (by omega) x0 hcmp w')
            clear HOk9 HFin HNo9 hcmp
            go_wp2_with fail
            refine (HDg.out w10).mono ?_
            rintro e w11 ⟨D9, hD9, rfl, hb11⟩
            have HP4 := lH (HP3.out.below hb11)
            clear hb11
            have r0 : w11.cell? ⟨w.heap.size, 0, none⟩ = some (.string ⟨#[]⟩) := HP4.out.res.cell 0
            have r1 : w11.cell? ⟨w.heap.size, 1, none⟩ = some (.string ⟨#[]⟩) := HP4.out.res.cell 1
            have r2 : w11.cell? ⟨w.heap.size, 2, none⟩ = some (.string ⟨#[]⟩) := HP4.out.res.cell 2
            have r3 : w11.cell? ⟨w.heap.size, 3, none⟩ = some (.slice none 0 0) := HP4.out.res.cell 3
            have r4 : w11.cell? ⟨w.heap.size, 4, none⟩ = some (.string ⟨#[]⟩) := HP4.out.res.cell 4
            have t0 : w11.cell? ⟨w.heap.size + 1, 0, none⟩ = some (.int .i64 0) := HP4.out.flt.cell 0
            have t1 : w11.cell? ⟨w.heap.size + 1, 1, none⟩ = some (.int .i64 0) := HP4.out.flt.cell 1
            have v0 := HP4.out.res.frozen 0
            have v1 := HP4.out.res.frozen 1
            have v2 := HP4.out.res.frozen 2
            have v3 := HP4.out.res.frozen 3
            have v4 := HP4.out.res.frozen 4
            have u0 := HP4.out.flt.frozen 0
            have u1 := HP4.out.flt.frozen 1
            go_wp2_with fail
            have hend := ended (B := w.heap.size) HP4.out.res HP4.out.flt (by omega) (Nat.le_refl _) (by omega) (.string ⟨#[]⟩) (.string ⟨#[]⟩) (.string ⟨#[]⟩) (.slice none 0 0) (.string ⟨#[]⟩) (.int .i64 (11)) (.int .i64 ((f0 : Int)))
            have HB9 := lH (HP4.out.bel.trans hend.2.2)
            have HQ9 := lH hend.1
            have HF9 := lH hend.2.1
            generalize ((((((w11.setCell ⟨w.heap.size, 0, none⟩ (.string ⟨#[]⟩)).setCell ⟨w.heap.size, 1, none⟩ (.string ⟨#[]⟩)).setCell ⟨w.heap.size, 2, none⟩ (.string ⟨#[]⟩)).setCell ⟨w.heap.size, 3, none⟩ (.slice none 0 0)).setCell ⟨w.heap.size, 4, none⟩ (.string ⟨#[]⟩)).setCell ⟨w.heap.size + 1, 0, none⟩ (.int .i64 (11))).setCell ⟨w.heap.size + 1, 1, none⟩ (.int .i64 ((f0 : Int))) = w9 at *
            clear hend r0 r1 r2 r3 r4 t0 t1 v0 v1 v2 v3 v4 u0 u1
            go_wp2_with fail
            have r0 : w9.cell? ⟨w.heap.size, 0, none⟩ = some (.string ⟨#[]⟩) := HQ9.out.cell 0
            have r1 : w9.cell? ⟨w.heap.size, 1, none⟩ = some (.string ⟨#[]⟩) := HQ9.out.cell 1
            have r2 : w9.cell? ⟨w.heap.size, 2, none⟩ = some (.string ⟨#[]⟩) := HQ9.out.cell 2
            have r3 : w9.cell? ⟨w.heap.size, 3, none⟩ = some (.slice none 0 0) := HQ9.out.cell 3
            have r4 : w9.cell? ⟨w.heap.size, 4, none⟩ = some (.string ⟨#[]⟩) := HQ9.out.cell 4
            have t0 : w9.cell? ⟨w.heap.size + 1, 0, none⟩ = some (.int .i64 (11)) := HF9.out.cell 0
            have t1 : w9.cell? ⟨w.heap.size + 1, 1, none⟩ = some (.int .i64 ((f0 : Int))) := HF9.out.cell 1
            refine bodyPost_ret (v := .tuple #[req0, .agg #[.int .i64 (11), .int .i64 ((f0 : Int))]]) (by simp [results, results24, go_sem, r0, r1, r2, r3, r4, t0, t1, req0]) rfl ?_
            exact ⟨⟨HB9.out.os, HB9.out.tape, HB9.out.output, HB9.out.size, HB9.out.block⟩, .inr ⟨HN9.out, _, _, (by decide : (11 : Int) ≠ 0), rfl⟩⟩
        · have hM0 : M = none := by
           rw [← HR.out]
           cases st with
           | none => rfl
           | some k =>
            have hmk : mustN s.data.toList [13, 10] k = none := h6
            have h13 : s.data.toList[k]? = some 13 := by
             cases hd : decide (s.data.toList[k]? = some 13) with
             | true => exact of_decide_eq_true hd
             | false => exact absurd hC (by simp only [contB, hd]; decide)
            have hHe := headsN_eq s.data.toList k hl ln
            rw [if_pos h13, hmk] at hHe
            exact hHe
          have HN9 := lH (HNo.out hM0)
          have HWk := lH (HWf.out a6 why6 fat6 hw6)
          clear hM0 hC h6 HO6 HOk HGk
          have r0 : w9.cell? ⟨w.heap.size, 0, none⟩ = some (.string ⟨#[]⟩) := HP2.out.res.cell 0
          have r1 : w9.cell? ⟨w.heap.size, 1, none⟩ = some (.string ⟨#[]⟩) := HP2.out.res.cell 1
          have r2 : w9.cell? ⟨w.heap.size, 2, none⟩ = some (.string ⟨#[]⟩) := HP2.out.res.cell 2
          have r3 : w9.cell? ⟨w.heap.size, 3, none⟩ = some (.slice none 0 0) := HP2.out.res.cell 3
          have r4 : w9.cell? ⟨w.heap.size, 4, none⟩ = some (.string ⟨#[]⟩) := HP2.out.res.cell 4
          have t0 : w9.cell? ⟨w.heap.size + 1, 0, none⟩ = some (.int .i64 0) := HP2.out.flt.cell 0
          have t1 : w9.cell? ⟨w.heap.size + 1, 1, none⟩ = some (.int .i64 0) := HP2.out.flt.cell 1
          have v0 := HP2.out.res.frozen 0
          have v1 := HP2.out.res.frozen 1
          have v2 := HP2.out.res.frozen 2
          have v3 := HP2.out.res.frozen 3
          have v4 := HP2.out.res.frozen 4
          have u0 := HP2.out.flt.frozen 0
          have u1 := HP2.out.flt.frozen 1
          have c2 : w9.cell? ⟨w.heap.size + 1 + 1, 2, none⟩ = some (.int .i64 why6) := HP2.out.rd.cell 2
          have c3 : w9.cell? ⟨w.heap.size + 1 + 1, 3, none⟩ = some (.int .i64 fat6) := HP2.out.rd.cell 3
          go_wp2_with (go_at_call 56; refine (HWk.out _ HP2.out.rd).mono ?_; rintro e w99 ⟨rfl, hw99⟩; rw [hw99]; clear hw99 w99)
          go_region_law (fail)
          all_goals
           have hend := ended (B := w.heap.size) HP2.out.res HP2.out.flt (by omega) (Nat.le_refl _) (by omega) (.string ⟨#[]⟩) (.string ⟨#[]⟩) (.string ⟨#[]⟩) (.slice none 0 0) (.string ⟨#[]⟩) (.int .i64 (why6)) (.int .i64 (fat6))
           have HB9 := lH (HP2.out.bel.trans hend.2.2)
           have HQ9 := lH hend.1
           have HF9 := lH hend.2.1
           generalize ((((((w9.setCell ⟨w.heap.size, 0, none⟩ (.string ⟨#[]⟩)).setCell ⟨w.heap.size, 1, none⟩ (.string ⟨#[]⟩)).setCell ⟨w.heap.size, 2, none⟩ (.string ⟨#[]⟩)).setCell ⟨w.heap.size, 3, none⟩ (.slice none 0 0)).setCell ⟨w.heap.size, 4, none⟩ (.string ⟨#[]⟩)).setCell ⟨w.heap.size + 1, 0, none⟩ (.int .i64 (why6))).setCell ⟨w.heap.size + 1, 1, none⟩ (.int .i64 (fat6)) = w9 at *
           clear hend r0 r1 r2 r3 r4 t0 t1 v0 v1 v2 v3 v4 u0 u1
           go_wp2_with fail
           have r0 : w9.cell? ⟨w.heap.size, 0, none⟩ = some (.string ⟨#[]⟩) := HQ9.out.cell 0
           have r1 : w9.cell? ⟨w.heap.size, 1, none⟩ = some (.string ⟨#[]⟩) := HQ9.out.cell 1
           have r2 : w9.cell? ⟨w.heap.size, 2, none⟩ = some (.string ⟨#[]⟩) := HQ9.out.cell 2
           have r3 : w9.cell? ⟨w.heap.size, 3, none⟩ = some (.slice none 0 0) := HQ9.out.cell 3
           have r4 : w9.cell? ⟨w.heap.size, 4, none⟩ = some (.string ⟨#[]⟩) := HQ9.out.cell 4
           have t0 : w9.cell? ⟨w.heap.size + 1, 0, none⟩ = some (.int .i64 (why6)) := HF9.out.cell 0
           have t1 : w9.cell? ⟨w.heap.size + 1, 1, none⟩ = some (.int .i64 (fat6)) := HF9.out.cell 1
           refine bodyPost_ret (v := .tuple #[req0, .agg #[.int .i64 (why6), .int .i64 (fat6)]]) (by simp [results, results24, go_sem, r0, r1, r2, r3, r4, t0, t1, req0]) rfl ?_
           exact ⟨⟨HB9.out.os, HB9.out.tape, HB9.out.output, HB9.out.size, HB9.out.block⟩, .inr ⟨HN9.out, _, _, hw6, rfl⟩⟩
       | true =>
        obtain ⟨k, hst⟩ : ∃ k, st = some k := by
         cases st with
         | none => simp [contB] at hC
         | some k => exact ⟨k, rfl⟩
        subst hst
        have hka : k = a ∧ why = 0 ∧ fat = 0 := by
         rcases HOk.out with ⟨e1, e2, e3⟩ | ⟨-, e3⟩
         · injection e3 with e3; exact ⟨e3, e1, e2⟩
         · cases e3
        obtain ⟨rfl, rfl, rfl⟩ := hka
        have h13 : s.data.toList[k]? ≠ some 13 := by
         intro e
         simp [contB, e] at hC
        have HHe := lH (headsN_eq s.data.toList k hl ln)
        rw [if_neg h13] at HHe
        have HR1 : Hid (headsN s.data.toList k hl ln = M) := HR.out
        have hh64 : hl.length ≤ 64 := Hh64.out rfl
        clear hC h13 HR Hh64
        have HMany := lH HHe
        go_upto_region 20 with fail
        go_cut [105] (fun x wx => x = .bool (decide (64 ≤ hl.length) && decide (k < s.size)) ∧ Hid (PR w wx s Q k 0 0 X1 (Rw.bytes CP) (Rw.bytes CY) (.slice A hl.length c) ⟨#[]⟩ hl))
        case first =>
         have c1 : wc.cell? ⟨w.heap.size + 1 + 1, 1, none⟩ = some (.int .i64 (k : Int)) := HP1.out.rd.cell 1
         have q3 : wc.cell? ⟨Q, 3, none⟩ = some (.slice A hl.length c) := HP1.out.q.cell 3
         by_cases h64 : 64 ≤ hl.length
         · have h64I : (64 : Int) ≤ (hl.length : Int) := by omega
           by_cases hks : k < s.size
           · have hksI : (k : Int) < (s.size : Int) := by omega
             go_wp2_with fail
             go_meet
             exact ⟨by rw [decide_eq_true h64, decide_eq_true hks] <;> rfl, HP1⟩
           · have hksI : ¬ ((k : Int) < (s.size : Int)) := by omega
             go_wp2_with fail
             go_meet
             exact ⟨by rw [decide_eq_true h64, decide_eq_false hks] <;> rfl, HP1⟩
         · have h64I : ¬ ((64 : Int) ≤ (hl.length : Int)) := by omega
           go_wp2_with fail
           go_meet
           exact ⟨by rw [decide_eq_false h64] <;> rfl, HP1⟩
        case rest =>
         obtain ⟨rfl, HP2⟩ := hcut
         clear HP1
         by_cases hmany : 64 ≤ hl.length ∧ k < s.size
         · have hb9 : (decide (64 ≤ hl.length) && decide (k < s.size)) = true := by rw [decide_eq_true hmany.1, decide_eq_true hmany.2]; rfl
           rw [hb9]
           have hM0 : M = none := by rw [← HR1.out, HHe.out, if_pos hmany.1]
           have HN9 := lH (HNo.out hM0)
           clear hM0 hmany hb9
           have r0 : wc.cell? ⟨w.heap.size, 0, none⟩ = some (.string ⟨#[]⟩) := HP2.out.res.cell 0
           have r1 : wc.cell? ⟨w.heap.size, 1, none⟩ = some (.string ⟨#[]⟩) := HP2.out.res.cell 1
           have r2 : wc.cell? ⟨w.heap.size, 2, none⟩ = some (.string ⟨#[]⟩) := HP2.out.res.cell 2
           have r3 : wc.cell? ⟨w.heap.size, 3, none⟩ = some (.slice none 0 0) := HP2.out.res.cell 3
           have r4 : wc.cell? ⟨w.heap.size, 4, none⟩ = some (.string ⟨#[]⟩) := HP2.out.res.cell 4
           have t0 : wc.cell? ⟨w.heap.size + 1, 0, none⟩ = some (.int .i64 0) := HP2.out.flt.cell 0
           have t1 : wc.cell? ⟨w.heap.size + 1, 1, none⟩ = some (.int .i64 0) := HP2.out.flt.cell 1
           have v0 := HP2.out.res.frozen 0
           have v1 := HP2.out.res.frozen 1
           have v2 := HP2.out.res.frozen 2
           have v3 := HP2.out.res.frozen 3
           have v4 := HP2.out.res.frozen 4
           have u0 := HP2.out.flt.frozen 0
           have u1 := HP2.out.flt.frozen 1
           have c1 : wc.cell? ⟨w.heap.size + 1 + 1, 1, none⟩ = some (.int .i64 (k : Int)) := HP2.out.rd.cell 1
           go_wp2_with fail
           go_region_law (fail)
           all_goals
            have hend := ended (B := w.heap.size) HP2.out.res HP2.out.flt (by omega) (Nat.le_refl _) (by omega) (.string ⟨#[]⟩) (.string ⟨#[]⟩) (.string ⟨#[]⟩) (.slice none 0 0) (.string ⟨#[]⟩) (.int .i64 (3)) (.int .i64 ((k : Int)))
            have HB9 := lH (HP2.out.bel.trans hend.2.2)
            have HQ9 := lH hend.1
            have HF9 := lH hend.2.1
            generalize ((((((wc.setCell ⟨w.heap.size, 0, none⟩ (.string ⟨#[]⟩)).setCell ⟨w.heap.size, 1, none⟩ (.string ⟨#[]⟩)).setCell ⟨w.heap.size, 2, none⟩ (.string ⟨#[]⟩)).setCell ⟨w.heap.size, 3, none⟩ (.slice none 0 0)).setCell ⟨w.heap.size, 4, none⟩ (.string ⟨#[]⟩)).setCell ⟨w.heap.size + 1, 0, none⟩ (.int .i64 (3))).setCell ⟨w.heap.size + 1, 1, none⟩ (.int .i64 ((k : Int))) = w9 at *
            clear hend r0 r1 r2 r3 r4 t0 t1 v0 v1 v2 v3 v4 u0 u1
            go_wp2_with fail
            have r0 : w9.cell? ⟨w.heap.size, 0, none⟩ = some (.string ⟨#[]⟩) := HQ9.out.cell 0
            have r1 : w9.cell? ⟨w.heap.size, 1, none⟩ = some (.string ⟨#[]⟩) := HQ9.out.cell 1
            have r2 : w9.cell? ⟨w.heap.size, 2, none⟩ = some (.string ⟨#[]⟩) := HQ9.out.cell 2
            have r3 : w9.cell? ⟨w.heap.size, 3, none⟩ = some (.slice none 0 0) := HQ9.out.cell 3
            have r4 : w9.cell? ⟨w.heap.size, 4, none⟩ = some (.string ⟨#[]⟩) := HQ9.out.cell 4
            have t0 : w9.cell? ⟨w.heap.size + 1, 0, none⟩ = some (.int .i64 (3)) := HF9.out.cell 0
            have t1 : w9.cell? ⟨w.heap.size + 1, 1, none⟩ = some (.int .i64 ((k : Int))) := HF9.out.cell 1
            refine bodyPost_ret (v := .tuple #[req0, .agg #[.int .i64 (3), .int .i64 ((k : Int))]]) (by simp [results, results24, go_sem, r0, r1, r2, r3, r4, t0, t1, req0]) rfl ?_
            exact ⟨⟨HB9.out.os, HB9.out.tape, HB9.out.output, HB9.out.size, HB9.out.block⟩, .inr ⟨HN9.out, _, _, (by decide : (3 : Int) ≠ 0), rfl⟩⟩
         · have hb9 : (decide (64 ≤ hl.length) && decide (k < s.size)) = false := by
            rw [Bool.and_eq_false_iff, decide_eq_false_iff_not, decide_eq_false_iff_not]
            by_cases h64 : 64 ≤ hl.length
            · exact .inr (fun h => hmany ⟨h64, h⟩)
            · exact .inl h64
           rw [hb9]
           clear hb9
           go_wp2_with fail
           refine (HHd.out k _ HP2.out.rd ha).mono ?_
           rintro e w9 ⟨Y1, Y2, f, rfl, hy1, hf, HYr, hk9, a', why', fat', HO', ha', HB'⟩
           have HP3 := lH (HP2.out.step hk9 HB'.out)
           have hst := heads_step HHe.out HR1.out (by rw [← HZ.out]; exact hmany) HYr.out
           have HSt := lH hst
           have HP4 := lH (HP3.out.below ((Below.refl w9.heap.size w9).alloc (Nat.le_refl _) (.cells #[.string Y1, .string Y2] 48)))
           have HB11 := lH (Blk.new w9 48 #[.string Y1, .string Y2])
           have hown3 := fun g hg => (HP3.out.owns.lt g hg).2
           have hQ9 := HP3.out.lt
           clear hk9 HB' hst HP2 HHe HR1 HMany HYr hmany
           go_upto_region 23 with fail
           have hsz10 : (w9.alloc (.cells #[.string Y1, .string Y2] 48)).heap.size = w9.heap.size + 1 := by simp
           generalize w9.alloc (.cells #[.string Y1, .string Y2] 48) = w10 at *
           generalize w9.heap.size = B11 at *
           obtain ⟨i0, hi0, hz0, hz1, hz2⟩ := info_parts pair_info
           have HI := lH (And.intro hi0 (And.intro hz0 (And.intro hz1 hz2)))
           have q3 : w10.cell? ⟨Q, 3, none⟩ = some (.slice A hl.length c) := HP4.out.q.cell 3
           have p0 : w10.cell? ⟨B11, 0, none⟩ = some (.string Y1) := HB11.out.cell 0
           have p1 : w10.cell? ⟨B11, 1, none⟩ = some (.string Y2) := HB11.out.cell 1
           have n3 := World.new_ne w10 _ q3
           have n0 := World.new_ne w10 _ p0
           have n1 := World.new_ne w10 _ p1
           have HSz10 := lH hsz10
           have HO3 := lH hown3
           clear hi0 hz0 hz1 hz2 HP3 hsz10 hown3
           have eY1 : Rw.bytes Y1.data.toList = Y1 := rfl
           have eY2 : Rw.bytes Y2.data.toList = Y2 := rfl
           go_upto_region 24 with (at_builtin; refine wpList_append_lies _ rfl _ _ 41 rfl (Q + 1) 48 i0 (.agg #[.string ⟨#[]⟩, .string ⟨#[]⟩]) 2 32 underlying41 HI.out.1 HI.out.2.1 HI.out.2.2.1 HI.out.2.2.2 rfl (by decide) _ _ _ rfl (HP4.out.owns.alloc _) ⟨w10.heap.size, 0, none⟩ 1 1 [.string Y1, .string Y2] rfl rfl (World.news_of_block (cs := #[.string Y1, .string Y2]) (t := 48) (fr := (0, 0)) (heap_alloc_new w10 _)) (by simp [Value.oneCell']) (by decide) (by unfold maxLen; omega) (by omega) (by have := HP4.out.lt; simp at this ⊢; omega) _ rfl ?_; intro g9 cap9 w12 hown9 hgrow9 _ _; have f9 := (HP4.out.q.alloc (.cells #[.string Y1, .string Y2] 48)).grown hgrow9 (Ne.symm (own_blk_ne HP4.out.owns HP4.out.q (by decide))); have fz := f9.frozen 3; have fc : w12.cell? ⟨Q, 3, none⟩ = some (.slice A hl.length c) := f9.cell 3; have HA9 := lH (HP4.out.app (u := (Y1.data.toList, Y2.data.toList)) (o := .cells #[.string Y1, .string Y2] 48) hown9 hgrow9); have HB12 := lH (((HB11.out.alloc (.cells #[.string Y1, .string Y2] 48)).grown hgrow9 (fun e => Nat.lt_irrefl _ (HO3.out _ e.symm))).far (p := ⟨Q, 3, none⟩) (by simp only; omega) (.slice (some ⟨g9, 0, none⟩) (hl.length + 1) cap9)); clear hown9 hgrow9 f9)
           generalize w12.setCell ⟨Q, 3, none⟩ (.slice (some ⟨g9, 0, none⟩) (hl.length + 1) cap9) = w13 at *
           clear fz fc q3 p0 p1 n3 n0 n1 HP4 HB11 HO3 HSz10
           have p0 : w13.cell? ⟨B11, 0, none⟩ = some (.string Y1) := HB12.out.cell 0
           have p1 : w13.cell? ⟨B11, 1, none⟩ = some (.string Y2) := HB12.out.cell 1
           obtain ⟨T9, HT9⟩ : ∃ z, Hid (sameS Y1 (Rw.bytes clenL) = z) := ⟨_, rfl⟩
           have HSm := lH (smallX Y1 (by omega) HT9.out)
           have HGk2 : Hid (∀ k', (headN s.data.toList k).map (·.2.2.2) = some k' → (match headN s.data.toList k with | some r => s.size + 1 - r.2.2.2 | none => 0) + k' = s.size + 1) := fun k' hk' => by
            cases hh : headN s.data.toList k with
            | none => rw [hh] at hk'; cases hk'
            | some r =>
             rw [hh] at hk'
             simp only [Option.map_some, Option.some.injEq] at hk'
             have := (head_far (s := s.data.toList) (at_ := k) (n := r.1) (v := r.2.1) (f := r.2.2.1) (z := r.2.2.2) hh).2
             rw [← HZ.out] at this
             subst hk'
             simp only
             omega
           have HLt : Hid ((match headN s.data.toList k with | some r => s.size + 1 - r.2.2.2 | none => 0) < gk) := by
            show _ < _
            have hg := HGk.out k rfl
            cases hh : headN s.data.toList k with
            | none => simp only; omega
            | some r =>
             have := (head_far (s := s.data.toList) (at_ := k) (n := r.1) (v := r.2.1) (f := r.2.2.1) (z := r.2.2.2) hh).1
             simp only
             omega
           have hT9 : sameS (Rw.bytes Y1.data.toList) (Rw.bytes clenL) = T9 := HT9.out
           clear HT9
           generalize (match headN s.data.toList k with | some r => s.size + 1 - r.2.2.2 | none => 0) = gn at HGk2 HLt
           cases ln with
           | none =>
            have hl1 : lnI = -1 := HLI.out
            subst hl1
            cases T9 with
            | true =>
             have hln2 : LnIs (f : Int) Y2 (lenN none Y1.data.toList Y2.data.toList f) := by
              unfold lenN
              rw [if_pos ⟨rfl, hT9⟩]
              exact ⟨rfl, eY2.symm⟩
             have HLn2 := lH hln2
             clear hln2 hT9 HLI
             go_wp2_with (go_at_call 58; refine (HSm.out _).mono ?_; rintro e w14 ⟨Z9, hz9, rfl, hb14⟩; have HA14 := lH (HA9.out.below hb14); have p1 : w14.cell? ⟨B11, 1, none⟩ = some (.string Y2) := (hb14.cell (p := ⟨B11, 1, none⟩) HB12.out.lt).trans p1; clear hb14)
             go_roundg gn
             case rel => exact ⟨a', why', fat', _, _, _, _, _, _, rfl, rfl, ha', HGk2, by simp only [List.length_append, List.length_singleton]; omega, lH (fun h => by have := HSt.out.2 h; simp only [List.length_append, List.length_singleton]; omega), HLn2, HO', HA14, HSt.out.1⟩
             case measure => exact HLt.out
            | false =>
             have hln2 : LnIs (-1 : Int) many (lenN none Y1.data.toList Y2.data.toList f) := by
              unfold lenN
              rw [if_neg (by rw [hT9]; decide)]
              exact rfl
             have HLn2 := lH hln2
             clear hln2 hT9 HLI
             go_wp2_with (go_at_call 58; refine (HSm.out _).mono ?_; rintro e w14 ⟨Z9, hz9, rfl, hb14⟩; have HA14 := lH (HA9.out.below hb14); clear hb14)
             go_roundg gn
             case rel => exact ⟨a', why', fat', _, _, _, _, _, _, rfl, rfl, ha', HGk2, by simp only [List.length_append, List.length_singleton]; omega, lH (fun h => by have := HSt.out.2 h; simp only [List.length_append, List.length_singleton]; omega), HLn2, HO', HA14, HSt.out.1⟩
             case measure => exact HLt.out
           | some fx =>
            obtain ⟨f0, x0⟩ := fx
            obtain ⟨hl1, hmy⟩ := HLI.out
            subst hl1 hmy
            have hf0 : ¬ ((f0 : Int) < 0) := by omega
            have hf1 : decide ((f0 : Int) < 0) = false := decide_eq_false hf0
            have hln2 : LnIs (f0 : Int) (Rw.bytes x0) (lenN (some (f0, x0)) Y1.data.toList Y2.data.toList f) := by
             unfold lenN
             rw [if_neg (by simp)]
             exact ⟨rfl, rfl⟩
            have HLn2 := lH hln2
            clear hln2 hT9 HLI
            go_wp2_with fail
            go_roundg gn
            case rel => exact ⟨a', why', fat', _, _, _, _, _, _, rfl, rfl, ha', HGk2, by simp only [List.length_append, List.length_singleton]; omega, lH (fun h => by have := HSt.out.2 h; simp only [List.length_append, List.length_singleton]; omega), HLn2, HO', HA9, HSt.out.1⟩
            case measure => exact HLt.out
end Rv
end Go.Proofs.YtgpemnmopogppaaGreatDoor
