/- The walk of the reference: Cut. -/
import Derived.Test.YtohbbgghkinnhaaDoorCutM
import Derived.Deep.DeepCutAuto
import Derived.Deep.CutRange
namespace Go.Proofs.YtohbbgghkinnhaaDoor
open Go.RowKit
attribute [local go_sem ↓] Go.wp_at_zero Go.wp_at_succ

/-- What the reference's Cut holds: the pieces so far. -/
structure RS (file : ByteArray) (w0 w : World) (v : Value) (ps : List P3) : Prop where
  owns : w.ownsRow w0.heap.size 32 3 v ps.length (ps.flatMap (pcCells file))
  bel : Below w0.heap.size w0 w
theorem RS.start (file : ByteArray) (w : World) : RS file w w (.slice none 0 0) [] := ⟨World.ownsRow_nil _ _ _ _, Below.refl _ _⟩
theorem RS.below {file : ByteArray} {w0 w w' : World} {v : Value} {ps : List P3} (h : RS file w0 w v ps) (k : Below w.heap.size w w') : RS file w0 w' v ps :=
  ⟨h.owns.kept (row := none) ⟨k.os, k.tape, k.output, k.size, fun i hi _ => k.block i hi⟩ (by cases v.ownBlock <;> simp), h.bel.trans (k.mono h.bel.size)⟩
theorem RS.append {file : ByteArray} {w0 w w1 : World} {v v' : Value} {ps : List P3} {q : P3} {o : Obj} (h : RS file w0 w v ps)
    (hown : w1.ownsRow w0.heap.size 32 3 v' (ps.length + 1) (ps.flatMap (pcCells file) ++ pcCells file q)) (hgrow : (w.alloc o).grownBy w1 v.ownBlock) : RS file w0 w1 v' (ps ++ [q]) := by
  have hk : Keeps (fun i => w0.heap.size ≤ i) w w1 := ((Keeps.refl _ w).alloc o).trans (Keeps.of_grown hgrow (fun g hg => (h.owns.lt g hg).1))
  refine ⟨?_, h.bel.trans (hk.below h.bel.size (fun _ h => h))⟩
  simpa using hown

theorem tagN_zero (l : Bytes) : (tagN l).2 = 0 ↔ (tagN l).1 = 0 := by
  unfold tagN
  split
  · simp
  · split
    · split
      · simp
      · split
        · simp
        · split <;> simp
    · simp
/-- Slots 7 and 8: the tag at byte i. -/
def TagIs (l : Bytes) (i : Nat) (x y : Value) : Prop := x = .int .i64 ((tagN (l.drop i)).1 : Nat) ∧ y = .int .i64 ((if (tagN (l.drop i)).2 = 0 then 0 else i + (tagN (l.drop i)).2 : Nat) : Int)
def TagCut (file : ByteArray) (w : World) (v : Value) (ps : List P3) (i : Nat) (x y : Value) (wx : World) : Prop := TagIs file.data.toList i x y ∧ RS file w wx v ps
def HtmlCut (file : ByteArray) (w : World) (ps : List P3) (x : Value) (wx : World) : Prop := RS file w wx x ps
/-- What is told so far, and what is left. -/
def RCut (file : ByteArray) (ps : List P3) (i fr : Nat) : Prop := cut3 file.data.toList = ps ++ (if i ≤ file.size then cutR file.data.toList i fr else [])
/-- What Cut answers. -/
def RPost (file : ByteArray) (w : World) (e : Ending) (w' : World) : Prop := ∃ v, e = .returned (.tuple #[v, .int .i64 0]) ∧ PiecesAt w' w.heap.size file v (cut3 file.data.toList) ∧ Below w.heap.size w w'

set_option maxRecDepth 100000 in
theorem rcut_long (file : ByteArray) (hfs : 65536 < file.size) (hml : file.size ≤ maxLen) (w : World) :
    Calls Tryd.prog 9 #[.string file] w fun e w' => e = .returned (.tuple #[.slice none 0 0, .int .i64 2]) ∧ w = w' := by
  have hI : (65536 : Int) < (file.size : Int) := by omega
  go_enter Tryd.func9, Tryd.ntmps9
  go_wp2_with fail
  go_ret2
  exact ⟨rfl, rfl⟩

set_option maxRecDepth 100000 in
set_option maxHeartbeats 8000000 in
theorem rcut_any (file : ByteArray) (hfs : file.size ≤ 65536) (w : World) :
    Calls Tryd.prog 9 #[.string file] w (RPost file w) := by
  have hI : ¬ ((65536 : Int) < (file.size : Int)) := by omega
  have hlen := Lib.size_eq file
  have HLen := Lib.hid hlen; clear hlen
  obtain ⟨i0, hi0, hz0, hz1, hz2⟩ := info_parts piece_info
  have HI := Lib.hid (And.intro hi0 (And.intro hz0 (And.intro hz1 hz2))); clear hi0 hz0 hz1 hz2
  have H0 := Lib.hid (RS.start file w)
  go_enter Tryd.func9, Tryd.ntmps9
  go_wp2_with fail
  go_loopg [4, 5, 6] (file.size + 1) (fun g x4 x5 x6 wx => ∃ i fr : Nat, ∃ ps, i + g = file.size + 1 ∧ x5 = .int .i64 (fr : Nat) ∧ x6 = .int .i64 (i : Nat) ∧ fr ≤ i ∧ ps.length ≤ 2 * i ∧ Hid (RS file w wx x4 ps) ∧ Hid (RCut file ps i fr))
  case atStart => exact ⟨0, 0, [], by omega, rfl, rfl, Nat.le_refl _, by simp, H0, (by show _ = _; rw [if_pos (Nat.zero_le _)]; rfl)⟩
  case round =>
    obtain ⟨i, fr, ps, hig, rfl, rfl, hfr, hpl, HC, HE⟩ := hrel
    clear H0
    by_cases hle : i ≤ file.size
    · have hleI : (i : Int) ≤ (file.size : Int) := by omega
      have HE1 : Hid (cut3 file.data.toList = ps ++ cutR file.data.toList i fr) := by have := HE.out; unfold RCut at this; rw [if_pos hle] at this; exact this
      clear HE
      obtain ⟨b0, k0⟩ : ∃ b, Lib.hasPrefix (file.data.toList.drop i) [60, 63, 61] = b := ⟨_, rfl⟩
      have HA := Lib.hid (at_int file hfs (i : Int) i rfl (by omega) ⟨#[60, 63, 61]⟩ (by decide) (by decide) b0 k0)
      have HK0 := Lib.hid k0
      clear k0
      go_upto_if 21 with (go_at_call 22; refine (HA.out _).mono ?_; rintro e w1 ⟨rfl, rfl⟩)
      go_cut [7, 8] (fun x y wx => TagCut file w u4 ps i x y wx)
      case first =>
        have k0 := HK0.out
        clear HK0
        cases b0 with
        | true =>
          have HT : Hid (tagN (file.data.toList.drop i) = (3, 3)) := by show tagN _ = _; unfold tagN; rw [if_pos k0]
          clear k0
          go_wp2_with fail
          go_meet
          exact ⟨⟨by rw [HT.out]; rfl, by rw [HT.out]; simp⟩, HC.out⟩
        | false =>
          have hT := tagN_php _ k0
          obtain ⟨n, hn⟩ : ∃ n, phpN (file.data.toList.drop i) = n := ⟨_, rfl⟩
          have HP := Lib.hid (php_any file hfs i hle)
          rw [hn] at hT HP
          have hn7 : n ≤ 65536 := by
            rw [← hn]; unfold phpN
            split
            · split
              · omega
              · split
                · omega
                · split <;> omega
            · omega
          clear k0 hn
          by_cases hn0 : n = 0
          · rw [if_pos hn0] at hT
            have HT := Lib.hid hT
            clear hT
            subst hn0
            go_wp2_with fail
            refine (HP.out _).mono ?_; rintro e w1 ⟨rfl, hb1⟩
            go_wp2_with fail
            go_meet
            exact ⟨⟨by rw [HT.out]; rfl, by rw [HT.out]; rfl⟩, HC.out.below hb1⟩
          · rw [if_neg hn0] at hT
            have HT := Lib.hid hT
            have Hn0 := Lib.hid hn0
            have hnp : (0 : Int) < (n : Int) := by omega
            clear hT hn0
            go_wp2_with fail
            refine (HP.out _).mono ?_; rintro e w1 ⟨rfl, hb1⟩
            go_wp2_with fail
            go_meet
            exact ⟨⟨by rw [HT.out]; rfl, by rw [HT.out]; simp only; rw [if_neg Hn0.out]; simp⟩, HC.out.below hb1⟩
      case rest =>
        obtain ⟨⟨rfl, rfl⟩, hc1⟩ := hcut
        have HC1 := Lib.hid hc1
        clear hc1 HC HK0 HA
        obtain ⟨kd, n, hkn⟩ : ∃ kd n, tagN (file.data.toList.drop i) = (kd, n) := ⟨_, _, rfl⟩
        have htz := tagN_zero (file.data.toList.drop i)
        have htl := tagN_len (file.data.toList.drop i)
        have htk := tagN_kind (file.data.toList.drop i)
        rw [List.length_drop, ← HLen.out, hkn] at htl
        rw [hkn] at htz htk ⊢
        simp only at htz htl htk ⊢
        by_cases hn0 : n = 0
        · have hk0 := htz.1 hn0
          subst hn0
          subst hk0
          clear htz htl htk
          by_cases he : i = file.size
          · -- the end of the file
            subst he
            have HE2 : Hid (cut3 file.data.toList = (ps ++ htmlP fr file.size)) := by
              show _ = _; rw [HE1.out, cutR_end (by rw [← HLen.out]; exact Nat.le_refl _), ← HLen.out]
            have HE3 : Hid (RCut file (ps ++ htmlP fr file.size) (file.size + 1) fr) := by
              show _ = _; rw [HE2.out, if_neg (by omega), List.append_nil]
            have hpl2 : (ps ++ htmlP fr file.size).length ≤ 2 * (file.size + 1) := by rw [List.length_append]; unfold htmlP; split <;> simp <;> omega
            clear HE1 HE2 hkn
            by_cases hlt : fr < file.size
            · have hltI : (fr : Int) < (file.size : Int) := by omega
              have hltI2 : (fr : Int) ≤ (file.size : Int) := by omega
              have e : htmlP fr file.size = [⟨1, fr, file.size⟩] := if_pos hlt
              rw [e] at HE3 hpl2
              clear e
              go_wp2_with (at_builtin; refine wpList_append_own _ rfl _ _ 22 rfl w.heap.size 32 i0 (.agg #[.int .i64 0, .string ⟨#[]⟩, .int .i64 0]) 3 32 Tryd.underlying22 HI.out.1 HI.out.2.1 HI.out.2.2.1 HI.out.2.2.2 rfl (by decide) _ _ _ rfl (HC1.out.owns.alloc _) ⟨wc.heap.size, 0, none⟩ 1 1 (pcCells file ⟨1, fr, file.size⟩) rfl rfl (World.news_of_block (cs := (pcCells file ⟨1, fr, file.size⟩).toArray) (t := 32) (fr := (0, 0)) (heap_alloc_new wc _)) (by simp [pcCells, Value.oneCell']) (by unfold maxLen; omega) (by omega) (by have := HC1.out.bel.size; simp; omega) ?_; intro v2 w2 hown2 hgrow2 _; have HC2 := Lib.hid (HC1.out.append hown2 hgrow2); clear hown2 hgrow2)
              go_roundg 0
              case rel => exact ⟨file.size + 1, fr, _, by omega, rfl, by go_num, by omega, hpl2, HC2, HE3⟩
              case measure => omega
            · have hltI : ¬ ((fr : Int) < (file.size : Int)) := by omega
              have e : htmlP fr file.size = [] := if_neg hlt
              rw [e, List.append_nil] at HE3 hpl2
              clear e
              go_wp2_with fail
              go_roundg 0
              case rel => exact ⟨file.size + 1, fr, _, by omega, rfl, by go_num, by omega, hpl2, HC1, HE3⟩
              case measure => omega
          · have HE3 : Hid (RCut file ps (i + 1) fr) := by
              show _ = _; rw [HE1.out, if_pos (by omega), cutR_none (by rw [← HLen.out]; omega) (by rw [hkn])]
            have heI : ((i : Int) == (file.size : Int)) = false := by simp; omega
            clear HE1 hkn
            go_wp2_with fail
            go_roundg (gk - 1)
            case rel => exact ⟨i + 1, fr, _, by omega, rfl, by go_num, by omega, by omega, HC1, HE3⟩
            case measure => omega
        · have hil : i < file.size := by omega
          have HT := Lib.hid (cutR_tag (fr := fr) (by rw [← HLen.out]; exact hil) hkn hn0)
          have hk0 : kd ≠ 0 := fun h => hn0 (htz.2 h)
          have hkp : (0 : Int) < (kd : Int) := by omega
          have hkz : ((kd : Int) == 0) = false := by simp; omega
          rw [if_neg hn0]
          obtain ⟨p, hp⟩ : ∃ p, i + n = p := ⟨_, rfl⟩
          rw [hp] at HT ⊢
          have hps : p ≤ file.size := by omega
          have hip : i < p := by omega
          clear htz hkn hk0 hp htl
          have hpl2 : (ps ++ htmlP fr i).length ≤ 2 * i + 1 := by rw [List.length_append]; unfold htmlP; split <;> simp <;> omega
          go_upto_if 44 with (fail)
          go_cut [4] (fun x wx => HtmlCut file w (ps ++ htmlP fr i) x wx)
          case first =>
            by_cases hlt : fr < i
            · have hltI : (fr : Int) < (i : Int) := by omega
              have hltI2 : (fr : Int) ≤ (i : Int) := by omega
              have e : htmlP fr i = [⟨1, fr, i⟩] := if_pos hlt
              have He := Lib.hid e
              clear e HT
              go_wp2_with (at_builtin; refine wpList_append_own _ rfl _ _ 22 rfl w.heap.size 32 i0 (.agg #[.int .i64 0, .string ⟨#[]⟩, .int .i64 0]) 3 32 Tryd.underlying22 HI.out.1 HI.out.2.1 HI.out.2.2.1 HI.out.2.2.2 rfl (by decide) _ _ _ rfl (HC1.out.owns.alloc _) ⟨wc.heap.size, 0, none⟩ 1 1 (pcCells file ⟨1, fr, i⟩) rfl rfl (World.news_of_block (cs := (pcCells file ⟨1, fr, i⟩).toArray) (t := 32) (fr := (0, 0)) (heap_alloc_new wc _)) (by simp [pcCells, Value.oneCell']) (by unfold maxLen; omega) (by omega) (by have := HC1.out.bel.size; simp; omega) ?_; intro v2 w2 hown2 hgrow2 _; have HC2 := Lib.hid (HC1.out.append hown2 hgrow2); clear hown2 hgrow2)
              go_meet
              show RS _ _ _ _ _
              rw [He.out]
              exact HC2.out
            · have hltI : ¬ ((fr : Int) < (i : Int)) := by omega
              have e : htmlP fr i = [] := if_neg hlt
              have He := Lib.hid e
              clear e HT
              go_wp2_with fail
              go_meet
              show RS _ _ _ _ _
              rw [He.out, List.append_nil]
              exact HC1.out
          case rest =>
            obtain ⟨ps2, hps2⟩ : ∃ ps2, ps ++ htmlP fr i = ps2 := ⟨_, rfl⟩
            obtain ⟨d, hd⟩ : ∃ d, codeN (file.data.toList.drop p) = d := ⟨_, rfl⟩
            have hC2 : RS file w wc _ (ps ++ htmlP fr i) := hcut
            rw [hps2] at hC2 hpl2
            have HE4 : Hid (cut3 file.data.toList = ps2 ++ ⟨kd, p, p + codeN (file.data.toList.drop p)⟩ :: cutR file.data.toList (p + codeN (file.data.toList.drop p) + closeN (file.data.toList.drop (p + codeN (file.data.toList.drop p)))) (p + codeN (file.data.toList.drop p) + closeN (file.data.toList.drop (p + codeN (file.data.toList.drop p))))) := by
              show _ = _; rw [HE1.out, HT.out, ← hps2]; simp
            have HC2 := Lib.hid hC2
            have Hd := Lib.hid hd
            clear hcut HC1 hC2 HE1 HT hps2 hd
            go_wp2_with fail
            go_loopg [10, 11] (file.size - p) (fun g r x wx => ∃ k : Nat, k + g = file.size ∧ p ≤ k ∧ r = .int .i64 (k : Nat) ∧ Hid (CodeAt file p k) ∧ Hid (RS file w wx _ ps2))
            case atStart => exact ⟨p, by omega, Nat.le_refl _, rfl, (by show _ = _; omega), HC2⟩
            case round =>
              obtain ⟨k, hkg, hpk, rfl, HA, HCk⟩ := hrel
              clear HC2
              have hd := Hd.out
              by_cases hk : k < file.size
              · have hkI : (k : Int) < (file.size : Int) := by omega
                obtain ⟨b1, k1⟩ : ∃ b, Lib.hasPrefix (file.data.toList.drop k) [63, 62] = b := ⟨_, rfl⟩
                have HB1 := Lib.hid (at_int file hfs (k : Int) k rfl (by omega) ⟨#[63, 62]⟩ (by decide) (by decide) b1 k1)
                cases b1 with
                | false =>
                  have hst := hidN_step file k hk
                  have hsl := stepN_len (file.data.toList.drop k)
                  rw [List.length_drop, ← HLen.out] at hsl
                  by_cases hm : hidN (file.data.toList.drop k) = 0
                  · rw [if_pos hm] at hst
                    have HN := Lib.hid (code_next HA.out hk k1 hst.symm)
                    have HH : Hid (∀ w : World, Calls Tryd.prog 24 #[.string file, .int .i64 (k : Int)] w fun e w' => e = .returned (.int .i64 (k : Int)) ∧ Below w.heap.size w w') := by
                      intro w
                      have := hidden_any file hfs k hk w
                      unfold HidPost at this
                      rw [hm] at this
                      exact this
                    clear hst hsl hm k1 hd
                    go_wp2_with fail
                    refine (HB1.out _).mono ?_; rintro e w1 ⟨rfl, rfl⟩
                    go_wp2_with fail
                    refine (HH.out _).mono ?_; rintro e w1 ⟨rfl, hb1⟩
                    have HC3 := Lib.hid (HCk.out.below hb1)
                    clear hb1
                    go_wp2_with fail
                    refine (HB1.out _).mono ?_; rintro e w2 ⟨rfl, rfl⟩
                    go_wp2_with fail
                    go_roundg (gk - 1)
                    case rel => exact ⟨k + 1, by omega, by omega, by go_num, HN, HC3⟩
                    case measure => omega
                  · rw [if_neg hm] at hst
                    obtain ⟨m, hmm⟩ : ∃ m, k + hidN (file.data.toList.drop k) = m := ⟨_, rfl⟩
                    have hN := code_next HA.out hk k1 hst.symm
                    rw [hmm] at hN
                    have HN := Lib.hid hN
                    have HH : Hid (∀ w : World, Calls Tryd.prog 24 #[.string file, .int .i64 (k : Int)] w fun e w' => e = .returned (.int .i64 (m : Int)) ∧ Below w.heap.size w w') := by
                      intro w
                      have := hidden_any file hfs k hk w
                      unfold HidPost at this
                      rw [hmm] at this
                      exact this
                    have hms : m ≤ file.size := by omega
                    have hmk : k < m := by omega
                    have gm : ((m : Int) == (k : Int)) = false := by simp; omega
                    clear hst hsl hm k1 hd hmm hN
                    go_wp2_with fail
                    refine (HB1.out _).mono ?_; rintro e w1 ⟨rfl, rfl⟩
                    go_wp2_with fail
                    refine (HH.out _).mono ?_; rintro e w1 ⟨rfl, hb1⟩
                    have HC3 := Lib.hid (HCk.out.below hb1)
                    clear hb1
                    go_wp2_with fail
                    go_roundg (file.size - m)
                    case rel => exact ⟨m, by omega, by omega, rfl, HN, HC3⟩
                    case measure => omega
                | true =>
                  have hend := code_close HA.out k1
                  rw [hd] at hend
                  have hk2 : k + 2 ≤ file.size := by have := pre_le k1; rw [List.length_drop, ← HLen.out] at this; simp only [List.length_cons, List.length_nil] at this; omega
                  obtain ⟨b2, k2⟩ : ∃ b, Lib.hasPrefix (file.data.toList.drop (k + 2)) [13, 10] = b := ⟨_, rfl⟩
                  have HB2 := Lib.hid (at_int file hfs ((k : Int) + 2) (k + 2) (by omega) (by omega) ⟨#[13, 10]⟩ (by decide) (by decide) b2 k2)
                  obtain ⟨b3, k3⟩ : ∃ b, Lib.hasPrefix (file.data.toList.drop (k + 2)) [10] = b := ⟨_, rfl⟩
                  have HB3 := Lib.hid (at_int file hfs ((k : Int) + 2) (k + 2) (by omega) (by omega) ⟨#[10]⟩ (by decide) (by decide) b3 k3)
                  have hpkI : (p : Int) ≤ (k : Int) := by omega
                  cases b2 with
                  | true =>
                    have hcl : closeN (file.data.toList.drop k) = 4 := by unfold closeN; rw [if_pos k1, List.drop_drop, if_pos k2]
                    have hk4 : k + 2 + 2 ≤ file.size := by have := pre_le k2; rw [List.length_drop, ← HLen.out] at this; simp only [List.length_cons, List.length_nil] at this; omega
                    have HE5 : Hid (RCut file (ps2 ++ [⟨kd, p, k⟩]) (k + 2 + 2) (k + 2 + 2)) := by
                      show _ = _
                      rw [HE4.out, hd, show p + d = k by omega, hcl, if_pos hk4]
                      simp
                    clear hcl HE4 k1 k2 k3 hd hend
                    go_wp2_with fail
                    refine (HB1.out _).mono ?_; rintro e w1 ⟨rfl, rfl⟩
                    go_wp2_with (at_builtin; refine wpList_append_own _ rfl _ _ 22 rfl w.heap.size 32 i0 (.agg #[.int .i64 0, .string ⟨#[]⟩, .int .i64 0]) 3 32 Tryd.underlying22 HI.out.1 HI.out.2.1 HI.out.2.2.1 HI.out.2.2.2 rfl (by decide) _ _ _ rfl (HCk.out.owns.alloc _) ⟨wr.heap.size, 0, none⟩ 1 1 (pcCells file ⟨kd, p, k⟩) rfl rfl (World.news_of_block (cs := (pcCells file ⟨kd, p, k⟩).toArray) (t := 32) (fr := (0, 0)) (heap_alloc_new wr _)) (by simp [pcCells, Value.oneCell']) (by unfold maxLen; omega) (by omega) (by have := HCk.out.bel.size; simp; omega) ?_; intro v2 w2 hown2 hgrow2 _; have HC2 := Lib.hid (HCk.out.append hown2 hgrow2); clear hown2 hgrow2)
                    refine (HB2.out _).mono ?_; rintro e w3 ⟨rfl, rfl⟩
                    go_wp2_with fail
                    go_roundg (file.size + 1 - (k + 2 + 2))
                    case rel => exact ⟨k + 2 + 2, k + 2 + 2, _, by omega, by go_num, by go_num, Nat.le_refl _, by rw [List.length_append]; simp; omega, HC2, HE5⟩
                    case measure => omega
                  | false =>
                    cases b3 with
                    | true =>
                      have hcl : closeN (file.data.toList.drop k) = 3 := by unfold closeN; rw [if_pos k1, List.drop_drop, if_neg (by rw [k2]; decide), if_pos k3]
                      have hk4 : k + 2 + 1 ≤ file.size := by have := pre_le k3; rw [List.length_drop, ← HLen.out] at this; simp only [List.length_cons, List.length_nil] at this; omega
                      have HE5 : Hid (RCut file (ps2 ++ [⟨kd, p, k⟩]) (k + 2 + 1) (k + 2 + 1)) := by
                        show _ = _
                        rw [HE4.out, hd, show p + d = k by omega, hcl, if_pos hk4]
                        simp
                      clear hcl HE4 k1 k2 k3 hd hend
                      go_wp2_with fail
                      refine (HB1.out _).mono ?_; rintro e w1 ⟨rfl, rfl⟩
                      go_wp2_with (at_builtin; refine wpList_append_own _ rfl _ _ 22 rfl w.heap.size 32 i0 (.agg #[.int .i64 0, .string ⟨#[]⟩, .int .i64 0]) 3 32 Tryd.underlying22 HI.out.1 HI.out.2.1 HI.out.2.2.1 HI.out.2.2.2 rfl (by decide) _ _ _ rfl (HCk.out.owns.alloc _) ⟨wr.heap.size, 0, none⟩ 1 1 (pcCells file ⟨kd, p, k⟩) rfl rfl (World.news_of_block (cs := (pcCells file ⟨kd, p, k⟩).toArray) (t := 32) (fr := (0, 0)) (heap_alloc_new wr _)) (by simp [pcCells, Value.oneCell']) (by unfold maxLen; omega) (by omega) (by have := HCk.out.bel.size; simp; omega) ?_; intro v2 w2 hown2 hgrow2 _; have HC2 := Lib.hid (HCk.out.append hown2 hgrow2); clear hown2 hgrow2)
                      refine (HB2.out _).mono ?_; rintro e w3 ⟨rfl, rfl⟩
                      go_wp2_with fail
                      refine (HB3.out _).mono ?_; rintro e w3 ⟨rfl, rfl⟩
                      go_wp2_with fail
                      go_roundg (file.size + 1 - (k + 2 + 1))
                      case rel => exact ⟨k + 2 + 1, k + 2 + 1, _, by omega, by go_num, by go_num, Nat.le_refl _, by rw [List.length_append]; simp; omega, HC2, HE5⟩
                      case measure => omega
                    | false =>
                      have hcl : closeN (file.data.toList.drop k) = 2 := by unfold closeN; rw [if_pos k1, List.drop_drop, if_neg (by rw [k2]; decide), if_neg (by rw [k3]; decide)]
                      have HE5 : Hid (RCut file (ps2 ++ [⟨kd, p, k⟩]) (k + 2) (k + 2)) := by
                        show _ = _
                        rw [HE4.out, hd, show p + d = k by omega, hcl, if_pos hk2]
                        simp
                      clear hcl HE4 k1 k2 k3 hd hend
                      go_wp2_with fail
                      refine (HB1.out _).mono ?_; rintro e w1 ⟨rfl, rfl⟩
                      go_wp2_with (at_builtin; refine wpList_append_own _ rfl _ _ 22 rfl w.heap.size 32 i0 (.agg #[.int .i64 0, .string ⟨#[]⟩, .int .i64 0]) 3 32 Tryd.underlying22 HI.out.1 HI.out.2.1 HI.out.2.2.1 HI.out.2.2.2 rfl (by decide) _ _ _ rfl (HCk.out.owns.alloc _) ⟨wr.heap.size, 0, none⟩ 1 1 (pcCells file ⟨kd, p, k⟩) rfl rfl (World.news_of_block (cs := (pcCells file ⟨kd, p, k⟩).toArray) (t := 32) (fr := (0, 0)) (heap_alloc_new wr _)) (by simp [pcCells, Value.oneCell']) (by unfold maxLen; omega) (by omega) (by have := HCk.out.bel.size; simp; omega) ?_; intro v2 w2 hown2 hgrow2 _; have HC2 := Lib.hid (HCk.out.append hown2 hgrow2); clear hown2 hgrow2)
                      refine (HB2.out _).mono ?_; rintro e w3 ⟨rfl, rfl⟩
                      go_wp2_with fail
                      refine (HB3.out _).mono ?_; rintro e w3 ⟨rfl, rfl⟩
                      go_wp2_with fail
                      go_roundg (file.size + 1 - (k + 2))
                      case rel => exact ⟨k + 2, k + 2, _, by omega, by go_num, by go_num, Nat.le_refl _, by rw [List.length_append]; simp; omega, HC2, HE5⟩
                      case measure => omega
              · obtain rfl : k = file.size := by omega
                have hend := code_all HA.out (Nat.le_refl _)
                rw [hd] at hend
                have hpkI : (p : Int) ≤ (file.size : Int) := by omega
                have HE5 : Hid (cut3 file.data.toList = ps2 ++ [⟨kd, p, file.size⟩]) := by
                  show _ = _
                  have hnil : file.data.toList.drop file.size = [] := List.drop_eq_nil_of_le (by rw [← HLen.out]; exact Nat.le_refl _)
                  rw [HE4.out, hd, show p + d = file.size by omega, hnil, show closeN [] = 0 from rfl, cutR_end (by rw [← HLen.out]; exact Nat.le_refl _)]
                  unfold htmlP
                  rw [← HLen.out, if_neg (by omega)]
                clear HE4 hd hend
                go_wp2_with (at_builtin; refine wpList_append_own _ rfl _ _ 22 rfl w.heap.size 32 i0 (.agg #[.int .i64 0, .string ⟨#[]⟩, .int .i64 0]) 3 32 Tryd.underlying22 HI.out.1 HI.out.2.1 HI.out.2.2.1 HI.out.2.2.2 rfl (by decide) _ _ _ rfl (HCk.out.owns.alloc _) ⟨wr.heap.size, 0, none⟩ 1 1 (pcCells file ⟨kd, p, file.size⟩) rfl rfl (World.news_of_block (cs := (pcCells file ⟨kd, p, file.size⟩).toArray) (t := 32) (fr := (0, 0)) (heap_alloc_new wr _)) (by simp [pcCells, Value.oneCell']) (by unfold maxLen; omega) (by omega) (by have := HCk.out.bel.size; simp; omega) ?_; intro v2 w2 hown2 hgrow2 _; have HC2 := Lib.hid (HCk.out.append hown2 hgrow2); clear hown2 hgrow2)
                go_ret2
                exact ⟨_, rfl, by unfold PiecesAt; rw [HE5.out]; exact HC2.out.owns, HC2.out.bel⟩
    · have hleI : ¬ ((i : Int) ≤ (file.size : Int)) := by omega
      have HE1 : Hid (cut3 file.data.toList = ps) := by have := HE.out; unfold RCut at this; rw [if_neg hle, List.append_nil] at this; exact this
      go_wp2_with fail
      go_ret2
      exact ⟨_, rfl, by unfold PiecesAt; rw [HE1.out]; exact HC.out.owns, HC.out.bel⟩
end Go.Proofs.YtohbbgghkinnhaaDoor
