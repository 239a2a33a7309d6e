import Derived.Test.YtgpemnmopogppaaGreatDoorZDpEQ
import Derived.Test.YtgpemnmopogppaaGreatDoorZUrDaQ
set_option maxRecDepth 1000000
set_option maxHeartbeats 16000000
namespace Go.Proofs.YtgpemnmopogppaaGreatDoor
open Go.Proofs.Tryz
open Go Go.RowKit
namespace Uf
open Ut
def findAt (l : List UInt8) (c : UInt8) (i : Nat) : Int := if c ∈ l.drop i then ((i + (cutL c (l.drop i)).1.length : Nat) : Int) else -1
theorem findAt_hit (l : List UInt8) (c : UInt8) (i : Nat) (h : i < l.length) (hc : l[i] = c) : findAt l c i = (i : Int) := by
 unfold findAt
 rw [List.drop_eq_getElem_cons h, hc, if_pos (List.mem_cons_self ..)]
 simp [cutL]
theorem findAt_miss (l : List UInt8) (c : UInt8) (i : Nat) (h : i < l.length) (hc : ¬ l[i] = c) : findAt l c i = findAt l c (i + 1) := by
 unfold findAt
 rw [List.drop_eq_getElem_cons h]
 have hx : (l[i] != c) = true := bne_iff_ne.2 hc
 by_cases hm : c ∈ l.drop (i + 1)
 · rw [if_pos (List.mem_cons_of_mem _ hm), if_pos hm, cutL, List.takeWhile_cons, if_pos hx]
   simp [cutL]
   omega
 · rw [if_neg (fun h => (List.mem_cons.1 h).elim (fun e => hc e.symm) hm), if_neg hm]
theorem findAt_end (l : List UInt8) (c : UInt8) (i : Nat) (h : l.length ≤ i) : findAt l c i = -1 := by
 unfold findAt
 rw [List.drop_eq_nil_of_le h]
 simp
theorem find_any (l : List UInt8) (hl : l.length ≤ 4611686018427387904) (c : UInt8) (i : Nat) (w : World) :
  Calls prog 30 #[.string (mkB l), .int .u8 (c.toNat : Int), .int .i64 (i : Int)] w fun e w' => e = .returned (.int .i64 (findAt l c i)) ∧ w = w' := by
 obtain ⟨F, hF⟩ : ∃ z, findAt l c i = z := ⟨_, rfl⟩
 have HF := lH hF
 rw [hF]
 have hsz := mkB_size l
 have HG := lH (fun (j : Nat) (h : j < (mkB l).size) (h2 : j < l.length) => show (mkB l)[j]'h = l[j] from by simp [mkB, ByteArray.getElem_eq_getElem_data])
 have HZ := lH hsz
 clear hF hsz
 generalize mkB l = s at *
 have hsl : s.size ≤ 4611686018427387904 := by have := HZ.out; omega
 go_enter func30, ntmps30
 go_wp2_with fail
 go_loopw [7] (fun x wx => w = wx ∧ ∃ j : Nat, i ≤ j ∧ x = .int .i64 j ∧ Hid (findAt l c j = F)) (fun x _ => s.size - (ixO x).toNat)
 case atStart => exact ⟨rfl, i, Nat.le_refl _, rfl, HF⟩
 case round =>
  obtain ⟨rfl, j, hij, rfl, HJ⟩ := hrel
  clear HF
  by_cases hlt : j < s.size
  · have hI : (j : Int) < (s.size : Int) := by omega
    have hlt2 : j < l.length := by rw [← HZ.out]; exact hlt
    have hsj := HG.out j hlt hlt2
    by_cases hc : l[j] = c
    · have hF : F = (j : Int) := by rw [← HJ.out, findAt_hit l c j hlt2 hc]
      subst hF
      have hcc : s[j] = c := hsj.trans hc
      have hc2 : (s[j].toNat : Int) = (c.toNat : Int) := by rw [hcc]
      clear hsj hc hcc HJ HG
      go_wp2_with fail
      go_ret
      exact ⟨rfl, rfl⟩
    · have HN := lH ((findAt_miss l c j hlt2 hc).symm.trans HJ.out)
      have hc2 : ((s[j].toNat : Int) == (c.toNat : Int)) = false := by
       rw [beq_eq_false_iff_ne]
       intro e
       exact hc (by rw [← hsj, ← UInt8.toNat_inj]; omega)
      clear hsj hc HJ HG
      go_wp2_with fail
      go_roundw
      case rel => exact ⟨by trivial, j + 1, by omega, by go_num, HN⟩
      case measure => simp [ixO] <;> omega
  · have hF : F = -1 := by rw [← HJ.out, findAt_end l c j (by have := HZ.out; omega)]
    subst hF
    have hI : ¬ (j : Int) < (s.size : Int) := by omega
    clear HJ HG
    go_wp2_with fail
    go_ret
    exact ⟨rfl, rfl⟩
end Uf
open Go Go.RowKit
namespace Uf
open Ut
open Url (RowB row_back row_slice)
theorem bar_take_len {l : List UInt8} {j : Nat} (h : j ≤ l.length) : ((l.take j).map barC).length = j := by simp; omega
theorem bar_succ (l : List UInt8) (j : Nat) (h : j < l.length) : (l.take (j + 1)).map barC = (l.take j).map barC ++ [barC l[j]] := by
 rw [List.take_succ_eq_append_getElem h, List.map_append]
 rfl
theorem head_at (l : List UInt8) : (l.take (cutL 91 l).1.length).map barC = headL l := by
 unfold headL cutL
 simp only
 congr 1
 have h := List.takeWhile_append_dropWhile (p := (· != 91)) (l := l)
 conv => lhs; arg 2; rw [← h]
 exact List.take_left
theorem rest_at (l : List UInt8) : l.drop (cutL 91 l).1.length = restL l := by
 unfold restL cutL
 simp only
 have h := List.takeWhile_append_dropWhile (p := (· != 91)) (l := l)
 conv => lhs; arg 2; rw [← h]
 exact List.drop_left
theorem head_none (l : List UInt8) (h : 91 ∉ l) : (cutL 91 l).1.length = l.length := by
 unfold cutL
 rw [(takeWhile_all 91 l h).1]
theorem step_at (l : List UInt8) (a : Nat) (h : a < l.length) (h91 : l[a] = 91) (h93 : 0 ≤ findAt l 93 a) :
  93 ∈ l.drop (a + 1) ∧ findAt l 93 a = ((a + 1 + (cutL 93 (l.drop (a + 1))).1.length : Nat) : Int) ∧ stepsL (l.drop a) = (cutL 93 (l.drop (a + 1))).1 :: stepsL (l.drop (a + 1 + (cutL 93 (l.drop (a + 1))).1.length + 1)) ∧ a + 1 + (cutL 93 (l.drop (a + 1))).1.length < l.length
   ∧ (mkB l).extract (a + 1) (a + 1 + (cutL 93 (l.drop (a + 1))).1.length) = mkB (cutL 93 (l.drop (a + 1))).1 := by
 have hm := findAt_miss l 93 a h (by rw [h91]; decide)
 have hmem : 93 ∈ l.drop (a + 1) := by
  rw [hm] at h93
  unfold findAt at h93
  split at h93
  · assumption
  · exact absurd h93 (by decide)
 have hf : findAt l 93 (a + 1) = ((a + 1 + (cutL 93 (l.drop (a + 1))).1.length : Nat) : Int) := by unfold findAt; rw [if_pos hmem]
 have hlen := Up.cutL_len 93 _ hmem
 rw [List.length_drop] at hlen
 obtain ⟨x, y, hxy, hx⟩ := Up.mem_split 93 _ hmem
 have hc := cutL_at 93 x y hx
 rw [← hxy] at hc
 refine ⟨hmem, by rw [hm, hf], ?_, by omega, ?_⟩
 · rw [List.drop_eq_getElem_cons h, h91, Up.steps_go _ hmem, hc]
   congr 2
   have : l.drop (a + 1 + x.length + 1) = (l.drop (a + 1)).drop (x.length + 1) := by rw [List.drop_drop]; congr 1
   show y = l.drop (a + 1 + x.length + 1)
   rw [this, hxy]
   simp
 · apply ByteArray.ext
   rw [← Array.toList_inj, hc]
   have hd : l.drop (a + 1) = x ++ 93 :: y := hxy
   simp [mkB]
   rw [hd]
   simp
theorem stop_at (l : List UInt8) (a : Nat) (h : ¬ (a < l.length ∧ (l.drop a).head? = some 91 ∧ 0 ≤ findAt l 93 a)) : stepsL (l.drop a) = [] := by
 refine Up.steps_end _ fun hc => h ⟨?_, hc.1, ?_⟩
 · refine Nat.lt_of_not_le fun hn => ?_
   rw [List.drop_eq_nil_of_le hn] at hc
   cases hc.1
 · unfold findAt
   rw [if_pos hc.2]
   omega
theorem rows_ne {w : World} {B B' n n' : Nat} {e e' : TypeId} {v v' : Value} {xs xs' : List Value} (h : w.ownsRow B e 1 v n xs) (h' : w.ownsRow B' e' 1 v' n' xs') (hne : e ≠ e') : v.ownBlock = none ∨ v.ownBlock ≠ v'.ownBlock := by
 rcases h.2 with ⟨rfl, _⟩ | ⟨g, cap, cur, rfl, _, hg, _⟩
 · exact .inl rfl
 · refine .inr fun e1 => ?_
   rcases h'.2 with ⟨rfl, _⟩ | ⟨g', cap', cur', rfl, _, hg', _⟩
   · cases e1
   · injection e1 with e1
     subst e1
     rw [hg] at hg'
     injection hg' with hg'
     injection hg' with _ h2
     exact hne h2
def PathP (w : World) (l : List UInt8) (e : Ending) (w' : World) : Prop := ∃ A c, e = .returned (.tuple #[.string (mkB (headL l)), .slice A (stepsL (restL l)).length c]) ∧ w'.ownsRow w.heap.size 9 1 (.slice A (stepsL (restL l)).length c) (stepsL (restL l)).length ((stepsL (restL l)).map fun p => .string (mkB p)) ∧ Below w.heap.size w w'
theorem path_any (l : List UInt8) (hl : l.length ≤ 16777216) (w : World) :
  Calls prog 70 #[.string (mkB l)] w fun e w' => PathP w l e w' := by
 obtain ⟨i0, hi0, hz0, hz1, hz2⟩ := info_parts Url.u8_info
 have HU := lH (And.intro hi0 (And.intro hz0 (And.intro hz1 hz2)))
 obtain ⟨i1, hj0, hj1, hj2, hj3⟩ := info_parts Up.str_info
 have HI1 := lH (And.intro hj0 (And.intro hj1 (And.intro hj2 hj3)))
 clear hi0 hz0 hz1 hz2 hj0 hj1 hj2 hj3
 have HF := lH (fun (c : UInt8) (i : Nat) (wz : World) => find_any l (by omega) c i wz)
 have hsz := mkB_size l
 have HG := lH (fun (j : Nat) (h : j < (mkB l).size) (h2 : j < l.length) => show (mkB l)[j]'h = l[j] from by simp [mkB, ByteArray.getElem_eq_getElem_data])
 have HSt := lH (step_at l)
 have HF0 := lH (HF.out 91 0)
 obtain ⟨E, hE⟩ : ∃ z, (cutL 91 l).1.length = z := ⟨_, rfl⟩
 have hEl : E ≤ l.length := by rw [← hE]; exact (List.takeWhile_sublist _).length_le
 have HR1 : Hid (stepsL (restL l) = stepsL (l.drop E)) := by show _ = _; rw [← hE, rest_at]
 have HH1 : Hid (headL l = (l.take E).map barC) := by show _ = _; rw [← hE, head_at]
 have HE1 : Hid ((findAt l 91 0 = (E : Int)) ∨ findAt l 91 0 < 0 ∧ E = l.length) := by
  show _ ∨ _
  unfold findAt
  rw [List.drop_zero]
  split
  · rw [hE]; exact .inl (by omega)
  · rename_i h
    exact .inr ⟨by decide, by rw [← hE, head_none l h]⟩
 obtain ⟨S, hS⟩ : ∃ z, mkB l = z := ⟨_, rfl⟩
 rw [hS] at HF HF0 HG HSt hsz ⊢
 have HZ := lH hsz
 have hSs : S.size ≤ 16777216 := by omega
 clear hE hS hsz
 generalize findAt l 91 0 = f0 at *
 go_enter func70, ntmps70
 go_upto_if 13 with (go_at_call 30; refine (HF0.out _).mono ?_; rintro e w1 ⟨rfl, rfl⟩)
 go_cut [4] from 14 to 15 (fun x4 wx => x4 = .int .i64 (E : Int) ∧ w = wx)
 case first =>
  rcases HE1.out with hf | ⟨hf, he⟩
  · subst hf
    have h0 : decide ((E : Int) < 0) = false := decide_eq_false (by omega)
    clear HE1 HF HG HSt
    go_wp2_with fail
    go_meet
    case rel => exact ⟨by trivial, by trivial⟩
  · have hES : E = S.size := by have := HZ.out; omega
    subst hES
    clear HE1 HF HG HSt
    go_wp2_with fail
    go_meet
    case rel => exact ⟨by rw [HZ.out], rfl⟩
 case rest =>
  obtain ⟨rfl, rfl⟩ := hcut
  clear HE1 HF0
  have HI0 : Hid (RowB w.heap.size (.slice none 0 0) ((l.take 0).map barC) w) := World.ownsRow_nil w w.heap.size 5 1
  have HB0 := lH (Below.refl w.heap.size w)
  go_wp2_with fail
  go_loopw [5, 6] (fun x5 x6 wx => ∃ (j : Nat) (v : Value), j ≤ E ∧ x6 = .int .i64 j ∧ x5 = v ∧ Hid (RowB w.heap.size v ((l.take j).map barC) wx) ∧ Hid (Below w.heap.size w wx)) (fun _ x6 _ => E - (ixO x6).toNat)
  case atStart => exact ⟨0, _, Nat.zero_le _, rfl, rfl, HI0, HB0⟩
  case round =>
   obtain ⟨j, v, hj, rfl, rfl, HI, HB⟩ := hrel
   clear HI0 HB0
   by_cases hlt : j < E
   · have hj0 : j ≤ l.length := by omega
     have hjl : j < l.length := by omega
     have hjS : j < S.size := by have := HZ.out; omega
     have hI : (j : Int) < (E : Int) := by omega
     have hjI : (j : Int) < (S.size : Int) := by omega
     have hsucc := bar_succ l j hjl
     rw [← HG.out j hjS hjl] at hsucc
     clear HF HG HSt
     by_cases h32 : S[j].toNat = 32
     · have hbc : barC S[j] = 95 := by unfold barC; rw [if_pos (by rw [← UInt8.toNat_inj, ← UInt8.toNat_inj]; exact .inl h32)]
       rw [hbc] at hsucc
       have hx : (S[j].toNat : Int) = 32 := by omega
       clear hbc h32
       have HN : Hid (∀ w1 v, w1.ownsRow w.heap.size 5 1 v (((l.take j).map barC).length + 1) (Lib.byteCells ((l.take j).map barC) ++ [.int .u8 95]) → RowB w.heap.size v ((l.take (j + 1)).map barC) w1) := by
        intro w1 v h
        unfold RowB
        rw [hsucc, Lib.byteCells_append, List.length_append]
        exact h
       clear hsucc
       go_wp2_with (at_builtin; refine wpList_append_own _ rfl _ _ 71 rfl w.heap.size 5 i0 (.int .u8 0) 1 1 underlying71 HU.out.1 HU.out.2.1 HU.out.2.2.1 HU.out.2.2.2 rfl (by decide) _ _ _ rfl (HI.out.alloc _) ⟨wr.heap.size, 0, none⟩ 1 1 [.int .u8 95] rfl rfl (World.news_of_block (cs := ([.int .u8 95]).toArray) (t := 5) (fr := (0, 0)) (heap_alloc_new wr _)) (by simp [Value.oneCell']) (by rw [bar_take_len hj0]; unfold maxLen; omega) (by rw [bar_take_len hj0]; omega) (by have := HB.out.size; simp; omega) ?_; intro v' w2 hown hgr _)
       have HN2 := lH (HN.out _ _ hown)
       have HB2 := lH ((HB.out.alloc HB.out.size (.cells #[.int .u8 95] 5)).grown hgr (by have := HB.out.size; simp; omega) (fun k hk => (HI.out.lt k hk).1))
       clear hown hgr
       go_wp2_with fail
       go_roundw
       case rel => exact ⟨j + 1, _, by omega, by go_num, rfl, HN2, HB2⟩
       case measure => simp [ixO] <;> omega
     · by_cases h46 : S[j].toNat = 46
       · have hx32 : ((S[j].toNat : Int) == 32) = false := by rw [beq_eq_false_iff_ne]; omega
         have hbc : barC S[j] = 95 := by unfold barC; rw [if_pos (by rw [← UInt8.toNat_inj, ← UInt8.toNat_inj]; exact .inr h46)]
         rw [hbc] at hsucc
         have hx : (S[j].toNat : Int) = 46 := by omega
         clear hbc h46 h32
         have HN : Hid (∀ w1 v, w1.ownsRow w.heap.size 5 1 v (((l.take j).map barC).length + 1) (Lib.byteCells ((l.take j).map barC) ++ [.int .u8 95]) → RowB w.heap.size v ((l.take (j + 1)).map barC) w1) := by
          intro w1 v h
          unfold RowB
          rw [hsucc, Lib.byteCells_append, List.length_append]
          exact h
         clear hsucc
         go_wp2_with (at_builtin; refine wpList_append_own _ rfl _ _ 71 rfl w.heap.size 5 i0 (.int .u8 0) 1 1 underlying71 HU.out.1 HU.out.2.1 HU.out.2.2.1 HU.out.2.2.2 rfl (by decide) _ _ _ rfl (HI.out.alloc _) ⟨wr.heap.size, 0, none⟩ 1 1 [.int .u8 95] rfl rfl (World.news_of_block (cs := ([.int .u8 95]).toArray) (t := 5) (fr := (0, 0)) (heap_alloc_new wr _)) (by simp [Value.oneCell']) (by rw [bar_take_len hj0]; unfold maxLen; omega) (by rw [bar_take_len hj0]; omega) (by have := HB.out.size; simp; omega) ?_; intro v' w2 hown hgr _)
         have HN2 := lH (HN.out _ _ hown)
         have HB2 := lH ((HB.out.alloc HB.out.size (.cells #[.int .u8 95] 5)).grown hgr (by have := HB.out.size; simp; omega) (fun k hk => (HI.out.lt k hk).1))
         clear hown hgr
         go_wp2_with fail
         go_roundw
         case rel => exact ⟨j + 1, _, by omega, by go_num, rfl, HN2, HB2⟩
         case measure => simp [ixO] <;> omega
       · have hbc : barC S[j] = S[j] := by unfold barC; rw [if_neg]; rintro (h | h); exact h32 (by rw [h]; rfl); exact h46 (by rw [h]; rfl)
         rw [hbc] at hsucc
         have hx32 : ((S[j].toNat : Int) == 32) = false := by rw [beq_eq_false_iff_ne]; omega
         have hx46 : ((S[j].toNat : Int) == 46) = false := by rw [beq_eq_false_iff_ne]; omega
         clear hbc h32 h46
         have HN : Hid (∀ w1 v, w1.ownsRow w.heap.size 5 1 v (((l.take j).map barC).length + 1) (Lib.byteCells ((l.take j).map barC) ++ [.int .u8 (S[j].toNat : Int)]) → RowB w.heap.size v ((l.take (j + 1)).map barC) w1) := by
          intro w1 v h
          unfold RowB
          rw [hsucc, Lib.byteCells_append, List.length_append]
          exact h
         clear hsucc
         go_wp2_with (at_builtin; refine wpList_append_own _ rfl _ _ 71 rfl w.heap.size 5 i0 (.int .u8 0) 1 1 underlying71 HU.out.1 HU.out.2.1 HU.out.2.2.1 HU.out.2.2.2 rfl (by decide) _ _ _ rfl (HI.out.alloc _) ⟨wr.heap.size, 0, none⟩ 1 1 [.int .u8 (S[j].toNat : Int)] rfl rfl (World.news_of_block (cs := ([.int .u8 (S[j].toNat : Int)]).toArray) (t := 5) (fr := (0, 0)) (heap_alloc_new wr _)) (by simp [Value.oneCell']) (by rw [bar_take_len hj0]; unfold maxLen; omega) (by rw [bar_take_len hj0]; omega) (by have := HB.out.size; simp; omega) ?_; intro v' w2 hown hgr _)
         have HN2 := lH (HN.out _ _ hown)
         have HB2 := lH ((HB.out.alloc HB.out.size (.cells #[.int .u8 (S[j].toNat : Int)] 5)).grown hgr (by have := HB.out.size; simp; omega) (fun k hk => (HI.out.lt k hk).1))
         clear hown hgr
         go_wp2_with fail
         go_roundw
         case rel => exact ⟨j + 1, _, by omega, by go_num, rfl, HN2, HB2⟩
         case measure => simp [ixO] <;> omega
   · obtain rfl : j = E := by omega
     have hI : ¬ (j : Int) < (j : Int) := by omega
     clear hlt hj hI
     obtain ⟨T0, hT0⟩ : ∃ z : ByteArray, (⟨((l.take j).map barC).toArray⟩ : ByteArray) = z := ⟨_, rfl⟩
     have HT0 := lH hT0
     clear hT0
     have HO0 := lH (World.ownsRow_nil wr w.heap.size 9 1)
     go_wp2_with fail
     go_loopw [7, 8] (fun x7 x8 wx => ∃ (a : Nat) (ss : List (List UInt8)) (A : Option Addr) (c : Nat), a ≤ l.length ∧ ss.length ≤ a ∧ x8 = .int .i64 a ∧ x7 = .slice A ss.length c ∧ Hid (stepsL (l.drop j) = ss ++ stepsL (l.drop a)) ∧ Hid (wx.ownsRow w.heap.size 9 1 (.slice A ss.length c) ss.length (ss.map fun p => .string (mkB p))) ∧ Hid (RowB w.heap.size u5 ((l.take j).map barC) wx) ∧ Hid (Below w.heap.size w wx)) (fun _ x8 _ => l.length - (ixO x8).toNat)
     case atStart => exact ⟨j, [], none, 0, hEl, Nat.zero_le _, rfl, rfl, rfl, HO0, HI, HB⟩
     case round =>
      clear HO0 HI HB
      obtain ⟨a, ss, A, c, ha, hsa, rfl, rfl, HS, HO, HR, HB⟩ := hrel
      by_cases hlt : a < l.length
      · have haS : a < S.size := by have := HZ.out; omega
        have haI : (a : Int) < (S.size : Int) := by omega
        have hSa := HG.out a haS hlt
        have hhd : (l.drop a).head? = some l[a] := by rw [List.drop_eq_getElem_cons hlt]; rfl
        by_cases h91 : l[a] = 91
        · have hx : (S[a].toNat : Int) = 91 := by rw [hSa, h91]; rfl
          have HFa := lH (HF.out 93 a)
          by_cases h93 : 0 ≤ findAt l 93 a
          · obtain ⟨hm, hf, hst, hl2, hex⟩ := HSt.out a hlt h91 h93
            have HSn : Hid (stepsL (l.drop j) = (ss ++ [(cutL 93 (l.drop (a + 1))).1]) ++ stepsL (l.drop (a + 1 + (cutL 93 (l.drop (a + 1))).1.length + 1))) := by
             show _ = _
             rw [HS.out, hst]
             simp
            have Hf := lH hf
            have h930 : ¬ findAt l 93 a < 0 := by omega
            clear hst hm HS HSt HF HG hhd hSa h93 hf
            rw [Hf.out] at HFa
            generalize hq : (cutL 93 (l.drop (a + 1))).1.length = q at *
            generalize (cutL 93 (l.drop (a + 1))).1 = st at *
            have hq0 : ¬ ((a + 1 + q : Nat) : Int) < 0 := by omega
            have hw1 : IntKind.i64.wrap ((a : Int) + 1) = ((a + 1 : Nat) : Int) := by rw [IntWalk.i64_in _ (by omega)]; omega
            have hw2 : IntKind.i64.wrap (((a + 1 + q : Nat) : Int) + 1) = ((a + 1 + q + 1 : Nat) : Int) := by rw [IntWalk.i64_in _ (by omega)]; omega
            have hq1 : a + 1 + q ≤ S.size := by have := HZ.out; omega
            have HRa := lH (show RowB w.heap.size u5 ((l.take j).map barC) (wr.alloc (.cells #[.string (mkB st)] 9)) from HR.out.alloc _)
            clear hq Hf h930
            go_wp2_with (first | (go_at_call 30; refine (HFa.out _).mono ?_; rintro e w1 ⟨rfl, rfl⟩) | (at_builtin; refine wpList_append_own _ rfl _ _ 57 rfl w.heap.size 9 i1 (.string ⟨#[]⟩) 1 16 underlying57 HI1.out.1 HI1.out.2.1 HI1.out.2.2.1 HI1.out.2.2.2 rfl (by decide) _ _ _ rfl (HO.out.alloc _) ⟨wr.heap.size, 0, none⟩ 1 1 [.string (mkB st)] rfl rfl (Up.one_new _ _ _) (by intro u hu; simp at hu; subst hu; rfl) (by unfold maxLen; omega) (by omega) (by have := HB.out.size; simp; omega) ?_; intro v' w3 hown3 hg3 _))
            obtain ⟨A3, c3, rfl⟩ : ∃ A3 c3, v' = .slice A3 (ss.length + 1) c3 := by
             rcases hown3.2 with ⟨e, h0⟩ | ⟨g, cap, cur, e, _⟩
             · exact absurd h0 (by omega)
             · exact ⟨_, _, e⟩
            have HO3 := lH hown3
            have HR3 : Hid (RowB w.heap.size u5 ((l.take j).map barC) w3) := HRa.out.kept hg3 (rows_ne HRa.out (HO.out.alloc (.cells #[.string (mkB st)] 9)) (by decide))
            have HB3 := lH ((HB.out.alloc HB.out.size _).grown hg3 (by have := HB.out.size; simp; omega) (fun g e => (HO.out.lt g e).1))
            clear hown3 hg3 HO HB HR HRa
            go_roundw
            case rel => exact ⟨a + 1 + q + 1, ss ++ [st], A3, c3, by omega, by simp; omega, by go_num, by simp, HSn, lH (by simpa using HO3.out), lH (by simpa using HR3.out), HB3⟩
            case measure => simp [ixO] <;> omega
          · have Hss : Hid (stepsL (l.drop j) = ss) := by
             show _ = _
             rw [HS.out, stop_at l a (fun h => h93 h.2.2), List.append_nil]
            have h930 : findAt l 93 a < 0 := by omega
            clear h93 HS HSt HF HG hhd hSa
            generalize findAt l 93 a = f1 at *
            have hback := row_back HR.out
            rw [HT0.out] at hback
            go_wp2_with (go_at_call 30; refine (HFa.out _).mono ?_; rintro e w1 ⟨rfl, rfl⟩)
            go_ret2
            unfold PathP
            rw [HR1.out, Hss.out, HH1.out, show mkB ((l.take j).map barC) = T0 from HT0.out]
            exact ⟨A, c, rfl, HO.out, HB.out⟩
        · have Hss : Hid (stepsL (l.drop j) = ss) := by
           show _ = _
           rw [HS.out, stop_at l a (fun h => h91 (by have h2 := h.2.1; rw [hhd] at h2; injection h2)), List.append_nil]
          have hx : ((S[a].toNat : Int) == 91) = false := by
           rw [beq_eq_false_iff_ne, hSa]
           intro e
           exact h91 (by rw [← UInt8.toNat_inj]; exact_mod_cast e)
          clear h91 HS HSt HF HG hhd hSa
          have hback := row_back HR.out
          rw [HT0.out] at hback
          go_wp2_with fail
          go_ret2
          unfold PathP
          rw [HR1.out, Hss.out, HH1.out, show mkB ((l.take j).map barC) = T0 from HT0.out]
          exact ⟨A, c, rfl, HO.out, HB.out⟩
      · have Hss : Hid (stepsL (l.drop j) = ss) := by
         show _ = _
         rw [HS.out, stop_at l a (fun h => hlt h.1), List.append_nil]
        have haI : ¬ (a : Int) < (S.size : Int) := by have := HZ.out; omega
        clear HS HSt HF HG
        have hback := row_back HR.out
        rw [HT0.out] at hback
        go_wp2_with fail
        go_ret2
        unfold PathP
        rw [HR1.out, Hss.out, HH1.out, show mkB ((l.take j).map barC) = T0 from HT0.out]
        exact ⟨A, c, rfl, HO.out, HB.out⟩
end Uf
end Go.Proofs.YtgpemnmopogppaaGreatDoor
