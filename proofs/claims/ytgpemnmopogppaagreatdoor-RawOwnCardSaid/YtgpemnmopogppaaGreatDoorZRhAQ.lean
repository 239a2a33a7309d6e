import Derived.Test.YtgpemnmopogppaaGreatDoorChecked
import Derived.Lib.Hide
import Derived.ProofKit
import Derived.Laws.IdiomStrings
import Derived.WalkKit
import Derived.Deep.QuietTactic
import Derived.BigQuiet
import Derived.Lib.Strings
import Derived.Test.YtgpemnmopogppaaGreatDoorZWordsQ
import Derived.Deep.RegionLaw
set_option maxRecDepth 1000000
set_option maxHeartbeats 16000000
namespace Go.Proofs.YtgpemnmopogppaaGreatDoor
open Go.Proofs.Tryz
open Go.RowKit
abbrev Bytes := List UInt8
def ixOf : Value → Int
 | .int _ q => q
 | _ => 0
theorem drewN' {B : Nat} {w w' : World} (h : Below B w w') (n : Nat) : Below B w (w'.drewN n) := ⟨h.os, h.tape, h.output, h.size, h.block⟩
def lowB (c : UInt8) : UInt8 := if 65 ≤ c && c ≤ 90 then c + 32 else c
def upB (c : UInt8) : Bool := decide (65 ≤ c.toNat) && decide (c.toNat ≤ 90)
theorem upB_true {c : UInt8} (h : upB c = true) : 65 ≤ c.toNat ∧ c.toNat ≤ 90 := by simpa [upB] using h
theorem upB_false {c : UInt8} (h : upB c = false) : c.toNat < 65 ∨ 90 < c.toNat := by
 unfold upB at h
 by_cases h1 : 65 ≤ c.toNat
 · by_cases h2 : c.toNat ≤ 90
   · rw [decide_eq_true h1, decide_eq_true h2] at h; cases h
   · exact .inr (by omega)
 · exact .inl (by omega)
structure SmallAt (w : World) (l : Bytes) (wr : World) : Prop where
 blk : ∃ cs n, wr.heap[w.heap.size]? = some (.cells cs 5 (n, n + 1)) ∧ l.length ≤ n ∧ n = cs.size ∧ ∀ j (h : j < l.length), cs[j]? = some (.int .u8 (l[j].toNat : Int))
 low : Below w.heap.size w wr
theorem SmallAt.cell {w wr : World} {l : Bytes} (h : SmallAt w l wr) (j : Nat) (hj : j < l.length) : wr.cell? ⟨w.heap.size, j, none⟩ = some (.int .u8 (l[j].toNat : Int)) ∧ wr.frozen? ⟨w.heap.size, j, none⟩ = false := by
 obtain ⟨⟨cs, n, hb, hn, he, hc⟩, _⟩ := h
 refine ⟨(cell_of_row wr _ j cs _ _ hb).trans (hc j hj), ?_⟩
 simp [World.frozen?, hb]
 omega
theorem SmallAt.set_ {w wr : World} {l : Bytes} (h : SmallAt w l wr) (k : Nat) (b : UInt8) : SmallAt w (l.set k b) (wr.setCell ⟨w.heap.size, k, none⟩ (.int .u8 (b.toNat : Int))) := by
 obtain ⟨⟨cs, n, hb, hn, he, hc⟩, hl⟩ := h
 refine ⟨⟨cs.setIfInBounds k (.int .u8 (b.toNat : Int)), n, ?_, by simpa using hn, by simpa using he, fun j hj => ?_⟩, hl.setCell (p := ⟨w.heap.size, k, none⟩) (Nat.le_refl _) _⟩
 · simp [World.setCell, Array.getElem?_modify, hb]
 · have hj' : j < l.length := by simpa using hj
   rw [Array.getElem?_setIfInBounds]
   by_cases e : k = j
   · subst e
     rw [if_pos rfl, if_pos (by omega)]
     simp
   · rw [if_neg e, hc j hj']
     rw [List.getElem_set_ne e]
theorem small_start (w : World) (s : ByteArray) : SmallAt w s.data.toList (w.alloc (.cells (bytesRow s (grownCap w s.size 0 5)) 5 ((bytesRow s (grownCap w s.size 0 5)).size, (bytesRow s (grownCap w s.size 0 5)).size + 1))).drew := by
 have hl := Lib.size_eq s
 refine ⟨⟨_, _, heap_alloc_new w _, ?_, rfl, fun j hj => ?_⟩, ((Below.refl w.heap.size w).alloc (Nat.le_refl _) _).drew⟩
 · unfold bytesRow; simp
 · unfold bytesRow
   have hj' : j < s.data.size := by simpa using hj
   rw [Array.getElem?_append_left (by simpa using hj'), Array.getElem?_map, Array.getElem?_eq_getElem hj']
   simp
theorem low_up' (c : UInt8) (h : 65 ≤ c.toNat) (h' : c.toNat ≤ 90) : (lowB c).toNat = c.toNat + 32 := by
 unfold lowB
 rw [if_pos (by simp [UInt8.le_iff_toNat_le]; omega)]
 simp [UInt8.toNat_add]
 omega
theorem low_same' (c : UInt8) (h : c.toNat < 65 ∨ 90 < c.toNat) : lowB c = c := by
 unfold lowB
 rw [if_neg (by simp [UInt8.le_iff_toNat_le]; omega)]
def lowK (s : Bytes) (k : Nat) : Bytes := (s.take k).map lowB ++ s.drop k
theorem lowK_len (s : Bytes) (k : Nat) : (lowK s k).length = s.length := by simp [lowK]; omega
theorem lowK_at (s : Bytes) (k : Nat) (h : k < s.length) : (lowK s k)[k]'(by rw [lowK_len]; exact h) = s[k] := by
 unfold lowK
 rw [List.getElem_append_right (by simp; omega)]
 simp [Nat.min_eq_left (Nat.le_of_lt h)]
theorem lowK_succ (s : Bytes) (k : Nat) (h : k < s.length) : lowK s (k + 1) = (lowK s k).set k (lowB s[k]) := by
 unfold lowK
 rw [List.set_append_right _ _ (by simp; omega)]
 have e1 : k - (List.map lowB (List.take k s)).length = 0 := by simp; omega
 rw [e1, List.drop_eq_getElem_cons h, List.set_cons_zero, List.take_succ_eq_append_getElem h, List.map_append]
 simp
theorem lowK_same (s : Bytes) (k : Nat) (h : k < s.length) (e : lowB s[k] = s[k]) : lowK s (k + 1) = lowK s k := by
 rw [lowK_succ s k h, e]
 have := lowK_at s k h
 conv => lhs; rw [← this]
 exact List.set_getElem_self _
theorem lowK_all (s : Bytes) : lowK s s.length = s.map lowB := by simp [lowK]
theorem upper_any (f : FuncId) (hf : f = 99) (c : UInt8) (w : World) : Calls prog f #[.int .u8 (c.toNat : Int)] w fun e w' => e = .returned (.bool (upB c)) ∧ w' = w := by
 subst hf
 have hc1 := c.toNat_lt
 unfold upB
 by_cases h1 : 65 ≤ c.toNat
 · have h1I : (65 : Int) ≤ (c.toNat : Int) := by omega
   by_cases h2 : c.toNat ≤ 90
   · have h2I : (c.toNat : Int) ≤ 90 := by omega
     rw [decide_eq_true h1, decide_eq_true h2]
     go_enter func99, ntmps99
     go_wp2_with fail
     go_ret
     exact ⟨rfl, rfl⟩
   · have h2I : (90 : Int) < (c.toNat : Int) := by omega
     have h2J : ¬ (c.toNat : Int) ≤ 90 := by omega
     rw [decide_eq_true h1, decide_eq_false h2]
     go_enter func99, ntmps99
     go_wp2_with fail
     go_ret
     exact ⟨rfl, rfl⟩
 · have h1I : (c.toNat : Int) < 65 := by omega
   have h1J : ¬ (65 : Int) ≤ (c.toNat : Int) := by omega
   rw [decide_eq_false h1, Bool.false_and]
   go_enter func99, ntmps99
   go_wp2_with fail
   go_ret
   exact ⟨rfl, rfl⟩
theorem small_any (s : ByteArray) (hs : s.size ≤ 9223372036854775807) (w : World) : Calls prog 58 #[.string s] w fun e w' => e = .returned (.string ⟨(s.data.toList.map lowB).toArray⟩) ∧ Below w.heap.size w w' := by
 have hcv := run_bytes_of_string (P := prog) w 9 71 5 s underlying9 underlying71 underlying5
 have HS := lH (small_start w s)
 have HL := lH (Lib.size_eq s)
 have HU := lH (fun c w => upper_any _ rfl c w)
 go_enter func58, ntmps58
 go_wp2_with fail
 go_loopw [4] (fun x wr => ∃ k : Nat, k ≤ s.size ∧ x = .int .i64 k ∧ Hid (SmallAt w (lowK s.data.toList k) wr)) (fun x _ => s.size - (ixOf x).toNat)
 case atStart => exact ⟨0, Nat.zero_le _, rfl, lH (by simpa [lowK] using HS.out)⟩
 case round =>
  obtain ⟨k, hk, rfl, H⟩ := hrel
  clear hcv HS
  by_cases hlt : k < s.size
  · have hlt' : k < s.data.toList.length := by rw [← HL.out]; exact hlt
    obtain ⟨c0, f0⟩ := H.out.cell k (by rw [lowK_len]; exact hlt')
    rw [lowK_at s.data.toList k hlt'] at c0
    have HN := lH (lowK_succ s.data.toList k hlt')
    have HE := lH (lowK_same s.data.toList k hlt')
    have H2 := lH (H.out.set_ k (lowB s.data.toList[k]))
    have hI : (k : Int) < (s.size : Int) := by omega
    generalize s.data.toList[k] = c at *
    have hc1 := c.toNat_lt
    have hc2 : (c.toNat : Int) ≤ 255 := by omega
    have HUc := lH (fun w => HU.out c w)
    cases hu : upB c with
    | true =>
     obtain ⟨g1, g2⟩ := upB_true hu
     have hl := low_up' c g1 g2
     have hlI : ((lowB c).toNat : Int) = (c.toNat : Int) + 32 := by omega
     rw [hlI] at H2
     have h1I : (65 : Int) ≤ (c.toNat : Int) := by omega
     have h2I : (c.toNat : Int) ≤ 90 := by omega
     rw [hu] at HUc
     clear hl hlI hlt'
     go_wp2_with (go_at_call 99; refine (HUc.out _).mono ?_; rintro e w1 ⟨rfl, rfl⟩)
     go_roundw
     case rel => exact ⟨k + 1, by omega, by go_num, by rw [HN.out]; exact H2.out⟩
     case measure => simp [ixOf] <;> omega
    | false =>
     have hl := low_same' c (upB_false hu)
     have HN2 : Hid (lowK s.data.toList (k + 1) = lowK s.data.toList k) := by
      show _ = _
      exact HE.out hl
     rw [hu] at HUc
     clear hl hlt' H2 HE HN
     go_wp2_with (go_at_call 99; refine (HUc.out _).mono ?_; rintro e w1 ⟨rfl, rfl⟩)
     go_roundw
     case rel => exact ⟨k + 1, by omega, by go_num, by rw [HN2.out]; exact H.out⟩
     case measure => simp [ixOf] <;> omega
  · obtain rfl : k = s.size := by omega
    have hcb := fun cap => run_convert_bytes_back (P := prog) wr 71 9 5 ⟨w.heap.size, 0, none⟩ cap (s.data.toList.map lowB) underlying71 underlying5 underlying9 (fun j hj => by
     have hj' : j < s.data.toList.length := by simpa using hj
     have h1 := (H.out.cell j (by rw [lowK_len]; exact hj')).1
     have h2 : (lowK s.data.toList s.size)[j]'(by rw [lowK_len]; exact hj') = (s.data.toList.map lowB)[j]'hj := by
      have e : lowK s.data.toList s.size = s.data.toList.map lowB := by rw [HL.out]; exact lowK_all _
      simp only [e]
     rw [h2] at h1
     rw [show (⟨w.heap.size, 0, none⟩ : Addr).add j = ⟨w.heap.size, j, none⟩ by unfold Addr.add; split <;> simp_all]
     exact h1)
    have hlen : (s.data.toList.map lowB).length = s.size := by rw [List.length_map, ← HL.out]
    rw [hlen] at hcb
    generalize hgl : s.data.toList.map lowB = l at hcb
    have Hgl := lH hgl
    clear hlen hgl
    have hlow := H.out.low
    clear H
    go_wp2_with fail
    go_ret
    rw [Hgl.out]
    exact ⟨rfl, hlow⟩
theorem capital_any (f : FuncId) (hf : f = 89) (c : UInt8) (w : World) : Calls prog f #[.int .u8 (c.toNat : Int)] w fun e w' => e = .returned (.bool (upB c)) ∧ w' = w := by
 subst hf
 have hc1 := c.toNat_lt
 unfold upB
 by_cases h1 : 65 ≤ c.toNat
 · have h1I : (65 : Int) ≤ (c.toNat : Int) := by omega
   by_cases h2 : c.toNat ≤ 90
   · have h2I : (c.toNat : Int) ≤ 90 := by omega
     rw [decide_eq_true h1, decide_eq_true h2]
     go_enter func89, ntmps89
     go_wp2_with fail
     go_ret
     exact ⟨rfl, rfl⟩
   · have h2I : (90 : Int) < (c.toNat : Int) := by omega
     have h2J : ¬ (c.toNat : Int) ≤ 90 := by omega
     rw [decide_eq_true h1, decide_eq_false h2]
     go_enter func89, ntmps89
     go_wp2_with fail
     go_ret
     exact ⟨rfl, rfl⟩
 · have h1I : (c.toNat : Int) < 65 := by omega
   have h1J : ¬ (65 : Int) ≤ (c.toNat : Int) := by omega
   rw [decide_eq_false h1, Bool.false_and]
   go_enter func89, ntmps89
   go_wp2_with fail
   go_ret
   exact ⟨rfl, rfl⟩
def sameS (a b : ByteArray) : Bool := decide (a.data.toList.map lowB = b.data.toList.map lowB)
theorem same_size {a b : ByteArray} (h : a.size ≠ b.size) : sameS a b = false := by
 unfold sameS
 rw [decide_eq_false]
 intro e
 have := congrArg List.length e
 rw [List.length_map, List.length_map, ← Lib.size_eq, ← Lib.size_eq] at this
 exact h this
theorem same_no {a b : ByteArray} {k : Nat} (ha : k < a.data.toList.length) (hb : k < b.data.toList.length) (h : lowB a.data.toList[k] ≠ lowB b.data.toList[k]) : sameS a b = false := by
 unfold sameS
 rw [decide_eq_false]
 intro e
 have e1 : (a.data.toList.map lowB)[k]? = (b.data.toList.map lowB)[k]? := by rw [e]
 rw [List.getElem?_map, List.getElem?_map, List.getElem?_eq_getElem ha, List.getElem?_eq_getElem hb] at e1
 exact h (by simpa using e1)
theorem same_yes {a b : ByteArray} (hs : a.size = b.size) (h : ∀ j (ha : j < a.data.toList.length) (hb : j < b.data.toList.length), lowB a.data.toList[j] = lowB b.data.toList[j]) : sameS a b = true := by
 unfold sameS
 rw [decide_eq_true]
 have hl : a.data.toList.length = b.data.toList.length := by rw [← Lib.size_eq, ← Lib.size_eq, hs]
 apply List.ext_getElem
 · simpa using hl
 · intro j h1 h2
   simp only [List.getElem_map]
   exact h j (by simpa using h1) (by simpa using h2)
theorem low_int (c : UInt8) : ((lowB c).toNat : Int) = if upB c = true then (c.toNat : Int) + 32 else (c.toNat : Int) := by
 cases hu : upB c with
 | true => obtain ⟨g1, g2⟩ := upB_true hu; rw [if_pos rfl, low_up' c g1 g2]; omega
 | false => rw [low_same' c (upB_false hu)]; simp
theorem same_any (a b : ByteArray) (ha : a.size ≤ 9223372036854775807) (w : World) : Calls prog 50 #[.string a, .string b] w fun e w' => e = .returned (.bool (sameS a b)) ∧ Below w.heap.size w w' := by
 obtain ⟨M, HM⟩ : ∃ z, Hid (sameS a b = z) := ⟨_, rfl⟩
 rw [HM.out]
 by_cases hsz : a.size = b.size
 · have HU := lH (fun c w => capital_any _ rfl c w)
   have HLa := lH (Lib.size_eq a)
   have HLb := lH (Lib.size_eq b)
   have HY := lH (same_yes hsz)
   have HNo := lH (fun k ha hb h => same_no (a := a) (b := b) (k := k) ha hb h)
   have hszI : (a.size : Int) = (b.size : Int) := by omega
   go_enter func50, ntmps50
   go_wp2_with fail
   go_loopw [15] (fun x wr => ∃ k : Nat, k ≤ a.size ∧ x = .int .i64 k ∧ Hid (Below w.heap.size w wr) ∧ Hid (∀ j (ha : j < a.data.toList.length) (hb : j < b.data.toList.length), j < k → lowB a.data.toList[j] = lowB b.data.toList[j])) (fun x _ => a.size - (ixOf x).toNat)
   case atStart => exact ⟨0, Nat.zero_le _, rfl, Below.refl _ _, fun j _ _ h => by omega⟩
   case round =>
    obtain ⟨k, hk, rfl, HB, H⟩ := hrel
    by_cases hlt : k < a.size
    · have hka : k < a.data.toList.length := by rw [← HLa.out]; exact hlt
      have hkb : k < b.data.toList.length := by rw [← HLb.out]; omega
      have hltb : k < b.size := by omega
      have hI : (k : Int) < (a.size : Int) := by omega
      have ea : a[k] = a.data.toList[k] := by simp [ByteArray.getElem_eq_getElem_data]
      have eb : b[k] = b.data.toList[k] := by simp [ByteArray.getElem_eq_getElem_data]
      have HNk := lH (HNo.out k hka hkb)
      have HS : Hid (lowB a.data.toList[k] = lowB b.data.toList[k] → ∀ j (ha : j < a.data.toList.length) (hb : j < b.data.toList.length), j < k + 1 → lowB a.data.toList[j] = lowB b.data.toList[j]) := fun e j h1 h2 h3 => by
       by_cases hj : j = k
       · subst hj; exact e
       · exact H.out j h1 h2 (by omega)
      rw [← ea, ← eb] at HNk HS
      clear ea eb H HNo HY
      generalize hca : a[k] = c at *
      generalize hcb : b[k] = d at *
      have hc1 := c.toNat_lt
      have hd1 := d.toNat_lt
      have lc := low_int c
      have ld := low_int d
      have hne : lowB c = lowB d ↔ ((lowB c).toNat : Int) = ((lowB d).toNat : Int) := by
       constructor
       · intro h; rw [h]
       · intro h; exact UInt8.toNat_inj.1 (by omega)
      rw [lc, ld] at hne
      clear lc ld
      have b1 : (c.toNat : Int) ≤ 255 := by omega
      have b2 : (d.toNat : Int) ≤ 255 := by omega
      go_wp2_with fail
      go_quiet (fail)
      cases hu : upB c with
      | true =>
       rw [hu] at hne
       obtain ⟨p1, p2⟩ := upB_true hu
       have p1I : (65 : Int) ≤ (c.toNat : Int) := by omega
       have p2I : (c.toNat : Int) ≤ 90 := by omega
       cases hv : upB d with
       | true =>
        rw [hv] at hne
        obtain ⟨q1, q2⟩ := upB_true hv
        have q1I : (65 : Int) ≤ (d.toNat : Int) := by omega
        have q2I : (d.toNat : Int) ≤ 90 := by omega
        simp only [if_true] at hne
        cases he : (((c.toNat : Int) + 32 : Int) == (d.toNat : Int) + 32) with
        | true =>
         have HR := lH (HS.out (hne.2 (by simpa using he)))
         clear HS HNk hne
         go_wp2_with (go_at_call 89; refine (HU.out _ _).mono ?_; rintro e w1 ⟨rfl, rfl⟩)
         go_roundw
         case rel => exact ⟨k + 1, by omega, by go_num, drewN' HB.out _, HR.out⟩
         case measure => simp [ixOf] <;> omega
        | false =>
         have HR := HM.out.symm.trans (HNk.out (fun h => by have := hne.1 h; rw [this] at he; simp at he))
         subst HR
         clear HS HNk hne
         go_wp2_with (go_at_call 89; refine (HU.out _ _).mono ?_; rintro e w1 ⟨rfl, rfl⟩)
         go_ret
         exact ⟨rfl, drewN' HB.out _⟩
       | false =>
        rw [hv] at hne
        simp only [if_true, if_false, Bool.false_eq_true] at hne
        cases he : (((c.toNat : Int) + 32 : Int) == (d.toNat : Int)) with
        | true =>
         have HR := lH (HS.out (hne.2 (by simpa using he)))
         clear HS HNk hne
         go_wp2_with (go_at_call 89; refine (HU.out _ _).mono ?_; rintro e w1 ⟨rfl, rfl⟩)
         go_roundw
         case rel => exact ⟨k + 1, by omega, by go_num, drewN' HB.out _, HR.out⟩
         case measure => simp [ixOf] <;> omega
        | false =>
         have HR := HM.out.symm.trans (HNk.out (fun h => by have := hne.1 h; rw [this] at he; simp at he))
         subst HR
         clear HS HNk hne
         go_wp2_with (go_at_call 89; refine (HU.out _ _).mono ?_; rintro e w1 ⟨rfl, rfl⟩)
         go_ret
         exact ⟨rfl, drewN' HB.out _⟩
      | false =>
       rw [hu] at hne
       cases hv : upB d with
       | true =>
        rw [hv] at hne
        obtain ⟨q1, q2⟩ := upB_true hv
        have q1I : (65 : Int) ≤ (d.toNat : Int) := by omega
        have q2I : (d.toNat : Int) ≤ 90 := by omega
        simp only [if_true, if_false, Bool.false_eq_true] at hne
        cases he : (((c.toNat : Int) : Int) == (d.toNat : Int) + 32) with
        | true =>
         have HR := lH (HS.out (hne.2 (by simpa using he)))
         clear HS HNk hne
         go_wp2_with (go_at_call 89; refine (HU.out _ _).mono ?_; rintro e w1 ⟨rfl, rfl⟩)
         go_roundw
         case rel => exact ⟨k + 1, by omega, by go_num, drewN' HB.out _, HR.out⟩
         case measure => simp [ixOf] <;> omega
        | false =>
         have HR := HM.out.symm.trans (HNk.out (fun h => by have := hne.1 h; rw [this] at he; simp at he))
         subst HR
         clear HS HNk hne
         go_wp2_with (go_at_call 89; refine (HU.out _ _).mono ?_; rintro e w1 ⟨rfl, rfl⟩)
         go_ret
         exact ⟨rfl, drewN' HB.out _⟩
       | false =>
        rw [hv] at hne
        simp only [if_false, Bool.false_eq_true] at hne
        cases he : (((c.toNat : Int) : Int) == (d.toNat : Int)) with
        | true =>
         have HR := lH (HS.out (hne.2 (by simpa using he)))
         clear HS HNk hne
         go_wp2_with (go_at_call 89; refine (HU.out _ _).mono ?_; rintro e w1 ⟨rfl, rfl⟩)
         go_roundw
         case rel => exact ⟨k + 1, by omega, by go_num, drewN' HB.out _, HR.out⟩
         case measure => simp [ixOf] <;> omega
        | false =>
         have HR := HM.out.symm.trans (HNk.out (fun h => by have := hne.1 h; rw [this] at he; simp at he))
         subst HR
         clear HS HNk hne
         go_wp2_with (go_at_call 89; refine (HU.out _ _).mono ?_; rintro e w1 ⟨rfl, rfl⟩)
         go_ret
         exact ⟨rfl, drewN' HB.out _⟩
    · have hI : ¬ ((k : Int) < (a.size : Int)) := by omega
      obtain rfl : k = a.size := by omega
      have HR := HM.out.symm.trans (HY.out (fun j h1 h2 => H.out j h1 h2 (by rw [HLa.out]; exact h1)))
      subst HR
      clear HY HNo H
      go_wp2_with fail
      go_ret
      exact ⟨rfl, HB.out⟩
 · have HR := HM.out.symm.trans (same_size hsz)
   subst HR
   have hszI : ¬ (a.size : Int) = (b.size : Int) := by omega
   go_enter func50, ntmps50
   go_wp2_with fail
   go_ret
   exact ⟨rfl, Below.refl _ _⟩
open Go.RowKit
def PairsAt (w : World) (B : Nat) (A : Option Addr) (fs : List (ByteArray × ByteArray)) : Prop :=
 0 < fs.length → ∃ b off, A = some ⟨b, off, none⟩ ∧ b < B ∧ ∀ k, k < fs.length → w.cell? ⟨b, off + k * 2, none⟩ = some (.string (fs.getD k default).1) ∧ w.cell? ⟨b, off + k * 2 + 1, none⟩ = some (.string (fs.getD k default).2)
theorem PairsAt.below {w w' : World} {A : Option Addr} {fs : List (ByteArray × ByteArray)} (h : PairsAt w w.heap.size A fs) (hb1 : Below w.heap.size w w') : PairsAt w' w'.heap.size A fs := fun h0 => by
 obtain ⟨b, off, hA, hb, hc⟩ := h h0
 exact ⟨b, off, hA, Nat.lt_of_lt_of_le hb hb1.size, fun k hk => ⟨(hb1.cell (p := ⟨b, off + k * 2, none⟩) hb).trans (hc k hk).1, (hb1.cell (p := ⟨b, off + k * 2 + 1, none⟩) hb).trans (hc k hk).2⟩⟩
theorem PairsAt.below' {w w' : World} {B : Nat} {A : Option Addr} {fs : List (ByteArray × ByteArray)} (h : PairsAt w B A fs) (hb1 : Below B w w') : PairsAt w' B A fs := fun h0 => by
 obtain ⟨b, off, hA, hb, hc⟩ := h h0
 exact ⟨b, off, hA, hb, fun k hk => ⟨(hb1.cell (p := ⟨b, off + k * 2, none⟩) hb).trans (hc k hk).1, (hb1.cell (p := ⟨b, off + k * 2 + 1, none⟩) hb).trans (hc k hk).2⟩⟩
theorem PairsAt.up {w : World} {B B' : Nat} {A : Option Addr} {fs : List (ByteArray × ByteArray)} (h : PairsAt w B A fs) (hB : B ≤ B') : PairsAt w B' A fs := fun h0 => by
 obtain ⟨b, off, hA, hb, hc⟩ := h h0
 exact ⟨b, off, hA, Nat.lt_of_lt_of_le hb hB, hc⟩
theorem blk_below {w w' : World} {g : Nat} {t : TypeId} {cs : Array Value} (h : Blk w g t cs) (hb : Below w.heap.size w w') : Blk w' g t cs := h.keeps (Keeps.of_below (S := fun _ => False) hb) id
def findH (name : ByteArray) : List (ByteArray × ByteArray) → Option ByteArray
 | [] => none
 | u :: l => if sameS u.1 name = true then some u.2 else findH name l
theorem findH_step (f : ByteArray) (us : List (ByteArray × ByteArray)) (k : Nat) (hk : k < us.length) : findH f (us.drop k) = if sameS (us.getD k default).1 f = true then some (us.getD k default).2 else findH f (us.drop (k + 1)) := by
 rw [List.drop_eq_getElem_cons hk, findH, show us.getD k default = us[k] by simp [hk]]
def foundT : Option ByteArray → Value
 | some v => .tuple #[.string v, .bool true]
 | none => .tuple #[.string ⟨#[]⟩, .bool false]
section
variable (m p qy bd name : ByteArray) (A : Option Addr) (c : Nat) (us : List (ByteArray × ByteArray)) (w : World)
theorem head_any (hA : PairsAt w w.heap.size A us) (hn : us.length ≤ 9223372036854775807) (hz : ∀ k, (us.getD k default).1.size ≤ 9223372036854775807) :
  Calls prog 22 #[.agg #[.string m, .string p, .string qy, .slice A us.length c, .string bd], .string name] w fun e w' => e = .returned (foundT (findH name us)) ∧ Below w.heap.size w w' := by
 have HA := lH hA; clear hA
 have HZ := lH hz; clear hz
 have HS := lH (fun a h w => same_any a name h w)
 obtain ⟨M, HM⟩ : ∃ z, Hid (foundT (findH name us) = z) := ⟨_, rfl⟩
 rw [HM.out]
 go_enter func22, ntmps22
 go_wp2_with fail
 go_loopw [11] (fun x wx => ∃ k : Nat, k ≤ us.length ∧ x = .int .i64 k ∧ Hid (Below w.heap.size w wx ∧ findH name us = findH name (us.drop k))) (fun x _ => us.length - (ixOf x).toNat)
 case atStart => exact ⟨0, Nat.zero_le _, rfl, (Below.refl _ _).alloc (Nat.le_refl _) _, by simp⟩
 case round =>
  obtain ⟨k, hk, rfl, HR⟩ := hrel
  by_cases hlt : k < us.length
  · obtain ⟨b, off, rfl, hb, hc⟩ := HA.out (by omega)
    obtain ⟨hc1, hc2⟩ := hc k hlt
    have hk1 := (HR.out.1.cell (p := ⟨b, off + k * 2, none⟩) hb).trans hc1
    have hk2 := (HR.out.1.cell (p := ⟨b, off + k * 2 + 1, none⟩) hb).trans hc2
    have hs3 := HZ.out k
    have HF := lH (HR.out.2.trans (findH_step name us k hlt))
    clear hc hc1 hc2 hb HA HZ
    generalize us.getD k default = u at *
    obtain ⟨p1, x1⟩ := u
    dsimp only at hk1 hk2 hs3 HF
    have HSk := lH (fun w => HS.out p1 (by omega) w)
    clear HS
    cases heq : sameS p1 name with
    | true =>
     have hM : M = .tuple #[.string x1, .bool true] := by rw [← HM.out, HF.out, if_pos heq]; rfl
     subst hM
     rw [heq] at HSk
     have HB1 := lH HR.out.1
     clear HR HF HM
     go_wp2_with (go_at_call 50; refine (HSk.out _).mono ?_; rintro e w1 ⟨rfl, hb1⟩; have HB2 := lH ((HB1.out.alloc HB1.out.size (.cells #[.string p1, .string x1] 48)).trans (hb1.mono (HB1.out.alloc HB1.out.size _).size)); have q1 : w1.cell? ⟨wr.heap.size, 1, none⟩ = some (.string x1) := (blk_below (Blk.new wr 48 #[.string p1, .string x1]) hb1).cell 1; clear hb1)
     go_ret2
     exact ⟨rfl, HB2.out⟩
    | false =>
     have HF2 : Hid (findH name us = findH name (us.drop (k + 1))) := by
      have := HF.out
      rw [heq, if_neg (by decide)] at this
      exact this
     rw [heq] at HSk
     have HB1 := lH HR.out.1
     clear HR HF
     go_wp2_with (go_at_call 50; refine (HSk.out _).mono ?_; rintro e w1 ⟨rfl, hb1⟩; have HB2 := lH ((HB1.out.alloc HB1.out.size (.cells #[.string p1, .string x1] 48)).trans (hb1.mono (HB1.out.alloc HB1.out.size _).size)); have q1 : w1.cell? ⟨wr.heap.size, 1, none⟩ = some (.string x1) := (blk_below (Blk.new wr 48 #[.string p1, .string x1]) hb1).cell 1; clear hb1)
     go_roundw
     case rel => exact ⟨k + 1, by omega, by go_num, HB2.out, HF2.out⟩
     case measure => simp [ixOf] <;> omega
  · obtain rfl : k = us.length := by omega
    have hM : M = .tuple #[.string ⟨#[]⟩, .bool false] := by
     have := HR.out.2
     rw [List.drop_length] at this
     rw [← HM.out, this]; rfl
    subst hM
    have HB1 := lH HR.out.1
    clear HR HM HA HZ HS
    go_wp2_with fail
    go_ret2
    exact ⟨rfl, HB1.out⟩
end
open Go.RowKit
theorem small_beq (a b : ByteArray) : ((⟨(a.data.toList.map lowB).toArray⟩ : ByteArray).toList == (⟨(b.data.toList.map lowB).toArray⟩ : ByteArray).toList) = sameS a b := by
 rw [Lib.toList_data, Lib.toList_data]
 unfold sameS
 rw [Bool.eq_iff_iff]
 simp
section
variable (m p qy bd name : ByteArray) (A : Option Addr) (c : Nat) (us : List (ByteArray × ByteArray)) (w : World)
theorem rhead_any (hA : PairsAt w w.heap.size A us) (hn : us.length ≤ 9223372036854775807) (hz : ∀ k, (us.getD k default).1.size ≤ 9223372036854775807) (hz2 : name.size ≤ 9223372036854775807) :
  Calls prog 46 #[.agg #[.string m, .string p, .string qy, .slice A us.length c, .string bd], .string name] w fun e w' => e = .returned (foundT (findH name us)) ∧ Below w.heap.size w w' := by
 have HA := lH hA; clear hA
 have HZ := lH hz; clear hz
 obtain ⟨sm, hsm⟩ : ∃ sm : ByteArray → ByteArray, ∀ a : ByteArray, (⟨(a.data.toList.map lowB).toArray⟩ : ByteArray) = sm a := ⟨_, fun _ => rfl⟩
 have hE := fun a => small_beq a name
 have hS := fun a h w => small_any a h w
 simp only [hsm] at hE hS
 have HE := lH hE
 have HS := lH hS
 have HB0 := lH ((Below.refl w.heap.size w).alloc (Nat.le_refl _) (.cells #[.string m, .string p, .string qy, .slice A us.length c, .string bd] 43))
 have HX0 := lH (Blk.new w 43 #[.string m, .string p, .string qy, .slice A us.length c, .string bd])
 clear hsm hE hS
 obtain ⟨M, HM⟩ : ∃ z, Hid (foundT (findH name us) = z) := ⟨_, rfl⟩
 rw [HM.out]
 go_enter func46, ntmps46
 go_wp2_with fail
 go_loopw [6] (fun x wx => ∃ k : Nat, k ≤ us.length ∧ x = .int .i64 k ∧ Hid (Below w.heap.size w wx ∧ findH name us = findH name (us.drop k)) ∧ Hid (Blk wx w.heap.size 43 #[.string m, .string p, .string qy, .slice A us.length c, .string bd])) (fun x _ => us.length - (ixOf x).toNat)
 case atStart => exact ⟨0, Nat.zero_le _, rfl, ⟨HB0.out, by simp⟩, HX0⟩
 case round =>
  obtain ⟨k, hk, rfl, HR, HX⟩ := hrel
  have b3 : wr.cell? ⟨w.heap.size, 3, none⟩ = some (.slice A us.length c) := HX.out.cell 3
  have hbx := HX.out.lt
  by_cases hlt : k < us.length
  · obtain ⟨b, off, rfl, hb, hc⟩ := HA.out (by omega)
    obtain ⟨hc1, hc2⟩ := hc k hlt
    have hk1 := (HR.out.1.cell (p := ⟨b, off + k * 2, none⟩) hb).trans hc1
    have hk2 := (HR.out.1.cell (p := ⟨b, off + k * 2 + 1, none⟩) hb).trans hc2
    have hs3 := HZ.out k
    have HF := lH (HR.out.2.trans (findH_step name us k hlt))
    have hbr : b < wr.heap.size := by have := HR.out.1.size; omega
    have HBc := lH (Below.refl wr.heap.size wr)
    clear hc hc1 hc2 hb HA HZ HB0 HX0
    generalize us.getD k default = u at *
    obtain ⟨p1, x1⟩ := u
    dsimp only at hk1 hk2 hs3 HF
    have heq := HE.out p1
    clear HE
    have HB1 := lH HR.out.1
    have HX1 := HX
    cases hv : sameS p1 name with
    | true =>
     have hM : M = .tuple #[.string x1, .bool true] := by rw [← HM.out, HF.out, if_pos hv]; rfl
     subst hM
     rw [hv] at heq
     clear HR HF HM HX hv
     go_wp2_with (go_at_call 58; refine (HS.out _ (by assumption) _).mono ?_; rintro e wz ⟨rfl, hbz⟩; have HBn := lH (HBc.out.trans (hbz.mono HBc.out.size)); clear HBc hbz; have HBc := HBn; clear HBn; have q2 := (HBc.out.cell (p := ⟨b, off + k * 2 + 1, none⟩) hbr).trans hk2; have q3 := (HBc.out.cell (p := ⟨w.heap.size, 3, none⟩) hbx).trans b3)
     go_ret2
     exact ⟨rfl, HB1.out.trans (HBc.out.mono HB1.out.size)⟩
    | false =>
     have HF2 : Hid (findH name us = findH name (us.drop (k + 1))) := by
      have := HF.out
      rw [hv, if_neg (by decide)] at this
      exact this
     rw [hv] at heq
     clear HR HF HX hv
     go_wp2_with (go_at_call 58; refine (HS.out _ (by assumption) _).mono ?_; rintro e wz ⟨rfl, hbz⟩; have HBn := lH (HBc.out.trans (hbz.mono HBc.out.size)); clear HBc hbz; have HBc := HBn; clear HBn; have q2 := (HBc.out.cell (p := ⟨b, off + k * 2 + 1, none⟩) hbr).trans hk2; have q3 := (HBc.out.cell (p := ⟨w.heap.size, 3, none⟩) hbx).trans b3)
     go_roundw
     case rel => exact ⟨k + 1, by omega, by go_num, ⟨HB1.out.trans (HBc.out.mono HB1.out.size), HF2.out⟩, blk_below HX1.out HBc.out⟩
     case measure => simp [ixOf] <;> omega
  · obtain rfl : k = us.length := by omega
    have hM : M = .tuple #[.string ⟨#[]⟩, .bool false] := by
     have := HR.out.2
     rw [List.drop_length] at this
     rw [← HM.out, this]; rfl
    subst hM
    have HB1 := lH HR.out.1
    clear HR HM HA HZ HS HE HB0 HX0
    go_wp2_with fail
    go_ret2
    exact ⟨rfl, HB1.out⟩
end
end Go.Proofs.YtgpemnmopogppaaGreatDoor
