/- Small letters: what the program and its reference make of a text. -/
import Derived.Test.YteajmgkdiioflaaGreatDoorWordA
import Derived.Test.YteajmgkdiioflaaGreatDoorMapS
import Derived.Laws.IdiomStrings
import Derived.Lib.MapLaws
import Derived.Lib.TrimAscii
import Derived.Lib.Case
namespace Go.Proofs.YteajmgkdiioflaaGreatDoor
open Go.RowKit

/-! ### the reference's -/
/-- A new row of bytes, holding l at its head. -/
structure SmallAt (w : World) (l : Bytes) (wr : World) : Prop where
  blk : ∃ cs n, wr.heap[w.heap.size]? = some (.cells cs 5 (n, n + 1)) ∧ l.length ≤ n ∧ n = cs.size ∧ ∀ j (h : j < l.length), cs[j]? = some (.int .u8 (l[j].toNat : Int))
  low : Below w.heap.size w wr
theorem SmallAt.cell {w wr : World} {l : Bytes} (h : SmallAt w l wr) (j : Nat) (hj : j < l.length) : wr.cell? ⟨w.heap.size, j, none⟩ = some (.int .u8 (l[j].toNat : Int)) ∧ wr.frozen? ⟨w.heap.size, j, none⟩ = false := by
  obtain ⟨⟨cs, n, hb, hn, he, hc⟩, _⟩ := h
  refine ⟨(cell_of_row wr _ j cs _ _ hb).trans (hc j hj), ?_⟩
  simp [World.frozen?, hb]
  omega
theorem SmallAt.set_ {w wr : World} {l : Bytes} (h : SmallAt w l wr) (k : Nat) (b : UInt8) : SmallAt w (l.set k b) (wr.setCell ⟨w.heap.size, k, none⟩ (.int .u8 (b.toNat : Int))) := by
  obtain ⟨⟨cs, n, hb, hn, he, hc⟩, hl⟩ := h
  refine ⟨⟨cs.setIfInBounds k (.int .u8 (b.toNat : Int)), n, ?_, by simpa using hn, by simpa using he, fun j hj => ?_⟩, hl.setCell (p := ⟨w.heap.size, k, none⟩) (Nat.le_refl _) _⟩
  · simp [World.setCell, Array.getElem?_modify, hb]
  · have hj' : j < l.length := by simpa using hj
    rw [Array.getElem?_setIfInBounds]
    by_cases e : k = j
    · subst e
      rw [if_pos rfl, if_pos (by omega)]
      simp
    · rw [if_neg e, hc j hj']
      rw [List.getElem_set_ne e]
theorem small_start (w : World) (s : ByteArray) : SmallAt w s.data.toList (w.alloc (.cells (bytesRow s (grownCap w s.size 0 5)) 5 ((bytesRow s (grownCap w s.size 0 5)).size, (bytesRow s (grownCap w s.size 0 5)).size + 1))).drew := by
  have hl := Lib.size_eq s
  refine ⟨⟨_, _, heap_alloc_new w _, ?_, rfl, fun j hj => ?_⟩, ((Below.refl w.heap.size w).alloc (Nat.le_refl _) _).drew⟩
  · unfold bytesRow; simp
  · unfold bytesRow
    have hj' : j < s.data.size := by simpa using hj
    rw [Array.getElem?_append_left (by simpa using hj'), Array.getElem?_map, Array.getElem?_eq_getElem hj']
    simp
theorem low_up' (c : UInt8) (h : 65 ≤ c.toNat) (h' : c.toNat ≤ 90) : (lowB c).toNat = c.toNat + 32 := by
  unfold lowB
  rw [if_pos (by simp [UInt8.le_iff_toNat_le]; omega)]
  simp [UInt8.toNat_add]
  omega
theorem low_same' (c : UInt8) (h : c.toNat < 65 ∨ 90 < c.toNat) : lowB c = c := by
  unfold lowB
  rw [if_neg (by simp [UInt8.le_iff_toNat_le]; omega)]
/-- The first k bytes in small letters. -/
def lowK (s : Bytes) (k : Nat) : Bytes := (s.take k).map lowB ++ s.drop k
theorem lowK_len (s : Bytes) (k : Nat) : (lowK s k).length = s.length := by simp [lowK]; omega
theorem lowK_at (s : Bytes) (k : Nat) (h : k < s.length) : (lowK s k)[k]'(by rw [lowK_len]; exact h) = s[k] := by
  unfold lowK
  rw [List.getElem_append_right (by simp; omega)]
  simp [Nat.min_eq_left (Nat.le_of_lt h)]
theorem lowK_succ (s : Bytes) (k : Nat) (h : k < s.length) : lowK s (k + 1) = (lowK s k).set k (lowB s[k]) := by
  unfold lowK
  rw [List.set_append_right _ _ (by simp; omega)]
  have e1 : k - (List.map lowB (List.take k s)).length = 0 := by simp; omega
  rw [e1, List.drop_eq_getElem_cons h, List.set_cons_zero, List.take_succ_eq_append_getElem h, List.map_append]
  simp
theorem lowK_same (s : Bytes) (k : Nat) (h : k < s.length) (e : lowB s[k] = s[k]) : lowK s (k + 1) = lowK s k := by
  rw [lowK_succ s k h, e]
  have := lowK_at s k h
  conv => lhs; rw [← this]
  exact List.set_getElem_self _
theorem lowK_all (s : Bytes) : lowK s s.length = s.map lowB := by simp [lowK]

set_option maxRecDepth 100000 in
set_option maxHeartbeats 2000000 in
theorem small_any (s : ByteArray) (hs : s.size ≤ 1152921504606846976) (w : World) : Calls Tryz.prog 22 #[.string s] w fun e w' => e = .returned (.string ⟨(s.data.toList.map lowB).toArray⟩) ∧ Below w.heap.size w w' := by
  have hcv := run_bytes_of_string (P := Tryz.prog) w 9 71 5 s Tryz.underlying9 Tryz.underlying71 Tryz.underlying5
  have HS := Lib.hid (small_start w s)
  have HL := Lib.hid (Lib.size_eq s)
  go_enter Tryz.func22, Tryz.ntmps22
  go_wp2_with fail
  go_loopw [4] (fun x wr => ∃ k : Nat, k ≤ s.size ∧ x = .int .i64 k ∧ Hid (SmallAt w (lowK s.data.toList k) wr)) (fun x _ => s.size - (intOf x).toNat)
  case atStart => exact ⟨0, Nat.zero_le _, rfl, Lib.hid (by simpa [lowK] using HS.out)⟩
  case round =>
    obtain ⟨k, hk, rfl, H⟩ := hrel
    clear hcv HS
    by_cases hlt : k < s.size
    · have hlt' : k < s.data.toList.length := by rw [← HL.out]; exact hlt
      obtain ⟨c0, f0⟩ := H.out.cell k (by rw [lowK_len]; exact hlt')
      rw [lowK_at s.data.toList k hlt'] at c0
      have HN := Lib.hid (lowK_succ s.data.toList k hlt')
      have HE := Lib.hid (lowK_same s.data.toList k hlt')
      have H2 := Lib.hid (H.out.set_ k (lowB s.data.toList[k]))
      have hI : (k : Int) < (s.size : Int) := by omega
      generalize s.data.toList[k] = c at *
      have hc1 := c.toNat_lt
      have hc2 : (c.toNat : Int) ≤ 255 := by omega
      by_cases hu : 65 ≤ c.toNat ∧ c.toNat ≤ 90
      · have hl := low_up' c hu.1 hu.2
        have hlI : ((lowB c).toNat : Int) = (c.toNat : Int) + 32 := by omega
        rw [hlI] at H2
        obtain ⟨h1, h2⟩ := hu
        have h1I : (65 : Int) ≤ (c.toNat : Int) := by omega
        have h2I : (c.toNat : Int) ≤ 90 := by omega
        clear hl hlI hlt'
        go_wp2_with fail
        go_roundw
        case rel => exact ⟨k + 1, by omega, by go_num, by rw [HN.out]; exact H2.out⟩
        case measure => simp [intOf] <;> omega
      · have hl := low_same' c (by omega)
        have HN2 : Hid (lowK s.data.toList (k + 1) = lowK s.data.toList k) := by
          show _ = _
          exact HE.out hl
        clear hl hlt' H2 HE HN
        by_cases h1 : c.toNat < 65
        · have h1I : (c.toNat : Int) < 65 := by omega
          go_wp2_with fail
          go_roundw
          case rel => exact ⟨k + 1, by omega, by go_num, by rw [HN2.out]; exact H.out⟩
          case measure => simp [intOf] <;> omega
        · have h1I : (65 : Int) ≤ (c.toNat : Int) := by omega
          have h2I : (90 : Int) < (c.toNat : Int) := by omega
          go_wp2_with fail
          go_roundw
          case rel => exact ⟨k + 1, by omega, by go_num, by rw [HN2.out]; exact H.out⟩
          case measure => simp [intOf] <;> omega
    · obtain rfl : k = s.size := by omega
      have hcb := fun cap => run_convert_bytes_back (P := Tryz.prog) wr 71 9 5 ⟨w.heap.size, 0, none⟩ cap (s.data.toList.map lowB) Tryz.underlying71 Tryz.underlying5 Tryz.underlying9 (fun j hj => by
        have hj' : j < s.data.toList.length := by simpa using hj
        have h1 := (H.out.cell j (by rw [lowK_len]; exact hj')).1
        have h2 : (lowK s.data.toList s.size)[j]'(by rw [lowK_len]; exact hj') = (s.data.toList.map lowB)[j]'hj := by
          have e : lowK s.data.toList s.size = s.data.toList.map lowB := by rw [HL.out]; exact lowK_all _
          simp only [e]
        rw [h2] at h1
        rw [show (⟨w.heap.size, 0, none⟩ : Addr).add j = ⟨w.heap.size, j, none⟩ by unfold Addr.add; split <;> simp_all]
        exact h1)
      have hlen : (s.data.toList.map lowB).length = s.size := by rw [List.length_map, ← HL.out]
      rw [hlen] at hcb
      generalize hgl : s.data.toList.map lowB = l at hcb
      have Hgl := Lib.hid hgl
      clear hlen hgl
      have hlow := H.out.low
      clear H
      go_wp2_with fail
      go_ret
      exact ⟨by rw [Hgl.out]; rfl, hlow⟩

/-! ### the program's -/
def fL (x : Int) : Int := if 65 ≤ x ∧ x ≤ 90 then x + 32 else x
theorem lower1_any (x : Int) (h0 : 0 ≤ x) (h1 : x ≤ 1114111) (w : World) : Calls Tryz.prog 48 #[.int .i32 x] w fun e w' => e = .returned (.int .i32 (fL x)) ∧ Below w.heap.size w w' := by
  by_cases hu : 65 ≤ x
  · by_cases hv : x ≤ 90
    · go_enter Tryz.func48, Tryz.ntmps48
      go_wp2_with fail
      go_ret
      exact ⟨by unfold fL; rw [if_pos ⟨hu, hv⟩]; rfl, Below.refl _ _⟩
    · have hv' : 90 < x := by omega
      go_enter Tryz.func48, Tryz.ntmps48
      go_wp2_with fail
      go_ret
      exact ⟨by unfold fL; rw [if_neg (by omega)]; rfl, Below.refl _ _⟩
  · have hu' : x < 65 := by omega
    go_enter Tryz.func48, Tryz.ntmps48
    go_wp2_with fail
    go_ret
    exact ⟨by unfold fL; rw [if_neg (by omega)]; rfl, Below.refl _ _⟩
theorem fL_byte (b : UInt8) : fL (b.toNat : Int) = ((Lib.lowerB b).toNat : Int) := by
  have key : ∀ c : Fin 256, fL (c.val : Int) = ((Lib.lowerB (UInt8.ofNat c.val)).toNat : Int) := by decide +kernel
  have := key ⟨b.toNat, b.toNat_lt⟩
  simpa using this
theorem lowB_eq (b : UInt8) : lowB b = Lib.lowerB b := by
  have key : ∀ c : Fin 256, lowB (UInt8.ofNat c.val) = Lib.lowerB (UInt8.ofNat c.val) := by decide +kernel
  have := key ⟨b.toNat, b.toNat_lt⟩
  simpa using this
theorem mapD_low : ∀ (l : Bytes), (∀ b ∈ l, b.toNat < 128) → Lib.mapD fL l = l.map lowB
  | [], _ => rfl
  | b :: l, h => by
    have hb := h b (by simp)
    rw [Lib.mapD_step fL (b :: l) (by simp), Lib.decodeL_ascii b l hb]
    have hf : fL (b.toNat : Int) = ((lowB b).toNat : Int) := by rw [fL_byte, lowB_eq]
    have hlb : (lowB b).toNat < 128 := by
      unfold lowB
      split
      · rename_i hc
        simp [UInt8.le_iff_toNat_le] at hc
        simp [UInt8.toNat_add]; omega
      · exact hb
    simp only [hf]
    rw [if_pos (by omega)]
    have he : Lib.encodeRune ((lowB b).toNat : Int) = [lowB b] := by
      unfold Lib.encodeRune
      rw [Lib.encodeRuneZ_one (by omega) (by omega)]
      simp
    rw [he, List.drop_one, List.tail_cons, mapD_low l (fun c hc => h c (by simp [hc]))]
    rfl
theorem fL_small (x : Nat) (h : x ≤ 1114111) : -2147483648 ≤ fL x ∧ fL x ≤ 2147483647 := by unfold fL; split <;> omega

theorem lower_any (s : ByteArray) (hs : s.size < 35184372088832) (hlow : ∀ b ∈ s.data.toList, b.toNat < 128) (w : World) (hT : Lib.Utf8Tabs 4 5 w) :
    Calls Tryz.prog 21 #[.string s] w fun e w' => e = .returned (.string ⟨(s.data.toList.map lowB).toArray⟩) ∧ Below w.heap.size w w' := by
  have hm := Tryz.strings_Map_grows 48 #[] (enters_of Tryz.func48 (by kernel_rfl) rfl) fL s w hs (fun W x hx hb => lower1_any x (by omega) (by omega) W) fL_small hT
  rw [mapD_low _ hlow] at hm
  have HM := Lib.hid hm
  clear hm
  go_enter Tryz.func21, Tryz.ntmps21
  go_wp2_with (go_at_call 47; refine HM.out.mono ?_; rintro e w1 ⟨rfl, hb⟩)
  go_ret
  exact ⟨rfl, hb⟩
end Go.Proofs.YteajmgkdiioflaaGreatDoor
