/- raw: names without their letters' cases: the reference's small, the program's same. -/
import Derived.Test.YtgpemnmopogppaaGreatDoorChecked
import Derived.Lib.Hide
import Derived.ProofKit
import Derived.Laws.IdiomStrings
import Derived.WalkKit
import Derived.Deep.QuietTactic
import Derived.BigQuiet
import Derived.Lib.Strings
import Derived.Test.YtgpemnmopogppaaGreatDoorZUxAQ
import Derived.Lib.SliceRun
namespace Go.Proofs.YtgpemnmopogppaaGreatDoor
open Go.RowKit
abbrev Bytes := List UInt8
def ixOf : Value → Int
  | .int _ q => q
  | _ => 0
theorem drewN' {B : Nat} {w w' : World} (h : Below B w w') (n : Nat) : Below B w (w'.drewN n) := ⟨h.os, h.tape, h.output, h.size, h.block⟩
/-- A new row of bytes, holding l at its head. -/
structure SmallAt (w : World) (l : Bytes) (wr : World) : Prop where
  blk : ∃ cs n, wr.heap[w.heap.size]? = some (.cells cs 5 (n, n + 1)) ∧ l.length ≤ n ∧ n = cs.size ∧ ∀ j (h : j < l.length), cs[j]? = some (.int .u8 (l[j].toNat : Int))
  low : Below w.heap.size w wr
theorem SmallAt.cell {w wr : World} {l : Bytes} (h : SmallAt w l wr) (j : Nat) (hj : j < l.length) : wr.cell? ⟨w.heap.size, j, none⟩ = some (.int .u8 (l[j].toNat : Int)) ∧ wr.frozen? ⟨w.heap.size, j, none⟩ = false := by
  obtain ⟨⟨cs, n, hb, hn, he, hc⟩, _⟩ := h
  refine ⟨(cell_of_row wr _ j cs _ _ hb).trans (hc j hj), ?_⟩
  simp [World.frozen?, hb]
  omega
theorem SmallAt.set_ {w wr : World} {l : Bytes} (h : SmallAt w l wr) (k : Nat) (b : UInt8) : SmallAt w (l.set k b) (wr.setCell ⟨w.heap.size, k, none⟩ (.int .u8 (b.toNat : Int))) := by
  obtain ⟨⟨cs, n, hb, hn, he, hc⟩, hl⟩ := h
  refine ⟨⟨cs.setIfInBounds k (.int .u8 (b.toNat : Int)), n, ?_, by simpa using hn, by simpa using he, fun j hj => ?_⟩, hl.setCell (p := ⟨w.heap.size, k, none⟩) (Nat.le_refl _) _⟩
  · simp [World.setCell, Array.getElem?_modify, hb]
  · have hj' : j < l.length := by simpa using hj
    rw [Array.getElem?_setIfInBounds]
    by_cases e : k = j
    · subst e
      rw [if_pos rfl, if_pos (by omega)]
      simp
    · rw [if_neg e, hc j hj']
      rw [List.getElem_set_ne e]
theorem small_start (w : World) (s : ByteArray) : SmallAt w s.data.toList (w.alloc (.cells (bytesRow s (grownCap w s.size 0 5)) 5 ((bytesRow s (grownCap w s.size 0 5)).size, (bytesRow s (grownCap w s.size 0 5)).size + 1))).drew := by
  have hl := Lib.size_eq s
  refine ⟨⟨_, _, heap_alloc_new w _, ?_, rfl, fun j hj => ?_⟩, ((Below.refl w.heap.size w).alloc (Nat.le_refl _) _).drew⟩
  · unfold bytesRow; simp
  · unfold bytesRow
    have hj' : j < s.data.size := by simpa using hj
    rw [Array.getElem?_append_left (by simpa using hj'), Array.getElem?_map, Array.getElem?_eq_getElem hj']
    simp

end Go.Proofs.YtgpemnmopogppaaGreatDoor
/- (*strings.byteReplacer).Replace with url.path's table: the walk. -/
namespace Go.Proofs.YtgpemnmopogppaaGreatDoor
open Go Go.RowKit
namespace Up
def barC (c : UInt8) : UInt8 := UInt8.ofNat (barN c.toNat)
/-- The first k bytes replaced. -/
def barK (s : Bytes) (k : Nat) : Bytes := (s.take k).map barC ++ s.drop k
theorem barK_len (s : Bytes) (k : Nat) : (barK s k).length = s.length := by simp [barK]; omega
theorem barK_zero (s : Bytes) : barK s 0 = s := by simp [barK]
theorem barK_at (s : Bytes) (k : Nat) (h : k < s.length) : (barK s k)[k]'(by rw [barK_len]; exact h) = s[k] := by
  unfold barK
  rw [List.getElem_append_right (by simp; omega)]
  simp [Nat.min_eq_left (Nat.le_of_lt h)]
theorem barK_succ (s : Bytes) (k : Nat) (h : k < s.length) : barK s (k + 1) = (barK s k).set k (barC s[k]) := by
  unfold barK
  rw [List.set_append_right _ _ (by simp; omega)]
  have e1 : k - (List.map barC (List.take k s)).length = 0 := by simp; omega
  rw [e1, List.drop_eq_getElem_cons h, List.set_cons_zero, List.take_succ_eq_append_getElem h, List.map_append]
  simp
theorem barK_same (s : Bytes) (k : Nat) (h : k < s.length) (e : barC s[k] = s[k]) : barK s (k + 1) = barK s k := by
  rw [barK_succ s k h, e]
  have := barK_at s k h
  conv => lhs; rw [← this]
  exact List.set_getElem_self _
theorem barK_all (s : Bytes) : barK s s.length = s.map barC := by simp [barK]
theorem barN_other {n : Nat} (h1 : n ≠ 32) (h2 : n ≠ 46) : barN n = n := by
  unfold barN
  have b1 : Nat.beq n 32 = false := by rw [Bool.eq_false_iff]; exact fun h => h1 (Nat.eq_of_beq_eq_true h)
  have b2 : Nat.beq n 46 = false := by rw [Bool.eq_false_iff]; exact fun h => h2 (Nat.eq_of_beq_eq_true h)
  rw [b1, b2]
  rfl
set_option maxRecDepth 100000 in
set_option maxHeartbeats 4000000 in
theorem brepl_any {w : World} {T : Nat} (hT : TabAt w T) (s : ByteArray) (hs : s.size ≤ 9223372036854775807) : Calls Tryz.prog 243 #[.pointer (some ⟨T, 0, none⟩), .string s] w fun e w' => e = .returned (.string ⟨(s.data.toList.map barC).toArray⟩) ∧ Below w.heap.size w w' := by
  obtain ⟨V, HV⟩ : ∃ V : ByteArray, Hid ((⟨(s.data.toList.map barC).toArray⟩ : ByteArray) = V) := ⟨_, rfl⟩
  rw [HV.out]
  have hcv := run_bytes_of_string (P := Tryz.prog) w 9 71 5 s Tryz.underlying9 Tryz.underlying71 Tryz.underlying5
  have HCV := Lib.hid hcv
  have HS := Lib.hid (small_start w s)
  have HL := Lib.hid (Lib.size_eq s)
  have HT := Lib.hid hT
  have HTl : Hid (T < w.heap.size) := by
    have h0 := hT 0 (by decide)
    rcases Nat.lt_or_ge T w.heap.size with h' | h'
    · exact h'
    · simp [World.cell?, Array.getElem?_eq_none h'] at h0
  have hne0 : (binOp .eql 71 (.slice none 0 0) (.slice none 0 0)).run Tryz.prog w = .ok (.bool true) w := by
    rw [Lib.run_eql_slice_nil w 71 5 none 0 0 0 0 Tryz.underlying71]
    rfl
  have hne1 : ∀ (wx : World) (a : Addr) (n c : Nat), (binOp .eql 71 (.slice (some a) n c) (.slice none 0 0)).run Tryz.prog wx = .ok (.bool false) wx := fun wx a n c => by
    rw [Lib.run_eql_slice_nil wx 71 5 (some a) n c 0 0 Tryz.underlying71]
    rfl
  clear hT hcv
  go_enter Tryz.func243, Tryz.ntmps243
  go_wp2_with fail
  go_loopw [5, 6] (fun x5 x6 wr => ∃ k : Nat, k ≤ s.size ∧ x6 = .int .i64 k ∧ ((x5 = .slice none 0 0 ∧ wr = w ∧ Hid (barK s.data.toList k = s.data.toList)) ∨ ∃ cap, x5 = .slice (some ⟨w.heap.size, 0, none⟩) s.size cap ∧ Hid (SmallAt w (barK s.data.toList k) wr))) (fun _ x _ => s.size - (ixOf x).toNat)
  case atStart => exact ⟨0, Nat.zero_le _, rfl, .inl ⟨rfl, rfl, barK_zero _⟩⟩
  case round =>
    obtain ⟨k, hk, rfl, hst⟩ := hrel
    by_cases hlt : k < s.size
    · have hlt' : k < s.data.toList.length := by rw [← HL.out]; exact hlt
      have hI : (k : Int) < (s.size : Int) := by omega
      have HN := Lib.hid (barK_succ s.data.toList k hlt')
      have HE := Lib.hid (barK_same s.data.toList k hlt')
      have hsk : s.data.toList[k] = s[k] := by simp [ByteArray.getElem_eq_getElem_data]
      rw [hsk] at HN HE
      have hc1 := s[k].toNat_lt
      by_cases h32 : s[k].toNat = 32
      · have hx : (s[k].toNat : Int) = 32 := by omega
        have hbc : barC s[k] = 95 := by unfold barC; rw [h32]; rfl
        rw [hbc] at HN
        clear hbc hsk HE hc1
        rcases hst with ⟨rfl, rfl, HK⟩ | ⟨cap, rfl, H⟩
        · have ht : wr.cell? ⟨T, 32, none⟩ = some (.int .u8 95) := HT.out 32 (by decide)
          have hcv : (convert 9 71 (.string s)).run Tryz.prog wr = .ok (.slice (some ⟨wr.heap.size, 0, none⟩) s.size (grownCap wr s.size 0 5)) (wr.alloc (.cells (bytesRow s (grownCap wr s.size 0 5)) 5 ((bytesRow s (grownCap wr s.size 0 5)).size, (bytesRow s (grownCap wr s.size 0 5)).size + 1))).drew := HCV.out
          have H2 := Lib.hid (HS.out.set_ k 95)
          obtain ⟨c0, f0⟩ := HS.out.cell k hlt'
          have hcell0 := (HS.out.low.cell (p := ⟨T, 32, none⟩) HTl.out).trans ht
          generalize bytesRow s (grownCap wr s.size 0 5) = br at *
          generalize (wr.alloc (.cells br 5 (br.size, br.size + 1))).drew = w1 at *
          rw [HK.out] at HN
          clear HK HS HT HCV
          go_wp2_with fail
          go_roundw
          case rel => exact ⟨k + 1, by omega, by go_num, .inr ⟨_, rfl, by rw [HN.out]; exact H2.out⟩⟩
          case measure => simp [ixOf] <;> omega
        · have ht : wr.cell? ⟨T, 32, none⟩ = some (.int .u8 95) := (H.out.low.cell (p := ⟨T, 32, none⟩) HTl.out).trans (HT.out 32 (by decide))
          obtain ⟨c0, f0⟩ := H.out.cell k (by rw [barK_len]; exact hlt')
          have H2 := Lib.hid (H.out.set_ k 95)
          have hne := hne1 wr
          clear HS HT HCV H hne1
          go_wp2_with fail
          go_roundw
          case rel => exact ⟨k + 1, by omega, by go_num, .inr ⟨_, rfl, by rw [HN.out]; exact H2.out⟩⟩
          case measure => simp [ixOf] <;> omega
      · skip
        by_cases h46 : s[k].toNat = 46
        · have hx : (s[k].toNat : Int) = 46 := by omega
          have hbc : barC s[k] = 95 := by unfold barC; rw [h46]; rfl
          rw [hbc] at HN
          clear hbc hsk HE hc1
          rcases hst with ⟨rfl, rfl, HK⟩ | ⟨cap, rfl, H⟩
          · have ht : wr.cell? ⟨T, 46, none⟩ = some (.int .u8 95) := HT.out 46 (by decide)
            have hcv : (convert 9 71 (.string s)).run Tryz.prog wr = .ok (.slice (some ⟨wr.heap.size, 0, none⟩) s.size (grownCap wr s.size 0 5)) (wr.alloc (.cells (bytesRow s (grownCap wr s.size 0 5)) 5 ((bytesRow s (grownCap wr s.size 0 5)).size, (bytesRow s (grownCap wr s.size 0 5)).size + 1))).drew := HCV.out
            have H2 := Lib.hid (HS.out.set_ k 95)
            obtain ⟨c0, f0⟩ := HS.out.cell k hlt'
            have hcell0 := (HS.out.low.cell (p := ⟨T, 46, none⟩) HTl.out).trans ht
            generalize bytesRow s (grownCap wr s.size 0 5) = br at *
            generalize (wr.alloc (.cells br 5 (br.size, br.size + 1))).drew = w1 at *
            rw [HK.out] at HN
            clear HK HS HT HCV
            go_wp2_with fail
            go_roundw
            case rel => exact ⟨k + 1, by omega, by go_num, .inr ⟨_, rfl, by rw [HN.out]; exact H2.out⟩⟩
            case measure => simp [ixOf] <;> omega
          · have ht : wr.cell? ⟨T, 46, none⟩ = some (.int .u8 95) := (H.out.low.cell (p := ⟨T, 46, none⟩) HTl.out).trans (HT.out 46 (by decide))
            obtain ⟨c0, f0⟩ := H.out.cell k (by rw [barK_len]; exact hlt')
            have H2 := Lib.hid (H.out.set_ k 95)
            have hne := hne1 wr
            clear HS HT HCV H hne1
            go_wp2_with fail
            go_roundw
            case rel => exact ⟨k + 1, by omega, by go_num, .inr ⟨_, rfl, by rw [HN.out]; exact H2.out⟩⟩
            case measure => simp [ixOf] <;> omega
        · skip
          have hbn := barN_other h32 h46
          have hbc : barC s[k] = s[k] := by unfold barC; rw [hbn]; exact UInt8.ofNat_toNat
          have HE2 := Lib.hid (HE.out hbc)
          clear hbc hsk HN HE h32 h46
          rcases hst with ⟨rfl, rfl, HK⟩ | ⟨cap, rfl, H⟩
          · have ht : wr.cell? ⟨T, s[k].toNat, none⟩ = some (.int .u8 (s[k].toNat : Int)) := by rw [HT.out _ hc1, hbn]
            clear HS HT HCV hbn
            go_wp2_with fail
            go_roundw
            case rel => exact ⟨k + 1, by omega, by go_num, .inl ⟨by trivial, by trivial, by rw [HE2.out]; exact HK.out⟩⟩
            case measure => simp [ixOf] <;> omega
          · have ht : wr.cell? ⟨T, s[k].toNat, none⟩ = some (.int .u8 (s[k].toNat : Int)) := by rw [H.out.low.cell (p := ⟨T, s[k].toNat, none⟩) HTl.out, HT.out _ hc1, hbn]
            clear HS HT HCV hbn
            go_wp2_with fail
            go_roundw
            case rel => exact ⟨k + 1, by omega, by go_num, .inr ⟨_, rfl, by rw [HE2.out]; exact H.out⟩⟩
            case measure => simp [ixOf] <;> omega
    · obtain rfl : k = s.size := by omega
      rcases hst with ⟨rfl, rfl, HK⟩ | ⟨cap, rfl, H⟩
      · have hall : s.data.toList.map barC = s.data.toList := by
          rw [← barK_all, ← HL.out]
          exact HK.out
        obtain rfl : s = V := by rw [← HV.out, hall]
        clear hall HK HS HT HV
        go_wp2_with fail
        go_ret
        exact ⟨rfl, Below.refl _ _⟩
      · have hcb := fun cap => run_convert_bytes_back (P := Tryz.prog) wr 71 9 5 ⟨w.heap.size, 0, none⟩ cap (s.data.toList.map barC) Tryz.underlying71 Tryz.underlying5 Tryz.underlying9 (fun j hj => by
          have hj' : j < s.data.toList.length := by simpa using hj
          have h1 := (H.out.cell j (by rw [barK_len]; exact hj')).1
          have h2 : (barK s.data.toList s.size)[j]'(by rw [barK_len]; exact hj') = (s.data.toList.map barC)[j]'hj := by
            have e : barK s.data.toList s.size = s.data.toList.map barC := by rw [HL.out]; exact barK_all _
            simp only [e]
          rw [h2] at h1
          rw [show (⟨w.heap.size, 0, none⟩ : Addr).add j = ⟨w.heap.size, j, none⟩ by unfold Addr.add; split <;> simp_all]
          exact h1)
        have hlen : (s.data.toList.map barC).length = s.size := by rw [List.length_map, ← HL.out]
        rw [hlen] at hcb
        generalize hgl : s.data.toList.map barC = l at hcb
        have Hgl := Lib.hid hgl
        clear hlen hgl
        have hlow := H.out.low
        obtain rfl : V = ⟨l.toArray⟩ := by rw [← HV.out, Hgl.out]
        clear H HS HT HV
        go_wp2_with fail
        go_ret
        exact ⟨rfl, hlow⟩
end Up
end Go.Proofs.YtgpemnmopogppaaGreatDoor
