/- strs: a text turned round: the walk. -/
import Derived.Test.YtgjnmfjiolpikaaGreatDoorSbE
import Derived.Test.YtgjnmfjiolpikaaGreatDoorWords
import Derived.Laws.IdiomStrings
import Derived.Deep.QuietTactic
import Derived.BigQuiet
namespace Go.Proofs.YtgjnmfjiolpikaaGreatDoor
open Go Go.RowKit
set_option maxRecDepth 100000
namespace Sb
/-- A new row of bytes, holding l at its head. -/
structure SmallAt (w : World) (l : List UInt8) (wr : World) : Prop where
  blk : ∃ cs n, wr.heap[w.heap.size]? = some (.cells cs 5 (n, n + 1)) ∧ l.length ≤ n ∧ n = cs.size ∧ ∀ j (h : j < l.length), cs[j]? = some (.int .u8 (l[j].toNat : Int))
  low : Below w.heap.size w wr
theorem cell_row (w : World) (i j : Nat) (cs : Array Value) (t : TypeId) (fr : Nat × Nat) (h : w.heap[i]? = some (.cells cs t fr)) : w.cell? ⟨i, j, none⟩ = cs[j]? := by
  simp [World.cell?, h]
theorem SmallAt.cell {w wr : World} {l : List UInt8} (h : SmallAt w l wr) (j : Nat) (hj : j < l.length) : wr.cell? ⟨w.heap.size, j, none⟩ = some (.int .u8 (l[j].toNat : Int)) ∧ wr.frozen? ⟨w.heap.size, j, none⟩ = false := by
  obtain ⟨⟨cs, n, hb, hn, he, hc⟩, _⟩ := h
  refine ⟨(cell_row wr _ j cs _ _ hb).trans (hc j hj), ?_⟩
  simp [World.frozen?, hb]
  omega
theorem SmallAt.set_ {w wr : World} {l : List UInt8} (h : SmallAt w l wr) (k : Nat) (b : UInt8) : SmallAt w (l.set k b) (wr.setCell ⟨w.heap.size, k, none⟩ (.int .u8 (b.toNat : Int))) := by
  obtain ⟨⟨cs, n, hb, hn, he, hc⟩, hl⟩ := h
  refine ⟨⟨cs.setIfInBounds k (.int .u8 (b.toNat : Int)), n, ?_, by simpa using hn, by simpa using he, fun j hj => ?_⟩, hl.setCell (p := ⟨w.heap.size, k, none⟩) (Nat.le_refl _) _⟩
  · simp [World.setCell, Array.getElem?_modify, hb]
  · have hj' : j < l.length := by simpa using hj
    rw [Array.getElem?_setIfInBounds]
    by_cases e : k = j
    · subst e
      rw [if_pos rfl, if_pos (by omega)]
      simp
    · rw [if_neg e, hc j hj']
      rw [List.getElem_set_ne e]
theorem SmallAt.drew {w wr : World} {l : List UInt8} (h : SmallAt w l wr) : SmallAt w l wr.drew := ⟨h.blk, h.low.drew⟩
theorem small_start (w : World) (s : ByteArray) : SmallAt w s.data.toList (w.alloc (.cells (bytesRow s (grownCap w s.size 0 5)) 5 ((bytesRow s (grownCap w s.size 0 5)).size, (bytesRow s (grownCap w s.size 0 5)).size + 1))).drew := by
  have hl := Lib.size_eq s
  refine ⟨⟨_, _, heap_alloc_new w _, ?_, rfl, fun j hj => ?_⟩, ((Below.refl w.heap.size w).alloc (Nat.le_refl _) _).drew⟩
  · unfold bytesRow; simp
  · unfold bytesRow
    have hj' : j < s.data.size := by simpa using hj
    rw [Array.getElem?_append_left (by simpa using hj'), Array.getElem?_map, Array.getElem?_eq_getElem hj']
    simp
/-- The first and the last k bytes, changed for one another. -/
def revK (l : List UInt8) : Nat → List UInt8
  | 0 => l
  | k + 1 => ((revK l k).set k (l.getD (l.length - 1 - k) 0)).set (l.length - 1 - k) (l.getD k 0)
theorem revK_len (l : List UInt8) : ∀ k, (revK l k).length = l.length
  | 0 => rfl
  | k + 1 => by rw [revK, List.length_set, List.length_set, revK_len l k]
theorem revK_at (l : List UInt8) : ∀ (k : Nat), 2 * k ≤ l.length → ∀ x, x < l.length → (revK l k)[x]? = some (if x < k ∨ l.length ≤ x + k then l.getD (l.length - 1 - x) 0 else l.getD x 0)
  | 0, _, x, hx => by
    rw [if_neg (by omega), revK, List.getElem?_eq_getElem hx]
    simp [hx]
  | k + 1, hk, x, hx => by
    have ih := revK_at l k (by omega) x hx
    rw [revK]
    by_cases h1 : l.length - 1 - k = x
    · rw [List.getElem?_set, if_pos h1, if_pos (by rw [List.length_set, revK_len]; omega), if_pos (.inr (by omega))]
      congr 2
      omega
    · rw [List.getElem?_set, if_neg h1, List.getElem?_set]
      by_cases h2 : k = x
      · rw [if_pos h2, if_pos (by rw [revK_len]; omega), if_pos (.inl (by omega))]
        congr 2
        omega
      · rw [if_neg h2, ih]
        congr 1
        by_cases h3 : x < k ∨ l.length ≤ x + k
        · rw [if_pos h3, if_pos (by omega)]
        · rw [if_neg h3, if_neg (by omega)]
theorem revK_end (l : List UInt8) (k : Nat) (h1 : 2 * k ≤ l.length) (h2 : l.length ≤ 2 * k + 1) : revK l k = l.reverse := by
  apply List.ext_getElem?
  intro x
  by_cases hx : x < l.length
  · rw [revK_at l k h1 x hx, List.getElem?_reverse hx]
    have : l.length - 1 - x < l.length := by omega
    rw [List.getElem?_eq_getElem this]
    congr 1
    by_cases h3 : x < k ∨ l.length ≤ x + k
    · rw [if_pos h3]
      simp [this]
    · rw [if_neg h3]
      have e : l.length - 1 - x = x := by omega
      simp [e, hx]
  · rw [List.getElem?_eq_none (by rw [revK_len]; omega), List.getElem?_eq_none (by simp; omega)]
theorem revK_get (l : List UInt8) (k : Nat) (h : 2 * k ≤ l.length) (x : Nat) (h1 : k ≤ x) (h2 : x + k < l.length) : (revK l k)[x]'(by rw [revK_len]; omega) = l.getD x 0 := by
  have := revK_at l k h x (by omega)
  rw [if_neg (by omega), List.getElem?_eq_getElem (by rw [revK_len]; omega)] at this
  exact Option.some.inj this
set_option maxHeartbeats 4000000 in
theorem reverse_any (w0 : World) (l : List UInt8) (cap : Nat) (hl : l.length ≤ 1000000) (w : World) (hS : SmallAt w0 l w) :
    Calls Tryz.prog 31 #[.slice (some ⟨w0.heap.size, 0, none⟩) l.length cap] w fun e w' => e = .returned (.tuple #[]) ∧ SmallAt w0 l.reverse w' := by
  have HS0 : Hid (SmallAt w0 (revK l 0) w) := hS
  have hw1 : IntKind.i64.wrap ((l.length : Int) - 1) = (l.length : Int) - 1 := IntWalk.i64_in _ (by omega)
  go_enter Tryz.func31, Tryz.ntmps31
  go_wp2_with fail
  go_loopw [2, 3] (fun x2 x3 wx => ∃ (k : Nat), 2 * k ≤ l.length ∧ x2 = .int .i64 k ∧ x3 = .int .i64 ((l.length : Int) - 1 - k) ∧ Hid (SmallAt w0 (revK l k) wx)) (fun x2 _ _ => l.length - (match x2 with | .int _ q => q | _ => 0).toNat)
  case atStart => exact ⟨0, Nat.zero_le _, rfl, by go_num, HS0⟩
  case round =>
    obtain ⟨k, hk, rfl, rfl, H⟩ := hrel
    clear HS0
    by_cases hkl : 2 * k + 1 < l.length
    · have hkI : (k : Int) < (l.length : Int) - 1 - (k : Int) := by omega
      obtain ⟨jn, hjn⟩ : ∃ j : Nat, l.length - 1 - k = j := ⟨_, rfl⟩
      have hjI : (l.length : Int) - 1 - (k : Int) = (jn : Int) := by omega
      rw [hjI] at hkI ⊢
      obtain ⟨c0, f0⟩ := H.out.cell k (by rw [revK_len]; omega)
      obtain ⟨c1, f1⟩ := H.out.cell jn (by rw [revK_len]; omega)
      rw [revK_get l k hk k (Nat.le_refl _) (by omega)] at c0
      rw [revK_get l k hk jn (by omega) (by omega)] at c1
      have HN : Hid (revK l (k + 1) = ((revK l k).set k (l.getD jn 0)).set jn (l.getD k 0)) := by
        show _ = _
        rw [revK, hjn]
      have HS1 := Lib.hid (H.out.set_ k (l.getD jn 0))
      have HS2 := Lib.hid (HS1.out.set_ jn (l.getD k 0))
      have HN2 : Hid (revK l (k + 1) = ((revK l k).set jn (l.getD k 0)).set k (l.getD jn 0)) := by
        show _ = _
        rw [HN.out]
        exact List.set_comm _ _ (by omega)
      have HT1 := Lib.hid (H.out.set_ jn (l.getD k 0))
      have HT2 := Lib.hid (HT1.out.set_ k (l.getD jn 0))
      obtain ⟨-, f2⟩ := HS1.out.cell jn (by rw [List.length_set, revK_len]; omega)
      obtain ⟨-, f3⟩ := HT1.out.cell k (by rw [List.length_set, revK_len]; omega)
      have hkl1 : (k : Int) < (l.length : Int) := by omega
      have hjl1 : (jn : Int) < (l.length : Int) := by omega
      have hw2 : IntKind.i64.wrap ((jn : Int) - 1) = (jn : Int) - 1 := IntWalk.i64_in _ (by omega)
      generalize l.getD jn 0 = bj at *
      generalize l.getD k 0 = bk at *
      clear hw1
      go_upto_region 3 with fail
      go_region
      have HS3 : Hid (SmallAt w0 (revK l (k + 1)) ((wr.setCell ⟨w0.heap.size, k, none⟩ (.int .u8 (bj.toNat : Int))).setCell ⟨w0.heap.size, jn, none⟩ (.int .u8 (bk.toNat : Int))).drew) := by
        show SmallAt _ _ _
        rw [HN.out]
        exact HS2.out.drew
      generalize ((wr.setCell ⟨w0.heap.size, k, none⟩ (.int .u8 (bj.toNat : Int))).setCell ⟨w0.heap.size, jn, none⟩ (.int .u8 (bk.toNat : Int))).drew = wz at *
      clear c0 c1 f0 f1 f2 f3 HS1 HS2 HT1 HT2 HN HN2 H
      go_wp2_with fail
      go_roundw
      case rel => exact ⟨k + 1, by omega, by go_num, by go_num, HS3⟩
      case measure => simp <;> omega
    · have hkI : ¬ (k : Int) < (l.length : Int) - 1 - (k : Int) := by omega
      have HE : Hid (revK l k = l.reverse) := Lib.hid (revK_end l k hk (by omega))
      go_wp2_with fail
      have h2 := H.out
      rw [HE.out] at h2
      go_end0
      exact ⟨rfl, h2⟩
end Sb
end Go.Proofs.YtgjnmfjiolpikaaGreatDoor
