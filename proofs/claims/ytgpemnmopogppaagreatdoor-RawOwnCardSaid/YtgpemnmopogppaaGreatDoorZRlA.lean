import Derived.Test.YtgpemnmopogppaaGreatDoorZUfGQ
import Derived.Test.YtgpemnmopogppaaGreatDoorZRhAQ
import Derived.Lib.SlTrimSet
set_option maxRecDepth 1000000
set_option maxHeartbeats 16000000
namespace Go.Proofs.YtgpemnmopogppaaGreatDoor
open Go Go.RowKit
namespace Rl
open Dp
open Ut
open Url (decF)
def blankC (c : UInt8) : Bool := c == 32 || c == 9
def trimL (l : List UInt8) : List UInt8 := l.dropWhile blankC
def cookF : List (List UInt8) → Nat → GV → GV
 | [], _, g => g
 | p :: r, k, g => if 61 ∈ trimL p then cookF r (k + 1) (if k < 1000 then putQ (decF (cutL 61 (trimL p)).1) (decF (cutL 61 (trimL p)).2) g else g) else cookF r k g
def cookieB : ByteArray := ⟨#[67, 111, 111, 107, 105, 101]⟩
def piecesL : List (ByteArray × ByteArray) → List (List UInt8)
 | [] => []
 | u :: r => if sameS u.1 cookieB = true then splitL 59 u.2.data.toList ++ piecesL r else piecesL r
def cookG (us : List (ByteArray × ByteArray)) : GV := cookF (piecesL us) 0 (.mk 4 0 ⟨#[]⟩ [])
theorem cookF_no {p : List UInt8} {r : List (List UInt8)} {k : Nat} {g : GV} (h : 61 ∉ trimL p) : cookF (p :: r) k g = cookF r k g := by rw [cookF, if_neg h]
theorem cookF_put {p : List UInt8} {r : List (List UInt8)} {k : Nat} {g : GV} (h : 61 ∈ trimL p) (hk : k < 1000) : cookF (p :: r) k g = cookF r (k + 1) (putQ (decF (cutL 61 (trimL p)).1) (decF (cutL 61 (trimL p)).2) g) := by rw [cookF, if_pos h, if_pos hk]
theorem cookF_full {p : List UInt8} {r : List (List UInt8)} {k : Nat} {g : GV} (h : 61 ∈ trimL p) (hk : ¬ k < 1000) : cookF (p :: r) k g = cookF r (k + 1) g := by rw [cookF, if_pos h, if_neg hk]
theorem pieces_yes {us : List (ByteArray × ByteArray)} {i : Nat} (hi : i < us.length) (h : sameS (us.getD i default).1 cookieB = true) : piecesL (us.drop i) = splitL 59 (us.getD i default).2.data.toList ++ piecesL (us.drop (i + 1)) := by
 rw [List.drop_eq_getElem_cons hi, piecesL, show us[i] = us.getD i default by simp [hi], if_pos h]
theorem pieces_no {us : List (ByteArray × ByteArray)} {i : Nat} (hi : i < us.length) (h : sameS (us.getD i default).1 cookieB = false) : piecesL (us.drop i) = piecesL (us.drop (i + 1)) := by
 rw [List.drop_eq_getElem_cons hi, piecesL, show us[i] = us.getD i default by simp [hi], if_neg (by rw [h]; simp)]
theorem trim_set (l : List UInt8) : Lib.trimLeftS l [32, 9] = trimL l := by
 unfold Lib.trimLeftS trimL
 congr 1
 funext c
 simp [blankC, List.contains, List.elem]
 cases hc : c == 32 <;> cases hd : c == 9 <;> simp_all
theorem trimL_le (l : List UInt8) : (trimL l).length ≤ l.length := (List.dropWhile_sublist (l := l) blankC).length_le
def seg (V : List UInt8) (a b : Nat) : List UInt8 := (V.take b).drop a
theorem seg_self (V : List UInt8) (a : Nat) : seg V a a = [] := by simp [seg]
theorem seg_cons {V : List UInt8} {a b : Nat} (h : a < b) (hb : b ≤ V.length) : seg V a b = V[a]'(by omega) :: seg V (a + 1) b := by
 unfold seg
 rw [List.drop_eq_getElem_cons (by rw [List.length_take]; omega)]
 simp
theorem seg_snoc {V : List UInt8} {a b : Nat} (h : a ≤ b) (hb : b < V.length) : seg V a (b + 1) = seg V a b ++ [V[b]] := by
 unfold seg
 rw [List.take_add_one, List.getElem?_eq_getElem hb, Option.toList_some, List.drop_append_of_le_length (by rw [List.length_take]; omega)]
theorem seg_len {V : List UInt8} {a b : Nat} (h : a ≤ b) (hb : b ≤ V.length) : (seg V a b).length = b - a := by
 unfold seg
 rw [List.length_drop, List.length_take]
 omega
theorem seg_all (V : List UInt8) (a : Nat) : seg V a V.length = V.drop a := by simp [seg]
theorem seg_split {V : List UInt8} {a b c : Nat} (h : a ≤ b) (h2 : b ≤ c) (hc : c ≤ V.length) : seg V a c = seg V a b ++ seg V b c := by
 unfold seg
 have e : V.take b = (V.take c).take b := by rw [List.take_take, Nat.min_eq_left h2]
 rw [e]
 have hl : (V.take c).length = c := by rw [List.length_take]; omega
 generalize V.take c = X at *
 conv => lhs; rw [← List.take_append_drop b X]
 rw [List.drop_append_of_le_length (by rw [List.length_take]; omega)]
theorem seg_drop {V : List UInt8} {a b : Nat} (h : a ≤ b) (hb : b ≤ V.length) : V.drop a = seg V a b ++ V.drop b := by
 have := seg_split (V := V) h hb (Nat.le_refl _)
 rwa [seg_all, seg_all] at this
theorem ext_seg {V t : List UInt8} {a b : Nat} (h : a ≤ b) (hb : b ≤ V.length) : (mkB (V ++ t)).extract a b = mkB (seg V a b) := by
 have h1 := Uf.ext_at (l := V ++ t) (x := seg V a b) (v := V.drop b ++ t) (a := a) (by rw [List.length_append]; omega) (by
  rw [List.drop_append_of_le_length (by omega), seg_drop h hb, List.append_assoc])
 rwa [seg_len h hb, Nat.add_sub_cancel' h] at h1
def restS (V : List UInt8) (a : Nat) : List (List UInt8) := if a ≤ V.length then splitL 59 (V.drop a) else []
theorem restS_all (V : List UInt8) : restS V 0 = splitL 59 V := by unfold restS; simp
theorem restS_end (V : List UInt8) (a : Nat) (h : ¬ a ≤ V.length) : restS V a = [] := if_neg h
theorem restS_at {V : List UInt8} {a k : Nat} (h : a ≤ k) (hk : k ≤ V.length) (hn : 59 ∉ seg V a k) (he : ∀ (hl : k < V.length), V[k] = 59) : restS V a = seg V a k :: restS V (k + 1) := by
 unfold restS
 rw [if_pos (by omega)]
 by_cases hl : k < V.length
 · rw [if_pos (by omega), seg_drop h hk, List.drop_eq_getElem_cons hl, he hl, splitL_app, splitL_one 59 _ hn]
   rfl
 · rw [if_neg (by omega)]
   obtain rfl : k = V.length := by omega
   rw [seg_drop h hk, List.drop_length, List.append_nil, splitL_one 59 _ hn]
theorem trim_step {V : List UInt8} {f k : Nat} (h : f < k) (hk : k ≤ V.length) (hb : blankC (V[f]'(by omega)) = true) : trimL (seg V f k) = trimL (seg V (f + 1) k) := by
 unfold trimL
 rw [seg_cons h hk, List.dropWhile_cons, if_pos hb]
theorem trim_stop {V : List UInt8} {f k : Nat} (h : f ≤ k) (hk : k ≤ V.length) (hb : ∀ (hf : f < k), blankC (V[f]'(by omega)) = false) : trimL (seg V f k) = seg V f k := by
 unfold trimL
 by_cases hf : f < k
 · rw [seg_cons hf hk, List.dropWhile_cons, if_neg (by rw [hb hf]; simp)]
 · obtain rfl : f = k := by omega
   rw [seg_self]
   rfl
theorem cut_at {V : List UInt8} {f j k : Nat} (h : f ≤ j) (hj : j < k) (hk : k ≤ V.length) (hn : 61 ∉ seg V f j) (he : V[j]'(by omega) = 61) : 61 ∈ seg V f k ∧ cutL 61 (seg V f k) = (seg V f j, seg V (j + 1) k) := by
 rw [seg_split h (by omega) hk, seg_cons hj hk, he]
 exact ⟨by simp, cutL_at 61 _ _ hn⟩
theorem not_snoc {c : UInt8} {V : List UInt8} {a b : Nat} (h : a ≤ b) (hb : b < V.length) (hn : c ∉ seg V a b) (he : V[b] ≠ c) : c ∉ seg V a (b + 1) := by
 rw [seg_snoc h hb, List.mem_append]
 rintro (h1 | h1)
 · exact hn h1
 · simp at h1
   exact he h1.symm
theorem pieces_len (us : List (ByteArray × ByteArray)) (n : Nat) (h : ∀ u ∈ us, u.2.size ≤ n) : (piecesL us).length ≤ us.length * (n + 1) := by
 induction us with
 | nil => simp [piecesL]
 | cons u r ih =>
  have i1 := ih fun v hv => h v (List.mem_cons_of_mem _ hv)
  have h1 := h u List.mem_cons_self
  have h2 := splitL_len 59 u.2.data.toList
  have h3 := Lib.size_eq u.2
  rw [piecesL]
  split
  · rw [List.length_append, List.length_cons, Nat.succ_mul]
    omega
  · rw [List.length_cons, Nat.succ_mul]
    omega
end Rl
end Go.Proofs.YtgpemnmopogppaaGreatDoor
