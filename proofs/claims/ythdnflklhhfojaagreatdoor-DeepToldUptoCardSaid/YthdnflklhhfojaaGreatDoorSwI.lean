/- deep.show: the walk. -/
import Derived.Test.YthdnflklhhfojaaGreatDoorSwH
import Derived.Test.YthdnflklhhfojaaGreatDoorBld
import Derived.Test.YthdnflklhhfojaaGreatDoorOrH
import Derived.Test.YthdnflklhhfojaaGreatDoorOrF
import Derived.Test.YthdnflklhhfojaaGreatDoorMyJ
import Derived.BigQuiet
namespace Go.Proofs.YthdnflklhhfojaaGreatDoor
open Go Go.RowKit
namespace Sw
open Go.Proofs.YthdnflklhhfojaaGreatDoor.Dp
/-! ### the builder -/
abbrev BuAt (B b : Nat) (l : List UInt8) (w : World) : Prop := Lib.IsBuilderF 45 5 B b (Lib.byteCells l) w
theorem row_below {w w' : World} {B : Nat} {e : TypeId} {v : Value} {n : Nat} {xs : List Value} (h : w.ownsRowF B e 1 v n xs) (hb : Below w.heap.size w w') : w'.ownsRowF B e 1 v n xs := by
  refine ⟨h.1, ?_⟩
  rcases h.2 with h2 | ⟨g, cap, cur, fz, h1, h2, h3, h4⟩
  · exact .inl h2
  · exact .inr ⟨g, cap, cur, fz, h1, h2, by rw [hb.block g (Array.getElem?_eq_some_iff.1 h3).1]; exact h3, h4⟩
theorem at_below {T e : TypeId} {B b : Nat} {p : Value} {bs : List Value} {w w' : World} (h : Lib.BuilderAtF T e B b p bs w) (hb : Below w.heap.size w w') : Lib.BuilderAtF T e B b p bs w' := by
  obtain ⟨hB, v, hbk, hown, hne⟩ := h
  exact ⟨hB, v, by rw [hb.block b (Array.getElem?_eq_some_iff.1 hbk).1]; exact hbk, row_below hown hb, hne⟩
theorem BuAt.below {B b : Nat} {l : List UInt8} {w w' : World} (h : BuAt B b l w) (hb : Below w.heap.size w w') : BuAt B b l w' := by
  rcases h with h | h
  · exact .inl (at_below h hb)
  · exact .inr (at_below h hb)
theorem BuAt.lt {B b : Nat} {l : List UInt8} {w : World} (h : BuAt B b l w) : b < w.heap.size := by
  rcases h with h | h
  · exact h.lt
  · exact h.lt
theorem others_below {e : TypeId} {b : Option Nat} {w w' : World} (hb : Below w.heap.size w w') : Lib.OthersKept e b w w' := fun k o hk _ _ => by
  rw [hb.block k (Array.getElem?_eq_some_iff.1 hk).1]
  exact hk
theorem blk_kept {w w' : World} {k b : Nat} {t : TypeId} {cs : Array Value} (h : Blk w k t cs) (hk : Lib.OthersKept 5 (some b) w w') (hne : k ≠ b) (ht : t ≠ 5) : Blk w' k t cs :=
  hk k _ h (fun e => hne (Option.some.inj e)) (fun c fz e => ht (by injection e))
theorem write_any (B b : Nat) (l : List UInt8) (s : ByteArray) (w : World) (h : BuAt B b l w) (hlen : l.length + s.size ≤ 140737488355328) (hBw : B ≤ w.heap.size) :
    Calls Tryz.prog 28 #[.pointer (some ⟨b, 0, none⟩), .string s] w fun e w' => e = .returned (.tuple #[.int .i64 s.size, .nilIface]) ∧ BuAt B b (l ++ s.data.toList) w' ∧ Below B w w' ∧ Lib.OthersKept 5 (some b) w w' := by
  refine (Bd.text B b (Lib.byteCells l) s w h (by rw [Lib.byteCells_length]; exact hlen) hBw).mono ?_
  rintro e w' ⟨rfl, h1, h2, h3⟩
  refine ⟨rfl, ?_, h2, h3⟩
  rw [Lib.strCells_eq, ← Lib.byteCells_append] at h1
  exact h1
theorem sz_mk (l : List UInt8) : (⟨l.toArray⟩ : ByteArray).size = l.length := List.size_toArray ..
theorem dt_mk (l : List UInt8) : (⟨l.toArray⟩ : ByteArray).data.toList = l := by simp
theorem sz_app (a b : ByteArray) : (a ++ b).size = a.size + b.size := ByteArray.size_append
theorem dt_app (a b : ByteArray) : (a ++ b).data.toList = a.data.toList ++ b.data.toList := by simp
theorem may_items : ∀ (l : List GI) (m : List (Bool × Int × ByteArray)) (n d : Int), mayL l m n d = true → ∀ (i : Nat) (it : GI), l[i]? = some it → mayV it.val (d + 1) = true
  | [], _, _, _, _, i, it, h => by simp at h
  | .mk b i s v :: l, m, n, d, h, j, it, hj => by
    rw [mayL] at h
    by_cases h1 : Nm.normG b i s ≠ (b, i, s)
    · rw [if_pos h1] at h; cases h
    · rw [if_neg h1] at h
      by_cases h2 : (b, i, s) ∈ m
      · rw [if_pos h2] at h; cases h
      · rw [if_neg h2] at h
        by_cases h3 : mayV v (d + 1) = true
        · rw [if_pos h3] at h
          by_cases h4 : b = false ∧ 0 ≤ n ∧ n ≤ i
          · rw [if_pos h4] at h; cases h
          · rw [if_neg h4] at h
            cases j with
            | zero =>
              have : GI.mk b i s v = it := by simpa using hj
              rw [← this]
              exact h3
            | succ j => exact may_items l _ n d h j it (by simpa using hj)
        · rw [if_neg h3] at h; cases h
/-- What a call of show leaves. -/
def Shown (B b : Nat) (l : List UInt8) (w : World) (e : Ending) (w' : World) : Prop := e = .returned (.tuple #[]) ∧ BuAt B b l w' ∧ Below B w w' ∧ Lib.OthersKept 5 (some b) w w'
section
variable {w : World} {B : Nat}
set_option maxRecDepth 100000 in
set_option maxHeartbeats 1000000 in
theorem show_0 (hBw : B ≤ w.heap.size) (_hLib : ∀ w', Below B w w' → LibS w') (n : Int) (t : ByteArray) (A : Option Addr) (l c : Nat) (d : Int) (b : Nat) (bs : List UInt8) (w' : World) (hb : Below B w w') (hbu : BuAt B b bs w') (hlen : bs.length + (nullL : List UInt8).length ≤ 140737488355328) :
    Calls Tryz.prog 36 #[.pointer (some ⟨b, 0, none⟩), .agg #[.int .i64 0, .int .i64 n, .string t, .slice A l c], .int .i64 d] w' (Shown B b (bs ++ nullL) w') := by
  have hB' : B ≤ w'.heap.size := Nat.le_trans hBw hb.size
  have HBu := Lib.hid (Lib.IsBuilderF.alloc hbu (.cells #[.int .i64 0, .int .i64 n, .string t, .slice A l c] 27))
  have HBl := Lib.hid ((Below.refl B w').alloc hB' (.cells #[.int .i64 0, .int .i64 n, .string t, .slice A l c] 27))
  have HOk := Lib.hid ((Lib.OthersKept.refl 5 (some b) w').alloc (.cells #[.int .i64 0, .int .i64 n, .string t, .slice A l c] 27))
  have HSz := Lib.hid (show B ≤ (w'.alloc (.cells #[.int .i64 0, .int .i64 n, .string t, .slice A l c] 27)).heap.size by simp; omega)
  have HLen := Lib.hid hlen
  clear _hLib hb hbu hlen hBw hB'
  go_enter Tryz.func36, Tryz.ntmps36
  go_wp2_with (first | (go_at_call 28; refine (write_any _ _ _ _ _ HBu.out (by have h9 := HLen.out; simp only [nullL, sz_mk, List.length_cons, List.length_nil] at h9 ⊢; omega) HSz.out).mono ?_; rintro e w1 ⟨rfl, hbu, hbl, hok⟩; have HBu := Lib.hid hbu; have HSz := Lib.hid (Nat.le_trans HSz.out hbl.size); have HBl := Lib.hid (HBl.out.trans hbl); have HOk := Lib.hid (HOk.out.trans hok); clear hbu hbl hok))
  go_end0
  exact ⟨rfl, HBu.out, HBl.out, HOk.out⟩
set_option maxRecDepth 100000 in
set_option maxHeartbeats 1000000 in
theorem show_1t (hBw : B ≤ w.heap.size) (_hLib : ∀ w', Below B w w' → LibS w') (t : ByteArray) (A : Option Addr) (l c : Nat) (d : Int) (b : Nat) (bs : List UInt8) (w' : World) (hb : Below B w w') (hbu : BuAt B b bs w') (hlen : bs.length + (trueL : List UInt8).length ≤ 140737488355328) :
    Calls Tryz.prog 36 #[.pointer (some ⟨b, 0, none⟩), .agg #[.int .i64 1, .int .i64 1, .string t, .slice A l c], .int .i64 d] w' (Shown B b (bs ++ trueL) w') := by
  have hB' : B ≤ w'.heap.size := Nat.le_trans hBw hb.size
  have HBu := Lib.hid (Lib.IsBuilderF.alloc hbu (.cells #[.int .i64 1, .int .i64 1, .string t, .slice A l c] 27))
  have HBl := Lib.hid ((Below.refl B w').alloc hB' (.cells #[.int .i64 1, .int .i64 1, .string t, .slice A l c] 27))
  have HOk := Lib.hid ((Lib.OthersKept.refl 5 (some b) w').alloc (.cells #[.int .i64 1, .int .i64 1, .string t, .slice A l c] 27))
  have HSz := Lib.hid (show B ≤ (w'.alloc (.cells #[.int .i64 1, .int .i64 1, .string t, .slice A l c] 27)).heap.size by simp; omega)
  have HLen := Lib.hid hlen
  clear _hLib hb hbu hlen hBw hB'
  go_enter Tryz.func36, Tryz.ntmps36
  go_wp2_with (first | (go_at_call 28; refine (write_any _ _ _ _ _ HBu.out (by have h9 := HLen.out; simp only [trueL, sz_mk, List.length_cons, List.length_nil] at h9 ⊢; omega) HSz.out).mono ?_; rintro e w1 ⟨rfl, hbu, hbl, hok⟩; have HBu := Lib.hid hbu; have HSz := Lib.hid (Nat.le_trans HSz.out hbl.size); have HBl := Lib.hid (HBl.out.trans hbl); have HOk := Lib.hid (HOk.out.trans hok); clear hbu hbl hok))
  go_end0
  exact ⟨rfl, HBu.out, HBl.out, HOk.out⟩
set_option maxRecDepth 100000 in
set_option maxHeartbeats 1000000 in
theorem show_1f (hBw : B ≤ w.heap.size) (_hLib : ∀ w', Below B w w' → LibS w') (n : Int) (t : ByteArray) (A : Option Addr) (l c : Nat) (d : Int) (b : Nat) (bs : List UInt8) (w' : World) (hb : Below B w w') (hbu : BuAt B b bs w') (hn : ¬ n = 1) (hlen : bs.length + (falseL : List UInt8).length ≤ 140737488355328) :
    Calls Tryz.prog 36 #[.pointer (some ⟨b, 0, none⟩), .agg #[.int .i64 1, .int .i64 n, .string t, .slice A l c], .int .i64 d] w' (Shown B b (bs ++ falseL) w') := by
  have hB' : B ≤ w'.heap.size := Nat.le_trans hBw hb.size
  have HBu := Lib.hid (Lib.IsBuilderF.alloc hbu (.cells #[.int .i64 1, .int .i64 n, .string t, .slice A l c] 27))
  have HBl := Lib.hid ((Below.refl B w').alloc hB' (.cells #[.int .i64 1, .int .i64 n, .string t, .slice A l c] 27))
  have HOk := Lib.hid ((Lib.OthersKept.refl 5 (some b) w').alloc (.cells #[.int .i64 1, .int .i64 n, .string t, .slice A l c] 27))
  have HSz := Lib.hid (show B ≤ (w'.alloc (.cells #[.int .i64 1, .int .i64 n, .string t, .slice A l c] 27)).heap.size by simp; omega)
  have HLen := Lib.hid hlen
  have bn : (n == 1) = false := by simpa using hn
  clear _hLib hb hbu hlen hBw hB'
  go_enter Tryz.func36, Tryz.ntmps36
  go_wp2_with (first | (go_at_call 28; refine (write_any _ _ _ _ _ HBu.out (by have h9 := HLen.out; simp only [falseL, sz_mk, List.length_cons, List.length_nil] at h9 ⊢; omega) HSz.out).mono ?_; rintro e w1 ⟨rfl, hbu, hbl, hok⟩; have HBu := Lib.hid hbu; have HSz := Lib.hid (Nat.le_trans HSz.out hbl.size); have HBl := Lib.hid (HBl.out.trans hbl); have HOk := Lib.hid (HOk.out.trans hok); clear hbu hbl hok))
  go_end0
  exact ⟨rfl, HBu.out, HBl.out, HOk.out⟩
set_option maxRecDepth 100000 in
set_option maxHeartbeats 1000000 in
theorem show_2 (hBw : B ≤ w.heap.size) (hLib : ∀ w', Below B w w' → LibS w') (n : Int) (t : ByteArray) (A : Option Addr) (l c : Nat) (d : Int) (b : Nat) (bs : List UInt8) (w' : World) (hb : Below B w w') (hbu : BuAt B b bs w') (hn : In64 n) (hlen : bs.length + (Lib.itoa n : List UInt8).length ≤ 140737488355328) :
    Calls Tryz.prog 36 #[.pointer (some ⟨b, 0, none⟩), .agg #[.int .i64 2, .int .i64 n, .string t, .slice A l c], .int .i64 d] w' (Shown B b (bs ++ Lib.itoa n) w') := by
  have hB' : B ≤ w'.heap.size := Nat.le_trans hBw hb.size
  have HBu := Lib.hid (Lib.IsBuilderF.alloc hbu (.cells #[.int .i64 2, .int .i64 n, .string t, .slice A l c] 27))
  have HBl := Lib.hid ((Below.refl B w').alloc hB' (.cells #[.int .i64 2, .int .i64 n, .string t, .slice A l c] 27))
  have HOk := Lib.hid ((Lib.OthersKept.refl 5 (some b) w').alloc (.cells #[.int .i64 2, .int .i64 n, .string t, .slice A l c] 27))
  have HSz := Lib.hid (show B ≤ (w'.alloc (.cells #[.int .i64 2, .int .i64 n, .string t, .slice A l c] 27)).heap.size by simp; omega)
  have HLen := Lib.hid hlen
  have HLib := Lib.hid hLib
  have Hb := Lib.hid hb
  have HDg := Lib.hid (fun w1 h1 => cdigits_any n w1 hn h1)
  clear hn
  clear hLib hb hbu hlen hBw hB'
  go_enter Tryz.func36, Tryz.ntmps36
  go_wp2_with (first | (go_at_call 56; refine (HDg.out _ (HLib.out _ (Hb.out.trans HBl.out))).mono ?_; rintro e w1 ⟨rfl, hb⟩; have HBu := Lib.hid (BuAt.below HBu.out hb); have HSz0 := HSz; have HSz := Lib.hid (Nat.le_trans HSz.out hb.size); have HBl := Lib.hid (HBl.out.trans (hb.mono HSz0.out)); have HOk := Lib.hid (HOk.out.trans (others_below hb)); clear hb HSz0) | (go_at_call 28; refine (write_any _ _ _ _ _ HBu.out (by have h9 := HLen.out; simp only [sz_mk] at h9 ⊢; omega) HSz.out).mono ?_; rintro e w1 ⟨rfl, hbu, hbl, hok⟩; have HBu := Lib.hid hbu; have HSz := Lib.hid (Nat.le_trans HSz.out hbl.size); have HBl := Lib.hid (HBl.out.trans hbl); have HOk := Lib.hid (HOk.out.trans hok); clear hbu hbl hok))
  go_end0
  exact ⟨rfl, HBu.out, HBl.out, HOk.out⟩
set_option maxRecDepth 100000 in
set_option maxHeartbeats 1000000 in
theorem show_3 (hBw : B ≤ w.heap.size) (hLib : ∀ w', Below B w w' → LibS w') (n : Int) (t : ByteArray) (A : Option Addr) (l c : Nat) (d : Int) (b : Nat) (bs : List UInt8) (w' : World) (hb : Below B w w') (hbu : BuAt B b bs w') (ht : t.size ≤ 1048576) (hlen : bs.length + (quoteL t.data.toList : List UInt8).length ≤ 140737488355328) :
    Calls Tryz.prog 36 #[.pointer (some ⟨b, 0, none⟩), .agg #[.int .i64 3, .int .i64 n, .string t, .slice A l c], .int .i64 d] w' (Shown B b (bs ++ quoteL t.data.toList) w') := by
  have hB' : B ≤ w'.heap.size := Nat.le_trans hBw hb.size
  have HBu := Lib.hid (Lib.IsBuilderF.alloc hbu (.cells #[.int .i64 3, .int .i64 n, .string t, .slice A l c] 27))
  have HBl := Lib.hid ((Below.refl B w').alloc hB' (.cells #[.int .i64 3, .int .i64 n, .string t, .slice A l c] 27))
  have HOk := Lib.hid ((Lib.OthersKept.refl 5 (some b) w').alloc (.cells #[.int .i64 3, .int .i64 n, .string t, .slice A l c] 27))
  have HSz := Lib.hid (show B ≤ (w'.alloc (.cells #[.int .i64 3, .int .i64 n, .string t, .slice A l c] 27)).heap.size by simp; omega)
  have HLen := Lib.hid hlen
  have HLib := Lib.hid hLib
  have Hb := Lib.hid hb
  have HQ := Lib.hid (fun w1 h1 => quote_any t ht w1 h1)
  clear ht
  clear hLib hb hbu hlen hBw hB'
  go_enter Tryz.func36, Tryz.ntmps36
  go_wp2_with (first | (go_at_call 57; refine (HQ.out _ (HLib.out _ (Hb.out.trans HBl.out))).mono ?_; rintro e w1 ⟨rfl, hb⟩; have HBu := Lib.hid (BuAt.below HBu.out hb); have HSz0 := HSz; have HSz := Lib.hid (Nat.le_trans HSz.out hb.size); have HBl := Lib.hid (HBl.out.trans (hb.mono HSz0.out)); have HOk := Lib.hid (HOk.out.trans (others_below hb)); clear hb HSz0) | (go_at_call 28; refine (write_any _ _ _ _ _ HBu.out (by have h9 := HLen.out; simp only [sz_mk] at h9 ⊢; omega) HSz.out).mono ?_; rintro e w1 ⟨rfl, hbu, hbl, hok⟩; have HBu := Lib.hid hbu; have HSz := Lib.hid (Nat.le_trans HSz.out hbl.size); have HBl := Lib.hid (HBl.out.trans hbl); have HOk := Lib.hid (HOk.out.trans hok); clear hbu hbl hok))
  go_end0
  exact ⟨rfl, HBu.out, HBl.out, HOk.out⟩
set_option maxRecDepth 100000 in
set_option maxHeartbeats 1000000 in
theorem show_5 (hBw : B ≤ w.heap.size) (hLib : ∀ w', Below B w w' → LibS w') (n : Int) (t : ByteArray) (A : Option Addr) (l c : Nat) (d : Int) (b : Nat) (bs : List UInt8) (w' : World) (hb : Below B w w') (hbu : BuAt B b bs w') (hn : In64 n) (hlen : bs.length + ((objL ++ Lib.itoa n ++ [41]) : List UInt8).length ≤ 140737488355328) :
    Calls Tryz.prog 36 #[.pointer (some ⟨b, 0, none⟩), .agg #[.int .i64 5, .int .i64 n, .string t, .slice A l c], .int .i64 d] w' (Shown B b (bs ++ (objL ++ Lib.itoa n ++ [41])) w') := by
  have hB' : B ≤ w'.heap.size := Nat.le_trans hBw hb.size
  have HBu := Lib.hid (Lib.IsBuilderF.alloc hbu (.cells #[.int .i64 5, .int .i64 n, .string t, .slice A l c] 27))
  have HBl := Lib.hid ((Below.refl B w').alloc hB' (.cells #[.int .i64 5, .int .i64 n, .string t, .slice A l c] 27))
  have HOk := Lib.hid ((Lib.OthersKept.refl 5 (some b) w').alloc (.cells #[.int .i64 5, .int .i64 n, .string t, .slice A l c] 27))
  have HSz := Lib.hid (show B ≤ (w'.alloc (.cells #[.int .i64 5, .int .i64 n, .string t, .slice A l c] 27)).heap.size by simp; omega)
  have HLen := Lib.hid (show bs.length + (7 + (Lib.itoa n).length + 1) ≤ 140737488355328 by simp only [objL, List.length_append, List.length_cons, List.length_nil] at hlen; omega)
  have HLib := Lib.hid hLib
  have Hb := Lib.hid hb
  have HDg := Lib.hid (fun w1 h1 => cdigits_any n w1 hn h1)
  have hil := itoa_len n hn.1 hn.2
  have g1 : ¬ 9223372036854775807 < 7 + (⟨(Lib.itoa n).toArray⟩ : ByteArray).size := by rw [sz_mk]; omega
  have g2 : ¬ 9223372036854775807 < 7 + (⟨(Lib.itoa n).toArray⟩ : ByteArray).size + 1 := by rw [sz_mk]; omega
  clear hn hil
  clear hLib hb hbu hlen hBw hB'
  go_enter Tryz.func36, Tryz.ntmps36
  go_wp2_with (first | (go_at_call 56; refine (HDg.out _ (HLib.out _ (Hb.out.trans HBl.out))).mono ?_; rintro e w1 ⟨rfl, hb⟩; have HBu := Lib.hid (BuAt.below HBu.out hb); have HSz0 := HSz; have HSz := Lib.hid (Nat.le_trans HSz.out hb.size); have HBl := Lib.hid (HBl.out.trans (hb.mono HSz0.out)); have HOk := Lib.hid (HOk.out.trans (others_below hb)); clear hb HSz0) | (go_at_call 28; refine (write_any _ _ _ _ _ HBu.out (by have h9 := HLen.out; simp only [sz_app, sz_mk, List.length_cons, List.length_nil] at h9 ⊢; omega) HSz.out).mono ?_; rintro e w1 ⟨rfl, hbu, hbl, hok⟩; have HBu := Lib.hid hbu; have HSz := Lib.hid (Nat.le_trans HSz.out hbl.size); have HBl := Lib.hid (HBl.out.trans hbl); have HOk := Lib.hid (HOk.out.trans hok); clear hbu hbl hok))
  go_end0
  exact ⟨rfl, by have := HBu.out; simpa [objL] using this, HBl.out, HOk.out⟩
set_option maxRecDepth 100000 in
set_option maxHeartbeats 4000000 in
theorem show_list (hBw : B ≤ w.heap.size) (hLib : ∀ w', Below B w w' → LibS w') (n : Int) (t : ByteArray) (l : List GI) (A : Option Addr) (c b' off : Nat) (C : Nat → Value)
    (hA : 0 < l.length → A = some ⟨b', off, none⟩ ∧ b' < B) (hi : ∀ i it, l[i]? = some it → ItemAt w b' (off + i * 7) it (C i)) (hW : ∀ i it, l[i]? = some it → VAt w B it.val (C i))
    (hF : ∀ (i : Nat) (it : GI), l[i]? = some it → In64 it.int ∧ it.text.size ≤ 1048576) (d : Nat) (hd : d ≤ 63) (hll : l.length ≤ 2048)
    (ih : ∀ i it, l[i]? = some it → ∀ (b : Nat) (bs : List UInt8) (w1 : World), Below B w w1 → BuAt B b bs w1 → bs.length + (showV it.val (d + 1)).length ≤ 140737488355328 → Calls Tryz.prog 36 #[.pointer (some ⟨b, 0, none⟩), C i, .int .i64 ((d + 1 : Nat) : Int)] w1 (Shown B b (bs ++ showV it.val (d + 1)) w1))
    (b : Nat) (bs : List UInt8) (w' : World) (hb : Below B w w') (hbu : BuAt B b bs w') (hlen : bs.length + (arrL ++ (showL l d ++ (spaces (2 * d) ++ [41]))).length ≤ 140737488355328) :
    Calls Tryz.prog 36 #[.pointer (some ⟨b, 0, none⟩), .agg #[.int .i64 4, .int .i64 n, .string t, .slice A l.length c], .int .i64 (d : Int)] w' (Shown B b (bs ++ (arrL ++ (showL l d ++ (spaces (2 * d) ++ [41])))) w') := by
  have hB' : B ≤ w'.heap.size := Nat.le_trans hBw hb.size
  have HBuI := Lib.hid (Lib.IsBuilderF.alloc hbu (.cells #[.int .i64 4, .int .i64 n, .string t, .slice A l.length c] 27))
  have HBlI := Lib.hid ((Below.refl B w').alloc hB' (.cells #[.int .i64 4, .int .i64 n, .string t, .slice A l.length c] 27))
  have HOkI := Lib.hid ((Lib.OthersKept.refl 5 (some b) w').alloc (.cells #[.int .i64 4, .int .i64 n, .string t, .slice A l.length c] 27))
  have HSzI := Lib.hid (show B ≤ (w'.alloc (.cells #[.int .i64 4, .int .i64 n, .string t, .slice A l.length c] 27)).heap.size by simp; omega)
  have HXI := Lib.hid (Blk.new w' 27 #[.int .i64 4, .int .i64 n, .string t, .slice A l.length c])
  have HNe := Lib.hid (show w'.heap.size ≠ b by have := BuAt.lt hbu; omega)
  have HLib := Lib.hid hLib
  have Hb := Lib.hid hb
  have HA := Lib.hid hA
  have HI := Lib.hid hi
  have HW := Lib.hid hW
  have HF := Lib.hid hF
  have HV := Lib.hid ih
  obtain ⟨F, hF0⟩ : ∃ z, bs ++ (arrL ++ (showL l d ++ (spaces (2 * d) ++ [41]))) = z := ⟨_, rfl⟩
  have HF0 := Lib.hid hF0
  clear hF0
  have HFl : Hid (F.length ≤ 140737488355328) := by
    show _ ≤ _
    rw [← HF0.out, List.length_append]
    exact hlen
  have HLen : Hid (bs.length + 8 ≤ 140737488355328) := by
    show _ ≤ _
    simp only [arrL, List.length_append, List.length_cons, List.length_nil] at hlen
    omega
  rw [HF0.out]
  have HRep := Lib.hid (fun (m : Nat) (hm : m ≤ 64) w1 h1 => repeat_any m hm w1 h1)
  clear hLib hb hbu hlen hBw hA hi hW hF ih
  go_enter Tryz.func36, Tryz.ntmps36
  go_wp2_with (go_at_call 28; refine (write_any _ _ _ _ _ HBuI.out (by have h9 := HLen.out; simp only [sz_mk, List.length_cons, List.length_nil] at h9 ⊢; omega) HSzI.out).mono ?_; rintro e w1 ⟨rfl, hbu, hbl, hok⟩; have HBu := Lib.hid hbu; have HSz := Lib.hid (Nat.le_trans HSzI.out hbl.size); have HBl := Lib.hid (HBlI.out.trans hbl); have HOk := Lib.hid (HOkI.out.trans hok); have HX := Lib.hid (blk_kept HXI.out hok HNe.out (by decide)); have x0 := HX.out.cell 0; have x1 := HX.out.cell 1; have x2 := HX.out.cell 2; have x3 := HX.out.cell 3; clear hbu hbl hok)
  have HE0 : Hid ((bs ++ (⟨#[97, 114, 114, 97, 121, 32, 40, 10]⟩ : ByteArray).data.toList) ++ (showL (l.drop 0) d ++ (spaces (2 * d) ++ [41])) = F) := by
    show _ = _
    rw [← HF0.out, List.append_assoc]
    rfl
  clear HLen HF0 HBuI HBlI HOkI HSzI HXI
  go_loopw [53] (fun xi wx => ∃ (j : Nat) (L : List UInt8), j ≤ l.length ∧ xi = .int .i64 j ∧ Hid (L ++ (showL (l.drop j) d ++ (spaces (2 * d) ++ [41])) = F) ∧ Hid (BuAt B b L wx) ∧ Hid (Below B w' wx) ∧ Hid (Lib.OthersKept 5 (some b) w' wx) ∧ Hid (B ≤ wx.heap.size)) (fun xi _ => l.length - (ixOf xi).toNat)
  case atStart => exact ⟨0, _, Nat.zero_le _, rfl, HE0, HBu, HBl, HOk, HSz⟩
  case round =>
    clear HE0 HBu HBl HOk HSz
    obtain ⟨j, L, hj, rfl, HE, HBu, HBl, HOk, HSz⟩ := hrel
    by_cases hlt : j < l.length
    · obtain ⟨it, hit⟩ : ∃ it, l[j]? = some it := ⟨_, List.getElem?_eq_getElem hlt⟩
      obtain ⟨rfl, hbB⟩ := HA.out (by omega)
      have hbw : Below B w wr := Hb.out.trans (HBl.out)
      have hwr := HSz.out
      obtain ⟨c0, c1, c2, v0, v1, v2, v3, e, c3, c4, c5, c6⟩ := (HI.out j it hit).below hbw hbB
      have hform := HW.out j it hit
      rw [e] at hform
      obtain ⟨k1, n1, t1, A1, l1, e1, rfl, rfl, rfl, rfl⟩ := hform.form
      obtain ⟨hki, hks⟩ := HF.out j it hit
      have hR := HV.out j it hit
      rw [e] at hR
      have HR := Lib.hid hR
      have hE := HE.out
      rw [showL_drop l j it hit d] at hE
      clear hR hform e HV HW HI HF HE
      generalize it.isText = ib at *
      generalize it.int = ii at *
      generalize it.text = is at *
      generalize showV it.val (d + 1) = SV at *
      have HEE := Lib.hid hE
      have HLen : Hid (L.length + ((2 * (d + 1)) + ((keyL ib ii is).length + (4 + (SV.length + 2)))) ≤ 140737488355328) := by
        show _ ≤ _
        have h1 := congrArg List.length hE
        have h2 := HFl.out
        simp only [spaces, toL, List.length_append, List.length_replicate, List.length_cons, List.length_nil] at h1
        omega
      clear hE
      have hwrap : IntKind.i64.wrap ((d : Int) + 1) = ((d + 1 : Nat) : Int) := by rw [IntWalk.i64_in _ (by omega)]; omega
      have HRp := Lib.hid (HRep.out (d + 1) (by omega))
      have HX1 := Lib.hid (Blk.new wr 65 #[.bool ib, .int .i64 ii, .string is, .int .i64 k1, .int .i64 n1, .string t1, .slice A1 l1 e1])
      have HN1 := Lib.hid (show wr.heap.size ≠ b by have := BuAt.lt HBu.out; omega)
      have HBu := Lib.hid (Lib.IsBuilderF.alloc HBu.out (.cells #[.bool ib, .int .i64 ii, .string is, .int .i64 k1, .int .i64 n1, .string t1, .slice A1 l1 e1] 65))
      have HBl := Lib.hid (HBl.out.alloc HSz.out (.cells #[.bool ib, .int .i64 ii, .string is, .int .i64 k1, .int .i64 n1, .string t1, .slice A1 l1 e1] 65))
      have HOk := Lib.hid (HOk.out.alloc (.cells #[.bool ib, .int .i64 ii, .string is, .int .i64 k1, .int .i64 n1, .string t1, .slice A1 l1 e1] 65))
      have HSz := Lib.hid (show B ≤ (wr.alloc (.cells #[.bool ib, .int .i64 ii, .string is, .int .i64 k1, .int .i64 n1, .string t1, .slice A1 l1 e1] 65)).heap.size by simp; omega)
      have y0 := HX1.out.cell 0
      have y1 := HX1.out.cell 1
      have y2 := HX1.out.cell 2
      have y3 := HX1.out.cell 3
      have y4 := HX1.out.cell 4
      have y5 := HX1.out.cell 5
      have y6 := HX1.out.cell 6
      cases ib with
      | true =>
        have HK := Lib.hid (fun w1 h1 => quote_any is hks w1 h1)
        have hkl : keyL true ii is = quoteL is.data.toList := rfl
        rw [hkl] at HLen HEE
        clear hki hks hkl
        go_wp2_with (first | (go_at_call 58; refine (HRp.out _ (HLib.out _ (Hb.out.trans HBl.out))).mono ?_; rintro e w1 ⟨rfl, hb⟩; have HBu := Lib.hid (BuAt.below HBu.out hb); have HSz0 := HSz; have HSz := Lib.hid (Nat.le_trans HSz.out hb.size); have HBl := Lib.hid (HBl.out.trans (hb.mono HSz0.out)); have HOk := Lib.hid (HOk.out.trans (others_below hb)); have HX1 := Lib.hid (blk_kept HX1.out (others_below (b := some b) hb) HN1.out (by decide)); have y0 := HX1.out.cell 0; have y1 := HX1.out.cell 1; have y2 := HX1.out.cell 2; have y3 := HX1.out.cell 3; have y4 := HX1.out.cell 4; have y5 := HX1.out.cell 5; have y6 := HX1.out.cell 6; clear hb HSz0) | (go_at_call 57; refine (HK.out _ (HLib.out _ (Hb.out.trans HBl.out))).mono ?_; rintro e w1 ⟨rfl, hb⟩; have HBu := Lib.hid (BuAt.below HBu.out hb); have HSz0 := HSz; have HSz := Lib.hid (Nat.le_trans HSz.out hb.size); have HBl := Lib.hid (HBl.out.trans (hb.mono HSz0.out)); have HOk := Lib.hid (HOk.out.trans (others_below hb)); have HX1 := Lib.hid (blk_kept HX1.out (others_below (b := some b) hb) HN1.out (by decide)); have y0 := HX1.out.cell 0; have y1 := HX1.out.cell 1; have y2 := HX1.out.cell 2; have y3 := HX1.out.cell 3; have y4 := HX1.out.cell 4; have y5 := HX1.out.cell 5; have y6 := HX1.out.cell 6; clear hb HSz0) | (go_at_call 36; refine (HR.out _ _ _ (Hb.out.trans HBl.out) HBu.out (by have h9 := HLen.out; simp only [spaces, List.length_append, List.length_cons, List.length_nil, List.length_replicate] at h9 ⊢; omega)).mono ?_; rintro e w1 ⟨rfl, hbu, hbl, hok⟩; have HBu := Lib.hid hbu; have HSz := Lib.hid (Nat.le_trans HSz.out hbl.size); have HBl := Lib.hid (HBl.out.trans hbl); have HOk := Lib.hid (HOk.out.trans hok); have HX1 := Lib.hid (blk_kept HX1.out hok HN1.out (by decide)); have y0 := HX1.out.cell 0; have y1 := HX1.out.cell 1; have y2 := HX1.out.cell 2; have y3 := HX1.out.cell 3; have y4 := HX1.out.cell 4; have y5 := HX1.out.cell 5; have y6 := HX1.out.cell 6; clear hbu hbl hok) | (go_at_call 28; refine (write_any _ _ _ _ _ HBu.out (by have h9 := HLen.out; simp only [spaces, sz_mk, List.length_append, List.length_cons, List.length_nil, List.length_replicate] at h9 ⊢; omega) HSz.out).mono ?_; rintro e w1 ⟨rfl, hbu, hbl, hok⟩; have HBu := Lib.hid hbu; have HSz := Lib.hid (Nat.le_trans HSz.out hbl.size); have HBl := Lib.hid (HBl.out.trans hbl); have HOk := Lib.hid (HOk.out.trans hok); have HX1 := Lib.hid (blk_kept HX1.out hok HN1.out (by decide)); have y0 := HX1.out.cell 0; have y1 := HX1.out.cell 1; have y2 := HX1.out.cell 2; have y3 := HX1.out.cell 3; have y4 := HX1.out.cell 4; have y5 := HX1.out.cell 5; have y6 := HX1.out.cell 6; clear hbu hbl hok))
        have HE3 : Hid ((((((L ++ spaces (2 * (d + 1))) ++ quoteL is.data.toList) ++ toL) ++ SV) ++ [44, 10]) ++ (showL (l.drop (j + 1)) d ++ (spaces (2 * d) ++ [41])) = F) := by
          show _ = _
          rw [← HEE.out]
          simp only [List.append_assoc]
        have HBu3 : Hid (BuAt B b (((((L ++ spaces (2 * (d + 1))) ++ quoteL is.data.toList) ++ toL) ++ SV) ++ [44, 10]) w1) := HBu.out
        go_roundw
        case rel => exact ⟨j + 1, _, by omega, by go_num, HE3, HBu3, HBl, HOk, HSz⟩
        case measure => simp [ixOf] <;> omega
      | false =>
        have HK := Lib.hid (fun w1 h1 => cdigits_any ii w1 hki h1)
        have hkl : keyL false ii is = Lib.itoa ii := rfl
        rw [hkl] at HLen HEE
        clear hki hks hkl
        go_wp2_with (first | (go_at_call 58; refine (HRp.out _ (HLib.out _ (Hb.out.trans HBl.out))).mono ?_; rintro e w1 ⟨rfl, hb⟩; have HBu := Lib.hid (BuAt.below HBu.out hb); have HSz0 := HSz; have HSz := Lib.hid (Nat.le_trans HSz.out hb.size); have HBl := Lib.hid (HBl.out.trans (hb.mono HSz0.out)); have HOk := Lib.hid (HOk.out.trans (others_below hb)); have HX1 := Lib.hid (blk_kept HX1.out (others_below (b := some b) hb) HN1.out (by decide)); have y0 := HX1.out.cell 0; have y1 := HX1.out.cell 1; have y2 := HX1.out.cell 2; have y3 := HX1.out.cell 3; have y4 := HX1.out.cell 4; have y5 := HX1.out.cell 5; have y6 := HX1.out.cell 6; clear hb HSz0) | (go_at_call 56; refine (HK.out _ (HLib.out _ (Hb.out.trans HBl.out))).mono ?_; rintro e w1 ⟨rfl, hb⟩; have HBu := Lib.hid (BuAt.below HBu.out hb); have HSz0 := HSz; have HSz := Lib.hid (Nat.le_trans HSz.out hb.size); have HBl := Lib.hid (HBl.out.trans (hb.mono HSz0.out)); have HOk := Lib.hid (HOk.out.trans (others_below hb)); have HX1 := Lib.hid (blk_kept HX1.out (others_below (b := some b) hb) HN1.out (by decide)); have y0 := HX1.out.cell 0; have y1 := HX1.out.cell 1; have y2 := HX1.out.cell 2; have y3 := HX1.out.cell 3; have y4 := HX1.out.cell 4; have y5 := HX1.out.cell 5; have y6 := HX1.out.cell 6; clear hb HSz0) | (go_at_call 36; refine (HR.out _ _ _ (Hb.out.trans HBl.out) HBu.out (by have h9 := HLen.out; simp only [spaces, List.length_append, List.length_cons, List.length_nil, List.length_replicate] at h9 ⊢; omega)).mono ?_; rintro e w1 ⟨rfl, hbu, hbl, hok⟩; have HBu := Lib.hid hbu; have HSz := Lib.hid (Nat.le_trans HSz.out hbl.size); have HBl := Lib.hid (HBl.out.trans hbl); have HOk := Lib.hid (HOk.out.trans hok); have HX1 := Lib.hid (blk_kept HX1.out hok HN1.out (by decide)); have y0 := HX1.out.cell 0; have y1 := HX1.out.cell 1; have y2 := HX1.out.cell 2; have y3 := HX1.out.cell 3; have y4 := HX1.out.cell 4; have y5 := HX1.out.cell 5; have y6 := HX1.out.cell 6; clear hbu hbl hok) | (go_at_call 28; refine (write_any _ _ _ _ _ HBu.out (by have h9 := HLen.out; simp only [spaces, sz_mk, List.length_append, List.length_cons, List.length_nil, List.length_replicate] at h9 ⊢; omega) HSz.out).mono ?_; rintro e w1 ⟨rfl, hbu, hbl, hok⟩; have HBu := Lib.hid hbu; have HSz := Lib.hid (Nat.le_trans HSz.out hbl.size); have HBl := Lib.hid (HBl.out.trans hbl); have HOk := Lib.hid (HOk.out.trans hok); have HX1 := Lib.hid (blk_kept HX1.out hok HN1.out (by decide)); have y0 := HX1.out.cell 0; have y1 := HX1.out.cell 1; have y2 := HX1.out.cell 2; have y3 := HX1.out.cell 3; have y4 := HX1.out.cell 4; have y5 := HX1.out.cell 5; have y6 := HX1.out.cell 6; clear hbu hbl hok))
        have HE3 : Hid ((((((L ++ spaces (2 * (d + 1))) ++ Lib.itoa ii) ++ toL) ++ SV) ++ [44, 10]) ++ (showL (l.drop (j + 1)) d ++ (spaces (2 * d) ++ [41])) = F) := by
          show _ = _
          rw [← HEE.out]
          simp only [List.append_assoc]
        have HBu3 : Hid (BuAt B b (((((L ++ spaces (2 * (d + 1))) ++ Lib.itoa ii) ++ toL) ++ SV) ++ [44, 10]) w1) := HBu.out
        go_roundw
        case rel => exact ⟨j + 1, _, by omega, by go_num, HE3, HBu3, HBl, HOk, HSz⟩
        case measure => simp [ixOf] <;> omega
    · have hjl : j = l.length := by omega
      have HE2 : Hid (L ++ (spaces (2 * d) ++ [41]) = F) := by
        show _ = _
        rw [← HE.out, hjl, List.drop_length, showL]
        rfl
      have HLen : Hid (L.length + (2 * d + 1) ≤ 140737488355328) := by
        show _ ≤ _
        have h1 := congrArg List.length HE2.out
        have h2 := HFl.out
        simp only [spaces, List.length_append, List.length_replicate, List.length_cons, List.length_nil] at h1
        omega
      have HRp := Lib.hid (HRep.out d (by omega))
      have g1 : ¬ 9223372036854775807 < (⟨(spaces (2 * d)).toArray⟩ : ByteArray).size + 1 := by rw [sz_mk]; simp only [spaces, List.length_replicate]; omega
      clear HE HI HW HF HV HA
      go_wp2_with (first | (go_at_call 58; refine (HRp.out _ (HLib.out _ (Hb.out.trans HBl.out))).mono ?_; rintro e w1 ⟨rfl, hb⟩; have HBu := Lib.hid (BuAt.below HBu.out hb); have HSz0 := HSz; have HSz := Lib.hid (Nat.le_trans HSz.out hb.size); have HBl := Lib.hid (HBl.out.trans (hb.mono HSz0.out)); have HOk := Lib.hid (HOk.out.trans (others_below hb)); clear hb HSz0) | (go_at_call 28; refine (write_any _ _ _ _ _ HBu.out (by have h9 := HLen.out; simp only [spaces, sz_app, sz_mk, List.length_cons, List.length_nil, List.length_replicate] at h9 ⊢; omega) HSz.out).mono ?_; rintro e w1 ⟨rfl, hbu, hbl, hok⟩; have HBu := Lib.hid hbu; have HSz := Lib.hid (Nat.le_trans HSz.out hbl.size); have HBl := Lib.hid (HBl.out.trans hbl); have HOk := Lib.hid (HOk.out.trans hok); clear hbu hbl hok))
      go_end0
      refine ⟨rfl, ?_, HBl.out, HOk.out⟩
      rw [← HE2.out]
      have := HBu.out
      rw [dt_app, dt_mk] at this
      exact this
end
end Sw
end Go.Proofs.YthdnflklhhfojaaGreatDoor
