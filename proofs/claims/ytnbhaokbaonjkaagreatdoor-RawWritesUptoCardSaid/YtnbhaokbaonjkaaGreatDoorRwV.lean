/- RawBack: the law's walk. -/
import Derived.Test.YtnbhaokbaonjkaaGreatDoorRwT
import Derived.Test.YtnbhaokbaonjkaaGreatDoorRwB
import Derived.Test.YtnbhaokbaonjkaaGreatDoorMx10
import Derived.Deep.CutBlock
namespace Go.Proofs.YtnbhaokbaonjkaaGreatDoor
open Go Go.RowKit
namespace Rw
/-- What the laws of requests ask of the world. -/
structure LibR (w : World) : Prop where
  lib : LibS w
  max : ∃ m, w.cell? ⟨0, 0, none⟩ = some (.int .i64 m)
theorem LibR.p {w : World} (h : LibR w) : LibP w := ⟨h.lib.pow, h.max⟩
theorem LibR.below {w w' : World} (h : LibR w) (hb : Below w.heap.size w w') : LibR w' := by
  obtain ⟨m, hm⟩ := h.max
  exact ⟨h.lib.below hb, m, (hb.cell (p := ⟨0, 0, none⟩) (World.block_lt_of_cell? w _ hm)).trans hm⟩
def TextR (m p y b : ByteArray) (us : List (ByteArray × ByteArray)) (X : ByteArray) (k : Int) : Prop :=
  (k = 0 ∧ X = bytes (textB m p y b us) ∧ ∃ q, parseN (textB m p y b us) = some q ∧ sameQ (bytes q.method) (bytes q.path) (bytes q.query) (bytes q.body) m p y b (strs q.heads) us = true) ∨
  (k = 1 ∧ X = ⟨#[]⟩ ∧ ∀ q, parseN (textB m p y b us) = some q → sameQ (bytes q.method) (bytes q.path) (bytes q.query) (bytes q.body) m p y b (strs q.heads) us = false)
theorem textX (m p y b : ByteArray) (A : Option Addr) (c : Nat) (us : List (ByteArray × ByteArray)) (w : World) (hA : PairsAt w w.heap.size A us) (hn : us.length ≤ 1000000000) (hz : (textB m p y b us).length ≤ 1000000000) (hz2 : p.size + y.size + b.size + m.size ≤ 1000000000) (hL : LibP w) :
    Calls Tryz.prog 10 #[.agg #[.string m, .string p, .string y, .slice A us.length c, .string b]] w fun e w' => ∃ X k, e = .returned (.tuple #[.string X, .int .i64 k]) ∧ Below w.heap.size w w' ∧ Hid (TextR m p y b us X k) := by
  refine (text_any m p y b A c us w hA hn hz hz2 hL).mono ?_
  rintro e w' ⟨hb, ⟨q, h1, h2, rfl⟩ | ⟨h1, rfl⟩⟩
  · exact ⟨_, _, rfl, hb, .inl ⟨rfl, rfl, q, h1, h2⟩⟩
  · exact ⟨_, _, rfl, hb, .inr ⟨rfl, rfl, h1⟩⟩
theorem headsB_strs : ∀ l : List (Bytes × Bytes), headsB (strs l) = headsT l
  | [] => rfl
  | (n, v) :: l => by
    have := headsB_strs l
    unfold headsB strs at this
    unfold headsB strs
    rw [List.map_cons, List.flatMap_cons, this, headsT]
    unfold lineB
    simp [bytes]
theorem targetB_list (p y : Bytes) : (targetB (bytes p) (bytes y)).data.toList = if y = [] then p else p ++ 63 :: y := by
  have he : (bytes y).toList.isEmpty = decide (y = []) := by
    rw [Lib.toList_data, bytes_list, Bool.eq_iff_iff]
    simp
  unfold targetB
  rw [he]
  by_cases h : y = []
  · rw [if_pos (by simpa using h), if_pos h, bytes_list]
  · rw [if_neg (by simpa using h), if_neg h]
    simp [bytes]
theorem textB_rq (q : Rq) : textB (bytes q.method) (bytes q.path) (bytes q.query) (bytes q.body) (strs q.heads) = textN q := by
  have h := targetB_list q.path q.query
  unfold textB firstB textN
  rw [headsB_strs]
  simp only [ByteArray.data_append, Array.toList_append, h, targetN]
  simp [bytes, versL]
theorem sameQ_self (q : Rq) : sameQ (bytes q.method) (bytes q.path) (bytes q.query) (bytes q.body) (bytes q.method) (bytes q.path) (bytes q.query) (bytes q.body) (strs q.heads) (strs q.heads) = true := by
  unfold sameQ
  simp
theorem textB_bytes (m p y b : ByteArray) (us : List (ByteArray × ByteArray)) : ∃ q : Rq, m = bytes q.method ∧ p = bytes q.path ∧ y = bytes q.query ∧ b = bytes q.body ∧ us = strs q.heads := by
  refine ⟨⟨m.data.toList, p.data.toList, y.data.toList, us.map fun u => (u.1.data.toList, u.2.data.toList), b.data.toList⟩, rfl, rfl, rfl, rfl, ?_⟩
  unfold strs
  rw [List.map_map]
  exact (List.map_id us).symm
/-- What Text says of a request that was read. -/
theorem text_read {s : Bytes} {p : Rq} (h : parseN s = some p) {X : ByteArray} {k : Int} (ht : TextR (bytes p.method) (bytes p.path) (bytes p.query) (bytes p.body) (strs p.heads) X k) (hk : k ≠ 0) : 65536 < s.length + p.heads.length ∨ p.query = [] := by
  rcases ht with ⟨rfl, -⟩ | ⟨-, -, ht⟩
  · exact absurd rfl hk
  · rw [textB_rq] at ht
    obtain ⟨h1, h2⟩ := back h
    by_cases hq : p.query = []
    · exact .inr hq
    · by_cases hl : (textN p).length ≤ 65536
      · have := ht _ (h2 hq hl)
        rw [sameQ_self] at this
        cases this
      · exact .inl (by omega)
end Rw
end Go.Proofs.YtnbhaokbaonjkaaGreatDoor
