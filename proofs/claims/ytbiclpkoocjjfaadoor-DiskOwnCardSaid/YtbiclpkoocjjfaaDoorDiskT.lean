/- The reference's disk: many, Write, Remove, Fault, Read: what they answer and leave, by plain functions of the entries. -/
import Derived.Test.YtbiclpkoocjjfaaDoorDiskS
namespace Go.Proofs.YtbiclpkoocjjfaaDoor
open Go.RowKit

def manyL (L : List Ent) : Nat := (L.filter (fun e => decide (0 < e.stamp))).length
theorem many_snoc (L : List Ent) (k : Nat) (hk : k < L.length) : manyL (L.take (k + 1)) = manyL (L.take k) + if 0 < (L.getD k default).stamp then 1 else 0 := by
  unfold manyL
  rw [List.take_succ_eq_append_getElem hk, List.filter_append, List.length_append]
  congr 1
  simp only [List.filter_cons, List.filter_nil]
  have : L.getD k default = L[k] := by simp [hk]
  rw [this]
  split <;> simp_all
theorem many_le (L : List Ent) : manyL L ≤ L.length := List.length_filter_le _ _

set_option maxHeartbeats 400000 in
theorem many_any (b base : Nat) (v : Value) (L : List Ent) (W R : Int) (w : World) (h : RefAt w b base v L W R) (hn : L.length ≤ 4398046511104) :
    Calls Tryd.prog 47 #[.pointer (some ⟨b, 0, none⟩)] w fun e w' => e = .returned (.int .i64 (manyL L)) ∧ w = w' := by
  obtain ⟨A, cap, rfl, hcells⟩ := h.shape
  have hc0 : w.cell? ⟨b, 0, none⟩ = some (.slice A L.length cap) := h.blk.cell 0
  have Hcells := Lib.hid hcells
  clear h hcells
  go_enter Tryd.func47, Tryd.ntmps47
  go_wp2_with fail
  go_loop [3, 4] (fun n i => ∃ k q : Nat, k ≤ L.length ∧ i = .int .i64 k ∧ n = .int .i64 q ∧ q ≤ k ∧ Hid (q = manyL (L.take k))) (fun _ i => L.length - (intOf i).toNat)
  case atStart => exact ⟨0, 0, Nat.zero_le _, rfl, rfl, Nat.le_refl _, rfl⟩
  case round =>
    obtain ⟨k, q, hk, rfl, rfl, hq, Hq⟩ := hrel
    by_cases hlt : k < L.length
    · obtain ⟨g, rfl, _, _, _, q2, _⟩ := Hcells.out k hlt
      have hs := many_snoc L k hlt
      rw [← Hq.out] at hs
      generalize (L.getD k default).stamp = st at q2 hs
      have Hs := Lib.hid hs; clear hs
      by_cases hst : 0 < st
      · go_wp2_with fail
        go_round
        case rel => exact ⟨k + 1, q + 1, by omega, by go_num, by go_num, by omega, by have := Hs.out; rw [if_pos hst] at this; exact this.symm⟩
        case measure => simp [intOf] <;> omega
      · go_wp2_with fail
        go_round
        case rel => exact ⟨k + 1, q, by omega, by go_num, rfl, by omega, by have := Hs.out; rw [if_neg hst] at this; exact this.symm⟩
        case measure => simp [intOf] <;> omega
    · go_wp2_with fail
      go_ret
      refine ⟨ret_int ?_, rfl⟩
      have := Hq.out
      rw [List.take_of_length_le (by omega)] at this
      rw [this]

/-! ### one entry turned -/
theorem cells_set (L : List Ent) (k r : Nat) (hr : r < 4) (hk : k < L.length) (e' : Ent) (u : Value) (he : entCells e' = (entCells (L.getD k default)).set r u) : (L.flatMap entCells).set (k * 4 + r) u = (L.set k e').flatMap entCells := by
  induction L generalizing k with
  | nil => simp at hk
  | cons e l ih =>
    cases k with
    | zero =>
      rw [List.flatMap_cons, List.set_append_left _ _ (by simp [entCells]; omega), List.set_cons_zero, List.flatMap_cons, he]
      simp
    | succ k =>
      rw [List.flatMap_cons, List.set_append_right _ _ (by simp [entCells]; omega), List.set_cons_succ, List.flatMap_cons]
      congr 1
      rw [show (k + 1) * 4 + r - (entCells e).length = k * 4 + r by simp [entCells]; omega]
      exact ih k (by simpa using hk) (by simpa using he)
theorem RefAt.field {w : World} {b base : Nat} {g n cap : Nat} {L : List Ent} {W R : Int} (h : RefAt w b base (.slice (some ⟨g, 0, none⟩) n cap) L W R) (k r : Nat) (hr : r < 4) (hk : k < L.length) (e' : Ent) (u : Value) (he : entCells e' = (entCells (L.getD k default)).set r u) :
    RefAt (w.setCell ⟨g, k * 4 + r, none⟩ u) b base (.slice (some ⟨g, 0, none⟩) n cap) (L.set k e') W R := by
  have hne := own_blk_ne h.owns h.blk (by decide)
  refine ⟨h.blk.far (p := ⟨g, k * 4 + r, none⟩) (fun e => hne (by simp [Value.ownBlock, e])) u, ?_⟩
  have hn : n = L.length := by
    rcases h.owns.2 with ⟨hv, _⟩ | ⟨g', cap', cur, hv, _⟩
    · cases hv
    · injection hv
  subst hn
  have := h.owns.stored (k * 4 + r) u
  rw [cells_set L k r hr hk e' u he] at this
  rw [List.length_set]
  exact this.1

/-- v' lies in v's row, or in a new block. -/
def Moves (w : World) (v v' : Value) : Prop := v'.ownBlock = v.ownBlock ∨ ∃ g, v'.ownBlock = some g ∧ w.heap.size ≤ g

/-- What a method of the reference's leaves. -/
def RPost (w : World) (b base : Nat) (v : Value) (L' : List Ent) (W' R' : Int) (a : Value) (e : Ending) (w' : World) : Prop :=
  e = .returned a ∧ ∃ v', RefAt w' b base v' L' W' R' ∧ Keeps (ROwn b v) w w' ∧ Moves w v v'

def entOf (L : List Ent) (p : ByteArray) : Ent := (atL L p).getD (findE L p) default
theorem find_lt (L : List Ent) (p : ByteArray) : findE L p < (atL L p).length := by
  unfold atL
  split
  · assumption
  · rename_i h
    have : findE L p ≤ L.length := by unfold findE; exact List.findIdx_le_length
    simp; omega
theorem atL_len (L : List Ent) (p : ByteArray) : (atL L p).length ≤ L.length + 1 := by
  unfold atL; split <;> simp

def rwriteI (L : List Ent) (p x : ByteArray) : Int := if pathB p = false then 1 else if 65536 < x.size then 2 else if (entOf L p).stamp = 0 ∧ 256 ≤ manyL (atL L p) then 3 else 0
def rwriteL (L : List Ent) (p x : ByteArray) (W : Int) : List Ent :=
  if pathB p = false then L else if 65536 < x.size then L else if rwriteI L p x = 0 then (atL L p).set (findE L p) { entOf L p with text := x, stamp := W + 1 } else atL L p
def rwriteW (L : List Ent) (p x : ByteArray) (W : Int) : Int := if rwriteI L p x = 0 then W + 1 else W
def rremoveI (L : List Ent) (p : ByteArray) : Int := if pathB p = false then 1 else if (entOf L p).stamp = 0 then 6 else 0
def rremoveL (L : List Ent) (p : ByteArray) : List Ent := if pathB p = false then L else if (entOf L p).stamp = 0 then atL L p else (atL L p).set (findE L p) { entOf L p with text := ⟨#[]⟩, stamp := 0 }
def rfaultL (L : List Ent) (p : ByteArray) (x : Int) : List Ent := if faultI p x = 0 then (atL L p).set (findE L p) { entOf L p with faults := x } else L
def rreadI (L : List Ent) (p : ByteArray) : Int := if pathB p = false then 1 else if 0 < (entOf L p).faults then 18 else if (entOf L p).stamp = 0 then 6 else 0
def rreadL (L : List Ent) (p : ByteArray) : List Ent := if pathB p = false then L else if 0 < (entOf L p).faults then (atL L p).set (findE L p) { entOf L p with faults := (entOf L p).faults - 1 } else atL L p
def rreadS (L : List Ent) (p : ByteArray) : ByteArray := if rreadI L p = 0 then (entOf L p).text else ⟨#[]⟩
def rreadN (L : List Ent) (p : ByteArray) : Int := if rreadI L p = 0 then (entOf L p).stamp else 0

/-- What at leaves, with the entry's cells written out. -/
theorem at_cells {w : World} {b base : Nat} {v : Value} {L : List Ent} {W R : Int} {p : ByteArray} {e : Ending} {w' : World} (h : AtPost w b base v L W R p e w') :
    ∃ g cap, e = .returned (.pointer (some ⟨g, findE L p * 4, none⟩)) ∧ RefAt w' b base (.slice (some ⟨g, 0, none⟩) (atL L p).length cap) (atL L p) W R ∧ Keeps (ROwn b v) w w' ∧ Moves w v (.slice (some ⟨g, 0, none⟩) (atL L p).length cap) ∧
      w'.cell? ⟨g, findE L p * 4 + 1, none⟩ = some (.string (entOf L p).text) ∧ w'.cell? ⟨g, findE L p * 4 + 2, none⟩ = some (.int .i64 (entOf L p).stamp) ∧ w'.cell? ⟨g, findE L p * 4 + 3, none⟩ = some (.int .i64 (entOf L p).faults) ∧ (∀ j, w'.frozen? ⟨g, j, none⟩ = false) ∧ g ≠ b := by
  obtain ⟨v', g, he, hg, hr, hk, hm⟩ := h
  have hne := own_blk_ne hr.owns hr.blk (by decide)
  obtain ⟨A, cap, rfl, hc⟩ := hr.shape
  obtain ⟨g', rfl, _, q0, q1, q2, q3, q4⟩ := hc _ (find_lt L p)
  obtain rfl : g' = g := by simpa [Value.ownBlock] using hg
  exact ⟨g', cap, he, hr, hk, hm.imp id (fun h => ⟨g', rfl, h⟩), q1, q2, q3, q4, fun e => hne (by simp [Value.ownBlock, e])⟩
end Go.Proofs.YtbiclpkoocjjfaaDoor
