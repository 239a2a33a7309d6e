/- The reference's disk in memory, and its inner method at. -/
import Derived.Test.YtbiclpkoocjjfaaDoorDiskR
import Derived.Test.YtbiclpkoocjjfaaDoorDiskP
import Derived.Maps.AppendAt
namespace Go.Proofs.YtbiclpkoocjjfaaDoor
open Go.RowKit

structure Ent where
  path : ByteArray
  text : ByteArray
  stamp : Int
  faults : Int
instance : Inhabited Ent := ⟨⟨⟨#[]⟩, ⟨#[]⟩, 0, 0⟩⟩
def entCells (e : Ent) : List Value := [.string e.path, .string e.text, .int .i64 e.stamp, .int .i64 e.faults]
theorem cells_len (L : List Ent) : (L.flatMap entCells).length = L.length * 4 := by
  induction L with
  | nil => rfl
  | cons e r ih => rw [List.flatMap_cons, List.length_append, ih, List.length_cons]; simp [entCells]; omega
theorem cells_get (L : List Ent) (k r : Nat) (hr : r < 4) (hk : k < L.length) : (L.flatMap entCells)[k * 4 + r]? = (entCells (L.getD k default))[r]? := by
  induction L generalizing k with
  | nil => simp at hk
  | cons e l ih =>
    rw [List.flatMap_cons]
    cases k with
    | zero => rw [List.getElem?_append_left (by simp [entCells]; omega)]; simp
    | succ k =>
      rw [List.getElem?_append_right (by simp [entCells]; omega)]
      have := ih k (by simpa using hk)
      rw [show (k + 1) * 4 + r - (entCells e).length = k * 4 + r by simp [entCells]; omega, this]
      simp

/-- A reference's disk lies in block b; its entries in v's own row. -/
structure RefAt (w : World) (b base : Nat) (v : Value) (L : List Ent) (W R : Int) : Prop where
  blk : Blk w b 43 #[v, .int .i64 W, .int .i64 R]
  owns : w.ownsRow base 86 4 v L.length (L.flatMap entCells)

def ROwn (b : Nat) (v : Value) (i : Nat) : Prop := i = b ∨ v.ownBlock = some i

theorem own_blk_ne {w : World} {g : Nat} {t : TypeId} {cs : Array Value} {base : Nat} {e : TypeId} {size n : Nat} {v : Value} {xs : List Value} (h : w.ownsRow base e size v n xs) (hg : Blk w g t cs) (hne : e ≠ t) : v.ownBlock ≠ some g := by
  rcases h.2 with ⟨rfl, _⟩ | ⟨g', cap, cur, rfl, _, hh, _⟩
  · simp [Value.ownBlock]
  · intro he
    have : g' = g := by simpa [Value.ownBlock] using he
    subst this
    unfold Blk at hg
    rw [hh] at hg
    injection hg with hg
    injection hg with _ ht
    exact hne ht

section
variable {S : Nat → Prop} {w w' : World} {b base : Nat} {v : Value} {L : List Ent} {W R : Int}
theorem RefAt.shape (h : RefAt w b base v L W R) : ∃ A cap, v = .slice A L.length cap ∧ ∀ k, k < L.length → ∃ g, A = some ⟨g, 0, none⟩ ∧ base ≤ g ∧
    w.cell? ⟨g, k * 4, none⟩ = some (.string (L.getD k default).path) ∧ w.cell? ⟨g, k * 4 + 1, none⟩ = some (.string (L.getD k default).text) ∧
    w.cell? ⟨g, k * 4 + 2, none⟩ = some (.int .i64 (L.getD k default).stamp) ∧ w.cell? ⟨g, k * 4 + 3, none⟩ = some (.int .i64 (L.getD k default).faults) ∧ ∀ j, w.frozen? ⟨g, j, none⟩ = false := by
  have h0 := h.owns
  rcases h.owns.2 with ⟨rfl, hx⟩ | ⟨g, cap, cur, rfl, hb, _⟩
  · have hz : L = [] := List.eq_nil_of_length_eq_zero hx
    subst hz
    exact ⟨_, _, rfl, fun j hj => absurd hj (by simp)⟩
  · refine ⟨_, _, rfl, fun k hk => ⟨g, rfl, hb, ?_, ?_, ?_, ?_, fun j => h0.frozenAt j⟩⟩
    · rw [h0.cellAt (k * 4) (by omega), show k * 4 = k * 4 + 0 from rfl, cells_get L k 0 (by omega) hk]; rfl
    · rw [h0.cellAt (k * 4 + 1) (by omega), cells_get L k 1 (by omega) hk]; rfl
    · rw [h0.cellAt (k * 4 + 2) (by omega), cells_get L k 2 (by omega) hk]; rfl
    · rw [h0.cellAt (k * 4 + 3) (by omega), cells_get L k 3 (by omega) hk]; rfl
theorem RefAt.keeps (h : RefAt w b base v L W R) (k : Keeps S w w') (hS : ∀ i, ROwn b v i → ¬ S i) : RefAt w' b base v L W R := by
  refine ⟨h.blk.keeps k (hS b (.inl rfl)), ?_⟩
  obtain ⟨h1, h2⟩ := h.owns
  refine ⟨h1, ?_⟩
  rcases h2 with h2 | ⟨g, cap, cur, rfl, hb, hh, r⟩
  · exact .inl h2
  · exact .inr ⟨g, cap, cur, rfl, hb, (k.block g (Array.getElem?_eq_some_iff.1 hh).1 (hS g (.inr rfl))).trans hh, r⟩
theorem RefAt.below (h : RefAt w b base v L W R) (k : Below w.heap.size w w') : RefAt w' b base v L W R := h.keeps (S := fun _ => False) (Keeps.of_below k) (fun _ _ h => h)
theorem RefAt.drewN (h : RefAt w b base v L W R) (k : Nat) : RefAt (w.drewN k) b base v L W R := h.keeps (S := fun _ => False) ((Keeps.refl _ w).drewN k) (fun _ _ h => h)
theorem RefAt.writes (h : RefAt w b base v L W R) (x : Int) : RefAt (w.setCell ⟨b, 1, none⟩ (.int .i64 x)) b base v L x R := by
  have hne := own_blk_ne h.owns h.blk (by decide)
  refine ⟨h.blk.set_ 1 _, h.owns.kept (row := some b) (⟨rfl, rfl, rfl, by simp [World.setCell], fun i _ hi => Below.heap_setCell _ _ _ _ (fun e => hi (by rw [e]))⟩) (.inr hne)⟩
theorem RefAt.reads (h : RefAt w b base v L W R) (x : Int) : RefAt (w.setCell ⟨b, 2, none⟩ (.int .i64 x)) b base v L W x := by
  have hne := own_blk_ne h.owns h.blk (by decide)
  refine ⟨h.blk.set_ 2 _, h.owns.kept (row := some b) (⟨rfl, rfl, rfl, by simp [World.setCell], fun i _ hi => Below.heap_setCell _ _ _ _ (fun e => hi (by rw [e]))⟩) (.inr hne)⟩
end

def findE (L : List Ent) (p : ByteArray) : Nat := L.findIdx (fun e => e.path.toList == p.toList)
theorem findE_eq (L : List Ent) (p : ByteArray) (k : Nat) (hk : k < L.length) (h : ((L.getD k default).path.toList == p.toList) = true) (hn : ∀ j, j < k → ((L.getD j default).path.toList == p.toList) = false) : findE L p = k := by
  unfold findE
  rw [List.findIdx_eq hk]
  refine ⟨by simpa [hk] using h, fun j hj => ?_⟩
  have := hn j hj
  simpa [show j < L.length by omega] using this
theorem findE_none (L : List Ent) (p : ByteArray) (hn : ∀ j, j < L.length → ((L.getD j default).path.toList == p.toList) = false) : findE L p = L.length := by
  unfold findE
  rw [List.findIdx_eq_length]
  intro x hx
  obtain ⟨j, hj, rfl⟩ := List.getElem_of_mem hx
  simpa [hj] using hn j hj
def atL (L : List Ent) (p : ByteArray) : List Ent := if findE L p < L.length then L else L ++ [⟨p, ⟨#[]⟩, 0, 0⟩]
theorem ent_info : (Tryd.prog.info? 86).map (fun i => (i.zero, i.size, i.bytes)) = some (some (.agg #[.string ⟨#[]⟩, .string ⟨#[]⟩, .int .i64 0, .int .i64 0]), 4, 48) := by kernel_rfl

/-- What at answers and leaves. -/
def AtPost (w : World) (b base : Nat) (v : Value) (L : List Ent) (W R : Int) (p : ByteArray) (e : Ending) (w' : World) : Prop :=
  ∃ v' g, e = .returned (.pointer (some ⟨g, findE L p * 4, none⟩)) ∧ v'.ownBlock = some g ∧ RefAt w' b base v' (atL L p) W R ∧ Keeps (ROwn b v) w w' ∧ (v'.ownBlock = v.ownBlock ∨ w.heap.size ≤ g)

set_option maxRecDepth 100000 in
set_option maxHeartbeats 1000000 in
theorem at_any (b base : Nat) (v : Value) (L : List Ent) (W R : Int) (p : ByteArray) (w : World) (h : RefAt w b base v L W R) (hbase : base ≤ w.heap.size) (hn : (L.length + 1) * 48 ≤ 140737488355328) :
    Calls Tryd.prog 46 #[.pointer (some ⟨b, 0, none⟩), .string p] w (AtPost w b base v L W R p) := by
  obtain ⟨i0, hi0, hz0, hz1, hz2⟩ := info_parts ent_info
  have HI := Lib.hid (And.intro hi0 (And.intro hz0 (And.intro hz1 hz2))); clear hi0 hz0 hz1 hz2
  have Hr := Lib.hid h
  obtain ⟨A, cap, rfl, hcells⟩ := h.shape
  have hc0 : w.cell? ⟨b, 0, none⟩ = some (.slice A L.length cap) := h.blk.cell 0
  have hf0 := h.blk.frozen 0
  have Hcells := Lib.hid hcells
  clear h hcells
  go_enter Tryd.func46, Tryd.ntmps46
  go_wp2_with fail
  go_loop [5] (fun i => ∃ k : Nat, k ≤ L.length ∧ i = .int .i64 k ∧ Hid (∀ j, j < k → ((L.getD j default).path.toList == p.toList) = false)) (fun i => L.length - (intOf i).toNat)
  case atStart => exact ⟨0, Nat.zero_le _, rfl, fun j hj => absurd hj (by omega)⟩
  case round =>
    obtain ⟨k, hk, rfl, Hk⟩ := hrel
    by_cases hlt : k < L.length
    · obtain ⟨g, rfl, _, q0, _⟩ := Hcells.out k hlt
      by_cases heq : ((L.getD k default).path.toList == p.toList) = true
      · have hidx : findE L p = k := by
          exact findE_eq L p k hlt heq Hk.out
        have hat : atL L p = L := if_pos (by omega)
        have Hfin : Hid (AtPost w b base (.slice (some ⟨g, 0, none⟩) L.length cap) L W R p (.returned (.pointer (some ⟨g, k * 4, none⟩))) w) :=
          ⟨_, g, by rw [hidx], rfl, by rw [hat]; exact Hr.out, Keeps.refl _ _, .inl rfl⟩
        clear hidx hat
        generalize (L.getD k default).path = pk at *
        go_wp2_with fail
        go_ret
        exact Hfin.out
      · have heq' : ((L.getD k default).path.toList == p.toList) = false := by simpa using heq
        have HK1 : Hid (∀ j, j < k + 1 → ((L.getD j default).path.toList == p.toList) = false) := fun j hj => by
          rcases Nat.lt_or_ge j k with h | h
          · exact Hk.out j h
          · obtain rfl : j = k := by omega
            exact heq'
        clear heq Hk
        generalize (L.getD k default).path = pk at q0 heq'
        go_wp2_with fail
        go_round
        case rel => exact ⟨k + 1, by omega, by go_num, HK1.out⟩
        case measure => simp [intOf] <;> omega
    · obtain rfl : k = L.length := by omega
      have hidx : findE L p = L.length := findE_none L p Hk.out
      have hat : atL L p = L ++ [⟨p, ⟨#[]⟩, 0, 0⟩] := if_neg (by omega)
      go_wp2_with (at_builtin; refine wpList_append_own_at _ rfl _ _ 41 rfl base 86 i0 (.agg #[.string ⟨#[]⟩, .string ⟨#[]⟩, .int .i64 0, .int .i64 0]) 4 48 Tryd.underlying41 HI.out.1 HI.out.2.1 HI.out.2.2.1 HI.out.2.2.2 rfl (by decide) _ _ _ rfl (Hr.out.owns.alloc _) ⟨w.heap.size, 0, none⟩ 1 1 (entCells ⟨p, ⟨#[]⟩, 0, 0⟩) rfl rfl ?_ ?_ ?_ ?_ ?_ ?_)
      · intro j u hu; exact hu
      · intro u hu
        simp [entCells] at hu
        rcases hu with rfl | rfl | rfl | rfl <;> rfl
      · unfold maxLen; omega
      · omega
      intro v' w1 hown1 hgrow1 _ hloc1
      obtain ⟨g, cap', rfl⟩ : ∃ g cap', v' = .slice (some ⟨g, 0, none⟩) (L.length + 1) cap' := by
        rcases hown1.2 with ⟨_, hx⟩ | ⟨g, cap', cur, hv, _⟩
        · omega
        · exact ⟨g, cap', hv⟩
      have hr := Hr.out
      have hbne := own_blk_ne hr.owns hr.blk (by decide)
      have hblk1 : Blk w1 b 43 #[.slice A L.length cap, .int .i64 W, .int .i64 R] := (hr.blk.alloc _).grown hgrow1 (Ne.symm hbne)
      have hkeep1 : Keeps (ROwn b (.slice A L.length cap)) w w1 := ((Keeps.refl _ w).alloc _).trans (Keeps.of_grown hgrow1 (fun i hi => .inr hi))
      have hne1 : g ≠ b := by
        intro e
        subst e
        exact own_blk_ne hown1 hblk1 (by decide) rfl
      have hloc : (Value.slice (some ⟨g, 0, none⟩) (L.length + 1) cap').ownBlock = (Value.slice A L.length cap).ownBlock ∨ w.heap.size ≤ g := by
        rcases hloc1 with h | h
        · exact .inl h
        · right; have : g = w.heap.size + 1 := by simpa [Value.ownBlock] using h
          omega
      have hkeep2 := hkeep1.setCell (p := ⟨b, 0, none⟩) (.inl (.inl rfl)) (.slice (some ⟨g, 0, none⟩) (L.length + 1) cap')
      have hr2 : RefAt (w1.setCell ⟨b, 0, none⟩ (.slice (some ⟨g, 0, none⟩) (L.length + 1) cap')) b base (.slice (some ⟨g, 0, none⟩) (L.length + 1) cap') (L ++ [⟨p, ⟨#[]⟩, 0, 0⟩]) W R := by
        refine ⟨hblk1.set_ 0 _, ?_⟩
        have := hown1.kept (w' := w1.setCell ⟨b, 0, none⟩ (.slice (some ⟨g, 0, none⟩) (L.length + 1) cap')) (row := some b) (⟨rfl, rfl, rfl, by simp [World.setCell], fun i _ hi => Below.heap_setCell _ _ _ _ (fun e => hi (by rw [e]))⟩) (.inr (by simp [Value.ownBlock, hne1]))
        simpa using this
      have b0 : w1.cell? ⟨b, 0, none⟩ = some (.slice A L.length cap) := hblk1.cell 0
      have b1 := hblk1.frozen 0
      have HK2 := Lib.hid hkeep2
      have HR2 := Lib.hid hr2
      have Hloc := Lib.hid hloc
      have Hat := Lib.hid hat
      have Hidx := Lib.hid hidx
      clear hown1 hgrow1 hloc1 hr hbne hblk1 hkeep1 hne1 hloc hkeep2 hr2 hat hidx Hk hc0 hf0 Hcells
      go_wp2_with fail
      go_quiet (fail)
      go_wp2
      go_ret
      refine ⟨_, g, ?_, rfl, ?_, HK2.out.drewN _, Hloc.out⟩
      · rw [Hidx.out]; rfl
      · rw [Hat.out]; exact HR2.out.drewN _
end Go.Proofs.YtbiclpkoocjjfaaDoor
