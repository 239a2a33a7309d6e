/- slices.Insert of one item ahead of the row's end, where there is no room; Insert as a whole. -/
import Derived.Test.YtopmodahdmnpjaaGreatDoorZAsIQ
import Derived.Shelf.Spec.SlicesInsertGrow
namespace Go.Proofs.YtopmodahdmnpjaaGreatDoor
open Go Go.RowKit Go.Lib
namespace Dp
theorem ins_grow (R : List Value) (G n i : Nat) (ps : List PI) (x : PI) (hl : ps.length = n) (hi : i < n) (hc : n + 1 ≤ G) (hs : R.length = G * 7) (ht : R.take (i * 7) = rowC (ps.take i)) (r1 : List Value) (h1 : r1 = R.take (i * 7) ++ x.cells ++ R.drop (i * 7 + x.cells.length)) :
    r1.length = G * 7 ∧ r1.take ((i + 1) * 7) ++ rowC (ps.drop i) ++ r1.drop ((i + 1) * 7 + (rowC (ps.drop i)).length) = rowC (ps.take i ++ x :: ps.drop i) ++ r1.drop ((n + 1) * 7) := by
  have hx : x.cells.length = 7 := rfl
  have hd : (rowC (ps.drop i)).length = (n - i) * 7 := by rw [rowC_len, List.length_drop, hl]
  have ha : (R.take (i * 7)).length = i * 7 := by rw [List.length_take]; omega
  have hb : (R.take (i * 7) ++ x.cells).length = (i + 1) * 7 := by rw [List.length_append, ha, hx]; omega
  have e1 : r1.take ((i + 1) * 7) = rowC (ps.take i) ++ x.cells := by
    rw [h1, ← hb, List.take_left', ht]
    rfl
  refine ⟨?_, ?_⟩
  · rw [h1]
    simp only [List.length_append, ha, hx, List.length_drop, hs]
    omega
  · rw [e1, hd, show (i + 1) * 7 + (n - i) * 7 = (n + 1) * 7 by omega, rowC_app2]
    show _ = (rowC (ps.take i) ++ (x.cells ++ rowC (ps.drop i))) ++ _
    simp
set_option maxRecDepth 100000 in
set_option maxHeartbeats 4000000 in
theorem insert_grow (w : World) {base g c n i : Nat} {ps : List PI} (hl : ps.length = n) (ho : w.ownsRow base 34 7 (.slice (some ⟨g, 0, none⟩) n c) n (rowC ps)) (hbase : base ≤ w.heap.size) (hi : i < n) (hroom : c < n + 1) (hn : n ≤ 4096) (vb vc : Nat) (x : PI) (hx : Blk w vb 34 x.cells.toArray) :
    Calls Tryz.prog 122 #[.slice (some ⟨g, 0, none⟩) n c, .int .i64 i, .slice (some ⟨vb, 0, none⟩) 1 vc] w (InsPost w base (.slice (some ⟨g, 0, none⟩) n c) ps i x) := by
  obtain ⟨i0, hi0, hz0, hz1, hz2⟩ := info_parts item_infoI
  obtain ⟨cur, hbg, hg, hnc, hc63, hcs, htk⟩ := own_row ho
  have hgw : g < w.heap.size := (Array.getElem?_eq_some_iff.1 hg).1
  have hvw := hx.lt
  have hsz : (Tryz.prog.info? 34).map (·.size) = some 7 := by rw [hi0]; simp [hz1]
  have hxl : x.cells.length = 7 := rfl
  have hdl : (rowC (ps.drop i)).length = (n - i) * 7 := by rw [rowC_len, List.length_drop, hl]
  have htl : (rowC (ps.take i)).length = i * 7 := by rw [rowC_len, List.length_take, hl]; congr 1; omega
  have hkk : (n : Int) + 1 - (i : Int) = ((n + 1 - i : Nat) : Int) := by omega
  have hik : i + (n + 1 - i) = n + 1 := by omega
  have hold : (Builtin.firstCells i0.size i (.slice (some ⟨g, 0, none⟩) i c)).run Tryz.prog w.drew = .ok (rowC (ps.take i)).toArray w.drew := by
    rw [hz1]
    refine run_firstCells_some w.drew 7 i ⟨g, 0, none⟩ i c (rowC (ps.take i)) htl (fun j v hj => ?_)
    rw [Addr.add_lit, Nat.zero_add]
    rw [← rowC_take, List.getElem?_take] at hj
    split at hj
    · have := src_row (w := w) (n := n) (i := 0) hg htk (by omega) j v (by simpa using hj)
      simpa using this
    · cases hj
  obtain ⟨G, hG⟩ : ∃ G, G = grownCap w (n + 1) c 34 := ⟨_, rfl⟩
  have hGn : n + 1 ≤ G := by rw [hG]; exact grownCap_ge w _ _ _
  have hGm : G ≤ maxLen := by rw [hG]; exact grownCap_le_maxLen w (n + 1) c 34 (by unfold maxLen; omega)
  obtain ⟨ROW, hROW⟩ : ∃ ROW : Array Value, ROW = (rowC (ps.take i)).toArray ++ Builtin.zeroCells (Value.agg #[.bool false, .int .i64 0, .string ⟨#[]⟩, .int .i64 0, .int .i64 0, .string ⟨#[]⟩, .slice none 0 0]).cells (n + 1 - i) ++ Builtin.zeroCells (Value.agg #[.bool false, .int .i64 0, .string ⟨#[]⟩, .int .i64 0, .int .i64 0, .string ⟨#[]⟩, .slice none 0 0]).cells (G - (n + 1)) := ⟨_, rfl⟩
  have hrz : ∀ ty, (Builtin.append_ #[22, 3] ty #[.slice (some ⟨g, 0, none⟩) i c, .int .i64 ((n : Int) + 1 - (i : Int))]).run Tryz.prog w =
      .ok (.slice (some ⟨w.heap.size, 0, none⟩) (n + 1) G) (w.drew.alloc (.cells ROW 34)) := fun ty => by
    have h := Lib.run_append_grow_zeros w 22 3 ty 34 i0 _ .i64 .i64 Tryz.underlying22 Tryz.underlying3 hi0 hz0 (some ⟨g, 0, none⟩) i c (rowC (ps.take i)) hold (n + 1 - i) (by omega) (by omega) (by omega) (by omega) (by rw [hz2]; omega) (by rw [hz2, hik]; exact growslice_fits hroom (by omega))
    rw [hik, ← hG, ← hROW] at h
    rw [hkk]
    exact h
  have hRs : ROW.toList.length = G * 7 := by
    rw [hROW]
    simp [Builtin.zeroCells, Value.cells, htl]
    omega
  have hRt : ROW.toList.take (i * 7) = rowC (ps.take i) := by
    rw [hROW]
    simp only [Array.toList_append, List.append_assoc]
    rw [← htl, List.take_left']
    rfl
  obtain ⟨r1, hr1⟩ : ∃ r1, r1 = ROW.toList.take (i * 7) ++ x.cells ++ ROW.toList.drop (i * 7 + x.cells.length) := ⟨_, rfl⟩
  obtain ⟨hr1l, hr1e⟩ := ins_grow ROW.toList G n i ps x hl hi hGn hRs hRt r1 hr1
  have hN := heap_alloc_new w (.cells ROW 34)
  have hcpA : ∀ (W : World), W.heap = (w.alloc (.cells ROW 34)).heap → ∀ ty dc, (Builtin.copy_ #[22, 22] ty #[.slice (some ⟨w.heap.size, i * 7, none⟩) (n + 1 - i) dc, .slice (some ⟨vb, 0, none⟩) 1 vc]).run Tryz.prog W = .ok (goInt (Nat.min 1 (n + 1 - i))) (W.setRow w.heap.size r1.toArray) := fun W hW ty dc => by
    rw [hr1]
    exact run_copy_rowN W _ _ ty 34 w.heap.size (i * 7) (n + 1 - i) dc ⟨vb, 0, none⟩ 1 vc 7 ROW 34 x.cells Tryz.underlying22 hsz (by rw [hW]; exact hN) (by rw [hxl]; simp only [Nat.min_def]; split <;> omega)
      (fun j v hj => by
        rw [Addr.add_lit, Nat.zero_add]
        have hb : Blk W vb 34 x.cells.toArray := by
          unfold Blk
          rw [hW]
          exact hx.alloc _
        rw [hb.cell]
        simpa using hj) (by rw [← Array.length_toList, hRs, hxl]; omega) (fun u hu => rowC_one [x] u (by simpa [rowC] using hu))
  have hcpB : ∀ (W : World), W.heap = ((w.alloc (.cells ROW 34)).setRow w.heap.size r1.toArray).heap → ∀ ty dc sc, (Builtin.copy_ #[22, 22] ty #[.slice (some ⟨w.heap.size, (i + 1) * 7, none⟩) (n - i) dc, .slice (some ⟨g, i * 7, none⟩) (n - i) sc]).run Tryz.prog W = .ok (goInt (Nat.min (n - i) (n - i))) (W.setRow w.heap.size (rowC (ps.take i ++ x :: ps.drop i) ++ r1.drop ((n + 1) * 7)).toArray) := fun W hW ty dc sc => by
    have hWg : W.heap[g]? = some (.cells cur 34 (0, 0)) := by
      rw [hW, setRow_other _ _ _ _ (by omega)]
      exact (Below.heap_alloc w _ g hgw).trans hg
    rw [← hr1e]
    exact run_copy_rowN W _ _ ty 34 w.heap.size ((i + 1) * 7) (n - i) dc ⟨g, i * 7, none⟩ (n - i) sc 7 r1.toArray 34 (rowC (ps.drop i)) Tryz.underlying22 hsz (by rw [hW]; exact setRow_heap _ _ ROW _ _ (0, 0) hN) (by rw [hdl]; simp only [Nat.min_def]; split <;> omega)
      (fun j v hj => by rw [Addr.add_lit]; exact src_row (w := W) hWg htk (by omega) j v hj) (by simp [hr1l, hdl]; omega) (fun u hu => rowC_one _ u hu)
  have HE := Lib.hid (fun (W : World) (hW : W.heap = ((w.alloc (.cells ROW 34)).setRow w.heap.size r1.toArray).heap) (h1 : W.os = w.os) (h2 : W.tape = w.tape) (h3 : W.output = w.output) => (show (W.setRow w.heap.size (rowC (ps.take i ++ x :: ps.drop i) ++ r1.drop ((n + 1) * 7)).toArray).ownsRow base 34 7 (.slice (some ⟨w.heap.size, 0, none⟩) (n + 1) G) (n + 1) (rowC (ps.take i ++ x :: ps.drop i)) ∧ w.grownBy (W.setRow w.heap.size (rowC (ps.take i ++ x :: ps.drop i) ++ r1.drop ((n + 1) * 7)).toArray) (some g) from by
    have hrl : (rowC (ps.take i ++ x :: ps.drop i)).length = (n + 1) * 7 := by
      rw [rowC_len]
      simp only [List.length_append, List.length_take, List.length_cons, List.length_drop, hl]
      congr 1
      omega
    refine ⟨⟨hrl, .inr ⟨w.heap.size, G, (rowC (ps.take i ++ x :: ps.drop i) ++ r1.drop ((n + 1) * 7)).toArray, rfl, hbase, ?_, hGn, hGm, ?_, ?_⟩⟩, ⟨h1, h2, h3, ?_, ?_⟩⟩
    · exact setRow_heap W w.heap.size r1.toArray _ _ (0, 0) (by rw [hW]; exact setRow_heap _ _ ROW _ _ (0, 0) hN)
    · simp [hrl, hr1l]
      omega
    · simp only [List.toList_toArray]
      rw [← hrl, List.take_left']
      rfl
    · rw [setRow_size, hW, setRow_size]
      simp
    · intro k hk hne
      rw [setRow_other _ _ _ _ (by omega), hW, setRow_other _ _ _ _ (by omega)]
      exact Below.heap_alloc w _ k hk))
  have mixed : Tryz.prog.follows .mixedOrders = true := by kernel_rfl
  have HL := Lib.hid hl
  have hz1' : ¬ ((1 : Int) = 0) := by omega
  have hz2' : ¬ ((i : Int) = (n : Int)) := by omega
  have hz3 : (c : Int) < (n : Int) + 1 := by omega
  have hw1 : IntKind.i64.wrap ((i : Int) + 1) = (i : Int) + 1 := by rw [IntKind.wrap_i64]; omega
  have hb1 : (0 : Int) ≤ (i : Int) + 1 := by omega
  have hin : i ≤ n := by omega
  have htn : ((i : Int) + 1).toNat = i + 1 := by omega
  have hb3 : (i : Int) ≤ (n : Int) := by omega
  have hGi : ¬ (G = i) := by omega
  have hGim : ¬ (G = i + 1) := by omega
  have hci : ¬ (c = i) := by omega
  have hG63 : G ≤ 9223372036854775807 := by unfold maxLen at hGm; omega
  have hc63' : c ≤ 9223372036854775807 := by unfold maxLen at hc63; omega
  have hE1 : ((w.alloc (.cells ROW 34)).drew).heap = (w.alloc (.cells ROW 34)).heap := rfl
  have hF1 : (((w.alloc (.cells ROW 34)).drew.setRow w.heap.size r1.toArray).drew).heap = ((w.alloc (.cells ROW 34)).setRow w.heap.size r1.toArray).heap := rfl
  clear hl hi0 hz0 hz1 hz2 hsz hdl htl hkk hik hold hG hROW hRs hRt hr1 hr1l hr1e hN hcs htk ho hx hg hGm hc63
  go_enter Tryz.func122, Tryz.ntmps122
  go_wp2_with (first
    | (at_builtin; refine Lib.wpList_append_run _ rfl _ _ _ _ rfl _ _ rfl rfl _ _ (hrz _) ?_)
    | (at_builtin; refine wpList_copy_runI _ rfl _ _ 22 22 rfl _ _ rfl rfl (hcpA _ hE1 _ _) ?_)
    | (at_builtin; refine wpList_copy_runI _ rfl _ _ 22 22 rfl _ _ rfl rfl (hcpB _ rfl _ _ _) ?_))
  go_region_law_o (refine step_copy_runI rfl _ _ 22 22 rfl (.slice (some ⟨w.heap.size, (i + 1) * 7, none⟩) (n - i) (G - (i + 1))) (.slice (some ⟨g, i * 7, none⟩) (n - i) (c - i)) (by simp [Act.eval, Act.put]) (by simp [Act.eval, Act.put]) (hcpB _ hF1 3 (G - (i + 1)) (c - i)) ?_)
  go_wp2
  go_ret
  refine ⟨_, rfl, ?_, ?_⟩
  · rw [HL.out]
    exact (HE.out _ hF1 rfl rfl rfl).1
  · exact (HE.out _ hF1 rfl rfl rfl).2
/-- Insert of one item at any place of a row of its own. -/
theorem insert_any (w : World) {base : Nat} {sv : Value} {ps : List PI} (i : Nat) (ho : w.ownsRow base 34 7 sv ps.length (rowC ps)) (hbase : base ≤ w.heap.size) (hi : i ≤ ps.length) (hn : ps.length ≤ 4096) (vb vc : Nat) (x : PI) (hx : Blk w vb 34 x.cells.toArray) (hvb : some vb ≠ sv.ownBlock) :
    Calls Tryz.prog 122 #[sv, .int .i64 i, .slice (some ⟨vb, 0, none⟩) 1 vc] w (InsPost w base sv ps i x) := by
  by_cases h : i = ps.length
  · subst h
    exact insert_end w ho hbase hn vb vc x hx
  · rcases ho.2 with ⟨_, h0⟩ | ⟨g, c, cur, e, _⟩
    · omega
    · subst e
      by_cases hc : ps.length + 1 ≤ c
      · exact insert_room w rfl ho (by omega) hc hn vb vc x hx (fun e => hvb (by rw [e]; rfl))
      · exact insert_grow w rfl ho hbase (by omega) (by omega) hn vb vc x hx
end Dp
end Go.Proofs.YtopmodahdmnpjaaGreatDoor
