/- slices.Insert of one item into a row of its own: the walk. -/
import Derived.Test.YtopmodahdmnpjaaGreatDoorZAsF
import Derived.Shelf.Spec.SlicesInsert
import Derived.Lib.AppendZerosOnto
import Derived.Laws.CopyRow
import Derived.Laws.NewBlocks
namespace Go.Proofs.YtopmodahdmnpjaaGreatDoor
open Go Go.RowKit Go.Lib
namespace Dp
/-- copy into a row, elements of any size. -/
theorem run_copy_rowN {P : Program} (w : World) (dT sT ty elem : TypeId) (g o dLen dCap : Nat) (a : Addr) (sLen sCap z : Nat) (cur : Array Value) (t : TypeId) (cs : List Value)
    (hu : P.underlying dT = some (.slice elem)) (hs : (P.info? elem).map (·.size) = some z)
    (hg : w.heap[g]? = some (.cells cur t (0, 0))) (hn : cs.length = Nat.min sLen dLen * z)
    (hsrc : ∀ j v, cs[j]? = some v → w.cell? (a.add j) = some v) (hfit : o + cs.length ≤ cur.size) (h1 : ∀ v ∈ cs, v.oneCell' = true) :
    (Builtin.copy_ #[dT, sT] ty #[.slice (some ⟨g, o, none⟩) dLen dCap, .slice (some a) sLen sCap]).run P w =
      .ok (goInt (Nat.min sLen dLen)) (w.setRow g (cur.toList.take o ++ cs ++ cur.toList.drop (o + cs.length)).toArray) := by
  have hl := run_loadCells_list (P := P) w a cs hsrc
  have hst := run_storeCells_at P g o t cs 0 cur w hg (by simpa using hfit) h1
  cases hq : P.info? elem with
  | none => simp [hq] at hs
  | some i =>
    have hi : i.size = z := by simpa [hq] using hs
    simp [Builtin.copy_, run_underlying hu, Builtin.lenOf, Builtin.firstCells, sizeOf, typeInfo, hq, hi, ← hn, hl, hst]
theorem rowC_take : ∀ (ps : List PI) (i : Nat), (rowC ps).take (i * 7) = rowC (ps.take i)
  | [], i => by simp [rowC]
  | p :: ps, 0 => by simp [rowC]
  | p :: ps, i + 1 => by
    have hc : p.cells.length = 7 := rfl
    show (p.cells ++ rowC ps).take ((i + 1) * 7) = _
    rw [List.take_append, List.take_of_length_le (by omega), hc, show (i + 1) * 7 - 7 = i * 7 by omega, rowC_take ps i]
    rfl
theorem rowC_drop : ∀ (ps : List PI) (i : Nat), (rowC ps).drop (i * 7) = rowC (ps.drop i)
  | [], i => by simp [rowC]
  | p :: ps, 0 => by simp [rowC]
  | p :: ps, i + 1 => by
    have hc : p.cells.length = 7 := rfl
    show (p.cells ++ rowC ps).drop ((i + 1) * 7) = _
    rw [List.drop_append, List.drop_of_length_le (by omega), hc, show (i + 1) * 7 - 7 = i * 7 by omega, rowC_drop ps i]
    rfl
theorem rowC_app2 (a b : List PI) : rowC (a ++ b) = rowC a ++ rowC b := by simp [rowC]
theorem item_infoI : (Tryz.prog.info? 34).map (fun i => (i.zero, i.size, i.bytes)) = some (some (.agg #[.bool false, .int .i64 0, .string ⟨#[]⟩, .int .i64 0, .int .i64 0, .string ⟨#[]⟩, .slice none 0 0]), 7, 88) := by kernel_rfl
/-- What Insert leaves: the row with the item set in, in a row of its own. -/
def InsPost (w : World) (base : Nat) (sv : Value) (ps : List PI) (i : Nat) (x : PI) (e : Ending) (w' : World) : Prop :=
  ∃ sv', e = .returned sv' ∧ w'.ownsRow base 34 7 sv' (ps.length + 1) (rowC (ps.take i ++ x :: ps.drop i)) ∧ w.grownBy w' sv.ownBlock
theorem ins_cur (cur : List Value) (c n i : Nat) (ps : List PI) (x : PI) (hl : ps.length = n) (hi : i < n) (hc : n + 1 ≤ c) (hs : cur.length = c * 7) (ht : cur.take (n * 7) = rowC ps) (cur1 : List Value) (h1 : cur1 = cur.take ((i + 1) * 7) ++ rowC (ps.drop i) ++ cur.drop ((i + 1) * 7 + (rowC (ps.drop i)).length)) :
    cur1.length = c * 7 ∧ cur1.take (i * 7) ++ x.cells ++ cur1.drop (i * 7 + x.cells.length) = rowC (ps.take i ++ x :: ps.drop i) ++ cur.drop ((n + 1) * 7) := by
  have hx : x.cells.length = 7 := rfl
  have hd : (rowC (ps.drop i)).length = (n - i) * 7 := by rw [rowC_len, List.length_drop, hl]
  have ha : (cur.take ((i + 1) * 7)).length = (i + 1) * 7 := by rw [List.length_take]; omega
  have e1 : cur1.take (i * 7) = rowC (ps.take i) := by
    rw [h1, List.append_assoc, List.take_append_of_le_length (by omega), List.take_take, show min (i * 7) ((i + 1) * 7) = i * 7 by omega, ← rowC_take, ← ht, List.take_take, show min (i * 7) (n * 7) = i * 7 by omega]
  have e2 : cur1.drop (i * 7 + x.cells.length) = rowC (ps.drop i) ++ cur.drop ((n + 1) * 7) := by
    rw [h1, List.append_assoc, hx, show i * 7 + 7 = (i + 1) * 7 by omega, List.drop_append_of_le_length (by omega), List.drop_of_length_le (by omega), List.nil_append, hd, show (i + 1) * 7 + (n - i) * 7 = (n + 1) * 7 by omega]
  refine ⟨?_, ?_⟩
  · rw [h1]
    simp only [List.length_append, ha, hd, List.length_drop, hs]
    omega
  · rw [e1, e2, rowC_app2]
    show _ = (rowC (ps.take i) ++ (x.cells ++ rowC (ps.drop i))) ++ _
    simp
set_option maxRecDepth 100000 in
set_option maxHeartbeats 4000000 in
theorem insert_end (w : World) {base : Nat} {sv : Value} {ps : List PI} (ho : w.ownsRow base 34 7 sv ps.length (rowC ps)) (hbase : base ≤ w.heap.size) (hn : ps.length ≤ 4096) (vb vc : Nat) (x : PI) (hx : Blk w vb 34 x.cells.toArray) :
    Calls Tryz.prog 122 #[sv, .int .i64 ps.length, .slice (some ⟨vb, 0, none⟩) 1 vc] w (InsPost w base sv ps ps.length x) := by
  obtain ⟨i0, hi0, hz0, hz1, hz2⟩ := info_parts item_infoI
  obtain ⟨A, c, rfl⟩ := own_form0 ho
  have HO := Lib.hid ho
  have HI := Lib.hid (And.intro hi0 (And.intro hz0 (And.intro hz1 hz2)))
  have HX : Hid (∀ j u, x.cells[j]? = some u → w.cell? ((⟨vb, 0, none⟩ : Addr).add j) = some u) := fun j u hj => by
    rw [Addr.add_lit, Nat.zero_add]
    have := hx.cell j
    rw [this]
    simpa using hj
  have HC1 : Hid (∀ u ∈ x.cells, u.oneCell' = true) := fun u hu => rowC_one [x] u (by simpa [rowC] using hu)
  have hcap : (A = none ∧ ps.length = 0) ∨ ps.length ≤ c := by
    rcases ho.2 with ⟨e, h0⟩ | ⟨g, cap, cur, e, _, _, h1, _⟩
    · injection e with e1 _ _
      exact .inl ⟨e1, h0⟩
    · injection e with _ _ e3
      exact .inr (by omega)
  clear ho hx hi0 hz0 hz1 hz2
  go_enter Tryz.func122, Tryz.ntmps122
  go_wp2_with (at_builtin; refine wpList_append_own _ rfl _ _ 22 rfl base 34 i0 _ 7 88 Tryz.underlying22 HI.out.1 HI.out.2.1 HI.out.2.2.1 HI.out.2.2.2 rfl (by decide) _ _ _ rfl HO.out ⟨vb, 0, none⟩ 1 vc x.cells rfl rfl HX.out HC1.out (by unfold maxLen; omega) (by omega) hbase ?_; intro v' w3 hown3 hg3 _; have HO3 := Lib.hid hown3; have HG3 := Lib.hid hg3; clear hown3 hg3)
  all_goals
    go_ret
    have e0 : (Value.slice A ps.length ps.length).ownBlock = (Value.slice A ps.length c).ownBlock := by cases A <;> rfl
    refine ⟨v', rfl, ?_, by first | exact HG3.out | (rw [e0]; exact HG3.out)⟩
    have e : rowC (ps.take ps.length ++ x :: ps.drop ps.length) = rowC ps ++ x.cells := by simp [rowC]
    rw [e]
    exact HO3.out
end Dp
end Go.Proofs.YtopmodahdmnpjaaGreatDoor
/- slices.Insert of one item ahead of the row's end, where there is room. -/
namespace Go.Proofs.YtopmodahdmnpjaaGreatDoor
open Go Go.RowKit Go.Lib
namespace Dp
theorem own_row {w : World} {base g c n : Nat} {t : TypeId} {xs : List Value} {z : Nat} (ho : w.ownsRow base t z (.slice (some ⟨g, 0, none⟩) n c) n xs) :
    ∃ cur, base ≤ g ∧ w.heap[g]? = some (.cells cur t (0, 0)) ∧ n ≤ c ∧ c ≤ maxLen ∧ cur.size = c * z ∧ cur.toList.take (n * z) = xs := by
  rcases ho.2 with ⟨e, _⟩ | ⟨g', cap, cur, e, hb, hg, hn, hm, hs, ht⟩
  · cases e
  · injection e with e1 _ e3
    injection e1 with e1
    injection e1 with e1
    subst e1 e3
    exact ⟨cur, hb, hg, hn, hm, hs, ht⟩
theorem src_row {w : World} {g : Nat} {t : TypeId} {cur : Array Value} {ps : List PI} {n i : Nat} (hg : w.heap[g]? = some (.cells cur t (0, 0))) (ht : cur.toList.take (n * 7) = rowC ps) (hs : n * 7 ≤ cur.size) :
    ∀ j v, (rowC (ps.drop i))[j]? = some v → w.cell? ⟨g, i * 7 + j, none⟩ = some v := fun j v hj => by
  rw [← rowC_drop, List.getElem?_drop, ← ht, List.getElem?_take] at hj
  rw [cell_of_row w g _ cur t (0, 0) hg]
  split at hj
  · simpa using hj
  · cases hj
theorem shape_row {w : World} {g : Nat} {t : TypeId} {cur : Array Value} (hg : w.heap[g]? = some (.cells cur t (0, 0))) : w.shape? g = some (t, cur.size) := by
  simp [World.shape?, hg]
set_option maxRecDepth 100000 in
set_option maxHeartbeats 4000000 in
theorem insert_room (w : World) {base g c n i : Nat} {ps : List PI} (hl : ps.length = n) (ho : w.ownsRow base 34 7 (.slice (some ⟨g, 0, none⟩) n c) n (rowC ps)) (hi : i < n) (hroom : n + 1 ≤ c) (hn : n ≤ 4096) (vb vc : Nat) (x : PI) (hx : Blk w vb 34 x.cells.toArray) (hvb : vb ≠ g) :
    Calls Tryz.prog 122 #[.slice (some ⟨g, 0, none⟩) n c, .int .i64 i, .slice (some ⟨vb, 0, none⟩) 1 vc] w (InsPost w base (.slice (some ⟨g, 0, none⟩) n c) ps i x) := by
  obtain ⟨i0, hi0, hz0, hz1, hz2⟩ := info_parts item_infoI
  obtain ⟨cur, hbg, hg, _, hc63, hcs, htk⟩ := own_row ho
  have hsz : (Tryz.prog.info? 34).map (·.size) = some 7 := by rw [hi0]; simp [hz1]
  have hxl : x.cells.length = 7 := rfl
  have hcl : cur.toList.length = c * 7 := by simp [hcs]
  have hdl : (rowC (ps.drop i)).length = (n - i) * 7 := by rw [rowC_len, List.length_drop, hl]
  obtain ⟨cur1, hcur1⟩ : ∃ cur1, cur1 = cur.toList.take ((i + 1) * 7) ++ rowC (ps.drop i) ++ cur.toList.drop ((i + 1) * 7 + (rowC (ps.drop i)).length) := ⟨_, rfl⟩
  obtain ⟨hc1l, hc1e⟩ := ins_cur cur.toList c n i ps x hl hi hroom hcl htk cur1 hcur1
  have hov : ∀ lb cb, (callFunc 155 #[.slice (some ⟨vb, 0, none⟩) 1 vc, .slice (some ⟨g, (i + 1) * 7, none⟩) lb cb]).run Tryz.prog w = .ok (.value (.bool false)) w := fun lb cb => by
    rw [run_callFunc_extern Tryz.func155 (by kernel_rfl) (by kernel_rfl) (by kernel_rfl) (e := Extern.SlicesOverlaps.overlaps #[22, 22] #[4]) (by kernel_rfl),
      Lib.run_overlaps_apart w 22 4 34 Tryz.underlying22 7 (fun w => by simp [sizeOf, typeInfo, hi0, hz1]) ⟨vb, 0, none⟩ ⟨g, (i + 1) * 7, none⟩ 1 vc lb cb hvb _ _ _ _ (shape_row hx) (shape_row hg) (by omega) (hx.frozen 0) (hx.frozen _)]
    rfl
  have hcp1 : ∀ ty dc sc, (Builtin.copy_ #[22, 22] ty #[.slice (some ⟨g, (i + 1) * 7, none⟩) (n - i) dc, .slice (some ⟨g, i * 7, none⟩) (n + 1 - i) sc]).run Tryz.prog w.drew = .ok (goInt (Nat.min (n + 1 - i) (n - i))) (w.drew.setRow g cur1.toArray) := fun ty dc sc => by
    rw [hcur1]
    exact run_copy_rowN w.drew _ _ ty 34 g ((i + 1) * 7) (n - i) dc ⟨g, i * 7, none⟩ (n + 1 - i) sc 7 cur 34 (rowC (ps.drop i)) Tryz.underlying22 hsz hg (by rw [hdl]; simp only [Nat.min_def]; split <;> omega)
      (fun j v hj => by rw [Addr.add_lit]; exact src_row (w := w) hg htk (by omega) j v hj) (by omega) (fun u hu => rowC_one _ u hu)
  have hcp2 : ∀ (W : World), W.heap = (w.drew.setRow g cur1.toArray).heap → ∀ ty dc, (Builtin.copy_ #[22, 22] ty #[.slice (some ⟨g, i * 7, none⟩) (n + 1 - i) dc, .slice (some ⟨vb, 0, none⟩) 1 vc]).run Tryz.prog W = .ok (goInt (Nat.min 1 (n + 1 - i))) (W.setRow g (cur1.take (i * 7) ++ x.cells ++ cur1.drop (i * 7 + x.cells.length)).toArray) := fun W hW ty dc =>
    run_copy_rowN W _ _ ty 34 g (i * 7) (n + 1 - i) dc ⟨vb, 0, none⟩ 1 vc 7 cur1.toArray 34 x.cells Tryz.underlying22 hsz (by rw [hW]; exact setRow_heap w.drew g cur _ _ (0, 0) hg) (by rw [hxl]; simp only [Nat.min_def]; split <;> omega)
      (fun j v hj => by
        rw [Addr.add_lit, Nat.zero_add]
        have hb : Blk W vb 34 x.cells.toArray := by
          unfold Blk
          rw [hW, setRow_other w.drew g vb _ hvb]
          exact hx
        rw [hb.cell]
        simpa using hj) (by simp [hc1l, hxl]; omega) (fun u hu => rowC_one [x] u (by simpa [rowC] using hu))
  rw [hc1e] at hcp2
  have HE := Lib.hid (fun (W : World) (hW : W.heap = (w.drew.setRow g cur1.toArray).heap) (h1 : W.os = w.os) (h2 : W.tape = w.tape) (h3 : W.output = w.output) => (show (W.setRow g (rowC (ps.take i ++ x :: ps.drop i) ++ cur.toList.drop ((n + 1) * 7)).toArray).ownsRow base 34 7 (.slice (some ⟨g, 0, none⟩) (n + 1) c) (n + 1) (rowC (ps.take i ++ x :: ps.drop i)) ∧ w.grownBy (W.setRow g (rowC (ps.take i ++ x :: ps.drop i) ++ cur.toList.drop ((n + 1) * 7)).toArray) (some g) from by
    have hrl : (rowC (ps.take i ++ x :: ps.drop i)).length = (n + 1) * 7 := by
      rw [rowC_len]
      simp only [List.length_append, List.length_take, List.length_cons, List.length_drop, hl]
      congr 1
      omega
    refine ⟨⟨hrl, .inr ⟨g, c, (rowC (ps.take i ++ x :: ps.drop i) ++ cur.toList.drop ((n + 1) * 7)).toArray, rfl, hbg, ?_, hroom, hc63, ?_, ?_⟩⟩, ⟨h1, h2, h3, ?_, ?_⟩⟩
    · exact setRow_heap W g cur1.toArray _ _ (0, 0) (by rw [hW]; exact setRow_heap w.drew g cur _ _ (0, 0) hg)
    · simp [hrl, hcs]
      omega
    · simp only [List.toList_toArray]
      rw [← hrl, List.take_left']
      rfl
    · rw [setRow_size, hW, setRow_size]
      exact Nat.le_refl _
    · intro k hk hne
      have hkg : k ≠ g := fun e => hne (by rw [e])
      rw [setRow_other _ _ _ _ hkg, hW, setRow_other _ _ _ _ hkg]
      rfl))
  have mixed : Tryz.prog.follows .mixedOrders = true := by kernel_rfl
  have HL := Lib.hid hl
  have hz1' : ¬ ((1 : Int) = 0) := by omega
  have hz2' : ¬ ((i : Int) = (n : Int)) := by omega
  have hw1 : IntKind.i64.wrap ((i : Int) + 1) = (i : Int) + 1 := by rw [IntKind.wrap_i64]; omega
  have hb1 : (0 : Int) ≤ (i : Int) + 1 := by omega
  have hin : i ≤ n := by omega
  have htn : ((i : Int) + 1).toNat = i + 1 := by omega
  have hb2 : ¬ (c = i + 1) := by omega
  have hb3 : (i : Int) ≤ (n : Int) + 1 := by omega
  have hb4 : ¬ (c = i) := by omega
  have hc63' : c ≤ 9223372036854775807 := by unfold maxLen at hc63; omega
  clear hl hi0 hz0 hz1 hz2 hsz hdl hcur1 hc1l hc1e hcl hcs htk ho hx
  go_enter Tryz.func122, Tryz.ntmps122
  go_wp2_with (simp only [hov])
  go_region_law_o (refine step_copy_runI rfl _ _ 22 22 rfl _ _ (by simp [Act.eval, Act.put]) (by simp [Act.eval, Act.put]) (hcp1 _ _ _) ?_)
  go_wp2_with (at_builtin; refine wpList_copy_runI _ rfl _ _ 22 22 rfl _ _ rfl rfl (hcp2 _ rfl _ _) ?_)
  go_ret
  refine ⟨_, rfl, ?_, ?_⟩
  · rw [HL.out]
    exact (HE.out _ rfl rfl rfl rfl).1
  · exact (HE.out _ rfl rfl rfl rfl).2
end Dp
end Go.Proofs.YtopmodahdmnpjaaGreatDoor
