/- arrs.told: what its steps keep; the walk. -/
import Derived.Test.YtopmodahdmnpjaaGreatDoorZAsA
namespace Go.Proofs.YtopmodahdmnpjaaGreatDoor
open Go Go.RowKit
namespace Dp
theorem own_le2 {w : World} {B B' : Nat} {e : TypeId} {size n : Nat} {v : Value} {xs : List Value} (h : w.ownsRow B e size v n xs) (hb : B' ≤ B) : w.ownsRow B' e size v n xs :=
  ⟨h.1, h.2.imp id (fun ⟨g, cap, cur, a, b, c⟩ => ⟨g, cap, cur, a, Nat.le_trans hb b, c⟩)⟩
theorem store4 {w : World} {r : Nat} {t : TypeId} {a0 a1 a2 a3 : Value} (h : Blk w r t #[a0, a1, a2, a3]) (u0 u1 u2 u3 : Value) :
    Blk ((((w.setCell ⟨r, 0, none⟩ u0).setCell ⟨r, 1, none⟩ u1).setCell ⟨r, 2, none⟩ u2).setCell ⟨r, 3, none⟩ u3) r t #[u0, u1, u2, u3] ∧ Keeps (fun j => j = r) w ((((w.setCell ⟨r, 0, none⟩ u0).setCell ⟨r, 1, none⟩ u1).setCell ⟨r, 2, none⟩ u2).setCell ⟨r, 3, none⟩ u3) :=
  ⟨(((h.set_ 0 u0).set_ 1 u1).set_ 2 u2).set_ 3 u3, (((set_keeps w r 0 u0).trans (set_keeps _ r 1 u1)).trans (set_keeps _ r 2 u2)).trans (set_keeps _ r 3 u3)⟩
/-- The state of the walk: the value's box, its items, the answer's box. -/
structure TdSt (w0 : World) (b vb : Nat) (nx : Int) (pre : List PI) (W : World) : Prop where
  ex : ∃ sv, W.ownsRow (vb + 1) 34 7 sv pre.length (rowC pre) ∧ Blk W vb 24 #[.int .i64 4, .int .i64 nx, .string ⟨#[]⟩, sv]
  bel : Keeps (fun j => j = b) w0 W
  res : Blk W w0.heap.size 24 #[.int .i64 0, .int .i64 0, .string ⟨#[]⟩, .slice none 0 0]
theorem TdSt.keeps {w0 A B : World} {b vb : Nat} {nx : Int} {pre : List PI} (h : TdSt w0 b vb nx pre A) (hk : Keeps (fun j => j = b) A B) (h1 : b < w0.heap.size) (h2 : w0.heap.size < vb) : TdSt w0 b vb nx pre B := by
  obtain ⟨⟨sv, ho, hb⟩, hbel, hres⟩ := h
  exact ⟨⟨sv, own_keeps ho hk (fun e => by have := (ho.lt b e.symm).1; omega), hb.keeps hk (by omega)⟩, hbel.trans hk, hres.keeps hk (by omega)⟩
theorem TdSt.put {w0 A : World} {b vb l : Nat} {nx : Int} {pre : List PI} {o o' : Obj} (h : TdSt w0 b vb nx pre A) (hl : A.heap[l]? = some o) (ho : o.isCells = false) (hw : w0.heap.size ≤ l) : TdSt w0 b vb nx pre (A.putObj l o') := by
  obtain ⟨⟨sv, hr, hb⟩, hbel, hres⟩ := h
  have hg := grownBy_putObj' A l o'
  refine ⟨⟨sv, ownsRow_putObj hr o' hl ho, blk_put hb hl ho o'⟩, ⟨hg.os.trans hbel.os, hg.tape.trans hbel.tape, hg.output.trans hbel.output, Nat.le_trans hbel.size hg.size, fun i hi hn => ?_⟩, blk_put hres hl ho o'⟩
  exact (World.putObj_heap_other (by omega)).trans (hbel.block i hi hn)
theorem TdSt.below {w0 A B : World} {b vb : Nat} {nx : Int} {pre : List PI} (h : TdSt w0 b vb nx pre A) (hb : Below A.heap.size A B) : TdSt w0 b vb nx pre B := by
  obtain ⟨⟨sv, hr, hbl⟩, hbel, hres⟩ := h
  exact ⟨⟨sv, own_below hr hb, blk_below hbl hb⟩, hbel.trans (Keeps.of_below hb), blk_below hres hb⟩
theorem td_fin {w0 W Wp w7 W9 : World} {b vb g cap : Nat} {nx : Int} {sv : Value} {pre : List PI} {x : PI} {zs : List Value}
    (hr : W.ownsRow (vb + 1) 34 7 sv pre.length (rowC pre)) (hBv : Blk W vb 24 #[.int .i64 4, .int .i64 nx, .string ⟨#[]⟩, sv]) (hbel : Keeps (fun j => j = b) w0 W)
    (hres : Blk W w0.heap.size 24 #[.int .i64 0, .int .i64 0, .string ⟨#[]⟩, .slice none 0 0]) (hvb : w0.heap.size < vb) (hb : Below W.heap.size W Wp)
    (hown : w7.ownsRow (vb + 1) 34 7 (.slice (some ⟨g, 0, none⟩) (pre.length + 1) cap) (pre.length + 1) (rowC pre ++ zs)) (hg : Wp.grownBy w7 sv.ownBlock)
    (h9 : Keeps (fun j => j = g ∨ j = vb) w7 W9) (ho9 : W9.ownsRow (vb + 1) 34 7 (.slice (some ⟨g, 0, none⟩) (pre.length + 1) cap) (pre.length + 1) (rowC pre ++ x.cells))
    (hb9 : Blk W9 vb 24 #[.int .i64 4, .int .i64 nx, .string ⟨#[]⟩, .slice (some ⟨g, 0, none⟩) (pre.length + 1) cap]) (hk9 : KT w7 W9) : TdSt w0 b vb nx (pre ++ [x]) W9 ∧ KT W W9 := by
  have hvl := hBv.lt
  have hws := hbel.size
  have hwp := hb.size
  have hw7 := hg.size
  have hgw := hown.lt g rfl
  have hown0 : Wp.ownsRow (vb + 1) 34 7 sv pre.length (rowC pre) := own_below hr hb
  have hge : ∀ j, some j = sv.ownBlock → vb + 1 ≤ j ∧ j < W.heap.size := fun j e => hr.lt j e.symm
  refine ⟨⟨⟨_, by rw [List.length_append, rowC_app]; exact ho9, hb9⟩, ?_, ?_⟩, ((KT.below hb).trans (KT.grown hown0 hg)).trans hk9⟩
  · refine ⟨h9.os.trans (hg.os.trans (hb.os.trans hbel.os)), h9.tape.trans (hg.tape.trans (hb.tape.trans hbel.tape)), h9.output.trans (hg.output.trans (hb.output.trans hbel.output)), Nat.le_trans hws (Nat.le_trans hwp (Nat.le_trans hw7 h9.size)), fun i hi hn => ?_⟩
    exact (h9.block i (by omega) (fun e => by rcases e with e | e <;> omega)).trans ((hg.block i (by omega) (fun e => by have := (hge i e).1; omega)).trans ((hb.block i (by omega)).trans (hbel.block i hi hn)))
  · exact (((blk_below hres hb).grown hg (fun e => by have := (hge _ e).1; omega))).keeps h9 (fun e => by rcases e with e | e <;> omega)
theorem td_end {w0 W Wp w7 : World} {b vb g cap : Nat} {nx : Int} {sv : Value} {pre : List PI} {x : PI} {zs : List Value}
    (hr : W.ownsRow (vb + 1) 34 7 sv pre.length (rowC pre)) (hBv : Blk W vb 24 #[.int .i64 4, .int .i64 nx, .string ⟨#[]⟩, sv]) (hbel : Keeps (fun j => j = b) w0 W)
    (hres : Blk W w0.heap.size 24 #[.int .i64 0, .int .i64 0, .string ⟨#[]⟩, .slice none 0 0]) (hvb : w0.heap.size < vb) (hb : Below W.heap.size W Wp)
    (hown : w7.ownsRow (vb + 1) 34 7 (.slice (some ⟨g, 0, none⟩) (pre.length + 1) cap) (pre.length + 1) (rowC pre ++ zs)) (hz : zs.length = 7) (hg : Wp.grownBy w7 sv.ownBlock) :
    (TdSt w0 b vb nx (pre ++ [x]) ((fill7 w7 g (pre.length * 7) x).setCell ⟨vb, 3, none⟩ (.slice (some ⟨g, 0, none⟩) (pre.length + 1) cap)) ∧ KT W ((fill7 w7 g (pre.length * 7) x).setCell ⟨vb, 3, none⟩ (.slice (some ⟨g, 0, none⟩) (pre.length + 1) cap)))
    ∧ (TdSt w0 b vb nx (pre ++ [x]) (fill7 (w7.setCell ⟨vb, 3, none⟩ (.slice (some ⟨g, 0, none⟩) (pre.length + 1) cap)) g (pre.length * 7) x) ∧ KT W (fill7 (w7.setCell ⟨vb, 3, none⟩ (.slice (some ⟨g, 0, none⟩) (pre.length + 1) cap)) g (pre.length * 7) x)) := by
  have hvl := hBv.lt
  have hgw := (hown.lt g rfl).1
  have hn : vb ≠ g := by omega
  have hB7 : Blk w7 vb 24 #[.int .i64 4, .int .i64 nx, .string ⟨#[]⟩, sv] := (blk_below hBv hb).grown hg (fun e => by have := (hr.lt _ e.symm).1; omega)
  obtain ⟨cur, hcur⟩ : ∃ cur, Blk w7 g 34 cur := by
    rcases hown.2 with ⟨e, _⟩ | ⟨g', cap', cur, e, _, hb', _⟩
    · cases e
    · injection e with e _ _
      injection e with e
      injection e with e _ _
      subst e
      exact ⟨cur, hb'⟩
  have kf := fill_keeps w7 g (pre.length * 7) x
  have kb := set_keeps w7 vb 3 (.slice (some ⟨g, 0, none⟩) (pre.length + 1) cap)
  have kf2 := fill_keeps (w7.setCell ⟨vb, 3, none⟩ (.slice (some ⟨g, 0, none⟩) (pre.length + 1) cap)) g (pre.length * 7) x
  have kb2 := set_keeps (fill7 w7 g (pre.length * 7) x) vb 3 (.slice (some ⟨g, 0, none⟩) (pre.length + 1) cap)
  have or1 : ∀ {A B : World}, Keeps (fun j => j = g) A B → Keeps (fun j => j = g ∨ j = vb) A B := fun h => h.mono fun _ _ h => .inl h
  have or2 : ∀ {A B : World}, Keeps (fun j => j = vb) A B → Keeps (fun j => j = g ∨ j = vb) A B := fun h => h.mono fun _ _ h => .inr h
  exact ⟨td_fin hr hBv hbel hres hvb hb hown hg ((or1 kf).trans (or2 kb2)) (own_keeps (fill_row hown (rowC_len pre) hz x) kb2 (fun e => hn (by simpa [Value.ownBlock] using e))) ((hB7.keeps kf hn).set_ 3 _) ((KT.keep1 hcur (by decide) (by decide) kf).trans (KT.keep1 (hB7.keeps kf hn) (by decide) (by decide) kb2)),
    td_fin hr hBv hbel hres hvb hb hown hg ((or2 kb).trans (or1 kf2)) (fill_row (own_keeps hown kb (fun e => hn (by simpa [Value.ownBlock] using e))) (rowC_len pre) hz x) ((hB7.set_ 3 _).keeps kf2 hn) ((KT.keep1 hB7 (by decide) (by decide) kb).trans (KT.keep1 (hcur.keeps kb (fun e => hn e.symm)) (by decide) (by decide) kf2))⟩
end Dp
end Go.Proofs.YtopmodahdmnpjaaGreatDoor
