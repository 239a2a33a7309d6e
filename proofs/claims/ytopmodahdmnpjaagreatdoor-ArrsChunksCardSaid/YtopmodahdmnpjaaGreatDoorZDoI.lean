/- deep.Make: what its steps keep: plain lemmas on memory. -/
import Derived.Test.YtopmodahdmnpjaaGreatDoorZDoGrQ
import Derived.Test.YtopmodahdmnpjaaGreatDoorZAppsQ
import Derived.Test.YtopmodahdmnpjaaGreatDoorZMyJQ
namespace Go.Proofs.YtopmodahdmnpjaaGreatDoor
open Go Go.RowKit
namespace Dp
open Go.Proofs.YtopmodahdmnpjaaGreatDoor.Nm (normG keyV norm_any)
theorem set_step {w : World} {B : Nat} (hLib : ∀ w', Below B w w' → LibS w') (w1 : World) (hb : Below B w w1) {base b mb : Nat} {sv : Value} {ps : List PI} {nx : Int} (hL : LstAt base w1 b mb false sv ps nx) (hB1 : B ≤ w1.heap.size) (p : PI) (hk : In64 p.i) (hs : p.s.size ≤ 140737488351232)
    (hp : VAt w B p.gv p.val ∧ Fit p.gv ∧ Sml p.gv) (hv : ∀ q ∈ ps, Vok w B q) (hn : ps.length ≤ 2048) (hnx : In64 nx) :
    Calls Tryz.prog 95 #[.pointer (some ⟨b, 0, none⟩), .agg #[.bool p.b, .int .i64 p.i, .string p.s], p.val] w1 fun e w2 => Fr base b mb sv.ownBlock w1 w2 ∧ ((setG (ps.map PI.it) nx p.it = none ∧ e = .returned (.int .i64 8)) ∨ ∃ ps' sv' nx', setG (ps.map PI.it) nx p.it = some (ps'.map PI.it, nx') ∧ e = .returned (.int .i64 0) ∧ LstAt base w2 b mb false sv' ps' nx' ∧ (∀ q ∈ ps', Vok w B q) ∧ ps'.length ≤ 2048 ∧ In64 nx') := by
  have hKO := normG_key p.b p.i p.s hk hs
  have hset : setG (ps.map PI.it) nx p.it = if 0 ≤ findK (ps.map PI.key) (normG p.b p.i p.s) 0 then some ((ps.map PI.it).set (findK (ps.map PI.key) (normG p.b p.i p.s) 0).toNat (giOf (normG p.b p.i p.s) p.gv), nx) else if 2048 ≤ (ps.map PI.it).length then none else some (ps.map PI.it ++ [giOf (normG p.b p.i p.s) p.gv], nextK nx (normG p.b p.i p.s)) := by
    unfold setG
    rw [keys_of]
    rfl
  by_cases h : 0 ≤ findK (ps.map PI.key) (normG p.b p.i p.s) 0
  · obtain ⟨_, hat⟩ := findK_at (ps.map PI.key) (normG p.b p.i p.s) 0 (by omega) h
    rw [List.getElem?_map, Int.sub_zero] at hat
    obtain ⟨p0, hp0, hkey⟩ := Option.map_eq_some_iff.1 hat
    refine (set_found hLib w1 hb hL hB1 p hk hs _ (Int.toNat_of_nonneg h).symm p0 hp0 hn).mono ?_
    rintro e w2 ⟨rfl, hL2, hb2⟩
    refine ⟨hb2, .inr ⟨_, sv, nx, ?_, rfl, hL2, fun q hq => ?_, by simpa using hn, hnx⟩⟩
    · rw [hset, if_pos h, keys_put hp0, hkey]
    · rcases List.mem_or_eq_of_mem_set hq with hq | rfl
      · exact hv q hq
      · exact ⟨by have := (hv p0 (List.mem_of_getElem? hp0)).1; exact this, hp⟩
  · rw [if_neg h] at hset
    by_cases h2 : 2048 ≤ ps.length
    · refine (set_full hLib w1 hb hL hB1 p hk hs (by omega) h2 (by omega)).mono ?_
      rintro e w2 ⟨rfl, _, hb2⟩
      exact ⟨hb2, .inl ⟨by rw [hset, if_pos (by simpa using h2)], rfl⟩⟩
    · refine (set_new hLib w1 hb hL hB1 p hk hs (by omega) (by omega) hnx).mono ?_
      rintro e w2 ⟨rfl, ⟨sv', hL2⟩, hb2⟩
      refine ⟨hb2, .inr ⟨_, sv', _, ?_, rfl, hL2, fun q hq => ?_, by simp; omega, nextK_in hnx hKO⟩⟩
      · rw [hset, if_neg (by simpa using h2), List.map_append]
        rfl
      · rcases List.mem_append.1 hq with hq | hq
        · exact hv q hq
        · have e : q = PI.key_ p (normG p.b p.i p.s) := by simpa using hq
          subst e
          exact ⟨hKO, hp⟩
theorem row_keeps {A B : World} {b base : Nat} {sv : Value} {ps : List PI} (hr : RowSt base A sv ps) (hk : Keeps (fun j => j = b) A B) (hb : b < base) : RowSt base B sv ps :=
  ⟨own_keeps hr.owns hk (fun e => by have := (hr.owns.lt b e.symm).1; omega), fun p hp => (hr.vals p hp).keep (fun j hj => ⟨hj.1, Nat.lt_of_lt_of_le hj.2.1 hk.size, hj.2.2⟩) fun q hq => hk.cell hq.2.1 (fun e => by have := hq.1; omega)⟩
/-- The state of the walk's value: its box, its items, the answer's box. -/
structure MkSt (w0 : World) (vb : Nat) (nx : Int) (gs : List GI) (W : World) : Prop where
  ex : ∃ sv qs, qs.map PI.it = gs ∧ RowSt (vb + 1) W sv qs ∧ Blk W vb 24 #[.int .i64 4, .int .i64 nx, .string ⟨#[]⟩, sv]
  bel : Below w0.heap.size w0 W
  res : Blk W w0.heap.size 24 #[.int .i64 0, .int .i64 0, .string ⟨#[]⟩, .slice none 0 0]
theorem MkSt.keeps {w0 A B : World} {vb b : Nat} {nx : Int} {gs : List GI} (h : MkSt w0 vb nx gs A) (hk : Keeps (fun j => j = b) A B) (h1 : w0.heap.size < b) (h2 : b < vb) : MkSt w0 vb nx gs B := by
  obtain ⟨⟨sv, qs, hq, hr, hb⟩, hbel, hres⟩ := h
  have hs := hbel.size
  exact ⟨⟨sv, qs, hq, row_keeps hr hk (by omega), hb.keeps hk (by omega)⟩, hbel.trans (hk.below hs (fun j e => by rw [e]; omega)), hres.keeps hk (by omega)⟩
theorem MkSt.put {w0 A : World} {vb l : Nat} {nx : Int} {gs : List GI} {o o' : Obj} (h : MkSt w0 vb nx gs A) (hl : A.heap[l]? = some o) (ho : o.isCells = false) (ho' : o'.isCells = false) (hw : w0.heap.size ≤ l) : MkSt w0 vb nx gs (A.putObj l o') := by
  obtain ⟨⟨sv, qs, hq, hr, hb⟩, hbel, hres⟩ := h
  exact ⟨⟨sv, qs, hq, row_put hr hl ho ho', blk_put hb hl ho o'⟩, below_put hbel hl hw o', blk_put hres hl ho o'⟩
theorem MkSt.below {w0 A B : World} {vb : Nat} {nx : Int} {gs : List GI} (h : MkSt w0 vb nx gs A) (hb : Below A.heap.size A B) : MkSt w0 vb nx gs B := by
  obtain ⟨⟨sv, qs, hq, hr, hbl⟩, hbel, hres⟩ := h
  exact ⟨⟨sv, qs, hq, hr.below hb, blk_below hbl hb⟩, hbel.trans (hb.mono hbel.size), blk_below hres hb⟩
theorem KT.keep1 {A B : World} {b : Nat} {t : TypeId} {cs : Array Value} (h : Blk A b t cs) (h1 : t ≠ 130) (h2 : t ≠ 136) (hk : Keeps (fun j => j = b) A B) : KT A B := by
  refine ⟨hk.size, fun j o ho hl => ?_⟩
  by_cases hj : j = b
  · subst hj
    unfold Blk at h
    rw [h] at ho
    cases ho
    rcases hl with ⟨cs', fz, e | e⟩ | e
    · injection e with _ e
      exact absurd e h1
    · injection e with _ e
      exact absurd e h2
    · cases e
  · exact (hk.block j (Array.getElem?_eq_some_iff.1 ho).1 hj).trans ho
theorem KT.grown {A B : World} {base n : Nat} {sv : Value} {xs : List Value} (h : A.ownsRow base 34 7 sv n xs) (hg : A.grownBy B sv.ownBlock) : KT A B := by
  rcases h.2 with ⟨rfl, _⟩ | ⟨g, cap, cur, rfl, _, hb, _⟩
  · exact ⟨hg.size, fun j o ho _ => (hg.block j (Array.getElem?_eq_some_iff.1 ho).1 (by simp [Value.ownBlock])).trans ho⟩
  · exact KT.keep1 (b := g) hb (by decide) (by decide) ⟨hg.os, hg.tape, hg.output, hg.size, fun i hi hn => hg.block i hi (fun e => hn (by simpa [Value.ownBlock] using e))⟩
theorem round_fin {w' W Wp w7 W9 : World} {vb g cap : Nat} {nx : Int} {sv : Value} {qs pre : List PI} {x x' : PI} {zs : List Value}
    (hq : qs.map PI.it = pre.map PI.it) (hx : x'.it = x.it) (hr : RowSt (vb + 1) W sv qs) (hBv : Blk W vb 24 #[.int .i64 4, .int .i64 nx, .string ⟨#[]⟩, sv]) (hbel : Below w'.heap.size w' W)
    (hres : Blk W w'.heap.size 24 #[.int .i64 0, .int .i64 0, .string ⟨#[]⟩, .slice none 0 0]) (hvb : w'.heap.size < vb) (hb : Below W.heap.size W Wp) (hv : VIn Wp (fun b => W.heap.size ≤ b ∧ b < Wp.heap.size) x'.gv x'.val)
    (hown : w7.ownsRow (vb + 1) 34 7 (.slice (some ⟨g, 0, none⟩) (qs.length + 1) cap) (qs.length + 1) (rowC qs ++ zs)) (hg : Wp.grownBy w7 sv.ownBlock) (hor : some g = sv.ownBlock ∨ some g = some Wp.heap.size)
    (h9 : Keeps (fun j => j = g ∨ j = vb) w7 W9) (ho9 : W9.ownsRow (vb + 1) 34 7 (.slice (some ⟨g, 0, none⟩) (qs.length + 1) cap) (qs.length + 1) (rowC qs ++ x'.cells))
    (hb9 : Blk W9 vb 24 #[.int .i64 4, .int .i64 nx, .string ⟨#[]⟩, .slice (some ⟨g, 0, none⟩) (qs.length + 1) cap]) (hk9 : KT w7 W9) : MkSt w' vb nx ((pre ++ [x]).map PI.it) W9 ∧ KT W W9 := by
  have hvl := hBv.lt
  have hws := hbel.size
  have hwp := hb.size
  have hw7 := hg.size
  have hw9 := h9.size
  have hgw := hown.lt g rfl
  have hown0 : Wp.ownsRow (vb + 1) 34 7 sv qs.length (rowC qs) := own_below hr.owns hb
  have hge : ∀ j, some j = sv.ownBlock → vb + 1 ≤ j ∧ j < W.heap.size := fun j e => hr.owns.lt j e.symm
  have hgne : ∀ j, j < Wp.heap.size → some j ≠ sv.ownBlock → j ≠ g := fun j hj hn e => by
    subst e
    rcases hor with h | h
    · exact hn h
    · injection h with h
      omega
  refine ⟨⟨⟨_, qs ++ [x'], by rw [List.map_append, List.map_append, hq]; simp [hx], ⟨by rw [List.length_append, rowC_app]; exact ho9, fun q hqm => ?_⟩, hb9⟩, ?_, ?_⟩, ((KT.below hb).trans (KT.grown hown0 hg)).trans hk9⟩
  · rcases List.mem_append.1 hqm with hqm | hqm
    · refine (hr.vals q hqm).keep (fun b hS => ⟨hS.1, by omega, fun e => hgne b (by omega) hS.2.2 (by simpa [Value.ownBlock] using e)⟩) fun a ha => ?_
      have h1 : a.block ≠ g := hgne a.block (by omega) ha.2.2
      have h2 := ha.1
      exact ((h9.cell (by omega) (by omega)).trans (World.cell?_of_block (hg.block a.block (by omega) ha.2.2))).trans (hb.cell (by omega))
    · have e : q = x' := by simpa using hqm
      subst e
      have hno : ∀ b, W.heap.size ≤ b → some b ≠ sv.ownBlock := fun b hb e => by have := (hge b e).2; omega
      refine hv.keep (fun b hS => ⟨by omega, by omega, fun e => hgne b hS.2 (hno b hS.1) (by simpa [Value.ownBlock] using e)⟩) fun a ha => ?_
      have h1 : a.block ≠ g := hgne a.block ha.2 (hno _ ha.1)
      have h2 := ha.1
      exact (h9.cell (by omega) (by omega)).trans (World.cell?_of_block (hg.block a.block ha.2 (hno _ ha.1)))
  · exact ((hbel.trans (hb.mono hws)).grown hg (by omega) (fun j e => by have := (hge j e.symm).1; omega)).trans (h9.below (by omega) (fun j e => by rcases e with e | e <;> omega))
  · exact (((blk_below hres hb).grown hg (fun e => by have := (hge _ e).1; omega))).keeps h9 (fun e => by rcases e with e | e <;> omega)
theorem round_end {w' W Wp w7 : World} {vb g cap : Nat} {nx : Int} {sv : Value} {qs pre : List PI} {x x' : PI} {zs : List Value}
    (hq : qs.map PI.it = pre.map PI.it) (hx : x'.it = x.it) (hr : RowSt (vb + 1) W sv qs) (hBv : Blk W vb 24 #[.int .i64 4, .int .i64 nx, .string ⟨#[]⟩, sv]) (hbel : Below w'.heap.size w' W)
    (hres : Blk W w'.heap.size 24 #[.int .i64 0, .int .i64 0, .string ⟨#[]⟩, .slice none 0 0]) (hvb : w'.heap.size < vb) (hb : Below W.heap.size W Wp) (hv : VIn Wp (fun b => W.heap.size ≤ b ∧ b < Wp.heap.size) x'.gv x'.val)
    (hown : w7.ownsRow (vb + 1) 34 7 (.slice (some ⟨g, 0, none⟩) (qs.length + 1) cap) (qs.length + 1) (rowC qs ++ zs)) (hz : zs.length = 7) (hg : Wp.grownBy w7 sv.ownBlock) (hor : some g = sv.ownBlock ∨ some g = some Wp.heap.size) :
    (MkSt w' vb nx ((pre ++ [x]).map PI.it) ((fill7 w7 g (qs.length * 7) x').setCell ⟨vb, 3, none⟩ (.slice (some ⟨g, 0, none⟩) (qs.length + 1) cap)) ∧ KT W ((fill7 w7 g (qs.length * 7) x').setCell ⟨vb, 3, none⟩ (.slice (some ⟨g, 0, none⟩) (qs.length + 1) cap)))
    ∧ (MkSt w' vb nx ((pre ++ [x]).map PI.it) (fill7 (w7.setCell ⟨vb, 3, none⟩ (.slice (some ⟨g, 0, none⟩) (qs.length + 1) cap)) g (qs.length * 7) x') ∧ KT W (fill7 (w7.setCell ⟨vb, 3, none⟩ (.slice (some ⟨g, 0, none⟩) (qs.length + 1) cap)) g (qs.length * 7) x')) := by
  have hvl := hBv.lt
  have hgw := (hown.lt g rfl).1
  have hn : vb ≠ g := by omega
  have hB7 : Blk w7 vb 24 #[.int .i64 4, .int .i64 nx, .string ⟨#[]⟩, sv] := (blk_below hBv hb).grown hg (fun e => by have := (hr.owns.lt _ e.symm).1; omega)
  obtain ⟨cur, hcur⟩ : ∃ cur, Blk w7 g 34 cur := by
    rcases hown.2 with ⟨e, _⟩ | ⟨g', cap', cur, e, _, hb', _⟩
    · cases e
    · injection e with e _ _
      injection e with e
      injection e with e _ _
      subst e
      exact ⟨cur, hb'⟩
  have kf := fill_keeps w7 g (qs.length * 7) x'
  have kb := set_keeps w7 vb 3 (.slice (some ⟨g, 0, none⟩) (qs.length + 1) cap)
  have kf2 := fill_keeps (w7.setCell ⟨vb, 3, none⟩ (.slice (some ⟨g, 0, none⟩) (qs.length + 1) cap)) g (qs.length * 7) x'
  have kb2 := set_keeps (fill7 w7 g (qs.length * 7) x') vb 3 (.slice (some ⟨g, 0, none⟩) (qs.length + 1) cap)
  have or1 : ∀ {A B : World}, Keeps (fun j => j = g) A B → Keeps (fun j => j = g ∨ j = vb) A B := fun h => h.mono fun _ _ h => .inl h
  have or2 : ∀ {A B : World}, Keeps (fun j => j = vb) A B → Keeps (fun j => j = g ∨ j = vb) A B := fun h => h.mono fun _ _ h => .inr h
  exact ⟨round_fin hq hx hr hBv hbel hres hvb hb hv hown hg hor ((or1 kf).trans (or2 kb2)) (own_keeps (fill_row hown (rowC_len qs) hz x') kb2 (fun e => hn (by simpa [Value.ownBlock] using e))) ((hB7.keeps kf hn).set_ 3 _) ((KT.keep1 hcur (by decide) (by decide) kf).trans (KT.keep1 (hB7.keeps kf hn) (by decide) (by decide) kb2)),
    round_fin hq hx hr hBv hbel hres hvb hb hv hown hg hor ((or2 kb).trans (or1 kf2)) (fill_row (own_keeps hown kb (fun e => hn (by simpa [Value.ownBlock] using e))) (rowC_len qs) hz x') ((hB7.set_ 3 _).keeps kf2 hn) ((KT.keep1 hB7 (by decide) (by decide) kb).trans (KT.keep1 (hcur.keeps kb (fun e => hn e.symm)) (by decide) (by decide) kf2))⟩
end Dp
end Go.Proofs.YtopmodahdmnpjaaGreatDoor
