/- ostlerref10.Parse: the walk, first part: the words on its memory, the first line. -/
import Derived.Test.YtnbhaokbaonjkaaGreatDoorRvC
import Derived.Test.YtnbhaokbaonjkaaGreatDoorRwQ
import Derived.Deep.CutBlock
namespace Go.Proofs.YtnbhaokbaonjkaaGreatDoor
open Go.RowKit
namespace Rv
open Go.Proofs.YtnbhaokbaonjkaaGreatDoor.Rw
/-- What Parse holds. -/
structure PR (w wx : World) (s : ByteArray) (Q a : Nat) (why fat : Int) (m p y : ByteArray) (v : Value) (b : ByteArray) (hs : List (Bytes × Bytes)) : Prop where
  bel : Below w.heap.size w wx
  res : Blk wx w.heap.size 39 #[.string ⟨#[]⟩, .string ⟨#[]⟩, .string ⟨#[]⟩, .slice none 0 0, .string ⟨#[]⟩]
  flt : Blk wx (w.heap.size + 1) 46 #[.int .i64 0, .int .i64 0]
  rd : RvAt wx (w.heap.size + 1 + 1) s a why fat
  q : Blk wx Q 39 #[.string m, .string p, .string y, v, .string b]
  owns : wx.ownsRow (Q + 1) 76 2 v hs.length (hs.flatMap prCells)
  far : w.heap.size + 1 + 1 < Q
section
variable {w wx wy : World} {s : ByteArray} {Q a : Nat} {why fat : Int} {m p y : ByteArray} {v : Value} {b : ByteArray} {hs : List (Bytes × Bytes)}
theorem PR.lt (h : PR w wx s Q a why fat m p y v b hs) : Q + 1 ≤ wx.heap.size := h.q.lt
theorem PR.step {a' : Nat} {why' fat' : Int} (h : PR w wx s Q a why fat m p y v b hs) (hk : Keeps (· = w.heap.size + 1 + 1) wx wy) (hr : RvAt wy (w.heap.size + 1 + 1) s a' why' fat') : PR w wy s Q a' why' fat' m p y v b hs :=
  ⟨h.bel.trans (hk.below h.bel.size (fun i hi => by omega)), h.res.keeps hk (by omega), h.flt.keeps hk (by omega), hr, h.q.keeps hk (by have := h.far; omega),
    h.owns.kept (row := some (w.heap.size + 1 + 1)) ⟨hk.os, hk.tape, hk.output, hk.size, fun i hi hn => hk.block i hi (fun e => hn (by rw [e]))⟩ (.inr (own_blk_ne h.owns h.rd (by decide))), h.far⟩
theorem PR.below (h : PR w wx s Q a why fat m p y v b hs) (hb : Below wx.heap.size wx wy) : PR w wy s Q a why fat m p y v b hs :=
  ⟨h.bel.trans (hb.mono h.bel.size), h.res.below hb h.res.lt, h.flt.below hb h.flt.lt, h.rd.below hb h.rd.lt, h.q.below hb h.q.lt, h.owns.kept (row := none) ⟨hb.os, hb.tape, hb.output, hb.size, fun i hi _ => hb.block i hi⟩ (by cases v.ownBlock <;> simp), h.far⟩
theorem PR.drewN (h : PR w wx s Q a why fat m p y v b hs) (n : Nat) : PR w (wx.drewN n) s Q a why fat m p y v b hs := h.below ⟨rfl, rfl, rfl, Nat.le_refl _, fun _ _ => rfl⟩
theorem PR.drew (h : PR w wx s Q a why fat m p y v b hs) : PR w wx.drew s Q a why fat m p y v b hs := h.below ⟨rfl, rfl, rfl, Nat.le_refl _, fun _ _ => rfl⟩
theorem PR.move {a' : Nat} (h : PR w wx s Q a why fat m p y v b hs) : PR w (wx.setCell ⟨w.heap.size + 1 + 1, 1, none⟩ (.int .i64 (a' : Int))) s Q a' why fat m p y v b hs := h.step ((Keeps.refl (· = w.heap.size + 1 + 1) wx).setCell (p := ⟨w.heap.size + 1 + 1, 1, none⟩) (.inl rfl) _) (h.rd.set_ 1 _)
theorem PR.put (h : PR w wx s Q a why fat m p y v b hs) {w' : World} (hk : Keeps (· = Q) wx w') {m' p' y' b' : ByteArray} (hq : Blk w' Q 39 #[.string m', .string p', .string y', v, .string b']) : PR w w' s Q a why fat m' p' y' v b' hs :=
  ⟨h.bel.trans (hk.below h.bel.size (fun i hi => by have := h.far; omega)), h.res.keeps hk (by have := h.far; omega), h.flt.keeps hk (by have := h.far; omega), h.rd.keeps hk (by have := h.far; omega), hq,
    h.owns.kept (row := some Q) ⟨hk.os, hk.tape, hk.output, hk.size, fun i hi hn => hk.block i hi (fun e => hn (by rw [e]))⟩ (.inr (own_blk_ne h.owns h.q (by decide))), h.far⟩
theorem PR.path (h : PR w wx s Q a why fat m p y v b hs) (p' : ByteArray) : PR w (wx.setCell ⟨Q, 1, none⟩ (.string p')) s Q a why fat m p' y v b hs := h.put ((Keeps.refl (· = Q) wx).setCell (p := ⟨Q, 1, none⟩) (.inl rfl) _) (h.q.set_ 1 _)
theorem PR.query (h : PR w wx s Q a why fat m p y v b hs) (y' : ByteArray) : PR w (wx.setCell ⟨Q, 2, none⟩ (.string y')) s Q a why fat m p y' v b hs := h.put ((Keeps.refl (· = Q) wx).setCell (p := ⟨Q, 2, none⟩) (.inl rfl) _) (h.q.set_ 2 _)
theorem PR.body (h : PR w wx s Q a why fat m p y v b hs) (b' : ByteArray) : PR w (wx.setCell ⟨Q, 4, none⟩ (.string b')) s Q a why fat m p y v b' hs := h.put ((Keeps.refl (· = Q) wx).setCell (p := ⟨Q, 4, none⟩) (.inl rfl) _) (h.q.set_ 4 _)
theorem PR.slice (h : PR w wx s Q a why fat m p y v b hs) : ∃ A c, v = .slice A hs.length c := by
  rcases h.owns.2 with ⟨e, h0⟩ | ⟨g', cap, cur, e, _⟩
  · exact ⟨none, 0, by rw [e, h0]⟩
  · exact ⟨_, _, e⟩
/-- One head more. -/
theorem PR.app {w1 : World} {v' : Value} {u : Bytes × Bytes} {o : Obj} (h : PR w wx s Q a why fat m p y v b hs) (hown : w1.ownsRow (Q + 1) 76 2 v' (hs.length + 1) (hs.flatMap prCells ++ prCells u)) (hgrow : (wx.alloc o).grownBy w1 v.ownBlock) :
    PR w (w1.setCell ⟨Q, 3, none⟩ v') s Q a why fat m p y v' b (hs ++ [u]) := by
  have hl := fun g hg => (h.owns.lt g hg).1
  have hf := h.far
  have ho := h.bel.alloc h.bel.size o
  have n1 : ∀ g, v.ownBlock = some g → Q + 1 ≤ g := hl
  have r1 := (h.res.alloc o).grown hgrow (fun e => by have := n1 _ e.symm; omega)
  have r2 := (h.flt.alloc o).grown hgrow (fun e => by have := n1 _ e.symm; omega)
  have r3 := (h.rd.alloc o).grown hgrow (fun e => by have := n1 _ e.symm; omega)
  have r4 := (h.q.alloc o).grown hgrow (fun e => by have := n1 _ e.symm; omega)
  have hne := own_blk_ne hown r4 (by decide)
  have hk : Keeps (fun i => Q ≤ i) (wx.alloc o) w1 := Keeps.of_grown hgrow (fun g hg => by have := n1 g hg; omega)
  have hk2 := hk.setCell (p := ⟨Q, 3, none⟩) (.inl (Nat.le_refl _)) v'
  refine ⟨ho.trans (hk2.below ho.size (fun i hi => by omega)), r1.far (p := ⟨Q, 3, none⟩) (by simp only; omega) _, r2.far (p := ⟨Q, 3, none⟩) (by simp only; omega) _, r3.far (p := ⟨Q, 3, none⟩) (by simp only; omega) _, r4.set_ 3 _, ?_, hf⟩
  have := hown.kept (w' := w1.setCell ⟨Q, 3, none⟩ v') (row := some Q) (⟨rfl, rfl, rfl, by simp [World.setCell], fun i _ hi => Below.heap_setCell _ _ _ _ (fun e => hi (by rw [e]))⟩) (.inr hne)
  simpa using this
end
/-- Where the first line's reader stands. -/
def lineS (L : Bytes) : Option Nat := ((((wordS L upB 16 (some 0)).bind (mustN L [32])).bind (mustN L [47])).map (whileN L shownB L.length)).bind (mustN L versL)
theorem lineN_eq (L : Bytes) (f e : Nat) (h : (wordS L upB 16 (some 0)).bind (mustN L [32]) = some f) (h2 : (mustN L [47] f).map (whileN L shownB L.length) = some e) : lineN L = (mustN L versL e).map fun z => (wordT L upB 16 (some 0), (cutQ (piece L f e)).1, (cutQ (piece L f e)).2, z) := by
  unfold lineN
  simp only [wordS] at h
  by_cases h0 : whileN L upB 16 0 = 0
  · rw [if_pos h0] at h; cases h
  · rw [if_neg h0] at h
    have h1 : mustN L [32] (whileN L upB 16 0) = some f := h
    obtain ⟨a2, h3, h4⟩ := Option.map_eq_some_iff.1 h2
    simp only [h0, if_false, h1, h3, h4, wordT]
    cases mustN L versL e <;> rfl
theorem lineN_none (L : Bytes) (h : lineS L = none) : lineN L = none := by
  unfold lineS at h
  unfold lineN
  simp only [wordS] at h
  by_cases h0 : whileN L upB 16 0 = 0
  · simp [h0]
  · rw [if_neg h0] at h
    simp only [Option.bind_some] at h
    cases h1 : mustN L [32] (whileN L upB 16 0) with
    | none => simp [h0, h1]
    | some f =>
      rw [h1] at h
      simp only [Option.bind_some] at h
      cases h2 : mustN L [47] f with
      | none => simp [h0, h1, h2]
      | some a2 =>
        rw [h2] at h
        simp only [Option.map_some, Option.bind_some] at h
        simp [h0, h1, h2, h]
end Rv
end Go.Proofs.YtnbhaokbaonjkaaGreatDoor
