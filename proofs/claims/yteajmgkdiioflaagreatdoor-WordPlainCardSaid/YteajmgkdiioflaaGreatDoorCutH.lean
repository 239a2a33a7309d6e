/- The walk of cut.Cut. -/
import Derived.Test.YteajmgkdiioflaaGreatDoorCutG
import Derived.Test.YteajmgkdiioflaaGreatDoorWords
import Derived.OwnWalk
import Derived.StillTactics
import Derived.Laws.Pointers
import Derived.Deep.RegionHeld3
import Derived.Deep.AppendLies
import Derived.Deep.DrawnRows
import Derived.KernelRfl
import Derived.Deep.RegionLaw
namespace Go.Proofs.YteajmgkdiioflaaGreatDoor
open Go.RowKit
attribute [local go_sem ↓] Go.wp_at_zero Go.wp_at_succ

def pcCells (s : ByteArray) (p : P3) : List Value := [.int .i64 (p.kind : Int), .string (s.extract p.a p.b), .int .i64 (p.a : Int)]
theorem piece_info : (Tryz.prog.info? 43).map (fun i => (i.zero, i.size, i.bytes)) = some (some (.agg #[.int .i64 0, .string ⟨#[]⟩, .int .i64 0]), 3, 32) := by kernel_rfl
theorem own_blk_ne {w : World} {g : Nat} {t : TypeId} {cs : Array Value} {base : Nat} {e : TypeId} {size n : Nat} {v : Value} {xs : List Value} (h : w.ownsRow base e size v n xs) (hg : Blk w g t cs) (hne : e ≠ t) : v.ownBlock ≠ some g := by
  rcases h.2 with ⟨rfl, _⟩ | ⟨g', cap, cur, rfl, _, hh, _⟩
  · simp [Value.ownBlock]
  · intro he
    have : g' = g := by simpa [Value.ownBlock] using he
    subst this
    unfold Blk at hg
    rw [hh] at hg
    injection hg with hg
    injection hg with _ ht
    exact hne ht

/-- What Cut holds: the file, the pieces so far, where text outside of code began. -/
structure CS (file : ByteArray) (w0 w : World) (b : Nat) (v : Value) (fr : Nat) (ps : List P3) : Prop where
  f : Blk w b 9 #[.string file]
  l : Blk w (b + 1) 36 #[v]
  fr : Blk w (b + 2) 3 #[.int .i64 (fr : Int)]
  owns : w.ownsRow b 43 3 v ps.length (ps.flatMap (pcCells file))
  bel : Below w0.heap.size w0 w
  hb : w0.heap.size ≤ b

theorem CS.below {file : ByteArray} {w0 w w' : World} {b : Nat} {v : Value} {fr : Nat} {ps : List P3} (h : CS file w0 w b v fr ps) (k : Below w.heap.size w w') : CS file w0 w' b v fr ps :=
  ⟨h.f.below k h.f.lt, h.l.below k h.l.lt, h.fr.below k h.fr.lt, h.owns.kept (row := none) ⟨k.os, k.tape, k.output, k.size, fun i hi _ => k.block i hi⟩ (by cases v.ownBlock <;> simp), h.bel.trans (k.mono h.bel.size), h.hb⟩
theorem CS.append {file : ByteArray} {w0 w w1 : World} {b : Nat} {v v' : Value} {fr : Nat} {ps : List P3} {q : P3} {o : Obj} (h : CS file w0 w b v fr ps)
    (hown : w1.ownsRow b 43 3 v' (ps.length + 1) (ps.flatMap (pcCells file) ++ pcCells file q)) (hgrow : (w.alloc o).drew.grownBy w1 v.ownBlock) : CS file w0 (w1.setCell ⟨b + 1, 0, none⟩ v') b v' fr (ps ++ [q]) := by
  have n1 := Ne.symm (own_blk_ne h.owns h.f (by decide))
  have n2 := Ne.symm (own_blk_ne h.owns h.l (by decide))
  have n3 := Ne.symm (own_blk_ne h.owns h.fr (by decide))
  have f1 := (h.f.alloc o).drew.grown hgrow n1
  have l1 := (h.l.alloc o).drew.grown hgrow n2
  have r1 := (h.fr.alloc o).drew.grown hgrow n3
  have hne := own_blk_ne hown l1 (by decide)
  have hk : Keeps (fun i => w0.heap.size ≤ i) w w1 := (((Keeps.refl _ w).alloc o).drew).trans (Keeps.of_grown hgrow (fun g hg => Nat.le_trans h.hb (h.owns.lt g hg).1))
  have hk2 := hk.setCell (p := ⟨b + 1, 0, none⟩) (.inl (show w0.heap.size ≤ b + 1 by have := h.hb; omega)) v'
  refine ⟨f1.far (p := ⟨b + 1, 0, none⟩) (by simp) _, l1.set_ 0 _, r1.far (p := ⟨b + 1, 0, none⟩) (by simp) _, ?_, h.bel.trans (hk2.below h.bel.size (fun _ h => h)), h.hb⟩
  have := hown.kept (w' := w1.setCell ⟨b + 1, 0, none⟩ v') (row := some (b + 1)) (⟨rfl, rfl, rfl, by simp [World.setCell], fun i _ hi => Below.heap_setCell _ _ _ _ (fun e => hi (by rw [e]))⟩) (.inr hne)
  simpa using this

set_option maxRecDepth 100000 in
set_option maxHeartbeats 4000000 in
theorem html_any (file : ByteArray) (hfs : file.size ≤ 65536) (w0 w : World) (b : Nat) (v : Value) (fr to : Nat) (ps : List P3) (h : CS file w0 w b v fr ps) (hn : ps.length ≤ 1000000) (hto : to ≤ file.size) :
    Calls Tryz.prog 29 #[.int .i64 (to : Int), .pointer (some ⟨b + 2, 0, none⟩), .pointer (some ⟨b + 1, 0, none⟩), .pointer (some ⟨b, 0, none⟩)] w fun e w' => e = .returned (.tuple #[]) ∧ ∃ v', CS file w0 w' b v' fr (ps ++ htmlP fr to) := by
  obtain ⟨i0, hi0, hz0, hz1, hz2⟩ := info_parts piece_info
  have HI := Lib.hid (And.intro hi0 (And.intro hz0 (And.intro hz1 hz2))); clear hi0 hz0 hz1 hz2
  have H := Lib.hid h
  have c1 : w.cell? ⟨b, 0, none⟩ = some (.string file) := h.f.cell 0
  have c2 : w.cell? ⟨b + 1, 0, none⟩ = some v := h.l.cell 0
  have c3 : w.cell? ⟨b + 2, 0, none⟩ = some (.int .i64 (fr : Int)) := h.fr.cell 0
  have z2 := h.l.frozen 0
  clear h
  go_enter Tryz.func29, Tryz.ntmps29
  by_cases hlt : fr < to
  · have e : htmlP fr to = [⟨1, fr, to⟩] := if_pos hlt
    rw [e]
    clear e
    have hI : (fr : Int) < (to : Int) := by omega
    have hI0 : (0 : Int) ≤ (fr : Int) := by omega
    have hI1 : (to : Int) ≤ (file.size : Int) := by omega
    have hI2 : (fr : Int) ≤ (to : Int) := by omega
    have n1 := Ne.symm (own_blk_ne H.out.owns H.out.f (by decide))
    have n2 := Ne.symm (own_blk_ne H.out.owns H.out.l (by decide))
    have n3 := Ne.symm (own_blk_ne H.out.owns H.out.fr (by decide))
    have l1 := H.out.f.lt
    have l2 := H.out.l.lt
    have l3 := H.out.fr.lt
    go_wp2_with fail
    have m1 := World.new_ne w _ c1
    have m2 := World.new_ne w _ c2
    have m3 := World.new_ne w _ c3
    go_region_law ((refine step_append_lies _ (by rfl) _ _ _ (by rfl) b 43 i0 _ 3 32 Tryz.underlying36 HI.out.1 HI.out.2.1 HI.out.2.2.1 HI.out.2.2.2 rfl (by omega) v ps.length _ (by rfl) ((H.out.owns.alloc _).drew) ⟨w.heap.size, 0, none⟩ 1 1 (pcCells file ⟨1, fr, to⟩) (by rfl) (by rfl) (World.news_of_block (cs := (pcCells file ⟨1, fr, to⟩).toArray) (t := 43) (fr := (0, 0)) (heap_alloc_new w _)) (by simp [pcCells, Value.oneCell']) (by omega) (by unfold maxLen; omega) (by omega) (by simp; omega) (w.heap.size + 1) (by simp) ?_; intro gg cap w1 hown1 hgrow hat hlt1; have hfz : w1.frozen? ⟨b + 1, 0, none⟩ = false := (hgrow.frozen_far _ (by simp; omega) n2).trans ((H.out.l.alloc _).drew.frozen 0); have hfc : w1.cell? ⟨b + 1, 0, none⟩ = some v := (hgrow.cell_far _ (by simp; omega) n2).trans ((H.out.l.alloc _).drew.cell 0)))
    all_goals
      go_end0
      exact ⟨rfl, _, H.out.append hown1 hgrow⟩
  · have e : htmlP fr to = [] := if_neg hlt
    rw [e, List.append_nil]
    have hI : ¬ ((fr : Int) < (to : Int)) := by omega
    go_wp2_with fail
    go_end0
    exact ⟨rfl, v, H.out⟩
end Go.Proofs.YteajmgkdiioflaaGreatDoor
