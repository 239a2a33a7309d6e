/- api: rows of items that a call makes: plain lemmas. -/
import Derived.Test.YtgjnmfjiolpikaaGreatDoorDoA
import Derived.Deep.RegionHeld3
import Derived.Lib.Hide
import Derived.WalkKit
namespace Go.Proofs.YtgjnmfjiolpikaaGreatDoor
open Go Go.RowKit
namespace Dp
theorem item_info : (Tryz.prog.info? 46).map (fun i => (i.zero, i.size, i.bytes)) = some (some (.agg #[.bool false, .int .i64 0, .string ⟨#[]⟩, .int .i64 0, .int .i64 0, .string ⟨#[]⟩, .slice none 0 0]), 7, 88) := by kernel_rfl
/-- Values whose lists take no more bytes than any argument reaches. -/
inductive Sml : GV → Prop where
  | mk (k n : Int) (t : ByteArray) (l : List GI) (hl : l.length * 88 ≤ 140737488351232) (h : ∀ (i : Nat) (it : GI), l[i]? = some it → Sml it.val) : Sml (.mk k n t l)
/-- A row of items of the call's own, and their values, which are the call's own too. -/
structure RowSt (base : Nat) (w : World) (sv : Value) (ps : List PI) : Prop where
  owns : w.ownsRow base 46 7 sv ps.length (rowC ps)
  vals : ∀ p ∈ ps, VIn w (fun b => base ≤ b ∧ b < w.heap.size ∧ some b ≠ sv.ownBlock) p.gv p.val
theorem RowSt.nil (base : Nat) (w : World) : RowSt base w (.slice none 0 0) [] := ⟨World.ownsRow_nil _ _ _ _, fun p hp => by cases hp⟩
theorem RowSt.form {base : Nat} {w : World} {sv : Value} {ps : List PI} (h : RowSt base w sv ps) : ∃ A c, sv = .slice A ps.length c := by
  rcases h.owns.2 with ⟨e, h0⟩ | ⟨g, cap, cur, e, _⟩
  · exact ⟨none, 0, by rw [e, h0]⟩
  · exact ⟨_, _, e⟩
theorem own_lt {base : Nat} {w : World} {e : TypeId} {sz n : Nat} {sv : Value} {xs : List Value} (h : w.ownsRow base e sz sv n xs) {b : Nat} (hb : w.heap.size ≤ b) : some b ≠ sv.ownBlock := fun e' => by
  have := (h.lt b e'.symm).2
  omega
theorem RowSt.below {base : Nat} {w w' : World} {sv : Value} {ps : List PI} (h : RowSt base w sv ps) (hb : Below w.heap.size w w') : RowSt base w' sv ps := by
  refine ⟨h.owns.kept (row := none) ⟨hb.os, hb.tape, hb.output, hb.size, fun i hi _ => hb.block i hi⟩ (by cases sv.ownBlock <;> simp), fun p hp => (h.vals p hp).keep (fun b h => ⟨h.1, Nat.lt_of_lt_of_le h.2.1 hb.size, h.2.2⟩) fun q hq => hb.cell hq.2.1⟩
/-- One item more. -/
theorem RowSt.app {base : Nat} {w w2 w3 : World} {sv sv' : Value} {ps : List PI} {p : PI} {o : Obj} (h : RowSt base w sv ps) (hb : Below w.heap.size w w2) (hbs : base ≤ w.heap.size) (hv : VIn w2 (fun b => w.heap.size ≤ b ∧ b < w2.heap.size) p.gv p.val)
    (hown : w3.ownsRow base 46 7 sv' (ps.length + 1) (rowC ps ++ p.cells)) (hg : (w2.alloc o).grownBy w3 sv.ownBlock) (hor : sv'.ownBlock = sv.ownBlock ∨ sv'.ownBlock = some (w2.alloc o).heap.size) : RowSt base w3 sv' (ps ++ [p]) := by
  have hsz : w2.heap.size + 1 ≤ w3.heap.size := by have := hg.size; simpa using this
  have hw2 := hb.size
  have hne : ∀ b, b < w2.heap.size → some b ≠ sv.ownBlock → some b ≠ sv'.ownBlock := fun b hlt hn => by
    rcases hor with h1 | h1
    · rw [h1]; exact hn
    · rw [h1]
      intro e
      injection e with e
      simp at e
      omega
  have hk : ∀ b off, b < w2.heap.size → some b ≠ sv.ownBlock → w3.cell? ⟨b, off, none⟩ = w2.cell? ⟨b, off, none⟩ := fun b off hlt hn =>
    (World.cell?_of_block (hg.block b (by simp; omega) hn)).trans (World.cell?_alloc_lt w2 o ⟨b, off, none⟩ hlt)
  have hk' : ∀ q : Addr, q.block < w2.heap.size → some q.block ≠ sv.ownBlock → w3.cell? q = w2.cell? q := fun q hlt hn =>
    (World.cell?_of_block (hg.block q.block (by simp; omega) hn)).trans (World.cell?_alloc_lt w2 o q hlt)
  refine ⟨by rw [List.length_append, rowC_app]; exact hown, fun q hq => ?_⟩
  rcases List.mem_append.1 hq with hq | hq
  · exact (h.vals q hq).keep (fun b hS => ⟨hS.1, by omega, hne b (by omega) hS.2.2⟩) fun a ha => (hk' a (by omega) ha.2.2).trans (hb.cell ha.2.1)
  · have e : q = p := by simpa using hq
    subst e
    exact hv.keep (fun b hS => ⟨by omega, by omega, hne b hS.2 (own_lt h.owns hS.1)⟩) fun a ha => hk' a ha.2 (own_lt h.owns ha.1)
theorem RowSt.vin {base : Nat} {w : World} {sv : Value} {ps : List PI} (h : RowSt base w sv ps) (k n : Int) (t : ByteArray) : VIn w (fun b => base ≤ b ∧ b < w.heap.size) (.mk k n t (ps.map PI.it)) (.agg #[.int .i64 k, .int .i64 n, .string t, sv]) := by
  obtain ⟨A, c, rfl⟩ := h.form
  exact vin_row h.owns (fun b h1 h2 => ⟨h1, h2⟩) (fun p hp => (h.vals p hp).keep (fun b h => ⟨h.1, h.2.1⟩) fun _ _ => rfl) k n t
theorem grown_below {base : Nat} {w w2 w3 : World} {sv : Value} {o : Obj} (hb : Below base w w2) (hbs : base ≤ w.heap.size) (hg : (w2.alloc o).grownBy w3 sv.ownBlock) (hn : ∀ g, sv.ownBlock = some g → base ≤ g) : Below base w w3 :=
  (hb.alloc (Nat.le_trans hbs hb.size) o).grown hg (by have := hb.size; simp; omega) hn
theorem reads_blk {w : World} {g : Nat} {t : TypeId} {p : PI} (h : Blk w g t #[.bool p.b, .int .i64 p.i, .string p.s, .int .i64 p.k, .int .i64 p.n, .string p.t, .slice p.A p.l.length p.c]) : Reads w w.heap.size 7 (some ⟨g, 0, none⟩) 1 p.cells := by
  refine ⟨rfl, fun _ => ⟨⟨g, 0, none⟩, rfl, h.lt, fun j u hu => ?_⟩⟩
  have hj : j < 7 := (List.getElem?_eq_some_iff.1 hu).1
  have e : ((⟨g, 0, none⟩ : Addr).add j) = ⟨g, j, none⟩ := by
    unfold Addr.add
    by_cases h0 : j = 0
    · subst h0; rfl
    · simp [h0]
  rw [e, h.cell]
  simpa [PI.cells] using hu
theorem cells_one (p : PI) : ∀ u ∈ p.cells, u.oneCell' = true := by
  intro u hu
  simp only [PI.cells, List.mem_cons, List.not_mem_nil, or_false] at hu
  rcases hu with rfl | rfl | rfl | rfl | rfl | rfl | rfl <;> rfl
theorem rowC_one (ps : List PI) : ∀ u ∈ rowC ps, u.oneCell' = true := by
  intro u hu
  obtain ⟨p, _, hp⟩ := List.mem_flatMap.1 hu
  exact cells_one p u hp
theorem vat_form2 {w : World} {B : Nat} {k n : Int} {t : ByteArray} {l : List GI} {v0 v1 v2 v3 : Value} (h : VAt w B (.mk k n t l) (.agg #[v0, v1, v2, v3])) : v0 = .int .i64 k ∧ v1 = .int .i64 n ∧ v2 = .string t ∧ ∃ A c, v3 = .slice A l.length c := by
  cases h
  exact ⟨rfl, rfl, rfl, _, _, rfl⟩
/-- append of one item to a row of the call's own, in a region. -/
theorem step_app_item {ops : Array Oper} {o : Oper} {a : Act} {w : World} {K : Act → World → Prop} {Q : Exit → Act → World → Prop} {E : Prop} (hgd : o.guard = none) (s x : Operand)
    (ho : o.op = .call { callee := .builtin .append, args := #[s, x], argTypes := #[23, 23] }) (base : Nat) (sv : Value) (ps : List PI) (hs : a.eval s = sv) (hown : w.ownsRow base 46 7 sv ps.length (rowC ps)) (hbase : base ≤ w.heap.size)
    (A : Option Addr) (m c : Nat) (qs : List PI) (hx : a.eval x = .slice A m c) (hr : Reads w w.heap.size 7 A m (rowC qs)) (hsm : (ps.length + m) * 88 ≤ 140737488355328)
    (h : ∀ v' w', w'.ownsRow base 46 7 v' (ps.length + m) (rowC ps ++ rowC qs) → w.grownBy w' sv.ownBlock → (v'.ownBlock = sv.ownBlock ∨ v'.ownBlock = some w.heap.size) → K (a.put o.dst v') w') :
    if Region.wanted o (yielded ops a.tmps) = true then Oper.wp Tryz.prog o a w K Q else E := by
  obtain ⟨i0, hi0, hz0, hz1, hz2⟩ := info_parts item_info
  exact step_append_any w hgd s x _ ho base 46 i0 _ 7 88 Tryz.underlying23 hi0 hz0 hz1 hz2 rfl (by decide) sv ps.length (rowC ps) hs hown w.heap.size A m c (rowC qs) hx hr (rowC_one qs) (by unfold maxLen; omega) (by omega) hbase h
theorem drewU {B : Nat} {w w' : World} (h : Below B w w') (n : Nat) : Below B w (w'.drewN n) := ⟨h.os, h.tape, h.output, h.size, h.block⟩
theorem seven {w : World} {g : Nat} {t : TypeId} {c0 c1 c2 c3 c4 c5 c6 : Value} (h : Blk w g t #[c0, c1, c2, c3, c4, c5, c6]) : w.cell? ⟨g, 0, none⟩ = some c0 ∧ w.cell? ⟨g, 1, none⟩ = some c1 ∧ w.cell? ⟨g, 2, none⟩ = some c2 ∧ w.cell? ⟨g, 3, none⟩ = some c3 ∧ w.cell? ⟨g, 4, none⟩ = some c4 ∧ w.cell? ⟨g, 5, none⟩ = some c5 ∧ w.cell? ⟨g, 6, none⟩ = some c6 :=
  ⟨h.cell 0, h.cell 1, h.cell 2, h.cell 3, h.cell 4, h.cell 5, h.cell 6⟩
end Dp
end Go.Proofs.YtgjnmfjiolpikaaGreatDoor
