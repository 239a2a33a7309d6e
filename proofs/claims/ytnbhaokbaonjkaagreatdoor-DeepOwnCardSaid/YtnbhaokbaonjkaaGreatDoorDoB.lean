/- deep: rows of items that a call makes; deep.copied: a value of its own: the walk. -/
import Derived.Test.YtnbhaokbaonjkaaGreatDoorDoA
import Derived.Deep.RegionHeld3
import Derived.Lib.Hide
import Derived.WalkKit
namespace Go.Proofs.YtnbhaokbaonjkaaGreatDoor
open Go Go.RowKit
namespace Dp
theorem item_info : (Tryz.prog.info? 34).map (fun i => (i.zero, i.size, i.bytes)) = some (some (.agg #[.bool false, .int .i64 0, .string ⟨#[]⟩, .int .i64 0, .int .i64 0, .string ⟨#[]⟩, .slice none 0 0]), 7, 88) := by kernel_rfl
/-- Values whose lists take no more bytes than any argument reaches. -/
inductive Sml : GV → Prop where
  | mk (k n : Int) (t : ByteArray) (l : List GI) (hl : l.length * 88 ≤ 140737488351232) (h : ∀ (i : Nat) (it : GI), l[i]? = some it → Sml it.val) : Sml (.mk k n t l)
/-- A row of items of the call's own, and their values, which are the call's own too. -/
structure RowSt (base : Nat) (w : World) (sv : Value) (ps : List PI) : Prop where
  owns : w.ownsRow base 34 7 sv ps.length (rowC ps)
  vals : ∀ p ∈ ps, VIn w (fun b => base ≤ b ∧ b < w.heap.size ∧ some b ≠ sv.ownBlock) p.gv p.val
theorem RowSt.nil (base : Nat) (w : World) : RowSt base w (.slice none 0 0) [] := ⟨World.ownsRow_nil _ _ _ _, fun p hp => by cases hp⟩
theorem RowSt.form {base : Nat} {w : World} {sv : Value} {ps : List PI} (h : RowSt base w sv ps) : ∃ A c, sv = .slice A ps.length c := by
  rcases h.owns.2 with ⟨e, h0⟩ | ⟨g, cap, cur, e, _⟩
  · exact ⟨none, 0, by rw [e, h0]⟩
  · exact ⟨_, _, e⟩
theorem own_lt {base : Nat} {w : World} {e : TypeId} {sz n : Nat} {sv : Value} {xs : List Value} (h : w.ownsRow base e sz sv n xs) {b : Nat} (hb : w.heap.size ≤ b) : some b ≠ sv.ownBlock := fun e' => by
  have := (h.lt b e'.symm).2
  omega
theorem RowSt.below {base : Nat} {w w' : World} {sv : Value} {ps : List PI} (h : RowSt base w sv ps) (hb : Below w.heap.size w w') : RowSt base w' sv ps := by
  refine ⟨h.owns.kept (row := none) ⟨hb.os, hb.tape, hb.output, hb.size, fun i hi _ => hb.block i hi⟩ (by cases sv.ownBlock <;> simp), fun p hp => (h.vals p hp).keep (fun b h => ⟨h.1, Nat.lt_of_lt_of_le h.2.1 hb.size, h.2.2⟩) fun q hq => hb.cell hq.2.1⟩
/-- One item more. -/
theorem RowSt.app {base : Nat} {w w2 w3 : World} {sv sv' : Value} {ps : List PI} {p : PI} {o : Obj} (h : RowSt base w sv ps) (hb : Below w.heap.size w w2) (hbs : base ≤ w.heap.size) (hv : VIn w2 (fun b => w.heap.size ≤ b ∧ b < w2.heap.size) p.gv p.val)
    (hown : w3.ownsRow base 34 7 sv' (ps.length + 1) (rowC ps ++ p.cells)) (hg : (w2.alloc o).grownBy w3 sv.ownBlock) (hor : sv'.ownBlock = sv.ownBlock ∨ sv'.ownBlock = some (w2.alloc o).heap.size) : RowSt base w3 sv' (ps ++ [p]) := by
  have hsz : w2.heap.size + 1 ≤ w3.heap.size := by have := hg.size; simpa using this
  have hw2 := hb.size
  have hne : ∀ b, b < w2.heap.size → some b ≠ sv.ownBlock → some b ≠ sv'.ownBlock := fun b hlt hn => by
    rcases hor with h1 | h1
    · rw [h1]; exact hn
    · rw [h1]
      intro e
      injection e with e
      simp at e
      omega
  have hk : ∀ b off, b < w2.heap.size → some b ≠ sv.ownBlock → w3.cell? ⟨b, off, none⟩ = w2.cell? ⟨b, off, none⟩ := fun b off hlt hn =>
    (World.cell?_of_block (hg.block b (by simp; omega) hn)).trans (World.cell?_alloc_lt w2 o ⟨b, off, none⟩ hlt)
  have hk' : ∀ q : Addr, q.block < w2.heap.size → some q.block ≠ sv.ownBlock → w3.cell? q = w2.cell? q := fun q hlt hn =>
    (World.cell?_of_block (hg.block q.block (by simp; omega) hn)).trans (World.cell?_alloc_lt w2 o q hlt)
  refine ⟨by rw [List.length_append, rowC_app]; exact hown, fun q hq => ?_⟩
  rcases List.mem_append.1 hq with hq | hq
  · exact (h.vals q hq).keep (fun b hS => ⟨hS.1, by omega, hne b (by omega) hS.2.2⟩) fun a ha => (hk' a (by omega) ha.2.2).trans (hb.cell ha.2.1)
  · have e : q = p := by simpa using hq
    subst e
    exact hv.keep (fun b hS => ⟨by omega, by omega, hne b hS.2 (own_lt h.owns hS.1)⟩) fun a ha => hk' a ha.2 (own_lt h.owns ha.1)
theorem RowSt.vin {base : Nat} {w : World} {sv : Value} {ps : List PI} (h : RowSt base w sv ps) (k n : Int) (t : ByteArray) : VIn w (fun b => base ≤ b ∧ b < w.heap.size) (.mk k n t (ps.map PI.it)) (.agg #[.int .i64 k, .int .i64 n, .string t, sv]) := by
  obtain ⟨A, c, rfl⟩ := h.form
  exact vin_row h.owns (fun b h1 h2 => ⟨h1, h2⟩) (fun p hp => (h.vals p hp).keep (fun b h => ⟨h.1, h.2.1⟩) fun _ _ => rfl) k n t
theorem grown_below {base : Nat} {w w2 w3 : World} {sv : Value} {o : Obj} (hb : Below base w w2) (hbs : base ≤ w.heap.size) (hg : (w2.alloc o).grownBy w3 sv.ownBlock) (hn : ∀ g, sv.ownBlock = some g → base ≤ g) : Below base w w3 :=
  (hb.alloc (Nat.le_trans hbs hb.size) o).grown hg (by have := hb.size; simp; omega) hn
theorem reads_blk {w : World} {g : Nat} {t : TypeId} {p : PI} (h : Blk w g t #[.bool p.b, .int .i64 p.i, .string p.s, .int .i64 p.k, .int .i64 p.n, .string p.t, .slice p.A p.l.length p.c]) : Reads w w.heap.size 7 (some ⟨g, 0, none⟩) 1 p.cells := by
  refine ⟨rfl, fun _ => ⟨⟨g, 0, none⟩, rfl, h.lt, fun j u hu => ?_⟩⟩
  have hj : j < 7 := (List.getElem?_eq_some_iff.1 hu).1
  have e : ((⟨g, 0, none⟩ : Addr).add j) = ⟨g, j, none⟩ := by
    unfold Addr.add
    by_cases h0 : j = 0
    · subst h0; rfl
    · simp [h0]
  rw [e, h.cell]
  simpa [PI.cells] using hu
theorem cells_one (p : PI) : ∀ u ∈ p.cells, u.oneCell' = true := by
  intro u hu
  simp only [PI.cells, List.mem_cons, List.not_mem_nil, or_false] at hu
  rcases hu with rfl | rfl | rfl | rfl | rfl | rfl | rfl <;> rfl
theorem rowC_one (ps : List PI) : ∀ u ∈ rowC ps, u.oneCell' = true := by
  intro u hu
  obtain ⟨p, _, hp⟩ := List.mem_flatMap.1 hu
  exact cells_one p u hp
theorem vat_form2 {w : World} {B : Nat} {k n : Int} {t : ByteArray} {l : List GI} {v0 v1 v2 v3 : Value} (h : VAt w B (.mk k n t l) (.agg #[v0, v1, v2, v3])) : v0 = .int .i64 k ∧ v1 = .int .i64 n ∧ v2 = .string t ∧ ∃ A c, v3 = .slice A l.length c := by
  cases h
  exact ⟨rfl, rfl, rfl, _, _, rfl⟩
/-- append of one item to a row of the call's own, in a region. -/
theorem step_app_item {ops : Array Oper} {o : Oper} {a : Act} {w : World} {K : Act → World → Prop} {Q : Exit → Act → World → Prop} {E : Prop} (hgd : o.guard = none) (s x : Operand)
    (ho : o.op = .call { callee := .builtin .append, args := #[s, x], argTypes := #[22, 22] }) (base : Nat) (sv : Value) (ps : List PI) (hs : a.eval s = sv) (hown : w.ownsRow base 34 7 sv ps.length (rowC ps)) (hbase : base ≤ w.heap.size)
    (A : Option Addr) (m c : Nat) (qs : List PI) (hx : a.eval x = .slice A m c) (hr : Reads w w.heap.size 7 A m (rowC qs)) (hsm : (ps.length + m) * 88 ≤ 140737488355328)
    (h : ∀ v' w', w'.ownsRow base 34 7 v' (ps.length + m) (rowC ps ++ rowC qs) → w.grownBy w' sv.ownBlock → (v'.ownBlock = sv.ownBlock ∨ v'.ownBlock = some w.heap.size) → K (a.put o.dst v') w') :
    if Region.wanted o (yielded ops a.tmps) = true then Oper.wp Tryz.prog o a w K Q else E := by
  obtain ⟨i0, hi0, hz0, hz1, hz2⟩ := info_parts item_info
  exact step_append_any w hgd s x _ ho base 34 i0 _ 7 88 Tryz.underlying22 hi0 hz0 hz1 hz2 rfl (by decide) sv ps.length (rowC ps) hs hown w.heap.size A m c (rowC qs) hx hr (rowC_one qs) (by unfold maxLen; omega) (by omega) hbase h
theorem drewU {B : Nat} {w w' : World} (h : Below B w w') (n : Nat) : Below B w (w'.drewN n) := ⟨h.os, h.tape, h.output, h.size, h.block⟩
theorem seven {w : World} {g : Nat} {t : TypeId} {c0 c1 c2 c3 c4 c5 c6 : Value} (h : Blk w g t #[c0, c1, c2, c3, c4, c5, c6]) : w.cell? ⟨g, 0, none⟩ = some c0 ∧ w.cell? ⟨g, 1, none⟩ = some c1 ∧ w.cell? ⟨g, 2, none⟩ = some c2 ∧ w.cell? ⟨g, 3, none⟩ = some c3 ∧ w.cell? ⟨g, 4, none⟩ = some c4 ∧ w.cell? ⟨g, 5, none⟩ = some c5 ∧ w.cell? ⟨g, 6, none⟩ = some c6 :=
  ⟨h.cell 0, h.cell 1, h.cell 2, h.cell 3, h.cell 4, h.cell 5, h.cell 6⟩
section
variable {w : World} {B : Nat}
set_option maxRecDepth 100000 in
set_option maxHeartbeats 4000000 in
theorem copied_any (hBw : B ≤ w.heap.size) {g : GV} {x : Value} (h : VAt w B g x) (hs : Sml g) : ∀ (w' : World), Below B w w' →
    Calls Tryz.prog 19 #[x] w' fun e w'' => ∃ y, e = .returned y ∧ VIn w'' (fun b => w'.heap.size ≤ b ∧ b < w''.heap.size) g y ∧ Below w'.heap.size w' w'' := by
  induction h with
  | mk k n t l A c b off C hc hn hA hi hv ih =>
    intro w' hb
    cases hs with
    | mk _ _ _ _ hl hsm =>
    have hB' : B ≤ w'.heap.size := Nat.le_trans hBw hb.size
    have HA := Lib.hid hA
    have HI := Lib.hid hi
    have HV := Lib.hid (fun i it h => ih i it h (hsm i it h))
    have HW := Lib.hid hv
    have Hb := Lib.hid hb
    have hal := fun (w1 : World) (o : Obj) => (Below.refl w1.heap.size w1).alloc (Nat.le_refl _) o
    have HAL := Lib.hid hal
    have HB0 := Lib.hid ((((Below.refl w'.heap.size w').alloc (Nat.le_refl _) (.cells #[.int .i64 k, .int .i64 n, .string t, .slice A l.length c] 24))).alloc (by simp) (.cells #[.int .i64 0, .int .i64 0, .string ⟨#[]⟩, .slice none 0 0] 24))
    have HX0 := Lib.hid (blk_below (Blk.new w' 24 #[.int .i64 k, .int .i64 n, .string t, .slice A l.length c]) (hal _ (.cells #[.int .i64 0, .int .i64 0, .string ⟨#[]⟩, .slice none 0 0] 24)))
    have HZ0 := Lib.hid (Blk.new (w'.alloc (.cells #[.int .i64 k, .int .i64 n, .string t, .slice A l.length c] 24)) 24 #[.int .i64 0, .int .i64 0, .string ⟨#[]⟩, .slice none 0 0])
    have hw1 : (w'.alloc (.cells #[.int .i64 k, .int .i64 n, .string t, .slice A l.length c] 24)).heap.size = w'.heap.size + 1 := by simp
    rw [hw1] at HZ0
    have HR0 := Lib.hid (RowSt.nil (w'.heap.size + 2) ((w'.alloc (.cells #[.int .i64 k, .int .i64 n, .string t, .slice A l.length c] 24)).alloc (.cells #[.int .i64 0, .int .i64 0, .string ⟨#[]⟩, .slice none 0 0] 24)))
    clear hA hi ih hv hb hw1 hal hsm
    go_enter Tryz.func19, Tryz.ntmps19
    go_wp2_with fail
    go_loopw [3, 9] (fun x3 xi wx => ∃ (j : Nat) (ps : List PI) (A3 : Option Addr) (c3 : Nat), j ≤ l.length ∧ xi = .int .i64 j ∧ x3 = .slice A3 j c3 ∧ ps.length = j ∧ Hid (ps.map PI.it = l.take j) ∧ w'.heap.size + 2 ≤ wx.heap.size ∧ Hid (RowSt (w'.heap.size + 2) wx (.slice A3 j c3) ps) ∧ Hid (Below w'.heap.size w' wx) ∧ Hid (Blk wx w'.heap.size 24 #[.int .i64 k, .int .i64 n, .string t, .slice A l.length c]) ∧ Hid (Blk wx (w'.heap.size + 1) 24 #[.int .i64 0, .int .i64 0, .string ⟨#[]⟩, .slice none 0 0])) (fun _ xi _ => l.length - (ixOf xi).toNat)
    case atStart => exact ⟨0, [], none, 0, Nat.zero_le _, rfl, rfl, rfl, by simp [Hid], by simp, HR0, HB0, HX0, HZ0⟩
    case round =>
      obtain ⟨j, ps, A3, c3, hj, rfl, rfl, hpj, HP, hsz, HR, HB, HX, HZ⟩ := hrel
      clear HB0 HX0 HZ0 HR0
      by_cases hlt : j < l.length
      · obtain ⟨it, hit⟩ : ∃ it, l[j]? = some it := ⟨_, List.getElem?_eq_getElem hlt⟩
        obtain ⟨rfl, hbB⟩ := HA.out (by omega)
        have hbw : Below B w wr := Hb.out.trans (HB.out.mono hB')
        have hwr := HB.out.size
        obtain ⟨c0, c1, c2, v0, v1, v2, v3, e, c3', c4, c5, c6⟩ := (HI.out j it hit).below hbw hbB
        have hform := HW.out j it hit
        have HTk : Hid (l.take (j + 1) = l.take j ++ [it]) := by
          show _ = _
          rw [List.take_add_one, hit]
          rfl
        have hR := fun wz (hz : Below B w wz) => HV.out j it hit wz hz
        rw [e] at hform hR
        obtain ⟨ib, ii, is, iv⟩ := it
        simp only [GI.val, GI.isText, GI.int, GI.text] at hform hR c0 c1 c2
        obtain ⟨k1, n1, t1, l1⟩ := iv
        obtain ⟨rfl, rfl, rfl, A1, e1, rfl⟩ := vat_form2 hform
        have HCR : Hid (∀ wz : World, Below B w wz → Calls Tryz.prog 19 #[.agg #[.int .i64 k1, .int .i64 n1, .string t1, .slice A1 l1.length e1]] wz fun e w2 => ∃ A2 c2, e = .returned (.agg #[.int .i64 k1, .int .i64 n1, .string t1, .slice A2 l1.length c2]) ∧ VIn w2 (fun b => wz.heap.size ≤ b ∧ b < w2.heap.size) (.mk k1 n1 t1 l1) (.agg #[.int .i64 k1, .int .i64 n1, .string t1, .slice A2 l1.length c2]) ∧ Below wz.heap.size wz w2) := fun wz hz => (hR wz hz).mono fun e w2 ⟨y, h1, h2, h3⟩ => by
          obtain ⟨A2, c2, rfl⟩ := h2.form
          exact ⟨A2, c2, h1, h2, h3⟩
        clear hform HW e hR HI HV
        have Hbw := Lib.hid (hbw.alloc (by omega) (.cells #[.bool ib, .int .i64 ii, .string is, .int .i64 k1, .int .i64 n1, .string t1, .slice A1 l1.length e1] 34))
        have HBi := Lib.hid (HAL.out wr (.cells #[.bool ib, .int .i64 ii, .string is, .int .i64 k1, .int .i64 n1, .string t1, .slice A1 l1.length e1] 34))
        have HIi := Lib.hid (Blk.new wr 34 #[.bool ib, .int .i64 ii, .string is, .int .i64 k1, .int .i64 n1, .string t1, .slice A1 l1.length e1])
        have d0 := HIi.out.cell 0
        have d1 := HIi.out.cell 1
        have d2 := HIi.out.cell 2
        have d3 := HIi.out.cell 3
        have d4 := HIi.out.cell 4
        have d5 := HIi.out.cell 5
        have d6 := HIi.out.cell 6
        clear hbw
        go_upto_region 5 with fail
        have hwi : (wr.alloc (.cells #[.bool ib, .int .i64 ii, .string is, .int .i64 k1, .int .i64 n1, .string t1, .slice A1 l1.length e1] 34)).heap.size = wr.heap.size + 1 := by simp
        generalize wr.alloc (.cells #[.bool ib, .int .i64 ii, .string is, .int .i64 k1, .int .i64 n1, .string t1, .slice A1 l1.length e1] 34) = wi at *
        go_region_held3 (fun w' => w'.cell? ⟨wr.heap.size, 0, none⟩ = some (.bool ib) ∧ w'.cell? ⟨wr.heap.size, 1, none⟩ = some (.int .i64 ii) ∧ w'.cell? ⟨wr.heap.size, 2, none⟩ = some (.string is) ∧ w'.cell? ⟨wr.heap.size, 3, none⟩ = some (.int .i64 k1) ∧ w'.cell? ⟨wr.heap.size, 4, none⟩ = some (.int .i64 n1) ∧ w'.cell? ⟨wr.heap.size, 5, none⟩ = some (.string t1) ∧ w'.cell? ⟨wr.heap.size, 6, none⟩ = some (.slice A1 l1.length e1))
          (first | exact ⟨d0, d1, d2, d3, d4, d5, d6⟩ | exact ⟨y0, y1, y2, y3, y4, y5, y6⟩ | exact (seven (Blk.alloc HI2.out _)) | exact (seven HI3.out))
          (first
            | (go_at_call 19; refine (HCR.out _ (Hbw.out.trans (drewU (Below.refl _ _) 1))).mono ?_; rintro e w2 ⟨A2, c2, rfl, hy, hb2⟩; have HY2 := Lib.hid hy; have HB2 := Lib.hid ((drewU (Below.refl wi.heap.size wi) 1).trans hb2); have HI2 := Lib.hid (blk_below HIi.out HB2.out); have y0 := HI2.out.cell 0; have y1 := HI2.out.cell 1; have y2 := HI2.out.cell 2; have y3 := HI2.out.cell 3; have y4 := HI2.out.cell 4; have y5 := HI2.out.cell 5; have y6 := HI2.out.cell 6; clear hy hb2)
            | (refine step_app_item rfl (.tmp 13) (.tmp 20) rfl (w'.heap.size + 2) (.slice A3 j c3) ps rfl ((HR.out.below (HBi.out.trans (HB2.out.mono (by omega)))).below (HAL.out _ _)).owns ?_ (some ⟨w2.heap.size, 0, none⟩) 1 1 [⟨ib, ii, is, k1, n1, t1, l1, A2, c2⟩] rfl (by simpa [rowC, PI.cells] using reads_blk (p := ⟨ib, ii, is, k1, n1, t1, l1, A2, c2⟩) (Blk.new w2 _ _)) (by omega) ?_
               · have := HB2.out.size; simp; omega
               intro v3 w3 hown3 hg3 hor3
               have HO3 := Lib.hid hown3; have HG3 := Lib.hid hg3; have HQ3 := Lib.hid hor3; have HI3 := Lib.hid ((HI2.out.alloc _).grown hg3 (own_lt HR.out.owns (Nat.le_refl _))); clear hown3 hg3 hor3))
        have hw2 := HB2.out.size
        have hw3 := HG3.out.size
        have hbw2 := HBi.out.trans (HB2.out.mono (by omega))
        have hRn := RowSt.app (p := ⟨ib, ii, is, k1, n1, t1, l1, A2, c2⟩) HR.out hbw2 (by omega) (HY2.out.keep (fun b hS => ⟨by have := hS.1; simp at this; omega, hS.2⟩) fun _ _ => rfl) (by simpa [rowC, PI.cells] using HO3.out) HG3.out HQ3.out
        obtain ⟨A4, c4', hv3⟩ := hRn.form
        rw [List.length_append, hpj] at hv3
        have hge : ∀ gb, Value.ownBlock (.slice A3 j c3) = some gb → w'.heap.size + 2 ≤ gb := fun gb e => (HR.out.owns.lt gb e).1
        have HB3 := Lib.hid (grown_below (HB.out.trans (hbw2.mono hwr)) (Nat.le_refl _) HG3.out (fun gb e => by have := hge gb e; omega))
        have HX3 := Lib.hid (((HX.out.below hbw2 (by omega)).alloc _).grown HG3.out (fun e => by have := hge _ e.symm; omega))
        have HZ3 := Lib.hid (((HZ.out.below hbw2 (by omega)).alloc _).grown HG3.out (fun e => by have := hge _ e.symm; omega))
        have HP3 : Hid ((ps ++ [(⟨ib, ii, is, k1, n1, t1, l1, A2, c2⟩ : PI)]).map PI.it = l.take (j + 1)) := by
          show _ = _
          rw [HTk.out, List.map_append, HP.out]
          rfl
        have HRn := Lib.hid hRn
        subst hv3
        clear hRn hge hbw2 HY2 HO3 HG3 HQ3 HI3 HI2 HB2 HBi HIi HR HX HZ HB HTk HP HCR Hbw
        go_wp2_with fail
        go_roundw
        case rel => exact ⟨j + 1, _, A4, c4', by omega, by go_num, rfl, by simp [hpj], HP3, by simp at hw3; omega, HRn, HB3, HX3, HZ3⟩
        case measure => simp [ixOf] <;> omega
      · obtain rfl : j = l.length := by omega
        have HV3 := Lib.hid (HR.out.vin k n t)
        rw [HP.out, List.take_length] at HV3
        have z0 : wr.cell? ⟨w'.heap.size + 1, 0, none⟩ = some (.int .i64 0) := HZ.out.cell 0
        have z1 : wr.cell? ⟨w'.heap.size + 1, 1, none⟩ = some (.int .i64 0) := HZ.out.cell 1
        have z2 : wr.cell? ⟨w'.heap.size + 1, 2, none⟩ = some (.string ⟨#[]⟩) := HZ.out.cell 2
        have z3 : wr.cell? ⟨w'.heap.size + 1, 3, none⟩ = some (.slice none 0 0) := HZ.out.cell 3
        have x0 : wr.cell? ⟨w'.heap.size, 0, none⟩ = some (.int .i64 k) := HX.out.cell 0
        have x1 : wr.cell? ⟨w'.heap.size, 1, none⟩ = some (.int .i64 n) := HX.out.cell 1
        have x2 : wr.cell? ⟨w'.heap.size, 2, none⟩ = some (.string t) := HX.out.cell 2
        have x3 : wr.cell? ⟨w'.heap.size, 3, none⟩ = some (.slice A l.length c) := HX.out.cell 3
        have zf0 := HZ.out.frozen 0
        have zf1 := HZ.out.frozen 1
        have zf2 := HZ.out.frozen 2
        have zf3 := HZ.out.frozen 3
        have xf3 := HX.out.frozen 3
        clear HI HV HA HW
        go_wp2_with fail
        have HZf := (((((HZ.out.far (p := ⟨w'.heap.size, 3, none⟩) (by simp) (.slice A3 l.length c3)).set_ 0 (.int .i64 k)).set_ 1 (.int .i64 n)).set_ 2 (.string t)).set_ 3 (.slice A3 l.length c3))
        have HVf : VIn (((((wr.setCell ⟨w'.heap.size, 3, none⟩ (.slice A3 l.length c3)).setCell ⟨w'.heap.size + 1, 0, none⟩ (.int .i64 k)).setCell ⟨w'.heap.size + 1, 1, none⟩ (.int .i64 n)).setCell ⟨w'.heap.size + 1, 2, none⟩ (.string t)).setCell ⟨w'.heap.size + 1, 3, none⟩ (.slice A3 l.length c3)) (fun b => w'.heap.size ≤ b ∧ b < wr.heap.size) (.mk k n t l) (.agg #[.int .i64 k, .int .i64 n, .string t, .slice A3 l.length c3]) := HV3.out.keep (fun b h => ⟨by omega, h.2⟩) (fun q hq => by
          rw [World.cell?_setCell_far, World.cell?_setCell_far, World.cell?_setCell_far, World.cell?_setCell_far, World.cell?_setCell_far] <;> (simp; omega))
        have HBf : Below w'.heap.size w' (((((wr.setCell ⟨w'.heap.size, 3, none⟩ (.slice A3 l.length c3)).setCell ⟨w'.heap.size + 1, 0, none⟩ (.int .i64 k)).setCell ⟨w'.heap.size + 1, 1, none⟩ (.int .i64 n)).setCell ⟨w'.heap.size + 1, 2, none⟩ (.string t)).setCell ⟨w'.heap.size + 1, 3, none⟩ (.slice A3 l.length c3)) :=
          ((((HB.out.setCell (p := ⟨w'.heap.size, 3, none⟩) (Nat.le_refl _) _).setCell (p := ⟨w'.heap.size + 1, 0, none⟩) (by simp) _).setCell (p := ⟨w'.heap.size + 1, 1, none⟩) (by simp) _).setCell (p := ⟨w'.heap.size + 1, 2, none⟩) (by simp) _).setCell (p := ⟨w'.heap.size + 1, 3, none⟩) (by simp) _
        have hzf : (((((wr.setCell ⟨w'.heap.size, 3, none⟩ (.slice A3 l.length c3)).setCell ⟨w'.heap.size + 1, 0, none⟩ (.int .i64 k)).setCell ⟨w'.heap.size + 1, 1, none⟩ (.int .i64 n)).setCell ⟨w'.heap.size + 1, 2, none⟩ (.string t)).setCell ⟨w'.heap.size + 1, 3, none⟩ (.slice A3 l.length c3)).heap.size = wr.heap.size := by simp
        generalize ((((wr.setCell ⟨w'.heap.size, 3, none⟩ (.slice A3 l.length c3)).setCell ⟨w'.heap.size + 1, 0, none⟩ (.int .i64 k)).setCell ⟨w'.heap.size + 1, 1, none⟩ (.int .i64 n)).setCell ⟨w'.heap.size + 1, 2, none⟩ (.string t)).setCell ⟨w'.heap.size + 1, 3, none⟩ (.slice A3 l.length c3) = wf at *
        have e0 : wf.cell? ⟨w'.heap.size + 1, 0, none⟩ = some (.int .i64 k) := HZf.cell 0
        have e1 : wf.cell? ⟨w'.heap.size + 1, 1, none⟩ = some (.int .i64 n) := HZf.cell 1
        have e2 : wf.cell? ⟨w'.heap.size + 1, 2, none⟩ = some (.string t) := HZf.cell 2
        have e3 : wf.cell? ⟨w'.heap.size + 1, 3, none⟩ = some (.slice A3 l.length c3) := HZf.cell 3
        refine bodyPost_ret (v := .agg #[.int .i64 k, .int .i64 n, .string t, .slice A3 l.length c3]) (by simp [results, Tryz.results19, go_sem, e0, e1, e2, e3]) rfl ?_
        exact ⟨_, rfl, by rw [hzf]; exact HVf, HBf⟩
end
end Dp
end Go.Proofs.YtnbhaokbaonjkaaGreatDoor
