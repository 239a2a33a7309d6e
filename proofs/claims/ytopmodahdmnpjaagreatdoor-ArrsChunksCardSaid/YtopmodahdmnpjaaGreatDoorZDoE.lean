/- list.List of values: Set at a new key: the walk. -/
import Derived.Test.YtopmodahdmnpjaaGreatDoorZDoD
import Derived.Test.YtopmodahdmnpjaaGreatDoorZAppsQ
import Derived.Maps.Own
namespace Go.Proofs.YtopmodahdmnpjaaGreatDoor
open Go Go.RowKit
namespace Dp
open Go.Proofs.YtopmodahdmnpjaaGreatDoor.Nm (normG keyV norm_any)
theorem item2_info : (Tryz.prog.info? 136).map (fun i => (i.zero, i.size, i.bytes)) = some (some (.agg #[.bool false, .int .i64 0, .string ⟨#[]⟩, .int .i64 0, .int .i64 0, .string ⟨#[]⟩, .slice none 0 0]), 7, 88) := by kernel_rfl
/-- append of one item to a list's row, in a region. -/
theorem step_app_it2 {ops : Array Oper} {o : Oper} {a : Act} {w : World} {K : Act → World → Prop} {Q : Exit → Act → World → Prop} {E : Prop} (hgd : o.guard = none) (s x : Operand)
    (ho : o.op = .call { callee := .builtin .append, args := #[s, x], argTypes := #[127, 127] }) (base : Nat) (sv : Value) (ps : List PI) (hs : a.eval s = sv) (hown : w.ownsRow base 136 7 sv ps.length (rowC ps)) (hbase : base ≤ w.heap.size)
    (A : Option Addr) (m c : Nat) (qs : List PI) (hx : a.eval x = .slice A m c) (hr : Reads w w.heap.size 7 A m (rowC qs)) (hsm : ps.length + m ≤ 1500000000000)
    (h : ∀ v' w', w'.ownsRow base 136 7 v' (ps.length + m) (rowC ps ++ rowC qs) → w.grownBy w' sv.ownBlock → (v'.ownBlock = sv.ownBlock ∨ v'.ownBlock = some w.heap.size) → K (a.put o.dst v') w') :
    if Region.wanted o (yielded ops a.tmps) = true then Oper.wp Tryz.prog o a w K Q else E := by
  obtain ⟨i0, hi0, hz0, hz1, hz2⟩ := info_parts item2_info
  exact step_append_any w hgd s x _ ho base 136 i0 _ 7 88 Tryz.underlying127 hi0 hz0 hz1 hz2 rfl (by decide) sv ps.length (rowC ps) hs hown w.heap.size A m c (rowC qs) hx hr (rowC_one qs) (by unfold maxLen; omega) (by omega) hbase h
/-- A list behind an append: its item stored, then its slice. -/
theorem app_end {w : World} {base b mb g cap : Nat} {sv : Value} {ps : List PI} {nx : Int} {zs : List Value} (p : PI) (hb : Blk w b 130 #[.bool true, .bool false, sv, .map (some mb), .int .i64 nx]) (hi : IdxAt w mb (ps.length + 1) (ps.map PI.key ++ [p.key]))
    (ho : w.ownsRow base 136 7 (.slice (some ⟨g, 0, none⟩) (ps.length + 1) cap) (ps.length + 1) (rowC ps ++ zs)) (hz : zs.length = 7) (hbb : base ≤ b) (hmb : base ≤ mb) :
    (LstAt base ((fill7 w g (ps.length * 7) p).setCell ⟨b, 2, none⟩ (.slice (some ⟨g, 0, none⟩) (ps.length + 1) cap)) b mb false (.slice (some ⟨g, 0, none⟩) (ps.length + 1) cap) (ps ++ [p]) nx
      ∧ Keeps (fun j => j = g ∨ j = b) w ((fill7 w g (ps.length * 7) p).setCell ⟨b, 2, none⟩ (.slice (some ⟨g, 0, none⟩) (ps.length + 1) cap)))
    ∧ (LstAt base (fill7 (w.setCell ⟨b, 2, none⟩ (.slice (some ⟨g, 0, none⟩) (ps.length + 1) cap)) g (ps.length * 7) p) b mb false (.slice (some ⟨g, 0, none⟩) (ps.length + 1) cap) (ps ++ [p]) nx
      ∧ Keeps (fun j => j = g ∨ j = b) w (fill7 (w.setCell ⟨b, 2, none⟩ (.slice (some ⟨g, 0, none⟩) (ps.length + 1) cap)) g (ps.length * 7) p)) := by
  have hg := ho.lt g rfl
  have hbl := hb.lt
  have h1 : b ≠ g := fun e => row_ne ho hb (by decide) (by rw [e]; rfl)
  have h2 : mb ≠ g := fun e => idx_row_ne ho hi (by rw [e]; rfl)
  have h3 : b ≠ mb := idx_blk_ne hb hi
  have hlen : (ps ++ [p]).length = ps.length + 1 := by simp
  have hkey : (ps ++ [p]).map PI.key = ps.map PI.key ++ [p.key] := by simp
  have kf := fill_keeps w g (ps.length * 7) p
  have kb := set_keeps w b 2 (.slice (some ⟨g, 0, none⟩) (ps.length + 1) cap)
  have kf2 := fill_keeps (w.setCell ⟨b, 2, none⟩ (.slice (some ⟨g, 0, none⟩) (ps.length + 1) cap)) g (ps.length * 7) p
  have kb2 := set_keeps (fill7 w g (ps.length * 7) p) b 2 (.slice (some ⟨g, 0, none⟩) (ps.length + 1) cap)
  refine ⟨⟨⟨(hb.keeps kf h1).set_ 2 _, ?_, ?_, hbb, hmb⟩, ?_⟩, ⟨⟨(hb.set_ 2 (.slice (some ⟨g, 0, none⟩) (ps.length + 1) cap)).keeps kf2 h1, ?_, ?_, hbb, hmb⟩, ?_⟩⟩
  · rw [hlen, hkey]
    exact (hi.keeps kf h2).keeps kb2 (fun e => h3 e.symm)
  · rw [hlen, rowC_app]
    exact own_keeps (fill_row ho (rowC_len ps) hz p) kb2 (fun e => h1 (by simpa [Value.ownBlock] using e))
  · exact (kf.mono (S' := fun j => j = g ∨ j = b) fun _ _ h => .inl h).trans (kb2.mono (S' := fun j => j = g ∨ j = b) fun _ _ h => .inr h)
  · rw [hlen, hkey]
    exact (hi.keeps kb (fun e => h3 e.symm)).keeps kf2 h2
  · rw [hlen, rowC_app]
    exact fill_row (own_keeps ho kb (fun e => h1 (by simpa [Value.ownBlock] using e))) (rowC_len ps) hz p
  · exact (kb.mono (S' := fun j => j = g ∨ j = b) fun _ _ h => .inr h).trans (kf2.mono (S' := fun j => j = g ∨ j = b) fun _ _ h => .inl h)
theorem LstAt.next {base b mb : Nat} {w : World} {sh : Bool} {sv : Value} {ps : List PI} {nx : Int} (h : LstAt base w b mb sh sv ps nx) (nx' : Int) : LstAt base (w.setCell ⟨b, 4, none⟩ (.int .i64 nx')) b mb sh sv ps nx' ∧ Keeps (fun j => j = b) w (w.setCell ⟨b, 4, none⟩ (.int .i64 nx')) := by
  have hk := set_keeps w b 4 (.int .i64 nx')
  have hl := h.blk.lt
  have hb := h.hb
  exact ⟨⟨h.blk.set_ 4 _, h.idx.keeps hk (fun e => idx_blk_ne h.blk h.idx e.symm), own_keeps h.owns hk (row_ne h.owns h.blk (by decide)), h.hb, h.hm⟩, hk⟩
section
variable {w : World} {B : Nat}
set_option maxRecDepth 100000 in
set_option maxHeartbeats 4000000 in
theorem set_new (hLib : ∀ w', Below B w w' → LibS w') (w1 : World) (hb : Below B w w1) {base b mb : Nat} {sv : Value} {ps : List PI} {nx : Int} (hL : LstAt base w1 b mb false sv ps nx) (hB1 : B ≤ w1.heap.size) (p : PI) (hk : In64 p.i) (hs : p.s.size ≤ 140737488351232) (hf : findK (ps.map PI.key) (normG p.b p.i p.s) 0 < 0) (hn : ps.length < 2048) (_hnx : In64 nx) :
    Calls Tryz.prog 95 #[.pointer (some ⟨b, 0, none⟩), .agg #[.bool p.b, .int .i64 p.i, .string p.s], p.val] w1 fun e w2 => e = .returned (.int .i64 0) ∧ (∃ sv', LstAt base w2 b mb false sv' (ps ++ [PI.key_ p (normG p.b p.i p.s)]) (nextK nx (normG p.b p.i p.s))) ∧ Fr base b mb sv.ownBlock w1 w2 := by
  obtain ⟨ib, ii, is, k, n, t, l, A, c⟩ := p
  simp only [PI.val] at *
  have hKO := normG_key ib ii is hk hs
  obtain ⟨A0, c0, rfl⟩ := hL.form
  have hla : placeK (ps.map PI.key) (normG ib ii is) = 0 := by unfold placeK; rw [if_neg (by omega)]
  have hlb : decide (0 ≤ findK (ps.map PI.key) (normG ib ii is) 0) = false := decide_eq_false (by omega)
  have HN := Lib.hid (fun wz hz => norm_any (i := ii) (s := is) (w := wz) ib (by omega) hz)
  have HQ := Lib.hid (fun wz (hz : IdxAt wz mb ps.length (ps.map PI.key)) => (by have := hz.look_ok _ hKO; rw [hla, hlb] at this; exact this : (Instr.lookup 128 (.map (some mb)) (keyV (normG ib ii is)) true).run Tryz.prog wz = .ok (.tuple #[.int .i64 0, .bool false]) wz))
  have HF := Lib.hid hf
  have HKO := Lib.hid hKO
  obtain ⟨nb, ni, ns, hnorm⟩ : ∃ nb ni ns, normG ib ii is = (nb, ni, ns) := ⟨_, _, _, rfl⟩
  rw [hnorm] at HN HQ HF HKO ⊢
  have HN2 : Hid (∀ wz : World, LibS wz → Calls Tryz.prog 145 #[.agg #[.bool ib, .int .i64 ii, .string is]] wz fun e w' => e = .returned (.agg #[.bool nb, .int .i64 ni, .string ns]) ∧ Below wz.heap.size wz w') := HN
  have HQ2 : Hid (∀ wz : World, IdxAt wz mb ps.length (ps.map PI.key) → (Instr.lookup 128 (.map (some mb)) (.agg #[.bool nb, .int .i64 ni, .string ns]) true).run Tryz.prog wz = .ok (.tuple #[.int .i64 0, .bool false]) wz) := HQ
  have HLb := Lib.hid hLib
  have hal := fun (wx : World) (o : Obj) => (Below.refl wx.heap.size wx).alloc (Nat.le_refl _) o
  have HBa := Lib.hid (((hal w1 (.cells #[.bool ib, .int .i64 ii, .string is] 32))).alloc (by simp) (.cells #[.int .i64 k, .int .i64 n, .string t, .slice A l.length c] 24))
  have HKa := Lib.hid (blk_below (Blk.new w1 32 #[.bool ib, .int .i64 ii, .string is]) (hal _ (.cells #[.int .i64 k, .int .i64 n, .string t, .slice A l.length c] 24)))
  have HVa := Lib.hid (Blk.new (w1.alloc (.cells #[.bool ib, .int .i64 ii, .string is] 32)) 24 #[.int .i64 k, .int .i64 n, .string t, .slice A l.length c])
  have hz1 : (w1.alloc (.cells #[.bool ib, .int .i64 ii, .string is] 32)).heap.size = w1.heap.size + 1 := by simp
  rw [hz1] at HVa
  have HLa := Lib.hid (hL.below HBa.out)
  have HL0 := Lib.hid hL
  have Hb := Lib.hid hb
  have hblt := hL.blk.lt
  have hbb := hL.hb
  have hmlt := hL.idx.lt
  have hmm := hL.hm
  clear hL hb hLib hk hs hf hKO hla hlb HN HQ hnorm hal hz1
  go_enter Tryz.func95, Tryz.ntmps95
  go_upto_region 1 with fail
  generalize (w1.alloc (.cells #[.bool ib, .int .i64 ii, .string is] 32)).alloc (.cells #[.int .i64 k, .int .i64 n, .string t, .slice A l.length c] 24) = w2 at *
  have hw2 := HBa.out.size
  have l0 := HLa.out.cells
  obtain ⟨l0, l1, l2, l3, l4⟩ := l0
  have q0 : w2.cell? ⟨w1.heap.size, 0, none⟩ = some (.bool ib) := HKa.out.cell 0
  have q1 : w2.cell? ⟨w1.heap.size, 1, none⟩ = some (.int .i64 ii) := HKa.out.cell 1
  have q2 : w2.cell? ⟨w1.heap.size, 2, none⟩ = some (.string is) := HKa.out.cell 2
  have HOk := Lib.hid (ok_any w2 b l0)
  have HNw := Lib.hid (HN2.out w2 (HLb.out _ (Hb.out.trans (HBa.out.mono hB1))))
  go_upto_region 4 with (first
    | (go_at_call 142; refine HOk.out.mono ?_; rintro e w' ⟨rfl, rfl⟩)
    | (go_at_call 145; refine HNw.out.mono ?_; rintro e w3 ⟨rfl, hb3⟩
       have HB3 := Lib.hid hb3; have HK3 := Lib.hid (blk_below HKa.out hb3); clear hb3
       have r0 : w3.cell? ⟨w1.heap.size, 0, none⟩ = some (.bool ib) := HK3.out.cell 0
       have r1 : w3.cell? ⟨w1.heap.size, 1, none⟩ = some (.int .i64 ii) := HK3.out.cell 1
       have r2 : w3.cell? ⟨w1.heap.size, 2, none⟩ = some (.string is) := HK3.out.cell 2
       have rf0 := HK3.out.frozen 0
       have rf1 := HK3.out.frozen 1
       have rf2 := HK3.out.frozen 2))
  have HB4 := Lib.hid ((((HBa.out.trans (HB3.out.mono hw2)).setCell (p := ⟨w1.heap.size, 0, none⟩) (Nat.le_refl _) (.bool nb)).setCell (p := ⟨w1.heap.size, 1, none⟩) (Nat.le_refl _) (.int .i64 ni)).setCell (p := ⟨w1.heap.size, 2, none⟩) (Nat.le_refl _) (.string ns))
  have HK4 := Lib.hid (((HK3.out.set_ 0 (.bool nb)).set_ 1 (.int .i64 ni)).set_ 2 (.string ns))
  have HV4 := Lib.hid ((((blk_below HVa.out HB3.out).far (p := ⟨w1.heap.size, 0, none⟩) (by simp) (.bool nb)).far (p := ⟨w1.heap.size, 1, none⟩) (by simp) (.int .i64 ni)).far (p := ⟨w1.heap.size, 2, none⟩) (by simp) (.string ns))
  generalize ((w3.setCell ⟨w1.heap.size, 0, none⟩ (.bool nb)).setCell ⟨w1.heap.size, 1, none⟩ (.int .i64 ni)).setCell ⟨w1.heap.size, 2, none⟩ (.string ns) = w4 at *
  have HL4 := Lib.hid (HL0.out.below HB4.out)
  clear HL0 HLa HBa HKa HVa HNw HOk HN2 HB3 HK3 r0 r1 r2 rf0 rf1 rf2 q0 q1 q2 l0 l1 l2 l3 l4 hw2
  obtain ⟨l0, l1, l2, l3, l4⟩ := HL4.out.cells
  have k0 : w4.cell? ⟨w1.heap.size, 0, none⟩ = some (.bool nb) := HK4.out.cell 0
  have k1 : w4.cell? ⟨w1.heap.size, 1, none⟩ = some (.int .i64 ni) := HK4.out.cell 1
  have k2 : w4.cell? ⟨w1.heap.size, 2, none⟩ = some (.string ns) := HK4.out.cell 2
  have hlook := fun nd => HQ2.out (w4.drewN nd) (HL4.out.idx.below (drewU (Below.refl _ _) nd))
  have HOw := Lib.hid (fun wz (hz : wz.cell? ⟨b, 1, none⟩ = some (.bool false)) => own_any wz b hz)
  clear HQ2
  have v0 : w4.cell? ⟨w1.heap.size + 1, 0, none⟩ = some (.int .i64 k) := HV4.out.cell 0
  have v1 : w4.cell? ⟨w1.heap.size + 1, 1, none⟩ = some (.int .i64 n) := HV4.out.cell 1
  have v2 : w4.cell? ⟨w1.heap.size + 1, 2, none⟩ = some (.string t) := HV4.out.cell 2
  have v3 : w4.cell? ⟨w1.heap.size + 1, 3, none⟩ = some (.slice A l.length c) := HV4.out.cell 3
  go_quiet (fail)
  go_upto_region 11 with (go_at_call 146; refine (HOw.out (w4.drewN nq) l1).mono ?_; rintro e w' ⟨⟨v, rfl⟩, rfl⟩)
  clear hlook
  have HL6 : Hid (LstAt base (w4.drewN nq).drew b mb false (.slice A0 ps.length c0) ps nx) := Lib.hid (HL4.out.below (drewU (drewU (Below.refl _ _) nq) 1))
  have HB6 : Hid (Below w1.heap.size w1 (w4.drewN nq).drew) := Lib.hid (drewU (drewU HB4.out nq) 1)
  have HK6 : Hid (Blk (w4.drewN nq).drew w1.heap.size 32 #[.bool nb, .int .i64 ni, .string ns]) := HK4
  have HV6 : Hid (Blk (w4.drewN nq).drew (w1.heap.size + 1) 24 #[.int .i64 k, .int .i64 n, .string t, .slice A l.length c]) := HV4
  clear HK4 HV4 HB4
  refine tail_drew 10 (by kernel_rfl) (by kernel_rfl) ?_
  simp only [List.take_succ_cons, List.take_zero, List.drop_succ_cons, List.drop_zero]
  repeat still_step
  refine wpStill_nil ?_
  go_upto_region 12 with (at_mapUpdate; refine wpList_idx_put rfl _ _ _ rfl rfl HL6.out.idx (by unfold maxLen; omega) (nb, ni, ns) HKO.out HF.out rfl (by simp [Act.eval]) ?_; intro w6 hi6 hg6; have HI6 := Lib.hid hi6; have HG6 := Lib.hid hg6; clear hi6 hg6)
  have HBk := Lib.hid (HL6.out.blk.grown HG6.out (fun e => idx_blk_ne HL6.out.blk HL6.out.idx (by injection e)))
  have HKk := Lib.hid (HK6.out.grown HG6.out (fun e => by injection e with e; omega))
  have HVk := Lib.hid (HV6.out.grown HG6.out (fun e => by injection e with e; omega))
  have HOk := Lib.hid (HL6.out.owns.kept HG6.out (.inr (fun e => idx_row_ne HL6.out.owns HL6.out.idx e.symm)))
  have HBb : Hid (Fr base b mb (Value.slice A0 ps.length c0).ownBlock w1 w6) := Lib.hid ((Fr.of_below HB6.out (by omega)).grown HG6.out (by omega) (fun g e => by injection e with e; omega) (fun g e => .inr (.inl (by injection e with e; exact e.symm))))
  clear HL6 HB6 HK6 HV6 HG6 HL4 l0 l1 l2 l3 l4 k0 k1 k2 v0 v1 v2 v3 HOw HLb Hb
  simp only [Act.put]
  go_cut [] (fun wx => ∃ sv', Hid (LstAt base wx b mb false sv' (ps ++ [⟨nb, ni, ns, k, n, t, l, A, c⟩]) nx) ∧ Hid (Fr base b mb (Value.slice A0 ps.length c0).ownBlock w1 wx) ∧ Hid (Blk wx w1.heap.size 32 #[.bool nb, .int .i64 ni, .string ns]))
  case first =>
    have b0 : w6.cell? ⟨b, 0, none⟩ = some (.bool true) := HBk.out.cell 0
    have b1 : w6.cell? ⟨b, 1, none⟩ = some (.bool false) := HBk.out.cell 1
    have b2 : w6.cell? ⟨b, 2, none⟩ = some (.slice A0 ps.length c0) := HBk.out.cell 2
    have hix : ((ps.length : Nat) : Int) < (ps.length : Int) + 1 := by omega
    have b2a : (w6.alloc (.cells #[.bool false, .int .i64 0, .string ⟨#[]⟩, .int .i64 0, .int .i64 0, .string ⟨#[]⟩, .slice none 0 0] 136)).cell? ⟨b, 2, none⟩ = some (.slice A0 ps.length c0) := (HBk.out.alloc _).cell 2
    refine wp_region_held_drew (S := (fun w' => w'.cell? ⟨w1.heap.size, 0, none⟩ = some (.bool nb) ∧ w'.cell? ⟨w1.heap.size, 1, none⟩ = some (.int .i64 ni) ∧ w'.cell? ⟨w1.heap.size, 2, none⟩ = some (.string ns) ∧ w'.cell? ⟨w1.heap.size + 1, 0, none⟩ = some (.int .i64 k) ∧ w'.cell? ⟨w1.heap.size + 1, 1, none⟩ = some (.int .i64 n) ∧ w'.cell? ⟨w1.heap.size + 1, 2, none⟩ = some (.string t) ∧ w'.cell? ⟨w1.heap.size + 1, 3, none⟩ = some (.slice A l.length c))) (by kernel_rfl) ?_ (fun hHeld => ?_)
    · exact skv HKk.out.drew HVk.out.drew
    refine Held.tk (v := ?v1) Held.op0 (by assumption) ?_
    try simp only [Act.put, Held.sa, Held.sz, Held.ss]
    refine Held.tk (v := ?v2) Held.op1 (by assumption) ?_
    try simp only [Act.put, Held.sa, Held.sz, Held.ss]
    refine Held.tk (v := ?v3) Held.op2 (by assumption) ?_
    try simp only [Act.put, Held.sa, Held.sz, Held.ss]
    refine Held.tk (v := ?v4) Held.op4 (by assumption) ?_
    try simp only [Act.put, Held.sa, Held.sz, Held.ss]
    refine Held.tk (v := ?v5) Held.op5 (by assumption) ?_
    try simp only [Act.put, Held.sa, Held.sz, Held.ss]
    refine Held.tk (v := ?v6) Held.op6 (by assumption) ?_
    try simp only [Act.put, Held.sa, Held.sz, Held.ss]
    refine wpAnyH_ready (rs := [3, 8]) (by kernel_rfl) (by simp) ?_
    refine AllReadyH.cons Held.op3 (fun K hK => ?_) (AllReadyH.cons Held.op8 (fun K hK => ?_) AllReadyH.nil)
    · go_simp
      refine hK.out _ _ ?_ (fun hHeld => ?_)
      · exact skv HKk.out.drew HVk.out.drew
      clear hK K
      try simp only [Act.put, Held.sa, Held.sz, Held.ss]
      refine Held.tk (v := ?v7) Held.op7 (by assumption) ?_
      try simp only [Act.put, Held.sa, Held.sz, Held.ss]
      refine wpAnyH_ready (rs := [8]) (by kernel_rfl) (by simp) ?_
      refine AllReadyH.cons Held.op8 (fun K hK => ?_) AllReadyH.nil
      go_simp
      refine hK.out _ _ ?_ (fun hHeld => ?_)
      · exact skv (HKk.out.drew.alloc _) (HVk.out.drew.alloc _)
      clear hK K
      try simp only [Act.put, Held.sa, Held.sz, Held.ss]
      refine wpAnyH_ready (rs := [9]) (by kernel_rfl) (by simp) ?_
      refine AllReadyH.cons Held.op9 (fun K hK => ?_) AllReadyH.nil
      refine step_app_it2 rfl (.tmp 57) (.tmp 62) rfl base (.slice A0 ps.length c0) ps rfl ((own_below HOk.out (drewU (Below.refl _ _) 1)).alloc _) ?_ (some ⟨w6.heap.size, 0, none⟩) 1 1 [zeroPI] rfl ?_ (by omega) ?_
      · have := HBb.out.size; simp; omega
      · exact reads_one (p := zeroPI) (Blk.drew (Blk.new w6 _ _))
      intro v7 w7 hown7 hg7 hor7
      obtain ⟨g7, cap7, rfl, _, _⟩ := hown7.form (Nat.succ_pos _)
      have HBk7 := Lib.hid ((HBk.out.drew.alloc _).grown hg7 (row_ne HOk.out HBk.out (by decide)))
      have HKk7 := Lib.hid ((HKk.out.drew.alloc _).grown hg7 (row_ne HOk.out HKk.out (by decide)))
      have HVk7 := Lib.hid ((HVk.out.drew.alloc _).grown hg7 (row_ne HOk.out HVk.out (by decide)))
      have HI7 := Lib.hid (idx_grown (HI6.out.below ((drewU (Below.refl _ _) 1).alloc (Nat.le_refl _) _)) hg7 (idx_row_ne HOk.out HI6.out))
      have HO7 := Lib.hid (show w7.ownsRow base 136 7 (.slice (some ⟨g7, 0, none⟩) (ps.length + 1) cap7) (ps.length + 1) (rowC ps ++ rowC [zeroPI]) from hown7)
      have HB7 := Lib.hid (((HBb.out.drewN 1).alloc (by omega) (.cells #[.bool false, .int .i64 0, .string ⟨#[]⟩, .int .i64 0, .int .i64 0, .string ⟨#[]⟩, .slice none 0 0] 136)).grown hg7 (by omega) (fun gb e => (HOk.out.lt gb e).1) (fun gb e => .inr (.inr (.inl e.symm))))
      have HG7 : Hid (base ≤ g7 ∧ (some g7 = (Value.slice A0 ps.length c0).ownBlock ∨ w1.heap.size ≤ g7)) := ⟨(hown7.lt g7 rfl).1, by
        rcases hor7 with h | h
        · exact .inl h
        · exact .inr (by injection h with h; have := HBb.out.size; simp at h; omega)⟩
      have HE7 := Lib.hid (app_end ⟨nb, ni, ns, k, n, t, l, A, c⟩ HBk7.out HI7.out HO7.out rfl hbb hmm)
      have z := seven_row HO7.out
      obtain ⟨⟨z0, z1, z2, z3, z4, z5, z6⟩, y0, y1, y2, y3, y4, y5, y6⟩ := z
      have x2 : w7.cell? ⟨b, 2, none⟩ = some (.slice A0 ps.length c0) := HBk7.out.cell 2
      have xf2 := HBk7.out.frozen 2
      have n1 : b ≠ g7 := fun e => row_ne HO7.out HBk7.out (by decide) (by rw [e]; rfl)
      have n2 : g7 ≠ b := Ne.symm n1
      have n3 : w1.heap.size ≠ g7 := fun e => row_ne HO7.out HKk7.out (by decide) (by rw [e]; rfl)
      have n4 : w1.heap.size + 1 ≠ g7 := fun e => row_ne HO7.out HVk7.out (by decide) (by rw [e]; rfl)
      have n5 : w1.heap.size ≠ b := by omega
      have n6 : w1.heap.size + 1 ≠ b := by omega
      clear hown7 hg7 hor7
      refine hK.out _ _ ?_ (fun hHeld => ?_)
      · exact skv HKk7.out HVk7.out
      clear hK K
      try simp only [Act.put, Held.sa, Held.sz, Held.ss]
      refine Held.tk (v := ?v8) Held.op10 (by assumption) ?_
      try simp only [Act.put, Held.sa, Held.sz, Held.ss]
      refine Held.tk (v := ?v9) Held.op12 (by assumption) ?_
      try simp only [Act.put, Held.sa, Held.sz, Held.ss]
      refine Held.tk (v := ?v10) Held.op13 (by assumption) ?_
      try simp only [Act.put, Held.sa, Held.sz, Held.ss]
      refine wpAnyH_ready (rs := [11, 14]) (by kernel_rfl) (by simp) ?_
      refine AllReadyH.cons Held.op11 (fun K hK => ?_) (AllReadyH.cons Held.op14 (fun K hK => ?_) AllReadyH.nil)
      · go_simp
        refine hK.out _ _ ?_ (fun hHeld => ?_)
        · exact skv (HKk7.out.keeps (fill_keeps _ g7 (ps.length * 7) ⟨nb, ni, ns, k, n, t, l, A, c⟩) n3) (HVk7.out.keeps (fill_keeps _ g7 (ps.length * 7) ⟨nb, ni, ns, k, n, t, l, A, c⟩) n4)
        clear hK K
        try simp only [Act.put, Held.sa, Held.sz, Held.ss]
        refine wpAnyH_ready (rs := [14]) (by kernel_rfl) (by simp) ?_
        refine AllReadyH.cons Held.op14 (fun K hK => ?_) AllReadyH.nil
        go_simp
        refine hK.out _ _ ?_ (fun hHeld => ?_)
        · exact skv ((HKk7.out.keeps (fill_keeps _ g7 (ps.length * 7) ⟨nb, ni, ns, k, n, t, l, A, c⟩) n3).far n5 _) ((HVk7.out.keeps (fill_keeps _ g7 (ps.length * 7) ⟨nb, ni, ns, k, n, t, l, A, c⟩) n4).far n6 _)
        clear hK K
        try simp only [Act.put, Held.sa, Held.sz, Held.ss]
        refine wpAnyH_done (by kernel_rfl) ?_ _
        go_wp2_with fail
        go_meet
        exact ⟨_, HE7.out.1.1, HB7.out.keeps HE7.out.1.2 (by omega) (fun j hj => by rcases hj with e | e; (rw [e]; exact HG7.out.1); (rw [e]; exact hbb)) (fun j hj => by rcases hj with e | e; (rcases HG7.out.2 with q | q; (exact .inr (.inr (.inl (by rw [e]; exact q)))); exact .inr (.inr (.inr (by rw [e]; exact q)))); exact .inl e), (HKk7.out.keeps (fill_keeps _ g7 (ps.length * 7) ⟨nb, ni, ns, k, n, t, l, A, c⟩) n3).far n5 _⟩
      · go_simp
        refine hK.out _ _ ?_ (fun hHeld => ?_)
        · exact skv (HKk7.out.far n5 _) (HVk7.out.far n6 _)
        clear hK K
        try simp only [Act.put, Held.sa, Held.sz, Held.ss]
        refine wpAnyH_ready (rs := [11]) (by kernel_rfl) (by simp) ?_
        refine AllReadyH.cons Held.op11 (fun K hK => ?_) AllReadyH.nil
        go_simp
        refine hK.out _ _ ?_ (fun hHeld => ?_)
        · exact skv ((HKk7.out.far n5 _).keeps (fill_keeps _ g7 (ps.length * 7) ⟨nb, ni, ns, k, n, t, l, A, c⟩) n3) ((HVk7.out.far n6 _).keeps (fill_keeps _ g7 (ps.length * 7) ⟨nb, ni, ns, k, n, t, l, A, c⟩) n4)
        clear hK K
        try simp only [Act.put, Held.sa, Held.sz, Held.ss]
        refine wpAnyH_done (by kernel_rfl) ?_ _
        go_wp2_with fail
        go_meet
        exact ⟨_, HE7.out.2.1, HB7.out.keeps HE7.out.2.2 (by omega) (fun j hj => by rcases hj with e | e; (rw [e]; exact HG7.out.1); (rw [e]; exact hbb)) (fun j hj => by rcases hj with e | e; (rcases HG7.out.2 with q | q; (exact .inr (.inr (.inl (by rw [e]; exact q)))); exact .inr (.inr (.inr (by rw [e]; exact q)))); exact .inl e), (HKk7.out.far n5 _).keeps (fill_keeps _ g7 (ps.length * 7) ⟨nb, ni, ns, k, n, t, l, A, c⟩) n3⟩
    · go_simp
      refine hK.out _ _ ?_ (fun hHeld => ?_)
      · exact skv (HKk.out.drew.alloc _) (HVk.out.drew.alloc _)
      clear hK K
      try simp only [Act.put, Held.sa, Held.sz, Held.ss]
      refine wpAnyH_ready (rs := [3]) (by kernel_rfl) (by simp) ?_
      refine AllReadyH.cons Held.op3 (fun K hK => ?_) AllReadyH.nil
      go_simp
      refine hK.out _ _ ?_ (fun hHeld => ?_)
      · exact skv (HKk.out.drew.alloc _) (HVk.out.drew.alloc _)
      clear hK K
      try simp only [Act.put, Held.sa, Held.sz, Held.ss]
      refine Held.tk (v := ?v11) Held.op7 (by assumption) ?_
      try simp only [Act.put, Held.sa, Held.sz, Held.ss]
      refine wpAnyH_ready (rs := [9]) (by kernel_rfl) (by simp) ?_
      refine AllReadyH.cons Held.op9 (fun K hK => ?_) AllReadyH.nil
      refine step_app_it2 rfl (.tmp 57) (.tmp 62) rfl base (.slice A0 ps.length c0) ps rfl ((own_below HOk.out (drewU (Below.refl _ _) 1)).alloc _) ?_ (some ⟨w6.heap.size, 0, none⟩) 1 1 [zeroPI] rfl ?_ (by omega) ?_
      · have := HBb.out.size; simp; omega
      · exact reads_one (p := zeroPI) (Blk.drew (Blk.new w6 _ _))
      intro v7 w7 hown7 hg7 hor7
      obtain ⟨g7, cap7, rfl, _, _⟩ := hown7.form (Nat.succ_pos _)
      have HBk7 := Lib.hid ((HBk.out.drew.alloc _).grown hg7 (row_ne HOk.out HBk.out (by decide)))
      have HKk7 := Lib.hid ((HKk.out.drew.alloc _).grown hg7 (row_ne HOk.out HKk.out (by decide)))
      have HVk7 := Lib.hid ((HVk.out.drew.alloc _).grown hg7 (row_ne HOk.out HVk.out (by decide)))
      have HI7 := Lib.hid (idx_grown (HI6.out.below ((drewU (Below.refl _ _) 1).alloc (Nat.le_refl _) _)) hg7 (idx_row_ne HOk.out HI6.out))
      have HO7 := Lib.hid (show w7.ownsRow base 136 7 (.slice (some ⟨g7, 0, none⟩) (ps.length + 1) cap7) (ps.length + 1) (rowC ps ++ rowC [zeroPI]) from hown7)
      have HB7 := Lib.hid (((HBb.out.drewN 1).alloc (by omega) (.cells #[.bool false, .int .i64 0, .string ⟨#[]⟩, .int .i64 0, .int .i64 0, .string ⟨#[]⟩, .slice none 0 0] 136)).grown hg7 (by omega) (fun gb e => (HOk.out.lt gb e).1) (fun gb e => .inr (.inr (.inl e.symm))))
      have HG7 : Hid (base ≤ g7 ∧ (some g7 = (Value.slice A0 ps.length c0).ownBlock ∨ w1.heap.size ≤ g7)) := ⟨(hown7.lt g7 rfl).1, by
        rcases hor7 with h | h
        · exact .inl h
        · exact .inr (by injection h with h; have := HBb.out.size; simp at h; omega)⟩
      have HE7 := Lib.hid (app_end ⟨nb, ni, ns, k, n, t, l, A, c⟩ HBk7.out HI7.out HO7.out rfl hbb hmm)
      have z := seven_row HO7.out
      obtain ⟨⟨z0, z1, z2, z3, z4, z5, z6⟩, y0, y1, y2, y3, y4, y5, y6⟩ := z
      have x2 : w7.cell? ⟨b, 2, none⟩ = some (.slice A0 ps.length c0) := HBk7.out.cell 2
      have xf2 := HBk7.out.frozen 2
      have n1 : b ≠ g7 := fun e => row_ne HO7.out HBk7.out (by decide) (by rw [e]; rfl)
      have n2 : g7 ≠ b := Ne.symm n1
      have n3 : w1.heap.size ≠ g7 := fun e => row_ne HO7.out HKk7.out (by decide) (by rw [e]; rfl)
      have n4 : w1.heap.size + 1 ≠ g7 := fun e => row_ne HO7.out HVk7.out (by decide) (by rw [e]; rfl)
      have n5 : w1.heap.size ≠ b := by omega
      have n6 : w1.heap.size + 1 ≠ b := by omega
      clear hown7 hg7 hor7
      refine hK.out _ _ ?_ (fun hHeld => ?_)
      · exact skv HKk7.out HVk7.out
      clear hK K
      try simp only [Act.put, Held.sa, Held.sz, Held.ss]
      refine Held.tk (v := ?v12) Held.op10 (by assumption) ?_
      try simp only [Act.put, Held.sa, Held.sz, Held.ss]
      refine Held.tk (v := ?v13) Held.op12 (by assumption) ?_
      try simp only [Act.put, Held.sa, Held.sz, Held.ss]
      refine Held.tk (v := ?v14) Held.op13 (by assumption) ?_
      try simp only [Act.put, Held.sa, Held.sz, Held.ss]
      refine wpAnyH_ready (rs := [11, 14]) (by kernel_rfl) (by simp) ?_
      refine AllReadyH.cons Held.op11 (fun K hK => ?_) (AllReadyH.cons Held.op14 (fun K hK => ?_) AllReadyH.nil)
      · go_simp
        refine hK.out _ _ ?_ (fun hHeld => ?_)
        · exact skv (HKk7.out.keeps (fill_keeps _ g7 (ps.length * 7) ⟨nb, ni, ns, k, n, t, l, A, c⟩) n3) (HVk7.out.keeps (fill_keeps _ g7 (ps.length * 7) ⟨nb, ni, ns, k, n, t, l, A, c⟩) n4)
        clear hK K
        try simp only [Act.put, Held.sa, Held.sz, Held.ss]
        refine wpAnyH_ready (rs := [14]) (by kernel_rfl) (by simp) ?_
        refine AllReadyH.cons Held.op14 (fun K hK => ?_) AllReadyH.nil
        go_simp
        refine hK.out _ _ ?_ (fun hHeld => ?_)
        · exact skv ((HKk7.out.keeps (fill_keeps _ g7 (ps.length * 7) ⟨nb, ni, ns, k, n, t, l, A, c⟩) n3).far n5 _) ((HVk7.out.keeps (fill_keeps _ g7 (ps.length * 7) ⟨nb, ni, ns, k, n, t, l, A, c⟩) n4).far n6 _)
        clear hK K
        try simp only [Act.put, Held.sa, Held.sz, Held.ss]
        refine wpAnyH_done (by kernel_rfl) ?_ _
        go_wp2_with fail
        go_meet
        exact ⟨_, HE7.out.1.1, HB7.out.keeps HE7.out.1.2 (by omega) (fun j hj => by rcases hj with e | e; (rw [e]; exact HG7.out.1); (rw [e]; exact hbb)) (fun j hj => by rcases hj with e | e; (rcases HG7.out.2 with q | q; (exact .inr (.inr (.inl (by rw [e]; exact q)))); exact .inr (.inr (.inr (by rw [e]; exact q)))); exact .inl e), (HKk7.out.keeps (fill_keeps _ g7 (ps.length * 7) ⟨nb, ni, ns, k, n, t, l, A, c⟩) n3).far n5 _⟩
      · go_simp
        refine hK.out _ _ ?_ (fun hHeld => ?_)
        · exact skv (HKk7.out.far n5 _) (HVk7.out.far n6 _)
        clear hK K
        try simp only [Act.put, Held.sa, Held.sz, Held.ss]
        refine wpAnyH_ready (rs := [11]) (by kernel_rfl) (by simp) ?_
        refine AllReadyH.cons Held.op11 (fun K hK => ?_) AllReadyH.nil
        go_simp
        refine hK.out _ _ ?_ (fun hHeld => ?_)
        · exact skv ((HKk7.out.far n5 _).keeps (fill_keeps _ g7 (ps.length * 7) ⟨nb, ni, ns, k, n, t, l, A, c⟩) n3) ((HVk7.out.far n6 _).keeps (fill_keeps _ g7 (ps.length * 7) ⟨nb, ni, ns, k, n, t, l, A, c⟩) n4)
        clear hK K
        try simp only [Act.put, Held.sa, Held.sz, Held.ss]
        refine wpAnyH_done (by kernel_rfl) ?_ _
        go_wp2_with fail
        go_meet
        exact ⟨_, HE7.out.2.1, HB7.out.keeps HE7.out.2.2 (by omega) (fun j hj => by rcases hj with e | e; (rw [e]; exact HG7.out.1); (rw [e]; exact hbb)) (fun j hj => by rcases hj with e | e; (rcases HG7.out.2 with q | q; (exact .inr (.inr (.inl (by rw [e]; exact q)))); exact .inr (.inr (.inr (by rw [e]; exact q)))); exact .inl e), (HKk7.out.far n5 _).keeps (fill_keeps _ g7 (ps.length * 7) ⟨nb, ni, ns, k, n, t, l, A, c⟩) n3⟩
  case rest =>
    obtain ⟨sv', HLc, HBc, HKc⟩ := hcut
    clear HBk HKk HVk HOk HBb HI6
    obtain ⟨l0, l1, l2, l3, l4⟩ := HLc.out.cells
    have lf4 := HLc.out.blk.frozen 4
    have k0 : wc.cell? ⟨w1.heap.size, 0, none⟩ = some (.bool nb) := HKc.out.cell 0
    have k1 : wc.cell? ⟨w1.heap.size, 1, none⟩ = some (.int .i64 ni) := HKc.out.cell 1
    cases hnb : nb with
    | true =>
      subst hnb
      have hnk : nextK nx (true, ni, ns) = nx := by unfold nextK; rw [if_neg (by simp)]
      go_upto_region 13 with fail
      go_quiet (fail)
      go_wp2_with fail
      go_ret
      exact ⟨rfl, ⟨sv', by first | exact HLc.out.below (drewU (Below.refl _ _) nq) | (rw [hnk]; exact HLc.out.below (drewU (Below.refl _ _) nq))⟩, HBc.out.drewN nq⟩
    | false =>
      subst hnb
      by_cases h0 : 0 ≤ nx
      · by_cases h1 : nx ≤ ni
        · by_cases h2 : ni < 9223372036854775807
          · have hnk : nextK nx (false, ni, ns) = ni + 1 := by unfold nextK; rw [if_pos ⟨rfl, h0, h1⟩, if_pos h2]
            have hwr : IntKind.i64.wrap (ni + 1) = ni + 1 := IntWalk.i64_in _ (by omega)
            have hlt : ¬ ni + 1 < 0 := by omega
            go_upto_region 13 with fail
            go_quiet (fail)
            have HLn := Lib.hid ((HLc.out.below (drewU (Below.refl _ _) nq)).next (ni + 1))
            have q4 : ((wc.drewN nq).setCell ⟨b, 4, none⟩ (.int .i64 (ni + 1))).cell? ⟨b, 4, none⟩ = some (.int .i64 (ni + 1)) := HLn.out.1.blk.cell 4
            go_wp2_with fail
            go_ret
            exact ⟨rfl, ⟨sv', by first | exact HLn.out.1 | (rw [hnk]; exact HLn.out.1)⟩, (HBc.out.drewN nq).keeps HLn.out.2 (by omega) (fun j e => by omega) (fun j e => .inl e)⟩
          · have hmx : ni = 9223372036854775807 := by have h9 : In64 ni := HKO.out.1; have := h9.2; omega
            subst hmx
            have hnk : nextK nx (false, 9223372036854775807, ns) = -1 := by unfold nextK; rw [if_pos ⟨rfl, h0, h1⟩, if_neg (by omega)]
            have hwr := wrap_most
            go_upto_region 13 with fail
            go_quiet (fail)
            have HLm := Lib.hid ((HLc.out.below (drewU (Below.refl _ _) nq)).next (-9223372036854775808))
            have HLn := Lib.hid (HLm.out.1.next (-1))
            have q4 : ((wc.drewN nq).setCell ⟨b, 4, none⟩ (.int .i64 (-9223372036854775808))).cell? ⟨b, 4, none⟩ = some (.int .i64 (-9223372036854775808)) := HLm.out.1.blk.cell 4
            have qf4 := HLm.out.1.blk.frozen 4
            go_wp2_with fail
            go_ret
            exact ⟨rfl, ⟨sv', by first | exact HLn.out.1 | (rw [hnk]; exact HLn.out.1)⟩, ((HBc.out.drewN nq).keeps HLm.out.2 (by omega) (fun j e => by omega) (fun j e => .inl e)).keeps HLn.out.2 (by omega) (fun j e => by omega) (fun j e => .inl e)⟩
        · have hnk : nextK nx (false, ni, ns) = nx := by unfold nextK; rw [if_neg (fun h => h1 h.2.2)]
          go_upto_region 13 with fail
          go_quiet (fail)
          go_wp2_with fail
          go_ret
          exact ⟨rfl, ⟨sv', by first | exact HLc.out.below (drewU (Below.refl _ _) nq) | (rw [hnk]; exact HLc.out.below (drewU (Below.refl _ _) nq))⟩, HBc.out.drewN nq⟩
      · have hnk : nextK nx (false, ni, ns) = nx := by unfold nextK; rw [if_neg (fun h => h0 h.2.1)]
        go_upto_region 13 with fail
        go_quiet (fail)
        go_wp2_with fail
        go_ret
        exact ⟨rfl, ⟨sv', by first | exact HLc.out.below (drewU (Below.refl _ _) nq) | (rw [hnk]; exact HLc.out.below (drewU (Below.refl _ _) nq))⟩, HBc.out.drewN nq⟩
end
end Dp
end Go.Proofs.YtopmodahdmnpjaaGreatDoor
