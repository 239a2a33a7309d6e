/- list.List of trees: Set at a new key: the walk. -/
import Derived.Test.YtgpemnmopogppaaGreatDoorZUtAQ
namespace Go.Proofs.YtgpemnmopogppaaGreatDoor
open Go Go.RowKit
namespace Ut
open Go.Proofs.YtgpemnmopogppaaGreatDoor.Nm (normG keyV norm_any)
open Go.Proofs.YtgpemnmopogppaaGreatDoor.Dp
theorem itemT_info : (Tryz.prog.info? 146).map (fun i => (i.zero, i.size, i.bytes)) = some (some (.agg #[.bool false, .int .i64 0, .string ⟨#[]⟩, .pointer none]), 4, 40) := by kernel_rfl
/-- append of one item to a list's row, in a region. -/
theorem step_app_tree {ops : Array Oper} {o : Oper} {a : Act} {w : World} {K : Act → World → Prop} {Q : Exit → Act → World → Prop} {E : Prop} (hgd : o.guard = none) (s x : Operand)
    (ho : o.op = .call { callee := .builtin .append, args := #[s, x], argTypes := #[141, 141] }) (base : Nat) (sv : Value) (ps : List PK) (hs : a.eval s = sv) (hown : w.ownsRow base 146 4 sv ps.length (rowP ps)) (hbase : base ≤ w.heap.size)
    (A : Option Addr) (m c : Nat) (qs : List PK) (hx : a.eval x = .slice A m c) (hr : Reads w w.heap.size 4 A m (rowP qs)) (hsm : ps.length + m ≤ 1500000000000)
    (h : ∀ v' w', w'.ownsRow base 146 4 v' (ps.length + m) (rowP ps ++ rowP qs) → w.grownBy w' sv.ownBlock → (v'.ownBlock = sv.ownBlock ∨ v'.ownBlock = some w.heap.size) → K (a.put o.dst v') w') :
    if Region.wanted o (yielded ops a.tmps) = true then Oper.wp Tryz.prog o a w K Q else E := by
  obtain ⟨i0, hi0, hz0, hz1, hz2⟩ := info_parts itemT_info
  exact step_append_any w hgd s x _ ho base 146 i0 _ 4 40 Tryz.underlying141 hi0 hz0 hz1 hz2 rfl (by decide) sv ps.length (rowP ps) hs hown w.heap.size A m c (rowP qs) hx hr (rowP_one qs) (by unfold maxLen; omega) (by omega) hbase h
theorem reads_tree {w : World} {g : Nat} {t : TypeId} {p : PK} (h : Blk w g t #[.bool p.1.1, .int .i64 p.1.2.1, .string p.1.2.2, .pointer (some ⟨p.2, 0, none⟩)]) : Reads w w.heap.size 4 (some ⟨g, 0, none⟩) 1 (rowP [p]) := by
  refine ⟨rfl, fun _ => ⟨⟨g, 0, none⟩, rfl, h.lt, fun j u hu => ?_⟩⟩
  have hu' : (PK.cells p)[j]? = some u := by simpa [rowP] using hu
  have hj : j < 4 := (List.getElem?_eq_some_iff.1 hu').1
  have e : ((⟨g, 0, none⟩ : Addr).add j) = ⟨g, j, none⟩ := by
    unfold Addr.add
    by_cases h0 : j = 0
    · subst h0; rfl
    · simp [h0]
  rw [e, h.cell]
  simpa [PK.cells] using hu'
theorem idx_grownP {w w' : World} {mb m : Nat} {ks : List Key3} {row : Option Nat} (h : IdxAt w mb m ks) (hg : w.grownBy w' row) (hne : some mb ≠ row) : IdxAt w' mb m ks := idx_grown h hg hne
/-- A list behind an append: its slice stored. -/
theorem app_endP {w : World} {b mb : Nat} {sv sv' : Value} {ps : List PK} {nx : Int} (p : PK) (hb : Blk w b 144 #[.bool true, .bool false, sv, .map (some mb), .int .i64 nx]) (hi : IdxAt w mb (ps.length + 1) (ps.map Prod.fst ++ [p.1]))
    (ho : w.ownsRow 0 146 4 sv' (ps.length + 1) (rowP ps ++ rowP [p])) :
    LstP (w.setCell ⟨b, 2, none⟩ sv') b mb false sv' (ps ++ [p]) nx ∧ Keeps (fun j => j = b) w (w.setCell ⟨b, 2, none⟩ sv') := by
  have h3 : b ≠ mb := idx_blk_ne hb hi
  have kb := set_keepsP w b 2 sv'
  refine ⟨⟨hb.set_ 2 _, ?_, ?_⟩, kb⟩
  · rw [List.length_append, List.map_append]
    exact hi.keeps kb (fun e => h3 e.symm)
  · rw [List.length_append, rowP_app]
    have := row_keep ho kb (fun g e => fun e2 => row_ne ho hb (by decide) (by rw [← e2, e]))
    simpa [rowP] using this
theorem sk3 {w : World} {x : Nat} {tx : TypeId} {c0 c1 c2 : Value} (h : Blk w x tx #[c0, c1, c2]) : w.cell? ⟨x, 0, none⟩ = some c0 ∧ w.cell? ⟨x, 1, none⟩ = some c1 ∧ w.cell? ⟨x, 2, none⟩ = some c2 := ⟨h.cell 0, h.cell 1, h.cell 2⟩
theorem LstP.next {b mb : Nat} {w : World} {sh : Bool} {sv : Value} {ps : List PK} {nx : Int} (h : LstP w b mb sh sv ps nx) (nx' : Int) : LstP (w.setCell ⟨b, 4, none⟩ (.int .i64 nx')) b mb sh sv ps nx' ∧ Keeps (fun j => j = b) w (w.setCell ⟨b, 4, none⟩ (.int .i64 nx')) := by
  have hk := set_keepsP w b 4 (.int .i64 nx')
  obtain ⟨h1, _, h3⟩ := h.ne_rows
  exact ⟨⟨h.blk.set_ 4 _, h.idx.keeps hk (fun e => h3 e.symm), row_keep h.owns hk (fun g e e2 => h1 (by rw [← e2, e]))⟩, hk⟩
/-- What a list's Set may turn: the list's own blocks, new ones. -/
def turnL (n b mb : Nat) (sv : Value) (j : Nat) : Prop := ownL b mb sv j ∨ n ≤ j
theorem turn_end {w w' : World} {b mb : Nat} {sv : Value} (h : Keeps (turnL w.heap.size b mb sv) w w') : Keeps (ownL b mb sv) w w' := h.mono fun j hj hs => by
  rcases hs with hs | hs
  · exact hs
  · omega
section
variable {w : World} {B : Nat}
set_option maxRecDepth 100000 in
set_option maxHeartbeats 4000000 in
theorem set_new (hLib : ∀ w', Below B w w' → LibS w') (w1 : World) (hb : Below B w w1) {b mb : Nat} {sv : Value} {ps : List PK} {nx : Int} (hL : LstP w1 b mb false sv ps nx) (hB1 : B ≤ w1.heap.size) (k : Key3) (hk : In64 k.2.1) (hs : k.2.2.size ≤ 140737488351232) (q : Nat) (hf : findK (ps.map Prod.fst) (normG k.1 k.2.1 k.2.2) 0 < 0) (hn : ps.length < 2048) (_hnx : In64 nx) :
    Calls Tryz.prog 110 #[.pointer (some ⟨b, 0, none⟩), .agg #[.bool k.1, .int .i64 k.2.1, .string k.2.2], .pointer (some ⟨q, 0, none⟩)] w1 fun e w2 => e = .returned (.int .i64 0) ∧ (∃ sv', LstP w2 b mb false sv' (ps ++ [(normG k.1 k.2.1 k.2.2, q)]) (nextK nx (normG k.1 k.2.1 k.2.2)) ∧ ∀ j, ownL b mb sv' j → turnL w1.heap.size b mb sv j) ∧ Keeps (ownL b mb sv) w1 w2 := by
  obtain ⟨ib, ii, is⟩ := k
  simp only [] at *
  have hKO := normG_key ib ii is hk hs
  obtain ⟨A0, c0, rfl⟩ := hL.form
  have hla : placeK (ps.map Prod.fst) (normG ib ii is) = 0 := by unfold placeK; rw [if_neg (by omega)]
  have hlb : decide (0 ≤ findK (ps.map Prod.fst) (normG ib ii is) 0) = false := decide_eq_false (by omega)
  have HN := Lib.hid (fun wz hz => norm_any (i := ii) (s := is) (w := wz) ib (by omega) hz)
  have HQ := Lib.hid (fun wz (hz : IdxAt wz mb ps.length (ps.map Prod.fst)) => (by have := hz.look_ok _ hKO; rw [hla, hlb] at this; exact this : (Instr.lookup 142 (.map (some mb)) (keyV (normG ib ii is)) true).run Tryz.prog wz = .ok (.tuple #[.int .i64 0, .bool false]) wz))
  have HF := Lib.hid hf
  have HKO := Lib.hid hKO
  obtain ⟨nb, ni, ns, hnorm⟩ : ∃ nb ni ns, normG ib ii is = (nb, ni, ns) := ⟨_, _, _, rfl⟩
  rw [hnorm] at HN HQ HF HKO ⊢
  have HN2 : Hid (∀ wz : World, LibS wz → Calls Tryz.prog 114 #[.agg #[.bool ib, .int .i64 ii, .string is]] wz fun e w' => e = .returned (.agg #[.bool nb, .int .i64 ni, .string ns]) ∧ Below wz.heap.size wz w') := HN
  have HQ2 : Hid (∀ wz : World, IdxAt wz mb ps.length (ps.map Prod.fst) → (Instr.lookup 142 (.map (some mb)) (.agg #[.bool nb, .int .i64 ni, .string ns]) true).run Tryz.prog wz = .ok (.tuple #[.int .i64 0, .bool false]) wz) := HQ
  have HLb := Lib.hid hLib
  have HBa := Lib.hid ((Below.refl w1.heap.size w1).alloc (Nat.le_refl _) (.cells #[.bool ib, .int .i64 ii, .string is] 37))
  have HKa := Lib.hid (Blk.new w1 37 #[.bool ib, .int .i64 ii, .string is])
  have HLa := Lib.hid (hL.below HBa.out)
  have HL0 := Lib.hid hL
  have Hb := Lib.hid hb
  have hblt := hL.blk.lt
  have hmlt := hL.idx.lt
  clear hL hb hLib hk hs hf hKO hla hlb HN HQ hnorm
  go_enter Tryz.func110, Tryz.ntmps110
  go_upto_region 1 with fail
  generalize w1.alloc (.cells #[.bool ib, .int .i64 ii, .string is] 37) = w2 at *
  have hw2 := HBa.out.size
  have l0 := HLa.out.cells
  obtain ⟨l0, l1, l2, l3, l4⟩ := l0
  have q0 : w2.cell? ⟨w1.heap.size, 0, none⟩ = some (.bool ib) := HKa.out.cell 0
  have q1 : w2.cell? ⟨w1.heap.size, 1, none⟩ = some (.int .i64 ii) := HKa.out.cell 1
  have q2 : w2.cell? ⟨w1.heap.size, 2, none⟩ = some (.string is) := HKa.out.cell 2
  have HOk := Lib.hid (ok_any w2 b l0)
  have HNw := Lib.hid (HN2.out w2 (HLb.out _ (Hb.out.trans (HBa.out.mono hB1))))
  go_upto_region 4 with (first
    | (go_at_call 113; refine HOk.out.mono ?_; rintro e w' ⟨rfl, rfl⟩)
    | (go_at_call 114; refine HNw.out.mono ?_; rintro e w3 ⟨rfl, hb3⟩
       have HB3 := Lib.hid hb3; have HK3 := Lib.hid (blk_below HKa.out hb3); clear hb3
       have r0 : w3.cell? ⟨w1.heap.size, 0, none⟩ = some (.bool ib) := HK3.out.cell 0
       have r1 : w3.cell? ⟨w1.heap.size, 1, none⟩ = some (.int .i64 ii) := HK3.out.cell 1
       have r2 : w3.cell? ⟨w1.heap.size, 2, none⟩ = some (.string is) := HK3.out.cell 2
       have rf0 := HK3.out.frozen 0
       have rf1 := HK3.out.frozen 1
       have rf2 := HK3.out.frozen 2))
  have HB4 := Lib.hid ((((HBa.out.trans (HB3.out.mono hw2)).setCell (p := ⟨w1.heap.size, 0, none⟩) (Nat.le_refl _) (.bool nb)).setCell (p := ⟨w1.heap.size, 1, none⟩) (Nat.le_refl _) (.int .i64 ni)).setCell (p := ⟨w1.heap.size, 2, none⟩) (Nat.le_refl _) (.string ns))
  have HK4 := Lib.hid (((HK3.out.set_ 0 (.bool nb)).set_ 1 (.int .i64 ni)).set_ 2 (.string ns))
  generalize ((w3.setCell ⟨w1.heap.size, 0, none⟩ (.bool nb)).setCell ⟨w1.heap.size, 1, none⟩ (.int .i64 ni)).setCell ⟨w1.heap.size, 2, none⟩ (.string ns) = w4 at *
  have HL4 := Lib.hid (HL0.out.below HB4.out)
  clear HL0 HLa HBa HKa HNw HOk HN2 HB3 HK3 r0 r1 r2 rf0 rf1 rf2 q0 q1 q2 l0 l1 l2 l3 l4 hw2
  obtain ⟨l0, l1, l2, l3, l4⟩ := HL4.out.cells
  have k0 : w4.cell? ⟨w1.heap.size, 0, none⟩ = some (.bool nb) := HK4.out.cell 0
  have k1 : w4.cell? ⟨w1.heap.size, 1, none⟩ = some (.int .i64 ni) := HK4.out.cell 1
  have k2 : w4.cell? ⟨w1.heap.size, 2, none⟩ = some (.string ns) := HK4.out.cell 2
  have hlook := fun nd => HQ2.out (w4.drewN nd) (HL4.out.idx.below (drewU (Below.refl _ _) nd))
  have HOw := Lib.hid (fun wz (hz : wz.cell? ⟨b, 1, none⟩ = some (.bool false)) => own_any wz b hz)
  clear HQ2
  go_quiet (fail)
  go_upto_region 11 with (go_at_call 143; refine (HOw.out (w4.drewN nq) l1).mono ?_; rintro e w' ⟨⟨v, rfl⟩, rfl⟩)
  clear hlook
  have HL6 : Hid (LstP (w4.drewN nq).drew b mb false (.slice A0 ps.length c0) ps nx) := Lib.hid (HL4.out.below (drewU (drewU (Below.refl _ _) nq) 1))
  have HB6 : Hid (Below w1.heap.size w1 (w4.drewN nq).drew) := Lib.hid (drewU (drewU HB4.out nq) 1)
  have HK6 : Hid (Blk (w4.drewN nq).drew w1.heap.size 37 #[.bool nb, .int .i64 ni, .string ns]) := HK4
  clear HK4 HB4
  refine tail_drew 10 (by kernel_rfl) (by kernel_rfl) ?_
  simp only [List.take_succ_cons, List.take_zero, List.drop_succ_cons, List.drop_zero]
  repeat still_step
  refine wpStill_nil ?_
  go_upto_region 12 with (at_mapUpdate; refine wpList_idx_put rfl _ _ _ rfl rfl HL6.out.idx (by unfold maxLen; omega) (nb, ni, ns) HKO.out HF.out rfl (by simp [Act.eval]) ?_; intro w6 hi6 hg6; have HI6 := Lib.hid hi6; have HG6 := Lib.hid hg6; clear hi6 hg6)
  have HBk := Lib.hid (HL6.out.blk.grown HG6.out (fun e => idx_blk_ne HL6.out.blk HL6.out.idx (by injection e)))
  have HKk := Lib.hid (HK6.out.grown HG6.out (fun e => by injection e with e; omega))
  have HOk := Lib.hid (HL6.out.owns.kept HG6.out (.inr (fun e => idx_row_ne HL6.out.owns HL6.out.idx e.symm)))
  have HBb : Hid (Keeps (turnL w1.heap.size b mb (.slice A0 ps.length c0)) w1 w6) := Lib.hid ((Keeps.of_below HB6.out).trans (Keeps.of_grown HG6.out (fun g e => by injection e with e; exact .inl (.inr (.inl e.symm)))))
  clear HL6 HB6 HK6 HG6 HL4 l0 l1 l2 l3 l4 k0 k1 k2 HOw HLb Hb
  simp only [Act.put]
  go_cut [] (fun wx => ∃ sv', Hid (LstP wx b mb false sv' (ps ++ [((nb, ni, ns), q)]) nx) ∧ Hid (Keeps (turnL w1.heap.size b mb (.slice A0 ps.length c0)) w1 wx) ∧ Hid (Blk wx w1.heap.size 37 #[.bool nb, .int .i64 ni, .string ns]) ∧ Hid (∀ j, ownL b mb sv' j → turnL w1.heap.size b mb (.slice A0 ps.length c0) j))
  case first =>
    have b0 : w6.cell? ⟨b, 0, none⟩ = some (.bool true) := HBk.out.cell 0
    have b1 : w6.cell? ⟨b, 1, none⟩ = some (.bool false) := HBk.out.cell 1
    have b2 : w6.cell? ⟨b, 2, none⟩ = some (.slice A0 ps.length c0) := HBk.out.cell 2
    have b2a : (w6.alloc (.cells #[.bool nb, .int .i64 ni, .string ns, .pointer (some ⟨q, 0, none⟩)] 146)).cell? ⟨b, 2, none⟩ = some (.slice A0 ps.length c0) := (HBk.out.alloc _).cell 2
    refine wp_region_held_drew (S := (fun w' => w'.cell? ⟨w1.heap.size, 0, none⟩ = some (.bool nb) ∧ w'.cell? ⟨w1.heap.size, 1, none⟩ = some (.int .i64 ni) ∧ w'.cell? ⟨w1.heap.size, 2, none⟩ = some (.string ns))) (by kernel_rfl) ?_ (fun hHeld => ?_)
    · exact sk3 HKk.out.drew
    refine wpAnyH_take (i := 0) (v := ?v1) Held.op0 (by kernel_rfl) (by kernel_rfl) (by kernel_rfl) (fun _ _ _ h => h) (Or.inl ⟨by rfl, ?hy1⟩) (by assumption) ?rest1
    case hy1 => (intro wq hSq; (try dsimp only at hSq); first | (go_simp; done) | (go_simp; with_reducible rfl))
    try simp only [Act.put, List.setIfInBounds_toArray, List.set_cons_zero, List.set_cons_succ]
    refine wpAnyH_take (i := 1) (v := ?v2) Held.op1 (by kernel_rfl) (by kernel_rfl) (by kernel_rfl) (fun _ _ _ h => h) (Or.inl ⟨by rfl, ?hy2⟩) (by assumption) ?rest2
    case hy2 => (intro wq hSq; (try dsimp only at hSq); first | (go_simp; done) | (go_simp; with_reducible rfl))
    try simp only [Act.put, List.setIfInBounds_toArray, List.set_cons_zero, List.set_cons_succ]
    refine wpAnyH_take (i := 2) (v := ?v3) Held.op2 (by kernel_rfl) (by kernel_rfl) (by kernel_rfl) (fun _ _ _ h => h) (Or.inl ⟨by rfl, ?hy3⟩) (by assumption) ?rest3
    case hy3 => (intro wq hSq; (try dsimp only at hSq); first | (go_simp; done) | (go_simp; with_reducible rfl))
    try simp only [Act.put, List.setIfInBounds_toArray, List.set_cons_zero, List.set_cons_succ]
    refine wpAnyH_take (i := 3) (v := ?v4) Held.op3 (by kernel_rfl) (by kernel_rfl) (by kernel_rfl) (fun _ _ _ h => h) (Or.inl ⟨by rfl, ?hy4⟩) (by assumption) ?rest4
    case hy4 => (intro wq hSq; (try dsimp only at hSq); first | (go_simp; done) | (go_simp; with_reducible rfl))
    try simp only [Act.put, List.setIfInBounds_toArray, List.set_cons_zero, List.set_cons_succ]
    refine wpAnyH_take (i := 5) (v := ?v5) Held.op5 (by kernel_rfl) (by kernel_rfl) (by kernel_rfl) (fun _ _ _ h => h) (Or.inl ⟨by rfl, ?hy5⟩) (by assumption) ?rest5
    case hy5 => (intro wq hSq; (try dsimp only at hSq); first | (go_simp; done) | (go_simp; with_reducible rfl))
    try simp only [Act.put, List.setIfInBounds_toArray, List.set_cons_zero, List.set_cons_succ]
    refine wpAnyH_take (i := 6) (v := ?v6) Held.op6 (by kernel_rfl) (by kernel_rfl) (by kernel_rfl) (fun _ _ _ h => h) (Or.inl ⟨by rfl, ?hy6⟩) (by assumption) ?rest6
    case hy6 => (intro wq hSq; (try dsimp only at hSq); first | (go_simp; done) | (go_simp; with_reducible rfl))
    try simp only [Act.put, List.setIfInBounds_toArray, List.set_cons_zero, List.set_cons_succ]
    refine wpAnyH_take (i := 7) (v := ?v7) Held.op7 (by kernel_rfl) (by kernel_rfl) (by kernel_rfl) (fun _ _ _ h => h) (Or.inl ⟨by rfl, ?hy7⟩) (by assumption) ?rest7
    case hy7 => (intro wq hSq; (try dsimp only at hSq); first | (go_simp; done) | (go_simp; with_reducible rfl))
    try simp only [Act.put, List.setIfInBounds_toArray, List.set_cons_zero, List.set_cons_succ]
    refine wpAnyH_ready (rs := [4, 8]) (by kernel_rfl) (by simp) ?_
    refine AllReadyH.cons Held.op4 (fun K hK => ?_) (AllReadyH.cons Held.op8 (fun K hK => ?_) AllReadyH.nil)
    · go_simp
      refine hK.out _ _ ?_ (fun hHeld => ?_)
      · exact sk3 HKk.out.drew
      clear hK K
      try simp only [Act.put, List.setIfInBounds_toArray, List.set_cons_zero, List.set_cons_succ]
      refine wpAnyH_ready (rs := [8]) (by kernel_rfl) (by simp) ?_
      refine AllReadyH.cons Held.op8 (fun K hK => ?_) AllReadyH.nil
      go_simp
      refine hK.out _ _ ?_ (fun hHeld => ?_)
      · exact sk3 (HKk.out.drew.alloc _)
      clear hK K
      try simp only [Act.put, List.setIfInBounds_toArray, List.set_cons_zero, List.set_cons_succ]
      refine wpAnyH_ready (rs := [9]) (by kernel_rfl) (by simp) ?_
      refine AllReadyH.cons Held.op9 (fun K hK => ?_) AllReadyH.nil
      refine step_app_tree rfl (.tmp 58) (.tmp 62) rfl 0 (.slice A0 ps.length c0) ps rfl ((own_below HOk.out (drewU (Below.refl _ _) 1)).alloc _) (Nat.zero_le _) (some ⟨w6.heap.size, 0, none⟩) 1 1 [((nb, ni, ns), q)] rfl ?_ (by omega) ?_
      · exact reads_tree (p := ((nb, ni, ns), q)) (Blk.drew (Blk.new w6 _ _))
      intro v7 w7 hown7 hg7 hor7
      have HBk7 := Lib.hid ((HBk.out.drew.alloc _).grown hg7 (row_ne HOk.out HBk.out (by decide)))
      have HKk7 := Lib.hid ((HKk.out.drew.alloc _).grown hg7 (row_ne HOk.out HKk.out (by decide)))
      have HI7 := Lib.hid (idx_grownP (HI6.out.below ((drewU (Below.refl _ _) 1).alloc (Nat.le_refl _) _)) hg7 (idx_row_ne HOk.out HI6.out))
      have HB7 : Hid (Keeps (turnL w1.heap.size b mb (.slice A0 ps.length c0)) w1 w7) := Lib.hid (((HBb.out.drew).alloc _).trans (Keeps.of_grown hg7 (fun gb e => .inl (.inr (.inr e.symm)))))
      have HT7 : Hid (∀ j, ownL b mb v7 j → turnL w1.heap.size b mb (.slice A0 ps.length c0) j) := Lib.hid (fun j hj => by
        rcases hj with hj | hj | hj
        · exact .inl (.inl hj)
        · exact .inl (.inr (.inl hj))
        · rcases hor7 with e | e
          · exact .inl (.inr (.inr (hj.trans e)))
          · rw [e] at hj
            injection hj with hj
            refine .inr ?_
            have := HBb.out.size
            rw [hj]
            simp
            omega)
      have HE7 := Lib.hid (app_endP ((nb, ni, ns), q) HBk7.out HI7.out hown7)
      obtain ⟨g7, cap7, rfl, _, _⟩ := hown7.form (Nat.succ_pos _)
      have x2 : w7.cell? ⟨b, 2, none⟩ = some (.slice A0 ps.length c0) := HBk7.out.cell 2
      have xf2 := HBk7.out.frozen 2
      have n5 : w1.heap.size ≠ b := by omega
      clear hown7 hg7 hor7
      refine hK.out _ _ ?_ (fun hHeld => ?_)
      · exact sk3 HKk7.out
      clear hK K
      try simp only [Act.put, List.setIfInBounds_toArray, List.set_cons_zero, List.set_cons_succ]
      refine wpAnyH_take (i := 10) (v := ?v8) Held.op10 (by kernel_rfl) (by kernel_rfl) (by kernel_rfl) (fun _ _ _ h => h) (Or.inl ⟨by rfl, ?hy8⟩) (by assumption) ?rest8
      case hy8 => (intro wq hSq; (try dsimp only at hSq); first | (go_simp; done) | (go_simp; with_reducible rfl))
      try simp only [Act.put, List.setIfInBounds_toArray, List.set_cons_zero, List.set_cons_succ]
      refine wpAnyH_take (i := 11) (v := ?v9) Held.op11 (by kernel_rfl) (by kernel_rfl) (by kernel_rfl) (fun _ _ _ h => h) (Or.inl ⟨by rfl, ?hy9⟩) (by assumption) ?rest9
      case hy9 => (intro wq hSq; (try dsimp only at hSq); first | (go_simp; done) | (go_simp; with_reducible rfl))
      try simp only [Act.put, List.setIfInBounds_toArray, List.set_cons_zero, List.set_cons_succ]
      refine wpAnyH_ready (rs := [12]) (by kernel_rfl) (by simp) ?_
      refine AllReadyH.cons Held.op12 (fun K hK => ?_) AllReadyH.nil
      go_simp
      refine hK.out _ _ ?_ (fun hHeld => ?_)
      · exact sk3 (HKk7.out.far n5 _)
      clear hK K
      try simp only [Act.put, List.setIfInBounds_toArray, List.set_cons_zero, List.set_cons_succ]
      refine wpAnyH_done (by kernel_rfl) ?_ _
      go_wp2_with fail
      go_meet
      exact ⟨_, HE7.out.1, HB7.out.trans (HE7.out.2.mono fun j _ e => .inl (.inl e)), HKk7.out.far n5 _, HT7.out⟩
    · go_simp
      refine hK.out _ _ ?_ (fun hHeld => ?_)
      · exact sk3 (HKk.out.drew.alloc _)
      clear hK K
      try simp only [Act.put, List.setIfInBounds_toArray, List.set_cons_zero, List.set_cons_succ]
      refine wpAnyH_ready (rs := [4]) (by kernel_rfl) (by simp) ?_
      refine AllReadyH.cons Held.op4 (fun K hK => ?_) AllReadyH.nil
      go_simp
      refine hK.out _ _ ?_ (fun hHeld => ?_)
      · exact sk3 (HKk.out.drew.alloc _)
      clear hK K
      try simp only [Act.put, List.setIfInBounds_toArray, List.set_cons_zero, List.set_cons_succ]
      refine wpAnyH_ready (rs := [9]) (by kernel_rfl) (by simp) ?_
      refine AllReadyH.cons Held.op9 (fun K hK => ?_) AllReadyH.nil
      refine step_app_tree rfl (.tmp 58) (.tmp 62) rfl 0 (.slice A0 ps.length c0) ps rfl ((own_below HOk.out (drewU (Below.refl _ _) 1)).alloc _) (Nat.zero_le _) (some ⟨w6.heap.size, 0, none⟩) 1 1 [((nb, ni, ns), q)] rfl ?_ (by omega) ?_
      · exact reads_tree (p := ((nb, ni, ns), q)) (Blk.drew (Blk.new w6 _ _))
      intro v7 w7 hown7 hg7 hor7
      have HBk7 := Lib.hid ((HBk.out.drew.alloc _).grown hg7 (row_ne HOk.out HBk.out (by decide)))
      have HKk7 := Lib.hid ((HKk.out.drew.alloc _).grown hg7 (row_ne HOk.out HKk.out (by decide)))
      have HI7 := Lib.hid (idx_grownP (HI6.out.below ((drewU (Below.refl _ _) 1).alloc (Nat.le_refl _) _)) hg7 (idx_row_ne HOk.out HI6.out))
      have HB7 : Hid (Keeps (turnL w1.heap.size b mb (.slice A0 ps.length c0)) w1 w7) := Lib.hid (((HBb.out.drew).alloc _).trans (Keeps.of_grown hg7 (fun gb e => .inl (.inr (.inr e.symm)))))
      have HT7 : Hid (∀ j, ownL b mb v7 j → turnL w1.heap.size b mb (.slice A0 ps.length c0) j) := Lib.hid (fun j hj => by
        rcases hj with hj | hj | hj
        · exact .inl (.inl hj)
        · exact .inl (.inr (.inl hj))
        · rcases hor7 with e | e
          · exact .inl (.inr (.inr (hj.trans e)))
          · rw [e] at hj
            injection hj with hj
            refine .inr ?_
            have := HBb.out.size
            rw [hj]
            simp
            omega)
      have HE7 := Lib.hid (app_endP ((nb, ni, ns), q) HBk7.out HI7.out hown7)
      obtain ⟨g7, cap7, rfl, _, _⟩ := hown7.form (Nat.succ_pos _)
      have x2 : w7.cell? ⟨b, 2, none⟩ = some (.slice A0 ps.length c0) := HBk7.out.cell 2
      have xf2 := HBk7.out.frozen 2
      have n5 : w1.heap.size ≠ b := by omega
      clear hown7 hg7 hor7
      refine hK.out _ _ ?_ (fun hHeld => ?_)
      · exact sk3 HKk7.out
      clear hK K
      try simp only [Act.put, List.setIfInBounds_toArray, List.set_cons_zero, List.set_cons_succ]
      refine wpAnyH_take (i := 10) (v := ?v10) Held.op10 (by kernel_rfl) (by kernel_rfl) (by kernel_rfl) (fun _ _ _ h => h) (Or.inl ⟨by rfl, ?hy10⟩) (by assumption) ?rest10
      case hy10 => (intro wq hSq; (try dsimp only at hSq); first | (go_simp; done) | (go_simp; with_reducible rfl))
      try simp only [Act.put, List.setIfInBounds_toArray, List.set_cons_zero, List.set_cons_succ]
      refine wpAnyH_take (i := 11) (v := ?v11) Held.op11 (by kernel_rfl) (by kernel_rfl) (by kernel_rfl) (fun _ _ _ h => h) (Or.inl ⟨by rfl, ?hy11⟩) (by assumption) ?rest11
      case hy11 => (intro wq hSq; (try dsimp only at hSq); first | (go_simp; done) | (go_simp; with_reducible rfl))
      try simp only [Act.put, List.setIfInBounds_toArray, List.set_cons_zero, List.set_cons_succ]
      refine wpAnyH_ready (rs := [12]) (by kernel_rfl) (by simp) ?_
      refine AllReadyH.cons Held.op12 (fun K hK => ?_) AllReadyH.nil
      go_simp
      refine hK.out _ _ ?_ (fun hHeld => ?_)
      · exact sk3 (HKk7.out.far n5 _)
      clear hK K
      try simp only [Act.put, List.setIfInBounds_toArray, List.set_cons_zero, List.set_cons_succ]
      refine wpAnyH_done (by kernel_rfl) ?_ _
      go_wp2_with fail
      go_meet
      exact ⟨_, HE7.out.1, HB7.out.trans (HE7.out.2.mono fun j _ e => .inl (.inl e)), HKk7.out.far n5 _, HT7.out⟩
  case rest =>
    obtain ⟨sv', HLc, HBc, HKc, HTc⟩ := hcut
    clear HBk HKk HOk HBb HI6
    obtain ⟨l0, l1, l2, l3, l4⟩ := HLc.out.cells
    have lf4 := HLc.out.blk.frozen 4
    have k0 : wc.cell? ⟨w1.heap.size, 0, none⟩ = some (.bool nb) := HKc.out.cell 0
    have k1 : wc.cell? ⟨w1.heap.size, 1, none⟩ = some (.int .i64 ni) := HKc.out.cell 1
    have kb : ∀ (wa wb : World), Keeps (fun j => j = b) wa wb → Keeps (turnL w1.heap.size b mb (.slice A0 ps.length c0)) wa wb := fun _ _ h => h.mono fun j _ e => .inl (.inl e)
    cases hnb : nb with
    | true =>
      subst hnb
      have hnk : nextK nx (true, ni, ns) = nx := by unfold nextK; rw [if_neg (by simp)]
      go_upto_region 13 with fail
      go_quiet (fail)
      go_wp2_with fail
      go_ret
      exact ⟨rfl, ⟨sv', by first | exact HLc.out.below (drewU (Below.refl _ _) nq) | (rw [hnk]; exact HLc.out.below (drewU (Below.refl _ _) nq)), HTc.out⟩, turn_end (HBc.out.drewN nq)⟩
    | false =>
      subst hnb
      by_cases h0 : 0 ≤ nx
      · by_cases h1 : nx ≤ ni
        · by_cases h2 : ni < 9223372036854775807
          · have hnk : nextK nx (false, ni, ns) = ni + 1 := by unfold nextK; rw [if_pos ⟨rfl, h0, h1⟩, if_pos h2]
            have hwr : IntKind.i64.wrap (ni + 1) = ni + 1 := IntWalk.i64_in _ (by omega)
            have hlt : ¬ ni + 1 < 0 := by omega
            go_upto_region 13 with fail
            go_quiet (fail)
            have HLn := Lib.hid ((HLc.out.below (drewU (Below.refl _ _) nq)).next (ni + 1))
            have q4 : ((wc.drewN nq).setCell ⟨b, 4, none⟩ (.int .i64 (ni + 1))).cell? ⟨b, 4, none⟩ = some (.int .i64 (ni + 1)) := HLn.out.1.blk.cell 4
            go_wp2_with fail
            go_ret
            exact ⟨rfl, ⟨sv', by first | exact HLn.out.1 | (rw [hnk]; exact HLn.out.1), HTc.out⟩, turn_end ((HBc.out.drewN nq).trans (kb _ _ HLn.out.2))⟩
          · have hmx : ni = 9223372036854775807 := by have h9 : In64 ni := HKO.out.1; have := h9.2; omega
            subst hmx
            have hnk : nextK nx (false, 9223372036854775807, ns) = -1 := by unfold nextK; rw [if_pos ⟨rfl, h0, h1⟩, if_neg (by omega)]
            have hwr := wrap_most
            go_upto_region 13 with fail
            go_quiet (fail)
            have HLm := Lib.hid ((HLc.out.below (drewU (Below.refl _ _) nq)).next (-9223372036854775808))
            have HLn := Lib.hid (HLm.out.1.next (-1))
            have q4 : ((wc.drewN nq).setCell ⟨b, 4, none⟩ (.int .i64 (-9223372036854775808))).cell? ⟨b, 4, none⟩ = some (.int .i64 (-9223372036854775808)) := HLm.out.1.blk.cell 4
            have qf4 := HLm.out.1.blk.frozen 4
            go_wp2_with fail
            go_ret
            exact ⟨rfl, ⟨sv', by first | exact HLn.out.1 | (rw [hnk]; exact HLn.out.1), HTc.out⟩, turn_end (((HBc.out.drewN nq).trans (kb _ _ HLm.out.2)).trans (kb _ _ HLn.out.2))⟩
        · have hnk : nextK nx (false, ni, ns) = nx := by unfold nextK; rw [if_neg (fun h => h1 h.2.2)]
          go_upto_region 13 with fail
          go_quiet (fail)
          go_wp2_with fail
          go_ret
          exact ⟨rfl, ⟨sv', by first | exact HLc.out.below (drewU (Below.refl _ _) nq) | (rw [hnk]; exact HLc.out.below (drewU (Below.refl _ _) nq)), HTc.out⟩, turn_end (HBc.out.drewN nq)⟩
      · have hnk : nextK nx (false, ni, ns) = nx := by unfold nextK; rw [if_neg (fun h => h0 h.2.1)]
        go_upto_region 13 with fail
        go_quiet (fail)
        go_wp2_with fail
        go_ret
        exact ⟨rfl, ⟨sv', by first | exact HLc.out.below (drewU (Below.refl _ _) nq) | (rw [hnk]; exact HLc.out.below (drewU (Below.refl _ _) nq)), HTc.out⟩, turn_end (HBc.out.drewN nq)⟩
end
end Ut
end Go.Proofs.YtgpemnmopogppaaGreatDoor
