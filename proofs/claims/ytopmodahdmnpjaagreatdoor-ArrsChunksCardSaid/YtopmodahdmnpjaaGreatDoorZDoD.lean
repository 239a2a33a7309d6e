/- list.List of values: Set where the key is there, and where no room is left: the walks. -/
import Derived.Test.YtopmodahdmnpjaaGreatDoorZAppsQ
namespace Go.Proofs.YtopmodahdmnpjaaGreatDoor
open Go Go.RowKit
namespace Dp
open Go.Proofs.YtopmodahdmnpjaaGreatDoor.Nm (normG keyV norm_any)
theorem put_key {ps : List PI} {i : Nat} {p q : PI} (h : ps[i]? = some p) : (ps.set i (p.put q)).map PI.key = ps.map PI.key := by
  rw [List.map_set]
  refine List.ext_getElem? fun j => ?_
  rw [List.getElem?_set]
  by_cases hj : i = j
  · subst hj
    rw [if_pos rfl, List.getElem?_map, h]
    have hi := (List.getElem?_eq_some_iff.1 h).1
    simp [hi]
    rfl
  · rw [if_neg hj]
/-- What a list's operation keeps: all blocks but the list's, its map's and its row's. -/
structure Fr (base b mb : Nat) (ob : Option Nat) (w w' : World) : Prop where
  bel : Below base w w'
  blk : ∀ i, i < w.heap.size → i ≠ b → i ≠ mb → some i ≠ ob → w'.heap[i]? = w.heap[i]?
theorem Fr.size {base b mb : Nat} {ob : Option Nat} {w w' : World} (h : Fr base b mb ob w w') : w.heap.size ≤ w'.heap.size := h.bel.size
theorem Fr.of_below {base b mb : Nat} {ob : Option Nat} {w w' : World} (h : Below w.heap.size w w') (hb : base ≤ w.heap.size) : Fr base b mb ob w w' := ⟨h.mono hb, fun i hi _ _ _ => h.block i hi⟩
theorem Fr.keeps {base b mb : Nat} {ob : Option Nat} {w w1 w2 : World} {S : Nat → Prop} (h : Fr base b mb ob w w1) (hk : Keeps S w1 w2) (hb : base ≤ w.heap.size) (h1 : ∀ j, S j → base ≤ j) (h2 : ∀ j, S j → j = b ∨ j = mb ∨ some j = ob ∨ w.heap.size ≤ j) : Fr base b mb ob w w2 :=
  ⟨h.bel.trans (hk.below (Nat.le_trans hb h.bel.size) h1), fun i hi n1 n2 n3 => (hk.block i (Nat.lt_of_lt_of_le hi h.bel.size) (fun hs => by rcases h2 i hs with e | e | e | e; exact n1 e; exact n2 e; exact n3 e; omega)).trans (h.blk i hi n1 n2 n3)⟩
theorem Fr.grown {base b mb : Nat} {ob : Option Nat} {w w1 w2 : World} {row : Option Nat} (h : Fr base b mb ob w w1) (hg : w1.grownBy w2 row) (hb : base ≤ w.heap.size) (h1 : ∀ j, row = some j → base ≤ j) (h2 : ∀ j, row = some j → j = b ∨ j = mb ∨ some j = ob ∨ w.heap.size ≤ j) : Fr base b mb ob w w2 :=
  h.keeps (S := fun j => row = some j) ⟨hg.os, hg.tape, hg.output, hg.size, fun i hi hn => hg.block i hi (fun e => hn e.symm)⟩ hb h1 h2
theorem Fr.drewN {base b mb : Nat} {ob : Option Nat} {w w1 : World} (h : Fr base b mb ob w w1) (n : Nat) : Fr base b mb ob w (w1.drewN n) := ⟨⟨h.bel.os, h.bel.tape, h.bel.output, h.bel.size, h.bel.block⟩, h.blk⟩
theorem Fr.alloc {base b mb : Nat} {ob : Option Nat} {w w1 : World} (h : Fr base b mb ob w w1) (hb : base ≤ w.heap.size) (o : Obj) : Fr base b mb ob w (w1.alloc o) :=
  ⟨h.bel.alloc (Nat.le_trans hb h.bel.size) o, fun i hi n1 n2 n3 => by rw [Below.heap_alloc w1 o i (Nat.lt_of_lt_of_le hi h.bel.size)]; exact h.blk i hi n1 n2 n3⟩
/-- A value put in another's place. -/
theorem LstAt.put {base b mb : Nat} {w : World} {sh : Bool} {ps : List PI} {nx : Int} {g c i : Nat} {p : PI} (h : LstAt base w b mb sh (.slice (some ⟨g, 0, none⟩) ps.length c) ps nx) (hp : ps[i]? = some p) (q : PI) :
    LstAt base ((((w.setCell ⟨g, i * 7 + 3, none⟩ (.int .i64 q.k)).setCell ⟨g, i * 7 + 4, none⟩ (.int .i64 q.n)).setCell ⟨g, i * 7 + 5, none⟩ (.string q.t)).setCell ⟨g, i * 7 + 6, none⟩ (.slice q.A q.l.length q.c)) b mb sh (.slice (some ⟨g, 0, none⟩) ps.length c) (ps.set i (p.put q)) nx
      ∧ Keeps (fun j => j = g) w ((((w.setCell ⟨g, i * 7 + 3, none⟩ (.int .i64 q.k)).setCell ⟨g, i * 7 + 4, none⟩ (.int .i64 q.n)).setCell ⟨g, i * 7 + 5, none⟩ (.string q.t)).setCell ⟨g, i * 7 + 6, none⟩ (.slice q.A q.l.length q.c)) := by
  have hg := (h.owns.lt g rfl)
  have h1 := row_ne h.owns h.blk (by decide)
  have h2 := idx_row_ne h.owns h.idx
  have hK : Keeps (fun j => j = g) w ((((w.setCell ⟨g, i * 7 + 3, none⟩ (.int .i64 q.k)).setCell ⟨g, i * 7 + 4, none⟩ (.int .i64 q.n)).setCell ⟨g, i * 7 + 5, none⟩ (.string q.t)).setCell ⟨g, i * 7 + 6, none⟩ (.slice q.A q.l.length q.c)) :=
    ((((Keeps.refl (fun j => j = g) w).setCell (p := ⟨g, i * 7 + 3, none⟩) (.inl rfl) _).setCell (p := ⟨g, i * 7 + 4, none⟩) (.inl rfl) _).setCell (p := ⟨g, i * 7 + 5, none⟩) (.inl rfl) _).setCell (p := ⟨g, i * 7 + 6, none⟩) (.inl rfl) _
  have ho := ((((h.owns.stored (i * 7 + 3) (.int .i64 q.k)).1.stored (i * 7 + 4) (.int .i64 q.n)).1.stored (i * 7 + 5) (.string q.t)).1.stored (i * 7 + 6) (.slice q.A q.l.length q.c)).1
  rw [rowC_put ps i p q hp] at ho
  refine ⟨⟨h.blk.keeps hK (fun e => h1 (by rw [e]; rfl)), ?_, ?_, h.hb, h.hm⟩, hK⟩
  · rw [List.length_set, put_key hp]
    exact h.idx.keeps hK (fun e => h2 (by rw [e]; rfl))
  · rw [List.length_set]
    exact ho
theorem LstAt.cells {base b mb : Nat} {w : World} {sh : Bool} {sv : Value} {ps : List PI} {nx : Int} (h : LstAt base w b mb sh sv ps nx) : w.cell? ⟨b, 0, none⟩ = some (.bool true) ∧ w.cell? ⟨b, 1, none⟩ = some (.bool sh) ∧ w.cell? ⟨b, 2, none⟩ = some sv ∧ w.cell? ⟨b, 3, none⟩ = some (.map (some mb)) ∧ w.cell? ⟨b, 4, none⟩ = some (.int .i64 nx) :=
  ⟨h.blk.cell 0, h.blk.cell 1, h.blk.cell 2, h.blk.cell 3, h.blk.cell 4⟩
section
variable {w : World} {B : Nat}
set_option maxRecDepth 100000 in
set_option maxHeartbeats 4000000 in
theorem set_found (hLib : ∀ w', Below B w w' → LibS w') (w1 : World) (hb : Below B w w1) {base b mb : Nat} {sv : Value} {ps : List PI} {nx : Int} (hL : LstAt base w1 b mb false sv ps nx) (hB1 : B ≤ w1.heap.size) (p : PI) (hk : In64 p.i) (hs : p.s.size ≤ 140737488351232) (i : Nat) (hf : findK (ps.map PI.key) (normG p.b p.i p.s) 0 = i) (p0 : PI) (hp0 : ps[i]? = some p0) (hn : ps.length ≤ 2048) :
    Calls Tryz.prog 95 #[.pointer (some ⟨b, 0, none⟩), .agg #[.bool p.b, .int .i64 p.i, .string p.s], p.val] w1 fun e w2 => e = .returned (.int .i64 0) ∧ LstAt base w2 b mb false sv (ps.set i (p0.put p)) nx ∧ Fr base b mb sv.ownBlock w1 w2 := by
  obtain ⟨ib, ii, is, k, n, t, l, A, c⟩ := p
  simp only [PI.val] at *
  have hKO := normG_key ib ii is hk hs
  have hi := (List.getElem?_eq_some_iff.1 hp0).1
  obtain ⟨A0, c0, rfl⟩ := hL.form
  obtain ⟨g, cap, hv, hbg, hgl⟩ := hL.owns.form (by omega)
  injection hv with e1 _ e3
  subst e1 e3
  have hla : placeK (ps.map PI.key) (normG ib ii is) = i := by unfold placeK; rw [hf, if_pos (by omega)]
  have hlb : decide (0 ≤ findK (ps.map PI.key) (normG ib ii is) 0) = true := by rw [hf]; exact decide_eq_true (by omega)
  have HP0 := Lib.hid hp0
  clear hp0
  have HN := Lib.hid (fun wz hz => norm_any (i := ii) (s := is) (w := wz) ib (by omega) hz)
  have HQ := Lib.hid (fun wz (hz : IdxAt wz mb ps.length (ps.map PI.key)) => (by have := hz.look_ok _ hKO; rw [hla, hlb] at this; exact this : (Instr.lookup 128 (.map (some mb)) (keyV (normG ib ii is)) true).run Tryz.prog wz = .ok (.tuple #[.int .i64 i, .bool true]) wz))
  have HF := Lib.hid hf
  have HKO := Lib.hid hKO
  obtain ⟨nb, ni, ns, hnorm⟩ : ∃ nb ni ns, normG ib ii is = (nb, ni, ns) := ⟨_, _, _, rfl⟩
  rw [hnorm] at HN HQ HF HKO
  have HN2 : Hid (∀ wz : World, LibS wz → Calls Tryz.prog 145 #[.agg #[.bool ib, .int .i64 ii, .string is]] wz fun e w' => e = .returned (.agg #[.bool nb, .int .i64 ni, .string ns]) ∧ Below wz.heap.size wz w') := HN
  have HQ2 : Hid (∀ wz : World, IdxAt wz mb ps.length (ps.map PI.key) → (Instr.lookup 128 (.map (some mb)) (.agg #[.bool nb, .int .i64 ni, .string ns]) true).run Tryz.prog wz = .ok (.tuple #[.int .i64 i, .bool true]) wz) := HQ
  have HLb := Lib.hid hLib
  have hal := fun (wx : World) (o : Obj) => (Below.refl wx.heap.size wx).alloc (Nat.le_refl _) o
  have HBa := Lib.hid (((hal w1 (.cells #[.bool ib, .int .i64 ii, .string is] 32))).alloc (by simp) (.cells #[.int .i64 k, .int .i64 n, .string t, .slice A l.length c] 24))
  have HKa := Lib.hid (blk_below (Blk.new w1 32 #[.bool ib, .int .i64 ii, .string is]) (hal _ (.cells #[.int .i64 k, .int .i64 n, .string t, .slice A l.length c] 24)))
  have HVa := Lib.hid (Blk.new (w1.alloc (.cells #[.bool ib, .int .i64 ii, .string is] 32)) 24 #[.int .i64 k, .int .i64 n, .string t, .slice A l.length c])
  have hz1 : (w1.alloc (.cells #[.bool ib, .int .i64 ii, .string is] 32)).heap.size = w1.heap.size + 1 := by simp
  rw [hz1] at HVa
  have HLa := Lib.hid (hL.below HBa.out)
  have HL0 := Lib.hid hL
  have Hb := Lib.hid hb
  have hblt := hL.blk.lt
  have hbb := hL.hb
  have hmlt := hL.idx.lt
  have hmm := hL.hm
  clear hL hb hLib hk hs hf hKO hla hlb HN HQ hnorm hal hz1
  go_enter Tryz.func95, Tryz.ntmps95
  go_upto_region 1 with fail
  generalize (w1.alloc (.cells #[.bool ib, .int .i64 ii, .string is] 32)).alloc (.cells #[.int .i64 k, .int .i64 n, .string t, .slice A l.length c] 24) = w2 at *
  have hw2 := HBa.out.size
  have l0 := HLa.out.cells
  obtain ⟨l0, l1, l2, l3, l4⟩ := l0
  have q0 : w2.cell? ⟨w1.heap.size, 0, none⟩ = some (.bool ib) := HKa.out.cell 0
  have q1 : w2.cell? ⟨w1.heap.size, 1, none⟩ = some (.int .i64 ii) := HKa.out.cell 1
  have q2 : w2.cell? ⟨w1.heap.size, 2, none⟩ = some (.string is) := HKa.out.cell 2
  have HOk := Lib.hid (ok_any w2 b l0)
  have HNw := Lib.hid (HN2.out w2 (HLb.out _ (Hb.out.trans (HBa.out.mono hB1))))
  go_upto_region 4 with (first
    | (go_at_call 142; refine HOk.out.mono ?_; rintro e w' ⟨rfl, rfl⟩)
    | (go_at_call 145; refine HNw.out.mono ?_; rintro e w3 ⟨rfl, hb3⟩
       have HB3 := Lib.hid hb3; have HK3 := Lib.hid (blk_below HKa.out hb3); clear hb3
       have r0 : w3.cell? ⟨w1.heap.size, 0, none⟩ = some (.bool ib) := HK3.out.cell 0
       have r1 : w3.cell? ⟨w1.heap.size, 1, none⟩ = some (.int .i64 ii) := HK3.out.cell 1
       have r2 : w3.cell? ⟨w1.heap.size, 2, none⟩ = some (.string is) := HK3.out.cell 2
       have rf0 := HK3.out.frozen 0
       have rf1 := HK3.out.frozen 1
       have rf2 := HK3.out.frozen 2))
  have HB4 := Lib.hid ((((HBa.out.trans (HB3.out.mono hw2)).setCell (p := ⟨w1.heap.size, 0, none⟩) (Nat.le_refl _) (.bool nb)).setCell (p := ⟨w1.heap.size, 1, none⟩) (Nat.le_refl _) (.int .i64 ni)).setCell (p := ⟨w1.heap.size, 2, none⟩) (Nat.le_refl _) (.string ns))
  have HK4 := Lib.hid (((HK3.out.set_ 0 (.bool nb)).set_ 1 (.int .i64 ni)).set_ 2 (.string ns))
  have HV4 := Lib.hid ((((blk_below HVa.out HB3.out).far (p := ⟨w1.heap.size, 0, none⟩) (by simp) (.bool nb)).far (p := ⟨w1.heap.size, 1, none⟩) (by simp) (.int .i64 ni)).far (p := ⟨w1.heap.size, 2, none⟩) (by simp) (.string ns))
  generalize ((w3.setCell ⟨w1.heap.size, 0, none⟩ (.bool nb)).setCell ⟨w1.heap.size, 1, none⟩ (.int .i64 ni)).setCell ⟨w1.heap.size, 2, none⟩ (.string ns) = w4 at *
  have HL4 := Lib.hid (HL0.out.below HB4.out)
  clear HL0 HLa HBa HKa HVa HNw HOk HN2 HB3 HK3 r0 r1 r2 rf0 rf1 rf2 q0 q1 q2 l0 l1 l2 l3 l4 hw2
  obtain ⟨l0, l1, l2, l3, l4⟩ := HL4.out.cells
  have k0 : w4.cell? ⟨w1.heap.size, 0, none⟩ = some (.bool nb) := HK4.out.cell 0
  have k1 : w4.cell? ⟨w1.heap.size, 1, none⟩ = some (.int .i64 ni) := HK4.out.cell 1
  have k2 : w4.cell? ⟨w1.heap.size, 2, none⟩ = some (.string ns) := HK4.out.cell 2
  have hlook := fun nd => HQ2.out (w4.drewN nd) (HL4.out.idx.below (drewU (Below.refl _ _) nd))
  have HOw := Lib.hid (fun wz (hz : wz.cell? ⟨b, 1, none⟩ = some (.bool false)) => own_any wz b hz)
  clear HQ2
  have v0 : w4.cell? ⟨w1.heap.size + 1, 0, none⟩ = some (.int .i64 k) := HV4.out.cell 0
  have v1 : w4.cell? ⟨w1.heap.size + 1, 1, none⟩ = some (.int .i64 n) := HV4.out.cell 1
  have v2 : w4.cell? ⟨w1.heap.size + 1, 2, none⟩ = some (.string t) := HV4.out.cell 2
  have v3 : w4.cell? ⟨w1.heap.size + 1, 3, none⟩ = some (.slice A l.length c) := HV4.out.cell 3
  have hc : ∀ r, r < 7 → ∀ u, p0.cells[r]? = some u → w4.cell? ⟨g, i * 7 + r, none⟩ = some u := fun r hr u hu => addr_add0 (HL4.out.owns.cells (g := g) rfl (i * 7 + r) u ((rowC_get ps i p0 HP0.out r hr).trans hu))
  have s3 := hc 3 (by decide) _ rfl
  have s4 := hc 4 (by decide) _ rfl
  have s5 := hc 5 (by decide) _ rfl
  have s6 := hc 6 (by decide) _ rfl
  have sf3 := HL4.out.owns.frozenAt (i * 7 + 3)
  have sf4 := HL4.out.owns.frozenAt (i * 7 + 4)
  have sf5 := HL4.out.owns.frozenAt (i * 7 + 5)
  have sf6 := HL4.out.owns.frozenAt (i * 7 + 6)
  clear HK4 HV4 hc HF HKO
  go_quiet (fail)
  go_upto_region 9 with (go_at_call 146; refine (HOw.out (w4.drewN nq) l1).mono ?_; rintro e w' ⟨⟨v, rfl⟩, rfl⟩)
  clear hlook
  have HL6 : Hid (LstAt base (w4.drewN nq).drew b mb false (.slice (some ⟨g, 0, none⟩) ps.length c0) ps nx) := Lib.hid (HL4.out.below (drewU (drewU (Below.refl _ _) nq) 1))
  have HB6 : Hid (Below w1.heap.size w1 (w4.drewN nq).drew) := Lib.hid (drewU (drewU HB4.out nq) 1)
  have HPt := Lib.hid (HL6.out.put HP0.out ⟨ib, ii, is, k, n, t, l, A, c⟩)
  refine tail_drew 8 (by kernel_rfl) (by kernel_rfl) ?_
  simp only [List.take_succ_cons, List.take_zero, List.drop_succ_cons, List.drop_zero]
  repeat still_step
  refine wpStill_nil ?_
  go_wp2_with fail
  go_ret
  exact ⟨rfl, HPt.out.1, (Fr.of_below HB6.out (by omega)).keeps HPt.out.2 (by omega) (fun j e => by omega) (fun j e => .inr (.inr (.inl (by rw [e]; rfl))))⟩
set_option maxRecDepth 100000 in
set_option maxHeartbeats 4000000 in
theorem set_full (hLib : ∀ w', Below B w w' → LibS w') (w1 : World) (hb : Below B w w1) {base b mb : Nat} {sv : Value} {ps : List PI} {nx : Int} (hL : LstAt base w1 b mb false sv ps nx) (hB1 : B ≤ w1.heap.size) (p : PI) (hk : In64 p.i) (hs : p.s.size ≤ 140737488351232) (hf : findK (ps.map PI.key) (normG p.b p.i p.s) 0 < 0) (hn : 2048 ≤ ps.length) (hn2 : ps.length ≤ 9223372036854775807) :
    Calls Tryz.prog 95 #[.pointer (some ⟨b, 0, none⟩), .agg #[.bool p.b, .int .i64 p.i, .string p.s], p.val] w1 fun e w2 => e = .returned (.int .i64 8) ∧ LstAt base w2 b mb false sv ps nx ∧ Fr base b mb sv.ownBlock w1 w2 := by
  obtain ⟨ib, ii, is, k, n, t, l, A, c⟩ := p
  simp only [PI.val] at *
  have hKO := normG_key ib ii is hk hs
  obtain ⟨A0, c0, rfl⟩ := hL.form
  have hla : placeK (ps.map PI.key) (normG ib ii is) = 0 := by unfold placeK; rw [if_neg (by omega)]
  have hlb : decide (0 ≤ findK (ps.map PI.key) (normG ib ii is) 0) = false := decide_eq_false (by omega)
  have HN := Lib.hid (fun wz hz => norm_any (i := ii) (s := is) (w := wz) ib (by omega) hz)
  have HQ := Lib.hid (fun wz (hz : IdxAt wz mb ps.length (ps.map PI.key)) => (by have := hz.look_ok _ hKO; rw [hla, hlb] at this; exact this : (Instr.lookup 128 (.map (some mb)) (keyV (normG ib ii is)) true).run Tryz.prog wz = .ok (.tuple #[.int .i64 0, .bool false]) wz))
  have HF := Lib.hid hf
  have HKO := Lib.hid hKO
  obtain ⟨nb, ni, ns, hnorm⟩ : ∃ nb ni ns, normG ib ii is = (nb, ni, ns) := ⟨_, _, _, rfl⟩
  rw [hnorm] at HN HQ HF HKO
  have HN2 : Hid (∀ wz : World, LibS wz → Calls Tryz.prog 145 #[.agg #[.bool ib, .int .i64 ii, .string is]] wz fun e w' => e = .returned (.agg #[.bool nb, .int .i64 ni, .string ns]) ∧ Below wz.heap.size wz w') := HN
  have HQ2 : Hid (∀ wz : World, IdxAt wz mb ps.length (ps.map PI.key) → (Instr.lookup 128 (.map (some mb)) (.agg #[.bool nb, .int .i64 ni, .string ns]) true).run Tryz.prog wz = .ok (.tuple #[.int .i64 0, .bool false]) wz) := HQ
  have HLb := Lib.hid hLib
  have hal := fun (wx : World) (o : Obj) => (Below.refl wx.heap.size wx).alloc (Nat.le_refl _) o
  have HBa := Lib.hid (((hal w1 (.cells #[.bool ib, .int .i64 ii, .string is] 32))).alloc (by simp) (.cells #[.int .i64 k, .int .i64 n, .string t, .slice A l.length c] 24))
  have HKa := Lib.hid (blk_below (Blk.new w1 32 #[.bool ib, .int .i64 ii, .string is]) (hal _ (.cells #[.int .i64 k, .int .i64 n, .string t, .slice A l.length c] 24)))
  have HVa := Lib.hid (Blk.new (w1.alloc (.cells #[.bool ib, .int .i64 ii, .string is] 32)) 24 #[.int .i64 k, .int .i64 n, .string t, .slice A l.length c])
  have hz1 : (w1.alloc (.cells #[.bool ib, .int .i64 ii, .string is] 32)).heap.size = w1.heap.size + 1 := by simp
  rw [hz1] at HVa
  have HLa := Lib.hid (hL.below HBa.out)
  have HL0 := Lib.hid hL
  have Hb := Lib.hid hb
  have hblt := hL.blk.lt
  have hbb := hL.hb
  have hmlt := hL.idx.lt
  have hmm := hL.hm
  clear hL hb hLib hk hs hf hKO hla hlb HN HQ hnorm hal hz1
  go_enter Tryz.func95, Tryz.ntmps95
  go_upto_region 1 with fail
  generalize (w1.alloc (.cells #[.bool ib, .int .i64 ii, .string is] 32)).alloc (.cells #[.int .i64 k, .int .i64 n, .string t, .slice A l.length c] 24) = w2 at *
  have hw2 := HBa.out.size
  have l0 := HLa.out.cells
  obtain ⟨l0, l1, l2, l3, l4⟩ := l0
  have q0 : w2.cell? ⟨w1.heap.size, 0, none⟩ = some (.bool ib) := HKa.out.cell 0
  have q1 : w2.cell? ⟨w1.heap.size, 1, none⟩ = some (.int .i64 ii) := HKa.out.cell 1
  have q2 : w2.cell? ⟨w1.heap.size, 2, none⟩ = some (.string is) := HKa.out.cell 2
  have HOk := Lib.hid (ok_any w2 b l0)
  have HNw := Lib.hid (HN2.out w2 (HLb.out _ (Hb.out.trans (HBa.out.mono hB1))))
  go_upto_region 4 with (first
    | (go_at_call 142; refine HOk.out.mono ?_; rintro e w' ⟨rfl, rfl⟩)
    | (go_at_call 145; refine HNw.out.mono ?_; rintro e w3 ⟨rfl, hb3⟩
       have HB3 := Lib.hid hb3; have HK3 := Lib.hid (blk_below HKa.out hb3); clear hb3
       have r0 : w3.cell? ⟨w1.heap.size, 0, none⟩ = some (.bool ib) := HK3.out.cell 0
       have r1 : w3.cell? ⟨w1.heap.size, 1, none⟩ = some (.int .i64 ii) := HK3.out.cell 1
       have r2 : w3.cell? ⟨w1.heap.size, 2, none⟩ = some (.string is) := HK3.out.cell 2
       have rf0 := HK3.out.frozen 0
       have rf1 := HK3.out.frozen 1
       have rf2 := HK3.out.frozen 2))
  have HB4 := Lib.hid ((((HBa.out.trans (HB3.out.mono hw2)).setCell (p := ⟨w1.heap.size, 0, none⟩) (Nat.le_refl _) (.bool nb)).setCell (p := ⟨w1.heap.size, 1, none⟩) (Nat.le_refl _) (.int .i64 ni)).setCell (p := ⟨w1.heap.size, 2, none⟩) (Nat.le_refl _) (.string ns))
  have HK4 := Lib.hid (((HK3.out.set_ 0 (.bool nb)).set_ 1 (.int .i64 ni)).set_ 2 (.string ns))
  have HV4 := Lib.hid ((((blk_below HVa.out HB3.out).far (p := ⟨w1.heap.size, 0, none⟩) (by simp) (.bool nb)).far (p := ⟨w1.heap.size, 1, none⟩) (by simp) (.int .i64 ni)).far (p := ⟨w1.heap.size, 2, none⟩) (by simp) (.string ns))
  generalize ((w3.setCell ⟨w1.heap.size, 0, none⟩ (.bool nb)).setCell ⟨w1.heap.size, 1, none⟩ (.int .i64 ni)).setCell ⟨w1.heap.size, 2, none⟩ (.string ns) = w4 at *
  have HL4 := Lib.hid (HL0.out.below HB4.out)
  clear HL0 HLa HBa HKa HVa HNw HOk HN2 HB3 HK3 r0 r1 r2 rf0 rf1 rf2 q0 q1 q2 l0 l1 l2 l3 l4 hw2
  obtain ⟨l0, l1, l2, l3, l4⟩ := HL4.out.cells
  have k0 : w4.cell? ⟨w1.heap.size, 0, none⟩ = some (.bool nb) := HK4.out.cell 0
  have k1 : w4.cell? ⟨w1.heap.size, 1, none⟩ = some (.int .i64 ni) := HK4.out.cell 1
  have k2 : w4.cell? ⟨w1.heap.size, 2, none⟩ = some (.string ns) := HK4.out.cell 2
  have hlook := fun nd => HQ2.out (w4.drewN nd) (HL4.out.idx.below (drewU (Below.refl _ _) nd))
  have HOw := Lib.hid (fun wz (hz : wz.cell? ⟨b, 1, none⟩ = some (.bool false)) => own_any wz b hz)
  clear HQ2
  clear HK4 HV4 HF HKO
  go_quiet (fail)
  go_wp2_with (go_at_call 146; refine (HOw.out (w4.drewN nq) l1).mono ?_; rintro e w' ⟨⟨v, rfl⟩, rfl⟩)
  go_ret
  exact ⟨rfl, HL4.out.below (drewU (Below.refl _ _) nq), Fr.of_below (drewU HB4.out nq) (by omega)⟩
end
end Dp
end Go.Proofs.YtopmodahdmnpjaaGreatDoor
