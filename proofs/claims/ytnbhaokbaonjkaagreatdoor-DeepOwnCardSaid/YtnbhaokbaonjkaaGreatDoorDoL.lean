/- ostlerref08.Make: the walk. -/
import Derived.Test.YtnbhaokbaonjkaaGreatDoorDoK
import Derived.Test.YtnbhaokbaonjkaaGreatDoorDoJ
import Derived.Test.YtnbhaokbaonjkaaGreatDoorDpRb
namespace Go.Proofs.YtnbhaokbaonjkaaGreatDoor
open Go Go.RowKit
namespace Dp
open Go.Proofs.YtnbhaokbaonjkaaGreatDoor.Nm (normG keyV norm_any)
theorem rset_step {w : World} {B : Nat} (hBw : B ≤ w.heap.size) (w1 : World) (hb : Below B w w1) {base lb : Nat} {sv : Value} {ps : List PI} {nx : Int} (hL : RLst base w1 lb sv ps nx) (p : PI) (hk : In64 p.i) (hs : p.s.size ≤ 140737488351232)
    (hp : VAt w B p.gv p.val ∧ Fit p.gv ∧ Sml p.gv) (hv : ∀ q ∈ ps, Vok w B q) (hn : ps.length ≤ 2048) (hnx : In64 nx) :
    Calls Tryz.prog 21 #[.pointer (some ⟨lb, 0, none⟩), .agg #[.bool p.b, .int .i64 p.i, .string p.s], p.val] w1 fun e w2 => Below base w1 w2 ∧ ((setG (ps.map PI.it) nx p.it = none ∧ e = .returned (.int .i64 8)) ∨ ∃ ps' sv' nx', setG (ps.map PI.it) nx p.it = some (ps'.map PI.it, nx') ∧ e = .returned (.int .i64 0) ∧ RLst base w2 lb sv' ps' nx' ∧ (∀ q ∈ ps', Vok w B q) ∧ ps'.length ≤ 2048 ∧ In64 nx') := by
  have hKO := normG_key p.b p.i p.s hk hs
  have hset : setG (ps.map PI.it) nx p.it = if 0 ≤ findK (ps.map PI.key) (normG p.b p.i p.s) 0 then some ((ps.map PI.it).set (findK (ps.map PI.key) (normG p.b p.i p.s) 0).toNat (giOf (normG p.b p.i p.s) p.gv), nx) else if 2048 ≤ (ps.map PI.it).length then none else some (ps.map PI.it ++ [giOf (normG p.b p.i p.s) p.gv], nextK nx (normG p.b p.i p.s)) := by
    unfold setG
    rw [keys_of]
    rfl
  by_cases h : 0 ≤ findK (ps.map PI.key) (normG p.b p.i p.s) 0
  · obtain ⟨_, hat⟩ := findK_at (ps.map PI.key) (normG p.b p.i p.s) 0 (by omega) h
    rw [List.getElem?_map, Int.sub_zero] at hat
    obtain ⟨p0, hp0, hkey⟩ := Option.map_eq_some_iff.1 hat
    refine (rset_found hBw w1 hb hL p hk hs hv _ (Int.toNat_of_nonneg h).symm p0 hp0 hn).mono ?_
    rintro e w2 ⟨rfl, ⟨sv', hL2⟩, hb2⟩
    refine ⟨hb2, .inr ⟨_, sv', nx, ?_, rfl, hL2, fun q hq => ?_, by simpa using hn, hnx⟩⟩
    · rw [hset, if_pos h, keys_put hp0, hkey]
    · rcases List.mem_or_eq_of_mem_set hq with hq | rfl
      · exact hv q hq
      · exact ⟨by have := (hv p0 (List.mem_of_getElem? hp0)).1; exact this, hp⟩
  · rw [if_neg h] at hset
    by_cases h2 : 2048 ≤ ps.length
    · refine (rset_full hBw w1 hb hL p hk hs hv (by omega) h2 (by omega)).mono ?_
      rintro e w2 ⟨rfl, hb2⟩
      exact ⟨hb2, .inl ⟨by rw [hset, if_pos (by simpa using h2)], rfl⟩⟩
    · refine (rset_new hBw w1 hb hL p hk hs hv (by omega) (by omega) hnx).mono ?_
      rintro e w2 ⟨rfl, ⟨sv', hL2⟩, hb2⟩
      refine ⟨hb2, .inr ⟨_, sv', _, ?_, rfl, hL2, fun q hq => ?_, by simp; omega, nextK_in hnx hKO⟩⟩
      · rw [hset, if_neg (by simpa using h2), List.map_append]
        rfl
      · rcases List.mem_append.1 hq with hq | hq
        · exact hv q hq
        · have e : q = PI.key_ p (normG p.b p.i p.s) := by simpa using hq
          subst e
          exact ⟨hKO, hp⟩
/-- The same, by what the plain function says. -/
theorem rset_cases {w : World} {B : Nat} (hBw : B ≤ w.heap.size) (w1 : World) (hb : Below B w w1) {base lb : Nat} {sv : Value} {ps : List PI} {nx : Int} (hL : RLst base w1 lb sv ps nx) (p : PI) (hk : In64 p.i) (hs : p.s.size ≤ 140737488351232)
    (hp : VAt w B p.gv p.val ∧ Fit p.gv ∧ Sml p.gv) (hv : ∀ q ∈ ps, Vok w B q) (hn : ps.length ≤ 2048) (hnx : In64 nx) :
    (setG (ps.map PI.it) nx p.it = none → Calls Tryz.prog 21 #[.pointer (some ⟨lb, 0, none⟩), .agg #[.bool p.b, .int .i64 p.i, .string p.s], p.val] w1 fun e w2 => e = .returned (.int .i64 8) ∧ Below base w1 w2)
    ∧ (∀ q, setG (ps.map PI.it) nx p.it = some q → Calls Tryz.prog 21 #[.pointer (some ⟨lb, 0, none⟩), .agg #[.bool p.b, .int .i64 p.i, .string p.s], p.val] w1 fun e w2 => e = .returned (.int .i64 0) ∧ Below base w1 w2 ∧ ∃ ps' sv' nx', q = (ps'.map PI.it, nx') ∧ RLst base w2 lb sv' ps' nx' ∧ (∀ q ∈ ps', Vok w B q) ∧ ps'.length ≤ 2048 ∧ In64 nx') := by
  have h := rset_step hBw w1 hb hL p hk hs hp hv hn hnx
  refine ⟨fun hno => h.mono fun e w2 ⟨hb2, hc⟩ => ?_, fun q hq => h.mono fun e w2 ⟨hb2, hc⟩ => ?_⟩
  · rcases hc with ⟨_, rfl⟩ | ⟨ps', sv', nx', hs', _⟩
    · exact ⟨rfl, hb2⟩
    · rw [hno] at hs'
      cases hs'
  · rcases hc with ⟨hno, _⟩ | ⟨ps', sv', nx', hs', rfl, h1, h2, h3, h4⟩
    · rw [hq] at hno
      cases hno
    · rw [hq] at hs'
      injection hs' with hs'
      exact ⟨rfl, hb2, ps', sv', nx', hs', h1, h2, h3, h4⟩
def RMadeAt (w : World) (B : Nat) (w' w'' : World) (l : List GI) (e : Ending) : Prop := ∃ (k n : Int) (sv : Value) (ps : List PI) (err : Int), e = .returned (.tuple #[.agg #[.int .i64 k, .int .i64 n, .string ⟨#[]⟩, sv], .int .i64 err]) ∧ madeG l = (.mk k n ⟨#[]⟩ (ps.map PI.it), err) ∧ w''.ownsRow w'.heap.size 34 7 sv ps.length (rowC ps) ∧ (∀ q ∈ ps, VAt w B q.gv q.val) ∧ Below w'.heap.size w' w''
theorem own_mono {base base' : Nat} {w : World} {e : TypeId} {sz n : Nat} {sv : Value} {xs : List Value} (h : w.ownsRow base e sz sv n xs) (hb : base' ≤ base) : w.ownsRow base' e sz sv n xs :=
  ⟨h.1, by
    rcases h.2 with h0 | ⟨g, cap, cur, e, h1, r⟩
    · exact .inl h0
    · exact .inr ⟨g, cap, cur, e, Nat.le_trans hb h1, r⟩⟩
section
variable {w : World} {B : Nat}
set_option maxRecDepth 100000 in
set_option maxHeartbeats 4000000 in
theorem rmake_any (hBw : B ≤ w.heap.size) (l : List GI) (A : Option Addr) (c bb off : Nat) (C : Nat → Value) (hA : 0 < l.length → A = some ⟨bb, off, none⟩ ∧ bb < B)
    (hi : ∀ i it, l[i]? = some it → ItemAt w bb (off + i * 7) it (C i)) (hv : ∀ i it, l[i]? = some it → VAt w B it.val (C i)) (hF : ∀ (i : Nat) (it : GI), l[i]? = some it → In64 it.int ∧ it.text.size ≤ 140737488351232)
    (hft : ∀ (i : Nat) (it : GI), l[i]? = some it → Fit it.val) (hsm : ∀ (i : Nat) (it : GI), l[i]? = some it → Sml it.val) (hl : l.length * 88 ≤ 140737488351232) (w' : World) (hb : Below B w w') :
    Calls Tryz.prog 7 #[.slice A l.length c] w' fun e w'' => RMadeAt w B w' w'' l e := by
  have hB' : B ≤ w'.heap.size := Nat.le_trans hBw hb.size
  have HA := Lib.hid hA
  have HI := Lib.hid hi
  have HV := Lib.hid hv
  have HF := Lib.hid hF
  have HFt := Lib.hid hft
  have HSm := Lib.hid hsm
  have Hb := Lib.hid hb
  have hal := fun (w1 : World) (o : Obj) => (Below.refl w1.heap.size w1).alloc (Nat.le_refl _) o
  have hsz : (w'.alloc (.cells #[.int .i64 0, .int .i64 0, .string ⟨#[]⟩, .slice none 0 0] 24)).heap.size = w'.heap.size + 1 := by simp
  have HB0 := Lib.hid ((hal w' (.cells #[.int .i64 0, .int .i64 0, .string ⟨#[]⟩, .slice none 0 0] 24)).alloc (by simp) (.cells #[.slice none 0 0, .int .i64 0] 61))
  have HZ0 := Lib.hid (blk_below (Blk.new w' 24 #[.int .i64 0, .int .i64 0, .string ⟨#[]⟩, .slice none 0 0]) (hal _ (.cells #[.slice none 0 0, .int .i64 0] 61)))
  have hbl := Blk.new (w'.alloc (.cells #[.int .i64 0, .int .i64 0, .string ⟨#[]⟩, .slice none 0 0] 24)) 61 #[.slice none 0 0, .int .i64 0]
  rw [hsz] at hbl
  have HL0 : Hid (RLst (w'.heap.size + 1) ((w'.alloc (.cells #[.int .i64 0, .int .i64 0, .string ⟨#[]⟩, .slice none 0 0] 24)).alloc (.cells #[.slice none 0 0, .int .i64 0] 61)) (w'.heap.size + 1) (.slice none 0 0) [] 0) := ⟨hbl, World.ownsRow_nil _ _ _ _, Nat.le_refl _⟩
  have HG0 : Hid (makeG l [] 0 = makeG (l.drop 0) (([] : List PI).map PI.it) 0) := rfl
  clear hA hi hv hF hft hsm hb hal hbl hsz
  go_enter Tryz.func7, Tryz.ntmps7
  go_wp2_with fail
  go_loopw [5] (fun xi wx => ∃ (j : Nat) (ps : List PI) (sv : Value) (nx : Int), j ≤ l.length ∧ xi = .int .i64 j ∧ Hid (RLst (w'.heap.size + 1) wx (w'.heap.size + 1) sv ps nx) ∧ Hid (makeG l [] 0 = makeG (l.drop j) (ps.map PI.it) nx) ∧ Hid (∀ q ∈ ps, Vok w B q) ∧ ps.length ≤ 2048 ∧ Hid (In64 nx) ∧ Hid (Below w'.heap.size w' wx) ∧ Hid (Blk wx w'.heap.size 24 #[.int .i64 0, .int .i64 0, .string ⟨#[]⟩, .slice none 0 0])) (fun xi _ => l.length - (ixOf xi).toNat)
  case atStart => exact ⟨0, [], _, 0, Nat.zero_le _, rfl, HL0, HG0, fun q hq => (by cases hq), Nat.zero_le _, z64, HB0, HZ0⟩
  case round =>
    obtain ⟨j, ps, sv, nx, hj, rfl, HL, HG, HVk, hn, HX, HB, HZ⟩ := hrel
    clear HL0 HG0 HB0 HZ0
    by_cases hlt : j < l.length
    · obtain ⟨it, hit⟩ : ∃ it, l[j]? = some it := ⟨_, List.getElem?_eq_getElem hlt⟩
      obtain ⟨rfl, hbB⟩ := HA.out (by omega)
      have hbw : Below B w wr := Hb.out.trans (HB.out.mono hB')
      have hwr := HB.out.size
      have hia := (HI.out j it hit).below hbw hbB
      have hform := HV.out j it hit
      have hfit := HFt.out j it hit
      have hsml := HSm.out j it hit
      have hkey := HF.out j it hit
      have HGd := Lib.hid (HG.out.trans (makeG_drop l j it hit _ _))
      obtain ⟨ib, ii, is, iv⟩ := it
      obtain ⟨c0, c1, c2, v0, v1, v2, v3, e, c3', c4, c5, c6⟩ := hia
      rw [e] at hform
      simp only [GI.val, GI.isText, GI.int, GI.text] at hform hfit hsml hkey c0 c1 c2
      obtain ⟨k1, n1, t1, l1⟩ := iv
      obtain ⟨rfl, rfl, rfl, A1, e1, rfl⟩ := vat_form2 hform
      have HIt : Hid (∀ wz : World, Below B wr wz → wz.cell? ⟨bb, off + j * 7, none⟩ = some (.bool ib) ∧ wz.cell? ⟨bb, off + j * 7 + 1, none⟩ = some (.int .i64 ii) ∧ wz.cell? ⟨bb, off + j * 7 + 2, none⟩ = some (.string is) ∧ wz.cell? ⟨bb, off + j * 7 + 3, none⟩ = some (.int .i64 k1) ∧ wz.cell? ⟨bb, off + j * 7 + 4, none⟩ = some (.int .i64 n1) ∧ wz.cell? ⟨bb, off + j * 7 + 5, none⟩ = some (.string t1) ∧ wz.cell? ⟨bb, off + j * 7 + 6, none⟩ = some (.slice A1 l1.length e1)) := fun wz hz =>
        ⟨(hz.cell (p := ⟨bb, _, none⟩) hbB).trans c0, (hz.cell (p := ⟨bb, _, none⟩) hbB).trans c1, (hz.cell (p := ⟨bb, _, none⟩) hbB).trans c2, (hz.cell (p := ⟨bb, _, none⟩) hbB).trans c3', (hz.cell (p := ⟨bb, _, none⟩) hbB).trans c4, (hz.cell (p := ⟨bb, _, none⟩) hbB).trans c5, (hz.cell (p := ⟨bb, _, none⟩) hbB).trans c6⟩
      have hSt := rset_cases hBw wr.drew (drewU hbw 1) (HL.out.below (drewU (Below.refl _ _) 1)) ⟨ib, ii, is, k1, n1, t1, l1, A1, e1⟩ hkey.1 hkey.2 ⟨hform, hfit, hsml⟩ HVk.out hn HX.out
      have hIx : (j : Int) < (l.length : Int) := by omega
      have HL1 := Lib.hid (HL.out.below (drewU (Below.refl _ _) 1))
      have HZ1 := Lib.hid (HZ.out.drew)
      have HB1 := Lib.hid (drewU HB.out 1)
      have HBB : Hid (B ≤ w'.heap.size + 1) := Nat.le_succ_of_le hB'
      clear hform hfit hsml hkey hbw HL HG HVk HX HI HV HF HFt HSm e
      cases hset : setG (ps.map PI.it) nx (.mk ib ii is (.mk k1 n1 t1 l1)) with
      | none =>
        have HS := Lib.hid (hSt.1 hset)
        have HGn : Hid (makeG l [] 0 = none) := by
          show _ = _
          rw [HGd.out, hset]
        clear hSt HGd hset
        go_upto_region 5 with fail
        go_region_held3 (fun wz => wz.cell? ⟨bb, off + j * 7, none⟩ = some (.bool ib) ∧ wz.cell? ⟨bb, off + j * 7 + 1, none⟩ = some (.int .i64 ii) ∧ wz.cell? ⟨bb, off + j * 7 + 2, none⟩ = some (.string is) ∧ wz.cell? ⟨bb, off + j * 7 + 3, none⟩ = some (.int .i64 k1) ∧ wz.cell? ⟨bb, off + j * 7 + 4, none⟩ = some (.int .i64 n1) ∧ wz.cell? ⟨bb, off + j * 7 + 5, none⟩ = some (.string t1) ∧ wz.cell? ⟨bb, off + j * 7 + 6, none⟩ = some (.slice A1 l1.length e1)) (first | exact HIt.out _ (drewU (Below.refl _ _) 1) | exact HI2)
          (first | (go_at_call 21; refine HS.out.mono ?_; rintro e w2 ⟨rfl, hb2⟩; have HI2 := HIt.out w2 ((drewU (Below.refl B wr) 1).trans (hb2.mono HBB.out)); have HB2 := Lib.hid (HB1.out.trans (hb2.mono (Nat.le_succ _))); have HZ2 := Lib.hid (HZ1.out.below hb2 (Nat.lt_succ_self _)); clear hb2))
        clear HIt HI2
        have z0 : w2.cell? ⟨w'.heap.size, 0, none⟩ = some (.int .i64 0) := HZ2.out.cell 0
        have z1 : w2.cell? ⟨w'.heap.size, 1, none⟩ = some (.int .i64 0) := HZ2.out.cell 1
        have z2 : w2.cell? ⟨w'.heap.size, 2, none⟩ = some (.string ⟨#[]⟩) := HZ2.out.cell 2
        have z3 : w2.cell? ⟨w'.heap.size, 3, none⟩ = some (.slice none 0 0) := HZ2.out.cell 3
        have zf0 := HZ2.out.frozen 0
        have zf1 := HZ2.out.frozen 1
        have zf2 := HZ2.out.frozen 2
        have zf3 := HZ2.out.frozen 3
        go_wp2_with fail
        have HS4 := Lib.hid (store4 HZ2.out (.int .i64 0) (.int .i64 0) (.string ⟨#[]⟩) (.slice none 0 0))
        generalize (((w2.setCell ⟨w'.heap.size, 0, none⟩ (.int .i64 0)).setCell ⟨w'.heap.size, 1, none⟩ (.int .i64 0)).setCell ⟨w'.heap.size, 2, none⟩ (.string ⟨#[]⟩)).setCell ⟨w'.heap.size, 3, none⟩ (.slice none 0 0) = wf at *
        have e0 : wf.cell? ⟨w'.heap.size, 0, none⟩ = some (.int .i64 0) := HS4.out.1.cell 0
        have e1 : wf.cell? ⟨w'.heap.size, 1, none⟩ = some (.int .i64 0) := HS4.out.1.cell 1
        have e2 : wf.cell? ⟨w'.heap.size, 2, none⟩ = some (.string ⟨#[]⟩) := HS4.out.1.cell 2
        have e3 : wf.cell? ⟨w'.heap.size, 3, none⟩ = some (.slice none 0 0) := HS4.out.1.cell 3
        refine bodyPost_ret (v := .tuple #[.agg #[.int .i64 0, .int .i64 0, .string ⟨#[]⟩, .slice none 0 0], .int .i64 1]) (by simp [results, Tryz.results7, go_sem, e0, e1, e2, e3]) rfl ?_
        refine ⟨0, 0, .slice none 0 0, [], 1, rfl, ?_, World.ownsRow_nil _ _ _ _, (fun q hq => by cases hq), HB2.out.trans (HS4.out.2.below HB2.out.size (fun j e => by rw [e]; exact Nat.le_refl _))⟩
        unfold madeG
        rw [HGn.out]
        rfl
      | some q =>
        have HS := Lib.hid (hSt.2 q hset)
        have HG2 : Hid (makeG l [] 0 = makeG (l.drop (j + 1)) q.1 q.2) := by
          show _ = _
          rw [HGd.out, hset]
        clear hSt HGd hset
        go_upto_region 5 with fail
        go_region_held3 (fun wz => wz.cell? ⟨bb, off + j * 7, none⟩ = some (.bool ib) ∧ wz.cell? ⟨bb, off + j * 7 + 1, none⟩ = some (.int .i64 ii) ∧ wz.cell? ⟨bb, off + j * 7 + 2, none⟩ = some (.string is) ∧ wz.cell? ⟨bb, off + j * 7 + 3, none⟩ = some (.int .i64 k1) ∧ wz.cell? ⟨bb, off + j * 7 + 4, none⟩ = some (.int .i64 n1) ∧ wz.cell? ⟨bb, off + j * 7 + 5, none⟩ = some (.string t1) ∧ wz.cell? ⟨bb, off + j * 7 + 6, none⟩ = some (.slice A1 l1.length e1)) (first | exact HIt.out _ (drewU (Below.refl _ _) 1) | exact HI2)
          (first | (go_at_call 21; refine HS.out.mono ?_; rintro e w2 ⟨rfl, hb2, ps', sv', nx', rfl, hL2, hv2, hn2, hx2⟩; have HI2 := HIt.out w2 ((drewU (Below.refl B wr) 1).trans (hb2.mono HBB.out)); have HB2 := Lib.hid (HB1.out.trans (hb2.mono (Nat.le_succ _))); have HZ2 := Lib.hid (HZ1.out.below hb2 (Nat.lt_succ_self _)); have HL2 := Lib.hid hL2; have HV2 := Lib.hid hv2; have HX2 := Lib.hid hx2; clear hb2 hL2 hv2 hx2))
        clear HIt HI2
        go_wp2_with fail
        go_roundw
        case rel => exact ⟨j + 1, ps', sv', nx', by omega, by go_num, HL2, HG2, HV2, hn2, HX2, HB2, HZ2⟩
        case measure => simp [ixOf] <;> omega
    · obtain rfl : j = l.length := by omega
      have HGe : Hid (makeG l [] 0 = some (ps.map PI.it, nx)) := by
        show _ = _
        rw [HG.out, List.drop_length, makeG]
      obtain ⟨A4, c4, rfl⟩ := HL.out.form
      have hwr := HB.out.size
      have hbv := (Below.refl wr.heap.size wr).alloc (Nat.le_refl _) (.cells #[.int .i64 4, .int .i64 nx, .string ⟨#[]⟩, .slice A4 ps.length c4] 24)
      have HBv := Lib.hid (HB.out.trans (hbv.mono hwr))
      have HZv := Lib.hid (blk_below HZ.out hbv)
      have HOv := Lib.hid (own_below HL.out.owns hbv)
      have HVv := Lib.hid (Blk.new wr 24 #[.int .i64 4, .int .i64 nx, .string ⟨#[]⟩, .slice A4 ps.length c4])
      have hbw : Below B w wr := Hb.out.trans (HB.out.mono hB')
      have hVat : VAt wr wr.heap.size (.mk 4 nx ⟨#[]⟩ (ps.map PI.it)) (.agg #[.int .i64 4, .int .i64 nx, .string ⟨#[]⟩, .slice A4 ps.length c4]) := (vin_row (S := fun b => b < wr.heap.size) HL.out.owns (fun b _ h2 => h2) (fun p hp => (VIn.of (HVk.out p hp).2.1).keep (fun b hb' => Nat.lt_of_lt_of_le hb' (Nat.le_trans hB' hwr)) fun q hq => hbw.cell hq) 4 nx ⟨#[]⟩).at_ (fun b _ h => h) (fun b h => h)
      have hFq : Fit (.mk 4 nx ⟨#[]⟩ (ps.map PI.it)) := by
        refine Fit.mk _ _ _ _ ⟨by decide, by decide⟩ HX.out (Nat.zero_le _) (fun i it hit => ?_) (fun i it hit => ?_)
        · rw [List.getElem?_map] at hit
          obtain ⟨p, hp, rfl⟩ := Option.map_eq_some_iff.1 hit
          exact (HVk.out p (List.mem_of_getElem? hp)).1
        · rw [List.getElem?_map] at hit
          obtain ⟨p, hp, rfl⟩ := Option.map_eq_some_iff.1 hit
          exact (HVk.out p (List.mem_of_getElem? hp)).2.2.1
      have hRt := rright_any (Nat.le_refl _) hVat hFq (wr.alloc (.cells #[.int .i64 4, .int .i64 nx, .string ⟨#[]⟩, .slice A4 ps.length c4] 24)) hbv
      have l0 : wr.cell? ⟨w'.heap.size + 1, 0, none⟩ = some (.slice A4 ps.length c4) := HL.out.blk.cell 0
      have l1 : wr.cell? ⟨w'.heap.size + 1, 1, none⟩ = some (.int .i64 nx) := HL.out.blk.cell 1
      have HVl := Lib.hid (fun q hq => (HVk.out q hq).2.1)
      clear hVat hFq HVk HG HL HZ HB HI HV HF HFt HSm HA hbv hbw HX
      cases hrt : rightB (.mk 4 nx ⟨#[]⟩ (ps.map PI.it)) with
      | true =>
        rw [hrt] at hRt
        have HRt := Lib.hid hRt
        clear hRt
        go_wp2_with (go_at_call 22; refine HRt.out.mono ?_; rintro e w3 ⟨rfl, hb3⟩; have HB3 := Lib.hid (HBv.out.trans (hb3.mono HBv.out.size)); have HZ3 := Lib.hid (blk_below HZv.out hb3); have HO3 := Lib.hid (own_below HOv.out hb3); have z0 : w3.cell? ⟨w'.heap.size, 0, none⟩ = some (.int .i64 0) := HZ3.out.cell 0; have z1 : w3.cell? ⟨w'.heap.size, 1, none⟩ = some (.int .i64 0) := HZ3.out.cell 1; have z2 : w3.cell? ⟨w'.heap.size, 2, none⟩ = some (.string ⟨#[]⟩) := HZ3.out.cell 2; have z3 : w3.cell? ⟨w'.heap.size, 3, none⟩ = some (.slice none 0 0) := HZ3.out.cell 3; have zf0 := HZ3.out.frozen 0; have zf1 := HZ3.out.frozen 1; have zf2 := HZ3.out.frozen 2; have zf3 := HZ3.out.frozen 3; have HV3 := blk_below HVv.out hb3; have y0 : w3.cell? ⟨wr.heap.size, 0, none⟩ = some (.int .i64 4) := HV3.cell 0; have y1 : w3.cell? ⟨wr.heap.size, 1, none⟩ = some (.int .i64 nx) := HV3.cell 1; have y2 : w3.cell? ⟨wr.heap.size, 2, none⟩ = some (.string ⟨#[]⟩) := HV3.cell 2; have y3 : w3.cell? ⟨wr.heap.size, 3, none⟩ = some (.slice A4 ps.length c4) := HV3.cell 3; clear hb3 HV3)
        have HS4 := Lib.hid (store4 HZ3.out (.int .i64 4) (.int .i64 nx) (.string ⟨#[]⟩) (.slice A4 ps.length c4))
        generalize (((w3.setCell ⟨w'.heap.size, 0, none⟩ (.int .i64 4)).setCell ⟨w'.heap.size, 1, none⟩ (.int .i64 nx)).setCell ⟨w'.heap.size, 2, none⟩ (.string ⟨#[]⟩)).setCell ⟨w'.heap.size, 3, none⟩ (.slice A4 ps.length c4) = wf at *
        have e0 : wf.cell? ⟨w'.heap.size, 0, none⟩ = some (.int .i64 4) := HS4.out.1.cell 0
        have e1 : wf.cell? ⟨w'.heap.size, 1, none⟩ = some (.int .i64 nx) := HS4.out.1.cell 1
        have e2 : wf.cell? ⟨w'.heap.size, 2, none⟩ = some (.string ⟨#[]⟩) := HS4.out.1.cell 2
        have e3 : wf.cell? ⟨w'.heap.size, 3, none⟩ = some (.slice A4 ps.length c4) := HS4.out.1.cell 3
        refine bodyPost_ret (v := .tuple #[.agg #[.int .i64 4, .int .i64 nx, .string ⟨#[]⟩, .slice A4 ps.length c4], .int .i64 0]) (by simp [results, Tryz.results7, go_sem, e0, e1, e2, e3]) rfl ?_
        refine ⟨4, nx, .slice A4 ps.length c4, ps, 0, rfl, ?_, ?_, HVl.out, HB3.out.trans (HS4.out.2.below HB3.out.size (fun j e => by rw [e]; exact Nat.le_refl _))⟩
        · unfold madeG
          rw [HGe.out]
          simp only
          rw [if_pos hrt]
        · exact own_mono (own_keeps HO3.out HS4.out.2 (fun e => by have := (HO3.out.lt _ e.symm).1; omega)) (Nat.le_succ _)
      | false =>
        rw [hrt] at hRt
        have HRt := Lib.hid hRt
        clear hRt
        go_wp2_with (go_at_call 22; refine HRt.out.mono ?_; rintro e w3 ⟨rfl, hb3⟩; have HB3 := Lib.hid (HBv.out.trans (hb3.mono HBv.out.size)); have HZ3 := Lib.hid (blk_below HZv.out hb3); have HO3 := Lib.hid (own_below HOv.out hb3); have z0 : w3.cell? ⟨w'.heap.size, 0, none⟩ = some (.int .i64 0) := HZ3.out.cell 0; have z1 : w3.cell? ⟨w'.heap.size, 1, none⟩ = some (.int .i64 0) := HZ3.out.cell 1; have z2 : w3.cell? ⟨w'.heap.size, 2, none⟩ = some (.string ⟨#[]⟩) := HZ3.out.cell 2; have z3 : w3.cell? ⟨w'.heap.size, 3, none⟩ = some (.slice none 0 0) := HZ3.out.cell 3; have zf0 := HZ3.out.frozen 0; have zf1 := HZ3.out.frozen 1; have zf2 := HZ3.out.frozen 2; have zf3 := HZ3.out.frozen 3; have HV3 := blk_below HVv.out hb3; have y0 : w3.cell? ⟨wr.heap.size, 0, none⟩ = some (.int .i64 4) := HV3.cell 0; have y1 : w3.cell? ⟨wr.heap.size, 1, none⟩ = some (.int .i64 nx) := HV3.cell 1; have y2 : w3.cell? ⟨wr.heap.size, 2, none⟩ = some (.string ⟨#[]⟩) := HV3.cell 2; have y3 : w3.cell? ⟨wr.heap.size, 3, none⟩ = some (.slice A4 ps.length c4) := HV3.cell 3; clear hb3 HV3)
        have HS4 := Lib.hid (store4 HZ3.out (.int .i64 0) (.int .i64 0) (.string ⟨#[]⟩) (.slice none 0 0))
        generalize (((w3.setCell ⟨w'.heap.size, 0, none⟩ (.int .i64 0)).setCell ⟨w'.heap.size, 1, none⟩ (.int .i64 0)).setCell ⟨w'.heap.size, 2, none⟩ (.string ⟨#[]⟩)).setCell ⟨w'.heap.size, 3, none⟩ (.slice none 0 0) = wf at *
        have e0 : wf.cell? ⟨w'.heap.size, 0, none⟩ = some (.int .i64 0) := HS4.out.1.cell 0
        have e1 : wf.cell? ⟨w'.heap.size, 1, none⟩ = some (.int .i64 0) := HS4.out.1.cell 1
        have e2 : wf.cell? ⟨w'.heap.size, 2, none⟩ = some (.string ⟨#[]⟩) := HS4.out.1.cell 2
        have e3 : wf.cell? ⟨w'.heap.size, 3, none⟩ = some (.slice none 0 0) := HS4.out.1.cell 3
        refine bodyPost_ret (v := .tuple #[.agg #[.int .i64 0, .int .i64 0, .string ⟨#[]⟩, .slice none 0 0], .int .i64 1]) (by simp [results, Tryz.results7, go_sem, e0, e1, e2, e3]) rfl ?_
        refine ⟨0, 0, .slice none 0 0, [], 1, rfl, ?_, World.ownsRow_nil _ _ _ _, (fun q hq => by cases hq), HB3.out.trans (HS4.out.2.below HB3.out.size (fun j e => by rw [e]; exact Nat.le_refl _))⟩
        unfold madeG
        rw [HGe.out]
        simp only
        rw [if_neg (by rw [hrt]; decide)]
        rfl
      
end
end Dp
end Go.Proofs.YtnbhaokbaonjkaaGreatDoor
