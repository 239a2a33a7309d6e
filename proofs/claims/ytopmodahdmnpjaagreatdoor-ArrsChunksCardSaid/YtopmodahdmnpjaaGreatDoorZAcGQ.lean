/- arrs.vals, arrs.merge of two lists: the walks. -/
import Derived.Test.YtopmodahdmnpjaaGreatDoorZAcAQ
import Derived.Test.YtopmodahdmnpjaaGreatDoorZAsU
import Derived.Test.YtopmodahdmnpjaaGreatDoorZMyJQ
namespace Go.Proofs.YtopmodahdmnpjaaGreatDoor
open Go Go.RowKit
namespace Dp
/-- A list as an argument: its items, and that none has a text for a key. -/
structure LArg (w : World) (B : Nat) (l : List GI) (A : Option Addr) : Prop where
  ex : ∃ (bb off : Nat) (C : Nat → Value), (0 < l.length → A = some ⟨bb, off, none⟩ ∧ bb < B) ∧ (∀ i it, l[i]? = some it → ItemAt w bb (off + i * 7) it (C i)) ∧ (∀ i it, l[i]? = some it → VAt w B it.val (C i))
  fit : ∀ (i : Nat) (it : GI), l[i]? = some it → Fit it.val
  sml : ∀ (i : Nat) (it : GI), l[i]? = some it → Sml it.val
  nt : ∀ (i : Nat) (it : GI), l[i]? = some it → it.isText = false
def cat (ls : Nat → List GI) : Nat → List GI
  | 0 => []
  | i + 1 => cat ls i ++ ls i
section
variable {w : World} {B : Nat}
set_option maxRecDepth 100000 in
set_option maxHeartbeats 4000000 in
theorem rvals_any (hBw : B ≤ w.heap.size) (hLib : ∀ wz, Below B w wz → LibS wz) (l : List GI) (A : Option Addr) (c bb off : Nat) (C : Nat → Value) (hA : 0 < l.length → A = some ⟨bb, off, none⟩ ∧ bb < B)
    (hi : ∀ i it, l[i]? = some it → ItemAt w bb (off + i * 7) it (C i)) (hv : ∀ i it, l[i]? = some it → VAt w B it.val (C i))
    (hft : ∀ (i : Nat) (it : GI), l[i]? = some it → Fit it.val) (hsm : ∀ (i : Nat) (it : GI), l[i]? = some it → Sml it.val) (hl : l.length ≤ 2048) (w' : World) (hb : Below B w w')
    (g ac : Nat) (k0 n0 : Int) (t0 : ByteArray) (hg : g < w'.heap.size) (h0 : w'.cell? ⟨g, 0, none⟩ = some (.int .i64 k0)) (h1 : w'.cell? ⟨g, 1, none⟩ = some (.int .i64 n0)) (h2 : w'.cell? ⟨g, 2, none⟩ = some (.string t0)) (h3 : w'.cell? ⟨g, 3, none⟩ = some (.slice A l.length c)) :
    Calls Tryz.prog 23 #[.slice (some ⟨g, 0, none⟩) 1 ac] w' fun e w2 => ∃ sv2 ps, e = .returned (.tuple #[.agg #[.int .i64 4, .int .i64 l.length, .string ⟨#[]⟩, sv2], .int .i64 0]) ∧ ps.map PI.it = renum l 0 ∧
      w2.ownsRow w'.heap.size 34 7 sv2 ps.length (rowC ps) ∧ (∀ q ∈ ps, Vok w B q) ∧ Below w'.heap.size w' w2 := by
  have HB1 := Lib.hid ((Below.refl w'.heap.size w').alloc (Nat.le_refl _) (.cells #[.int .i64 0, .int .i64 0, .string ⟨#[]⟩, .slice none 0 0] 24))
  have HZ1 := Lib.hid (Blk.new w' 24 #[.int .i64 0, .int .i64 0, .string ⟨#[]⟩, .slice none 0 0])
  have HCell := Lib.hid (fun (wz : World) (hz : Below w'.heap.size w' wz) (r : Nat) (u : Value) (h : w'.cell? ⟨g, r, none⟩ = some u) => ((hz.cell (p := ⟨g, r, none⟩) hg).trans h))
  have HC0 := Lib.hid (And.intro h0 (And.intro h1 (And.intro h2 h3)))
  have hB' : B ≤ w'.heap.size := Nat.le_trans hBw hb.size
  have HE := Lib.hid (fun wz (hz : Below w'.heap.size w' wz) => every_app hBw l A c bb off C hA hi hv hft hsm hl 89 #[] (clos_vals hLib) (fun args w => enter_ofD Tryz.func89 (by kernel_rfl) rfl args w) wz (hb.trans (hz.mono hB')))
  clear h0 h1 h2 h3 hA hi hv hft hsm hLib
  go_enter Tryz.func23, Tryz.ntmps23
  go_upto_region 1 with fail
  generalize w'.alloc (.cells #[.int .i64 0, .int .i64 0, .string ⟨#[]⟩, .slice none 0 0] 24) = w1 at *
  go_wp2_with (first
    | (go_at_call 21; refine (items_at w1 g ac 1 0 (by decide) A l.length c k0 n0 t0 (HCell.out _ HB1.out 0 _ HC0.out.1) (HCell.out _ HB1.out 1 _ HC0.out.2.1) (HCell.out _ HB1.out 2 _ HC0.out.2.2.1) (HCell.out _ HB1.out 3 _ HC0.out.2.2.2)).mono ?_; rintro e w2 ⟨rfl, hb2⟩; have HB2 := Lib.hid (HB1.out.trans (hb2.mono HB1.out.size)); have HZ2 := Lib.hid (blk_below HZ1.out hb2); clear hb2)
    | (go_at_call 85; refine (HE.out w2 HB2.out).mono ?_; rintro e w4 ⟨sv2, ps, rfl, hps, ho, hv, hb4⟩; have HO := Lib.hid ho; have HPs := Lib.hid hps; have HVk := Lib.hid hv; have HZ4 := Lib.hid (blk_below HZ2.out hb4); have HB4 := Lib.hid (HB2.out.trans (hb4.mono HB2.out.size)); have HS2 := Lib.hid HB2.out.size; clear ho hps hv hb4; have z0 : w4.cell? ⟨w'.heap.size, 0, none⟩ = some (.int .i64 0) := HZ4.out.cell 0; have z1 : w4.cell? ⟨w'.heap.size, 1, none⟩ = some (.int .i64 0) := HZ4.out.cell 1; have z2 : w4.cell? ⟨w'.heap.size, 2, none⟩ = some (.string ⟨#[]⟩) := HZ4.out.cell 2; have z3 : w4.cell? ⟨w'.heap.size, 3, none⟩ = some (.slice none 0 0) := HZ4.out.cell 3; have zf0 := HZ4.out.frozen 0; have zf1 := HZ4.out.frozen 1; have zf2 := HZ4.out.frozen 2; have zf3 := HZ4.out.frozen 3; obtain ⟨A4, c4, rfl⟩ := own_form0 HO.out))
  have HS4 := Lib.hid (store4 HZ4.out (.int .i64 4) (.int .i64 l.length) (.string ⟨#[]⟩) (.slice A4 ps.length c4))
  have hOf := own_keeps HO.out HS4.out.2 (fun e => by have := (HO.out.lt _ e.symm).1; have := HZ2.out.lt; omega)
  have hBf := HB4.out.trans (HS4.out.2.below HB4.out.size (fun j e => by omega))
  generalize (((w4.setCell ⟨w'.heap.size, 0, none⟩ (.int .i64 4)).setCell ⟨w'.heap.size, 1, none⟩ (.int .i64 l.length)).setCell ⟨w'.heap.size, 2, none⟩ (.string ⟨#[]⟩)).setCell ⟨w'.heap.size, 3, none⟩ (.slice A4 ps.length c4) = wf at *
  have e0 : wf.cell? ⟨w'.heap.size, 0, none⟩ = some (.int .i64 4) := HS4.out.1.cell 0
  have e1 : wf.cell? ⟨w'.heap.size, 1, none⟩ = some (.int .i64 l.length) := HS4.out.1.cell 1
  have e2 : wf.cell? ⟨w'.heap.size, 2, none⟩ = some (.string ⟨#[]⟩) := HS4.out.1.cell 2
  have e3 : wf.cell? ⟨w'.heap.size, 3, none⟩ = some (.slice A4 ps.length c4) := HS4.out.1.cell 3
  refine bodyPost_ret (v := .tuple #[.agg #[.int .i64 4, .int .i64 l.length, .string ⟨#[]⟩, .slice A4 ps.length c4], .int .i64 0]) (by simp [results, Tryz.results23, go_sem, e0, e1, e2, e3]) rfl ?_
  exact ⟨_, ps, rfl, HPs.out, own_le2 hOf HS2.out, HVk.out, hBf⟩
set_option maxRecDepth 100000 in
set_option maxHeartbeats 8000000 in
theorem rmerge_any (hBw : B ≤ w.heap.size) (hLib : ∀ wz, Below B w wz → LibS wz) (ls : Nat → List GI) (As : Nat → Option Addr) (cs : Nat → Nat) (hls : ∀ i, i < 2 → LArg w B (ls i) (As i)) (hl : (cat ls 2).length ≤ 2048) (w' : World) (hb : Below B w w')
    (g ac : Nat) (ks ns : Nat → Int) (ts : Nat → ByteArray) (hg : g < w'.heap.size) (hc : ∀ i, i < 2 → w'.cell? ⟨g, i * 4, none⟩ = some (.int .i64 (ks i)) ∧ w'.cell? ⟨g, i * 4 + 1, none⟩ = some (.int .i64 (ns i)) ∧ w'.cell? ⟨g, i * 4 + 2, none⟩ = some (.string (ts i)) ∧ w'.cell? ⟨g, i * 4 + 3, none⟩ = some (.slice (As i) (ls i).length (cs i))) :
    Calls Tryz.prog 24 #[.slice (some ⟨g, 0, none⟩) 2 ac] w' fun e w2 => ∃ sv2 ps, e = .returned (.tuple #[.agg #[.int .i64 4, .int .i64 (cat ls 2).length, .string ⟨#[]⟩, sv2], .int .i64 0]) ∧ ps.map PI.it = renum (cat ls 2) 0 ∧
      w2.ownsRow w'.heap.size 34 7 sv2 ps.length (rowC ps) ∧ (∀ q ∈ ps, Vok w B q) ∧ Below w'.heap.size w' w2 := by
  have hB' : B ≤ w'.heap.size := Nat.le_trans hBw hb.size
  have HLs := Lib.hid hls
  have HLi := Lib.hid hLib
  have Hb := Lib.hid hb
  have HCell := Lib.hid (fun (wz : World) (hz : Below w'.heap.size w' wz) (r : Nat) (u : Value) (h : w'.cell? ⟨g, r, none⟩ = some u) => ((hz.cell (p := ⟨g, r, none⟩) hg).trans h))
  have HCs := Lib.hid hc
  have hal := fun (w1 : World) (o : Obj) => (Below.refl w1.heap.size w1).alloc (Nat.le_refl _) o
  have HAL := Lib.hid hal
  have HBa := Lib.hid (hal w' (.cells #[.int .i64 0, .int .i64 0, .string ⟨#[]⟩, .slice none 0 0] 24))
  have HZa := Lib.hid (Blk.new w' 24 #[.int .i64 0, .int .i64 0, .string ⟨#[]⟩, .slice none 0 0])
  have hsz : (w'.alloc (.cells #[.int .i64 0, .int .i64 0, .string ⟨#[]⟩, .slice none 0 0] 24)).heap.size = w'.heap.size + 1 := by simp
  have hN := new_any (w'.alloc (.cells #[.int .i64 0, .int .i64 0, .string ⟨#[]⟩, .slice none 0 0] 24))
  rw [hsz] at hN
  have HN := Lib.hid hN
  have hcl : ∀ i, i ≤ 2 → (cat ls i).length ≤ 2048 := fun i hi => by
    have h2 : (cat ls 2).length = (ls 0).length + (ls 1).length := by simp [cat]
    match i, hi with
    | 0, _ => exact Nat.zero_le _
    | 1, _ => simp only [cat, List.nil_append]; omega
    | 2, _ => exact hl
  have HCl := Lib.hid hcl
  clear hls hLib hb hal hN hc hcl
  go_enter Tryz.func24, Tryz.ntmps24
  go_upto_region 2 with (go_at_call 90; refine HN.out.mono ?_; rintro e w2 ⟨rfl, hL2, hb2⟩)
  have HL2 := Lib.hid hL2
  have HB2 := Lib.hid (HBa.out.trans (hb2.mono (Nat.le_succ _)))
  have HZ2 := Lib.hid (HZa.out.below hb2 (Nat.lt_succ_self _))
  clear hL2 hb2 HN HBa HZa
  go_wp2_with fail
  go_loopw [12] (fun xi wx => ∃ (i : Nat) (ps : List PI) (sv : Value), i ≤ 2 ∧ xi = .int .i64 i ∧ Hid (LstAt (w'.heap.size + 1) wx (w'.heap.size + 1 + 1) (w'.heap.size + 1) false sv ps (cat ls i).length) ∧ Hid (ps.map PI.it = renum (cat ls i) 0) ∧ Hid (∀ q ∈ ps, Vok w B q) ∧ Hid (Below w'.heap.size w' wx) ∧ Hid (Blk wx w'.heap.size 24 #[.int .i64 0, .int .i64 0, .string ⟨#[]⟩, .slice none 0 0])) (fun xi _ => 2 - (ixOf xi).toNat)
  case atStart => exact ⟨0, [], _, by omega, rfl, HL2, rfl, fun q hq => (by cases hq), HB2, HZ2⟩
  case round =>
    obtain ⟨i, ps, sv, hi, rfl, HL, HG, HVk, HB, HZ⟩ := hrel
    clear HL2 HB2 HZ2
    by_cases hi2 : i < 2
    · have hI2 : (i : Int) < 2 := by omega
      obtain ⟨q0, q1, q2, q3⟩ := HCs.out i hi2
      have HIt := Lib.hid (items_at wr g ac 2 i hi2 (As i) (ls i).length (cs i) (ks i) (ns i) (ts i) (HCell.out _ HB.out _ _ q0) (HCell.out _ HB.out _ _ q1) (HCell.out _ HB.out _ _ q2) (HCell.out _ HB.out _ _ q3))
      clear q0 q1 q2 q3
      have hwr0 := HB.out.size
      have HF := Lib.hid (HLs.out i hi2)
      go_wp2_with (go_at_call 21; refine HIt.out.mono ?_; rintro e wt ⟨rfl, hbt⟩; have HLt := Lib.hid (HL.out.below hbt); have HBt := Lib.hid (HB.out.trans (hbt.mono hwr0)); have HZt := Lib.hid (blk_below HZ.out hbt); clear hbt)
      have HGt : Hid (ps.map PI.it = renum (cat ls i ++ (ls i).take 0) 0) := by
        show _ = _
        rw [List.take_zero, List.append_nil]
        exact HG.out
      clear HL HB HZ HG HIt
      go_loopw [19] (fun xj wx => ∃ (j : Nat) (ps : List PI) (sv : Value), j ≤ (ls i).length ∧ xj = .int .i64 j ∧ Hid (LstAt (w'.heap.size + 1) wx (w'.heap.size + 1 + 1) (w'.heap.size + 1) false sv ps ((cat ls i).length + j : Nat)) ∧ Hid (ps.map PI.it = renum (cat ls i ++ (ls i).take j) 0) ∧ Hid (∀ q ∈ ps, Vok w B q) ∧ Hid (Below w'.heap.size w' wx) ∧ Hid (Blk wx w'.heap.size 24 #[.int .i64 0, .int .i64 0, .string ⟨#[]⟩, .slice none 0 0])) (fun xj _ => (ls i).length - (ixOf xj).toNat)
      case atStart => exact ⟨0, ps, sv, Nat.zero_le _, rfl, HLt, HGt, HVk, HBt, HZt⟩
      case round =>
        clear HLt HGt HVk HBt HZt ps sv
        obtain ⟨j, ps, sv, hj, rfl, HL, HG, HVk, HB, HZ⟩ := hrel
        have hpl : ps.length = (cat ls i).length + j := by
          have h1 := congrArg List.length HG.out
          rw [List.length_map, renum_len, List.length_append, List.length_take, Nat.min_eq_left hj] at h1
          exact h1
        have hci := HCl.out i hi
        have hci1 : (cat ls i).length + (ls i).length ≤ 2048 := by
          have := HCl.out (i + 1) (by omega)
          rwa [cat, List.length_append] at this
        by_cases hlt : j < (ls i).length
        · obtain ⟨it, hit⟩ : ∃ it, (ls i)[j]? = some it := ⟨_, List.getElem?_eq_getElem hlt⟩
          obtain ⟨bb, off, C, hA, hIt, hVt⟩ := HF.out.ex
          obtain ⟨hAi, hbB⟩ := hA (by omega)
          have hbw : Below B w wr := Hb.out.trans (HB.out.mono hB')
          have hwr := HB.out.size
          obtain ⟨c0, c1, c2, v0, v1, v2, v3, e, c3', c4, c5, c6⟩ := (hIt j it hit).below hbw hbB
          have hform := hVt j it hit
          have hfit := HF.out.fit j it hit
          have hsml := HF.out.sml j it hit
          have hnt := HF.out.nt j it hit
          rw [e] at hform
          obtain ⟨ib, ii, is, iv⟩ := it
          simp only [GI.val, GI.isText, GI.int, GI.text] at hform hfit hsml hnt c0 c1 c2
          subst hnt
          obtain ⟨k1, n1, t1, l1⟩ := iv
          obtain ⟨rfl, rfl, rfl, A1, e1, rfl⟩ := vat_form2 hform
          have hln : (cat ls i ++ (ls i).take j).length = (cat ls i).length + j := by rw [List.length_append, List.length_take, Nat.min_eq_left hj]
          have hset := set_renum (cat ls i ++ (ls i).take j) (.mk k1 n1 t1 l1) (by omega)
          rw [hln, ← HG.out] at hset
          have HSet := Lib.hid hset
          have hren : renum (cat ls i ++ (ls i).take j ++ [.mk false 0 ⟨#[]⟩ (.mk k1 n1 t1 l1)]) 0 = renum (cat ls i ++ (ls i).take (j + 1)) 0 := by
            rw [List.take_add_one, hit, ← List.append_assoc, renum_app, renum_app _ (Option.toList _)]
            rfl
          have HRen := Lib.hid hren
          have hjI : In64 (((cat ls i).length + j : Nat) : Int) := ⟨by omega, by omega⟩
          have HSt := Lib.hid (fun wi hz hL => put_app HLi.out wi hz (Nat.le_trans hBw hz.size) (w'.heap.size + 1) (w'.heap.size + 1 + 1) (w'.heap.size + 1) sv ps (((cat ls i).length + j : Nat) : Int) hL HVk.out (by omega) hjI (by omega) ii is k1 n1 t1 l1 A1 e1 ⟨hform, hfit, hsml⟩)
          have hbi := HAL.out wr (.cells #[.bool false, .int .i64 ii, .string is, .int .i64 k1, .int .i64 n1, .string t1, .slice A1 l1.length e1] 34)
          have Hbwi := Lib.hid (hbw.alloc (Nat.le_trans hB' hwr) (.cells #[.bool false, .int .i64 ii, .string is, .int .i64 k1, .int .i64 n1, .string t1, .slice A1 l1.length e1] 34))
          have HLi2 := Lib.hid (HL.out.below hbi)
          have HBi := Lib.hid (HB.out.trans (hbi.mono hwr))
          have HZi := Lib.hid (blk_below HZ.out hbi)
          have HIi := Lib.hid (Blk.new wr 34 #[.bool false, .int .i64 ii, .string is, .int .i64 k1, .int .i64 n1, .string t1, .slice A1 l1.length e1])
          have HIz := Blk.new wr 34 #[.bool false, .int .i64 0, .string ⟨#[]⟩, .int .i64 0, .int .i64 0, .string ⟨#[]⟩, .slice none 0 0]
          have zf0 := HIz.frozen 0
          have zf1 := HIz.frozen 1
          have zf2 := HIz.frozen 2
          have zf3 := HIz.frozen 3
          have zf4 := HIz.frozen 4
          have zf5 := HIz.frozen 5
          have zf6 := HIz.frozen 6
          have hIx : (j : Int) < ((ls i).length : Int) := by omega
          clear hform hfit hsml hbi hbw HL HZ HG HVk hIt hVt e hset hren HIz hA
          rw [hAi]
          go_upto_region 8 with fail
          have d0 := HIi.out.cell 0
          have d1 := HIi.out.cell 1
          have d2 := HIi.out.cell 2
          have d3 := HIi.out.cell 3
          have d4 := HIi.out.cell 4
          have d5 := HIi.out.cell 5
          have d6 := HIi.out.cell 6
          clear zf0 zf1 zf2 zf3 zf4 zf5 zf6
          have hbis := HBi.out.size
          generalize wr.alloc (.cells #[.bool false, .int .i64 ii, .string is, .int .i64 k1, .int .i64 n1, .string t1, .slice A1 l1.length e1] 34) = wi at *
          have HS2 := Lib.hid (HSt.out wi Hbwi.out HLi2.out)
          clear HSt
          go_upto_region 9 with (go_at_call 91; refine HS2.out.mono ?_; rintro e w3 ⟨er, rfl, hb3, hpo⟩)
          rcases hpo with ⟨rfl, hno⟩ | ⟨ps', sv', nx', rfl, hso, hL3, hv3, hn3, hx3⟩
          · exact absurd (hno.symm.trans HSet.out) (by simp)
          · have h := hso.symm.trans HSet.out
            injection h with h
            injection h with h1 h2
            subst h2
            have HL3 := Lib.hid hL3
            have HV3 := Lib.hid hv3
            have HG3 : Hid (ps'.map PI.it = renum (cat ls i ++ (ls i).take (j + 1)) 0) := h1.trans HRen.out
            have HB3 := Lib.hid (HBi.out.trans (hb3.mono (Nat.le_succ _)))
            have HZ3 := Lib.hid (HZi.out.below hb3 (Nat.lt_succ_self _))
            clear hso hL3 hv3 hb3 h1 HSet HRen HS2 HLi2 HBi HZi HIi Hbwi d0 d1 d2 d3 d4 d5 d6
            go_wp2_with fail
            go_roundw
            case rel => exact ⟨j + 1, ps', sv', by omega, by go_num, HL3, HG3, HV3, HB3, HZ3⟩
            case measure => simp [ixOf] <;> omega
        · obtain rfl : j = (ls i).length := by omega
          have hIx : ¬ (((ls i).length : Int) < ((ls i).length : Int)) := by omega
          have HLn : Hid (LstAt (w'.heap.size + 1) wr (w'.heap.size + 1 + 1) (w'.heap.size + 1) false sv ps (cat ls (i + 1)).length) := by
            show LstAt _ _ _ _ _ _ _ _
            rw [cat, List.length_append]
            exact HL.out
          have HGn : Hid (ps.map PI.it = renum (cat ls (i + 1)) 0) := by
            have := HG.out
            rw [List.take_length] at this
            exact this
          go_wp2_with fail
          go_roundw
          case rel => exact ⟨i + 1, ps, sv, by omega, by go_num, HLn, HGn, HVk, HB, HZ⟩
          case measure => simp [ixOf] <;> omega
    · obtain rfl : i = 2 := by omega
      have hpl : ps.length = (cat ls 2).length := by
        have h1 := congrArg List.length HG.out
        rwa [List.length_map, renum_len] at h1
      have HT := Lib.hid (told_any wr HL.out (by omega))
      have hls : (wr.heap.size : Nat) ≥ w'.heap.size := HB.out.size
      have z0 : wr.cell? ⟨w'.heap.size, 0, none⟩ = some (.int .i64 0) := HZ.out.cell 0
      clear hpl
      go_upto_region 13 with fail
      clear z0
      go_wp2_with (go_at_call 92; refine HT.out.mono ?_; rintro e w4 ⟨sv2, rfl, ho, hk⟩; have HO := Lib.hid ho; have HK := Lib.hid hk; have HZ4 := Lib.hid (HZ.out.keeps hk (by omega)); clear ho hk; have z0 : w4.cell? ⟨w'.heap.size, 0, none⟩ = some (.int .i64 0) := HZ4.out.cell 0; have z1 : w4.cell? ⟨w'.heap.size, 1, none⟩ = some (.int .i64 0) := HZ4.out.cell 1; have z2 : w4.cell? ⟨w'.heap.size, 2, none⟩ = some (.string ⟨#[]⟩) := HZ4.out.cell 2; have z3 : w4.cell? ⟨w'.heap.size, 3, none⟩ = some (.slice none 0 0) := HZ4.out.cell 3; have zf0 := HZ4.out.frozen 0; have zf1 := HZ4.out.frozen 1; have zf2 := HZ4.out.frozen 2; have zf3 := HZ4.out.frozen 3; obtain ⟨A4, c4, rfl⟩ := own_form0 HO.out)
      have HS4 := Lib.hid (store4 HZ4.out (.int .i64 4) (.int .i64 (cat ls 2).length) (.string ⟨#[]⟩) (.slice A4 ps.length c4))
      have hOf := own_keeps HO.out HS4.out.2 (fun e => by have := (HO.out.lt _ e.symm).1; have := HZ.out.lt; omega)
      have hBf := (HB.out.trans (HK.out.below (B := w'.heap.size) hls (fun j e => by omega))).trans (HS4.out.2.below (Nat.le_trans hls HK.out.size) (fun j e => by omega))
      generalize (((w4.setCell ⟨w'.heap.size, 0, none⟩ (.int .i64 4)).setCell ⟨w'.heap.size, 1, none⟩ (.int .i64 (cat ls 2).length)).setCell ⟨w'.heap.size, 2, none⟩ (.string ⟨#[]⟩)).setCell ⟨w'.heap.size, 3, none⟩ (.slice A4 ps.length c4) = wf at *
      have e0 : wf.cell? ⟨w'.heap.size, 0, none⟩ = some (.int .i64 4) := HS4.out.1.cell 0
      have e1 : wf.cell? ⟨w'.heap.size, 1, none⟩ = some (.int .i64 (cat ls 2).length) := HS4.out.1.cell 1
      have e2 : wf.cell? ⟨w'.heap.size, 2, none⟩ = some (.string ⟨#[]⟩) := HS4.out.1.cell 2
      have e3 : wf.cell? ⟨w'.heap.size, 3, none⟩ = some (.slice A4 ps.length c4) := HS4.out.1.cell 3
      refine bodyPost_ret (v := .tuple #[.agg #[.int .i64 4, .int .i64 (cat ls 2).length, .string ⟨#[]⟩, .slice A4 ps.length c4], .int .i64 0]) (by simp [results, Tryz.results24, go_sem, e0, e1, e2, e3]) rfl ?_
      exact ⟨_, ps, rfl, HG.out, own_le2 hOf hls, HVk.out, hBf⟩
end
end Dp
end Go.Proofs.YtopmodahdmnpjaaGreatDoor
/- ArrsChunks: what is put together again may be and is alike to itself: plain laws. -/
namespace Go.Proofs.YtopmodahdmnpjaaGreatDoor
open Go Go.RowKit
namespace Dp
open Go.Proofs.YtopmodahdmnpjaaGreatDoor.Nm (normG)
mutual
theorem leftV_leC : ∀ (v : GV) (m : Int), leftV v m ≤ m
  | .mk k n t l, m => by
    rw [leftV]
    have := leftL_leC l (m - l.length)
    omega
theorem leftL_leC : ∀ (l : List GI) (m : Int), leftL l m ≤ m
  | [], m => by rw [leftL]; exact Int.le_refl _
  | .mk b i s v :: l, m => by
    rw [leftL]
    split
    · exact Int.le_refl _
    · exact Int.le_trans (leftL_leC l _) (leftV_leC v m)
end
mutual
theorem leftV_shift : ∀ (v : GV) (m m' : Int), 0 ≤ leftV v m → m ≤ m' → leftV v m' = leftV v m + (m' - m)
  | .mk k n t l, m, m', h, hm => by
    rw [leftV] at h ⊢
    rw [leftV]
    have := leftL_shift l (m - l.length) (m' - l.length) h (by omega)
    omega
theorem leftL_shift : ∀ (l : List GI) (m m' : Int), 0 ≤ leftL l m → m ≤ m' → leftL l m' = leftL l m + (m' - m)
  | [], m, m', _, _ => by rw [leftL, leftL]; omega
  | .mk b i s v :: l, m, m', h, hm => by
    rw [leftL] at h ⊢
    rw [leftL]
    by_cases h0 : m < 0
    · rw [if_pos h0] at h
      omega
    · rw [if_neg h0] at h
      rw [if_neg h0, if_neg (by omega)]
      have h1 : 0 ≤ leftV v m := Int.le_trans h (leftL_leC l _)
      have h2 := leftV_shift v m m' h1 hm
      have h3 := leftL_shift l (leftV v m) (leftV v m') h (by omega)
      omega
end
theorem leftL_take : ∀ (l : List GI) (j : Nat) (m : Int), 0 ≤ leftL l m → 0 ≤ leftL (l.take j) m
  | [], j, m, h => by simpa using h
  | .mk b i s v :: l, 0, m, h => by
    rw [List.take_zero, leftL]
    exact Int.le_trans h (leftL_leC _ _)
  | .mk b i s v :: l, j + 1, m, h => by
    rw [List.take_succ_cons]
    rw [leftL] at h ⊢
    by_cases h0 : m < 0
    · rw [if_pos h0] at h ⊢
      exact h
    · rw [if_neg h0] at h ⊢
      exact leftL_take l j _ h
theorem leftL_renum : ∀ (l : List GI) (k : Nat) (m : Int), leftL (renum l k) m = leftL l m
  | [], k, m => by rw [renum]
  | .mk b i s v :: l, k, m => by
    rw [renum, leftL, leftL]
    split
    · rfl
    · exact leftL_renum l (k + 1) _
theorem right_len {n : Int} {t : ByteArray} {l : List GI} (h : rightB (.mk 4 n t l) = true) : l.length ≤ 2048 := by
  unfold rightB at h
  simp only [Bool.and_eq_true] at h
  have h1 := of_decide_eq_true h.1
  rw [leftV] at h1
  have := leftL_leC l (2048 - l.length)
  omega
theorem may_vals : ∀ (l : List GI) (m : List (Bool × Int × ByteArray)) (n d : Int), mayL l m n d = true → ∀ it ∈ l, mayV it.val (d + 1) = true
  | [], _, _, _, _, it, h => by cases h
  | .mk b i s v :: l, m, n, d, h, it, hi => by
    rw [mayL] at h
    split at h
    · cases h
    split at h
    · cases h
    split at h
    · rename_i hv
      split at h
      · cases h
      · rcases List.mem_cons.1 hi with rfl | hi
        · exact hv
        · exact may_vals l _ n d h it hi
    · cases h
theorem may_renum (n d : Int) : ∀ (l : List GI) (k : Nat) (m : List (Bool × Int × ByteArray)), (∀ q ∈ m, q.1 = false ∧ q.2.1 < (k : Int)) → (k : Int) + l.length ≤ n → (∀ it ∈ l, mayV it.val (d + 1) = true) → mayL (renum l k) m n d = true
  | [], k, m, _, _, _ => by rw [renum, mayL]
  | .mk b i s v :: r, k, m, hm, hn, hv => by
    rw [List.length_cons] at hn
    rw [renum, mayL]
    have h1 : normG false (k : Int) ⟨#[]⟩ = (false, (k : Int), ⟨#[]⟩) := by unfold normG; rfl
    rw [if_neg (by rw [h1]; simp)]
    have h2 : ((false, (k : Int), ⟨#[]⟩) : Bool × Int × ByteArray) ∉ m := fun h => by
      have := (hm _ h).2
      simp at this
    rw [if_neg h2]
    have h3 : mayV (GI.val (.mk b i s v)) (d + 1) = true := hv _ (List.mem_cons_self ..)
    rw [if_pos h3, if_neg (by omega)]
    refine may_renum n d r (k + 1) _ (fun q hq => ?_) (by omega) (fun it h => hv it (List.mem_cons_of_mem _ h))
    rcases List.mem_append.1 hq with hq | hq
    · obtain ⟨q1, q2⟩ := hm q hq
      exact ⟨q1, by omega⟩
    · simp at hq
      subst hq
      exact ⟨rfl, by show (k : Int) < _; omega⟩
theorem leftL_app : ∀ (p q : List GI) (m : Int), 0 ≤ leftL (p ++ q) m → leftL (p ++ q) m = leftL q (leftL p m) ∧ 0 ≤ leftL p m
  | [], q, m, h => by
    rw [List.nil_append] at h ⊢
    rw [leftL]
    exact ⟨rfl, Int.le_trans h (leftL_leC q m)⟩
  | .mk b i s v :: p, q, m, h => by
    rw [List.cons_append, leftL] at h ⊢
    rw [leftL]
    by_cases h0 : m < 0
    · rw [if_pos h0] at h
      omega
    · rw [if_neg h0] at h
      rw [if_neg h0, if_neg h0]
      exact leftL_app p q _ h
/-- Values of a list that may be, by numbers. -/
theorem right_sub {n : Int} {t : ByteArray} {l p : List GI} (h : rightB (.mk 4 n t l) = true) (hs : ∀ it ∈ p, it ∈ l) (hlen : p.length ≤ l.length) (hleft : 0 ≤ leftL l (2048 - l.length) → 0 ≤ leftL p (2048 - l.length)) : rightB (.mk 4 (p.length : Nat) ⟨#[]⟩ (renum p 0)) = true := by
  have hl := right_len h
  unfold rightB at h ⊢
  simp only [Bool.and_eq_true] at h
  obtain ⟨h1, h2⟩ := h
  have h1 := of_decide_eq_true h1
  rw [leftV] at h1
  rw [mayV, if_pos rfl] at h2
  split at h2
  · have e1 : fewB (.mk 4 (p.length : Nat) ⟨#[]⟩ (renum p 0)) = true := by
      refine few_yes ?_
      rw [leftV, renum_len, leftL_renum]
      have h3 := hleft h1
      have h4 := leftL_shift p (2048 - l.length) (2048 - p.length) h3 (by omega)
      omega
    have e2 : mayV (.mk 4 (p.length : Nat) ⟨#[]⟩ (renum p 0)) 0 = true := by
      rw [mayV, if_pos rfl, if_pos ⟨rfl, by omega, by rw [renum_len]; omega, by decide⟩]
      exact may_renum _ _ _ 0 [] (fun q hq => by simp at hq) (by simp) (fun it hi => may_vals l [] n 0 h2 it (hs it hi))
    rw [e1, e2]
    rfl
  · cases h2
theorem right_take {n : Int} {t : ByteArray} {l : List GI} (h : rightB (.mk 4 n t l) = true) (j : Nat) : rightB (.mk 4 ((l.take j).length : Nat) ⟨#[]⟩ (renum (l.take j) 0)) = true :=
  right_sub h (fun _ hi => List.mem_of_mem_take hi) (by rw [List.length_take]; omega) (leftL_take l j _)
theorem right_piece {n : Int} {t : ByteArray} {l : List GI} (h : rightB (.mk 4 n t l) = true) (i e : Nat) : rightB (.mk 4 (((l.drop i).take e).length : Nat) ⟨#[]⟩ (renum ((l.drop i).take e) 0)) = true :=
  right_sub h (fun _ hi => List.mem_of_mem_drop (List.mem_of_mem_take hi)) (by rw [List.length_take, List.length_drop]; omega) (fun h0 => by
    refine leftL_take _ e _ ?_
    have h1 := leftL_app (l.take i) (l.drop i) (2048 - l.length) (by rw [List.take_append_drop]; exact h0)
    rw [List.take_append_drop] at h1
    have h2 : 0 ≤ leftL (l.drop i) (leftL (l.take i) (2048 - l.length)) := by rw [← h1.1]; exact h0
    have h3 := leftL_shift (l.drop i) _ (2048 - l.length) h2 (leftL_leC _ _)
    have h4 := leftL_leC (l.take i) (2048 - l.length)
    omega)
theorem renum_vals : ∀ (p q : List GI) (k : Nat), p.map GI.val = q.map GI.val → renum p k = renum q k
  | [], [], _, _ => rfl
  | [], _ :: _, _, h => by simp at h
  | _ :: _, [], _, h => by simp at h
  | .mk b i s v :: p, .mk b' i' s' v' :: q, k, h => by
    simp only [List.map_cons, List.cons.injEq] at h
    have hv : v = v' := h.1
    subst hv
    rw [renum, renum, renum_vals p q (k + 1) h.2]
    rfl
theorem vals_renum : ∀ (p : List GI) (k : Nat), (renum p k).map GI.val = p.map GI.val
  | [], _ => rfl
  | .mk b i s v :: p, k => by
    rw [renum, List.map_cons, List.map_cons, vals_renum p (k + 1)]
    rfl
/-- What is put together of the first values and a piece. -/
theorem renum_join (l : List GI) (i e : Nat) : renum (renum (l.take i) 0 ++ renum ((l.drop i).take e) 0) 0 = renum (l.take (i + e)) 0 := by
  refine renum_vals _ _ _ ?_
  rw [List.map_append, vals_renum, vals_renum, ← List.map_append, List.take_add]
theorem len_join (l : List GI) (i e : Nat) : (renum (l.take i) 0 ++ renum ((l.drop i).take e) 0).length = (l.take (i + e)).length := by
  rw [List.length_append, renum_len, renum_len, List.take_add, List.length_append]
mutual
theorem alike_self : ∀ (v : GV) (d : Int), mayV v d = true → alikeV v v = true
  | .mk k n t l, d, h => by
    rw [alikeV, if_neg (by simp)]
    rw [mayV] at h
    by_cases h4 : k = 4
    · rw [if_pos h4] at h
      split at h
      · subst h4
        rw [if_neg (by decide), if_neg (by decide), if_neg (by simp), if_neg (by simp)]
        exact alike_selfL l [] n d h
      · cases h
    · rw [if_neg h4] at h
      simp only [Bool.and_eq_true] at h
      have h5 := h.2
      unfold flatB at h5
      by_cases h03 : 0 ≤ k ∧ k ≤ 3
      · rw [if_pos h03]
        unfold sameP
        split
        · simp
        · split
          · simp
          · split <;> simp
      · rw [if_neg h03]
        by_cases hk5 : k = 5
        · rw [if_pos hk5]
          simp
        · exfalso
          rw [if_neg (show ¬ k = 0 by omega), if_neg (show ¬ k = 1 by omega), if_neg (show ¬ k = 2 by omega), if_neg (show ¬ k = 3 by omega), if_neg hk5] at h5
          cases h5
theorem alike_selfL : ∀ (l : List GI) (m : List (Bool × Int × ByteArray)) (n d : Int), mayL l m n d = true → alikeL l l = true
  | [], _, _, _, _ => by rw [alikeL] <;> simp
  | .mk b i s v :: l, m, n, d, h => by
    rw [mayL] at h
    split at h
    · cases h
    split at h
    · cases h
    split at h
    · rename_i hv
      split at h
      · cases h
      · rw [alikeL, if_neg (by simp), if_pos (alike_self v _ hv)]
        exact alike_selfL l _ n d h
    · cases h
end
theorem same_right {g : GV} (h : rightB g = true) : sameB g g = true := by
  unfold rightB at h
  simp only [Bool.and_eq_true] at h
  unfold sameB
  rw [h.1, alike_self g 0 h.2]
  rfl
end Dp
end Go.Proofs.YtopmodahdmnpjaaGreatDoor
