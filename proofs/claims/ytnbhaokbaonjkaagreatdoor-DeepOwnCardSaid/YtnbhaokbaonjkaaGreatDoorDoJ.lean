/- deep.Make: the walk. -/
import Derived.Test.YtnbhaokbaonjkaaGreatDoorDoI
namespace Go.Proofs.YtnbhaokbaonjkaaGreatDoor
open Go Go.RowKit
namespace Dp
open Go.Proofs.YtnbhaokbaonjkaaGreatDoor.Nm (normG keyV norm_any)
def madeG (l : List GI) : GV × Int := match makeG l [] 0 with
  | none => (zeroG, 1)
  | some p => if rightB (.mk 4 p.2 ⟨#[]⟩ p.1) = true then (.mk 4 p.2 ⟨#[]⟩ p.1, 0) else (zeroG, 1)
/-- What Make answers, and where it lies. -/
def MadeAt (w' w'' : World) (l : List GI) (e : Ending) : Prop := ∃ (k n : Int) (sv : Value) (ps : List PI) (err : Int), e = .returned (.tuple #[.agg #[.int .i64 k, .int .i64 n, .string ⟨#[]⟩, sv], .int .i64 err]) ∧ madeG l = (.mk k n ⟨#[]⟩ (ps.map PI.it), err) ∧ RowSt w'.heap.size w'' sv ps ∧ Below w'.heap.size w' w''
theorem store4 {w : World} {r : Nat} {t : TypeId} {a0 a1 a2 a3 : Value} (h : Blk w r t #[a0, a1, a2, a3]) (u0 u1 u2 u3 : Value) :
    Blk ((((w.setCell ⟨r, 0, none⟩ u0).setCell ⟨r, 1, none⟩ u1).setCell ⟨r, 2, none⟩ u2).setCell ⟨r, 3, none⟩ u3) r t #[u0, u1, u2, u3] ∧ Keeps (fun j => j = r) w ((((w.setCell ⟨r, 0, none⟩ u0).setCell ⟨r, 1, none⟩ u1).setCell ⟨r, 2, none⟩ u2).setCell ⟨r, 3, none⟩ u3) :=
  ⟨(((h.set_ 0 u0).set_ 1 u1).set_ 2 u2).set_ 3 u3, (((set_keeps w r 0 u0).trans (set_keeps _ r 1 u1)).trans (set_keeps _ r 2 u2)).trans (set_keeps _ r 3 u3)⟩
theorem RowSt.mono {base base' : Nat} {w : World} {sv : Value} {ps : List PI} (h : RowSt base w sv ps) (hb : base' ≤ base) : RowSt base' w sv ps :=
  ⟨⟨h.owns.1, by
    rcases h.owns.2 with h0 | ⟨g, cap, cur, e, h1, r⟩
    · exact .inl h0
    · exact .inr ⟨g, cap, cur, e, Nat.le_trans hb h1, r⟩⟩, fun p hp => (h.vals p hp).keep (fun b hS => ⟨Nat.le_trans hb hS.1, hS.2⟩) fun _ _ => rfl⟩
section
variable {w : World} {B : Nat}
attribute [local go_sem] Oper.semAt_some
set_option maxRecDepth 100000 in
set_option maxHeartbeats 4000000 in
theorem make_any (hBw : B ≤ w.heap.size) (hLib : ∀ w', Below B w w' → LibS w') (l : List GI) (A : Option Addr) (c bb off : Nat) (C : Nat → Value) (hA : 0 < l.length → A = some ⟨bb, off, none⟩ ∧ bb < B)
    (hi : ∀ i it, l[i]? = some it → ItemAt w bb (off + i * 7) it (C i)) (hv : ∀ i it, l[i]? = some it → VAt w B it.val (C i)) (hF : ∀ (i : Nat) (it : GI), l[i]? = some it → In64 it.int ∧ it.text.size ≤ 140737488351232)
    (hft : ∀ (i : Nat) (it : GI), l[i]? = some it → Fit it.val) (hsm : ∀ (i : Nat) (it : GI), l[i]? = some it → Sml it.val) (hl : l.length * 88 ≤ 140737488351232) (w' : World) (hb : Below B w w') :
    Calls Tryz.prog 6 #[.slice A l.length c] w' fun e w'' => MadeAt w' w'' l e := by
  have hB' : B ≤ w'.heap.size := Nat.le_trans hBw hb.size
  have HA := Lib.hid hA
  have HI := Lib.hid hi
  have HV := Lib.hid hv
  have HF := Lib.hid hF
  have HFt := Lib.hid hft
  have HSm := Lib.hid hsm
  have HLb := Lib.hid hLib
  have Hb := Lib.hid hb
  have hal := fun (w1 : World) (o : Obj) => (Below.refl w1.heap.size w1).alloc (Nat.le_refl _) o
  have HAL := Lib.hid hal
  have HBa := Lib.hid (hal w' (.cells #[.int .i64 0, .int .i64 0, .string ⟨#[]⟩, .slice none 0 0] 24))
  have HZa := Lib.hid (Blk.new w' 24 #[.int .i64 0, .int .i64 0, .string ⟨#[]⟩, .slice none 0 0])
  have hsz : (w'.alloc (.cells #[.int .i64 0, .int .i64 0, .string ⟨#[]⟩, .slice none 0 0] 24)).heap.size = w'.heap.size + 1 := by simp
  have hN := new_any (w'.alloc (.cells #[.int .i64 0, .int .i64 0, .string ⟨#[]⟩, .slice none 0 0] 24))
  rw [hsz] at hN
  have HN := Lib.hid hN
  clear hA hi hv hF hft hsm hLib hb hal hN
  refine (callsIn_wide (n := 6)).1 ?_
  refine callsIn_of_wp_marks Tryz.func6 rfl trivial ?_ rfl
  simp only [Tryz.ntmps6, List.size_toArray, List.length_cons, List.length_nil, Nat.reduceAdd, Nat.reduceSub, Array.replicate_succ, Array.replicate_zero, List.push_toArray, List.append_toArray, List.nil_append, List.cons_append]
  gi_wp2_with (refine ⟨trivial, ?_⟩; gi_at_call 15; refine (callsIn_wide.2 HN.out).mono ?_; rintro e w2 ⟨rfl, hL2, hb2⟩; have HL2 := Lib.hid hL2; have HB2 := Lib.hid (HBa.out.trans (hb2.mono (Nat.le_succ _))); have HZ2 := Lib.hid (HZa.out.below hb2 (Nat.lt_succ_self _)); clear hL2 hb2)
  have HG0 : Hid (makeG l [] 0 = makeG (l.drop 0) (([] : List PI).map PI.it) 0) := rfl
  gi_loopw [13] (fun xi wx => ∃ (j : Nat) (ps : List PI) (sv : Value) (nx : Int), j ≤ l.length ∧ xi = .int .i64 j ∧ Hid (LstAt (w'.heap.size + 1) wx (w'.heap.size + 1 + 1) (w'.heap.size + 1) false sv ps nx) ∧ Hid (makeG l [] 0 = makeG (l.drop j) (ps.map PI.it) nx) ∧ Hid (∀ q ∈ ps, Vok w B q) ∧ ps.length ≤ 2048 ∧ Hid (In64 nx) ∧ Hid (Below w'.heap.size w' wx) ∧ Hid (Blk wx w'.heap.size 24 #[.int .i64 0, .int .i64 0, .string ⟨#[]⟩, .slice none 0 0])) (fun xi _ => l.length - (ixOf xi).toNat)
  case atStart => exact ⟨0, [], _, 0, Nat.zero_le _, rfl, HL2, HG0, fun q hq => (by cases hq), Nat.zero_le _, z64, HB2, HZ2⟩
  case round =>
    obtain ⟨j, ps, sv, nx, hj, rfl, HL, HG, HVk, hn, HX, HB, HZ⟩ := hrel
    clear HL2 HG0 HB2 HZ2
    by_cases hlt : j < l.length
    · obtain ⟨it, hit⟩ : ∃ it, l[j]? = some it := ⟨_, List.getElem?_eq_getElem hlt⟩
      obtain ⟨rfl, hbB⟩ := HA.out (by omega)
      have hbw : Below B w wr := Hb.out.trans (HB.out.mono hB')
      have hwr := HB.out.size
      obtain ⟨c0, c1, c2, v0, v1, v2, v3, e, c3', c4, c5, c6⟩ := (HI.out j it hit).below hbw hbB
      have hform := HV.out j it hit
      have hfit := HFt.out j it hit
      have hsml := HSm.out j it hit
      have hkey := HF.out j it hit
      have HGd := Lib.hid (HG.out.trans (makeG_drop l j it hit _ _))
      rw [e] at hform
      obtain ⟨ib, ii, is, iv⟩ := it
      simp only [GI.val, GI.isText, GI.int, GI.text] at hform hfit hsml hkey c0 c1 c2
      obtain ⟨k1, n1, t1, l1⟩ := iv
      obtain ⟨rfl, rfl, rfl, A1, e1, rfl⟩ := vat_form2 hform
      have HSt := Lib.hid (fun wi hz hL => set_step HLb.out wi hz (base := w'.heap.size + 1) (b := w'.heap.size + 1 + 1) (mb := w'.heap.size + 1) (sv := sv) (ps := ps) (nx := nx) hL (Nat.le_trans hBw hz.size) ⟨ib, ii, is, k1, n1, t1, l1, A1, e1⟩ hkey.1 hkey.2 ⟨hform, hfit, hsml⟩ HVk.out hn HX.out)
      have hbi := HAL.out wr (.cells #[.bool ib, .int .i64 ii, .string is, .int .i64 k1, .int .i64 n1, .string t1, .slice A1 l1.length e1] 34)
      have Hbwi := Lib.hid (hbw.alloc (Nat.le_trans hB' hwr) (.cells #[.bool ib, .int .i64 ii, .string is, .int .i64 k1, .int .i64 n1, .string t1, .slice A1 l1.length e1] 34))
      have HLi := Lib.hid (HL.out.below hbi)
      have HBi := Lib.hid (HB.out.trans (hbi.mono hwr))
      have HZi := Lib.hid (blk_below HZ.out hbi)
      have HIi := Lib.hid (Blk.new wr 34 #[.bool ib, .int .i64 ii, .string is, .int .i64 k1, .int .i64 n1, .string t1, .slice A1 l1.length e1])
      have d0 := HIi.out.cell 0
      have d1 := HIi.out.cell 1
      have d2 := HIi.out.cell 2
      have d3 := HIi.out.cell 3
      have d4 := HIi.out.cell 4
      have d5 := HIi.out.cell 5
      have d6 := HIi.out.cell 6
      have hIx : (j : Int) < (l.length : Int) := by omega
      clear hform hfit hsml hkey hbi hbw HL HZ HG HVk HX HI HV HF HFt HSm e
      gi_wp2
      refine ⟨trivial, ?_⟩
      gi_at_call 16
      have hbis := HBi.out.size
      generalize wr.alloc (.cells #[.bool ib, .int .i64 ii, .string is, .int .i64 k1, .int .i64 n1, .string t1, .slice A1 l1.length e1] 34) = wi at *
      refine (callsIn_wide.2 (HSt.out wi Hbwi.out HLi.out)).mono ?_
      rintro e w2 ⟨hb2, ⟨hno, rfl⟩ | ⟨ps', sv', nx', hso, rfl, hL2, hv2, hn2, hx2⟩⟩
      · have HB2 := Lib.hid (HBi.out.trans (hb2.mono (Nat.le_succ _)))
        have HZ2 := Lib.hid (HZi.out.below hb2 (Nat.lt_succ_self _))
        have HGn : Hid (makeG l [] 0 = none) := by
          show _ = _
          rw [HGd.out]
          have e : setG (ps.map PI.it) nx (.mk ib ii is (.mk k1 n1 t1 l1)) = none := hno
          rw [e]
        have z0 : w2.cell? ⟨w'.heap.size, 0, none⟩ = some (.int .i64 0) := HZ2.out.cell 0
        have z1 : w2.cell? ⟨w'.heap.size, 1, none⟩ = some (.int .i64 0) := HZ2.out.cell 1
        have z2 : w2.cell? ⟨w'.heap.size, 2, none⟩ = some (.string ⟨#[]⟩) := HZ2.out.cell 2
        have z3 : w2.cell? ⟨w'.heap.size, 3, none⟩ = some (.slice none 0 0) := HZ2.out.cell 3
        have zf0 := HZ2.out.frozen 0
        have zf1 := HZ2.out.frozen 1
        have zf2 := HZ2.out.frozen 2
        have zf3 := HZ2.out.frozen 3
        clear hb2 hno HSt HGd HLi HBi HZi HIi Hbwi HA d0 d1 d2 d3 d4 d5 d6
        gi_wp2
        have HS4 := Lib.hid (store4 HZ2.out (.int .i64 0) (.int .i64 0) (.string ⟨#[]⟩) (.slice none 0 0))
        generalize (((w2.setCell ⟨w'.heap.size, 0, none⟩ (.int .i64 0)).setCell ⟨w'.heap.size, 1, none⟩ (.int .i64 0)).setCell ⟨w'.heap.size, 2, none⟩ (.string ⟨#[]⟩)).setCell ⟨w'.heap.size, 3, none⟩ (.slice none 0 0) = wf at *
        have e0 : wf.cell? ⟨w'.heap.size, 0, none⟩ = some (.int .i64 0) := HS4.out.1.cell 0
        have e1 : wf.cell? ⟨w'.heap.size, 1, none⟩ = some (.int .i64 0) := HS4.out.1.cell 1
        have e2 : wf.cell? ⟨w'.heap.size, 2, none⟩ = some (.string ⟨#[]⟩) := HS4.out.1.cell 2
        have e3 : wf.cell? ⟨w'.heap.size, 3, none⟩ = some (.slice none 0 0) := HS4.out.1.cell 3
        refine ⟨.tuple #[.agg #[.int .i64 0, .int .i64 0, .string ⟨#[]⟩, .slice none 0 0], .int .i64 1], by simp [results, Tryz.results6, go_sem, e0, e1, e2, e3], 0, 0, .slice none 0 0, [], 1, rfl, ?_, RowSt.nil _ _, HB2.out.trans (HS4.out.2.below HB2.out.size (fun j e => by rw [e]; exact Nat.le_refl _))⟩
        unfold madeG
        rw [HGn.out]
        rfl
      · have HL2 := Lib.hid hL2
        have HB2 := Lib.hid (HBi.out.trans (hb2.mono (Nat.le_succ _)))
        have HZ2 := Lib.hid (HZi.out.below hb2 (Nat.lt_succ_self _))
        have HG2 : Hid (makeG l [] 0 = makeG (l.drop (j + 1)) (ps'.map PI.it) nx') := by
          show _ = _
          rw [HGd.out]
          have e : setG (ps.map PI.it) nx (.mk ib ii is (.mk k1 n1 t1 l1)) = some (ps'.map PI.it, nx') := hso
          rw [e]
        have HV2 := Lib.hid hv2
        have HX2 := Lib.hid hx2
        clear hL2 hb2 hso hv2 hx2 HSt HGd HLi HBi HZi HIi Hbwi d0 d1 d2 d3 d4 d5 d6
        gi_wp2
        go_roundw
        case rel => exact ⟨j + 1, ps', sv', nx', by omega, by go_num, HL2, HG2, HV2, hn2, HX2, HB2, HZ2⟩
        case measure => simp [ixOf] <;> omega
    · obtain rfl : j = l.length := by omega
      have HGe : Hid (makeG l [] 0 = some (ps.map PI.it, nx)) := by
        show _ = _
        rw [HG.out, List.drop_length, makeG]
      have HNx := Lib.hid (next_any wr (w'.heap.size + 1 + 1) nx HL.out.cells.1 HL.out.cells.2.2.2.2)
      have hwr := HB.out.size
      have HAl := Lib.hid (fun wz => all_any wz (w'.heap.size + 1 + 1))
      clear HG HI HV HF HFt HSm HA
      gi_wp2_with (first
        | (refine ⟨trivial, ?_⟩; gi_at_call 17; refine (callsIn_wide.2 HNx.out).mono ?_; rintro e wq ⟨rfl, he⟩; subst he)
        | (refine ⟨trivial, ?_⟩; gi_at_call 18; refine (callsIn_wide.2 (HAl.out _)).mono ?_; rintro e wq ⟨rfl, he⟩; subst he))
      have HVw := Lib.hid (((Below.refl wq.heap.size wq).alloc (Nat.le_refl _) (.cells #[.int .i64 4, .int .i64 nx, .string ⟨#[]⟩, .slice none 0 0] 24)).alloc (by simp) (.cells #[.pointer (some ⟨w'.heap.size + 1 + 1, 0, none⟩)] 51))
      have HLw := Lib.hid (HL.out.below HVw.out)
      have HVb := Lib.hid ((Blk.new wq 24 #[.int .i64 4, .int .i64 nx, .string ⟨#[]⟩, .slice none 0 0]).alloc (.cells #[.pointer (some ⟨w'.heap.size + 1 + 1, 0, none⟩)] 51))
      have HBx := Lib.hid (Blk.new (wq.alloc (.cells #[.int .i64 4, .int .i64 nx, .string ⟨#[]⟩, .slice none 0 0] 24)) 51 #[.pointer (some ⟨w'.heap.size + 1 + 1, 0, none⟩)])
      have hs0 : ((wq.alloc (.cells #[.int .i64 4, .int .i64 nx, .string ⟨#[]⟩, .slice none 0 0] 24)).alloc (.cells #[.pointer (some ⟨w'.heap.size + 1 + 1, 0, none⟩)] 51)).heap.size = wq.heap.size + 2 := by simp
      have hs1 : (wq.alloc (.cells #[.int .i64 4, .int .i64 nx, .string ⟨#[]⟩, .slice none 0 0] 24)).heap.size = wq.heap.size + 1 := by simp
      rw [hs1] at HBx
      have hblt := HL.out.blk.lt
      have HM0 : Hid (MkSt w' wq.heap.size nx (([] : List PI).map PI.it) ((wq.alloc (.cells #[.int .i64 4, .int .i64 nx, .string ⟨#[]⟩, .slice none 0 0] 24)).alloc (.cells #[.pointer (some ⟨w'.heap.size + 1 + 1, 0, none⟩)] 51))) := ⟨⟨_, [], rfl, RowSt.nil _ _, HVb.out⟩, HB.out.trans (HVw.out.mono hwr), blk_below HZ.out HVw.out⟩
      generalize (wq.alloc (.cells #[.int .i64 4, .int .i64 nx, .string ⟨#[]⟩, .slice none 0 0] 24)).alloc (.cells #[.pointer (some ⟨w'.heap.size + 1 + 1, 0, none⟩)] 51) = W0 at *
      clear HNx HAl HL HB HZ HVb
      refine range_T (b := w'.heap.size + 1 + 1) (by omega) rfl (enters_of Tryz.func39 (by kernel_rfl) rfl) (encs := encP) (xs := ps) (fun _ => rfl)
        (fun l J W hbW hJ hY h0 => all1_in (bx := wq.heap.size + 1) hn J W ((hbW.cell (p := ⟨wq.heap.size + 1, 0, none⟩) (by rw [hs0]; exact Nat.lt_succ_self _)).trans (HBx.out.cell 0)) (HLw.out.below hbW) hJ (fun pre x W1 h1 h2 => hY pre x W1 h1 h2) h0)
        (fun pre Wz => Hid (MkSt w' wq.heap.size nx (pre.map PI.it) Wz)) (fun _pre x a' Wz => ∃ kb xb, a' = { tmps := #[.slice A l.length c, undef, .pointer (some ⟨w'.heap.size, 0, none⟩), u3, .pointer (some ⟨w'.heap.size + 1 + 1, 0, none⟩), undef, u6, .pointer (some ⟨wq.heap.size, 0, none⟩), .pointer (some ⟨kb, 0, none⟩), .pointer (some ⟨xb, 0, none⟩), .pointer (some ⟨w'.heap.size + 1 + 1, 0, none⟩), .slice A l.length c, .int .i64 l.length, .int .i64 l.length, .bool false, u15, u16, u17, u18, u19, u20, u21, u22, u23, u24, u25, .pointer (some ⟨w'.heap.size + 1 + 1, 0, none⟩), .int .i64 nx, .agg #[.int .i64 4, .int .i64 nx, .string ⟨#[]⟩, .slice none 0 0], .pointer (some ⟨w'.heap.size + 1 + 1, 0, none⟩), .func (.func 39) #[] #[.pointer (some ⟨wq.heap.size + 1, 0, none⟩)], .agg #[.bool x.b, .int .i64 x.i, .string x.s], .agg #[.int .i64 x.k, .int .i64 x.n, .string x.t, .slice x.A x.l.length x.c], undef, undef, undef, undef, undef, undef, undef, undef, undef, undef, undef, undef, undef, undef, undef, undef], defers := [] } ∧ Hid (Blk Wz kb 32 #[.bool x.b, .int .i64 x.i, .string x.s]) ∧ Hid (Blk Wz xb 24 #[.int .i64 x.k, .int .i64 x.n, .string x.t, .slice x.A x.l.length x.c]) ∧ wq.heap.size < kb ∧ wq.heap.size < xb)
        (fun pre A B hA hk => hA.out.keeps hk (by omega) (by omega)) (fun pre A l o o' hA hl ho h1 h2 => hA.out.put ho h1 h2 (by omega)) ?hAp HM0 ?assign ?body ?done
      case hAp =>
        rintro pre x a' A l o o' ⟨kb, xb, rfl, h1, h2, h3, h4⟩ hl ho hc hc'
        exact ⟨kb, xb, rfl, blk_put h1.out ho hc o', blk_put h2.out ho hc o', h3, h4⟩
      case assign =>
        intro l1 pre x W K hpx hM hK
        have hws : wq.heap.size < W.heap.size := by
          obtain ⟨sv2, qs, _, _, hbv⟩ := hM.out.ex
          exact hbv.lt
        dsimp only [encP, PI.val]
        gi_wp2
        have hb1 := (Below.refl W.heap.size W).alloc (Nat.le_refl _) (.cells #[.bool x.b, .int .i64 x.i, .string x.s] 32)
        have hb2 := hb1.alloc (by simp) (.cells #[.int .i64 x.k, .int .i64 x.n, .string x.t, .slice x.A x.l.length x.c] 24)
        have hx := Blk.new (W.alloc (.cells #[.bool x.b, .int .i64 x.i, .string x.s] 32)) 24 #[.int .i64 x.k, .int .i64 x.n, .string x.t, .slice x.A x.l.length x.c]
        have hs2 : (W.alloc (.cells #[.bool x.b, .int .i64 x.i, .string x.s] 32)).heap.size = W.heap.size + 1 := by simp
        rw [hs2] at hx
        refine hK _ _ ⟨W.heap.size, W.heap.size + 1, rfl, (Blk.new W 32 #[.bool x.b, .int .i64 x.i, .string x.s]).alloc _, hx, hws, by omega⟩ (hM.out.below hb2) (KT.below hb2)
      case body =>
        rintro l1 pre x a' W hpx ⟨kb, xb, rfl, HKb, HXb, hkv, hxv⟩ hM
        have hxm : x ∈ ps := hpx.subset (by simp)
        obtain ⟨hxk, hxv', hxf, hxs⟩ := HVk.out x hxm
        obtain ⟨⟨sv2, qs, hqq, hrq, hbv⟩, hbl, hrs⟩ := hM.out
        obtain ⟨A4, c4, rfl⟩ := hrq.form
        have HQq := Lib.hid hqq
        have HRq := Lib.hid hrq
        have HBv := Lib.hid hbv
        have HBl := Lib.hid hbl
        have HRs := Lib.hid hrs
        have HbW := Lib.hid (Hb.out.trans (hbl.mono hB'))
        have HBsz := Lib.hid (Nat.le_trans hB' hbl.size)
        have HvW := Lib.hid (Nat.succ_le_of_lt hbv.lt)
        have HQl : Hid (qs.length ≤ 2048) := by
          have h1 : qs.length = pre.length := by simpa using congrArg List.length hqq
          have h2 := hpx.length_le
          simp at h2
          show _ ≤ _
          omega
        have hCp := copied_any hBw hxv' hxs
        have HCp : Hid (∀ wz : World, Below B w wz → Calls Tryz.prog 19 #[.agg #[.int .i64 x.k, .int .i64 x.n, .string x.t, .slice x.A x.l.length x.c]] wz fun e w2 => ∃ A2 c2, e = .returned (.agg #[.int .i64 x.k, .int .i64 x.n, .string x.t, .slice A2 x.l.length c2]) ∧ VIn w2 (fun b => wz.heap.size ≤ b ∧ b < w2.heap.size) x.gv (.agg #[.int .i64 x.k, .int .i64 x.n, .string x.t, .slice A2 x.l.length c2]) ∧ Below wz.heap.size wz w2) := fun wz hz => (hCp wz hz).mono fun e w2 ⟨y, h1, h2, h3⟩ => by
          obtain ⟨A2, c2, rfl⟩ := h2.form
          exact ⟨A2, c2, h1, h2, h3⟩
        have v3 : W.cell? ⟨wq.heap.size, 3, none⟩ = some (.slice A4 qs.length c4) := hbv.cell 3
        have v3a : (W.alloc (.cells #[.bool false, .int .i64 0, .string ⟨#[]⟩, .int .i64 0, .int .i64 0, .string ⟨#[]⟩, .slice none 0 0] 34)).cell? ⟨wq.heap.size, 3, none⟩ = some (.slice A4 qs.length c4) := (hbv.alloc _).cell 3
        have hix : ((qs.length : Nat) : Int) < (qs.length : Int) + 1 := by omega
        have hvbw : w'.heap.size < wq.heap.size := by omega
        have nkv : kb ≠ wq.heap.size := by omega
        have nxv : xb ≠ wq.heap.size := by omega
        clear hqq hrq hbv hbl hrs hM hxv' hxf hxs hxk hxm hpx hCp HVk HLw HBx HM0 HVw HGe
        gi_wp2
        refine region_round (S := (fun wz => wz.cell? ⟨kb, 0, none⟩ = some (.bool x.b) ∧ wz.cell? ⟨kb, 1, none⟩ = some (.int .i64 x.i) ∧ wz.cell? ⟨kb, 2, none⟩ = some (.string x.s) ∧ wz.cell? ⟨xb, 0, none⟩ = some (.int .i64 x.k) ∧ wz.cell? ⟨xb, 1, none⟩ = some (.int .i64 x.n) ∧ wz.cell? ⟨xb, 2, none⟩ = some (.string x.t) ∧ wz.cell? ⟨xb, 3, none⟩ = some (.slice x.A x.l.length x.c))) (by kernel_rfl) (by kernel_rfl) ?_ ?_ (fun hHeld => ?_)
        · rintro ⟨a9, w9, h9, -⟩
          cases h9
        · exact skv HKb.out.drew HXb.out.drew
        refine wpAnyH_take (i := 0) (v := ?v1) Held.op0 (by kernel_rfl) (by kernel_rfl) (by kernel_rfl) (fun _ _ _ h => h) (Or.inl ⟨by rfl, ?hy1⟩) (by assumption) ?rest1
        case hy1 => (intro wq hSq; (try dsimp only at hSq); first | (go_simp; done) | (go_simp; with_reducible rfl))
        try simp only [Act.put, List.setIfInBounds_toArray, List.set_cons_zero, List.set_cons_succ]
        refine wpAnyH_take (i := 2) (v := ?v2) Held.op2 (by kernel_rfl) (by kernel_rfl) (by kernel_rfl) (fun _ _ _ h => h) (Or.inl ⟨by rfl, ?hy2⟩) (by assumption) ?rest2
        case hy2 => (intro wq hSq; (try dsimp only at hSq); first | (go_simp; done) | (go_simp; with_reducible rfl))
        try simp only [Act.put, List.setIfInBounds_toArray, List.set_cons_zero, List.set_cons_succ]
        refine wpAnyH_take (i := 3) (v := ?v3) Held.op3 (by kernel_rfl) (by kernel_rfl) (by kernel_rfl) (fun _ _ _ h => h) (Or.inl ⟨by rfl, ?hy3⟩) (by assumption) ?rest3
        case hy3 => (intro wq hSq; (try dsimp only at hSq); first | (go_simp; done) | (go_simp; with_reducible rfl))
        try simp only [Act.put, List.setIfInBounds_toArray, List.set_cons_zero, List.set_cons_succ]
        refine wpAnyH_ready (rs := [1, 4, 7]) (by kernel_rfl) (by simp) ?_
        refine AllReadyH.cons Held.op1 (fun K hK => ?_) (AllReadyH.cons Held.op4 (fun K hK => ?_) (AllReadyH.cons Held.op7 (fun K hK => ?_) AllReadyH.nil))
        · go_simp
          refine hK.out _ _ ?_ (fun hHeld => ?_)
          · exact skv HKb.out.drew HXb.out.drew
          clear hK K
          try simp only [Act.put, List.setIfInBounds_toArray, List.set_cons_zero, List.set_cons_succ]
          refine wpAnyH_take (i := 6) (v := ?v4) Held.op6 (by kernel_rfl) (by kernel_rfl) (by kernel_rfl) (fun _ _ _ h => h) (Or.inl ⟨by rfl, ?hy4⟩) (by assumption) ?rest4
          case hy4 => (intro wq hSq; (try dsimp only at hSq); first | (go_simp; done) | (go_simp; with_reducible rfl))
          try simp only [Act.put, List.setIfInBounds_toArray, List.set_cons_zero, List.set_cons_succ]
          refine wpAnyH_ready (rs := [4, 7]) (by kernel_rfl) (by simp) ?_
          refine AllReadyH.cons Held.op4 (fun K hK => ?_) (AllReadyH.cons Held.op7 (fun K hK => ?_) AllReadyH.nil)
          · go_simp
            go_at_call 19
            refine (HCp.out _ ?_).mono ?_
            · exact drewU HbW.out 1
            rintro e w2 ⟨A2, c2, rfl, hy, hb2⟩
            have HY2 := Lib.hid hy
            have HB2 : Hid (Below W.heap.size W w2) := (drewU (Below.refl W.heap.size W) 1).trans hb2
            have HKb2 := Lib.hid (blk_below HKb.out HB2.out)
            have HXb2 := Lib.hid (blk_below HXb.out HB2.out)
            have v3b : w2.cell? ⟨wq.heap.size, 3, none⟩ = some (.slice A4 qs.length c4) := (blk_below HBv.out HB2.out).cell 3
            clear hy hb2
            try (go_wp2_with fail)
            refine hK.out _ _ ?_ (fun hHeld => ?_)
            · exact skv HKb2.out HXb2.out
            clear hK K
            try simp only [Act.put, List.setIfInBounds_toArray, List.set_cons_zero, List.set_cons_succ]
            refine wpAnyH_take (i := 5) (v := ?v5) Held.op5 (by kernel_rfl) (by kernel_rfl) (by kernel_rfl) (fun _ _ _ h => h) (Or.inl ⟨by rfl, ?hy5⟩) (by assumption) ?rest5
            case hy5 => (intro wq hSq; (try dsimp only at hSq); first | (go_simp; done) | (go_simp; with_reducible rfl))
            try simp only [Act.put, List.setIfInBounds_toArray, List.set_cons_zero, List.set_cons_succ]
            refine wpAnyH_ready (rs := [7]) (by kernel_rfl) (by simp) ?_
            refine AllReadyH.cons Held.op7 (fun K hK => ?_) AllReadyH.nil
            have HP : Hid (Below W.heap.size W (w2.alloc (.cells #[.bool false, .int .i64 0, .string ⟨#[]⟩, .int .i64 0, .int .i64 0, .string ⟨#[]⟩, .slice none 0 0] 34)) ∧ Blk (w2.alloc (.cells #[.bool false, .int .i64 0, .string ⟨#[]⟩, .int .i64 0, .int .i64 0, .string ⟨#[]⟩, .slice none 0 0] 34)) w2.heap.size 34 #[.bool false, .int .i64 0, .string ⟨#[]⟩, .int .i64 0, .int .i64 0, .string ⟨#[]⟩, .slice none 0 0] ∧ VIn (w2.alloc (.cells #[.bool false, .int .i64 0, .string ⟨#[]⟩, .int .i64 0, .int .i64 0, .string ⟨#[]⟩, .slice none 0 0] 34)) (fun b => W.heap.size ≤ b ∧ b < (w2.alloc (.cells #[.bool false, .int .i64 0, .string ⟨#[]⟩, .int .i64 0, .int .i64 0, .string ⟨#[]⟩, .slice none 0 0] 34)).heap.size) x.gv (.agg #[.int .i64 x.k, .int .i64 x.n, .string x.t, .slice A2 x.l.length c2])) := ⟨HB2.out.alloc HB2.out.size _, Blk.new w2 _ _, HY2.out.keep (fun b hS => ⟨hS.1, by have := hS.2; simp; omega⟩) fun q hq => World.cell?_alloc_lt w2 _ q hq.2⟩
            have HKbp := Lib.hid (HKb2.out.alloc (.cells #[.bool false, .int .i64 0, .string ⟨#[]⟩, .int .i64 0, .int .i64 0, .string ⟨#[]⟩, .slice none 0 0] 34))
            have HXbp := Lib.hid (HXb2.out.alloc (.cells #[.bool false, .int .i64 0, .string ⟨#[]⟩, .int .i64 0, .int .i64 0, .string ⟨#[]⟩, .slice none 0 0] 34))
            have v3p : (w2.alloc (.cells #[.bool false, .int .i64 0, .string ⟨#[]⟩, .int .i64 0, .int .i64 0, .string ⟨#[]⟩, .slice none 0 0] 34)).cell? ⟨wq.heap.size, 3, none⟩ = some (.slice A4 qs.length c4) := ((blk_below HBv.out HB2.out).alloc _).cell 3
            go_simp
            generalize w2.alloc (.cells #[.bool false, .int .i64 0, .string ⟨#[]⟩, .int .i64 0, .int .i64 0, .string ⟨#[]⟩, .slice none 0 0] 34) = Wp at *
            refine hK.out _ _ ?_ (fun hHeld => ?_)
            · exact skv HKbp.out HXbp.out
            clear hK K
            try simp only [Act.put, List.setIfInBounds_toArray, List.set_cons_zero, List.set_cons_succ]
            refine wpAnyH_ready (rs := [8]) (by kernel_rfl) (by simp) ?_
            refine AllReadyH.cons Held.op8 (fun K hK => ?_) AllReadyH.nil
            refine step_app_item rfl (.tmp 34) (.tmp 40) rfl (wq.heap.size + 1) (.slice A4 qs.length c4) qs rfl (own_below HRq.out.owns HP.out.1) ?_ (some ⟨w2.heap.size, 0, none⟩) 1 1 [zeroPI] rfl (reads_one (p := zeroPI) HP.out.2.1) ?_ ?_
            · exact Nat.le_trans HvW.out HP.out.1.size
            · have := HQl.out; omega
            intro v7 w7 hown7 hg7 hor7
            obtain ⟨g7, cap7, rfl, hg7a, hg7b⟩ := hown7.form (Nat.succ_pos _)
            have HO7 := Lib.hid (show w7.ownsRow (wq.heap.size + 1) 34 7 (.slice (some ⟨g7, 0, none⟩) (qs.length + 1) cap7) (qs.length + 1) (rowC qs ++ rowC [zeroPI]) from hown7)
            have HE7 := Lib.hid (round_end HQq.out (x := x) (x' := ⟨x.b, x.i, x.s, x.k, x.n, x.t, x.l, A2, c2⟩) rfl HRq.out HBv.out HBl.out HRs.out hvbw HP.out.1 HP.out.2.2 HO7.out rfl hg7 hor7)
            have HBv7 := Lib.hid ((blk_below HBv.out HP.out.1).grown hg7 (fun e => by have := (HRq.out.owns.lt _ e.symm).1; omega))
            have HKb7 := Lib.hid (HKbp.out.grown hg7 (row_ne (own_below HRq.out.owns HP.out.1) HKbp.out (by decide)))
            have HXb7 := Lib.hid (HXbp.out.grown hg7 (row_ne (own_below HRq.out.owns HP.out.1) HXbp.out (by decide)))
            have z := seven_row HO7.out
            obtain ⟨⟨z0, z1, z2, z3, z4, z5, z6⟩, y0, y1, y2, y3, y4, y5, y6⟩ := z
            have x2 : w7.cell? ⟨wq.heap.size, 3, none⟩ = some (.slice A4 qs.length c4) := HBv7.out.cell 3
            have xf2 := HBv7.out.frozen 3
            have n1 : wq.heap.size ≠ g7 := by omega
            have n2 : g7 ≠ wq.heap.size := Ne.symm n1
            have n3 : kb ≠ g7 := fun e => row_ne HO7.out HKb7.out (by decide) (by rw [e]; rfl)
            have n4 : xb ≠ g7 := fun e => row_ne HO7.out HXb7.out (by decide) (by rw [e]; rfl)
            clear hown7 hg7 hor7
            refine hK.out _ _ ?_ (fun hHeld => ?_)
            · exact skv HKb7.out HXb7.out
            clear hK K
            try simp only [Act.put, List.setIfInBounds_toArray, List.set_cons_zero, List.set_cons_succ]
            refine wpAnyH_take (i := 9) (v := ?v6) Held.op9 (by kernel_rfl) (by kernel_rfl) (by kernel_rfl) (fun _ _ _ h => h) (Or.inl ⟨by rfl, ?hy6⟩) (by assumption) ?rest6
            case hy6 => (intro wq hSq; (try dsimp only at hSq); first | (go_simp; done) | (go_simp; with_reducible rfl))
            try simp only [Act.put, List.setIfInBounds_toArray, List.set_cons_zero, List.set_cons_succ]
            refine wpAnyH_take (i := 11) (v := ?v7) Held.op11 (by kernel_rfl) (by kernel_rfl) (by kernel_rfl) (fun _ _ _ h => h) (Or.inl ⟨by rfl, ?hy7⟩) (by assumption) ?rest7
            case hy7 => (intro wq hSq; (try dsimp only at hSq); first | (go_simp; done) | (go_simp; with_reducible rfl))
            try simp only [Act.put, List.setIfInBounds_toArray, List.set_cons_zero, List.set_cons_succ]
            refine wpAnyH_ready (rs := [10, 12]) (by kernel_rfl) (by simp) ?_
            refine AllReadyH.cons Held.op10 (fun K hK => ?_) (AllReadyH.cons Held.op12 (fun K hK => ?_) AllReadyH.nil)
            · go_simp
              refine hK.out _ _ ?_ (fun hHeld => ?_)
              · exact skv (HKb7.out.keeps (fill_keeps _ g7 (qs.length * 7) ⟨x.b, x.i, x.s, x.k, x.n, x.t, x.l, A2, c2⟩) n3) (HXb7.out.keeps (fill_keeps _ g7 (qs.length * 7) ⟨x.b, x.i, x.s, x.k, x.n, x.t, x.l, A2, c2⟩) n4)
              clear hK K
              try simp only [Act.put, List.setIfInBounds_toArray, List.set_cons_zero, List.set_cons_succ]
              refine wpAnyH_ready (rs := [12]) (by kernel_rfl) (by simp) ?_
              refine AllReadyH.cons Held.op12 (fun K hK => ?_) AllReadyH.nil
              go_simp
              refine hK.out _ _ ?_ (fun hHeld => ?_)
              · exact skv ((HKb7.out.keeps (fill_keeps _ g7 (qs.length * 7) ⟨x.b, x.i, x.s, x.k, x.n, x.t, x.l, A2, c2⟩) n3).far nkv _) ((HXb7.out.keeps (fill_keeps _ g7 (qs.length * 7) ⟨x.b, x.i, x.s, x.k, x.n, x.t, x.l, A2, c2⟩) n4).far nxv _)
              clear hK K
              try simp only [Act.put, List.setIfInBounds_toArray, List.set_cons_zero, List.set_cons_succ]
              refine wpAnyH_done (by kernel_rfl) ?_ _
              exact ⟨rfl, HE7.out.1⟩
            · go_simp
              refine hK.out _ _ ?_ (fun hHeld => ?_)
              · exact skv (HKb7.out.far nkv _) (HXb7.out.far nxv _)
              clear hK K
              try simp only [Act.put, List.setIfInBounds_toArray, List.set_cons_zero, List.set_cons_succ]
              refine wpAnyH_ready (rs := [10]) (by kernel_rfl) (by simp) ?_
              refine AllReadyH.cons Held.op10 (fun K hK => ?_) AllReadyH.nil
              go_simp
              refine hK.out _ _ ?_ (fun hHeld => ?_)
              · exact skv ((HKb7.out.far nkv _).keeps (fill_keeps _ g7 (qs.length * 7) ⟨x.b, x.i, x.s, x.k, x.n, x.t, x.l, A2, c2⟩) n3) ((HXb7.out.far nxv _).keeps (fill_keeps _ g7 (qs.length * 7) ⟨x.b, x.i, x.s, x.k, x.n, x.t, x.l, A2, c2⟩) n4)
              clear hK K
              try simp only [Act.put, List.setIfInBounds_toArray, List.set_cons_zero, List.set_cons_succ]
              refine wpAnyH_done (by kernel_rfl) ?_ _
              exact ⟨rfl, HE7.out.2⟩
          · go_simp
            refine hK.out _ _ ?_ (fun hHeld => ?_)
            · exact skv (HKb.out.drew.alloc _) (HXb.out.drew.alloc _)
            clear hK K
            try simp only [Act.put, List.setIfInBounds_toArray, List.set_cons_zero, List.set_cons_succ]
            refine wpAnyH_ready (rs := [4]) (by kernel_rfl) (by simp) ?_
            refine AllReadyH.cons Held.op4 (fun K hK => ?_) AllReadyH.nil
            go_simp
            go_at_call 19
            refine (HCp.out _ ?_).mono ?_
            · exact drewU (HbW.out.alloc HBsz.out (.cells #[.bool false, .int .i64 0, .string ⟨#[]⟩, .int .i64 0, .int .i64 0, .string ⟨#[]⟩, .slice none 0 0] 34)) 1
            rintro e w2 ⟨A2, c2, rfl, hy, hb2⟩
            have HY2 := Lib.hid hy
            have HB2 : Hid (Below W.heap.size W w2) := (drewU ((Below.refl W.heap.size W).alloc (Nat.le_refl _) (.cells #[.bool false, .int .i64 0, .string ⟨#[]⟩, .int .i64 0, .int .i64 0, .string ⟨#[]⟩, .slice none 0 0] 34)) 1).trans (hb2.mono (by simp))
            have HZ2 : Hid (Blk w2 W.heap.size 34 #[.bool false, .int .i64 0, .string ⟨#[]⟩, .int .i64 0, .int .i64 0, .string ⟨#[]⟩, .slice none 0 0]) := blk_below (Blk.drew (Blk.new W _ _)) hb2
            have HKb2 := Lib.hid (blk_below HKb.out HB2.out)
            have HXb2 := Lib.hid (blk_below HXb.out HB2.out)
            have v3b : w2.cell? ⟨wq.heap.size, 3, none⟩ = some (.slice A4 qs.length c4) := (blk_below HBv.out HB2.out).cell 3
            clear hy hb2
            rename World => Wp
            have HP : Hid (Below W.heap.size W Wp ∧ Blk Wp W.heap.size 34 #[.bool false, .int .i64 0, .string ⟨#[]⟩, .int .i64 0, .int .i64 0, .string ⟨#[]⟩, .slice none 0 0] ∧ VIn Wp (fun b => W.heap.size ≤ b ∧ b < Wp.heap.size) x.gv (.agg #[.int .i64 x.k, .int .i64 x.n, .string x.t, .slice A2 x.l.length c2])) := ⟨HB2.out, HZ2.out, HY2.out.keep (fun b hS => ⟨by have := hS.1; simp at this; omega, hS.2⟩) fun _ _ => rfl⟩
            have HKbp := HKb2
            have HXbp := HXb2
            try (go_wp2_with fail)
            refine hK.out _ _ ?_ (fun hHeld => ?_)
            · exact skv HKbp.out HXbp.out
            clear hK K
            try simp only [Act.put, List.setIfInBounds_toArray, List.set_cons_zero, List.set_cons_succ]
            refine wpAnyH_take (i := 5) (v := ?v8) Held.op5 (by kernel_rfl) (by kernel_rfl) (by kernel_rfl) (fun _ _ _ h => h) (Or.inl ⟨by rfl, ?hy8⟩) (by assumption) ?rest8
            case hy8 => (intro wq hSq; (try dsimp only at hSq); first | (go_simp; done) | (go_simp; with_reducible rfl))
            try simp only [Act.put, List.setIfInBounds_toArray, List.set_cons_zero, List.set_cons_succ]
            refine wpAnyH_ready (rs := [8]) (by kernel_rfl) (by simp) ?_
            refine AllReadyH.cons Held.op8 (fun K hK => ?_) AllReadyH.nil
            refine step_app_item rfl (.tmp 34) (.tmp 40) rfl (wq.heap.size + 1) (.slice A4 qs.length c4) qs rfl (own_below HRq.out.owns HP.out.1) ?_ (some ⟨W.heap.size, 0, none⟩) 1 1 [zeroPI] rfl (reads_one (p := zeroPI) HP.out.2.1) ?_ ?_
            · exact Nat.le_trans HvW.out HP.out.1.size
            · have := HQl.out; omega
            intro v7 w7 hown7 hg7 hor7
            obtain ⟨g7, cap7, rfl, hg7a, hg7b⟩ := hown7.form (Nat.succ_pos _)
            have HO7 := Lib.hid (show w7.ownsRow (wq.heap.size + 1) 34 7 (.slice (some ⟨g7, 0, none⟩) (qs.length + 1) cap7) (qs.length + 1) (rowC qs ++ rowC [zeroPI]) from hown7)
            have HE7 := Lib.hid (round_end HQq.out (x := x) (x' := ⟨x.b, x.i, x.s, x.k, x.n, x.t, x.l, A2, c2⟩) rfl HRq.out HBv.out HBl.out HRs.out hvbw HP.out.1 HP.out.2.2 HO7.out rfl hg7 hor7)
            have HBv7 := Lib.hid ((blk_below HBv.out HP.out.1).grown hg7 (fun e => by have := (HRq.out.owns.lt _ e.symm).1; omega))
            have HKb7 := Lib.hid (HKbp.out.grown hg7 (row_ne (own_below HRq.out.owns HP.out.1) HKbp.out (by decide)))
            have HXb7 := Lib.hid (HXbp.out.grown hg7 (row_ne (own_below HRq.out.owns HP.out.1) HXbp.out (by decide)))
            have z := seven_row HO7.out
            obtain ⟨⟨z0, z1, z2, z3, z4, z5, z6⟩, y0, y1, y2, y3, y4, y5, y6⟩ := z
            have x2 : w7.cell? ⟨wq.heap.size, 3, none⟩ = some (.slice A4 qs.length c4) := HBv7.out.cell 3
            have xf2 := HBv7.out.frozen 3
            have n1 : wq.heap.size ≠ g7 := by omega
            have n2 : g7 ≠ wq.heap.size := Ne.symm n1
            have n3 : kb ≠ g7 := fun e => row_ne HO7.out HKb7.out (by decide) (by rw [e]; rfl)
            have n4 : xb ≠ g7 := fun e => row_ne HO7.out HXb7.out (by decide) (by rw [e]; rfl)
            clear hown7 hg7 hor7
            refine hK.out _ _ ?_ (fun hHeld => ?_)
            · exact skv HKb7.out HXb7.out
            clear hK K
            try simp only [Act.put, List.setIfInBounds_toArray, List.set_cons_zero, List.set_cons_succ]
            refine wpAnyH_take (i := 9) (v := ?v9) Held.op9 (by kernel_rfl) (by kernel_rfl) (by kernel_rfl) (fun _ _ _ h => h) (Or.inl ⟨by rfl, ?hy9⟩) (by assumption) ?rest9
            case hy9 => (intro wq hSq; (try dsimp only at hSq); first | (go_simp; done) | (go_simp; with_reducible rfl))
            try simp only [Act.put, List.setIfInBounds_toArray, List.set_cons_zero, List.set_cons_succ]
            refine wpAnyH_take (i := 11) (v := ?v10) Held.op11 (by kernel_rfl) (by kernel_rfl) (by kernel_rfl) (fun _ _ _ h => h) (Or.inl ⟨by rfl, ?hy10⟩) (by assumption) ?rest10
            case hy10 => (intro wq hSq; (try dsimp only at hSq); first | (go_simp; done) | (go_simp; with_reducible rfl))
            try simp only [Act.put, List.setIfInBounds_toArray, List.set_cons_zero, List.set_cons_succ]
            refine wpAnyH_ready (rs := [10, 12]) (by kernel_rfl) (by simp) ?_
            refine AllReadyH.cons Held.op10 (fun K hK => ?_) (AllReadyH.cons Held.op12 (fun K hK => ?_) AllReadyH.nil)
            · go_simp
              refine hK.out _ _ ?_ (fun hHeld => ?_)
              · exact skv (HKb7.out.keeps (fill_keeps _ g7 (qs.length * 7) ⟨x.b, x.i, x.s, x.k, x.n, x.t, x.l, A2, c2⟩) n3) (HXb7.out.keeps (fill_keeps _ g7 (qs.length * 7) ⟨x.b, x.i, x.s, x.k, x.n, x.t, x.l, A2, c2⟩) n4)
              clear hK K
              try simp only [Act.put, List.setIfInBounds_toArray, List.set_cons_zero, List.set_cons_succ]
              refine wpAnyH_ready (rs := [12]) (by kernel_rfl) (by simp) ?_
              refine AllReadyH.cons Held.op12 (fun K hK => ?_) AllReadyH.nil
              go_simp
              refine hK.out _ _ ?_ (fun hHeld => ?_)
              · exact skv ((HKb7.out.keeps (fill_keeps _ g7 (qs.length * 7) ⟨x.b, x.i, x.s, x.k, x.n, x.t, x.l, A2, c2⟩) n3).far nkv _) ((HXb7.out.keeps (fill_keeps _ g7 (qs.length * 7) ⟨x.b, x.i, x.s, x.k, x.n, x.t, x.l, A2, c2⟩) n4).far nxv _)
              clear hK K
              try simp only [Act.put, List.setIfInBounds_toArray, List.set_cons_zero, List.set_cons_succ]
              refine wpAnyH_done (by kernel_rfl) ?_ _
              exact ⟨rfl, HE7.out.1⟩
            · go_simp
              refine hK.out _ _ ?_ (fun hHeld => ?_)
              · exact skv (HKb7.out.far nkv _) (HXb7.out.far nxv _)
              clear hK K
              try simp only [Act.put, List.setIfInBounds_toArray, List.set_cons_zero, List.set_cons_succ]
              refine wpAnyH_ready (rs := [10]) (by kernel_rfl) (by simp) ?_
              refine AllReadyH.cons Held.op10 (fun K hK => ?_) AllReadyH.nil
              go_simp
              refine hK.out _ _ ?_ (fun hHeld => ?_)
              · exact skv ((HKb7.out.far nkv _).keeps (fill_keeps _ g7 (qs.length * 7) ⟨x.b, x.i, x.s, x.k, x.n, x.t, x.l, A2, c2⟩) n3) ((HXb7.out.far nxv _).keeps (fill_keeps _ g7 (qs.length * 7) ⟨x.b, x.i, x.s, x.k, x.n, x.t, x.l, A2, c2⟩) n4)
              clear hK K
              try simp only [Act.put, List.setIfInBounds_toArray, List.set_cons_zero, List.set_cons_succ]
              refine wpAnyH_done (by kernel_rfl) ?_ _
              exact ⟨rfl, HE7.out.2⟩
        · go_simp
          go_at_call 19
          refine (HCp.out _ ?_).mono ?_
          · exact drewU HbW.out 1
          rintro e w2 ⟨A2, c2, rfl, hy, hb2⟩
          have HY2 := Lib.hid hy
          have HB2 : Hid (Below W.heap.size W w2) := (drewU (Below.refl W.heap.size W) 1).trans hb2
          have HKb2 := Lib.hid (blk_below HKb.out HB2.out)
          have HXb2 := Lib.hid (blk_below HXb.out HB2.out)
          have v3b : w2.cell? ⟨wq.heap.size, 3, none⟩ = some (.slice A4 qs.length c4) := (blk_below HBv.out HB2.out).cell 3
          clear hy hb2
          try (go_wp2_with fail)
          refine hK.out _ _ ?_ (fun hHeld => ?_)
          · exact skv HKb2.out HXb2.out
          clear hK K
          try simp only [Act.put, List.setIfInBounds_toArray, List.set_cons_zero, List.set_cons_succ]
          refine wpAnyH_take (i := 5) (v := ?v11) Held.op5 (by kernel_rfl) (by kernel_rfl) (by kernel_rfl) (fun _ _ _ h => h) (Or.inl ⟨by rfl, ?hy11⟩) (by assumption) ?rest11
          case hy11 => (intro wq hSq; (try dsimp only at hSq); first | (go_simp; done) | (go_simp; with_reducible rfl))
          try simp only [Act.put, List.setIfInBounds_toArray, List.set_cons_zero, List.set_cons_succ]
          refine wpAnyH_ready (rs := [1, 7]) (by kernel_rfl) (by simp) ?_
          refine AllReadyH.cons Held.op1 (fun K hK => ?_) (AllReadyH.cons Held.op7 (fun K hK => ?_) AllReadyH.nil)
          · go_simp
            refine hK.out _ _ ?_ (fun hHeld => ?_)
            · exact skv HKb2.out HXb2.out
            clear hK K
            try simp only [Act.put, List.setIfInBounds_toArray, List.set_cons_zero, List.set_cons_succ]
            refine wpAnyH_take (i := 6) (v := ?v12) Held.op6 (by kernel_rfl) (by kernel_rfl) (by kernel_rfl) (fun _ _ _ h => h) (Or.inl ⟨by rfl, ?hy12⟩) (by assumption) ?rest12
            case hy12 => (intro wq hSq; (try dsimp only at hSq); first | (go_simp; done) | (go_simp; with_reducible rfl))
            try simp only [Act.put, List.setIfInBounds_toArray, List.set_cons_zero, List.set_cons_succ]
            refine wpAnyH_ready (rs := [7]) (by kernel_rfl) (by simp) ?_
            refine AllReadyH.cons Held.op7 (fun K hK => ?_) AllReadyH.nil
            have HP : Hid (Below W.heap.size W (w2.alloc (.cells #[.bool false, .int .i64 0, .string ⟨#[]⟩, .int .i64 0, .int .i64 0, .string ⟨#[]⟩, .slice none 0 0] 34)) ∧ Blk (w2.alloc (.cells #[.bool false, .int .i64 0, .string ⟨#[]⟩, .int .i64 0, .int .i64 0, .string ⟨#[]⟩, .slice none 0 0] 34)) w2.heap.size 34 #[.bool false, .int .i64 0, .string ⟨#[]⟩, .int .i64 0, .int .i64 0, .string ⟨#[]⟩, .slice none 0 0] ∧ VIn (w2.alloc (.cells #[.bool false, .int .i64 0, .string ⟨#[]⟩, .int .i64 0, .int .i64 0, .string ⟨#[]⟩, .slice none 0 0] 34)) (fun b => W.heap.size ≤ b ∧ b < (w2.alloc (.cells #[.bool false, .int .i64 0, .string ⟨#[]⟩, .int .i64 0, .int .i64 0, .string ⟨#[]⟩, .slice none 0 0] 34)).heap.size) x.gv (.agg #[.int .i64 x.k, .int .i64 x.n, .string x.t, .slice A2 x.l.length c2])) := ⟨HB2.out.alloc HB2.out.size _, Blk.new w2 _ _, HY2.out.keep (fun b hS => ⟨hS.1, by have := hS.2; simp; omega⟩) fun q hq => World.cell?_alloc_lt w2 _ q hq.2⟩
            have HKbp := Lib.hid (HKb2.out.alloc (.cells #[.bool false, .int .i64 0, .string ⟨#[]⟩, .int .i64 0, .int .i64 0, .string ⟨#[]⟩, .slice none 0 0] 34))
            have HXbp := Lib.hid (HXb2.out.alloc (.cells #[.bool false, .int .i64 0, .string ⟨#[]⟩, .int .i64 0, .int .i64 0, .string ⟨#[]⟩, .slice none 0 0] 34))
            have v3p : (w2.alloc (.cells #[.bool false, .int .i64 0, .string ⟨#[]⟩, .int .i64 0, .int .i64 0, .string ⟨#[]⟩, .slice none 0 0] 34)).cell? ⟨wq.heap.size, 3, none⟩ = some (.slice A4 qs.length c4) := ((blk_below HBv.out HB2.out).alloc _).cell 3
            go_simp
            generalize w2.alloc (.cells #[.bool false, .int .i64 0, .string ⟨#[]⟩, .int .i64 0, .int .i64 0, .string ⟨#[]⟩, .slice none 0 0] 34) = Wp at *
            refine hK.out _ _ ?_ (fun hHeld => ?_)
            · exact skv HKbp.out HXbp.out
            clear hK K
            try simp only [Act.put, List.setIfInBounds_toArray, List.set_cons_zero, List.set_cons_succ]
            refine wpAnyH_ready (rs := [8]) (by kernel_rfl) (by simp) ?_
            refine AllReadyH.cons Held.op8 (fun K hK => ?_) AllReadyH.nil
            refine step_app_item rfl (.tmp 34) (.tmp 40) rfl (wq.heap.size + 1) (.slice A4 qs.length c4) qs rfl (own_below HRq.out.owns HP.out.1) ?_ (some ⟨w2.heap.size, 0, none⟩) 1 1 [zeroPI] rfl (reads_one (p := zeroPI) HP.out.2.1) ?_ ?_
            · exact Nat.le_trans HvW.out HP.out.1.size
            · have := HQl.out; omega
            intro v7 w7 hown7 hg7 hor7
            obtain ⟨g7, cap7, rfl, hg7a, hg7b⟩ := hown7.form (Nat.succ_pos _)
            have HO7 := Lib.hid (show w7.ownsRow (wq.heap.size + 1) 34 7 (.slice (some ⟨g7, 0, none⟩) (qs.length + 1) cap7) (qs.length + 1) (rowC qs ++ rowC [zeroPI]) from hown7)
            have HE7 := Lib.hid (round_end HQq.out (x := x) (x' := ⟨x.b, x.i, x.s, x.k, x.n, x.t, x.l, A2, c2⟩) rfl HRq.out HBv.out HBl.out HRs.out hvbw HP.out.1 HP.out.2.2 HO7.out rfl hg7 hor7)
            have HBv7 := Lib.hid ((blk_below HBv.out HP.out.1).grown hg7 (fun e => by have := (HRq.out.owns.lt _ e.symm).1; omega))
            have HKb7 := Lib.hid (HKbp.out.grown hg7 (row_ne (own_below HRq.out.owns HP.out.1) HKbp.out (by decide)))
            have HXb7 := Lib.hid (HXbp.out.grown hg7 (row_ne (own_below HRq.out.owns HP.out.1) HXbp.out (by decide)))
            have z := seven_row HO7.out
            obtain ⟨⟨z0, z1, z2, z3, z4, z5, z6⟩, y0, y1, y2, y3, y4, y5, y6⟩ := z
            have x2 : w7.cell? ⟨wq.heap.size, 3, none⟩ = some (.slice A4 qs.length c4) := HBv7.out.cell 3
            have xf2 := HBv7.out.frozen 3
            have n1 : wq.heap.size ≠ g7 := by omega
            have n2 : g7 ≠ wq.heap.size := Ne.symm n1
            have n3 : kb ≠ g7 := fun e => row_ne HO7.out HKb7.out (by decide) (by rw [e]; rfl)
            have n4 : xb ≠ g7 := fun e => row_ne HO7.out HXb7.out (by decide) (by rw [e]; rfl)
            clear hown7 hg7 hor7
            refine hK.out _ _ ?_ (fun hHeld => ?_)
            · exact skv HKb7.out HXb7.out
            clear hK K
            try simp only [Act.put, List.setIfInBounds_toArray, List.set_cons_zero, List.set_cons_succ]
            refine wpAnyH_take (i := 9) (v := ?v13) Held.op9 (by kernel_rfl) (by kernel_rfl) (by kernel_rfl) (fun _ _ _ h => h) (Or.inl ⟨by rfl, ?hy13⟩) (by assumption) ?rest13
            case hy13 => (intro wq hSq; (try dsimp only at hSq); first | (go_simp; done) | (go_simp; with_reducible rfl))
            try simp only [Act.put, List.setIfInBounds_toArray, List.set_cons_zero, List.set_cons_succ]
            refine wpAnyH_take (i := 11) (v := ?v14) Held.op11 (by kernel_rfl) (by kernel_rfl) (by kernel_rfl) (fun _ _ _ h => h) (Or.inl ⟨by rfl, ?hy14⟩) (by assumption) ?rest14
            case hy14 => (intro wq hSq; (try dsimp only at hSq); first | (go_simp; done) | (go_simp; with_reducible rfl))
            try simp only [Act.put, List.setIfInBounds_toArray, List.set_cons_zero, List.set_cons_succ]
            refine wpAnyH_ready (rs := [10, 12]) (by kernel_rfl) (by simp) ?_
            refine AllReadyH.cons Held.op10 (fun K hK => ?_) (AllReadyH.cons Held.op12 (fun K hK => ?_) AllReadyH.nil)
            · go_simp
              refine hK.out _ _ ?_ (fun hHeld => ?_)
              · exact skv (HKb7.out.keeps (fill_keeps _ g7 (qs.length * 7) ⟨x.b, x.i, x.s, x.k, x.n, x.t, x.l, A2, c2⟩) n3) (HXb7.out.keeps (fill_keeps _ g7 (qs.length * 7) ⟨x.b, x.i, x.s, x.k, x.n, x.t, x.l, A2, c2⟩) n4)
              clear hK K
              try simp only [Act.put, List.setIfInBounds_toArray, List.set_cons_zero, List.set_cons_succ]
              refine wpAnyH_ready (rs := [12]) (by kernel_rfl) (by simp) ?_
              refine AllReadyH.cons Held.op12 (fun K hK => ?_) AllReadyH.nil
              go_simp
              refine hK.out _ _ ?_ (fun hHeld => ?_)
              · exact skv ((HKb7.out.keeps (fill_keeps _ g7 (qs.length * 7) ⟨x.b, x.i, x.s, x.k, x.n, x.t, x.l, A2, c2⟩) n3).far nkv _) ((HXb7.out.keeps (fill_keeps _ g7 (qs.length * 7) ⟨x.b, x.i, x.s, x.k, x.n, x.t, x.l, A2, c2⟩) n4).far nxv _)
              clear hK K
              try simp only [Act.put, List.setIfInBounds_toArray, List.set_cons_zero, List.set_cons_succ]
              refine wpAnyH_done (by kernel_rfl) ?_ _
              exact ⟨rfl, HE7.out.1⟩
            · go_simp
              refine hK.out _ _ ?_ (fun hHeld => ?_)
              · exact skv (HKb7.out.far nkv _) (HXb7.out.far nxv _)
              clear hK K
              try simp only [Act.put, List.setIfInBounds_toArray, List.set_cons_zero, List.set_cons_succ]
              refine wpAnyH_ready (rs := [10]) (by kernel_rfl) (by simp) ?_
              refine AllReadyH.cons Held.op10 (fun K hK => ?_) AllReadyH.nil
              go_simp
              refine hK.out _ _ ?_ (fun hHeld => ?_)
              · exact skv ((HKb7.out.far nkv _).keeps (fill_keeps _ g7 (qs.length * 7) ⟨x.b, x.i, x.s, x.k, x.n, x.t, x.l, A2, c2⟩) n3) ((HXb7.out.far nxv _).keeps (fill_keeps _ g7 (qs.length * 7) ⟨x.b, x.i, x.s, x.k, x.n, x.t, x.l, A2, c2⟩) n4)
              clear hK K
              try simp only [Act.put, List.setIfInBounds_toArray, List.set_cons_zero, List.set_cons_succ]
              refine wpAnyH_done (by kernel_rfl) ?_ _
              exact ⟨rfl, HE7.out.2⟩
          · have HP : Hid (Below W.heap.size W (w2.alloc (.cells #[.bool false, .int .i64 0, .string ⟨#[]⟩, .int .i64 0, .int .i64 0, .string ⟨#[]⟩, .slice none 0 0] 34)) ∧ Blk (w2.alloc (.cells #[.bool false, .int .i64 0, .string ⟨#[]⟩, .int .i64 0, .int .i64 0, .string ⟨#[]⟩, .slice none 0 0] 34)) w2.heap.size 34 #[.bool false, .int .i64 0, .string ⟨#[]⟩, .int .i64 0, .int .i64 0, .string ⟨#[]⟩, .slice none 0 0] ∧ VIn (w2.alloc (.cells #[.bool false, .int .i64 0, .string ⟨#[]⟩, .int .i64 0, .int .i64 0, .string ⟨#[]⟩, .slice none 0 0] 34)) (fun b => W.heap.size ≤ b ∧ b < (w2.alloc (.cells #[.bool false, .int .i64 0, .string ⟨#[]⟩, .int .i64 0, .int .i64 0, .string ⟨#[]⟩, .slice none 0 0] 34)).heap.size) x.gv (.agg #[.int .i64 x.k, .int .i64 x.n, .string x.t, .slice A2 x.l.length c2])) := ⟨HB2.out.alloc HB2.out.size _, Blk.new w2 _ _, HY2.out.keep (fun b hS => ⟨hS.1, by have := hS.2; simp; omega⟩) fun q hq => World.cell?_alloc_lt w2 _ q hq.2⟩
            have HKbp := Lib.hid (HKb2.out.alloc (.cells #[.bool false, .int .i64 0, .string ⟨#[]⟩, .int .i64 0, .int .i64 0, .string ⟨#[]⟩, .slice none 0 0] 34))
            have HXbp := Lib.hid (HXb2.out.alloc (.cells #[.bool false, .int .i64 0, .string ⟨#[]⟩, .int .i64 0, .int .i64 0, .string ⟨#[]⟩, .slice none 0 0] 34))
            have v3p : (w2.alloc (.cells #[.bool false, .int .i64 0, .string ⟨#[]⟩, .int .i64 0, .int .i64 0, .string ⟨#[]⟩, .slice none 0 0] 34)).cell? ⟨wq.heap.size, 3, none⟩ = some (.slice A4 qs.length c4) := ((blk_below HBv.out HB2.out).alloc _).cell 3
            go_simp
            generalize w2.alloc (.cells #[.bool false, .int .i64 0, .string ⟨#[]⟩, .int .i64 0, .int .i64 0, .string ⟨#[]⟩, .slice none 0 0] 34) = Wp at *
            refine hK.out _ _ ?_ (fun hHeld => ?_)
            · exact skv HKbp.out HXbp.out
            clear hK K
            try simp only [Act.put, List.setIfInBounds_toArray, List.set_cons_zero, List.set_cons_succ]
            refine wpAnyH_ready (rs := [1]) (by kernel_rfl) (by simp) ?_
            refine AllReadyH.cons Held.op1 (fun K hK => ?_) AllReadyH.nil
            go_simp
            refine hK.out _ _ ?_ (fun hHeld => ?_)
            · exact skv HKbp.out HXbp.out
            clear hK K
            try simp only [Act.put, List.setIfInBounds_toArray, List.set_cons_zero, List.set_cons_succ]
            refine wpAnyH_take (i := 6) (v := ?v15) Held.op6 (by kernel_rfl) (by kernel_rfl) (by kernel_rfl) (fun _ _ _ h => h) (Or.inl ⟨by rfl, ?hy15⟩) (by assumption) ?rest15
            case hy15 => (intro wq hSq; (try dsimp only at hSq); first | (go_simp; done) | (go_simp; with_reducible rfl))
            try simp only [Act.put, List.setIfInBounds_toArray, List.set_cons_zero, List.set_cons_succ]
            refine wpAnyH_ready (rs := [8]) (by kernel_rfl) (by simp) ?_
            refine AllReadyH.cons Held.op8 (fun K hK => ?_) AllReadyH.nil
            refine step_app_item rfl (.tmp 34) (.tmp 40) rfl (wq.heap.size + 1) (.slice A4 qs.length c4) qs rfl (own_below HRq.out.owns HP.out.1) ?_ (some ⟨w2.heap.size, 0, none⟩) 1 1 [zeroPI] rfl (reads_one (p := zeroPI) HP.out.2.1) ?_ ?_
            · exact Nat.le_trans HvW.out HP.out.1.size
            · have := HQl.out; omega
            intro v7 w7 hown7 hg7 hor7
            obtain ⟨g7, cap7, rfl, hg7a, hg7b⟩ := hown7.form (Nat.succ_pos _)
            have HO7 := Lib.hid (show w7.ownsRow (wq.heap.size + 1) 34 7 (.slice (some ⟨g7, 0, none⟩) (qs.length + 1) cap7) (qs.length + 1) (rowC qs ++ rowC [zeroPI]) from hown7)
            have HE7 := Lib.hid (round_end HQq.out (x := x) (x' := ⟨x.b, x.i, x.s, x.k, x.n, x.t, x.l, A2, c2⟩) rfl HRq.out HBv.out HBl.out HRs.out hvbw HP.out.1 HP.out.2.2 HO7.out rfl hg7 hor7)
            have HBv7 := Lib.hid ((blk_below HBv.out HP.out.1).grown hg7 (fun e => by have := (HRq.out.owns.lt _ e.symm).1; omega))
            have HKb7 := Lib.hid (HKbp.out.grown hg7 (row_ne (own_below HRq.out.owns HP.out.1) HKbp.out (by decide)))
            have HXb7 := Lib.hid (HXbp.out.grown hg7 (row_ne (own_below HRq.out.owns HP.out.1) HXbp.out (by decide)))
            have z := seven_row HO7.out
            obtain ⟨⟨z0, z1, z2, z3, z4, z5, z6⟩, y0, y1, y2, y3, y4, y5, y6⟩ := z
            have x2 : w7.cell? ⟨wq.heap.size, 3, none⟩ = some (.slice A4 qs.length c4) := HBv7.out.cell 3
            have xf2 := HBv7.out.frozen 3
            have n1 : wq.heap.size ≠ g7 := by omega
            have n2 : g7 ≠ wq.heap.size := Ne.symm n1
            have n3 : kb ≠ g7 := fun e => row_ne HO7.out HKb7.out (by decide) (by rw [e]; rfl)
            have n4 : xb ≠ g7 := fun e => row_ne HO7.out HXb7.out (by decide) (by rw [e]; rfl)
            clear hown7 hg7 hor7
            refine hK.out _ _ ?_ (fun hHeld => ?_)
            · exact skv HKb7.out HXb7.out
            clear hK K
            try simp only [Act.put, List.setIfInBounds_toArray, List.set_cons_zero, List.set_cons_succ]
            refine wpAnyH_take (i := 9) (v := ?v16) Held.op9 (by kernel_rfl) (by kernel_rfl) (by kernel_rfl) (fun _ _ _ h => h) (Or.inl ⟨by rfl, ?hy16⟩) (by assumption) ?rest16
            case hy16 => (intro wq hSq; (try dsimp only at hSq); first | (go_simp; done) | (go_simp; with_reducible rfl))
            try simp only [Act.put, List.setIfInBounds_toArray, List.set_cons_zero, List.set_cons_succ]
            refine wpAnyH_take (i := 11) (v := ?v17) Held.op11 (by kernel_rfl) (by kernel_rfl) (by kernel_rfl) (fun _ _ _ h => h) (Or.inl ⟨by rfl, ?hy17⟩) (by assumption) ?rest17
            case hy17 => (intro wq hSq; (try dsimp only at hSq); first | (go_simp; done) | (go_simp; with_reducible rfl))
            try simp only [Act.put, List.setIfInBounds_toArray, List.set_cons_zero, List.set_cons_succ]
            refine wpAnyH_ready (rs := [10, 12]) (by kernel_rfl) (by simp) ?_
            refine AllReadyH.cons Held.op10 (fun K hK => ?_) (AllReadyH.cons Held.op12 (fun K hK => ?_) AllReadyH.nil)
            · go_simp
              refine hK.out _ _ ?_ (fun hHeld => ?_)
              · exact skv (HKb7.out.keeps (fill_keeps _ g7 (qs.length * 7) ⟨x.b, x.i, x.s, x.k, x.n, x.t, x.l, A2, c2⟩) n3) (HXb7.out.keeps (fill_keeps _ g7 (qs.length * 7) ⟨x.b, x.i, x.s, x.k, x.n, x.t, x.l, A2, c2⟩) n4)
              clear hK K
              try simp only [Act.put, List.setIfInBounds_toArray, List.set_cons_zero, List.set_cons_succ]
              refine wpAnyH_ready (rs := [12]) (by kernel_rfl) (by simp) ?_
              refine AllReadyH.cons Held.op12 (fun K hK => ?_) AllReadyH.nil
              go_simp
              refine hK.out _ _ ?_ (fun hHeld => ?_)
              · exact skv ((HKb7.out.keeps (fill_keeps _ g7 (qs.length * 7) ⟨x.b, x.i, x.s, x.k, x.n, x.t, x.l, A2, c2⟩) n3).far nkv _) ((HXb7.out.keeps (fill_keeps _ g7 (qs.length * 7) ⟨x.b, x.i, x.s, x.k, x.n, x.t, x.l, A2, c2⟩) n4).far nxv _)
              clear hK K
              try simp only [Act.put, List.setIfInBounds_toArray, List.set_cons_zero, List.set_cons_succ]
              refine wpAnyH_done (by kernel_rfl) ?_ _
              exact ⟨rfl, HE7.out.1⟩
            · go_simp
              refine hK.out _ _ ?_ (fun hHeld => ?_)
              · exact skv (HKb7.out.far nkv _) (HXb7.out.far nxv _)
              clear hK K
              try simp only [Act.put, List.setIfInBounds_toArray, List.set_cons_zero, List.set_cons_succ]
              refine wpAnyH_ready (rs := [10]) (by kernel_rfl) (by simp) ?_
              refine AllReadyH.cons Held.op10 (fun K hK => ?_) AllReadyH.nil
              go_simp
              refine hK.out _ _ ?_ (fun hHeld => ?_)
              · exact skv ((HKb7.out.far nkv _).keeps (fill_keeps _ g7 (qs.length * 7) ⟨x.b, x.i, x.s, x.k, x.n, x.t, x.l, A2, c2⟩) n3) ((HXb7.out.far nxv _).keeps (fill_keeps _ g7 (qs.length * 7) ⟨x.b, x.i, x.s, x.k, x.n, x.t, x.l, A2, c2⟩) n4)
              clear hK K
              try simp only [Act.put, List.setIfInBounds_toArray, List.set_cons_zero, List.set_cons_succ]
              refine wpAnyH_done (by kernel_rfl) ?_ _
              exact ⟨rfl, HE7.out.2⟩
        · go_simp
          refine hK.out _ _ ?_ (fun hHeld => ?_)
          · exact skv (HKb.out.drew.alloc _) (HXb.out.drew.alloc _)
          clear hK K
          try simp only [Act.put, List.setIfInBounds_toArray, List.set_cons_zero, List.set_cons_succ]
          refine wpAnyH_ready (rs := [1, 4]) (by kernel_rfl) (by simp) ?_
          refine AllReadyH.cons Held.op1 (fun K hK => ?_) (AllReadyH.cons Held.op4 (fun K hK => ?_) AllReadyH.nil)
          · go_simp
            refine hK.out _ _ ?_ (fun hHeld => ?_)
            · exact skv (HKb.out.drew.alloc _) (HXb.out.drew.alloc _)
            clear hK K
            try simp only [Act.put, List.setIfInBounds_toArray, List.set_cons_zero, List.set_cons_succ]
            refine wpAnyH_take (i := 6) (v := ?v18) Held.op6 (by kernel_rfl) (by kernel_rfl) (by kernel_rfl) (fun _ _ _ h => h) (Or.inl ⟨by rfl, ?hy18⟩) (by assumption) ?rest18
            case hy18 => (intro wq hSq; (try dsimp only at hSq); first | (go_simp; done) | (go_simp; with_reducible rfl))
            try simp only [Act.put, List.setIfInBounds_toArray, List.set_cons_zero, List.set_cons_succ]
            refine wpAnyH_ready (rs := [4]) (by kernel_rfl) (by simp) ?_
            refine AllReadyH.cons Held.op4 (fun K hK => ?_) AllReadyH.nil
            go_simp
            go_at_call 19
            refine (HCp.out _ ?_).mono ?_
            · exact drewU (HbW.out.alloc HBsz.out (.cells #[.bool false, .int .i64 0, .string ⟨#[]⟩, .int .i64 0, .int .i64 0, .string ⟨#[]⟩, .slice none 0 0] 34)) 1
            rintro e w2 ⟨A2, c2, rfl, hy, hb2⟩
            have HY2 := Lib.hid hy
            have HB2 : Hid (Below W.heap.size W w2) := (drewU ((Below.refl W.heap.size W).alloc (Nat.le_refl _) (.cells #[.bool false, .int .i64 0, .string ⟨#[]⟩, .int .i64 0, .int .i64 0, .string ⟨#[]⟩, .slice none 0 0] 34)) 1).trans (hb2.mono (by simp))
            have HZ2 : Hid (Blk w2 W.heap.size 34 #[.bool false, .int .i64 0, .string ⟨#[]⟩, .int .i64 0, .int .i64 0, .string ⟨#[]⟩, .slice none 0 0]) := blk_below (Blk.drew (Blk.new W _ _)) hb2
            have HKb2 := Lib.hid (blk_below HKb.out HB2.out)
            have HXb2 := Lib.hid (blk_below HXb.out HB2.out)
            have v3b : w2.cell? ⟨wq.heap.size, 3, none⟩ = some (.slice A4 qs.length c4) := (blk_below HBv.out HB2.out).cell 3
            clear hy hb2
            rename World => Wp
            have HP : Hid (Below W.heap.size W Wp ∧ Blk Wp W.heap.size 34 #[.bool false, .int .i64 0, .string ⟨#[]⟩, .int .i64 0, .int .i64 0, .string ⟨#[]⟩, .slice none 0 0] ∧ VIn Wp (fun b => W.heap.size ≤ b ∧ b < Wp.heap.size) x.gv (.agg #[.int .i64 x.k, .int .i64 x.n, .string x.t, .slice A2 x.l.length c2])) := ⟨HB2.out, HZ2.out, HY2.out.keep (fun b hS => ⟨by have := hS.1; simp at this; omega, hS.2⟩) fun _ _ => rfl⟩
            have HKbp := HKb2
            have HXbp := HXb2
            try (go_wp2_with fail)
            refine hK.out _ _ ?_ (fun hHeld => ?_)
            · exact skv HKbp.out HXbp.out
            clear hK K
            try simp only [Act.put, List.setIfInBounds_toArray, List.set_cons_zero, List.set_cons_succ]
            refine wpAnyH_take (i := 5) (v := ?v19) Held.op5 (by kernel_rfl) (by kernel_rfl) (by kernel_rfl) (fun _ _ _ h => h) (Or.inl ⟨by rfl, ?hy19⟩) (by assumption) ?rest19
            case hy19 => (intro wq hSq; (try dsimp only at hSq); first | (go_simp; done) | (go_simp; with_reducible rfl))
            try simp only [Act.put, List.setIfInBounds_toArray, List.set_cons_zero, List.set_cons_succ]
            refine wpAnyH_ready (rs := [8]) (by kernel_rfl) (by simp) ?_
            refine AllReadyH.cons Held.op8 (fun K hK => ?_) AllReadyH.nil
            refine step_app_item rfl (.tmp 34) (.tmp 40) rfl (wq.heap.size + 1) (.slice A4 qs.length c4) qs rfl (own_below HRq.out.owns HP.out.1) ?_ (some ⟨W.heap.size, 0, none⟩) 1 1 [zeroPI] rfl (reads_one (p := zeroPI) HP.out.2.1) ?_ ?_
            · exact Nat.le_trans HvW.out HP.out.1.size
            · have := HQl.out; omega
            intro v7 w7 hown7 hg7 hor7
            obtain ⟨g7, cap7, rfl, hg7a, hg7b⟩ := hown7.form (Nat.succ_pos _)
            have HO7 := Lib.hid (show w7.ownsRow (wq.heap.size + 1) 34 7 (.slice (some ⟨g7, 0, none⟩) (qs.length + 1) cap7) (qs.length + 1) (rowC qs ++ rowC [zeroPI]) from hown7)
            have HE7 := Lib.hid (round_end HQq.out (x := x) (x' := ⟨x.b, x.i, x.s, x.k, x.n, x.t, x.l, A2, c2⟩) rfl HRq.out HBv.out HBl.out HRs.out hvbw HP.out.1 HP.out.2.2 HO7.out rfl hg7 hor7)
            have HBv7 := Lib.hid ((blk_below HBv.out HP.out.1).grown hg7 (fun e => by have := (HRq.out.owns.lt _ e.symm).1; omega))
            have HKb7 := Lib.hid (HKbp.out.grown hg7 (row_ne (own_below HRq.out.owns HP.out.1) HKbp.out (by decide)))
            have HXb7 := Lib.hid (HXbp.out.grown hg7 (row_ne (own_below HRq.out.owns HP.out.1) HXbp.out (by decide)))
            have z := seven_row HO7.out
            obtain ⟨⟨z0, z1, z2, z3, z4, z5, z6⟩, y0, y1, y2, y3, y4, y5, y6⟩ := z
            have x2 : w7.cell? ⟨wq.heap.size, 3, none⟩ = some (.slice A4 qs.length c4) := HBv7.out.cell 3
            have xf2 := HBv7.out.frozen 3
            have n1 : wq.heap.size ≠ g7 := by omega
            have n2 : g7 ≠ wq.heap.size := Ne.symm n1
            have n3 : kb ≠ g7 := fun e => row_ne HO7.out HKb7.out (by decide) (by rw [e]; rfl)
            have n4 : xb ≠ g7 := fun e => row_ne HO7.out HXb7.out (by decide) (by rw [e]; rfl)
            clear hown7 hg7 hor7
            refine hK.out _ _ ?_ (fun hHeld => ?_)
            · exact skv HKb7.out HXb7.out
            clear hK K
            try simp only [Act.put, List.setIfInBounds_toArray, List.set_cons_zero, List.set_cons_succ]
            refine wpAnyH_take (i := 9) (v := ?v20) Held.op9 (by kernel_rfl) (by kernel_rfl) (by kernel_rfl) (fun _ _ _ h => h) (Or.inl ⟨by rfl, ?hy20⟩) (by assumption) ?rest20
            case hy20 => (intro wq hSq; (try dsimp only at hSq); first | (go_simp; done) | (go_simp; with_reducible rfl))
            try simp only [Act.put, List.setIfInBounds_toArray, List.set_cons_zero, List.set_cons_succ]
            refine wpAnyH_take (i := 11) (v := ?v21) Held.op11 (by kernel_rfl) (by kernel_rfl) (by kernel_rfl) (fun _ _ _ h => h) (Or.inl ⟨by rfl, ?hy21⟩) (by assumption) ?rest21
            case hy21 => (intro wq hSq; (try dsimp only at hSq); first | (go_simp; done) | (go_simp; with_reducible rfl))
            try simp only [Act.put, List.setIfInBounds_toArray, List.set_cons_zero, List.set_cons_succ]
            refine wpAnyH_ready (rs := [10, 12]) (by kernel_rfl) (by simp) ?_
            refine AllReadyH.cons Held.op10 (fun K hK => ?_) (AllReadyH.cons Held.op12 (fun K hK => ?_) AllReadyH.nil)
            · go_simp
              refine hK.out _ _ ?_ (fun hHeld => ?_)
              · exact skv (HKb7.out.keeps (fill_keeps _ g7 (qs.length * 7) ⟨x.b, x.i, x.s, x.k, x.n, x.t, x.l, A2, c2⟩) n3) (HXb7.out.keeps (fill_keeps _ g7 (qs.length * 7) ⟨x.b, x.i, x.s, x.k, x.n, x.t, x.l, A2, c2⟩) n4)
              clear hK K
              try simp only [Act.put, List.setIfInBounds_toArray, List.set_cons_zero, List.set_cons_succ]
              refine wpAnyH_ready (rs := [12]) (by kernel_rfl) (by simp) ?_
              refine AllReadyH.cons Held.op12 (fun K hK => ?_) AllReadyH.nil
              go_simp
              refine hK.out _ _ ?_ (fun hHeld => ?_)
              · exact skv ((HKb7.out.keeps (fill_keeps _ g7 (qs.length * 7) ⟨x.b, x.i, x.s, x.k, x.n, x.t, x.l, A2, c2⟩) n3).far nkv _) ((HXb7.out.keeps (fill_keeps _ g7 (qs.length * 7) ⟨x.b, x.i, x.s, x.k, x.n, x.t, x.l, A2, c2⟩) n4).far nxv _)
              clear hK K
              try simp only [Act.put, List.setIfInBounds_toArray, List.set_cons_zero, List.set_cons_succ]
              refine wpAnyH_done (by kernel_rfl) ?_ _
              exact ⟨rfl, HE7.out.1⟩
            · go_simp
              refine hK.out _ _ ?_ (fun hHeld => ?_)
              · exact skv (HKb7.out.far nkv _) (HXb7.out.far nxv _)
              clear hK K
              try simp only [Act.put, List.setIfInBounds_toArray, List.set_cons_zero, List.set_cons_succ]
              refine wpAnyH_ready (rs := [10]) (by kernel_rfl) (by simp) ?_
              refine AllReadyH.cons Held.op10 (fun K hK => ?_) AllReadyH.nil
              go_simp
              refine hK.out _ _ ?_ (fun hHeld => ?_)
              · exact skv ((HKb7.out.far nkv _).keeps (fill_keeps _ g7 (qs.length * 7) ⟨x.b, x.i, x.s, x.k, x.n, x.t, x.l, A2, c2⟩) n3) ((HXb7.out.far nxv _).keeps (fill_keeps _ g7 (qs.length * 7) ⟨x.b, x.i, x.s, x.k, x.n, x.t, x.l, A2, c2⟩) n4)
              clear hK K
              try simp only [Act.put, List.setIfInBounds_toArray, List.set_cons_zero, List.set_cons_succ]
              refine wpAnyH_done (by kernel_rfl) ?_ _
              exact ⟨rfl, HE7.out.2⟩
          · go_simp
            go_at_call 19
            refine (HCp.out _ ?_).mono ?_
            · exact drewU (HbW.out.alloc HBsz.out (.cells #[.bool false, .int .i64 0, .string ⟨#[]⟩, .int .i64 0, .int .i64 0, .string ⟨#[]⟩, .slice none 0 0] 34)) 1
            rintro e w2 ⟨A2, c2, rfl, hy, hb2⟩
            have HY2 := Lib.hid hy
            have HB2 : Hid (Below W.heap.size W w2) := (drewU ((Below.refl W.heap.size W).alloc (Nat.le_refl _) (.cells #[.bool false, .int .i64 0, .string ⟨#[]⟩, .int .i64 0, .int .i64 0, .string ⟨#[]⟩, .slice none 0 0] 34)) 1).trans (hb2.mono (by simp))
            have HZ2 : Hid (Blk w2 W.heap.size 34 #[.bool false, .int .i64 0, .string ⟨#[]⟩, .int .i64 0, .int .i64 0, .string ⟨#[]⟩, .slice none 0 0]) := blk_below (Blk.drew (Blk.new W _ _)) hb2
            have HKb2 := Lib.hid (blk_below HKb.out HB2.out)
            have HXb2 := Lib.hid (blk_below HXb.out HB2.out)
            have v3b : w2.cell? ⟨wq.heap.size, 3, none⟩ = some (.slice A4 qs.length c4) := (blk_below HBv.out HB2.out).cell 3
            clear hy hb2
            rename World => Wp
            have HP : Hid (Below W.heap.size W Wp ∧ Blk Wp W.heap.size 34 #[.bool false, .int .i64 0, .string ⟨#[]⟩, .int .i64 0, .int .i64 0, .string ⟨#[]⟩, .slice none 0 0] ∧ VIn Wp (fun b => W.heap.size ≤ b ∧ b < Wp.heap.size) x.gv (.agg #[.int .i64 x.k, .int .i64 x.n, .string x.t, .slice A2 x.l.length c2])) := ⟨HB2.out, HZ2.out, HY2.out.keep (fun b hS => ⟨by have := hS.1; simp at this; omega, hS.2⟩) fun _ _ => rfl⟩
            have HKbp := HKb2
            have HXbp := HXb2
            try (go_wp2_with fail)
            refine hK.out _ _ ?_ (fun hHeld => ?_)
            · exact skv HKbp.out HXbp.out
            clear hK K
            try simp only [Act.put, List.setIfInBounds_toArray, List.set_cons_zero, List.set_cons_succ]
            refine wpAnyH_take (i := 5) (v := ?v22) Held.op5 (by kernel_rfl) (by kernel_rfl) (by kernel_rfl) (fun _ _ _ h => h) (Or.inl ⟨by rfl, ?hy22⟩) (by assumption) ?rest22
            case hy22 => (intro wq hSq; (try dsimp only at hSq); first | (go_simp; done) | (go_simp; with_reducible rfl))
            try simp only [Act.put, List.setIfInBounds_toArray, List.set_cons_zero, List.set_cons_succ]
            refine wpAnyH_ready (rs := [1]) (by kernel_rfl) (by simp) ?_
            refine AllReadyH.cons Held.op1 (fun K hK => ?_) AllReadyH.nil
            go_simp
            refine hK.out _ _ ?_ (fun hHeld => ?_)
            · exact skv HKbp.out HXbp.out
            clear hK K
            try simp only [Act.put, List.setIfInBounds_toArray, List.set_cons_zero, List.set_cons_succ]
            refine wpAnyH_take (i := 6) (v := ?v23) Held.op6 (by kernel_rfl) (by kernel_rfl) (by kernel_rfl) (fun _ _ _ h => h) (Or.inl ⟨by rfl, ?hy23⟩) (by assumption) ?rest23
            case hy23 => (intro wq hSq; (try dsimp only at hSq); first | (go_simp; done) | (go_simp; with_reducible rfl))
            try simp only [Act.put, List.setIfInBounds_toArray, List.set_cons_zero, List.set_cons_succ]
            refine wpAnyH_ready (rs := [8]) (by kernel_rfl) (by simp) ?_
            refine AllReadyH.cons Held.op8 (fun K hK => ?_) AllReadyH.nil
            refine step_app_item rfl (.tmp 34) (.tmp 40) rfl (wq.heap.size + 1) (.slice A4 qs.length c4) qs rfl (own_below HRq.out.owns HP.out.1) ?_ (some ⟨W.heap.size, 0, none⟩) 1 1 [zeroPI] rfl (reads_one (p := zeroPI) HP.out.2.1) ?_ ?_
            · exact Nat.le_trans HvW.out HP.out.1.size
            · have := HQl.out; omega
            intro v7 w7 hown7 hg7 hor7
            obtain ⟨g7, cap7, rfl, hg7a, hg7b⟩ := hown7.form (Nat.succ_pos _)
            have HO7 := Lib.hid (show w7.ownsRow (wq.heap.size + 1) 34 7 (.slice (some ⟨g7, 0, none⟩) (qs.length + 1) cap7) (qs.length + 1) (rowC qs ++ rowC [zeroPI]) from hown7)
            have HE7 := Lib.hid (round_end HQq.out (x := x) (x' := ⟨x.b, x.i, x.s, x.k, x.n, x.t, x.l, A2, c2⟩) rfl HRq.out HBv.out HBl.out HRs.out hvbw HP.out.1 HP.out.2.2 HO7.out rfl hg7 hor7)
            have HBv7 := Lib.hid ((blk_below HBv.out HP.out.1).grown hg7 (fun e => by have := (HRq.out.owns.lt _ e.symm).1; omega))
            have HKb7 := Lib.hid (HKbp.out.grown hg7 (row_ne (own_below HRq.out.owns HP.out.1) HKbp.out (by decide)))
            have HXb7 := Lib.hid (HXbp.out.grown hg7 (row_ne (own_below HRq.out.owns HP.out.1) HXbp.out (by decide)))
            have z := seven_row HO7.out
            obtain ⟨⟨z0, z1, z2, z3, z4, z5, z6⟩, y0, y1, y2, y3, y4, y5, y6⟩ := z
            have x2 : w7.cell? ⟨wq.heap.size, 3, none⟩ = some (.slice A4 qs.length c4) := HBv7.out.cell 3
            have xf2 := HBv7.out.frozen 3
            have n1 : wq.heap.size ≠ g7 := by omega
            have n2 : g7 ≠ wq.heap.size := Ne.symm n1
            have n3 : kb ≠ g7 := fun e => row_ne HO7.out HKb7.out (by decide) (by rw [e]; rfl)
            have n4 : xb ≠ g7 := fun e => row_ne HO7.out HXb7.out (by decide) (by rw [e]; rfl)
            clear hown7 hg7 hor7
            refine hK.out _ _ ?_ (fun hHeld => ?_)
            · exact skv HKb7.out HXb7.out
            clear hK K
            try simp only [Act.put, List.setIfInBounds_toArray, List.set_cons_zero, List.set_cons_succ]
            refine wpAnyH_take (i := 9) (v := ?v24) Held.op9 (by kernel_rfl) (by kernel_rfl) (by kernel_rfl) (fun _ _ _ h => h) (Or.inl ⟨by rfl, ?hy24⟩) (by assumption) ?rest24
            case hy24 => (intro wq hSq; (try dsimp only at hSq); first | (go_simp; done) | (go_simp; with_reducible rfl))
            try simp only [Act.put, List.setIfInBounds_toArray, List.set_cons_zero, List.set_cons_succ]
            refine wpAnyH_take (i := 11) (v := ?v25) Held.op11 (by kernel_rfl) (by kernel_rfl) (by kernel_rfl) (fun _ _ _ h => h) (Or.inl ⟨by rfl, ?hy25⟩) (by assumption) ?rest25
            case hy25 => (intro wq hSq; (try dsimp only at hSq); first | (go_simp; done) | (go_simp; with_reducible rfl))
            try simp only [Act.put, List.setIfInBounds_toArray, List.set_cons_zero, List.set_cons_succ]
            refine wpAnyH_ready (rs := [10, 12]) (by kernel_rfl) (by simp) ?_
            refine AllReadyH.cons Held.op10 (fun K hK => ?_) (AllReadyH.cons Held.op12 (fun K hK => ?_) AllReadyH.nil)
            · go_simp
              refine hK.out _ _ ?_ (fun hHeld => ?_)
              · exact skv (HKb7.out.keeps (fill_keeps _ g7 (qs.length * 7) ⟨x.b, x.i, x.s, x.k, x.n, x.t, x.l, A2, c2⟩) n3) (HXb7.out.keeps (fill_keeps _ g7 (qs.length * 7) ⟨x.b, x.i, x.s, x.k, x.n, x.t, x.l, A2, c2⟩) n4)
              clear hK K
              try simp only [Act.put, List.setIfInBounds_toArray, List.set_cons_zero, List.set_cons_succ]
              refine wpAnyH_ready (rs := [12]) (by kernel_rfl) (by simp) ?_
              refine AllReadyH.cons Held.op12 (fun K hK => ?_) AllReadyH.nil
              go_simp
              refine hK.out _ _ ?_ (fun hHeld => ?_)
              · exact skv ((HKb7.out.keeps (fill_keeps _ g7 (qs.length * 7) ⟨x.b, x.i, x.s, x.k, x.n, x.t, x.l, A2, c2⟩) n3).far nkv _) ((HXb7.out.keeps (fill_keeps _ g7 (qs.length * 7) ⟨x.b, x.i, x.s, x.k, x.n, x.t, x.l, A2, c2⟩) n4).far nxv _)
              clear hK K
              try simp only [Act.put, List.setIfInBounds_toArray, List.set_cons_zero, List.set_cons_succ]
              refine wpAnyH_done (by kernel_rfl) ?_ _
              exact ⟨rfl, HE7.out.1⟩
            · go_simp
              refine hK.out _ _ ?_ (fun hHeld => ?_)
              · exact skv (HKb7.out.far nkv _) (HXb7.out.far nxv _)
              clear hK K
              try simp only [Act.put, List.setIfInBounds_toArray, List.set_cons_zero, List.set_cons_succ]
              refine wpAnyH_ready (rs := [10]) (by kernel_rfl) (by simp) ?_
              refine AllReadyH.cons Held.op10 (fun K hK => ?_) AllReadyH.nil
              go_simp
              refine hK.out _ _ ?_ (fun hHeld => ?_)
              · exact skv ((HKb7.out.far nkv _).keeps (fill_keeps _ g7 (qs.length * 7) ⟨x.b, x.i, x.s, x.k, x.n, x.t, x.l, A2, c2⟩) n3) ((HXb7.out.far nxv _).keeps (fill_keeps _ g7 (qs.length * 7) ⟨x.b, x.i, x.s, x.k, x.n, x.t, x.l, A2, c2⟩) n4)
              clear hK K
              try simp only [Act.put, List.setIfInBounds_toArray, List.set_cons_zero, List.set_cons_succ]
              refine wpAnyH_done (by kernel_rfl) ?_ _
              exact ⟨rfl, HE7.out.2⟩
      case done =>
        intro D W hD hM hK
        have hDl := (Array.getElem?_eq_some_iff.1 hK).1
        obtain ⟨⟨sv2, qs, hqq, hrq, hbv⟩, hbl, hrs⟩ := hM.out
        obtain ⟨A4, c4, rfl⟩ := hrq.form
        have hVin := hrq.vin 4 nx ⟨#[]⟩
        rw [hqq] at hVin
        have hVat : VAt W W.heap.size (.mk 4 nx ⟨#[]⟩ (ps.map PI.it)) (.agg #[.int .i64 4, .int .i64 nx, .string ⟨#[]⟩, .slice A4 qs.length c4]) := hVin.at_ (fun b _ h => h.2) (fun b h => h.2)
        have hFq : Fit (.mk 4 nx ⟨#[]⟩ (ps.map PI.it)) := by
          refine Fit.mk _ _ _ _ ⟨by decide, by decide⟩ HX.out (Nat.zero_le _) (fun i it hit => ?_) (fun i it hit => ?_)
          · rw [List.getElem?_map] at hit
            obtain ⟨p, hp, rfl⟩ := Option.map_eq_some_iff.1 hit
            exact (HVk.out p (List.mem_of_getElem? hp)).1
          · rw [List.getElem?_map] at hit
            obtain ⟨p, hp, rfl⟩ := Option.map_eq_some_iff.1 hit
            exact (HVk.out p (List.mem_of_getElem? hp)).2.2.1
        have hRt := right_any (Nat.le_refl _) (fun wz hz => HLb.out wz ((Hb.out.trans (hbl.mono hB')).trans (hz.mono (Nat.le_trans hB' hbl.size)))) hVat hFq W (Below.refl _ _)
        have y0 : W.cell? ⟨wq.heap.size, 0, none⟩ = some (.int .i64 4) := hbv.cell 0
        have y1 : W.cell? ⟨wq.heap.size, 1, none⟩ = some (.int .i64 nx) := hbv.cell 1
        have y2 : W.cell? ⟨wq.heap.size, 2, none⟩ = some (.string ⟨#[]⟩) := hbv.cell 2
        have y3 : W.cell? ⟨wq.heap.size, 3, none⟩ = some (.slice A4 qs.length c4) := hbv.cell 3
        clear hVin hVat hFq HVk HLw HBx HM0 HVw hM
        cases hrt : rightB (.mk 4 nx ⟨#[]⟩ (ps.map PI.it)) with
        | true =>
          rw [hrt] at hRt
          have HRt := Lib.hid hRt
          clear hRt
          gi_wp2_with (refine ⟨trivial, ?_⟩; gi_at_call 20; refine (callsIn_wide.2 HRt.out).mono ?_; rintro e w3 ⟨rfl, hb3⟩; have HB3 := Lib.hid hb3; have z0 : w3.cell? ⟨w'.heap.size, 0, none⟩ = some (.int .i64 0) := (blk_below hrs hb3).cell 0; have z1 : w3.cell? ⟨w'.heap.size, 1, none⟩ = some (.int .i64 0) := (blk_below hrs hb3).cell 1; have z2 : w3.cell? ⟨w'.heap.size, 2, none⟩ = some (.string ⟨#[]⟩) := (blk_below hrs hb3).cell 2; have z3 : w3.cell? ⟨w'.heap.size, 3, none⟩ = some (.slice none 0 0) := (blk_below hrs hb3).cell 3; have zf0 := (blk_below hrs hb3).frozen 0; have zf1 := (blk_below hrs hb3).frozen 1; have zf2 := (blk_below hrs hb3).frozen 2; have zf3 := (blk_below hrs hb3).frozen 3; have y0 : w3.cell? ⟨wq.heap.size, 0, none⟩ = some (.int .i64 4) := (blk_below hbv hb3).cell 0; have y1 : w3.cell? ⟨wq.heap.size, 1, none⟩ = some (.int .i64 nx) := (blk_below hbv hb3).cell 1; have y2 : w3.cell? ⟨wq.heap.size, 2, none⟩ = some (.string ⟨#[]⟩) := (blk_below hbv hb3).cell 2; have y3 : w3.cell? ⟨wq.heap.size, 3, none⟩ = some (.slice A4 qs.length c4) := (blk_below hbv hb3).cell 3; clear hb3)
          have HS4 := Lib.hid (store4 (blk_below hrs HB3.out) (.int .i64 4) (.int .i64 nx) (.string ⟨#[]⟩) (.slice A4 qs.length c4))
          have hDf := (HS4.out.2.block D (Nat.lt_of_lt_of_le hDl HB3.out.size) (by omega)).trans ((HB3.out.block D hDl).trans hK)
          have hBf := (hbl.trans (HB3.out.mono hbl.size)).trans (HS4.out.2.below (Nat.le_trans hbl.size HB3.out.size) (fun j e => by rw [e]; exact Nat.le_refl _))
          have hRf := row_keeps (hrq.below HB3.out) HS4.out.2 (by omega)
          generalize (((w3.setCell ⟨w'.heap.size, 0, none⟩ (.int .i64 4)).setCell ⟨w'.heap.size, 1, none⟩ (.int .i64 nx)).setCell ⟨w'.heap.size, 2, none⟩ (.string ⟨#[]⟩)).setCell ⟨w'.heap.size, 3, none⟩ (.slice A4 qs.length c4) = wf at *
          have e0 : (wf.putObj D (.deferred none)).cell? ⟨w'.heap.size, 0, none⟩ = some (.int .i64 4) := (cell_put hDf rfl rfl _).trans (HS4.out.1.cell 0)
          have e1 : (wf.putObj D (.deferred none)).cell? ⟨w'.heap.size, 1, none⟩ = some (.int .i64 nx) := (cell_put hDf rfl rfl _).trans (HS4.out.1.cell 1)
          have e2 : (wf.putObj D (.deferred none)).cell? ⟨w'.heap.size, 2, none⟩ = some (.string ⟨#[]⟩) := (cell_put hDf rfl rfl _).trans (HS4.out.1.cell 2)
          have e3 : (wf.putObj D (.deferred none)).cell? ⟨w'.heap.size, 3, none⟩ = some (.slice A4 qs.length c4) := (cell_put hDf rfl rfl _).trans (HS4.out.1.cell 3)
          refine ⟨by simp, .inl ⟨_, _, rfl, run_takeDeferred hDf, ?_⟩⟩
          refine ⟨.tuple #[.agg #[.int .i64 4, .int .i64 nx, .string ⟨#[]⟩, .slice A4 qs.length c4], .int .i64 0], by simp [results, Tryz.results6, go_sem, e0, e1, e2, e3], 4, nx, .slice A4 qs.length c4, qs, 0, rfl, ?_, (row_put hRf hDf rfl rfl).mono (by omega), below_put hBf hDf (by omega) _⟩
          unfold madeG
          rw [HGe.out]
          simp only
          rw [if_pos hrt, hqq]
        | false =>
          rw [hrt] at hRt
          have HRt := Lib.hid hRt
          clear hRt
          gi_wp2_with (refine ⟨trivial, ?_⟩; gi_at_call 20; refine (callsIn_wide.2 HRt.out).mono ?_; rintro e w3 ⟨rfl, hb3⟩; have HB3 := Lib.hid hb3; have z0 : w3.cell? ⟨w'.heap.size, 0, none⟩ = some (.int .i64 0) := (blk_below hrs hb3).cell 0; have z1 : w3.cell? ⟨w'.heap.size, 1, none⟩ = some (.int .i64 0) := (blk_below hrs hb3).cell 1; have z2 : w3.cell? ⟨w'.heap.size, 2, none⟩ = some (.string ⟨#[]⟩) := (blk_below hrs hb3).cell 2; have z3 : w3.cell? ⟨w'.heap.size, 3, none⟩ = some (.slice none 0 0) := (blk_below hrs hb3).cell 3; have zf0 := (blk_below hrs hb3).frozen 0; have zf1 := (blk_below hrs hb3).frozen 1; have zf2 := (blk_below hrs hb3).frozen 2; have zf3 := (blk_below hrs hb3).frozen 3; have y0 : w3.cell? ⟨wq.heap.size, 0, none⟩ = some (.int .i64 4) := (blk_below hbv hb3).cell 0; have y1 : w3.cell? ⟨wq.heap.size, 1, none⟩ = some (.int .i64 nx) := (blk_below hbv hb3).cell 1; have y2 : w3.cell? ⟨wq.heap.size, 2, none⟩ = some (.string ⟨#[]⟩) := (blk_below hbv hb3).cell 2; have y3 : w3.cell? ⟨wq.heap.size, 3, none⟩ = some (.slice A4 qs.length c4) := (blk_below hbv hb3).cell 3; clear hb3)
          have HS4 := Lib.hid (store4 (blk_below hrs HB3.out) (.int .i64 0) (.int .i64 0) (.string ⟨#[]⟩) (.slice none 0 0))
          have hDf := (HS4.out.2.block D (Nat.lt_of_lt_of_le hDl HB3.out.size) (by omega)).trans ((HB3.out.block D hDl).trans hK)
          have hBf := (hbl.trans (HB3.out.mono hbl.size)).trans (HS4.out.2.below (Nat.le_trans hbl.size HB3.out.size) (fun j e => by rw [e]; exact Nat.le_refl _))
          have hRf := row_keeps (hrq.below HB3.out) HS4.out.2 (by omega)
          generalize (((w3.setCell ⟨w'.heap.size, 0, none⟩ (.int .i64 0)).setCell ⟨w'.heap.size, 1, none⟩ (.int .i64 0)).setCell ⟨w'.heap.size, 2, none⟩ (.string ⟨#[]⟩)).setCell ⟨w'.heap.size, 3, none⟩ (.slice none 0 0) = wf at *
          have e0 : (wf.putObj D (.deferred none)).cell? ⟨w'.heap.size, 0, none⟩ = some (.int .i64 0) := (cell_put hDf rfl rfl _).trans (HS4.out.1.cell 0)
          have e1 : (wf.putObj D (.deferred none)).cell? ⟨w'.heap.size, 1, none⟩ = some (.int .i64 0) := (cell_put hDf rfl rfl _).trans (HS4.out.1.cell 1)
          have e2 : (wf.putObj D (.deferred none)).cell? ⟨w'.heap.size, 2, none⟩ = some (.string ⟨#[]⟩) := (cell_put hDf rfl rfl _).trans (HS4.out.1.cell 2)
          have e3 : (wf.putObj D (.deferred none)).cell? ⟨w'.heap.size, 3, none⟩ = some (.slice none 0 0) := (cell_put hDf rfl rfl _).trans (HS4.out.1.cell 3)
          refine ⟨by simp, .inl ⟨_, _, rfl, run_takeDeferred hDf, ?_⟩⟩
          refine ⟨.tuple #[.agg #[.int .i64 0, .int .i64 0, .string ⟨#[]⟩, .slice none 0 0], .int .i64 1], by simp [results, Tryz.results6, go_sem, e0, e1, e2, e3], 0, 0, .slice none 0 0, [], 1, rfl, ?_, RowSt.nil _ _, below_put hBf hDf (by omega) _⟩
          unfold madeG
          rw [HGe.out]
          simp only
          rw [if_neg (by rw [hrt]; decide)]
          rfl
end
end Dp
end Go.Proofs.YtnbhaokbaonjkaaGreatDoor
