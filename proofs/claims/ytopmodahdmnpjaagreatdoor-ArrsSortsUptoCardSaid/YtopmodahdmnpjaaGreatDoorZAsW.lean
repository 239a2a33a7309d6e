/- arrs.sorted of a row of numbers: the walk. -/
import Derived.Test.YtopmodahdmnpjaaGreatDoorZAsV
namespace Go.Proofs.YtopmodahdmnpjaaGreatDoor
open Go Go.RowKit
namespace Dp
open Go.Proofs.YtopmodahdmnpjaaGreatDoor.As (Ord Fits SortOf insAt numI numI_get numI_len)
section
variable {w : World} {B : Nat}
set_option maxRecDepth 100000 in
set_option maxHeartbeats 4000000 in
theorem sorted_any (hBw : B ≤ w.heap.size) (hLib : ∀ w', Below B w w' → LibS w') (ns : List Int) (l : List GI) (hln : l.length = ns.length) (A : Option Addr) (c bb off : Nat) (C : Nat → Value) (hA : 0 < l.length → A = some ⟨bb, off, none⟩ ∧ bb < B)
    (hi : ∀ i it, l[i]? = some it → ItemAt w bb (off + i * 7) it (C i)) (hv : ∀ i it, l[i]? = some it → VAt w B it.val (C i))
    (hnum : ∀ (i : Nat) (it : GI), l[i]? = some it → ∃ x, ns[i]? = some x ∧ In64 x ∧ it.val = .mk 2 x ⟨#[]⟩ []) (hl : l.length ≤ 2048) (bk : Bool) (w' : World) (hb : Below B w w')
    (ab ao ac : Nat) (k n : Int) (t : ByteArray) (hab : ab < w'.heap.size) (h0 : w'.cell? ⟨ab, ao, none⟩ = some (.int .i64 k)) (h1 : w'.cell? ⟨ab, ao + 1, none⟩ = some (.int .i64 n)) (h2 : w'.cell? ⟨ab, ao + 2, none⟩ = some (.string t)) (h3 : w'.cell? ⟨ab, ao + 3, none⟩ = some (.slice A l.length c)) :
    Calls Tryz.prog 54 #[.slice (some ⟨ab, ao, none⟩) 1 ac, .bool bk, .bool false, .bool false] w' fun e w2 => ∃ vs sv2 ps, SortOf bk ns vs ∧ e = .returned (.tuple #[.agg #[.int .i64 4, .int .i64 l.length, .string ⟨#[]⟩, sv2], .int .i64 0]) ∧ ps.map PI.it = numI vs 0 ∧ w2.ownsRow w'.heap.size 34 7 sv2 ps.length (rowC ps) ∧ (∀ q ∈ ps, NIt q) ∧ Below w'.heap.size w' w2 := by
  have hB' : B ≤ w'.heap.size := Nat.le_trans hBw hb.size
  have HA := Lib.hid hA
  have HI := Lib.hid hi
  have HV := Lib.hid hv
  have HNum := Lib.hid hnum
  have Hb := Lib.hid hb
  have HLb := Lib.hid hLib
  have HLn := Lib.hid hln
  have hs1 : ∀ o, (w'.alloc o).heap.size = w'.heap.size + 1 := fun o => by simp
  have hs2 : ∀ o o', ((w'.alloc o).alloc o').heap.size = w'.heap.size + 1 + 1 := fun o o' => by simp
  have HItm := Lib.hid (fun wx (hz : Below w'.heap.size w' wx) => items_arg wx ab ao ac A l.length c k n t ((hz.cell hab).trans h0) ((hz.cell hab).trans h1) ((hz.cell hab).trans h2) ((hz.cell hab).trans h3))
  have hB0 := (((Below.refl w'.heap.size w').alloc (Nat.le_refl _) (.cells #[.bool false] 4)).alloc (by simp) (.cells #[.bool false] 4)).alloc (by simp; omega) (.cells #[.int .i64 0, .int .i64 0, .string ⟨#[]⟩, .slice none 0 0] 24)
  have HB0 := Lib.hid hB0
  have HK0 := Lib.hid (((Blk.new w' 4 #[.bool false]).alloc (.cells #[.bool false] 4)).alloc (.cells #[.int .i64 0, .int .i64 0, .string ⟨#[]⟩, .slice none 0 0] 24))
  have hk1 := (Blk.new (w'.alloc (.cells #[.bool false] 4)) 4 #[.bool false]).alloc (.cells #[.int .i64 0, .int .i64 0, .string ⟨#[]⟩, .slice none 0 0] 24)
  rw [hs1] at hk1
  have HK1 := Lib.hid hk1
  have hk2 := Blk.new ((w'.alloc (.cells #[.bool false] 4)).alloc (.cells #[.bool false] 4)) 24 #[.int .i64 0, .int .i64 0, .string ⟨#[]⟩, .slice none 0 0]
  rw [hs2] at hk2
  have HZ0 := Lib.hid hk2
  clear hA hi hv hnum hb hLib hln hB0 hk1 hk2 h0 h1 h2 h3
  go_enter Tryz.func54, Tryz.ntmps54
  go_upto_region 3 with fail
  generalize ((w'.alloc (.cells #[.bool false] 4)).alloc (.cells #[.bool false] 4)).alloc (.cells #[.int .i64 0, .int .i64 0, .string ⟨#[]⟩, .slice none 0 0] 24) = wk at *
  go_wp2_with (go_at_call 21; refine (HItm.out _ HB0.out).mono ?_; rintro e w3 ⟨rfl, hb3⟩; have HB3 := Lib.hid (HB0.out.trans (hb3.mono HB0.out.size)); have HK03 := Lib.hid (blk_below HK0.out hb3); have HK13 := Lib.hid (blk_below HK1.out hb3); have HZ3 := Lib.hid (blk_below HZ0.out hb3); clear hb3)
  go_loopw [11, 21] (fun xs xi wx => ∃ (j : Nat) (ps : List PI), j ≤ l.length ∧ xi = .int .i64 j ∧ Hid (ps.length = j) ∧ Hid (wx.ownsRow (w'.heap.size + 1 + 1 + 1) 34 7 xs ps.length (rowC ps)) ∧ Hid (SortOf bk (ns.take j) (ps.map PI.n)) ∧ Hid (∀ q ∈ ps, NIt q) ∧ Hid (Below w'.heap.size w' wx) ∧ Hid (Blk wx w'.heap.size 4 #[.bool false]) ∧ Hid (Blk wx (w'.heap.size + 1) 4 #[.bool false]) ∧ Hid (Blk wx (w'.heap.size + 1 + 1) 24 #[.int .i64 0, .int .i64 0, .string ⟨#[]⟩, .slice none 0 0])) (fun _ xi _ => l.length - (ixOf xi).toNat)
  case atStart => exact ⟨0, [], Nat.zero_le _, rfl, rfl, World.ownsRow_nil _ _ _ _, SortOf.nil _, fun q hq => (by cases hq), HB3, HK03, HK13, HZ3⟩
  case round =>
    obtain ⟨j, ps, hj, rfl, Hpl, HO, HSo, HNs, HB, HK0, HK1, HZ⟩ := hrel
    clear HB0 HB3 HK03 HK13 HZ3 HZ0
    by_cases hlt : j < l.length
    · obtain ⟨it, hit⟩ : ∃ it, l[j]? = some it := ⟨_, List.getElem?_eq_getElem hlt⟩
      obtain ⟨rfl, hbB⟩ := HA.out (by omega)
      have hbw : Below B w wr := Hb.out.trans (HB.out.mono hB')
      have hwr := HB.out.size
      have hzr := HZ.out.lt
      obtain ⟨c0, c1, c2, v0, v1, v2, v3, e, c3', c4, c5, c6⟩ := (HI.out j it hit).below hbw hbB
      obtain ⟨x, hnx, hx64, hxv⟩ := HNum.out j it hit
      have hform := HV.out j it hit
      rw [e] at hform
      obtain ⟨ib, ii, is, iv⟩ := it
      simp only [GI.val, GI.isText, GI.int, GI.text] at hform hxv c0 c1 c2
      subst hxv
      obtain ⟨rfl, rfl, rfl, A1, e1, rfl⟩ := vat_form2 hform
      have hlz : ([] : List GI).length = 0 := rfl
      rw [hlz] at c6
      have hbi := (Below.refl wr.heap.size wr).alloc (Nat.le_refl _) (.cells #[.bool ib, .int .i64 ii, .string is, .int .i64 2, .int .i64 x, .string ⟨#[]⟩, .slice A1 0 e1] 34)
      have HOi := Lib.hid (HO.out.alloc (.cells #[.bool ib, .int .i64 ii, .string is, .int .i64 2, .int .i64 x, .string ⟨#[]⟩, .slice A1 0 e1] 34))
      have HBi := Lib.hid (HB.out.trans (hbi.mono hwr))
      have HK0i := Lib.hid (blk_below HK0.out hbi)
      have HK1i := Lib.hid (blk_below HK1.out hbi)
      have HZi := Lib.hid (blk_below HZ.out hbi)
      have HIi := Lib.hid (Blk.new wr 34 #[.bool ib, .int .i64 ii, .string is, .int .i64 2, .int .i64 x, .string ⟨#[]⟩, .slice A1 0 e1])
      have HIz := Blk.new wr 34 #[.bool false, .int .i64 0, .string ⟨#[]⟩, .int .i64 0, .int .i64 0, .string ⟨#[]⟩, .slice none 0 0]
      have zf0 := HIz.frozen 0
      have zf1 := HIz.frozen 1
      have zf2 := HIz.frozen 2
      have zf3 := HIz.frozen 3
      have zf4 := HIz.frozen 4
      have zf5 := HIz.frozen 5
      have zf6 := HIz.frozen 6
      have hIx : (j : Int) < (l.length : Int) := by omega
      have HX := Lib.hid (And.intro hnx hx64)
      obtain ⟨Ao, co, hso⟩ := own_form0 HO.out
      rw [Hpl.out] at hso
      subst hso
      clear hform hbi hbw HB HK0 HK1 HZ HO HI HV HNum hlz e hnx hx64 HIz
      go_upto_region 6 with fail
      clear zf0 zf1 zf2 zf3 zf4 zf5 zf6
      generalize wr.alloc (.cells #[.bool ib, .int .i64 ii, .string is, .int .i64 2, .int .i64 x, .string ⟨#[]⟩, .slice A1 0 e1] 34) = wi at *
      generalize wr.heap.size = X at *
      go_wp2_with fail
      go_loopw [14] (fun xa wx => ∃ a : Nat, a ≤ j ∧ xa = .int .i64 a ∧ Hid (∀ i y, a ≤ i → (ps.map PI.n)[i]? = some y → ¬ Ord bk y x) ∧ Hid (Below wi.heap.size wi wx)) (fun xa _ => (ixOf xa).toNat)
      case atStart =>
        refine ⟨j, Nat.le_refl _, rfl, fun i y hi hy => ?_, Below.refl _ _⟩
        have := (List.getElem?_eq_some_iff.1 hy).1
        rw [List.length_map, Hpl.out] at this
        omega
      case round =>
        obtain ⟨a, ha, rfl, HF, HBx⟩ := hrel
        cases a with
        | zero =>
          have HFt : Hid (Fits bk (ps.map PI.n) x 0) := ⟨Nat.zero_le _, fun i y hi hy => HF.out i y hi hy, fun y h => absurd h (by decide)⟩
          have hbx := HBx.out
          have hIx2 := blk_below HIi.out hbx
          have d0 := hIx2.cell 0
          have d1 := hIx2.cell 1
          have d2 := hIx2.cell 2
          have d3 := hIx2.cell 3
          have d4 := hIx2.cell 4
          have d5 := hIx2.cell 5
          have d6 := hIx2.cell 6
          have hwx := hbx.size
          have hXl := HIi.out.lt
          have hal := (Below.refl wr.heap.size wr).alloc (Nat.le_refl _) (.cells #[.bool ib, .int .i64 ii, .string is, .int .i64 2, .int .i64 x, .string ⟨#[]⟩, .slice A1 0 e1] 34)
          have hOr := own_below HOi.out hbx
          have HOr2 := Lib.hid (hOr.alloc (.cells #[.bool ib, .int .i64 ii, .string is, .int .i64 2, .int .i64 x, .string ⟨#[]⟩, .slice A1 0 e1] 34))
          have HIns := Lib.hid (insert_any (wr.alloc (.cells #[.bool ib, .int .i64 ii, .string is, .int .i64 2, .int .i64 x, .string ⟨#[]⟩, .slice A1 0 e1] 34)) 0 HOr2.out (by have := hal.size; omega) (by rw [Hpl.out]; omega) (by rw [Hpl.out]; omega) wr.heap.size 1 ⟨ib, ii, is, 2, x, ⟨#[]⟩, [], A1, e1⟩ (Blk.new wr 34 #[.bool ib, .int .i64 ii, .string is, .int .i64 2, .int .i64 x, .string ⟨#[]⟩, .slice A1 0 e1]) (fun e => by have := (hOr.lt _ e.symm).2; omega))
          have hbn : Below (w'.heap.size + 1 + 1 + 1) wi (wr.alloc (.cells #[.bool ib, .int .i64 ii, .string is, .int .i64 2, .int .i64 x, .string ⟨#[]⟩, .slice A1 0 e1] 34)) := (hbx.mono (by omega)).trans (hal.mono (by omega))
          have HBn := Lib.hid hbn
          clear hal hOr hIx2 hbx hbn
          go_wp2_with (go_at_call 122; refine HIns.out.mono ?_; rintro e w5 ⟨sv5, rfl, hO5, hg5⟩; have HO5 := Lib.hid hO5; have HG5 := Lib.hid hg5; clear hO5 hg5)
          have hn5 := HBn.out.trans (below_grown HG5.out (Nat.le_trans (by omega) HBn.out.size) (fun k e => (HOi.out.lt k e).1))
          go_roundw
          case rel => exact ⟨j + 1, ps.take (0) ++ ⟨ib, ii, is, 2, x, ⟨#[]⟩, [], A1, e1⟩ :: ps.drop (0), by omega, by go_num, ins_len Hpl.out (by omega), ins_own HO5.out Hpl.out (by omega), ins_sort HSo.out HFt.out HX.out.1, ins_nit HNs.out ⟨rfl, rfl, rfl, HX.out.2⟩, HBi.out.trans (hn5.mono (by omega)), HK0i.out.below hn5 (by omega), HK1i.out.below hn5 (by omega), HZi.out.below hn5 (by omega)⟩
          case measure => simp [ixOf] <;> omega
        | succ b =>
          obtain ⟨q, hq⟩ : ∃ q, ps[b]? = some q := ⟨_, List.getElem?_eq_getElem (by rw [Hpl.out]; omega)⟩
          obtain ⟨q1, q2, q3, q4⟩ := HNs.out q (List.mem_of_getElem? hq)
          obtain ⟨qb, qi, qs, qk, qn, qt, ql, qA, qc⟩ := q
          simp only at q1 q2 q3 q4
          subst q1 q2 q3
          obtain ⟨g, rfl⟩ : ∃ g, Ao = some ⟨g, 0, none⟩ := by
            rcases HOi.out.2 with ⟨e, h0⟩ | ⟨g, cap, cur, e, _⟩
            · exfalso
              rw [Hpl.out] at h0
              omega
            · injection e with e _ _
              exact ⟨g, e⟩
          have HSt : Hid (∀ wz, Below wi.heap.size wi wz → wz.cell? ⟨g, b * 7, none⟩ = some (.bool qb) ∧ wz.cell? ⟨g, b * 7 + 1, none⟩ = some (.int .i64 qi) ∧ wz.cell? ⟨g, b * 7 + 2, none⟩ = some (.string qs) ∧ wz.cell? ⟨g, b * 7 + 3, none⟩ = some (.int .i64 2) ∧ wz.cell? ⟨g, b * 7 + 4, none⟩ = some (.int .i64 qn) ∧ wz.cell? ⟨g, b * 7 + 5, none⟩ = some (.string ⟨#[]⟩) ∧ wz.cell? ⟨g, b * 7 + 6, none⟩ = some (.slice qA 0 qc) ∧ wz.cell? ⟨X, 0, none⟩ = some (.bool ib) ∧ wz.cell? ⟨X, 1, none⟩ = some (.int .i64 ii) ∧ wz.cell? ⟨X, 2, none⟩ = some (.string is) ∧ wz.cell? ⟨X, 3, none⟩ = some (.int .i64 2) ∧ wz.cell? ⟨X, 4, none⟩ = some (.int .i64 x) ∧ wz.cell? ⟨X, 5, none⟩ = some (.string ⟨#[]⟩) ∧ wz.cell? ⟨X, 6, none⟩ = some (.slice A1 0 e1)) := fun wz hz => by
            have ho := own_below HOi.out hz
            rw [Hpl.out] at ho
            have hr := item_row ho Hpl.out hq
            have hi := blk_below HIi.out hz
            exact ⟨hr 0 (by decide), hr 1 (by decide), hr 2 (by decide), hr 3 (by decide), hr 4 (by decide), hr 5 (by decide), hr 6 (by decide), hi.cell 0, hi.cell 1, hi.cell 2, hi.cell 3, hi.cell 4, hi.cell 5, hi.cell 6⟩
          have HOf := Lib.hid (fun wz (hz : Below wi.heap.size wi wz) => of_any wz w'.heap.size ((blk_below HK0i.out hz).cell 0))
          have HOr := Lib.hid (fun wz (hz : Below wi.heap.size wi wz) => dOrder_i hBw HLb.out (vat_num w B qn qA qc) (fit_i q4) (vat_num w B x A1 e1) (fit_i HX.out.2) wz (Hb.out.trans ((HBi.out.trans (hz.mono HBi.out.size)).mono hB')))
          have hc := cmpI_cases qn x
          generalize cmpI qn x = r at HOr hc
          have HZ0 := Lib.hid (drewN' HBx.out 1)
          have HQ : Hid ((ps.map PI.n)[b]? = some qn) := by
            show _ = _
            rw [List.getElem?_map, hq]
            rfl
          have HC := Lib.hid hc
          have hbj : b < j := by omega
          have hIb : (b : Int) < (j : Int) := by omega
          have hI1 : ((b + 1 : Nat) : Int) - 1 = (b : Int) := by omega
          have hI0 : (0 : Int) ≤ (b : Int) := by omega
          have hI3 : ¬ (b : Int) < 0 := by omega
          have hI4 : ¬ ((j : Int) ≤ (b : Int)) := by omega
          have hI5 : ¬ (j ≤ b) := by omega
          have hW0 : IntKind.i64.wrap (b : Int) = (b : Int) := by rw [IntKind.wrap_i64]; omega
          have hW1 : IntKind.i64.wrap (((b + 1 : Nat) : Int) - 1) = (b : Int) := by rw [IntKind.wrap_i64]; omega
          have hW2 : IntKind.i64.wrap ((b : Int) + 1 - 1) = (b : Int) := by rw [IntKind.wrap_i64]; omega
          have hI2 : (b : Int) + 1 - 1 = (b : Int) := by omega
          clear hq q4 hc
          go_wp2_with fail
          go_region_held3 (fun wz => wz.cell? ⟨g, b * 7, none⟩ = some (.bool qb) ∧ wz.cell? ⟨g, b * 7 + 1, none⟩ = some (.int .i64 qi) ∧ wz.cell? ⟨g, b * 7 + 2, none⟩ = some (.string qs) ∧ wz.cell? ⟨g, b * 7 + 3, none⟩ = some (.int .i64 2) ∧ wz.cell? ⟨g, b * 7 + 4, none⟩ = some (.int .i64 qn) ∧ wz.cell? ⟨g, b * 7 + 5, none⟩ = some (.string ⟨#[]⟩) ∧ wz.cell? ⟨g, b * 7 + 6, none⟩ = some (.slice qA 0 qc) ∧ wz.cell? ⟨X, 0, none⟩ = some (.bool ib) ∧ wz.cell? ⟨X, 1, none⟩ = some (.int .i64 ii) ∧ wz.cell? ⟨X, 2, none⟩ = some (.string is) ∧ wz.cell? ⟨X, 3, none⟩ = some (.int .i64 2) ∧ wz.cell? ⟨X, 4, none⟩ = some (.int .i64 x) ∧ wz.cell? ⟨X, 5, none⟩ = some (.string ⟨#[]⟩) ∧ wz.cell? ⟨X, 6, none⟩ = some (.slice A1 0 e1)) (first | exact HSt.out _ HZ0.out | exact HSt.out _ HZ1.out | exact HSt.out _ HZ2.out | exact HSt.out _ HZ3.out)
            (first
              | (go_at_call 120; refine (HOf.out _ HZ0.out _ _ _ _ _ _ _ _ _).mono ?_; rintro e w1 ⟨rfl, hb1⟩; have HZ1 := Lib.hid (HZ0.out.trans (hb1.mono HZ0.out.size)); clear hb1)
              | (go_at_call 120; refine (HOf.out _ HZ1.out _ _ _ _ _ _ _ _ _).mono ?_; rintro e w2 ⟨rfl, hb2⟩; have HZ2 := Lib.hid (HZ1.out.trans (hb2.mono HZ1.out.size)); clear hb2)
              | (go_at_call 121; refine (HOr.out _ HZ2.out).mono ?_; rintro e w3 ⟨rfl, hb3⟩; have HZ3 := Lib.hid (HZ2.out.trans (hb3.mono HZ2.out.size)); clear hb3))
          clear HOf HOr HSt HZ0 HZ1 HZ2 hI0 hI3 hI4 hI5 hW0 hW1 hW2 hI1 hI2 hIb HBx
          by_cases hOrd : Ord bk qn x
          · have HFt : Hid (Fits bk (ps.map PI.n) x (b + 1)) := ⟨by rw [List.length_map, Hpl.out]; omega, fun i y hi hy => HF.out i y hi hy, fun y _ hy => by
              rw [Nat.add_sub_cancel, HQ.out] at hy
              injection hy with hy
              rw [← hy]
              exact hOrd⟩
            rcases ord_yes hOrd HC.out with ⟨rfl, hr0⟩ | ⟨rfl, rfl⟩ | ⟨rfl, rfl⟩
            all_goals
              clear hOrd HC HQ HF
              have hbx := HZ3.out
              have hIx2 := blk_below HIi.out hbx
              have d0 := hIx2.cell 0
              have d1 := hIx2.cell 1
              have d2 := hIx2.cell 2
              have d3 := hIx2.cell 3
              have d4 := hIx2.cell 4
              have d5 := hIx2.cell 5
              have d6 := hIx2.cell 6
              have hwx := hbx.size
              have hXl := HIi.out.lt
              have hal := (Below.refl w3.heap.size w3).alloc (Nat.le_refl _) (.cells #[.bool ib, .int .i64 ii, .string is, .int .i64 2, .int .i64 x, .string ⟨#[]⟩, .slice A1 0 e1] 34)
              have hOr := own_below HOi.out hbx
              have HOr2 := Lib.hid (hOr.alloc (.cells #[.bool ib, .int .i64 ii, .string is, .int .i64 2, .int .i64 x, .string ⟨#[]⟩, .slice A1 0 e1] 34))
              have HIns := Lib.hid (insert_any (w3.alloc (.cells #[.bool ib, .int .i64 ii, .string is, .int .i64 2, .int .i64 x, .string ⟨#[]⟩, .slice A1 0 e1] 34)) (b + 1) HOr2.out (by have := hal.size; omega) (by rw [Hpl.out]; omega) (by rw [Hpl.out]; omega) w3.heap.size 1 ⟨ib, ii, is, 2, x, ⟨#[]⟩, [], A1, e1⟩ (Blk.new w3 34 #[.bool ib, .int .i64 ii, .string is, .int .i64 2, .int .i64 x, .string ⟨#[]⟩, .slice A1 0 e1]) (fun e => by have := (hOr.lt _ e.symm).2; omega))
              have hbn : Below (w'.heap.size + 1 + 1 + 1) wi (w3.alloc (.cells #[.bool ib, .int .i64 ii, .string is, .int .i64 2, .int .i64 x, .string ⟨#[]⟩, .slice A1 0 e1] 34)) := (hbx.mono (by omega)).trans (hal.mono (by omega))
              have HBn := Lib.hid hbn
              clear hal hOr hIx2 hbx hbn
              go_wp2_with (go_at_call 122; refine HIns.out.mono ?_; rintro e w5 ⟨sv5, rfl, hO5, hg5⟩; have HO5 := Lib.hid hO5; have HG5 := Lib.hid hg5; clear hO5 hg5)
              have hn5 := HBn.out.trans (below_grown HG5.out (Nat.le_trans (by omega) HBn.out.size) (fun k e => (HOi.out.lt k e).1))
              go_roundw
              case rel => exact ⟨j + 1, ps.take (b + 1) ++ ⟨ib, ii, is, 2, x, ⟨#[]⟩, [], A1, e1⟩ :: ps.drop (b + 1), by omega, by go_num, ins_len Hpl.out (by omega), ins_own HO5.out Hpl.out (by omega), ins_sort HSo.out HFt.out HX.out.1, ins_nit HNs.out ⟨rfl, rfl, rfl, HX.out.2⟩, HBi.out.trans (hn5.mono (by omega)), HK0i.out.below hn5 (by omega), HK1i.out.below hn5 (by omega), HZi.out.below hn5 (by omega)⟩
              case measure => simp [ixOf] <;> omega
          · have HF2 : Hid (∀ i y, b ≤ i → (ps.map PI.n)[i]? = some y → ¬ Ord bk y x) := fun i y hi hy => by
              by_cases he : i = b
              · subst he
                rw [HQ.out] at hy
                injection hy with hy
                rw [← hy]
                exact hOrd
              · exact HF.out i y (by omega) hy
            rcases ord_no hOrd HC.out with ⟨rfl, rfl⟩ | ⟨rfl, rfl⟩
            all_goals
              clear hOrd HC HQ HF
              go_wp2_with fail
              go_roundw
              case rel => exact ⟨b, by omega, by go_num, HF2, HZ3⟩
              case measure => simp [ixOf] <;> omega
    · obtain rfl : j = l.length := by omega
      have hIx : ¬ ((l.length : Int) < (l.length : Int)) := by omega
      have hml : (ps.map PI.it).length = l.length := by rw [List.length_map, Hpl.out]
      have hwr := HB.out.size
      have hzr := HZ.out.lt
      have HEv := Lib.hid (sorted_every (fun wx hz => HLb.out wx (Hb.out.trans ((HB.out.trans (hz.mono hwr)).mono hB'))) Hpl.out hl HO.out HNs.out (w'.heap.size + 1) (HK1.out.cell 0) (by omega))
      have z0 : wr.cell? ⟨w'.heap.size + 1 + 1, 0, none⟩ = some (.int .i64 0) := HZ.out.cell 0
      clear hml HI HV HNum HA
      go_upto_region 13 with fail
      go_wp2_with (go_at_call 85; refine HEv.out.mono ?_; rintro e w4 ⟨sv2, ps2, rfl, hr2, ho2, hn2, hb4⟩; have HO2 := Lib.hid ho2; have HR2 := Lib.hid hr2; have HB4 := Lib.hid hb4; have HZ4 := Lib.hid (blk_below HZ.out hb4); have HN2 := Lib.hid hn2; clear ho2 hr2 hb4 hn2; have z1 : w4.cell? ⟨w'.heap.size + 1 + 1, 0, none⟩ = some (.int .i64 0) := HZ4.out.cell 0; have z2 : w4.cell? ⟨w'.heap.size + 1 + 1, 1, none⟩ = some (.int .i64 0) := HZ4.out.cell 1; have z3 : w4.cell? ⟨w'.heap.size + 1 + 1, 2, none⟩ = some (.string ⟨#[]⟩) := HZ4.out.cell 2; have z4 : w4.cell? ⟨w'.heap.size + 1 + 1, 3, none⟩ = some (.slice none 0 0) := HZ4.out.cell 3; have zf0 := HZ4.out.frozen 0; have zf1 := HZ4.out.frozen 1; have zf2 := HZ4.out.frozen 2; have zf3 := HZ4.out.frozen 3; obtain ⟨A4, c4, rfl⟩ := own_form0 HO2.out)
      have HS4 := Lib.hid (store4 HZ4.out (.int .i64 4) (.int .i64 l.length) (.string ⟨#[]⟩) (.slice A4 ps2.length c4))
      have hOf := own_keeps HO2.out HS4.out.2 (fun e => by have := (HO2.out.lt _ e.symm).1; have := HZ.out.lt; omega)
      have hBf := (HB.out.trans (HB4.out.mono hwr)).trans (HS4.out.2.below (Nat.le_trans hwr HB4.out.size) (fun j e => by omega))
      generalize (((w4.setCell ⟨w'.heap.size + 1 + 1, 0, none⟩ (.int .i64 4)).setCell ⟨w'.heap.size + 1 + 1, 1, none⟩ (.int .i64 l.length)).setCell ⟨w'.heap.size + 1 + 1, 2, none⟩ (.string ⟨#[]⟩)).setCell ⟨w'.heap.size + 1 + 1, 3, none⟩ (.slice A4 ps2.length c4) = wf at *
      have e0 : wf.cell? ⟨w'.heap.size + 1 + 1, 0, none⟩ = some (.int .i64 4) := HS4.out.1.cell 0
      have e1 : wf.cell? ⟨w'.heap.size + 1 + 1, 1, none⟩ = some (.int .i64 l.length) := HS4.out.1.cell 1
      have e2 : wf.cell? ⟨w'.heap.size + 1 + 1, 2, none⟩ = some (.string ⟨#[]⟩) := HS4.out.1.cell 2
      have e3 : wf.cell? ⟨w'.heap.size + 1 + 1, 3, none⟩ = some (.slice A4 ps2.length c4) := HS4.out.1.cell 3
      refine bodyPost_ret (v := .tuple #[.agg #[.int .i64 4, .int .i64 l.length, .string ⟨#[]⟩, .slice A4 ps2.length c4], .int .i64 0]) (by simp [results, Tryz.results54, go_sem, e0, e1, e2, e3]) rfl ?_
      have hso := HSo.out
      rw [List.take_of_length_le (by rw [← HLn.out]; exact Nat.le_refl _)] at hso
      exact ⟨_, _, ps2, hso, rfl, HR2.out, own_le2 hOf hwr, HN2.out, hBf⟩
end
end Dp
end Go.Proofs.YtopmodahdmnpjaaGreatDoor
