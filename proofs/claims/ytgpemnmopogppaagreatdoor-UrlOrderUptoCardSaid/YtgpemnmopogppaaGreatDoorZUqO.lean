/- UrlOrder: the law's walk. -/
import Derived.Test.YtgpemnmopogppaaGreatDoorZDpCaQ
import Derived.Test.YtgpemnmopogppaaGreatDoorZDpDrQ
import Derived.Test.YtgpemnmopogppaaGreatDoorZUrC
import Derived.Laws.StructEq
namespace Go.Proofs.YtgpemnmopogppaaGreatDoor
open Go Go.RowKit
namespace Ut
open Go.Proofs.YtgpemnmopogppaaGreatDoor.Dp
open Go.Proofs.YtgpemnmopogppaaGreatDoor.Url (encL decF)
theorem encL_le (l : List UInt8) : (encL l).length ≤ 3 * l.length := Url.encL_len l
theorem cat_eq (s n t : List UInt8) : (((mkB s ++ ⟨#[38]⟩) ++ mkB (encL n)) ++ ⟨#[61]⟩) ++ mkB (encL t) = mkB (s ++ 38 :: (encL n ++ 61 :: encL t)) := by
  apply ByteArray.ext
  rw [← Array.toList_inj]
  simp [mkB]
theorem keys_same {x y : GI} (h : GI.keyG y = GI.keyG x) : y = .mk x.isText x.int x.text y.val := by
  obtain ⟨b, i, s, v⟩ := x
  obtain ⟨b', i', s', v'⟩ := y
  simp only [GI.keyG, Prod.mk.injEq] at h
  obtain ⟨rfl, rfl, rfl⟩ := h
  rfl
theorem sameAt_eq {la lb : List GI} {j : Nat} {x y : GI} (hx : la[j]? = some x) (hy : lb[j]? = some y) : sameAt la lb j = sameB y.val x.val := by unfold sameAt; rw [hx, hy]
structure EncIs (N E : ByteArray) : Prop where
  out : ∀ wz : World, Calls Tryz.prog 18 #[.string N] wz fun e w' => e = .returned (.string E) ∧ Below wz.heap.size wz w'
theorem encIs (l : List UInt8) (hl : l.length ≤ 16777216) : EncIs (mkB l) (mkB (encL l)) := ⟨fun wz => by
  have h := Url.enc_any (mkB l) (by rw [mkB_size]; omega) wz
  rw [mkB_list] at h
  exact h⟩
/-- A query's call, its answer's form. -/
theorem query_form (s : List UInt8) (hs : s.length ≤ 7340034) (hp : ∀ p ∈ splitL 38 s, (cutL 61 p).1.length ≤ 16777216 ∧ (cutL 61 p).2.length ≤ 16777216) (w : World) (hL : LibS w) (m : Int) (hm : w.cell? ⟨0, 0, none⟩ = some (.int .i64 m)) {nx : Int} {l : List GI} (hq : queryG s = .mk 4 nx ⟨#[]⟩ l) :
    Calls Tryz.prog 10 #[.string (mkB s)] w fun e w' => ∃ A c, e = .returned (.agg #[.int .i64 4, .int .i64 nx, .string ⟨#[]⟩, .slice A l.length c]) ∧ VIn w' (fun b => w.heap.size ≤ b ∧ b < w'.heap.size) (.mk 4 nx ⟨#[]⟩ l) (.agg #[.int .i64 4, .int .i64 nx, .string ⟨#[]⟩, .slice A l.length c]) ∧ Below w.heap.size w w' :=
  (uquery_any s (by omega) (fun p h => ⟨by have := splitL_mem 38 s p h; omega, hp p h⟩) w hL m hm).mono fun e w' ⟨y, h1, h2, h3⟩ => by
    rw [hq] at h2
    obtain ⟨A, c, rfl⟩ := h2.form
    exact ⟨A, c, h1, h2, h3⟩
theorem z7 {w : World} {b : Nat} {t : TypeId} {a0 a1 a2 a3 a4 a5 a6 : Value} (h : Blk w b t #[a0, a1, a2, a3, a4, a5, a6]) : w.cell? ⟨b, 0, none⟩ = some a0 ∧ w.cell? ⟨b, 1, none⟩ = some a1 ∧ w.cell? ⟨b, 2, none⟩ = some a2 ∧ w.cell? ⟨b, 3, none⟩ = some a3 ∧ w.cell? ⟨b, 4, none⟩ = some a4 ∧ w.cell? ⟨b, 5, none⟩ = some a5 ∧ w.cell? ⟨b, 6, none⟩ = some a6 :=
  ⟨h.cell 0, h.cell 1, h.cell 2, h.cell 3, h.cell 4, h.cell 5, h.cell 6⟩
set_option maxRecDepth 100000 in
set_option maxHeartbeats 4000000 in
theorem urlOrder_any (s name text : List UInt8) (hs : s.length ≤ 1048576) (hn : name.length ≤ 1048576) (ht : text.length ≤ 1048576) (w : World) (hL : LibS w) (m : Int) (hm : w.cell? ⟨0, 0, none⟩ = some (.int .i64 m)) :
    Calls Tryz.prog 5 #[.string (mkB s), .string (mkB name), .string (mkB text)] w fun e w' => e = .returned (.bool true) ∧ Below w.heap.size w w' := by
  have hglt : 0 < w.heap.size := by
    rcases Nat.lt_or_ge 0 w.heap.size with h' | h'
    · exact h'
    · simp [World.cell?, Array.getElem?_eq_none h'] at hm
  have hmx : ∀ wz, Below w.heap.size w wz → wz.cell? ⟨0, 0, none⟩ = some (.int .i64 m) := fun wz hb => (hb.cell (p := ⟨0, 0, none⟩) hglt).trans hm
  have hLib := fun wz (hb : Below w.heap.size w wz) => hL.below hb
  have he1 := encL_le name
  have he2 := encL_le text
  have hpa : ∀ p ∈ splitL 38 s, (cutL 61 p).1.length ≤ 16777216 ∧ (cutL 61 p).2.length ≤ 16777216 := fun p hp => by
    have h1 := splitL_mem 38 s p hp
    have h2 := cutL_le 61 p
    omega
  have hpb : ∀ p ∈ splitL 38 (s ++ 38 :: (encL name ++ 61 :: encL text)), (cutL 61 p).1.length ≤ 16777216 ∧ (cutL 61 p).2.length ≤ 16777216 := fun p hp => by
    rw [splitL_app] at hp
    rcases List.mem_append.1 hp with hp | hp
    · exact hpa p hp
    · have h1 := splitL_mem 38 _ p hp
      have h2 := cutL_le 61 p
      simp at h1
      omega
  obtain ⟨nxa, la, hqa⟩ := (queryG_ok s hpa).list
  obtain ⟨nxb, lb, hqb⟩ := (queryG_ok _ hpb).list
  have hO := order_plain s name text (by omega) hqa hqb
  have hla : la.length ≤ 2048 := by
    have h := (queryG_ok s hpa).wf
    rw [hqa] at h
    exact h.kids.2.1
  have HQa := Lib.hid (query_form s (by omega) hpa w hL m hm hqa)
  have HQb := Lib.hid (fun wz (hb : Below w.heap.size w wz) => query_form _ (by simp; omega) hpb wz (hLib wz hb) m (hmx wz hb) hqb)
  rw [← cat_eq] at HQb
  have hE1 := encIs name (by omega)
  have hE2 := encIs text (by omega)
  have HAl := Lib.hid (fun wz (hb : Below w.heap.size w wz) => alive09 wz (hLib wz hb))
  have hz1 : (mkB s).size ≤ 1048576 := by rw [mkB_size]; exact hs
  have hz2 : (mkB (encL name)).size ≤ 3145728 := by rw [mkB_size]; omega
  have hz3 : (mkB (encL text)).size ≤ 3145728 := by rw [mkB_size]; omega
  have HO := Lib.hid hO
  have hge : decide ((lb.length : Int) < (la.length : Int)) = false := decide_eq_false (by have := hO.ge; omega)
  have hle : decide ((la.length : Int) + 1 < (lb.length : Int)) = false := decide_eq_false (by have := hO.le; omega)
  have hge2 : decide (lb.length < la.length) = false := decide_eq_false (by have := hO.ge; omega)
  have hle2 : decide (la.length + 1 < lb.length) = false := decide_eq_false (by have := hO.le; omega)
  have hwl : IntKind.i64.wrap ((la.length : Int) + 1) = (la.length : Int) + 1 := by rw [IntWalk.i64_in _ (by omega)]
  have hlb : lb.length ≤ 2049 := by have := hO.le; omega
  clear hO hqa hqb hpa hpb hmx hLib hL hm hglt he1 he2
  generalize mkB (encL name) = E1 at *
  generalize mkB (encL text) = E2 at *
  generalize mkB s = SB at *
  generalize mkB name = NB at *
  generalize mkB text = TB at *
  have g1 : ¬ 9223372036854775807 < SB.size + 1 := by omega
  have g2 : ¬ 9223372036854775807 < SB.size + 1 + E1.size := by omega
  have g3 : ¬ 9223372036854775807 < SB.size + 1 + E1.size + 1 := by omega
  have g4 : ¬ 9223372036854775807 < SB.size + 1 + E1.size + 1 + E2.size := by omega
  go_enter Tryz.func5, Tryz.ntmps5
  go_upto_region 2 with (go_at_call 10; refine HQa.out.mono ?_; rintro e w1 ⟨Aa, ca, rfl, hva, hb1⟩; have HVa := Lib.hid hva; have HB1 := Lib.hid hb1; clear hva hb1)
  have HBa := Lib.hid (HB1.out.alloc HB1.out.size (.cells #[.int .i64 4, .int .i64 nxa, .string ⟨#[]⟩, .slice Aa la.length ca] 25))
  have HVa2 : Hid (VIn (w1.alloc (.cells #[.int .i64 4, .int .i64 nxa, .string ⟨#[]⟩, .slice Aa la.length ca] 25)) (fun b => b < (w1.alloc (.cells #[.int .i64 4, .int .i64 nxa, .string ⟨#[]⟩, .slice Aa la.length ca] 25)).heap.size) (.mk 4 nxa ⟨#[]⟩ la) (.agg #[.int .i64 4, .int .i64 nxa, .string ⟨#[]⟩, .slice Aa la.length ca])) := HVa.out.keep (fun b hb => by have := hb.2; simp; omega) (fun q hq => World.cell?_alloc_lt w1 (.cells #[.int .i64 4, .int .i64 nxa, .string ⟨#[]⟩, .slice Aa la.length ca] 25) q hq.2)
  have HXa := Lib.hid (Blk.new w1 25 #[.int .i64 4, .int .i64 nxa, .string ⟨#[]⟩, .slice Aa la.length ca])
  generalize w1.alloc (.cells #[.int .i64 4, .int .i64 nxa, .string ⟨#[]⟩, .slice Aa la.length ca] 25) = wa at *
  clear HVa HB1 HQa
  have HBr := Lib.hid (Below.refl wa.heap.size wa)
  go_upto_region 3 with (first | (go_at_call 18; refine (EncIs.out (by assumption) _).mono ?_; rintro e w2 ⟨rfl, hb2⟩; have HBn := Lib.hid (HBr.out.trans (hb2.mono HBr.out.size)); clear HBr hb2; have HBr := HBn; clear HBn) | (go_at_call 10; refine (HQb.out _ (HBa.out.trans (HBr.out.mono HBa.out.size))).mono ?_; rintro e w4 ⟨Ab, cb, rfl, hvb, hb4⟩; have HVb := Lib.hid hvb; have HB4 := Lib.hid (HBr.out.trans (hb4.mono HBr.out.size)); clear hvb hb4))
  have hbs := HB4.out.size
  have HBb := Lib.hid (HBa.out.trans ((HB4.out.alloc hbs (.cells #[.int .i64 4, .int .i64 nxb, .string ⟨#[]⟩, .slice Ab lb.length cb] 25)).mono HBa.out.size))
  have HVb2 : Hid (VIn (w4.alloc (.cells #[.int .i64 4, .int .i64 nxb, .string ⟨#[]⟩, .slice Ab lb.length cb] 25)) (fun b => b < (w4.alloc (.cells #[.int .i64 4, .int .i64 nxb, .string ⟨#[]⟩, .slice Ab lb.length cb] 25)).heap.size) (.mk 4 nxb ⟨#[]⟩ lb) (.agg #[.int .i64 4, .int .i64 nxb, .string ⟨#[]⟩, .slice Ab lb.length cb])) := HVb.out.keep (fun b hb => by have := hb.2; simp; omega) (fun q hq => World.cell?_alloc_lt w4 (.cells #[.int .i64 4, .int .i64 nxb, .string ⟨#[]⟩, .slice Ab lb.length cb] 25) q hq.2)
  have HVc : Hid (VIn (w4.alloc (.cells #[.int .i64 4, .int .i64 nxb, .string ⟨#[]⟩, .slice Ab lb.length cb] 25)) (fun b => b < (w4.alloc (.cells #[.int .i64 4, .int .i64 nxb, .string ⟨#[]⟩, .slice Ab lb.length cb] 25)).heap.size) (.mk 4 nxa ⟨#[]⟩ la) (.agg #[.int .i64 4, .int .i64 nxa, .string ⟨#[]⟩, .slice Aa la.length ca])) := HVa2.out.keep (fun b hb => by simp; omega) (fun q hq => (World.cell?_alloc_lt w4 (.cells #[.int .i64 4, .int .i64 nxb, .string ⟨#[]⟩, .slice Ab lb.length cb] 25) q (Nat.lt_of_lt_of_le hq hbs)).trans (HB4.out.cell hq))
  have HXb := Lib.hid (Blk.new w4 25 #[.int .i64 4, .int .i64 nxb, .string ⟨#[]⟩, .slice Ab lb.length cb])
  have HXc := Lib.hid ((blk_below HXa.out HB4.out).alloc (.cells #[.int .i64 4, .int .i64 nxb, .string ⟨#[]⟩, .slice Ab lb.length cb] 25))
  have hwb : (w4.alloc (.cells #[.int .i64 4, .int .i64 nxb, .string ⟨#[]⟩, .slice Ab lb.length cb] 25)).heap.size = w4.heap.size + 1 := by simp
  have HWb := Lib.hid hwb
  clear HVa2 HVb HXa HBa HBr HB4 HQb hE1 hE2 hbs hwb g1 g2 g3 g4 hz1 hz2 hz3
  generalize w4.alloc (.cells #[.int .i64 4, .int .i64 nxb, .string ⟨#[]⟩, .slice Ab lb.length cb] 25) = wb at *
  obtain ⟨⟨a0, a1, a2, a3⟩, -⟩ := z8 HXc.out
  obtain ⟨⟨b0, b1, b2, b3⟩, -⟩ := z8 HXb.out
  have hval : VAt wb wb.heap.size (.mk 4 nxa ⟨#[]⟩ la) (.agg #[.int .i64 4, .int .i64 nxa, .string ⟨#[]⟩, .slice Aa la.length ca]) := HVc.out.at_ (fun b hb _ => hb) (fun b hb => hb)
  have hvbl : VAt wb wb.heap.size (.mk 4 nxb ⟨#[]⟩ lb) (.agg #[.int .i64 4, .int .i64 nxb, .string ⟨#[]⟩, .slice Ab lb.length cb]) := HVb2.out.at_ (fun b hb _ => hb) (fun b hb => hb)
  clear HVc HVb2
  generalize w1.heap.size = xa at *
  generalize w4.heap.size = xb at *
  cases hval with
  | mk _ _ _ _ _ _ ba offa Ca hca hna hAa hia hva =>
  cases hvbl with
  | mk _ _ _ _ _ _ bb offb Cb hcb hnb hAb hib hvb =>
  have HAa := Lib.hid hAa
  have HAb := Lib.hid hAb
  have HIa := Lib.hid hia
  have HIb := Lib.hid hib
  have HWa := Lib.hid hva
  have HWv := Lib.hid hvb
  clear hAa hAb hia hib hva hvb hca hcb hna hnb
  go_wp2_with (go_at_call 12; refine (HAl.out _ HBb.out).mono ?_; rintro e w5 ⟨rfl, hb5⟩; have HB5 := Lib.hid hb5; have HX5a := Lib.hid (blk_below HXc.out HB5.out); have HX5b := Lib.hid (blk_below HXb.out HB5.out); obtain ⟨⟨c0, c1, c2, c3⟩, -⟩ := z8 HX5a.out; obtain ⟨⟨d0, d1, d2, d3⟩, -⟩ := z8 HX5b.out; clear hb5)
  clear HX5a HX5b HAl hge2 hle2 c0 c1 c2 c3 d0 d1 d2 d3 a0 a1 a2 a3 b0 b1 b2 b3 hge hle hwl
  trace_state
  go_loopw [9, 58] (fun x9 x58 wx => ∃ j : Nat, j ≤ la.length ∧ x58 = .int .i64 j ∧ x9 = .int .i64 (turnN la lb j : Int) ∧ Hid (Below wb.heap.size wb wx)) (fun _ x58 _ => la.length - (ixO x58).toNat)
  case atStart => exact ⟨0, Nat.zero_le _, rfl, rfl, HB5⟩
  case round =>
    obtain ⟨j, hj, rfl, rfl, HB⟩ := hrel
    clear HB5
    have HXa := Lib.hid (blk_below HXc.out HB.out)
    have HXd := Lib.hid (blk_below HXb.out HB.out)
    obtain ⟨⟨a0, a1, a2, a3⟩, -⟩ := z8 HXa.out
    obtain ⟨⟨b0, b1, b2, b3⟩, -⟩ := z8 HXd.out
    by_cases hlt : j < la.length
    · obtain ⟨x, hx⟩ : ∃ x, la[j]? = some x := ⟨_, List.getElem?_eq_getElem hlt⟩
      obtain ⟨y, hy, hkey⟩ := HO.out.key j x hx
      have hyl := (List.getElem?_eq_some_iff.1 hy).1
      obtain ⟨rfl, hbA⟩ := HAa.out (by omega)
      obtain ⟨rfl, hbB⟩ := HAb.out (by omega)
      have hwr := HB.out.size
      have hs0 := sameAt_eq hx hy
      obtain ⟨x0, x1, x2, u0, u1, u2, u3, ea, x3, x4, x5, x6⟩ := (HIa.out j x hx).below HB.out hbA
      obtain ⟨y0, y1, y2, v0, v1, v2, v3, eb, y3, y4, y5, y6⟩ := (HIb.out j y hy).below HB.out hbB
      have hfa := HWa.out j x hx
      have hfb := HWv.out j y hy
      rw [ea] at hfa
      rw [eb] at hfb
      rw [keys_same hkey] at y0 y1 y2
      obtain ⟨xb', xi, xs, xv⟩ := x
      obtain ⟨yb', yi, ys, yv⟩ := y
      simp only [GI.val, GI.isText, GI.int, GI.text] at hfa hfb x0 x1 x2 y0 y1 y2 hs0
      obtain ⟨k1, n1, t1, l1⟩ := xv
      obtain ⟨k2, n2, t2, l2⟩ := yv
      obtain ⟨rfl, rfl, rfl, A1, e1, rfl⟩ := vat_form2 hfa
      obtain ⟨rfl, rfl, rfl, A2, e2, rfl⟩ := vat_form2 hfb
      have HSm := Lib.hid (fun wz (hz : Below wb.heap.size wb wz) => rsame_all (Nat.le_refl _) hfb hfa wz hz)
      have HT : Hid (turnN la lb (j + 1) = turnN la lb j + if sameB (.mk k2 n2 t2 l2) (.mk k1 n1 t1 l1) = true then 0 else 1) := by
        show _ = _
        rw [turnN, hs0]
      have htl := turnN_le la lb j
      clear hs0 hx hy hkey ea eb hfa hfb
      generalize sameB (.mk k2 n2 t2 l2) (.mk k1 n1 t1 l1) = sb at *
      obtain ⟨tn1, hT1⟩ : ∃ z, turnN la lb (j + 1) = z := ⟨_, rfl⟩
      have HT1 := Lib.hid hT1
      rw [hT1] at HT
      clear hT1
      generalize turnN la lb j = tn at *
      have HBi := Lib.hid (HB.out.alloc hwr (.cells #[.bool xb', .int .i64 xi, .string xs, .int .i64 k1, .int .i64 n1, .string t1, .slice A1 l1.length e1] 39))
      have HBl := Lib.hid ((Below.refl wr.heap.size wr).alloc (Nat.le_refl _) (.cells #[.bool xb', .int .i64 xi, .string xs, .int .i64 k1, .int .i64 n1, .string t1, .slice A1 l1.length e1] 39))
      have HX7 := Lib.hid (Blk.new wr 39 #[.bool xb', .int .i64 xi, .string xs, .int .i64 k1, .int .i64 n1, .string t1, .slice A1 l1.length e1])
      have hbr : bb < wr.heap.size := by omega
      have y0' := (HBl.out.cell (p := ⟨bb, _, none⟩) hbr).trans y0
      have y1' := (HBl.out.cell (p := ⟨bb, _, none⟩) hbr).trans y1
      have y2' := (HBl.out.cell (p := ⟨bb, _, none⟩) hbr).trans y2
      have y3' := (HBl.out.cell (p := ⟨bb, _, none⟩) hbr).trans y3
      have y4' := (HBl.out.cell (p := ⟨bb, _, none⟩) hbr).trans y4
      have y5' := (HBl.out.cell (p := ⟨bb, _, none⟩) hbr).trans y5
      have y6' := (HBl.out.cell (p := ⟨bb, _, none⟩) hbr).trans y6
      obtain ⟨⟨b0', b1', b2', b3'⟩, -⟩ := z8 (blk_below HXd.out HBl.out)
      obtain ⟨z0, z1, z2, z3, z4, z5, z6⟩ := z7 HX7.out
      have hlt' : (j : Int) < (la.length : Int) := by omega
      have hyl' : (j : Int) < (lb.length : Int) := by omega
      clear HIa HIb HWa HWv HAa HAb y0 y1 y2 y3 y4 y5 y6
      go_upto_region 9 with fail
      generalize wr.alloc (.cells #[.bool xb', .int .i64 xi, .string xs, .int .i64 k1, .int .i64 n1, .string t1, .slice A1 l1.length e1] 39) = wi at *
      go_quiet (fail)
      go_upto_region 11 with fail
      refine Dp.region_tail 8 (by kernel_rfl) (by kernel_rfl) ?_
      simp only [List.take_succ_cons, List.take_zero, List.drop_succ_cons, List.drop_zero]
      repeat still_step
      refine wpStill_nil ?_
      cases sb with
      | true =>
        have hT : tn1 = tn := HT.out
        have HT2 := Lib.hid (HT1.out.trans hT)
        clear hT
        go_wp2_with (go_at_call 17; refine (HSm.out _ (drewN' HBi.out (nq + 1))).mono ?_; rintro e w2 ⟨rfl, hb2⟩; have HB2 := Lib.hid ((drewN' HBi.out (nq + 1)).trans (hb2.mono (Below.size (drewN' HBi.out (nq + 1))))); clear hb2)
        go_roundw
        case rel => exact ⟨j + 1, by omega, by go_num, by rw [HT2.out], HB2⟩
        case measure => simp [ixO] <;> omega
      | false =>
        have hT : tn1 = tn + 1 := HT.out
        have HT2 := Lib.hid (HT1.out.trans hT)
        clear hT
        go_wp2_with (go_at_call 17; refine (HSm.out _ (drewN' HBi.out (nq + 1))).mono ?_; rintro e w2 ⟨rfl, hb2⟩; have HB2 := Lib.hid ((drewN' HBi.out (nq + 1)).trans (hb2.mono (Below.size (drewN' HBi.out (nq + 1))))); clear hb2)
        go_roundw
        case rel => exact ⟨j + 1, by omega, by go_num, by rw [HT2.out]; go_num, HB2⟩
        case measure => simp [ixO] <;> omega
    · obtain rfl : j = la.length := by omega
      have hone := HO.out.one
      generalize turnN la lb la.length = tn at *
      have hfin : (tn : Int) + (lb.length : Int) - (la.length : Int) ≤ 1 := by omega
      clear HIa HIb HWa HWv HAa HAb
      go_wp2_with fail
      go_ret
      exact ⟨rfl, HBb.out.trans (HB.out.mono HBb.out.size)⟩
theorem urlOrder_txt (s name text : ByteArray) (hs : s.size ≤ 1048576) (hn : name.size ≤ 1048576) (ht : text.size ≤ 1048576) (w : World) (hL : LibS w) (m : Int) (hm : w.cell? ⟨0, 0, none⟩ = some (.int .i64 m)) :
    Calls Tryz.prog 5 #[.string s, .string name, .string text] w fun e w' => e = .returned (.bool true) ∧ Below w.heap.size w w' := by
  have h := urlOrder_any s.data.toList name.data.toList text.data.toList (by simpa using hs) (by simpa using hn) (by simpa using ht) w hL m hm
  rw [mkB_of, mkB_of, mkB_of] at h
  exact h
end Ut
end Go.Proofs.YtgpemnmopogppaaGreatDoor
