/- arrs.chunk, where its number is above 0: the walk. -/
import Derived.Test.YtopmodahdmnpjaaGreatDoorZAcAQ
import Derived.Test.YtopmodahdmnpjaaGreatDoorZAsU
namespace Go.Proofs.YtopmodahdmnpjaaGreatDoor
open Go Go.RowKit
namespace Dp
section
variable {w : World} {B : Nat}
attribute [local go_sem] Oper.semAt_some
theorem items_in (args : Array Value) (w : World) : (callFunc 21 args).run Tryz.prog w = .ok (.enter 21 args) w := enter_ofD Tryz.func21 (by kernel_rfl) rfl args w
theorem n_in (args : Array Value) (w : World) : (callFunc 64 args).run Tryz.prog w = .ok (.enter 64 args) w := enter_ofD Tryz.func64 (by kernel_rfl) rfl args w
theorem chunk_in (args : Array Value) (w : World) : (callFunc 109 args).run Tryz.prog w = .ok (.enter 109 args) w := enter_ofD Tryz.func109 (by kernel_rfl) rfl args w
theorem retv {P : Program} {f : FuncId} {xs : Array Value} {w : World} {v : Value} {R : World → Prop} (h : Calls P f xs w fun e w' => e = .returned v ∧ R w') : Calls P f xs w fun e w' => ∃ u, e = .returned u ∧ u = v ∧ R w' :=
  h.mono (by rintro e w' ⟨rfl, h⟩; exact ⟨_, rfl, rfl, h⟩)
set_option maxRecDepth 100000 in
set_option maxHeartbeats 8000000 in
theorem rchunk_any (hBw : B ≤ w.heap.size) (hLS : ∀ wz, Below B w wz → LibS wz) (l : List GI) (A : Option Addr) (c bb off : Nat) (C : Nat → Value) (hc : l.length ≤ c) (hA : 0 < l.length → A = some ⟨bb, off, none⟩ ∧ bb < B)
    (hi : ∀ i it, l[i]? = some it → ItemAt w bb (off + i * 7) it (C i)) (hv : ∀ i it, l[i]? = some it → VAt w B it.val (C i))
    (hft : ∀ (i : Nat) (it : GI), l[i]? = some it → Fit it.val) (hsm : ∀ (i : Nat) (it : GI), l[i]? = some it → Sml it.val) (hl : l.length ≤ 2048) (n : Int) (hn1 : 1 ≤ n) (w' : World) (hb : Below B w w')
    (g ac : Nat) (k0 n0 : Int) (t0 : ByteArray) (t1 : ByteArray) (A1 : Option Addr) (l1 c1 : Nat) (hg : g < w'.heap.size) (h0 : w'.cell? ⟨g, 0, none⟩ = some (.int .i64 k0)) (h1 : w'.cell? ⟨g, 1, none⟩ = some (.int .i64 n0)) (h2 : w'.cell? ⟨g, 2, none⟩ = some (.string t0)) (h3 : w'.cell? ⟨g, 3, none⟩ = some (.slice A l.length c))
    (h4 : w'.cell? ⟨g, 4, none⟩ = some (.int .i64 2)) (h5 : w'.cell? ⟨g, 5, none⟩ = some (.int .i64 n)) (h6 : w'.cell? ⟨g, 6, none⟩ = some (.string t1)) (h7 : w'.cell? ⟨g, 7, none⟩ = some (.slice A1 l1 c1)) :
    Calls Tryz.prog 40 #[.slice (some ⟨g, 0, none⟩) 2 ac] w' fun e w2 => ∃ sv2 ps, e = .returned (.tuple #[.agg #[.int .i64 4, .int .i64 ps.length, .string ⟨#[]⟩, sv2], .int .i64 0]) ∧ ps.map PI.it = renum ((parts (min n 2048).toNat l.length).map (chunkV l)) 0 ∧
      w2.ownsRow w'.heap.size 34 7 sv2 ps.length (rowC ps) ∧ (∀ q ∈ ps, KeyOK q.key ∧ VC (w'.heap.size + 1) w2 q.gv q.val) ∧ Below w'.heap.size w' w2 ∧ w'.heap.size + 1 ≤ w2.heap.size := by
  have hnI : ¬ (n < 1) := by omega
  obtain ⟨m, hm⟩ : ∃ m : Nat, (min n 2048).toNat = m := ⟨_, rfl⟩
  have hm1 : 1 ≤ m := by omega
  have hm2 : m ≤ 2048 := by omega
  have hmI : min n 2048 = (m : Int) := by omega
  rw [hm]
  have hal := fun (w1 : World) (o : Obj) => (Below.refl w1.heap.size w1).alloc (Nat.le_refl _) o
  have hs1 : (w'.alloc (.cells #[.slice (some ⟨g, 0, none⟩) 2 ac] 49)).heap.size = w'.heap.size + 1 := by simp
  have hs2 : ((w'.alloc (.cells #[.slice (some ⟨g, 0, none⟩) 2 ac] 49)).alloc (.cells #[.int .i64 0, .int .i64 0, .string ⟨#[]⟩, .slice none 0 0] 24)).heap.size = w'.heap.size + 2 := by simp
  have hB2 := (hal w' (.cells #[.slice (some ⟨g, 0, none⟩) 2 ac] 49)).alloc (by rw [hs1]; omega) (.cells #[.int .i64 0, .int .i64 0, .string ⟨#[]⟩, .slice none 0 0] 24)
  have HAr := Lib.hid ((Blk.new w' 49 #[.slice (some ⟨g, 0, none⟩) 2 ac]).alloc (.cells #[.int .i64 0, .int .i64 0, .string ⟨#[]⟩, .slice none 0 0] 24))
  have hRs := Blk.new (w'.alloc (.cells #[.slice (some ⟨g, 0, none⟩) 2 ac] 49)) 24 #[.int .i64 0, .int .i64 0, .string ⟨#[]⟩, .slice none 0 0]
  rw [hs1] at hRs
  have HRs := Lib.hid hRs
  have HB2 := Lib.hid hB2
  have HCell := Lib.hid (fun (wz : World) (hz : Below w'.heap.size w' wz) (r : Nat) (u : Value) (h : w'.cell? ⟨g, r, none⟩ = some u) => ((hz.cell (p := ⟨g, r, none⟩) hg).trans h))
  have HC0 := Lib.hid (And.intro h0 (And.intro h1 (And.intro h2 h3)))
  have HC4 := Lib.hid (And.intro h4 (And.intro h5 (And.intro h6 h7)))
  have HBs := Lib.hid hs2
  clear hal hs1 hB2 hRs h0 h1 h2 h3 h4 h5 h6 h7
  refine (callsIn_wide (n := 6)).1 ?_
  refine callsIn_of_wp_marks Tryz.func40 rfl trivial ?_ rfl
  simp only [Tryz.ntmps40, List.size_toArray, List.length_cons, List.length_nil, Nat.reduceAdd, Nat.reduceSub, Array.replicate_succ, Array.replicate_zero, List.push_toArray, List.append_toArray, List.nil_append, List.cons_append]
  refine wpIn_wide.2 ?_
  go_upto_region 1 with fail
  generalize (w'.alloc (.cells #[.slice (some ⟨g, 0, none⟩) 2 ac] 49)).alloc (.cells #[.int .i64 0, .int .i64 0, .string ⟨#[]⟩, .slice none 0 0] 24) = w2 at *
  have a0 := HAr.out.cell 0
  go_upto_region 3 with (go_at_call 64; refine (n_arg w2 g ac n t1 A1 l1 c1 (HCell.out _ HB2.out 4 _ HC4.out.1) (HCell.out _ HB2.out 5 _ HC4.out.2.1) (HCell.out _ HB2.out 6 _ HC4.out.2.2.1) (HCell.out _ HB2.out 7 _ HC4.out.2.2.2)).mono ?_; rintro e w3 ⟨rfl, hb3⟩)
  have HB3 := Lib.hid (HB2.out.trans (hb3.mono HB2.out.size))
  have HA3 := Lib.hid (blk_below HAr.out hb3)
  have HR3 := Lib.hid (blk_below HRs.out hb3)
  have HM3 : Hid (w'.heap.size + 2 ≤ w3.heap.size) := Nat.le_trans (Nat.le_of_eq HBs.out.symm) hb3.size
  clear HAr HRs HB2 HBs a0 hb3
  go_upto_region 4 with (go_at_call 90; refine (new_any w3).mono ?_; rintro e w4 ⟨rfl, hL4, hb4⟩; have HL4 := Lib.hid hL4; have HD4 := Lib.hid hb4; clear hL4 hb4)
  have HP4 : Hid (w3.heap.size + 1 < w4.heap.size) := HL4.out.blk.lt
  have hal4 := (Below.refl w4.heap.size w4).alloc (Nat.le_refl _) (.cells #[.pointer (some ⟨w3.heap.size + 1, 0, none⟩)] 74)
  have hD5 := HD4.out.trans (hal4.mono HD4.out.size)
  have HL5 := Lib.hid (HL4.out.below hal4)
  have HP5 := Lib.hid (Blk.new w4 74 #[.pointer (some ⟨w3.heap.size + 1, 0, none⟩)])
  have HA5 := Lib.hid (blk_below HA3.out hD5)
  have HR5 := Lib.hid (blk_below HR3.out hD5)
  have HB5 := Lib.hid (HB3.out.trans (hD5.mono HB3.out.size))
  have HS5 : Hid (w4.heap.size < (w4.alloc (.cells #[.pointer (some ⟨w3.heap.size + 1, 0, none⟩)] 74)).heap.size) := by show _ < _; simp
  clear hal4 hD5 HL4 HD4 HA3 HR3 HB3
  generalize w4.alloc (.cells #[.pointer (some ⟨w3.heap.size + 1, 0, none⟩)] 74) = w5 at *
  go_cut [20] from 15 to 20 (fun r wx => ∃ bs, r = .func (.func 151) #[] #[.pointer (some ⟨bs, 0, none⟩), .pointer (some ⟨bs + 1, 0, none⟩)] ∧ w4.heap.size < bs ∧ Hid (Below w5.heap.size w5 wx) ∧ Hid (Blk wx bs 22 #[.slice A l.length c]) ∧ Hid (Blk wx (bs + 1) 3 #[.int .i64 m]))
  case first =>
    have a5 : w5.cell? ⟨w'.heap.size, 0, none⟩ = some (.slice (some ⟨g, 0, none⟩) 2 ac) := HA5.out.cell 0
    have HI := Lib.hid (retv (items_at w5.drew g ac 2 0 (by decide) A l.length c k0 n0 t0 (HCell.out _ HB5.out.drew 0 _ HC0.out.1) (HCell.out _ HB5.out.drew 1 _ HC0.out.2.1) (HCell.out _ HB5.out.drew 2 _ HC0.out.2.2.1) (HCell.out _ HB5.out.drew 3 _ HC0.out.2.2.2)))
    have HN := Lib.hid (fun wz (hz : Below w'.heap.size w' wz) => retv (n_arg wz g ac n t1 A1 l1 c1 (HCell.out _ hz 4 _ HC4.out.1) (HCell.out _ hz 5 _ HC4.out.2.1) (HCell.out _ hz 6 _ HC4.out.2.2.1) (HCell.out _ hz 7 _ HC4.out.2.2.2)))
    have a5d : w5.drew.cell? ⟨w'.heap.size, 0, none⟩ = some (.slice (some ⟨g, 0, none⟩) 2 ac) := HA5.out.drew.cell 0
    have HD5 : Hid (Below w5.heap.size w5 w5.drew) := drewU (Below.refl w5.heap.size w5) 1
    go_region_law (first
      | (refine step_callD rfl 21 _ _ rfl #[.slice (some ⟨g, 0, none⟩) 2 ac, .int .i64 0] (by simp [Act.eval, Act.put]) (items_in _ _) _ HI.out ?_; rintro v wI ⟨rfl, hbI⟩; have HDI := Lib.hid (HD5.out.trans (hbI.mono HD5.out.size)); have aI : wI.cell? ⟨w'.heap.size, 0, none⟩ = some (.slice (some ⟨g, 0, none⟩) 2 ac) := (blk_below HA5.out HDI.out).cell 0; have HBI := Lib.hid (HB5.out.trans (HDI.out.mono HB5.out.size)); clear hbI)
      | (refine step_callD rfl 64 _ _ rfl #[.slice (some ⟨g, 0, none⟩) 2 ac, .int .i64 1] (by simp [Act.eval, Act.put]) (n_in _ _) _ (HN.out _ HBI.out) ?_; rintro v wN ⟨rfl, hbN⟩; have HDN := Lib.hid (HDI.out.trans (hbN.mono HDI.out.size)); clear hbN)
      | (refine step_callD rfl 109 _ _ rfl #[.slice A l.length c, .int .i64 m] (by simp [Act.eval, Act.put]) (chunk_in _ _) _ (retv (chunk_any A l.length c m hm1 wN)) ?_; rintro v wC ⟨rfl, rfl⟩))
    all_goals
      have hsN : (wN.alloc (.cells #[.slice A l.length c] 22)).heap.size = wN.heap.size + 1 := by simp
      have hbN := (Below.refl wN.heap.size wN).alloc (Nat.le_refl _) (.cells #[.slice A l.length c] 22)
      have hbM := hbN.alloc (by rw [hsN]; omega) (.cells #[.int .i64 m] 3)
      have hnb := Blk.new (wN.alloc (.cells #[.slice A l.length c] 22)) 3 #[.int .i64 m]
      rw [hsN] at hnb
      go_wp2_with fail
      go_meet
      exact ⟨wN.heap.size, rfl, Nat.lt_of_lt_of_le HS5.out HDN.out.size, HDN.out.trans (hbM.mono HDN.out.size), (Blk.new wN _ _).alloc _, hnb⟩
  case rest =>
    obtain ⟨bs, rfl, hbs, HBc, HSl, HNm⟩ := hcut
    go_wp2_with fail
    have HM : Hid (ChS w' l w3.heap.size w4.heap.size g ac bs A c m [] wc) := ⟨⟨_, [], HL5.out.below HBc.out, rfl, fun q h => by cases h⟩, HB5.out.trans (HBc.out.mono HB5.out.size), blk_below HA5.out HBc.out, blk_below HR5.out HBc.out, blk_below HP5.out HBc.out, HSl.out, HNm.out⟩
    have HNw : Hid (w'.heap.size + 1 < wc.heap.size) := HM.out.res.lt
    clear HL5 HP5 HA5 HR5 HB5 HBc HSl HNm HS5
    refine wpIn_wide (n := 6) |>.1 ?_
    refine range_G rfl (enters_of Tryz.func151 (by kernel_rfl) rfl) (encs := encC bb off) (xs := parts m l.length) (fun _ => rfl)
      (fun pre Wz => Hid (ChS w' l w3.heap.size w4.heap.size g ac bs A c m pre Wz))
      (fun l1 J W hI hJ hY h0 => chunk1_in hm1 hm2 hl hc (fun h => (hA h).1) J W (fun pre Wz hj => ⟨(hI pre Wz hj).out.bsl.cell 0, (hI pre Wz hj).out.bnm.cell 0⟩) hJ hY h0)
      (fun _pre x a' _W => a' = { tmps := #[.slice (some ⟨g, 0, none⟩) 2 ac, .pointer (some ⟨w'.heap.size, 0, none⟩), .pointer (some ⟨w'.heap.size + 1, 0, none⟩), .int .i64 0, .pointer (some ⟨w4.heap.size, 0, none⟩), .slice (some ⟨bb, off + x.1 * 7, none⟩) x.2 x.2, undef, undef, .slice (some ⟨g, 0, none⟩) 2 ac, .int .i64 n, .bool (decide (n < 1)), undef, undef, undef, .pointer (some ⟨w3.heap.size + 1, 0, none⟩), u15, u16, u17, u18, u19, .func (.func 151) #[] #[.pointer (some ⟨bs, 0, none⟩), .pointer (some ⟨bs + 1, 0, none⟩)], .slice (some ⟨bb, off + x.1 * 7, none⟩) x.2 x.2, undef, undef, undef, undef, undef, undef, undef, undef, undef, undef, undef, undef, undef], defers := [] })
      (fun pre A B hA hb => hA.out.below hb) (fun pre A x o o' hA hw hx ho _ => hA.out.put hx ho (Nat.le_trans (Nat.le_of_lt HNw.out) hw)) (fun pre x a' A l1 o o' h _ _ _ _ => h) HM ?assign ?body ?done
    case assign =>
      intro l1 pre x W K hpx hM hK
      dsimp only [encC]
      gi_wp2
      exact hK _ _ rfl hM (fun _ _ h _ => h)
    case body =>
      rintro l1 pre x a' W hpx rfl hM
      have hxm : x ∈ parts m l.length := hpx.subset (by simp)
      obtain ⟨hx1, hx2, -⟩ := partsF_mem m l.length hm1 _ _ x hxm
      have hpl : pre.length < 2048 := by
        have h1 := hpx.length_le
        have h2 := partsF_len m l.length l.length 0
        simp at h1
        unfold parts at h1
        omega
      have hpe := piece_len l x hx1
      have hWB : Below B w W := hb.trans (hM.out.low.mono (Nat.le_trans hBw hb.size))
      have hBN : B ≤ w'.heap.size := Nat.le_trans hBw hb.size
      have hbB := (hA (by omega)).2
      have hN1 : w'.heap.size + 1 ≤ W.heap.size := hM.out.args.lt
      have hpf : ∀ (i : Nat) (it : GI), ((l.drop x.1).take x.2)[i]? = some it → Fit it.val := fun i it h => hft _ it (piece_get l x i it h)
      have hps : ∀ (i : Nat) (it : GI), ((l.drop x.1).take x.2)[i]? = some it → Sml it.val := fun i it h => hsm _ it (piece_get l x i it h)
      have he := every_app (w := W) (B := w'.heap.size + 1) hN1 ((l.drop x.1).take x.2) (some ⟨bb, off + x.1 * 7, none⟩) x.2 bb (off + x.1 * 7) (fun j => C (x.1 + j)) (fun _ => ⟨rfl, by omega⟩)
        (fun j it h => by
          have h1 := (hi _ it (piece_get l x j it h)).below hWB hbB
          rwa [show off + (x.1 + j) * 7 = off + x.1 * 7 + j * 7 by omega] at h1)
        (fun j it h => vat_below (hv _ it (piece_get l x j it h)) hWB (by omega) (by omega)) hpf hps (by omega) 110 #[.pointer (some ⟨w'.heap.size, 0, none⟩)]
        (clos_chunk (fun wz hz => hLS wz (hWB.trans (hz.mono (by omega)))) w'.heap.size g ac (hM.out.args.cell 0) (Nat.lt_succ_self _)) (fun args w => enter_ofD Tryz.func110 (by kernel_rfl) rfl args w) W (Below.refl _ _)
      rw [hpe] at he
      have HE := Lib.hid he
      have HMk := Lib.hid (fun (W2 : World) (hW2 : Below W.heap.size W W2) (sv2 : Value) (ps2 : List PI) (h1 : W2.ownsRow W.heap.size 34 7 sv2 ps2.length (rowC ps2)) (h2 : ps2.map PI.it = renum ((l.drop x.1).take x.2) 0) (h3 : ∀ q ∈ ps2, Vok W (w'.heap.size + 1) q) => vc_made h1 h2 h3 hW2 hN1 (by rw [hpe]; omega) hpf hps)
      rw [hpe] at HMk
      have HAp := Lib.hid (fun (W3 : World) (h : ChS w' l w3.heap.size w4.heap.size g ac bs A c m pre W3) (A2 : Option Addr) (c2 : Nat) (hv2 : VC (w'.heap.size + 1) W3 (.mk 4 x.2 ⟨#[]⟩ (renum ((l.drop x.1).take x.2) 0)) (.agg #[.int .i64 4, .int .i64 x.2, .string ⟨#[]⟩, .slice A2 x.2 c2])) => h.app x HM3.out HP4.out hbs hpl (fun wz hz => hLS wz (hb.trans (hz.mono hBN))) hpe hv2)
      clear he hpf hps hWB hi hv hft hsm hA hLS hb
      gi_wp2_with (first
        | (refine ⟨trivial, ?_⟩; gi_at_call 85; refine (CallsIn.inRound l1 (callsIn_wide.2 HE.out)).mono ?_; rintro e W2 ⟨sv2, ps2, rfl, hps2, ho2, hv2, hb2⟩; obtain ⟨A2, c2, rfl, hvc⟩ := HMk.out W2 hb2 sv2 ps2 ho2 hps2 hv2; have HB2 := Lib.hid hb2; have HM3 := Lib.hid ((hM.out.below hb2).below ((Below.refl W2.heap.size W2).alloc (Nat.le_refl _) (.cells #[.int .i64 4, .int .i64 x.2, .string ⟨#[]⟩, .slice A2 x.2 c2] 24))); have HVC := Lib.hid (hvc.below ((Below.refl W2.heap.size W2).alloc (Nat.le_refl _) (.cells #[.int .i64 4, .int .i64 x.2, .string ⟨#[]⟩, .slice A2 x.2 c2] 24)) (Nat.le_trans hN1 hb2.size)); have HBx := Blk.new W2 24 #[.int .i64 4, .int .i64 x.2, .string ⟨#[]⟩, .slice A2 x.2 c2]; have b0 := HBx.cell 0; have b1 := HBx.cell 1; have b2 := HBx.cell 2; have b3 := HBx.cell 3; have p0 := HM3.out.ptr.cell 0; clear hvc ho2 hv2 hps2 HBx hb2)
        | (refine ⟨trivial, ?_⟩; gi_at_call 87; refine (CallsIn.inRound l1 (callsIn_wide.2 (HAp.out _ HM3.out A2 c2 HVC.out))).mono ?_; rintro e W4 ⟨⟨v4, rfl⟩, hM4, hk4⟩))
      exact ⟨Lib.hid trivial, (KG.below HB2.out).trans ((KG.below ((Below.refl W2.heap.size W2).alloc (Nat.le_refl _) _)).trans hk4)⟩
    case done =>
      intro D W hD hM hdf
      obtain ⟨sv, ps, hL, hp, hvs⟩ := hM.out.ex
      have hpp : ps.length = (parts m l.length).length := by
        have := congrArg List.length hp
        rwa [List.length_map, renum_len, List.length_map] at this
      have h48 : ps.length ≤ 2048 := by
        have := partsF_len m l.length l.length 0
        unfold parts at hpp
        omega
      have p0 := hM.out.ptr.cell 0
      have HT := Lib.hid (told_any W hL h48)
      have HDf := Lib.hid hdf
      have HPp := Lib.hid hpp
      clear hpp
      have hDl := (Array.getElem?_eq_some_iff.1 hdf).1
      have hDN : w'.heap.size + 1 < D := Nat.lt_of_lt_of_le HNw.out hD
      clear hdf
      go_wp2_with (go_at_call 92; refine HT.out.mono ?_; rintro e W2 ⟨sv2, rfl, ho2, hk2⟩; obtain ⟨A2, c2, rfl⟩ := own_form0 ho2; have HR2 := Lib.hid (hM.out.res.keeps hk2 (by have := HM3.out; omega)); have z0 := HR2.out.cell 0; have z1 := HR2.out.cell 1; have z2 := HR2.out.cell 2; have z3 := HR2.out.cell 3; have zf0 := HR2.out.frozen 0; have zf1 := HR2.out.frozen 1; have zf2 := HR2.out.frozen 2; have zf3 := HR2.out.frozen 3)
      have hM2 := HM3.out
      have HS4 := store4 HR2.out (.int .i64 4) (.int .i64 (parts m l.length).length) (.string ⟨#[]⟩) (.slice A2 ps.length c2)
      have hD2 : D ≠ w3.heap.size + 1 := by
        rintro rfl
        have := hL.blk
        unfold Blk at this
        rw [this] at HDf
        cases HDf.out
      have hDf := ((HS4.2.block D (Nat.lt_of_lt_of_le hDl hk2.size) (by omega)).trans (hk2.block D hDl hD2)).trans HDf.out
      have hRf := own_keeps ho2 HS4.2 (fun e => by have := (ho2.lt _ e.symm).1; have := hM.out.args.lt; have := hM.out.res.lt; omega)
      have hV4 : ∀ q ∈ ps, VC (w'.heap.size + 1) ((((W2.setCell ⟨w'.heap.size + 1, 0, none⟩ (.int .i64 4)).setCell ⟨w'.heap.size + 1, 1, none⟩ (.int .i64 (parts m l.length).length)).setCell ⟨w'.heap.size + 1, 2, none⟩ (.string ⟨#[]⟩)).setCell ⟨w'.heap.size + 1, 3, none⟩ (.slice A2 ps.length c2)) q.gv q.val := fun q hq =>
        (((hvs q hq).2.apart hL.blk (by decide) hk2 (by omega)).apart HR2.out (by decide) HS4.2 (Nat.le_refl _))
      have hBf : Below w'.heap.size w' ((((W2.setCell ⟨w'.heap.size + 1, 0, none⟩ (.int .i64 4)).setCell ⟨w'.heap.size + 1, 1, none⟩ (.int .i64 (parts m l.length).length)).setCell ⟨w'.heap.size + 1, 2, none⟩ (.string ⟨#[]⟩)).setCell ⟨w'.heap.size + 1, 3, none⟩ (.slice A2 ps.length c2)) :=
        (hM.out.low.trans (hk2.below hM.out.low.size (fun i e => by omega))).trans (HS4.2.below (Nat.le_trans hM.out.low.size hk2.size) (fun i e => by omega))
      generalize (((W2.setCell ⟨w'.heap.size + 1, 0, none⟩ (.int .i64 4)).setCell ⟨w'.heap.size + 1, 1, none⟩ (.int .i64 (parts m l.length).length)).setCell ⟨w'.heap.size + 1, 2, none⟩ (.string ⟨#[]⟩)).setCell ⟨w'.heap.size + 1, 3, none⟩ (.slice A2 ps.length c2) = wf at *
      have e0 : (wf.putObj D (.deferred none)).cell? ⟨w'.heap.size + 1, 0, none⟩ = some (.int .i64 4) := (cell_put hDf rfl rfl _).trans (HS4.1.cell 0)
      have e1 : (wf.putObj D (.deferred none)).cell? ⟨w'.heap.size + 1, 1, none⟩ = some (.int .i64 (parts m l.length).length) := (cell_put hDf rfl rfl _).trans (HS4.1.cell 1)
      have e2 : (wf.putObj D (.deferred none)).cell? ⟨w'.heap.size + 1, 2, none⟩ = some (.string ⟨#[]⟩) := (cell_put hDf rfl rfl _).trans (HS4.1.cell 2)
      have e3 : (wf.putObj D (.deferred none)).cell? ⟨w'.heap.size + 1, 3, none⟩ = some (.slice A2 ps.length c2) := (cell_put hDf rfl rfl _).trans (HS4.1.cell 3)
      have hgp := gear_keeps (A := wf) (x := D) (o := .deferred none) (o' := .deferred none)
      refine ⟨by simp, .inl ⟨_, _, rfl, run_takeDeferred hDf, ?_⟩⟩
      refine ⟨.tuple #[.agg #[.int .i64 4, .int .i64 (parts m l.length).length, .string ⟨#[]⟩, (.slice A2 ps.length c2)], .int .i64 0], by simp [results, Tryz.results40, go_sem, e0, e1, e2, e3], _, ps, by rw [HPp.out], hp, own_le2 (ownsRow_putObj hRf (.deferred none) hDf rfl) hM.out.low.size, fun q hq => ⟨(hvs q hq).1, (hV4 q hq).put hDf (gear_def _) (by omega)⟩, hBf.trans (hgp.below hBf.size (fun i e => by omega)), Nat.le_trans (Nat.le_of_lt HS4.1.lt) hgp.size⟩
end
end Dp
end Go.Proofs.YtopmodahdmnpjaaGreatDoor
