import Derived.Test.YtgpemnmopogppaaGreatDoorZUfE
import Derived.Test.YtgpemnmopogppaaGreatDoorZUfAQ
set_option maxRecDepth 1000000
set_option maxHeartbeats 16000000
namespace Go.Proofs.YtgpemnmopogppaaGreatDoor
open Go.Proofs.Tryz
open Go Go.RowKit
namespace Uf
open Dp
open Ut
theorem putV_of {H T : ByteArray} {L : List ByteArray} {gs g2 : List GI} {nx nx2 : Int} {ok2 : Bool} (hH : ¬ (H = ⟨#[]⟩ ∨ 64 ≤ L.length)) (hr : putR L (true, 0, H) false T gs nx = ((g2, nx2), ok2)) :
  putV H L T (.mk 4 nx ⟨#[]⟩ gs) = if ok2 = true ∧ fewB (.mk 4 nx2 ⟨#[]⟩ g2) = true then .mk 4 nx2 ⟨#[]⟩ g2 else .mk 4 nx ⟨#[]⟩ gs := by
 have hA := putR_agree T L H true false gs nx (by simp)
 unfold putV
 rw [if_neg hH]
 have hk : kidsG (.mk 4 nx ⟨#[]⟩ gs) = (gs, nx) := by unfold kidsG; simp
 rw [hk, hr] at *
 unfold Agree at hA
 cases hp : putO L H true T gs nx with
 | none =>
  rw [hp] at hA
  have hA : ok2 = false := hA
  subst hA
  simp
 | some p =>
  rw [hp] at hA
  have hA : ((g2, nx2), ok2) = (p, true) := hA
  injection hA with h1 h2
  subst h1 h2
  show (if 0 ≤ leftV (.mk 4 nx2 ⟨#[]⟩ g2) 2048 then _ else _) = _
  unfold fewB
  simp
theorem fin_own {w' W wf : World} {zb n : Nat} {a0 a1 a2 a3 u0 u1 u2 u3 : Value} {g : GV} (hz : Blk W zb 25 #[a0, a1, a2, a3]) (hv : VOwn W g (.agg #[u0, u1, u2, u3])) (hb : Below n w' W) (hn : n ≤ zb) (hw : n ≤ W.heap.size)
  (hf : wf = (((W.setCell ⟨zb, 0, none⟩ u0).setCell ⟨zb, 1, none⟩ u1).setCell ⟨zb, 2, none⟩ u2).setCell ⟨zb, 3, none⟩ u3) :
  Blk wf zb 25 #[u0, u1, u2, u3] ∧ VOwn wf g (.agg #[u0, u1, u2, u3]) ∧ Below n w' wf := by
 obtain ⟨h1, h2⟩ := store4 hz u0 u1 u2 u3
 rw [← hf] at h1 h2
 refine ⟨h1, hv.keeps h2 fun j e => ?_, hb.trans (h2.below hw (fun j e => by omega))⟩
 subst e
 exact ⟨_, _, hz, by decide⟩
theorem row_cap {w : World} {b size : Nat} {e : TypeId} {A : Option Addr} {n c : Nat} {xs : List Value} (h : w.ownsRow b e size (.slice A n c) n xs) : n ≤ c := by
 rcases h.2 with ⟨e, h0⟩ | ⟨g, cap, cur, e, _, _, hle, _⟩
 · omega
 · injection e with h1 h2 h3
   omega
theorem vb_new (w2 : World) {A2 : Option Addr} {c2 : Nat} {ps2 : List PI} {nx2 : Int} (hr : RwOwn w2 (.slice A2 ps2.length c2) ps2 nx2) :
  Blk ((w2.alloc (.cells #[.slice A2 ps2.length c2, .int .i64 nx2] 84)).alloc (.cells #[.int .i64 4, .int .i64 nx2, .string ⟨#[]⟩, .slice A2 ps2.length c2] 25)) (w2.heap.size + 1) 25 #[.int .i64 4, .int .i64 nx2, .string ⟨#[]⟩, .slice A2 ps2.length c2] ∧
  VOwn ((w2.alloc (.cells #[.slice A2 ps2.length c2, .int .i64 nx2] 84)).alloc (.cells #[.int .i64 4, .int .i64 nx2, .string ⟨#[]⟩, .slice A2 ps2.length c2] 25)) (.mk 4 nx2 ⟨#[]⟩ (ps2.map PI.it)) (.agg #[.int .i64 4, .int .i64 nx2, .string ⟨#[]⟩, .slice A2 ps2.length c2]) ∧
  Below w2.heap.size w2 ((w2.alloc (.cells #[.slice A2 ps2.length c2, .int .i64 nx2] 84)).alloc (.cells #[.int .i64 4, .int .i64 nx2, .string ⟨#[]⟩, .slice A2 ps2.length c2] 25)) := by
 have hal := fun (wx : World) (o : Obj) => (Below.refl wx.heap.size wx).alloc (Nat.le_refl _) o
 have c1 := hal w2 (.cells #[.slice A2 ps2.length c2, .int .i64 nx2] 84)
 have z1 : (w2.alloc (.cells #[.slice A2 ps2.length c2, .int .i64 nx2] 84)).heap.size = w2.heap.size + 1 := by simp
 generalize w2.alloc (.cells #[.slice A2 ps2.length c2, .int .i64 nx2] 84) = W1 at *
 have b2 := Blk.new W1 25 #[.int .i64 4, .int .i64 nx2, .string ⟨#[]⟩, .slice A2 ps2.length c2]
 have c2' := hal W1 (.cells #[.int .i64 4, .int .i64 nx2, .string ⟨#[]⟩, .slice A2 ps2.length c2] 25)
 rw [z1] at b2
 have hv := (((hr.under c1).under c2').value rfl)
 rw [List.length_map] at hv
 exact ⟨b2, hv, c1.trans (c2'.mono (by omega))⟩
structure QSt (w' W : World) (g : GV) (x0 x1 x2 x3 : Value) : Prop where
 box : Blk W w'.heap.size 25 #[x0, x1, x2, x3]
 res : Blk W (w'.heap.size + 1) 25 #[.int .i64 0, .int .i64 0, .string ⟨#[]⟩, .slice none 0 0]
 own : VOwn W g (.agg #[x0, x1, x2, x3])
 low : Below w'.heap.size w' W
theorem QSt.under {w' W W2 : World} {g : GV} {x0 x1 x2 x3 : Value} (h : QSt w' W g x0 x1 x2 x3) (hb : Below W.heap.size W W2) : QSt w' W2 g x0 x1 x2 x3 := ⟨blk_below h.box hb, blk_below h.res hb, h.own.under hb, h.low.trans (hb.mono h.low.size)⟩
theorem qst_new (w' : World) {g : GV} {x0 x1 x2 x3 : Value} (h : VOwn w' g (.agg #[x0, x1, x2, x3])) : QSt w' ((w'.alloc (.cells #[x0, x1, x2, x3] 25)).alloc (.cells #[.int .i64 0, .int .i64 0, .string ⟨#[]⟩, .slice none 0 0] 25)) g x0 x1 x2 x3 := by
 have hal := fun (wx : World) (o : Obj) => (Below.refl wx.heap.size wx).alloc (Nat.le_refl _) o
 have b1 := Blk.new w' 25 #[x0, x1, x2, x3]
 have c1 := hal w' (.cells #[x0, x1, x2, x3] 25)
 have z1 : (w'.alloc (.cells #[x0, x1, x2, x3] 25)).heap.size = w'.heap.size + 1 := by simp
 generalize w'.alloc (.cells #[x0, x1, x2, x3] 25) = W1 at *
 have b2 := Blk.new W1 25 #[.int .i64 0, .int .i64 0, .string ⟨#[]⟩, .slice none 0 0]
 have c2 := hal W1 (.cells #[.int .i64 0, .int .i64 0, .string ⟨#[]⟩, .slice none 0 0] 25)
 rw [z1] at b2
 exact ⟨blk_below b1 c2, b2, (h.under c1).under c2, c1.trans (c2.mono (by omega))⟩
def RQP (w' : World) (g : GV) (e : Ending) (w'' : World) : Prop := ∃ y, e = .returned (.tuple #[y, .int .i64 0]) ∧ VOwn w'' g y ∧ Below w'.heap.size w' w''
theorem rqput_any (w' : World) {nx0 : Int} {gs0 : List GI} {x : Value} (h : VOwn w' (.mk 4 nx0 ⟨#[]⟩ gs0) x) (hg : WfG (.mk 4 nx0 ⟨#[]⟩ gs0)) (name text : List UInt8) (hname : name.length ≤ 16777216) (htext : text.length ≤ 16777216) :
  Calls prog 31 #[x, .string (mkB name), .string (mkB text)] w' fun e w'' => RQP w' (putQ name text (.mk 4 nx0 ⟨#[]⟩ gs0)) e w'' := by
 obtain ⟨ps, A, c, rfl, rfl, ho, hv⟩ := h.form
 have HR := lH (RwOwn.mk ho hg hv)
 have HQ := lH (qst_new w' h)
 have hal := fun (wx : World) (o : Obj) => (Below.refl wx.heap.size wx).alloc (Nat.le_refl _) o
 have HAL := lH hal
 have HBa := lH (qst_new w' h).low
 have HPa := lH (path_any name hname)
 unfold putQ
 obtain ⟨H, hH⟩ : ∃ H : ByteArray, mkB (headL name) = H := ⟨_, rfl⟩
 obtain ⟨L, hL⟩ : ∃ L : List ByteArray, (stepsL (restL name)).map mkB = L := ⟨_, rfl⟩
 obtain ⟨T, hT⟩ : ∃ T : ByteArray, mkB text = T := ⟨_, rfl⟩
 have hHs : H.size ≤ 140737488351232 := by
  rw [← hH, mkB_size, headL, List.length_map]
  have := (List.takeWhile_sublist (l := name) (fun c : UInt8 => c != 91)).length_le
  omega
 have hTs : T.size ≤ 140737488351232 := by rw [← hT, mkB_size]; omega
 have hPa : Hid (∀ wz, Calls prog 70 #[.string (mkB name)] wz fun e w2 => ∃ As cs, e = .returned (.tuple #[.string H, .slice As L.length cs]) ∧ w2.ownsRow wz.heap.size 9 1 (.slice As L.length cs) L.length (L.map .string) ∧ Below wz.heap.size wz w2) := fun wz => (HPa.out wz).mono fun e w2 ⟨As, cs, h1, h2, h3⟩ => by
  have hLl : L.length = (stepsL (restL name)).length := by rw [← hL, List.length_map]
  have hLm : L.map Value.string = (stepsL (restL name)).map fun p => .string (mkB p) := by rw [← hL, List.map_map]; rfl
  rw [hLl, hLm, ← hH]
  exact ⟨As, cs, h1, h2, h3⟩
 have HLs : Hid (∀ s ∈ L, s.size ≤ 140737488351232) := by
  intro s hs
  rw [← hL] at hs
  obtain ⟨l, hl, rfl⟩ := List.mem_map.1 hs
  have h1 := stepsL_le _ (restL name) (Nat.le_refl _) l hl
  have h2 := Up.rest_len name
  rw [mkB_size]
  omega
 rw [hH, hL, hT]
 clear hH hL hT HPa h ho hv hal
 generalize mkB name = NM at *
 unfold RQP
 obtain ⟨GP, hGP⟩ : ∃ z, putV H L T (.mk 4 nx0 ⟨#[]⟩ (ps.map PI.it)) = z := ⟨_, rfl⟩
 rw [hGP]
 have HGP := lH hGP
 clear hGP
 go_enter func31, ntmps31
 go_upto_region 1 with fail
 have hws : ((w'.alloc (.cells #[.int .i64 4, .int .i64 nx0, .string ⟨#[]⟩, .slice A ps.length c] 25)).alloc (.cells #[.int .i64 0, .int .i64 0, .string ⟨#[]⟩, .slice none 0 0] 25)).heap.size = w'.heap.size + 2 := by simp
 generalize (w'.alloc (.cells #[.int .i64 4, .int .i64 nx0, .string ⟨#[]⟩, .slice A ps.length c] 25)).alloc (.cells #[.int .i64 0, .int .i64 0, .string ⟨#[]⟩, .slice none 0 0] 25) = wa at *
 obtain ⟨⟨x0, x1, x2, x3⟩, -⟩ := z8 HQ.out.box
 go_upto_region 4 with (go_at_call 70; refine (hPa.out _).mono ?_; rintro e wp ⟨As, cs, rfl, hown, hbp⟩; have HOw := lH hown; have HBp := lH hbp; clear hown hbp)
 have HQp := lH (HQ.out.under HBp.out)
 have HCs : Hid (L.length ≤ cs ∧ Reads wp wp.heap.size 1 As L.length (L.map .string)) := ⟨row_cap HOw.out, Reads.of_own HOw.out⟩
 clear x0 x1 x2 x3 hPa HOw
 obtain ⟨⟨x0, x1, x2, x3⟩, -⟩ := z8 HQp.out.box
 obtain ⟨⟨z0, z1, z2, z3⟩, zf0, zf1, zf2, zf3⟩ := z8 HQp.out.res
 by_cases hH0 : H = ⟨#[]⟩
 · have HE : Hid (GP = .mk 4 nx0 ⟨#[]⟩ (ps.map PI.it)) := by
    show _ = _
    rw [← HGP.out, putV, if_pos (.inl hH0)]
   subst hH0
   have HF := lH (fin_own (wf := _) HQp.out.res HQp.out.own HQp.out.low (by omega) HQp.out.low.size rfl)
   go_wp2_with fail
   generalize (((wp.setCell ⟨w'.heap.size + 1, 0, none⟩ (.int .i64 4)).setCell ⟨w'.heap.size + 1, 1, none⟩ (.int .i64 nx0)).setCell ⟨w'.heap.size + 1, 2, none⟩ (.string ⟨#[]⟩)).setCell ⟨w'.heap.size + 1, 3, none⟩ (.slice A ps.length c) = wf at *
   obtain ⟨⟨e0, e1, e2, e3⟩, -⟩ := z8 HF.out.1
   refine bodyPost_ret (v := .tuple #[.agg #[.int .i64 4, .int .i64 nx0, .string ⟨#[]⟩, .slice A ps.length c], .int .i64 0]) (by simp [results, results31, go_sem, e0, e1, e2, e3]) rfl ?_
   exact ⟨_, rfl, by rw [HE.out]; exact HF.out.2⟩
 · obtain ⟨hq1, hq2, hq3⟩ := not_empty hH0
   by_cases h64 : 64 ≤ L.length
   · have HE : Hid (GP = .mk 4 nx0 ⟨#[]⟩ (ps.map PI.it)) := by
      show _ = _
      rw [← HGP.out, putV, if_pos (.inr h64)]
     have hI64 : (64 : Int) ≤ (L.length : Int) := by omega
     have HF := lH (fin_own (wf := _) HQp.out.res HQp.out.own HQp.out.low (by omega) HQp.out.low.size rfl)
     go_wp2_with fail
     generalize (((wp.setCell ⟨w'.heap.size + 1, 0, none⟩ (.int .i64 4)).setCell ⟨w'.heap.size + 1, 1, none⟩ (.int .i64 nx0)).setCell ⟨w'.heap.size + 1, 2, none⟩ (.string ⟨#[]⟩)).setCell ⟨w'.heap.size + 1, 3, none⟩ (.slice A ps.length c) = wf at *
     obtain ⟨⟨e0, e1, e2, e3⟩, -⟩ := z8 HF.out.1
     refine bodyPost_ret (v := .tuple #[.agg #[.int .i64 4, .int .i64 nx0, .string ⟨#[]⟩, .slice A ps.length c], .int .i64 0]) (by simp [results, results31, go_sem, e0, e1, e2, e3]) rfl ?_
     exact ⟨_, rfl, by rw [HE.out]; exact HF.out.2⟩
   · have hI64 : ¬ (64 : Int) ≤ (L.length : Int) := by omega
     have HNo : Hid (¬ (H = ⟨#[]⟩ ∨ 64 ≤ L.length)) := fun h => h.elim hH0 h64
     have HPut := lH (rput_any T hTs L (by omega) HLs.out wp true 0 H false A c ps nx0 As cs ⟨by decide, by decide⟩ hHs (HR.out.under HQp.out.low) HCs.out.2 HCs.out.1)
     go_upto_region 7 with (go_at_call 71; refine HPut.out.mono ?_; rintro e w2 ⟨A2, ps2, c2, nx2, ok2, rfl, hPe, hRo, hb2⟩; have HPe := lH hPe; have HRo := lH hRo; have HB2 := lH hb2; clear hPe hRo hb2)
     have HVb := lH (vb_new w2 HRo.out)
     have HPv := lH (HGP.out.symm.trans (putV_of HNo.out HPe.out))
     have HQ2 := lH (HQp.out.under (HB2.out.trans (HVb.out.2.2.mono HB2.out.size)))
     clear HGP HPe HRo HPut HQp HNo x0 x1 x2 x3 z0 z1 z2 z3 zf0 zf1 zf2 zf3
     go_upto_region 8 with fail
     generalize (w2.alloc (.cells #[.slice A2 ps2.length c2, .int .i64 nx2] 84)).alloc (.cells #[.int .i64 4, .int .i64 nx2, .string ⟨#[]⟩, .slice A2 ps2.length c2] 25) = w3 at *
     obtain ⟨⟨x0, x1, x2, x3⟩, -⟩ := z8 HQ2.out.box
     obtain ⟨⟨z0, z1, z2, z3⟩, zf0, zf1, zf2, zf3⟩ := z8 HQ2.out.res
     obtain ⟨⟨v0, v1, v2, v3⟩, -⟩ := z8 HVb.out.1
     cases ok2 with
     | false =>
      have HE : Hid (GP = .mk 4 nx0 ⟨#[]⟩ (ps.map PI.it)) := by
       show _ = _
       rw [HPv.out]
       simp
      have HF := lH (fin_own (wf := _) HQ2.out.res HQ2.out.own HQ2.out.low (by omega) HQ2.out.low.size rfl)
      go_wp2_with fail
      generalize (((w3.setCell ⟨w'.heap.size + 1, 0, none⟩ (.int .i64 4)).setCell ⟨w'.heap.size + 1, 1, none⟩ (.int .i64 nx0)).setCell ⟨w'.heap.size + 1, 2, none⟩ (.string ⟨#[]⟩)).setCell ⟨w'.heap.size + 1, 3, none⟩ (.slice A ps.length c) = wf at *
      obtain ⟨⟨e0, e1, e2, e3⟩, -⟩ := z8 HF.out.1
      refine bodyPost_ret (v := .tuple #[.agg #[.int .i64 4, .int .i64 nx0, .string ⟨#[]⟩, .slice A ps.length c], .int .i64 0]) (by simp [results, results31, go_sem, e0, e1, e2, e3]) rfl ?_
      exact ⟨_, rfl, by rw [HE.out]; exact HF.out.2⟩
     | true =>
      have HFew := lH (few_any (Nat.le_refl _) HVb.out.2.1.vat w3 (Below.refl _ _))
      cases hfw : fewB (.mk 4 nx2 ⟨#[]⟩ (ps2.map PI.it)) with
      | false =>
       have HE : Hid (GP = .mk 4 nx0 ⟨#[]⟩ (ps.map PI.it)) := by
        show _ = _
        rw [HPv.out, hfw]
        simp
       rw [hfw] at HFew
       clear hfw
       go_upto_region 9 with (go_at_call 33; refine HFew.out.mono ?_; rintro e w4 ⟨rfl, hb4⟩; have HQ4 := lH (HQ2.out.under hb4); clear hb4; clear x0 x1 x2 x3 z0 z1 z2 z3 zf0 zf1 zf2 zf3; obtain ⟨⟨x0, x1, x2, x3⟩, -⟩ := z8 HQ4.out.box; obtain ⟨⟨z0, z1, z2, z3⟩, zf0, zf1, zf2, zf3⟩ := z8 HQ4.out.res)
       have HF := lH (fin_own (wf := _) HQ4.out.res HQ4.out.own HQ4.out.low (by omega) HQ4.out.low.size rfl)
       go_wp2_with fail
       generalize (((w4.setCell ⟨w'.heap.size + 1, 0, none⟩ (.int .i64 4)).setCell ⟨w'.heap.size + 1, 1, none⟩ (.int .i64 nx0)).setCell ⟨w'.heap.size + 1, 2, none⟩ (.string ⟨#[]⟩)).setCell ⟨w'.heap.size + 1, 3, none⟩ (.slice A ps.length c) = wf at *
       obtain ⟨⟨e0, e1, e2, e3⟩, -⟩ := z8 HF.out.1
       refine bodyPost_ret (v := .tuple #[.agg #[.int .i64 4, .int .i64 nx0, .string ⟨#[]⟩, .slice A ps.length c], .int .i64 0]) (by simp [results, results31, go_sem, e0, e1, e2, e3]) rfl ?_
       exact ⟨_, rfl, by rw [HE.out]; exact HF.out.2⟩
      | true =>
       have HE : Hid (GP = .mk 4 nx2 ⟨#[]⟩ (ps2.map PI.it)) := by
        show _ = _
        rw [HPv.out, hfw]
        simp
       rw [hfw] at HFew
       clear hfw
       go_upto_region 10 with (go_at_call 33; refine HFew.out.mono ?_; rintro e w4 ⟨rfl, hb4⟩; have HQ4 := lH (HQ2.out.under hb4); have HV4 := lH (HVb.out.2.1.under hb4); have HY4 := lH (blk_below HVb.out.1 hb4); clear hb4; clear z0 z1 z2 z3 zf0 zf1 zf2 zf3 v0 v1 v2 v3; obtain ⟨⟨v0, v1, v2, v3⟩, -⟩ := z8 HY4.out; obtain ⟨⟨z0, z1, z2, z3⟩, zf0, zf1, zf2, zf3⟩ := z8 HQ4.out.res)
       have HF := lH (fin_own (wf := _) HQ4.out.res HV4.out HQ4.out.low (by omega) HQ4.out.low.size rfl)
       go_wp2_with fail
       generalize (((w4.setCell ⟨w'.heap.size + 1, 0, none⟩ (.int .i64 4)).setCell ⟨w'.heap.size + 1, 1, none⟩ (.int .i64 nx2)).setCell ⟨w'.heap.size + 1, 2, none⟩ (.string ⟨#[]⟩)).setCell ⟨w'.heap.size + 1, 3, none⟩ (.slice A2 ps2.length c2) = wf at *
       obtain ⟨⟨e0, e1, e2, e3⟩, -⟩ := z8 HF.out.1
       refine bodyPost_ret (v := .tuple #[.agg #[.int .i64 4, .int .i64 nx2, .string ⟨#[]⟩, .slice A2 ps2.length c2], .int .i64 0]) (by simp [results, results31, go_sem, e0, e1, e2, e3]) rfl ?_
       exact ⟨_, rfl, by rw [HE.out]; exact HF.out.2⟩
end Uf
end Go.Proofs.YtgpemnmopogppaaGreatDoor
