import Derived.Test.YtgpemnmopogppaaGreatDoorZRlB
import Derived.Test.YtgpemnmopogppaaGreatDoorZRlF
import Derived.Test.YtgpemnmopogppaaGreatDoorZRlG
set_option maxRecDepth 1000000
set_option maxHeartbeats 16000000
namespace Go.Proofs.YtgpemnmopogppaaGreatDoor
open Held
open Go.Proofs.Tryz
open Go Go.RowKit
namespace Rl
open Dp
open Ut (queryG z8 ixO mkB mkB_of mkB_size store4)
structure ResV (W0 W : World) (rq c1 c2 c3 c4 : Array Value) : Prop where
 r1 : Blk W (W0.heap.size + 1) 25 c1
 r2 : Blk W (W0.heap.size + 2) 25 c2
 r3 : Blk W (W0.heap.size + 3) 25 c3
 r4 : Blk W (W0.heap.size + 4) 25 c4
 req : Blk W W0.heap.size 43 rq
theorem ResV.under {W0 W W' : World} {rq c1 c2 c3 c4 : Array Value} (h : ResV W0 W rq c1 c2 c3 c4) (hb : Below W.heap.size W W') : ResV W0 W' rq c1 c2 c3 c4 := ⟨blk_below h.r1 hb, blk_below h.r2 hb, blk_below h.r3 hb, blk_below h.r4 hb, blk_below h.req hb⟩
theorem ResV.put1 {W0 W : World} {rq c2 c3 c4 : Array Value} {a0 a1 a2 a3 : Value} (h : ResV W0 W rq #[a0, a1, a2, a3] c2 c3 c4) (u0 u1 u2 u3 : Value) :
  ResV W0 ((((W.setCell ⟨W0.heap.size + 1, 0, none⟩ u0).setCell ⟨W0.heap.size + 1, 1, none⟩ u1).setCell ⟨W0.heap.size + 1, 2, none⟩ u2).setCell ⟨W0.heap.size + 1, 3, none⟩ u3) rq #[u0, u1, u2, u3] c2 c3 c4 ∧ Keeps (fun j => W0.heap.size + 1 ≤ j ∧ j ≤ W0.heap.size + 4) W ((((W.setCell ⟨W0.heap.size + 1, 0, none⟩ u0).setCell ⟨W0.heap.size + 1, 1, none⟩ u1).setCell ⟨W0.heap.size + 1, 2, none⟩ u2).setCell ⟨W0.heap.size + 1, 3, none⟩ u3) := by
 obtain ⟨h1, h2⟩ := store4 h.r1 u0 u1 u2 u3
 exact ⟨⟨h1, h.r2.keeps h2 (by omega), h.r3.keeps h2 (by omega), h.r4.keeps h2 (by omega), h.req.keeps h2 (by omega)⟩, h2.mono fun j _ e => by omega⟩
theorem ResV.put2 {W0 W : World} {rq c1 c3 c4 : Array Value} {a0 a1 a2 a3 : Value} (h : ResV W0 W rq c1 #[a0, a1, a2, a3] c3 c4) (u0 u1 u2 u3 : Value) :
  ResV W0 ((((W.setCell ⟨W0.heap.size + 2, 0, none⟩ u0).setCell ⟨W0.heap.size + 2, 1, none⟩ u1).setCell ⟨W0.heap.size + 2, 2, none⟩ u2).setCell ⟨W0.heap.size + 2, 3, none⟩ u3) rq c1 #[u0, u1, u2, u3] c3 c4 ∧ Keeps (fun j => W0.heap.size + 1 ≤ j ∧ j ≤ W0.heap.size + 4) W ((((W.setCell ⟨W0.heap.size + 2, 0, none⟩ u0).setCell ⟨W0.heap.size + 2, 1, none⟩ u1).setCell ⟨W0.heap.size + 2, 2, none⟩ u2).setCell ⟨W0.heap.size + 2, 3, none⟩ u3) := by
 obtain ⟨h1, h2⟩ := store4 h.r2 u0 u1 u2 u3
 exact ⟨⟨h.r1.keeps h2 (by omega), h1, h.r3.keeps h2 (by omega), h.r4.keeps h2 (by omega), h.req.keeps h2 (by omega)⟩, h2.mono fun j _ e => by omega⟩
theorem ResV.put3 {W0 W : World} {rq c1 c2 c4 : Array Value} {a0 a1 a2 a3 : Value} (h : ResV W0 W rq c1 c2 #[a0, a1, a2, a3] c4) (u0 u1 u2 u3 : Value) :
  ResV W0 ((((W.setCell ⟨W0.heap.size + 3, 0, none⟩ u0).setCell ⟨W0.heap.size + 3, 1, none⟩ u1).setCell ⟨W0.heap.size + 3, 2, none⟩ u2).setCell ⟨W0.heap.size + 3, 3, none⟩ u3) rq c1 c2 #[u0, u1, u2, u3] c4 ∧ Keeps (fun j => W0.heap.size + 1 ≤ j ∧ j ≤ W0.heap.size + 4) W ((((W.setCell ⟨W0.heap.size + 3, 0, none⟩ u0).setCell ⟨W0.heap.size + 3, 1, none⟩ u1).setCell ⟨W0.heap.size + 3, 2, none⟩ u2).setCell ⟨W0.heap.size + 3, 3, none⟩ u3) := by
 obtain ⟨h1, h2⟩ := store4 h.r3 u0 u1 u2 u3
 exact ⟨⟨h.r1.keeps h2 (by omega), h.r2.keeps h2 (by omega), h1, h.r4.keeps h2 (by omega), h.req.keeps h2 (by omega)⟩, h2.mono fun j _ e => by omega⟩
theorem ResV.put4 {W0 W : World} {rq c1 c2 c3 : Array Value} {a0 a1 a2 a3 : Value} (h : ResV W0 W rq c1 c2 c3 #[a0, a1, a2, a3]) (u0 u1 u2 u3 : Value) :
  ResV W0 ((((W.setCell ⟨W0.heap.size + 4, 0, none⟩ u0).setCell ⟨W0.heap.size + 4, 1, none⟩ u1).setCell ⟨W0.heap.size + 4, 2, none⟩ u2).setCell ⟨W0.heap.size + 4, 3, none⟩ u3) rq c1 c2 c3 #[u0, u1, u2, u3] ∧ Keeps (fun j => W0.heap.size + 1 ≤ j ∧ j ≤ W0.heap.size + 4) W ((((W.setCell ⟨W0.heap.size + 4, 0, none⟩ u0).setCell ⟨W0.heap.size + 4, 1, none⟩ u1).setCell ⟨W0.heap.size + 4, 2, none⟩ u2).setCell ⟨W0.heap.size + 4, 3, none⟩ u3) := by
 obtain ⟨h1, h2⟩ := store4 h.r4 u0 u1 u2 u3
 exact ⟨⟨h.r1.keeps h2 (by omega), h.r2.keeps h2 (by omega), h.r3.keeps h2 (by omega), h1, h.req.keeps h2 (by omega)⟩, h2.mono fun j _ e => by omega⟩
theorem vin_form {w : World} {S : Nat → Prop} {g : GV} {x : Value} (h : VIn w S g x) : ∃ (k n : Int) (t : ByteArray) (l : Nat) (A : Option Addr) (c : Nat), x = .agg #[.int .i64 k, .int .i64 n, .string t, .slice A l c] := by
 cases g with
 | mk k n t l =>
  obtain ⟨A, c, rfl⟩ := h.form
  exact ⟨_, _, _, _, _, _, rfl⟩
theorem vin_res {W0 w1 w2 wf : World} {g : GV} {x : Value} (h : VIn w2 (fun b => w1.heap.size ≤ b ∧ b < w2.heap.size) g x) (h5 : W0.heap.size + 5 ≤ w1.heap.size) (hk : Keeps (fun j => W0.heap.size + 1 ≤ j ∧ j ≤ W0.heap.size + 4) w2 wf) : VIn wf (fun b => W0.heap.size + 5 ≤ b ∧ b < wf.heap.size) g x := by
 have hs := hk.size
 exact h.keep (fun b hb => ⟨by omega, by omega⟩) (fun q hq => hk.cell hq.2 (fun e => by have := hq.1; omega))
theorem vin_end {W0 w2 wf : World} {g : GV} {x : Value} (h : VIn w2 (fun b => W0.heap.size + 5 ≤ b ∧ b < w2.heap.size) g x) (hk : Keeps (fun j => W0.heap.size + 1 ≤ j ∧ j ≤ W0.heap.size + 4) w2 wf) : VIn wf (fun b => W0.heap.size ≤ b ∧ b < wf.heap.size) g x := by
 have hs := hk.size
 exact h.keep (fun b hb => ⟨by omega, by omega⟩) (fun q hq => hk.cell hq.2 (fun e => by have := hq.1; omega))
theorem low_res {W0 w2 wf : World} (h : Below W0.heap.size W0 w2) (hk : Keeps (fun j => W0.heap.size + 1 ≤ j ∧ j ≤ W0.heap.size + 4) w2 wf) : Below W0.heap.size W0 wf := h.trans (hk.below h.size (fun j hj => by omega))
theorem query_pieces {l : List UInt8} (hl : l.length ≤ 16777216) : ∀ p ∈ Ut.splitL 38 l, p.length < 4294967281 ∧ (Ut.cutL 61 p).1.length ≤ 16777216 ∧ (Ut.cutL 61 p).2.length ≤ 16777216 := fun p hp => by
 have h1 := Ut.splitL_mem 38 l p hp
 have h2 := Ut.cutL_le 61 p
 omega
theorem uquery_form {l : List UInt8} (hl : l.length ≤ 16777216) {nx : Int} {gs : List GI} (hq : queryG l = .mk 4 nx ⟨#[]⟩ gs) (w : World) (hL : LibS w) (m : Int) (hm : w.cell? ⟨0, 0, none⟩ = some (.int .i64 m)) :
  Calls prog 10 #[.string (mkB l)] w fun e w' => ∃ A c, e = .returned (.agg #[.int .i64 4, .int .i64 nx, .string ⟨#[]⟩, .slice A gs.length c]) ∧ VIn w' (fun b => w.heap.size ≤ b ∧ b < w'.heap.size) (.mk 4 nx ⟨#[]⟩ gs) (.agg #[.int .i64 4, .int .i64 nx, .string ⟨#[]⟩, .slice A gs.length c]) ∧ Below w.heap.size w w' :=
 (Ut.uquery_any l (by omega) (query_pieces hl) w hL m hm).mono fun e w' ⟨y, h1, h2, h3⟩ => by
  rw [hq] at h2
  obtain ⟨A, c, rfl⟩ := h2.form
  exact ⟨A, c, h1, h2, h3⟩
theorem ctype_le {us : List (ByteArray × ByteArray)} (hz : ∀ k, (us.getD k default).1.size ≤ 16777216 ∧ (us.getD k default).2.size ≤ 16777216) : (ctypeG us).size ≤ 16777216 := by
 have key : ∀ l : List (ByteArray × ByteArray), (∀ u ∈ l, u.2.size ≤ 16777216) → ((findH ctypeB l).getD ⟨#[]⟩).size ≤ 16777216 := by
  intro l
  induction l with
  | nil => intro _; simp [findH, ByteArray.size]
  | cons u l ih =>
   intro h
   rw [findH]
   split
   · exact h u (List.mem_cons_self ..)
   · exact ih fun v hv => h v (List.mem_cons_of_mem _ hv)
 exact key us fun u hu => by
  obtain ⟨i, hi⟩ := List.getElem?_of_mem hu
  have := (hz i).2
  rwa [List.getD_eq_getElem?_getD, hi] at this
section
variable (rm rp ry rb : ByteArray) (A0 : Option Addr) (c0 : Nat) (us : List (ByteArray × ByteArray))
theorem lists_any (w : World) (hA : PairsAt w w.heap.size A0 us) (hn : us.length ≤ 4194304) (hz : ∀ k, (us.getD k default).1.size ≤ 16777216 ∧ (us.getD k default).2.size ≤ 16777216) (_hm : rm.size ≤ 16777216) (hp : rp.size ≤ 16777216) (hy : ry.size ≤ 16777216) (hb : rb.size ≤ 16777216)
  (hL : LibS w) (m : Int) (hmx : w.cell? ⟨0, 0, none⟩ = some (.int .i64 m)) (pn : Int) (pgs : List GI) (hpg : postG rm rb us = .mk 4 pn ⟨#[]⟩ pgs) :
  Calls prog 19 #[.agg #[.string rm, .string rp, .string ry, .slice A0 us.length c0, .string rb]] w fun e w' => ∃ y0 y1 y2 y3, e = .returned (.tuple #[y0, y1, y2, y3]) ∧ VIn w' (fun b => w.heap.size ≤ b ∧ b < w'.heap.size) (queryG ry.data.toList) y0 ∧ VIn w' (fun b => w.heap.size ≤ b ∧ b < w'.heap.size) (.mk 4 pn ⟨#[]⟩ pgs) y1 ∧ VIn w' (fun b => w.heap.size ≤ b ∧ b < w'.heap.size) (cookG us) y2 ∧ VIn w' (fun b => w.heap.size ≤ b ∧ b < w'.heap.size) (serverG rm rp ry us) y3 ∧ Below w.heap.size w w' := by
 have hglt : 0 < w.heap.size := by
  rcases Nat.lt_or_ge 0 w.heap.size with h' | h'
  · exact h'
  · simp [World.cell?, Array.getElem?_eq_none h'] at hmx
 have HMx := lH (fun wz (hb : Below w.heap.size w wz) => (hb.cell (p := ⟨0, 0, none⟩) hglt).trans hmx)
 have HLib := lH (fun wz (hb : Below w.heap.size w wz) => hL.below hb)
 have HAL := lH (fun (w1 : World) (o : Obj) => (Below.refl w1.heap.size w1).alloc (Nat.le_refl _) o)
 obtain ⟨fb, hfb⟩ := found_ctype us
 have HHd : Hid (∀ wz, Below w.heap.size w wz → Calls prog 22 #[.agg #[.string rm, .string rp, .string ry, .slice A0 us.length c0, .string rb], .string ctypeB] wz fun e w' => e = .returned (.tuple #[.string (ctypeG us), .bool fb]) ∧ Below wz.heap.size wz w') := fun wz hb => by
  have h := head_any rm rp ry rb ctypeB A0 c0 us wz ((hA.below' hb).up hb.size) (by omega) (fun k => by have := (hz k).1; omega)
  rwa [hfb] at h
 have HCk := lH (fun wz (hb : Below w.heap.size w wz) => cookies_any rm rp ry rb A0 c0 us wz ((hA.below' hb).up hb.size) hn hz (HLib.out wz hb) m (HMx.out wz hb))
 have HSv := lH (fun wz (hb : Below w.heap.size w wz) => server_any rm rp ry rb A0 c0 us wz ((hA.below' hb).up hb.size) hn hz hp hy (HLib.out wz hb))
 have HPf := lH (fun (s : ByteArray) (wz : World) => Tryz.strings_HasPrefix s ⟨(formL ++ [59]).toArray⟩ wz)
 have HCt := lH (ctype_le hz)
 have HPg := lH hpg
 obtain ⟨GC, hGC⟩ : ∃ z, cookG us = z := ⟨_, rfl⟩
 obtain ⟨GS, hGS⟩ : ∃ z, serverG rm rp ry us = z := ⟨_, rfl⟩
 rw [hGC, hGS]
 rw [hGC] at HCk
 rw [hGS] at HSv
 obtain ⟨qn, qgs, hqg⟩ := (Ut.queryG_ok ry.data.toList (fun p hp => (query_pieces (by have := Lib.size_eq ry; omega) p hp).2)).list
 rw [hqg]
 have HQy : Hid (∀ wz, Below w.heap.size w wz → Calls prog 10 #[.string ry] wz fun e w' => ∃ A c, e = .returned (.agg #[.int .i64 4, .int .i64 qn, .string ⟨#[]⟩, .slice A qgs.length c]) ∧ VIn w' (fun b => wz.heap.size ≤ b ∧ b < w'.heap.size) (.mk 4 qn ⟨#[]⟩ qgs) (.agg #[.int .i64 4, .int .i64 qn, .string ⟨#[]⟩, .slice A qgs.length c]) ∧ Below wz.heap.size wz w') := fun wz hbz => by
  have h := uquery_form (l := ry.data.toList) (by have := Lib.size_eq ry; omega) hqg wz (HLib.out wz hbz) m (HMx.out wz hbz)
  rwa [mkB_of] at h
 clear hfb hpg hGC hGS hqg hA hz hL hmx hglt
 obtain ⟨wa, hwa⟩ : ∃ z, ((((w.alloc (.cells #[.string rm, .string rp, .string ry, .slice A0 us.length c0, .string rb] 43)).alloc (.cells #[.int .i64 0, .int .i64 0, .string ⟨#[]⟩, .slice none 0 0] 25)).alloc (.cells #[.int .i64 0, .int .i64 0, .string ⟨#[]⟩, .slice none 0 0] 25)).alloc (.cells #[.int .i64 0, .int .i64 0, .string ⟨#[]⟩, .slice none 0 0] 25)).alloc (.cells #[.int .i64 0, .int .i64 0, .string ⟨#[]⟩, .slice none 0 0] 25) = z := ⟨_, rfl⟩
 have Hwa := lH hwa
 have HP0 : Hid (ResV w wa #[.string rm, .string rp, .string ry, .slice A0 us.length c0, .string rb] #[.int .i64 0, .int .i64 0, .string ⟨#[]⟩, .slice none 0 0] #[.int .i64 0, .int .i64 0, .string ⟨#[]⟩, .slice none 0 0] #[.int .i64 0, .int .i64 0, .string ⟨#[]⟩, .slice none 0 0] #[.int .i64 0, .int .i64 0, .string ⟨#[]⟩, .slice none 0 0] ∧ Below w.heap.size w wa ∧ wa.heap.size = w.heap.size + 5) := by
  subst hwa
  have ha : ∀ (W : World) (o : Obj), (W.alloc o).heap.size = W.heap.size + 1 := fun W o => by simp
  have hn : ∀ (W : World) (k : Nat) (cs : Array Value), W.heap.size = w.heap.size + k → Blk (W.alloc (.cells cs 25)) (w.heap.size + k) 25 cs := fun W k cs h => by
   have := Blk.new W 25 cs
   rwa [h] at this
  have h1 := Blk.new w 43 #[.string rm, .string rp, .string ry, .slice A0 us.length c0, .string rb]
  generalize hw1 : w.alloc (.cells #[.string rm, .string rp, .string ry, .slice A0 us.length c0, .string rb] 43) = w1 at *
  have s1 : w1.heap.size = w.heap.size + 1 := by rw [← hw1, ha]
  have b1 : Below w.heap.size w w1 := by rw [← hw1]; exact (Below.refl w.heap.size w).alloc (Nat.le_refl _) _
  clear hw1
  exact ⟨⟨(((hn w1 1 _ s1).alloc _).alloc _).alloc _, ((hn _ 2 _ (by rw [ha, s1])).alloc _).alloc _, (hn _ 3 _ (by rw [ha, ha, s1])).alloc _, hn _ 4 _ (by rw [ha, ha, ha, s1]), (((h1.alloc _).alloc _).alloc _).alloc _⟩,
   (((b1.alloc (by omega) _).alloc (by rw [ha]; omega) _).alloc (by rw [ha, ha]; omega) _).alloc (by rw [ha, ha, ha]; omega) _, by rw [ha, ha, ha, ha, s1]⟩
 clear hwa
 go_enter func19, ntmps19
 go_upto_region 1 with fail
 rw [Hwa.out]
 clear Hwa
 obtain ⟨⟨a0, a1, a2, a3⟩, f0, f1, f2, f3⟩ := z8 HP0.out.1.r2
 have HT0 := lH (HP0.out.1.put2 (.int .i64 4) (.int .i64 0) (.string ⟨#[]⟩) (.slice none 0 0))
 go_upto_region 2 with fail
 generalize (((wa.setCell ⟨w.heap.size + 2, 0, none⟩ (.int .i64 4)).setCell ⟨w.heap.size + 2, 1, none⟩ (.int .i64 0)).setCell ⟨w.heap.size + 2, 2, none⟩ (.string ⟨#[]⟩)).setCell ⟨w.heap.size + 2, 3, none⟩ (.slice none 0 0) = wb at *
 have HBb : Hid (Below w.heap.size w wb ∧ w.heap.size + 5 ≤ wb.heap.size) := by
  have h1 := HP0.out.2.1
  have h2 := HT0.out.2.size
  have h3 := HP0.out.2.2
  exact ⟨h1.trans (HT0.out.2.below h1.size (fun j hj => by omega)), by omega⟩
 have HRb := lH HT0.out.1
 clear a0 a1 a2 a3 f0 f1 f2 f3 HT0 HP0
 obtain ⟨⟨d0, d1, d2, d3, d4⟩, -⟩ := z10 HRb.out.req
 go_upto_region 3 with (go_at_call 22; refine (HHd.out wb HBb.out.1).mono ?_; rintro e w1 ⟨rfl, hb1⟩; have HR1 := lH (HRb.out.under hb1); have HB1 : Hid (Below w.heap.size w w1 ∧ w.heap.size + 5 ≤ w1.heap.size) := ⟨HBb.out.1.trans (hb1.mono HBb.out.1.size), Nat.le_trans HBb.out.2 hb1.size⟩; clear hb1)
 obtain ⟨⟨e0, e1, e2, e3, e4⟩, -⟩ := z10 HR1.out.req
 have HPc := lH (HPf.out (ctypeG us))
 obtain ⟨pb, hpb⟩ : ∃ z, postB rm us = z := ⟨_, rfl⟩
 have HPb := lH hpb
 clear hpb d0 d1 d2 d3 d4 HHd HPf HRb HBb
 go_cut [24] from 14 to 24 (fun x wx => x = .bool pb ∧ w1 = wx)
 case first =>
  cases hm1 : (rm.toList == ([80, 79, 83, 84] : List UInt8)) with
  | false =>
   obtain rfl : pb = false := by rw [← HPb.out, postB, hm1]; rfl
   go_wp2_with fail
   go_meet
   case rel => exact ⟨by trivial, by trivial⟩
  | true =>
   have hpb : pb = formB (ctypeG us) := by rw [← HPb.out, postB, hm1]; rfl
   have HPq := lH hpb
   clear hpb
   cases h1 : ((ctypeG us).toList == formL) with
   | true =>
    obtain rfl : pb = true := by rw [HPq.out]; exact form_eq h1
    unfold formL at h1
    go_wp2_with fail
    go_meet
    case rel => exact ⟨by trivial, by trivial⟩
   | false =>
    have hpf := form_ne h1
    rw [← HPq.out] at hpf
    obtain ⟨pv, hpv⟩ : ∃ z, Lib.hasPrefix (ctypeG us).data.toList (formL ++ [59]) = z := ⟨_, rfl⟩
    have HPd : Hid (Calls prog 43 #[.string (ctypeG us), .string ⟨(formL ++ [59]).toArray⟩] w1 fun e w' => e = .returned (.bool pv) ∧ w' = w1) := by
     have h := HPc.out w1
     rw [hpv] at h
     exact h
    rw [hpv] at hpf
    subst hpf
    clear hpv HPc HPq
    unfold formL at h1
    go_wp2_with (go_at_call 43; refine HPd.out.mono ?_; rintro e w2 ⟨rfl, rfl⟩)
    go_meet
    case rel => exact ⟨by trivial, by trivial⟩
 case rest =>
  obtain ⟨rfl, rfl⟩ := hcut
  clear HPc
  go_upto_if 24 with fail
  go_cut [] from 25 to 27 (fun wx => ∃ pA pc, Hid (ResV w wx #[.string rm, .string rp, .string ry, .slice A0 us.length c0, .string rb] #[.int .i64 0, .int .i64 0, .string ⟨#[]⟩, .slice none 0 0] #[.int .i64 4, .int .i64 pn, .string ⟨#[]⟩, .slice pA pgs.length pc] #[.int .i64 0, .int .i64 0, .string ⟨#[]⟩, .slice none 0 0] #[.int .i64 0, .int .i64 0, .string ⟨#[]⟩, .slice none 0 0]) ∧ Hid (VIn wx (fun b => w.heap.size + 5 ≤ b ∧ b < wx.heap.size) (.mk 4 pn ⟨#[]⟩ pgs) (.agg #[.int .i64 4, .int .i64 pn, .string ⟨#[]⟩, .slice pA pgs.length pc])) ∧ Hid (Below w.heap.size w wx ∧ w.heap.size + 5 ≤ wx.heap.size))
  case first =>
   cases pb with
   | true =>
    have hpg2 : queryG rb.data.toList = .mk 4 pn ⟨#[]⟩ pgs := by
     rw [← HPg.out, postG, if_pos HPb.out]
    have HQb : Hid (Calls prog 10 #[.string rb] w1 fun e w' => ∃ A c, e = .returned (.agg #[.int .i64 4, .int .i64 pn, .string ⟨#[]⟩, .slice A pgs.length c]) ∧ VIn w' (fun b => w1.heap.size ≤ b ∧ b < w'.heap.size) (.mk 4 pn ⟨#[]⟩ pgs) (.agg #[.int .i64 4, .int .i64 pn, .string ⟨#[]⟩, .slice A pgs.length c]) ∧ Below w1.heap.size w1 w') := by
     have h := uquery_form (l := rb.data.toList) (by have := Lib.size_eq rb; omega) hpg2 w1 (HLib.out w1 HB1.out.1) m (HMx.out w1 HB1.out.1)
     rwa [mkB_of] at h
    clear hpg2
    go_wp2_with (go_at_call 10; refine HQb.out.mono ?_; rintro e w2 ⟨A2, c2, rfl, hv, hb2⟩; have HR2 := lH (HR1.out.under hb2); have HV2 := lH hv; have HB2 : Hid (Below w.heap.size w w2 ∧ w.heap.size + 5 ≤ w2.heap.size) := ⟨HB1.out.1.trans (hb2.mono HB1.out.1.size), Nat.le_trans HB1.out.2 hb2.size⟩; obtain ⟨⟨b0, b1, b2, b3⟩, bf0, bf1, bf2, bf3⟩ := z8 HR2.out.r2; clear hv hb2)
    go_meet
    case rel =>
     have hp := HR2.out.put2 (.int .i64 4) (.int .i64 pn) (.string ⟨#[]⟩) (.slice A2 pgs.length c2)
     exact ⟨A2, c2, hp.1, vin_res HV2.out HB1.out.2 hp.2, low_res HB2.out.1 hp.2, Nat.le_trans HB2.out.2 hp.2.size⟩
   | false =>
    have hpg2 : GV.mk 4 0 ⟨#[]⟩ [] = .mk 4 pn ⟨#[]⟩ pgs := by
     rw [← HPg.out, postG, if_neg (by rw [HPb.out]; simp)]
    injection hpg2 with _ hp1 _ hp2
    subst hp1 hp2
    go_wp2_with fail
    go_meet
    case rel => exact ⟨none, 0, HR1.out, .mk 4 0 ⟨#[]⟩ [] none 0 0 0 (fun _ => .nilIface) (Nat.zero_le _) (Nat.zero_le _) (fun h => absurd h (Nat.lt_irrefl 0)) (fun i it h => by simp at h) (fun i it h => by simp at h), HB1.out⟩
  case rest =>
   obtain ⟨pA, pc, HR, HV, HB⟩ := hcut
   clear HR1 HPb HPg e0 e1 e2 e3 e4 HB1
   go_upto_region 5 with fail
   refine wp_region_held_drew (S := (fun wq => Blk wq w.heap.size 43 #[.string rm, .string rp, .string ry, .slice A0 us.length c0, .string rb] ∧ Blk wq (w.heap.size + 2) 25 #[.int .i64 4, .int .i64 pn, .string ⟨#[]⟩, .slice pA pgs.length pc])) (by kernel_rfl) ?_ (fun hHeld => ?_)
   · exact ⟨HR.out.req, HR.out.r2⟩
   refine hdt (v := ?v1) (hy := ?hy1) op0 ?rest1
   case hy1 => (intro wq hSq; (try dsimp only at hSq); obtain ⟨⟨y0, y1, y2, y3, y4⟩, -⟩ := z10 hSq.1; obtain ⟨⟨b0, b1, b2, b3⟩, -⟩ := z8 hSq.2; clear hSq; first | (go_simp; done) | (go_simp; with_reducible rfl))
   try simp only [hdq]
   refine hdt (v := ?v2) (hy := ?hy2) op1 ?rest2
   case hy2 => (intro wq hSq; (try dsimp only at hSq); obtain ⟨⟨y0, y1, y2, y3, y4⟩, -⟩ := z10 hSq.1; obtain ⟨⟨b0, b1, b2, b3⟩, -⟩ := z8 hSq.2; clear hSq; first | (go_simp; done) | (go_simp; with_reducible rfl))
   try simp only [hdq]
   refine hdt (v := ?v3) (hy := ?hy3) op3 ?rest3
   case hy3 => (intro wq hSq; (try dsimp only at hSq); obtain ⟨⟨y0, y1, y2, y3, y4⟩, -⟩ := z10 hSq.1; obtain ⟨⟨b0, b1, b2, b3⟩, -⟩ := z8 hSq.2; clear hSq; first | (go_simp; done) | (go_simp; with_reducible rfl))
   try simp only [hdq]
   refine hdt (v := ?v4) (hy := ?hy4) op4 ?rest4
   case hy4 => (intro wq hSq; (try dsimp only at hSq); obtain ⟨⟨y0, y1, y2, y3, y4⟩, -⟩ := z10 hSq.1; obtain ⟨⟨b0, b1, b2, b3⟩, -⟩ := z8 hSq.2; clear hSq; first | (go_simp; done) | (go_simp; with_reducible rfl))
   try simp only [hdq]
   refine hdt (v := ?v5) (hy := ?hy5) op6 ?rest5
   case hy5 => (intro wq hSq; (try dsimp only at hSq); obtain ⟨⟨y0, y1, y2, y3, y4⟩, -⟩ := z10 hSq.1; obtain ⟨⟨b0, b1, b2, b3⟩, -⟩ := z8 hSq.2; clear hSq; first | (go_simp; done) | (go_simp; with_reducible rfl))
   try simp only [hdq]
   refine hdr1 op2 (fun K hK => ?_)
   go_simp
   go_at_call 10
   refine (HQy.out _ HB.out.1.drew).mono ?_
   rintro e w2 ⟨A2, c2, rfl, hv2, hb2⟩
   have hbb : Below wc.heap.size wc w2 := ((Below.refl wc.heap.size wc).drew).trans hb2
   have HR2 := lH (HR.out.under hbb)
   have HB2 : Hid (Below w.heap.size w w2 ∧ w.heap.size + 5 ≤ w2.heap.size) := ⟨HB.out.1.trans (hbb.mono HB.out.1.size), Nat.le_trans HB.out.2 hbb.size⟩
   have HVq : Hid (VIn w2 (fun b => w.heap.size + 5 ≤ b ∧ b < w2.heap.size) (.mk 4 qn ⟨#[]⟩ qgs) (.agg #[.int .i64 4, .int .i64 qn, .string ⟨#[]⟩, .slice A2 qgs.length c2])) := hv2.keep (fun b hb => ⟨Nat.le_trans HB.out.2 hb.1, hb.2⟩) (fun _ _ => rfl)
   have HVp : Hid (VIn w2 (fun b => w.heap.size + 5 ≤ b ∧ b < w2.heap.size) (.mk 4 pn ⟨#[]⟩ pgs) (.agg #[.int .i64 4, .int .i64 pn, .string ⟨#[]⟩, .slice pA pgs.length pc])) := HV.out.keep (fun b hb => ⟨hb.1, Nat.lt_of_lt_of_le hb.2 hbb.size⟩) (fun q hq => hbb.cell hq.2)
   clear hv2 hb2 hbb
   try (go_wp2_with fail)
   refine hK.out _ _ ?_ (fun hHeld => ?_)
   · exact ⟨HR2.out.req, HR2.out.r2⟩
   clear hK K
   try simp only [hdq]
   refine hdr1 op5 (fun K hK => ?_)
   go_simp
   go_at_call 44
   refine (HCk.out w2 HB2.out.1).mono ?_
   rintro e w3 ⟨yc, rfl, hv3, hb3⟩
   obtain ⟨kc, nc, tc, lc, Ac, cc, rfl⟩ := vin_form hv3
   have HR3 := lH (HR2.out.under hb3)
   have HB3 : Hid (Below w.heap.size w w3 ∧ w.heap.size + 5 ≤ w3.heap.size) := ⟨HB2.out.1.trans (hb3.mono HB2.out.1.size), Nat.le_trans HB2.out.2 hb3.size⟩
   have HVqn := HVq.out.keep (S' := fun b => w.heap.size + 5 ≤ b ∧ b < w3.heap.size) (fun b hb => ⟨hb.1, Nat.lt_of_lt_of_le hb.2 hb3.size⟩) (fun q hq => hb3.cell hq.2)
   have HVpn := HVp.out.keep (S' := fun b => w.heap.size + 5 ≤ b ∧ b < w3.heap.size) (fun b hb => ⟨hb.1, Nat.lt_of_lt_of_le hb.2 hb3.size⟩) (fun q hq => hb3.cell hq.2)
   have HVqk := lH HVqn
   have HVpk := lH HVpn
   clear HVq HVp HVqn HVpn
   have HVq := HVqk
   have HVp := HVpk
   clear HVqk HVpk
   have HVc := lH (hv3.keep (S' := fun b => w.heap.size + 5 ≤ b ∧ b < w3.heap.size) (fun b hb => ⟨Nat.le_trans HB2.out.2 hb.1, hb.2⟩) (fun _ _ => rfl))
   clear hv3 hb3
   try (go_wp2_with fail)
   refine hK.out _ _ ?_ (fun hHeld => ?_)
   · exact ⟨HR3.out.req, HR3.out.r2⟩
   clear hK K
   try simp only [hdq]
   refine hdr1 op7 (fun K hK => ?_)
   go_simp
   go_at_call 45
   refine (HSv.out w3 HB3.out.1).mono ?_
   rintro e w4 ⟨ys, rfl, hv4, hb4⟩
   obtain ⟨ks, ns, ts, ls, As, cs, rfl⟩ := vin_form hv4
   have HR4 := lH (HR3.out.under hb4)
   have HB4 : Hid (Below w.heap.size w w4 ∧ w.heap.size + 5 ≤ w4.heap.size) := ⟨HB3.out.1.trans (hb4.mono HB3.out.1.size), Nat.le_trans HB3.out.2 hb4.size⟩
   have HVqn := HVq.out.keep (S' := fun b => w.heap.size + 5 ≤ b ∧ b < w4.heap.size) (fun b hb => ⟨hb.1, Nat.lt_of_lt_of_le hb.2 hb4.size⟩) (fun q hq => hb4.cell hq.2)
   have HVpn := HVp.out.keep (S' := fun b => w.heap.size + 5 ≤ b ∧ b < w4.heap.size) (fun b hb => ⟨hb.1, Nat.lt_of_lt_of_le hb.2 hb4.size⟩) (fun q hq => hb4.cell hq.2)
   have HVcn := HVc.out.keep (S' := fun b => w.heap.size + 5 ≤ b ∧ b < w4.heap.size) (fun b hb => ⟨hb.1, Nat.lt_of_lt_of_le hb.2 hb4.size⟩) (fun q hq => hb4.cell hq.2)
   have HVqk := lH HVqn
   have HVpk := lH HVpn
   have HVck := lH HVcn
   clear HVq HVp HVc HVqn HVpn HVcn
   have HVq := HVqk
   have HVp := HVpk
   have HVc := HVck
   clear HVqk HVpk HVck
   have HVs := lH (hv4.keep (S' := fun b => w.heap.size + 5 ≤ b ∧ b < w4.heap.size) (fun b hb => ⟨Nat.le_trans HB3.out.2 hb.1, hb.2⟩) (fun _ _ => rfl))
   clear hv4 hb4
   try (go_wp2_with fail)
   refine hK.out _ _ ?_ (fun hHeld => ?_)
   · exact ⟨HR4.out.req, HR4.out.r2⟩
   clear hK K
   try simp only [hdq]
   refine hdr1 op8 (fun K hK => ?_)
   obtain ⟨⟨a0, a1, a2, a3⟩, f0, f1, f2, f3⟩ := z8 HR4.out.r1
   have HT1 := lH (HR4.out.put1 (.int .i64 4) (.int .i64 qn) (.string ⟨#[]⟩) (.slice A2 qgs.length c2))
   go_simp
   generalize (((w4.setCell ⟨w.heap.size + 1, 0, none⟩ (.int .i64 4)).setCell ⟨w.heap.size + 1, 1, none⟩ (.int .i64 qn)).setCell ⟨w.heap.size + 1, 2, none⟩ (.string ⟨#[]⟩)).setCell ⟨w.heap.size + 1, 3, none⟩ (.slice A2 qgs.length c2) = w5 at *
   have HR5 := lH HT1.out.1
   clear a0 a1 a2 a3 f0 f1 f2 f3
   refine hK.out _ _ ?_ (fun hHeld => ?_)
   · exact ⟨HR5.out.req, HR5.out.r2⟩
   clear hK K
   try simp only [hdq]
   refine hdr1 op9 (fun K hK => ?_)
   obtain ⟨⟨a0, a1, a2, a3⟩, f0, f1, f2, f3⟩ := z8 HR5.out.r2
   have HT2 := lH (HR5.out.put2 (.int .i64 4) (.int .i64 pn) (.string ⟨#[]⟩) (.slice pA pgs.length pc))
   go_simp
   generalize (((w5.setCell ⟨w.heap.size + 2, 0, none⟩ (.int .i64 4)).setCell ⟨w.heap.size + 2, 1, none⟩ (.int .i64 pn)).setCell ⟨w.heap.size + 2, 2, none⟩ (.string ⟨#[]⟩)).setCell ⟨w.heap.size + 2, 3, none⟩ (.slice pA pgs.length pc) = w6 at *
   have HR6 := lH HT2.out.1
   clear a0 a1 a2 a3 f0 f1 f2 f3
   refine hK.out _ _ ?_ (fun hHeld => ?_)
   · exact ⟨HR6.out.req, HR6.out.r2⟩
   clear hK K
   try simp only [hdq]
   refine hdr1 op10 (fun K hK => ?_)
   obtain ⟨⟨a0, a1, a2, a3⟩, f0, f1, f2, f3⟩ := z8 HR6.out.r3
   have HT3 := lH (HR6.out.put3 (.int .i64 kc) (.int .i64 nc) (.string tc) (.slice Ac lc cc))
   go_simp
   generalize (((w6.setCell ⟨w.heap.size + 3, 0, none⟩ (.int .i64 kc)).setCell ⟨w.heap.size + 3, 1, none⟩ (.int .i64 nc)).setCell ⟨w.heap.size + 3, 2, none⟩ (.string tc)).setCell ⟨w.heap.size + 3, 3, none⟩ (.slice Ac lc cc) = w7 at *
   have HR7 := lH HT3.out.1
   clear a0 a1 a2 a3 f0 f1 f2 f3
   refine hK.out _ _ ?_ (fun hHeld => ?_)
   · exact ⟨HR7.out.req, HR7.out.r2⟩
   clear hK K
   try simp only [hdq]
   refine hdr1 op11 (fun K hK => ?_)
   obtain ⟨⟨a0, a1, a2, a3⟩, f0, f1, f2, f3⟩ := z8 HR7.out.r4
   have HT4 := lH (HR7.out.put4 (.int .i64 ks) (.int .i64 ns) (.string ts) (.slice As ls cs))
   go_simp
   generalize (((w7.setCell ⟨w.heap.size + 4, 0, none⟩ (.int .i64 ks)).setCell ⟨w.heap.size + 4, 1, none⟩ (.int .i64 ns)).setCell ⟨w.heap.size + 4, 2, none⟩ (.string ts)).setCell ⟨w.heap.size + 4, 3, none⟩ (.slice As ls cs) = w8 at *
   have HR8 := lH HT4.out.1
   clear a0 a1 a2 a3 f0 f1 f2 f3
   refine hK.out _ _ ?_ (fun hHeld => ?_)
   · exact ⟨HR8.out.req, HR8.out.r2⟩
   clear hK K
   try simp only [hdq]
   refine wpAnyH_done (by kernel_rfl) ?_ _
   go_wp2_with fail
   obtain ⟨⟨e0, e1, e2, e3⟩, -⟩ := z8 HR8.out.r1
   obtain ⟨⟨f0, f1, f2, f3⟩, -⟩ := z8 HR8.out.r2
   obtain ⟨⟨g0, g1, g2, g3⟩, -⟩ := z8 HR8.out.r3
   obtain ⟨⟨h0, h1, h2, h3⟩, -⟩ := z8 HR8.out.r4
   refine bodyPost_ret (v := .tuple #[.agg #[.int .i64 4, .int .i64 qn, .string ⟨#[]⟩, .slice A2 qgs.length c2], .agg #[.int .i64 4, .int .i64 pn, .string ⟨#[]⟩, .slice pA pgs.length pc], .agg #[.int .i64 kc, .int .i64 nc, .string tc, .slice Ac lc cc], .agg #[.int .i64 ks, .int .i64 ns, .string ts, .slice As ls cs]]) (by simp [results, results19, go_sem, e0, e1, e2, e3, f0, f1, f2, f3, g0, g1, g2, g3, h0, h1, h2, h3]) rfl ?_
   have hK := (((HT1.out.2.trans HT2.out.2).trans HT3.out.2).trans HT4.out.2)
   have hbw := HB4.out.1
   have hks := hK.size
   exact ⟨_, _, _, _, rfl, vin_end HVq.out hK, vin_end HVp.out hK, vin_end HVc.out hK, vin_end HVs.out hK, low_res hbw hK⟩
end
end Rl
end Go.Proofs.YtgpemnmopogppaaGreatDoor
