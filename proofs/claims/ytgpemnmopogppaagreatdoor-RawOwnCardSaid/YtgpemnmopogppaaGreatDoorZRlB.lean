import Derived.Test.YtgpemnmopogppaaGreatDoorZRlA
import Derived.Test.YtgpemnmopogppaaGreatDoorZUqB
import Derived.Shelf.Strings.SlTrimAscii
set_option maxRecDepth 1000000
set_option maxHeartbeats 16000000
namespace Go.Proofs.YtgpemnmopogppaaGreatDoor
open Held
open Go.Proofs.Tryz
open Go Go.RowKit
namespace Rl
open Dp
open Ut
open Url (decF)
theorem trim_call (l : List UInt8) (w : World) : Calls prog 82 #[.string (mkB l), .string ⟨#[32, 9]⟩] w fun e w' => e = .returned (.string (mkB (trimL l))) ∧ Below w.heap.size w w' := by
 have h := Any.strings_TrimLeft_laid Tryz.lays161 (by kernel_rfl) (mkB l) ⟨#[32, 9]⟩ w (by decide) (ascii_of_all (by decide))
 rw [mkB_list, show (⟨#[32, 9]⟩ : ByteArray).data.toList = [32, 9] from rfl, trim_set] at h
 exact h
structure CSt (W0 W : World) (rq : Array Value) (r : List (List UInt8)) (k N : Nat) (G0 : GV) (nx : Int) (l : List GI) (A : Option Addr) (c : Nat) : Prop where
 req : Blk W W0.heap.size 43 rq
 res : Blk W (W0.heap.size + 1) 25 #[.int .i64 0, .int .i64 0, .string ⟨#[]⟩, .slice none 0 0]
 box : Blk W (W0.heap.size + 2) 25 #[.int .i64 4, .int .i64 nx, .string ⟨#[]⟩, .slice A l.length c]
 vin : VIn W (fun b => W0.heap.size + 3 ≤ b ∧ b < W.heap.size) (.mk 4 nx ⟨#[]⟩ l) (.agg #[.int .i64 4, .int .i64 nx, .string ⟨#[]⟩, .slice A l.length c])
 ok : QOk (.mk 4 nx ⟨#[]⟩ l)
 fin : cookF r k (.mk 4 nx ⟨#[]⟩ l) = G0
 cnt : k + r.length ≤ N
 low : Below W0.heap.size W0 W
section
variable {W0 W W' : World} {rq : Array Value} {r : List (List UInt8)} {k N : Nat} {G0 : GV} {nx : Int} {l : List GI} {A : Option Addr} {c : Nat}
theorem CSt.under (h : CSt W0 W rq r k N G0 nx l A c) (hb : Below W.heap.size W W') : CSt W0 W' rq r k N G0 nx l A c :=
 ⟨blk_below h.req hb, blk_below h.res hb, blk_below h.box hb, h.vin.keep (fun _ hS => ⟨hS.1, Nat.lt_of_lt_of_le hS.2 hb.size⟩) (fun _ hq => hb.cell hq.2), h.ok, h.fin, h.cnt, h.low.trans (hb.mono h.low.size)⟩
theorem CSt.to (h : CSt W0 W rq r k N G0 nx l A c) {r' : List (List UInt8)} {k' : Nat} (e : cookF r' k' (.mk 4 nx ⟨#[]⟩ l) = cookF r k (.mk 4 nx ⟨#[]⟩ l)) (hn : k' + r'.length ≤ k + r.length) : CSt W0 W rq r' k' N G0 nx l A c :=
 ⟨h.req, h.res, h.box, h.vin, h.ok, e.trans h.fin, Nat.le_trans hn h.cnt, h.low⟩
end
theorem splitL_le (c : UInt8) (s : List UInt8) : ∀ p ∈ splitL c s, p.length ≤ s.length := splitL_mem c s
theorem cook_ok {t : List UInt8} {g : GV} (hg : QOk g) (ht : t.length ≤ 16777216) : QOk (putQ (decF (cutL 61 t).1) (decF (cutL 61 t).2) g) := by
 have h1 := cutL_le 61 t
 have h2 := decF_le (cutL 61 t).1
 have h3 := decF_le (cutL 61 t).2
 exact putQ_ok hg (by omega) (by omega)
theorem cook_end {W0 wr w3 w4 wf : World} {rq : Array Value} {p : List UInt8} {r : List (List UInt8)} {k N : Nat} {G0 g : GV} {nx nx4 : Int} {l l4 : List GI} {A A4 : Option Addr} {c c4 pb : Nat} {S : List (List UInt8)}
  (hG : g = .mk 4 nx4 ⟨#[]⟩ l4) (hS : CSt W0 wr rq (p :: r) k N G0 nx l A c ∧ Blk wr pb 9 (S.map fun p => Value.string (mkB p)).toArray ∧ W0.heap.size + 3 ≤ pb) (hq : cookF (p :: r) k (.mk 4 nx ⟨#[]⟩ l) = cookF r (k + 1) g ∧ QOk g) (hb3 : Below wr.heap.size wr w3) (hb4 : Below wr.heap.size wr w4)
  (hy : VIn w4 (fun b => w3.heap.size ≤ b ∧ b < w4.heap.size) (.mk 4 nx4 ⟨#[]⟩ l4) (.agg #[.int .i64 4, .int .i64 nx4, .string ⟨#[]⟩, .slice A4 l4.length c4]))
  (hst : Blk wf (W0.heap.size + 2) 25 #[.int .i64 4, .int .i64 nx4, .string ⟨#[]⟩, .slice A4 l4.length c4] ∧ Keeps (fun j => j = W0.heap.size + 2) w4 wf) {wf' : World} (hwf : wf' = wf) :
  Hid (CSt W0 wf' rq r (k + 1) N G0 nx4 l4 A4 c4 ∧ Blk wf' pb 9 (S.map fun p => Value.string (mkB p)).toArray ∧ W0.heap.size + 3 ≤ pb) := by
 subst hwf hG
 obtain ⟨hS, hr, hpb⟩ := hS
 have h1 := hS.box.lt
 have h2 := hr.lt
 have h3 := hb3.size
 have h4 := hst.2.size
 have h5 := hb4.size
 have h6 := hS.cnt
 rw [List.length_cons] at h6
 refine ⟨⟨(blk_below hS.req hb4).keeps hst.2 (by omega), (blk_below hS.res hb4).keeps hst.2 (by omega), hst.1, hy.keep (fun b hb => ⟨by omega, by omega⟩) (fun q hq => hst.2.cell hq.2 (fun e => by have := hq.1; omega)), hq.2, hq.1.symm.trans hS.fin, by omega, ?_⟩, (blk_below hr hb4).keeps hst.2 (by omega), hpb⟩
 exact (hS.low.trans (hb4.mono hS.low.size)).trans (hst.2.below (by have := hS.low.size; omega) (fun j e => by rw [e]; omega))
section
variable (rm rp ry rb : ByteArray) (A0 : Option Addr) (c0 : Nat) (us : List (ByteArray × ByteArray))
theorem cookies_any (w : World) (hA : PairsAt w w.heap.size A0 us) (hn : us.length ≤ 4194304) (hz : ∀ k, (us.getD k default).1.size ≤ 16777216 ∧ (us.getD k default).2.size ≤ 16777216) (hL : LibS w) (m : Int) (hm : w.cell? ⟨0, 0, none⟩ = some (.int .i64 m)) :
  Calls prog 44 #[.agg #[.string rm, .string rp, .string ry, .slice A0 us.length c0, .string rb]] w fun e w' => ∃ y, e = .returned y ∧ VIn w' (fun b => w.heap.size ≤ b ∧ b < w'.heap.size) (cookG us) y ∧ Below w.heap.size w w' := by
 have hglt : 0 < w.heap.size := by
  rcases Nat.lt_or_ge 0 w.heap.size with h' | h'
  · exact h'
  · simp [World.cell?, Array.getElem?_eq_none h'] at hm
 have hmx : ∀ wz, Below w.heap.size w wz → wz.cell? ⟨0, 0, none⟩ = some (.int .i64 m) := fun wz hb => (hb.cell (p := ⟨0, 0, none⟩) hglt).trans hm
 have HLib := lH (fun wz (hb : Below w.heap.size w wz) => hL.below hb)
 have Hmx := lH hmx
 have HN : Hid ((piecesL us).length ≤ 4611686018427387904) := by
  have h1 := pieces_len us 16777216 fun u hu => by
   obtain ⟨i, hi⟩ := List.getElem?_of_mem hu
   have := (hz i).2
   rwa [List.getD_eq_getElem?_getD, hi] at this
  have h2 : us.length * (16777216 + 1) ≤ 4194304 * (16777216 + 1) := Nat.mul_le_mul_right _ hn
  show _ ≤ _
  omega
 have hal := fun (w1 : World) (o : Obj) => (Below.refl w1.heap.size w1).alloc (Nat.le_refl _) o
 obtain ⟨rq, hrq⟩ : ∃ z : Array Value, #[.string rm, .string rp, .string ry, .slice A0 us.length c0, .string rb] = z := ⟨_, rfl⟩
 obtain ⟨wa, hwa⟩ : ∃ z, ((w.alloc (.cells #[.string rm, .string rp, .string ry, .slice A0 us.length c0, .string rb] 43)).alloc (.cells #[.int .i64 0, .int .i64 0, .string ⟨#[]⟩, .slice none 0 0] 25)).alloc (.cells #[.int .i64 4, .int .i64 0, .string ⟨#[]⟩, .slice none 0 0] 25) = z := ⟨_, rfl⟩
 have HQ0 : Hid (CSt w wa #[.string rm, .string rp, .string ry, .slice A0 us.length c0, .string rb] (piecesL us) 0 (piecesL us).length (cookG us) 0 [] none 0) := by
  subst hwa
  have h1 := Blk.new w 43 #[.string rm, .string rp, .string ry, .slice A0 us.length c0, .string rb]
  have h2 := Blk.new (w.alloc (.cells #[.string rm, .string rp, .string ry, .slice A0 us.length c0, .string rb] 43)) 25 #[.int .i64 0, .int .i64 0, .string ⟨#[]⟩, .slice none 0 0]
  have h3 := Blk.new ((w.alloc (.cells #[.string rm, .string rp, .string ry, .slice A0 us.length c0, .string rb] 43)).alloc (.cells #[.int .i64 0, .int .i64 0, .string ⟨#[]⟩, .slice none 0 0] 25)) 25 #[.int .i64 4, .int .i64 0, .string ⟨#[]⟩, .slice none 0 0]
  rw [World.size_alloc] at h2
  rw [World.size_alloc, World.size_alloc] at h3
  exact ⟨(h1.alloc _).alloc _, h2.alloc _, h3, .mk 4 0 ⟨#[]⟩ [] none 0 0 0 (fun _ => .nilIface) (Nat.zero_le _) (Nat.zero_le _) (fun h => absurd h (Nat.lt_irrefl 0)) (fun i it h => by simp at h) (fun i it h => by simp at h), .empty, rfl, by omega, ((hal w _).alloc (by simp only [World.size_alloc]; omega) _).alloc (by simp only [World.size_alloc]; omega) _⟩
 have HSp := lH (fun (s : List UInt8) (hs : s.length < 4294967281) wz (hb : Below w.heap.size w wz) => split_call m wz 59 s hs (hmx wz hb))
 have HCu := lH (fun (p : List UInt8) (hl : p.length < 4294967281) wz (hb : Below w.heap.size w wz) => cut_call m wz 61 p hl (hmx wz hb))
 have HTr := lH (fun (p : List UInt8) (wz : World) => trim_call p wz)
 have HSa := lH (fun (a : ByteArray) (ha : a.size ≤ 9223372036854775807) (wz : World) => same_any a cookieB ha wz)
 have HD := lH (fun (l : List UInt8) (hl : l.length ≤ 16777216) (wz : World) => show Calls prog 29 #[.string (mkB l)] wz fun e w' => e = .returned (.string (mkB (decF l))) ∧ Below wz.heap.size wz w' by
  have h := Url.dec_any (mkB l) (by rw [mkB_size]; exact hl) wz
  rw [mkB_list] at h
  exact h)
 have HPa := lH (fun wz (hb : Below w.heap.size w wz) => hA.below' hb)
 have HZ := lH hz
 obtain ⟨G0, hG0⟩ : ∃ z, cookG us = z := ⟨_, rfl⟩
 obtain ⟨N, hN⟩ : ∃ z, (piecesL us).length = z := ⟨_, rfl⟩
 rw [hG0, hN] at HQ0
 rw [hN] at HN
 rw [hG0]
 clear hG0 hN hz hL hm hmx hal hA hrq rq
 have hNn : N ≤ 4611686018427387904 := HN.out
 have Hwa := lH hwa
 clear hwa
 go_enter func44, ntmps44
 go_upto_region 3 with fail
 rw [Hwa.out]
 clear Hwa
 have g3 : wa.cell? ⟨w.heap.size, 3, none⟩ = some (.slice A0 us.length c0) := HQ0.out.req.cell 3
 go_wp2_with fail
 clear g3
 go_loopw [4, 16] (fun x4 x16 wx => ∃ (i k : Nat) (nx : Int) (l : List GI) (A : Option Addr) (c : Nat), i ≤ us.length ∧ k ≤ N ∧ x16 = .int .i64 i ∧ x4 = .int .i64 k ∧ Hid (CSt w wx #[.string rm, .string rp, .string ry, .slice A0 us.length c0, .string rb] (piecesL (us.drop i)) k N G0 nx l A c)) (fun _ x16 _ => us.length - (ixO x16).toNat)
 case atStart => exact ⟨0, 0, 0, [], none, 0, Nat.zero_le _, Nat.zero_le _, rfl, rfl, HQ0⟩
 case round =>
  clear HQ0
  rename World => wo
  obtain ⟨i, k, nx, l, A, c, hi, hk, rfl, rfl, HQ⟩ := hrel
  by_cases hlt : i < us.length
  · have hlt' : (i : Int) < (us.length : Int) := by omega
    obtain ⟨ab, ao, hA0, hab, hcs⟩ := HPa.out wo HQ.out.low (by omega)
    subst hA0
    obtain ⟨hc1, hc2⟩ := hcs i hlt
    obtain ⟨hz1, hz2⟩ := HZ.out i
    have HSm := lH (HSa.out (us.getD i default).1 (by omega))
    have hpy := pieces_yes (us := us) hlt
    have hpn := pieces_no (us := us) hlt
    have HPy := lH hpy
    have HPn := lH hpn
    clear hpy hpn hcs
    generalize us.getD i default = u at *
    obtain ⟨un, uv⟩ := u
    dsimp only at *
    obtain ⟨wp, hwp⟩ : ∃ z, wo.alloc (.cells #[.string un, .string uv] 48) = z := ⟨_, rfl⟩
    have hbp : Below wo.heap.size wo wp := by rw [← hwp]; exact (Below.refl wo.heap.size wo).alloc (Nat.le_refl _) _
    have HBp := lH hbp
    have HKp : Hid (Blk wp wo.heap.size 48 #[.string un, .string uv]) := by rw [← hwp]; exact Blk.new wo _ _
    have p0 : wp.cell? ⟨wo.heap.size, 0, none⟩ = some (.string un) := HKp.out.cell 0
    have Hwp := lH hwp
    clear hwp
    cases hsm : sameS un cookieB with
    | false =>
     rw [hsm] at HSm
     rw [HPn.out hsm] at HQ
     clear hbp
     go_upto_region 6 with fail
     rw [Hwp.out]
     clear Hwp
     go_wp2_with (go_at_call 50; refine (HSm.out wp).mono ?_; rintro e w1 ⟨rfl, hb1⟩; have HB1 := lH (HBp.out.trans (hb1.mono HBp.out.size)); clear hb1)
     go_roundw
     case rel => exact ⟨i + 1, k, nx, l, A, c, by omega, hk, by go_num, by trivial, HQ.out.under HB1.out⟩
     case measure => simp [ixO] <;> omega
    | true =>
     rw [hsm] at HSm
     rw [HPy.out hsm] at HQ
     obtain ⟨R, hR⟩ : ∃ z, piecesL (us.drop (i + 1)) = z := ⟨_, rfl⟩
     rw [hR] at HQ
     obtain ⟨V, hV⟩ : ∃ V, uv = mkB V := ⟨uv.data.toList, (mkB_of uv).symm⟩
     subst hV
     rw [mkB_list] at HQ
     rw [mkB_size] at hz2
     have HSpV := lH (HSp.out V (by omega))
     have HMem := lH (splitL_le 59 V)
     obtain ⟨PS, hPS⟩ : ∃ z, splitL 59 V = z := ⟨_, rfl⟩
     rw [hPS] at HQ HSpV HMem
     have hPl : PS.length ≤ 16777217 := by
      rw [← hPS]
      have := splitL_len 59 V
      omega
     clear hPS hbp
     go_upto_region 6 with fail
     rw [Hwp.out]
     clear Hwp
     go_upto_region 7 with (go_at_call 50; refine (HSm.out wp).mono ?_; rintro e w1 ⟨rfl, hb1⟩; have HB1 := lH (HBp.out.trans (hb1.mono HBp.out.size)); have HK1 := lH (blk_below HKp.out hb1); clear hb1)
     have q1 : w1.cell? ⟨wo.heap.size, 1, none⟩ = some (.string (mkB V)) := HK1.out.cell 1
     have HQ1 := lH (HQ.out.under HB1.out)
     have HSp1 := lH (HSpV.out w1 HQ1.out.low)
     obtain ⟨ws, hws⟩ : ∃ z, w1.alloc (.cells (PS.map fun p => Value.string (mkB p)).toArray 9) = z := ⟨_, rfl⟩
     have hpb3 : w.heap.size + 3 ≤ w1.heap.size := HQ1.out.box.lt
     have HQs : Hid (CSt w ws #[.string rm, .string rp, .string ry, .slice (some ⟨ab, ao, none⟩) us.length c0, .string rb] (PS.drop 0 ++ R) k N G0 nx l A c ∧ Blk ws w1.heap.size 9 (PS.map fun p => Value.string (mkB p)).toArray ∧ w.heap.size + 3 ≤ w1.heap.size) := by
      subst hws
      exact ⟨HQ1.out.under ((Below.refl w1.heap.size w1).alloc (Nat.le_refl _) _), Blk.new w1 _ _, hpb3⟩
     rw [hws] at HSp1
     clear HQ HSpV hws HQ1 HKp HK1 HBp HB1 HSm HPy HPn p0
     generalize w1.heap.size = pb at *
     go_wp2_with (go_at_call 26; refine HSp1.out.mono ?_; rintro e w2 ⟨rfl, hw2⟩; rw [hw2]; clear hw2 w2)
     clear HSp1
     go_loopw [4, 28] (fun x4 x28 wx => ∃ (j k : Nat) (nx : Int) (l : List GI) (A : Option Addr) (c : Nat), j ≤ PS.length ∧ k ≤ N ∧ x28 = .int .i64 j ∧ x4 = .int .i64 k ∧ Hid (CSt w wx #[.string rm, .string rp, .string ry, .slice (some ⟨ab, ao, none⟩) us.length c0, .string rb] (PS.drop j ++ R) k N G0 nx l A c ∧ Blk wx pb 9 (PS.map fun p => Value.string (mkB p)).toArray ∧ w.heap.size + 3 ≤ pb)) (fun _ x28 _ => PS.length - (ixO x28).toNat)
     case atStart => exact ⟨0, k, nx, l, A, c, Nat.zero_le _, hk, rfl, rfl, HQs⟩
     case round =>
      clear HQs hk
      clear q1 hpb3
      obtain ⟨j, k, nx, l, A, c, hj, hk, rfl, rfl, HQ⟩ := hrel
      by_cases hjt : j < PS.length
      · obtain ⟨p, hpj⟩ : ∃ p, PS[j]? = some p := ⟨_, List.getElem?_eq_getElem hjt⟩
        have hdr : PS.drop j ++ R = p :: (PS.drop (j + 1) ++ R) := by
         obtain ⟨h1, h2⟩ := List.getElem?_eq_some_iff.1 hpj
         rw [List.drop_eq_getElem_cons h1, h2]
         rfl
        rw [hdr] at HQ
        have hcp : wr.cell? ⟨pb, j, none⟩ = some (.string (mkB p)) := by
         have := HQ.out.2.1.cell j
         rw [this, List.getElem?_toArray, List.getElem?_map, hpj]
         rfl
        have hpl := HMem.out p (List.mem_of_getElem? hpj)
        have hjt' : (j : Int) < (PS.length : Int) := by omega
        have htl := trimL_le p
        have hkk : k + 1 ≤ N := by have := HQ.out.1.cnt; rw [List.length_cons] at this; omega
        have hwk : IntKind.i64.wrap ((k : Int) + 1) = ((k + 1 : Nat) : Int) := by rw [IntWalk.i64_in _ (by omega)]; omega
        have HSt := HQ
        have HTp := lH (HTr.out p wr)
        have hbw : Below w.heap.size w wr := HSt.out.1.low
        have HCp := lH (fun wz (hz : Below wr.heap.size wr wz) => HCu.out (trimL p) (by omega) wz (hbw.trans (hz.mono hbw.size)))
        clear hdr hpj HQ
        by_cases hf : 61 ∈ trimL p
        · rw [decide_eq_true hf] at HCp
          by_cases hk0 : k < 1000
          · have hkI : (k : Int) < 1000 := by omega
            have HX := lH HSt.out.1.box
            have hcl := cutL_le 61 (trimL p)
            have hn1 : (cutL 61 (trimL p)).1.length ≤ 16777216 := by omega
            have hn2 : (cutL 61 (trimL p)).2.length ≤ 16777216 := by omega
            have hdn := decF_le (cutL 61 (trimL p)).1
            have hdt := decF_le (cutL 61 (trimL p)).2
            have HQn := lH (And.intro (cookF_put (p := p) (r := PS.drop (j + 1) ++ R) (k := k) (g := .mk 4 nx ⟨#[]⟩ l) hf hk0) (cook_ok (t := trimL p) HSt.out.1.ok (by omega)))
            have hVA : VAt wr wr.heap.size (.mk 4 nx ⟨#[]⟩ l) (.agg #[.int .i64 4, .int .i64 nx, .string ⟨#[]⟩, .slice A l.length c]) := HSt.out.1.vin.at_ (fun b hb _ => hb) (fun b hS => hS.2)
            have HPut : Hid (∀ wz, Below wr.heap.size wr wz → Calls prog 28 #[.agg #[.int .i64 4, .int .i64 nx, .string ⟨#[]⟩, .slice A l.length c], .string (mkB (decF (cutL 61 (trimL p)).1)), .string (mkB (decF (cutL 61 (trimL p)).2))] wz fun e w2 => ∃ nx4 l4 A4 c4, putQ (decF (cutL 61 (trimL p)).1) (decF (cutL 61 (trimL p)).2) (.mk 4 nx ⟨#[]⟩ l) = .mk 4 nx4 ⟨#[]⟩ l4 ∧ e = .returned (.tuple #[.agg #[.int .i64 4, .int .i64 nx4, .string ⟨#[]⟩, .slice A4 l4.length c4], .int .i64 0]) ∧ VIn w2 (fun b => wz.heap.size ≤ b ∧ b < w2.heap.size) (.mk 4 nx4 ⟨#[]⟩ l4) (.agg #[.int .i64 4, .int .i64 nx4, .string ⟨#[]⟩, .slice A4 l4.length c4]) ∧ Below wz.heap.size wz w2) := fun wz hz =>
             (uput_any (w := wr) (Nat.le_refl _) (fun w2 h2 => HLib.out w2 (hbw.trans (h2.mono hbw.size))) m (fun w2 h2 => Hmx.out w2 (hbw.trans (h2.mono hbw.size))) hVA HSt.out.1.ok.wf _ _ (by omega) (by omega) wz hz).mono fun e w2 ⟨y, h1, h2, h3⟩ => by
              obtain ⟨nx4, l4, hG⟩ := HQn.out.2.list
              rw [hG] at h2
              obtain ⟨A4, c4, rfl⟩ := h2.form
              exact ⟨nx4, l4, A4, c4, hG, h1, h2, h3⟩
            clear hVA hdn hdt hcl hf
            generalize putQ (decF (cutL 61 (trimL p)).1) (decF (cutL 61 (trimL p)).2) (.mk 4 nx ⟨#[]⟩ l) = GN at *
            generalize (cutL 61 (trimL p)).1 = NA at *
            generalize (cutL 61 (trimL p)).2 = TA at *
            go_upto_region 12 with (first
             | (go_at_call 82; refine HTp.out.mono ?_; rintro e w5 ⟨rfl, hb5⟩; have HB5 := lH hb5; clear hb5)
             | (go_at_call 27; refine (HCp.out _ HB5.out).mono ?_; rintro e w1 ⟨rfl, nd, rfl⟩))
            obtain ⟨⟨v0, v1, v2, v3⟩, -⟩ := z8 (HX.out.below HB5.out HX.out.lt)
            refine wp_region_held_drew (S := (fun _ => True)) (by kernel_rfl) ?_ (fun hHeld => ?_)
            · trivial
            refine hdt (v := ?v1) op1 ?_
            try simp only [hdq]
            refine hdt (v := ?v2) op3 ?_
            try simp only [hdq]
            refine hdr2 op0 (fun K hK => ?_) op2 (fun K hK => ?_)
            · go_simp
              refine hK.out _ _ ?_ (fun hHeld => ?_)
              · exact trivial
              clear hK K
              try simp only [hdq]
              refine hdr1 op2 (fun K hK => ?_)
              go_simp
              go_at_call 29
              refine (HD.out _ (by assumption) _).mono ?_
              rintro e w2 ⟨rfl, hb2⟩
              have HB2 : Hid (Below wr.heap.size wr w2) := (drewN' HB5.out (nd + 1)).trans (hb2.mono HB5.out.size)
              obtain ⟨⟨v0w2, v1w2, v2w2, v3w2⟩, -⟩ := z8 (HX.out.below HB2.out HX.out.lt)
              clear hb2
              try (go_wp2_with fail)
              refine hK.out _ _ ?_ (fun hHeld => ?_)
              · exact trivial
              clear hK K
              try simp only [hdq]
              refine hdr1 op4 (fun K hK => ?_)
              go_simp
              go_at_call 29
              refine (HD.out _ (by assumption) _).mono ?_
              rintro e w3 ⟨rfl, hb2⟩
              have HB3 : Hid (Below wr.heap.size wr w3) := HB2.out.trans (hb2.mono HB2.out.size)
              obtain ⟨⟨v0w3, v1w3, v2w3, v3w3⟩, -⟩ := z8 (HX.out.below HB3.out HX.out.lt)
              clear hb2
              try (go_wp2_with fail)
              refine hK.out _ _ ?_ (fun hHeld => ?_)
              · exact trivial
              clear hK K
              try simp only [hdq]
              refine hdr1 op5 (fun K hK => ?_)
              go_simp
              go_at_call 28
              refine (HPut.out w3 HB3.out).mono ?_
              rintro e w4 ⟨nx4, l4, A4, c4, hG4, rfl, hy4, hb4⟩
              have HB4 : Hid (Below wr.heap.size wr w4) := HB3.out.trans (hb4.mono HB3.out.size)
              have HX4 := lH (HX.out.below HB4.out HX.out.lt)
              have HY4 := lH hy4
              have HG4 := lH hG4
              have HS3 := lH hb4.size
              obtain ⟨⟨b0, b1, b2, b3⟩, bf0, bf1, bf2, bf3⟩ := z8 HX4.out
              clear hy4 hb4 hG4
              try (go_wp2_with fail)
              refine hK.out _ _ ?_ (fun hHeld => ?_)
              · exact trivial
              clear hK K
              try simp only [hdq]
              refine hdt (v := ?v3) op6 ?_
              try simp only [hdq]
              refine hdt (v := ?v4) op7 ?_
              try simp only [hdq]
              refine hdt (v := ?v5) op8 ?_
              try simp only [hdq]
              refine hdr1 op9 (fun K hK => ?_)
              go_simp
              refine hK.out _ _ ?_ (fun hHeld => ?_)
              · exact trivial
              clear hK K
              try simp only [hdq]
              refine wpAnyH_done (by kernel_rfl) ?_ _
              go_wp2_with fail
              go_roundw
              case rel =>
               have hst := store4 HX4.out (.int .i64 4) (.int .i64 nx4) (.string ⟨#[]⟩) (.slice A4 l4.length c4)
               exact ⟨j + 1, k + 1, nx4, l4, A4, c4, by omega, hkk, by go_num, by go_num, cook_end HG4.out HSt.out HQn.out HB3.out HB4.out HY4.out hst rfl⟩
              case measure => simp [ixO] <;> omega
            · go_simp
              go_at_call 29
              refine (HD.out _ (by assumption) _).mono ?_
              rintro e w2 ⟨rfl, hb2⟩
              have HB2 : Hid (Below wr.heap.size wr w2) := (drewN' HB5.out (nd + 1)).trans (hb2.mono HB5.out.size)
              obtain ⟨⟨v0w2, v1w2, v2w2, v3w2⟩, -⟩ := z8 (HX.out.below HB2.out HX.out.lt)
              clear hb2
              try (go_wp2_with fail)
              refine hK.out _ _ ?_ (fun hHeld => ?_)
              · exact trivial
              clear hK K
              try simp only [hdq]
              refine hdr2 op0 (fun K hK => ?_) op4 (fun K hK => ?_)
              · go_simp
                refine hK.out _ _ ?_ (fun hHeld => ?_)
                · exact trivial
                clear hK K
                try simp only [hdq]
                refine hdr1 op4 (fun K hK => ?_)
                go_simp
                go_at_call 29
                refine (HD.out _ (by assumption) _).mono ?_
                rintro e w3 ⟨rfl, hb2⟩
                have HB3 : Hid (Below wr.heap.size wr w3) := HB2.out.trans (hb2.mono HB2.out.size)
                obtain ⟨⟨v0w3, v1w3, v2w3, v3w3⟩, -⟩ := z8 (HX.out.below HB3.out HX.out.lt)
                clear hb2
                try (go_wp2_with fail)
                refine hK.out _ _ ?_ (fun hHeld => ?_)
                · exact trivial
                clear hK K
                try simp only [hdq]
                refine hdr1 op5 (fun K hK => ?_)
                go_simp
                go_at_call 28
                refine (HPut.out w3 HB3.out).mono ?_
                rintro e w4 ⟨nx4, l4, A4, c4, hG4, rfl, hy4, hb4⟩
                have HB4 : Hid (Below wr.heap.size wr w4) := HB3.out.trans (hb4.mono HB3.out.size)
                have HX4 := lH (HX.out.below HB4.out HX.out.lt)
                have HY4 := lH hy4
                have HG4 := lH hG4
                have HS3 := lH hb4.size
                obtain ⟨⟨b0, b1, b2, b3⟩, bf0, bf1, bf2, bf3⟩ := z8 HX4.out
                clear hy4 hb4 hG4
                try (go_wp2_with fail)
                refine hK.out _ _ ?_ (fun hHeld => ?_)
                · exact trivial
                clear hK K
                try simp only [hdq]
                refine hdt (v := ?v6) op6 ?_
                try simp only [hdq]
                refine hdt (v := ?v7) op7 ?_
                try simp only [hdq]
                refine hdt (v := ?v8) op8 ?_
                try simp only [hdq]
                refine hdr1 op9 (fun K hK => ?_)
                go_simp
                refine hK.out _ _ ?_ (fun hHeld => ?_)
                · exact trivial
                clear hK K
                try simp only [hdq]
                refine wpAnyH_done (by kernel_rfl) ?_ _
                go_wp2_with fail
                go_roundw
                case rel =>
                 have hst := store4 HX4.out (.int .i64 4) (.int .i64 nx4) (.string ⟨#[]⟩) (.slice A4 l4.length c4)
                 exact ⟨j + 1, k + 1, nx4, l4, A4, c4, by omega, hkk, by go_num, by go_num, cook_end HG4.out HSt.out HQn.out HB3.out HB4.out HY4.out hst rfl⟩
                case measure => simp [ixO] <;> omega
              · go_simp
                go_at_call 29
                refine (HD.out _ (by assumption) _).mono ?_
                rintro e w3 ⟨rfl, hb2⟩
                have HB3 : Hid (Below wr.heap.size wr w3) := HB2.out.trans (hb2.mono HB2.out.size)
                obtain ⟨⟨v0w3, v1w3, v2w3, v3w3⟩, -⟩ := z8 (HX.out.below HB3.out HX.out.lt)
                clear hb2
                try (go_wp2_with fail)
                refine hK.out _ _ ?_ (fun hHeld => ?_)
                · exact trivial
                clear hK K
                try simp only [hdq]
                refine hdr1 op0 (fun K hK => ?_)
                go_simp
                refine hK.out _ _ ?_ (fun hHeld => ?_)
                · exact trivial
                clear hK K
                try simp only [hdq]
                refine hdr1 op5 (fun K hK => ?_)
                go_simp
                go_at_call 28
                refine (HPut.out w3 HB3.out).mono ?_
                rintro e w4 ⟨nx4, l4, A4, c4, hG4, rfl, hy4, hb4⟩
                have HB4 : Hid (Below wr.heap.size wr w4) := HB3.out.trans (hb4.mono HB3.out.size)
                have HX4 := lH (HX.out.below HB4.out HX.out.lt)
                have HY4 := lH hy4
                have HG4 := lH hG4
                have HS3 := lH hb4.size
                obtain ⟨⟨b0, b1, b2, b3⟩, bf0, bf1, bf2, bf3⟩ := z8 HX4.out
                clear hy4 hb4 hG4
                try (go_wp2_with fail)
                refine hK.out _ _ ?_ (fun hHeld => ?_)
                · exact trivial
                clear hK K
                try simp only [hdq]
                refine hdt (v := ?v9) op6 ?_
                try simp only [hdq]
                refine hdt (v := ?v10) op7 ?_
                try simp only [hdq]
                refine hdt (v := ?v11) op8 ?_
                try simp only [hdq]
                refine hdr1 op9 (fun K hK => ?_)
                go_simp
                refine hK.out _ _ ?_ (fun hHeld => ?_)
                · exact trivial
                clear hK K
                try simp only [hdq]
                refine wpAnyH_done (by kernel_rfl) ?_ _
                go_wp2_with fail
                go_roundw
                case rel =>
                 have hst := store4 HX4.out (.int .i64 4) (.int .i64 nx4) (.string ⟨#[]⟩) (.slice A4 l4.length c4)
                 exact ⟨j + 1, k + 1, nx4, l4, A4, c4, by omega, hkk, by go_num, by go_num, cook_end HG4.out HSt.out HQn.out HB3.out HB4.out HY4.out hst rfl⟩
                case measure => simp [ixO] <;> omega
          · have hkI : ¬ (k : Int) < 1000 := by omega
            have HQ2 := lH (HSt.out.1.to (cookF_full (p := p) (r := PS.drop (j + 1) ++ R) (g := .mk 4 nx ⟨#[]⟩ l) hf hk0).symm (by rw [List.length_cons]; omega))
            clear HD hf
            go_wp2_with (first
             | (go_at_call 82; refine HTp.out.mono ?_; rintro e w5 ⟨rfl, hb5⟩; have HB5 := lH hb5; clear hb5)
             | (go_at_call 27; refine (HCp.out _ HB5.out).mono ?_; rintro e w1 ⟨rfl, nd, rfl⟩))
            go_roundw
            case rel => exact ⟨j + 1, k + 1, nx, l, A, c, by omega, hkk, by go_num, by go_num, HQ2.out.under (drewN' HB5.out nd), blk_below HSt.out.2.1 (drewN' HB5.out nd), HSt.out.2.2⟩
            case measure => simp [ixO] <;> omega
        · rw [decide_eq_false hf] at HCp
          have HQ2 := lH (HSt.out.1.to (cookF_no (p := p) (r := PS.drop (j + 1) ++ R) (k := k) (g := .mk 4 nx ⟨#[]⟩ l) hf).symm (by rw [List.length_cons]; omega))
          clear HD hf
          go_wp2_with (first
           | (go_at_call 82; refine HTp.out.mono ?_; rintro e w5 ⟨rfl, hb5⟩; have HB5 := lH hb5; clear hb5)
           | (go_at_call 27; refine (HCp.out _ HB5.out).mono ?_; rintro e w1 ⟨rfl, nd, rfl⟩))
          go_roundw
          case rel => exact ⟨j + 1, k, nx, l, A, c, by omega, hk, by go_num, by trivial, HQ2.out.under (drewN' HB5.out nd), blk_below HSt.out.2.1 (drewN' HB5.out nd), HSt.out.2.2⟩
          case measure => simp [ixO] <;> omega
      · obtain rfl : j = PS.length := by omega
        rw [List.drop_length, List.nil_append, ← hR] at HQ
        clear HD HCu HTr
        go_wp2_with fail
        go_roundw
        case rel => exact ⟨i + 1, k, nx, l, A, c, by omega, hk, by go_num, by trivial, HQ.out.1⟩
        case measure => simp [ixO] <;> omega
  · obtain rfl : i = us.length := by omega
    have HF := HQ
    have hfin : G0 = .mk 4 nx ⟨#[]⟩ l := by
     have := HQ.out.fin
     rw [List.drop_length, piecesL, cookF] at this
     exact this.symm
    subst hfin
    obtain ⟨⟨v0, v1, v2, v3⟩, -⟩ := z8 HQ.out.box
    obtain ⟨⟨z0, z1, z2, z3⟩, zf0, zf1, zf2, zf3⟩ := z8 HQ.out.res
    have hst := lH (store4 HQ.out.res (.int .i64 4) (.int .i64 nx) (.string ⟨#[]⟩) (.slice A l.length c))
    clear HQ HD HCu HTr HSa HSp
    go_wp2_with fail
    generalize (((wo.setCell ⟨w.heap.size + 1, 0, none⟩ (.int .i64 4)).setCell ⟨w.heap.size + 1, 1, none⟩ (.int .i64 nx)).setCell ⟨w.heap.size + 1, 2, none⟩ (.string ⟨#[]⟩)).setCell ⟨w.heap.size + 1, 3, none⟩ (.slice A l.length c) = wf at *
    have e0 : wf.cell? ⟨w.heap.size + 1, 0, none⟩ = some (.int .i64 4) := hst.out.1.cell 0
    have e1 : wf.cell? ⟨w.heap.size + 1, 1, none⟩ = some (.int .i64 nx) := hst.out.1.cell 1
    have e2 : wf.cell? ⟨w.heap.size + 1, 2, none⟩ = some (.string ⟨#[]⟩) := hst.out.1.cell 2
    have e3 : wf.cell? ⟨w.heap.size + 1, 3, none⟩ = some (.slice A l.length c) := hst.out.1.cell 3
    refine bodyPost_ret (v := .agg #[.int .i64 4, .int .i64 nx, .string ⟨#[]⟩, .slice A l.length c]) (by simp [results, results44, go_sem, e0, e1, e2, e3]) rfl ?_
    have hs2 := hst.out.2.size
    have hl2 := HF.out.low.size
    exact ⟨_, rfl, HF.out.vin.keep (fun b hb => ⟨by omega, by omega⟩) (fun q hq => hst.out.2.cell hq.2 (fun e => by have := hq.1; omega)), HF.out.low.trans (hst.out.2.below hl2 (fun j e => by rw [e]; omega))⟩
end
end Rl
end Go.Proofs.YtgpemnmopogppaaGreatDoor
