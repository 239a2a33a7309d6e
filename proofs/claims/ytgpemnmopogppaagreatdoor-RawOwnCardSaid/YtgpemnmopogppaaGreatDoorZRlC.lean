import Derived.Test.YtgpemnmopogppaaGreatDoorZRlA
import Derived.Test.YtgpemnmopogppaaGreatDoorZUfGQ
import Derived.BigQuiet
set_option maxRecDepth 1000000
set_option maxHeartbeats 16000000
namespace Go.Proofs.YtgpemnmopogppaaGreatDoor
open Held
open Go.Proofs.Tryz
open Go Go.RowKit
namespace Rl
open Dp
open Ut
open Uf
open Url (decF)
structure RCSt (W0 W : World) (rq : Array Value) (r : List (List UInt8)) (k N : Nat) (G0 : GV) (nx : Int) (l : List GI) (A : Option Addr) (c : Nat) : Prop where
 req : Blk W W0.heap.size 43 rq
 res : Blk W (W0.heap.size + 1) 25 #[.int .i64 0, .int .i64 0, .string ⟨#[]⟩, .slice none 0 0]
 box : Blk W (W0.heap.size + 2) 25 #[.int .i64 4, .int .i64 nx, .string ⟨#[]⟩, .slice A l.length c]
 own : VOwn W (.mk 4 nx ⟨#[]⟩ l) (.agg #[.int .i64 4, .int .i64 nx, .string ⟨#[]⟩, .slice A l.length c])
 ok : QOk (.mk 4 nx ⟨#[]⟩ l)
 fin : cookF r k (.mk 4 nx ⟨#[]⟩ l) = G0
 cnt : k + r.length ≤ N
 low : Below W0.heap.size W0 W
section
variable {W0 W W' : World} {rq : Array Value} {r : List (List UInt8)} {k N : Nat} {G0 : GV} {nx : Int} {l : List GI} {A : Option Addr} {c : Nat}
theorem RCSt.under (h : RCSt W0 W rq r k N G0 nx l A c) (hb : Below W.heap.size W W') : RCSt W0 W' rq r k N G0 nx l A c :=
 ⟨blk_below h.req hb, blk_below h.res hb, blk_below h.box hb, h.own.under hb, h.ok, h.fin, h.cnt, h.low.trans (hb.mono h.low.size)⟩
theorem RCSt.to (h : RCSt W0 W rq r k N G0 nx l A c) {r' : List (List UInt8)} {k' : Nat} (e : cookF r' k' (.mk 4 nx ⟨#[]⟩ l) = cookF r k (.mk 4 nx ⟨#[]⟩ l)) (hn : k' + r'.length ≤ k + r.length) : RCSt W0 W rq r' k' N G0 nx l A c :=
 ⟨h.req, h.res, h.box, h.own, h.ok, e.trans h.fin, Nat.le_trans hn h.cnt, h.low⟩
end
theorem rcook_ok {a b : List UInt8} {g : GV} (hg : QOk g) (ha : a.length ≤ 16777216) (hb : b.length ≤ 16777216) : QOk (putQ (decF a) (decF b) g) := by
 have h2 := decF_le a
 have h3 := decF_le b
 exact putQ_ok hg (by omega) (by omega)
theorem rcook_end {W0 wr w4 wf : World} {rq : Array Value} {p : List UInt8} {r : List (List UInt8)} {k N : Nat} {G0 g : GV} {nx nx4 : Int} {l l4 : List GI} {A A4 : Option Addr} {c c4 : Nat} (h : RCSt W0 wr rq (p :: r) k N G0 nx l A c)
  (hG : g = .mk 4 nx4 ⟨#[]⟩ l4) (hq : cookF (p :: r) k (.mk 4 nx ⟨#[]⟩ l) = cookF r (k + 1) g ∧ QOk g) (hb4 : Below wr.heap.size wr w4) (hy : VOwn w4 (.mk 4 nx4 ⟨#[]⟩ l4) (.agg #[.int .i64 4, .int .i64 nx4, .string ⟨#[]⟩, .slice A4 l4.length c4]))
  (hf : wf = (((w4.setCell ⟨W0.heap.size + 2, 0, none⟩ (.int .i64 4)).setCell ⟨W0.heap.size + 2, 1, none⟩ (.int .i64 nx4)).setCell ⟨W0.heap.size + 2, 2, none⟩ (.string ⟨#[]⟩)).setCell ⟨W0.heap.size + 2, 3, none⟩ (.slice A4 l4.length c4)) : RCSt W0 wf rq r (k + 1) N G0 nx4 l4 A4 c4 := by
 subst hG
 have h' := h.under hb4
 have h6 := h.cnt
 rw [List.length_cons] at h6
 obtain ⟨h1, h2⟩ := store4 h'.box (.int .i64 4) (.int .i64 nx4) (.string ⟨#[]⟩) (.slice A4 l4.length c4)
 rw [← hf] at h1 h2
 refine ⟨h'.req.keeps h2 (by omega), h'.res.keeps h2 (by omega), h1, hy.keeps h2 fun j e => ?_, hq.2, hq.1.symm.trans h.fin, by omega, h'.low.trans (h2.below h'.low.size (fun j e => by omega))⟩
 subst e
 exact ⟨_, _, h'.box, by decide⟩
section
variable (rm rp ry rb : ByteArray) (A0 : Option Addr) (c0 : Nat) (us : List (ByteArray × ByteArray))
theorem rcookies_any (w : World) (hA : PairsAt w w.heap.size A0 us) (hn : us.length ≤ 4194304) (hz : ∀ k, (us.getD k default).1.size ≤ 16777216 ∧ (us.getD k default).2.size ≤ 16777216) :
  Calls prog 49 #[.agg #[.string rm, .string rp, .string ry, .slice A0 us.length c0, .string rb]] w fun e w' => ∃ y, e = .returned y ∧ VOwn w' (cookG us) y ∧ Below w.heap.size w w' := by
 have HN : Hid ((piecesL us).length ≤ 4611686018427387904) := by
  have h1 := pieces_len us 16777216 fun u hu => by
   obtain ⟨i, hi⟩ := List.getElem?_of_mem hu
   have := (hz i).2
   rwa [List.getD_eq_getElem?_getD, hi] at this
  have h2 : us.length * (16777216 + 1) ≤ 4194304 * (16777216 + 1) := Nat.mul_le_mul_right _ hn
  show _ ≤ _
  omega
 have hal := fun (w1 : World) (o : Obj) => (Below.refl w1.heap.size w1).alloc (Nat.le_refl _) o
 obtain ⟨wa, hwa⟩ : ∃ z, ((w.alloc (.cells #[.string rm, .string rp, .string ry, .slice A0 us.length c0, .string rb] 43)).alloc (.cells #[.int .i64 0, .int .i64 0, .string ⟨#[]⟩, .slice none 0 0] 25)).alloc (.cells #[.int .i64 4, .int .i64 0, .string ⟨#[]⟩, .slice none 0 0] 25) = z := ⟨_, rfl⟩
 have HQ0 : Hid (RCSt w wa #[.string rm, .string rp, .string ry, .slice A0 us.length c0, .string rb] (piecesL us) 0 (piecesL us).length (cookG us) 0 [] none 0) := by
  subst hwa
  have h1 := Blk.new w 43 #[.string rm, .string rp, .string ry, .slice A0 us.length c0, .string rb]
  have h2 := Blk.new (w.alloc (.cells #[.string rm, .string rp, .string ry, .slice A0 us.length c0, .string rb] 43)) 25 #[.int .i64 0, .int .i64 0, .string ⟨#[]⟩, .slice none 0 0]
  have h3 := Blk.new ((w.alloc (.cells #[.string rm, .string rp, .string ry, .slice A0 us.length c0, .string rb] 43)).alloc (.cells #[.int .i64 0, .int .i64 0, .string ⟨#[]⟩, .slice none 0 0] 25)) 25 #[.int .i64 4, .int .i64 0, .string ⟨#[]⟩, .slice none 0 0]
  rw [World.size_alloc] at h2
  rw [World.size_alloc, World.size_alloc] at h3
  exact ⟨(h1.alloc _).alloc _, h2.alloc _, h3, .leaf _ _ _ _, .empty, rfl, by omega, ((hal w _).alloc (by simp only [World.size_alloc]; omega) _).alloc (by simp only [World.size_alloc]; omega) _⟩
 have HSm := lH (fun (a : ByteArray) (ha : a.size ≤ 9223372036854775807) (wz : World) => small_any a ha wz)
 have HSe := lH (fun (a : ByteArray) => show ((⟨(a.data.toList.map lowB).toArray⟩ : ByteArray).toList == ([99, 111, 111, 107, 105, 101] : List UInt8)) = sameS a cookieB by
  have h := small_beq a cookieB
  rw [Lib.toList_data ⟨(cookieB.data.toList.map lowB).toArray⟩] at h
  exact h)
 have HD := lH (fun (p : List UInt8) (hp : p.length ≤ 16777216) (wz : World) => show Calls prog 32 #[.string (mkB p)] wz fun e w' => e = .returned (.string (mkB (decF p))) ∧ Below wz.heap.size wz w' by
  have h := Url.rdec_any (mkB p) (by rw [mkB_size]; exact hp) wz
  rw [mkB_list] at h
  exact h)
 have HPa := lH (fun wz (hb : Below w.heap.size w wz) => hA.below' hb)
 have HZ := lH hz
 obtain ⟨G0, hG0⟩ : ∃ z, cookG us = z := ⟨_, rfl⟩
 obtain ⟨N, hN⟩ : ∃ z, (piecesL us).length = z := ⟨_, rfl⟩
 rw [hG0, hN] at HQ0
 rw [hN] at HN
 rw [hG0]
 clear hG0 hN hz hal hA
 have hNn : N ≤ 4611686018427387904 := HN.out
 have Hwa := lH hwa
 clear hwa
 go_enter func49, ntmps49
 go_upto_region 3 with fail
 rw [Hwa.out]
 clear Hwa
 go_wp2_with fail
 go_loopw [4, 5] (fun x4 x5 wx => ∃ (i k : Nat) (nx : Int) (l : List GI) (A : Option Addr) (c : Nat), i ≤ us.length ∧ k ≤ N ∧ x5 = .int .i64 i ∧ x4 = .int .i64 k ∧ Hid (RCSt w wx #[.string rm, .string rp, .string ry, .slice A0 us.length c0, .string rb] (piecesL (us.drop i)) k N G0 nx l A c)) (fun _ x5 _ => us.length - (ixO x5).toNat)
 case atStart => exact ⟨0, 0, 0, [], none, 0, Nat.zero_le _, Nat.zero_le _, rfl, rfl, HQ0⟩
 case round =>
  clear HQ0
  rename World => wo
  obtain ⟨i, k, nx, l, A, c, hi, hk, rfl, rfl, HQ⟩ := hrel
  have b3 : wo.cell? ⟨w.heap.size, 3, none⟩ = some (.slice A0 us.length c0) := HQ.out.req.cell 3
  by_cases hlt : i < us.length
  · have hlt' : (i : Int) < (us.length : Int) := by omega
    obtain ⟨ab, ao, hA0, hab, hcs⟩ := HPa.out wo HQ.out.low (by omega)
    subst hA0
    obtain ⟨hc1, hc2⟩ := hcs i hlt
    obtain ⟨hz1, hz2⟩ := HZ.out i
    have HSu := lH (HSm.out (us.getD i default).1 (by omega))
    have heq := HSe.out (us.getD i default).1
    have HPy := lH (pieces_yes (us := us) hlt)
    have HPn := lH (pieces_no (us := us) hlt)
    have habo : ab < wo.heap.size := Nat.lt_of_lt_of_le hab HQ.out.low.size
    clear hcs
    generalize us.getD i default = u at *
    obtain ⟨un, uv⟩ := u
    dsimp only at *
    obtain ⟨X, hX⟩ : ∃ z : ByteArray, (⟨(un.data.toList.map lowB).toArray⟩ : ByteArray) = z := ⟨_, rfl⟩
    rw [hX] at heq HSu
    clear hX
    cases hsm : sameS un cookieB with
    | false =>
     rw [hsm] at heq
     rw [HPn.out hsm] at HQ
     go_wp2_with (go_at_call 58; refine (HSu.out wo).mono ?_; rintro e w1 ⟨rfl, hb1⟩; have HB1 := lH hb1; clear hb1)
     go_roundw
     case rel => exact ⟨i + 1, k, nx, l, A, c, by omega, hk, by go_num, by trivial, HQ.out.under HB1.out⟩
     case measure => simp [ixO] <;> omega
    | true =>
     rw [hsm] at heq
     rw [HPy.out hsm] at HQ
     obtain ⟨R, hR⟩ : ∃ z, piecesL (us.drop (i + 1)) = z := ⟨_, rfl⟩
     rw [hR] at HQ
     obtain ⟨V, hV⟩ : ∃ V, uv = mkB V := ⟨uv.data.toList, (mkB_of uv).symm⟩
     subst hV
     rw [mkB_list, ← restS_all V] at HQ
     rw [mkB_size] at hz2
     have hcat : mkB V ++ ⟨#[59]⟩ = mkB (V ++ [59]) := by
      apply ByteArray.ext
      simp [mkB]
     have hZ : (mkB (V ++ [59])).size = V.length + 1 := by rw [mkB_size]; simp
     have HSz := lH hZ
     have HGv : Hid (∀ (a : Nat) (h1 : a < (mkB (V ++ [59])).size) (h2 : a < V.length), (mkB (V ++ [59]))[a] = V[a]) := by
      show ∀ a h1 h2, _
      intro a h1 h2
      simp [mkB, ByteArray.getElem_eq_getElem_data, List.getElem_append_left h2]
     have HGe : Hid (∀ (h1 : V.length < (mkB (V ++ [59])).size), (mkB (V ++ [59]))[V.length] = 59) := by
      show ∀ h1, _
      intro h1
      simp [mkB, ByteArray.getElem_eq_getElem_data]
     have HTx : Hid (∀ a b : Nat, a ≤ b → b ≤ V.length → (mkB (V ++ [59])).extract a b = mkB (seg V a b)) := fun a b h h2 => ext_seg h h2
     have g1 : ¬ 9223372036854775807 < (mkB V).size + 1 := by rw [mkB_size]; omega
     have hVs : (mkB V).size = V.length := mkB_size V
     have HCat := lH hcat
     clear hcat hZ
     generalize mkB (V ++ [59]) = S at *
     generalize mkB V = VB at *
     go_upto_region 10 with (go_at_call 58; refine (HSu.out wo).mono ?_; rintro e w1 ⟨rfl, hb1⟩; have HB1 := lH hb1; have q2 := (hb1.cell (p := ⟨ab, ao + i * 2 + 1, none⟩) habo).trans hc2; have q3 := (hb1.cell (p := ⟨w.heap.size, 3, none⟩) HQ.out.req.lt).trans b3; clear hb1)
     rw [HCat.out]
     have HQ1 := lH (HQ.out.under HB1.out)
     clear HCat HQ heq HSu HB1 q2 q3 HSm HSe b3 hc1 hc2 HPy HPn g1 hVs habo
     go_loopw [4, 7, 8] (fun x4 x7 x8 wx => ∃ (a q kk : Nat) (nx : Int) (gs : List GI) (A : Option Addr) (c : Nat), a ≤ q ∧ q ≤ V.length + 1 ∧ (q ≤ V.length ∨ a = q) ∧ kk ≤ N ∧ x8 = .int .i64 q ∧ x7 = .int .i64 a ∧ x4 = .int .i64 kk ∧ Hid (59 ∉ seg V a q) ∧ Hid (RCSt w wx #[.string rm, .string rp, .string ry, .slice (some ⟨ab, ao, none⟩) us.length c0, .string rb] (restS V a ++ R) kk N G0 nx gs A c)) (fun _ _ x8 _ => V.length + 1 - (ixO x8).toNat)
     case atStart => exact ⟨0, 0, k, nx, l, A, c, Nat.le_refl _, by omega, .inl (Nat.zero_le _), hk, rfl, rfl, rfl, by show 59 ∉ seg V 0 0; rw [seg_self]; simp, HQ1⟩
     case round =>
      clear HQ1 hk
      rename World => wm
      obtain ⟨a, q, kk, nx, gs, A, c, haq, hqV, hqa, hkk, rfl, rfl, rfl, HSg, HQ⟩ := hrel
      by_cases hq : q ≤ V.length
      · have hqS : q < S.size := by have := HSz.out; omega
        have hqI : (q : Int) < (S.size : Int) := by omega
        by_cases h59 : S[q].toNat = 59
        · have hx : (S[q].toNat : Int) = 59 := by omega
          have hpc := restS_at (V := V) haq hq HSg.out (fun hl => by have := HGv.out q hqS hl; rw [← this]; exact UInt8.toNat_inj.1 h59)
          rw [hpc, List.cons_append] at HQ
          have hk1 : kk + 1 ≤ N := by have := HQ.out.cnt; rw [List.length_cons] at this; omega
          have hwk : IntKind.i64.wrap ((kk : Int) + 1) = ((kk + 1 : Nat) : Int) := by rw [IntWalk.i64_in _ (by omega)]; omega
          have hwq : IntKind.i64.wrap ((q : Int) + 1) = ((q + 1 : Nat) : Int) := by rw [IntWalk.i64_in _ (by omega)]; omega
          obtain ⟨P, hP⟩ : ∃ z, seg V a q = z := ⟨_, rfl⟩
          rw [hP] at HQ
          have HT0 : Hid (trimL (seg V a q) = trimL P) := by show trimL (seg V a q) = trimL P; rw [hP]
          clear hP hpc h59 HSg
          go_wp2_with fail
          go_loopw [7] (fun x7 wx => ∃ f : Nat, a ≤ f ∧ f ≤ q ∧ x7 = .int .i64 f ∧ wm = wx ∧ Hid (trimL (seg V f q) = trimL P)) (fun x7 _ => q - (ixO x7).toNat)
          case atStart => exact ⟨a, Nat.le_refl _, haq, rfl, rfl, HT0⟩
          case round =>
           clear HT0
           obtain ⟨f, haf, hfq, rfl, rfl, HT⟩ := hrel
           by_cases hf : f < q
           · have hfV : f < V.length := by omega
             have hfS : f < S.size := by have := HSz.out; omega
             have hfI : (f : Int) < (q : Int) := by omega
             have hfSI : (f : Int) < (S.size : Int) := by omega
             have hSf := HGv.out f hfS hfV
             by_cases h32 : S[f].toNat = 32
             · have hx32 : (S[f].toNat : Int) = 32 := by omega
               have hbl : S[f].toNat = 32 := h32
               have HT2 : Hid (trimL (seg V (f + 1) q) = trimL P) := (trim_step hf hq (by rw [← hSf]; unfold blankC; simp [← UInt8.toNat_inj, hbl])).symm.trans HT.out
               clear hSf hbl
               go_wp2_with fail
               go_roundw
               case rel => exact ⟨f + 1, by omega, by omega, by go_num, by trivial, HT2⟩
               case measure => simp [ixO] <;> omega
             · by_cases h9 : S[f].toNat = 9
               · have hx9 : (S[f].toNat : Int) = 9 := by omega
                 have hx32 : ((S[f].toNat : Int) == 32) = false := by rw [beq_eq_false_iff_ne]; omega
                 have hbl : S[f].toNat = 9 := h9
                 have HT2 : Hid (trimL (seg V (f + 1) q) = trimL P) := (trim_step hf hq (by rw [← hSf]; unfold blankC; simp [← UInt8.toNat_inj, hbl])).symm.trans HT.out
                 clear hSf hbl
                 go_wp2_with fail
                 go_roundw
                 case rel => exact ⟨f + 1, by omega, by omega, by go_num, by trivial, HT2⟩
                 case measure => simp [ixO] <;> omega
               · have hx32 : ((S[f].toNat : Int) == 32) = false := by rw [beq_eq_false_iff_ne]; omega
                 have hx9 : ((S[f].toNat : Int) == 9) = false := by rw [beq_eq_false_iff_ne]; omega
                 have HStop : Hid (trimL (seg V f q) = seg V f q) := trim_stop hfq hq (fun _ => by rw [← hSf]; unfold blankC; simp [← UInt8.toNat_inj, h32, h9])
                 clear hSf h32 h9
                 have HTs : Hid (trimL P = seg V f q) := HT.out.symm.trans HStop.out
                 clear HT HStop
                 go_wp2_with fail
                 go_loopw [4, 9] (fun x4 x9 wx => ∃ j : Nat, f ≤ j ∧ j ≤ q ∧ x9 = .int .i64 j ∧ x4 = .int .i64 kk ∧ wm = wx ∧ Hid (61 ∉ seg V f j)) (fun _ x9 _ => q - (ixO x9).toNat)
                 case atStart => exact ⟨f, Nat.le_refl _, hfq, rfl, rfl, rfl, by show 61 ∉ seg V f f; rw [seg_self]; simp⟩
                 case round =>
                  obtain ⟨j, hfj, hjq, rfl, rfl, rfl, HJ⟩ := hrel
                  by_cases hj : j < q
                  · have hjV : j < V.length := by omega
                    have hjS : j < S.size := by have := HSz.out; omega
                    have hjI : (j : Int) < (q : Int) := by omega
                    have hjSI : (j : Int) < (S.size : Int) := by omega
                    have hSj := HGv.out j hjS hjV
                    by_cases h61 : S[j].toNat = 61
                    · have hx61 : (S[j].toNat : Int) = 61 := by omega
                      have hct := cut_at hfj hj hq HJ.out (by rw [← hSj]; exact UInt8.toNat_inj.1 h61)
                      have HIn : Hid (61 ∈ trimL P) := by show 61 ∈ trimL P; rw [HTs.out]; exact hct.1
                      have HCt : Hid (cutL 61 (trimL P) = (seg V f j, seg V (j + 1) q)) := by show cutL 61 (trimL P) = _; rw [HTs.out]; exact hct.2
                      clear hct hSj h61
                      by_cases hk0 : kk < 1000
                      · have hkI : (kk : Int) < 1000 := by omega
                        have HX := lH HQ.out.box
                        have hl1 := seg_len (V := V) (a := f) (b := j) hfj (by omega)
                        have hl2 := seg_len (V := V) (a := j + 1) (b := q) (by omega) hq
                        have hn1 : (seg V f j).length ≤ 16777216 := by omega
                        have hn2 : (seg V (j + 1) q).length ≤ 16777216 := by omega
                        clear hl1 hl2
                        have hdn := decF_le (seg V f j)
                        have hdt := decF_le (seg V (j + 1) q)
                        have hqn := cookF_put (p := P) (r := restS V (q + 1) ++ R) (k := kk) (g := .mk 4 nx ⟨#[]⟩ gs) HIn.out hk0
                        rw [HCt.out] at hqn
                        have HQn := lH (And.intro hqn (rcook_ok (a := seg V f j) (b := seg V (j + 1) q) HQ.out.ok hn1 hn2))
                        clear hqn
                        have HPut : Hid (∀ wz, Below wm.heap.size wm wz → Calls prog 31 #[.agg #[.int .i64 4, .int .i64 nx, .string ⟨#[]⟩, .slice A gs.length c], .string (mkB (decF (seg V f j))), .string (mkB (decF (seg V (j + 1) q)))] wz fun e w2 => ∃ nx4 l4 A4 c4, putQ (decF (seg V f j)) (decF (seg V (j + 1) q)) (.mk 4 nx ⟨#[]⟩ gs) = .mk 4 nx4 ⟨#[]⟩ l4 ∧ e = .returned (.tuple #[.agg #[.int .i64 4, .int .i64 nx4, .string ⟨#[]⟩, .slice A4 l4.length c4], .int .i64 0]) ∧ VOwn w2 (.mk 4 nx4 ⟨#[]⟩ l4) (.agg #[.int .i64 4, .int .i64 nx4, .string ⟨#[]⟩, .slice A4 l4.length c4]) ∧ Below wz.heap.size wz w2) := fun wz hz =>
                         (rqput_any wz (HQ.out.under hz).own HQ.out.ok.wf _ _ (by omega) (by omega)).mono fun e w2 ⟨y, h1, h2, h3⟩ => by
                          obtain ⟨nx4, l4, hG⟩ := HQn.out.2.list
                          rw [hG] at h2
                          obtain ⟨ps, A4, c4, rfl, rfl, ho, hv⟩ := h2.form
                          exact ⟨nx4, ps.map PI.it, A4, c4, hG, by rw [List.length_map]; exact h1, by rw [List.length_map]; exact h2, h3⟩
                        obtain ⟨⟨v0, v1, v2, v3⟩, -⟩ := z8 HX.out
                        have hTx1 := HTx.out f j hfj (by omega)
                        have hTx2 := HTx.out (j + 1) q (by omega) hq
                        have hf0 : (0 : Int) ≤ (f : Int) := by omega
                        have hb1 : (f : Int) ≤ (j : Int) := by omega
                        have hb2 : (j : Int) ≤ (S.size : Int) := by omega
                        have hb3 : ((j + 1 : Nat) : Int) ≤ (q : Int) := by omega
                        have hb4 : (q : Int) ≤ (S.size : Int) := by have := HSz.out; omega
                        have hb5 : (0 : Int) ≤ (j : Int) + 1 := by omega
                        have hb6 : (j : Int) + 1 ≤ (q : Int) := by omega
                        have hwj : IntKind.i64.wrap ((j : Int) + 1) = ((j + 1 : Nat) : Int) := by rw [IntWalk.i64_in _ (by omega)]; omega
                        clear hdn hdt HTs HIn HCt HJ HTx HGv HGe
                        generalize putQ (decF (seg V f j)) (decF (seg V (j + 1) q)) (.mk 4 nx ⟨#[]⟩ gs) = GN at *
                        generalize seg V f j = NA at *
                        generalize seg V (j + 1) q = TA at *
                        go_upto_region 20 with fail
                        refine wp_region_held_drew (S := (fun _ => True)) (by kernel_rfl) ?_ (fun hHeld => ?_)
                        · trivial
                        refine hdt (v := ?v1) op1 ?_
                        try simp only [hdq]
                        refine hdt (v := ?v2) op2 ?_
                        try simp only [hdq]
                        refine hdt (v := ?v3) op3 ?_
                        try simp only [hdq]
                        refine hdt (v := ?v4) op4 ?_
                        try simp only [hdq]
                        refine hdt (v := ?v5) op6 ?_
                        try simp only [hdq]
                        refine hdt (v := ?v6) op7 ?_
                        try simp only [hdq]
                        refine hdt (v := ?v7) op8 ?_
                        try simp only [hdq]
                        refine hdt (v := ?v8) op9 ?_
                        try simp only [hdq]
                        refine hdt (v := ?v9) op10 ?_
                        try simp only [hdq]
                        refine hdr2 op0 (fun K hK => ?_) op5 (fun K hK => ?_)
                        · go_simp
                          refine hK.out _ _ ?_ (fun hHeld => ?_)
                          · exact trivial
                          clear hK K
                          try simp only [hdq]
                          refine hdr1 op5 (fun K hK => ?_)
                          go_simp
                          go_at_call 32
                          refine (HD.out _ (by assumption) _).mono ?_
                          rintro e w2 ⟨rfl, hb2⟩
                          have HB2 : Hid (Below wm.heap.size wm w2) := (drewN' (Below.refl wm.heap.size wm) 1).trans hb2
                          obtain ⟨⟨v0w2, v1w2, v2w2, v3w2⟩, -⟩ := z8 (HX.out.below HB2.out HX.out.lt)
                          clear hb2
                          try (go_wp2_with fail)
                          refine hK.out _ _ ?_ (fun hHeld => ?_)
                          · exact trivial
                          clear hK K
                          try simp only [hdq]
                          refine hdr1 op11 (fun K hK => ?_)
                          go_simp
                          go_at_call 32
                          refine (HD.out _ (by assumption) _).mono ?_
                          rintro e w3 ⟨rfl, hb2⟩
                          have HB3 : Hid (Below wm.heap.size wm w3) := HB2.out.trans (hb2.mono HB2.out.size)
                          obtain ⟨⟨v0w3, v1w3, v2w3, v3w3⟩, -⟩ := z8 (HX.out.below HB3.out HX.out.lt)
                          clear hb2
                          try (go_wp2_with fail)
                          refine hK.out _ _ ?_ (fun hHeld => ?_)
                          · exact trivial
                          clear hK K
                          try simp only [hdq]
                          refine hdr1 op12 (fun K hK => ?_)
                          go_simp
                          go_at_call 31
                          refine (HPut.out w3 HB3.out).mono ?_
                          rintro e w4 ⟨nx4, l4, A4, c4, hG4, rfl, hy4, hb4⟩
                          have HB4 : Hid (Below wm.heap.size wm w4) := HB3.out.trans (hb4.mono HB3.out.size)
                          have HX4 := lH (HX.out.below HB4.out HX.out.lt)
                          have HY4 := lH hy4
                          have HG4 := lH hG4
                          have HS3 := lH hb4.size
                          obtain ⟨⟨b0, b1, b2, b3⟩, bf0, bf1, bf2, bf3⟩ := z8 HX4.out
                          clear hy4 hb4 hG4
                          try (go_wp2_with fail)
                          refine hK.out _ _ ?_ (fun hHeld => ?_)
                          · exact trivial
                          clear hK K
                          try simp only [hdq]
                          refine hdt (v := ?v10) op13 ?_
                          try simp only [hdq]
                          refine hdt (v := ?v11) op14 ?_
                          try simp only [hdq]
                          refine hdt (v := ?v12) op15 ?_
                          try simp only [hdq]
                          refine hdr1 op16 (fun K hK => ?_)
                          go_simp
                          refine hK.out _ _ ?_ (fun hHeld => ?_)
                          · exact trivial
                          clear hK K
                          try simp only [hdq]
                          refine wpAnyH_done (by kernel_rfl) ?_ _
                          go_wp2_with fail
                          go_roundw
                          case rel => exact ⟨q + 1, q + 1, kk + 1, nx4, l4, A4, c4, Nat.le_refl _, by omega, .inr rfl, hk1, by go_num, by go_num, by go_num, by show 59 ∉ seg V (q + 1) (q + 1); rw [seg_self]; simp, rcook_end HQ.out HG4.out HQn.out HB4.out HY4.out rfl⟩
                          case measure => simp [ixO] <;> omega
                        · go_simp
                          go_at_call 32
                          refine (HD.out _ (by assumption) _).mono ?_
                          rintro e w2 ⟨rfl, hb2⟩
                          have HB2 : Hid (Below wm.heap.size wm w2) := (drewN' (Below.refl wm.heap.size wm) 1).trans hb2
                          obtain ⟨⟨v0w2, v1w2, v2w2, v3w2⟩, -⟩ := z8 (HX.out.below HB2.out HX.out.lt)
                          clear hb2
                          try (go_wp2_with fail)
                          refine hK.out _ _ ?_ (fun hHeld => ?_)
                          · exact trivial
                          clear hK K
                          try simp only [hdq]
                          refine hdr2 op0 (fun K hK => ?_) op11 (fun K hK => ?_)
                          · go_simp
                            refine hK.out _ _ ?_ (fun hHeld => ?_)
                            · exact trivial
                            clear hK K
                            try simp only [hdq]
                            refine hdr1 op11 (fun K hK => ?_)
                            go_simp
                            go_at_call 32
                            refine (HD.out _ (by assumption) _).mono ?_
                            rintro e w3 ⟨rfl, hb2⟩
                            have HB3 : Hid (Below wm.heap.size wm w3) := HB2.out.trans (hb2.mono HB2.out.size)
                            obtain ⟨⟨v0w3, v1w3, v2w3, v3w3⟩, -⟩ := z8 (HX.out.below HB3.out HX.out.lt)
                            clear hb2
                            try (go_wp2_with fail)
                            refine hK.out _ _ ?_ (fun hHeld => ?_)
                            · exact trivial
                            clear hK K
                            try simp only [hdq]
                            refine hdr1 op12 (fun K hK => ?_)
                            go_simp
                            go_at_call 31
                            refine (HPut.out w3 HB3.out).mono ?_
                            rintro e w4 ⟨nx4, l4, A4, c4, hG4, rfl, hy4, hb4⟩
                            have HB4 : Hid (Below wm.heap.size wm w4) := HB3.out.trans (hb4.mono HB3.out.size)
                            have HX4 := lH (HX.out.below HB4.out HX.out.lt)
                            have HY4 := lH hy4
                            have HG4 := lH hG4
                            have HS3 := lH hb4.size
                            obtain ⟨⟨b0, b1, b2, b3⟩, bf0, bf1, bf2, bf3⟩ := z8 HX4.out
                            clear hy4 hb4 hG4
                            try (go_wp2_with fail)
                            refine hK.out _ _ ?_ (fun hHeld => ?_)
                            · exact trivial
                            clear hK K
                            try simp only [hdq]
                            refine hdt (v := ?v13) op13 ?_
                            try simp only [hdq]
                            refine hdt (v := ?v14) op14 ?_
                            try simp only [hdq]
                            refine hdt (v := ?v15) op15 ?_
                            try simp only [hdq]
                            refine hdr1 op16 (fun K hK => ?_)
                            go_simp
                            refine hK.out _ _ ?_ (fun hHeld => ?_)
                            · exact trivial
                            clear hK K
                            try simp only [hdq]
                            refine wpAnyH_done (by kernel_rfl) ?_ _
                            go_wp2_with fail
                            go_roundw
                            case rel => exact ⟨q + 1, q + 1, kk + 1, nx4, l4, A4, c4, Nat.le_refl _, by omega, .inr rfl, hk1, by go_num, by go_num, by go_num, by show 59 ∉ seg V (q + 1) (q + 1); rw [seg_self]; simp, rcook_end HQ.out HG4.out HQn.out HB4.out HY4.out rfl⟩
                            case measure => simp [ixO] <;> omega
                          · go_simp
                            go_at_call 32
                            refine (HD.out _ (by assumption) _).mono ?_
                            rintro e w3 ⟨rfl, hb2⟩
                            have HB3 : Hid (Below wm.heap.size wm w3) := HB2.out.trans (hb2.mono HB2.out.size)
                            obtain ⟨⟨v0w3, v1w3, v2w3, v3w3⟩, -⟩ := z8 (HX.out.below HB3.out HX.out.lt)
                            clear hb2
                            try (go_wp2_with fail)
                            refine hK.out _ _ ?_ (fun hHeld => ?_)
                            · exact trivial
                            clear hK K
                            try simp only [hdq]
                            refine hdr1 op0 (fun K hK => ?_)
                            go_simp
                            refine hK.out _ _ ?_ (fun hHeld => ?_)
                            · exact trivial
                            clear hK K
                            try simp only [hdq]
                            refine hdr1 op12 (fun K hK => ?_)
                            go_simp
                            go_at_call 31
                            refine (HPut.out w3 HB3.out).mono ?_
                            rintro e w4 ⟨nx4, l4, A4, c4, hG4, rfl, hy4, hb4⟩
                            have HB4 : Hid (Below wm.heap.size wm w4) := HB3.out.trans (hb4.mono HB3.out.size)
                            have HX4 := lH (HX.out.below HB4.out HX.out.lt)
                            have HY4 := lH hy4
                            have HG4 := lH hG4
                            have HS3 := lH hb4.size
                            obtain ⟨⟨b0, b1, b2, b3⟩, bf0, bf1, bf2, bf3⟩ := z8 HX4.out
                            clear hy4 hb4 hG4
                            try (go_wp2_with fail)
                            refine hK.out _ _ ?_ (fun hHeld => ?_)
                            · exact trivial
                            clear hK K
                            try simp only [hdq]
                            refine hdt (v := ?v16) op13 ?_
                            try simp only [hdq]
                            refine hdt (v := ?v17) op14 ?_
                            try simp only [hdq]
                            refine hdt (v := ?v18) op15 ?_
                            try simp only [hdq]
                            refine hdr1 op16 (fun K hK => ?_)
                            go_simp
                            refine hK.out _ _ ?_ (fun hHeld => ?_)
                            · exact trivial
                            clear hK K
                            try simp only [hdq]
                            refine wpAnyH_done (by kernel_rfl) ?_ _
                            go_wp2_with fail
                            go_roundw
                            case rel => exact ⟨q + 1, q + 1, kk + 1, nx4, l4, A4, c4, Nat.le_refl _, by omega, .inr rfl, hk1, by go_num, by go_num, by go_num, by show 59 ∉ seg V (q + 1) (q + 1); rw [seg_self]; simp, rcook_end HQ.out HG4.out HQn.out HB4.out HY4.out rfl⟩
                            case measure => simp [ixO] <;> omega
                      · have hkI : ¬ (kk : Int) < 1000 := by omega
                        have HQ2 := lH (HQ.out.to (cookF_full (p := P) (r := restS V (q + 1) ++ R) (g := .mk 4 nx ⟨#[]⟩ gs) HIn.out hk0).symm (by rw [List.length_cons]; omega))
                        clear HD HGv HGe HTx
                        go_wp2_with fail
                        go_roundw
                        case rel => exact ⟨q + 1, q + 1, kk + 1, nx, gs, A, c, Nat.le_refl _, by omega, .inr rfl, hk1, by go_num, by go_num, by go_num, by show 59 ∉ seg V (q + 1) (q + 1); rw [seg_self]; simp, HQ2⟩
                        case measure => simp [ixO] <;> omega
                    · have hx61 : ((S[j].toNat : Int) == 61) = false := by rw [beq_eq_false_iff_ne]; omega
                      have HJ2 : Hid (61 ∉ seg V f (j + 1)) := not_snoc hfj hjV HJ.out (fun e => h61 (by rw [hSj, e]; rfl))
                      clear hSj h61
                      go_wp2_with fail
                      go_roundw
                      case rel => exact ⟨j + 1, by omega, by omega, by go_num, by trivial, by trivial, HJ2⟩
                      case measure => simp [ixO] <;> omega
                  · obtain rfl : j = q := by omega
                    have hjI : ¬ (j : Int) < (j : Int) := by omega
                    have HQ2 := lH (HQ.out.to (cookF_no (p := P) (r := restS V (j + 1) ++ R) (k := kk) (g := .mk 4 nx ⟨#[]⟩ gs) (by rw [HTs.out]; exact HJ.out)).symm (by rw [List.length_cons]; omega))
                    clear HD HGv HGe HTx
                    go_wp2_with fail
                    go_roundw
                    case rel => exact ⟨j + 1, j + 1, kk, nx, gs, A, c, Nat.le_refl _, by omega, .inr rfl, hkk, by go_num, by go_num, by trivial, by show 59 ∉ seg V (j + 1) (j + 1); rw [seg_self]; simp, HQ2⟩
                    case measure => simp [ixO] <;> omega
           · have HStop : Hid (trimL (seg V f q) = seg V f q) := trim_stop hfq hq (fun h => absurd h hf)
             obtain rfl : f = q := by omega
             have hfI : ¬ (f : Int) < (f : Int) := by omega
             have HTs : Hid (trimL P = seg V f f) := HT.out.symm.trans HStop.out
             clear HT HStop
             go_wp2_with fail
             go_loopw [4, 9] (fun x4 x9 wx => ∃ j : Nat, f ≤ j ∧ j ≤ f ∧ x9 = .int .i64 j ∧ x4 = .int .i64 kk ∧ wm = wx ∧ Hid (61 ∉ seg V f j)) (fun _ x9 _ => f - (ixO x9).toNat)
             case atStart => exact ⟨f, Nat.le_refl _, hfq, rfl, rfl, rfl, by show 61 ∉ seg V f f; rw [seg_self]; simp⟩
             case round =>
              obtain ⟨j, hfj, hjq, rfl, rfl, rfl, HJ⟩ := hrel
              obtain rfl : j = f := by omega
              have hjI : ¬ (j : Int) < (j : Int) := by omega
              have HQ2 := lH (HQ.out.to (cookF_no (p := P) (r := restS V (j + 1) ++ R) (k := kk) (g := .mk 4 nx ⟨#[]⟩ gs) (by rw [HTs.out]; exact HJ.out)).symm (by rw [List.length_cons]; omega))
              clear HD HGv HGe HTx
              go_wp2_with fail
              go_roundw
              case rel => exact ⟨j + 1, j + 1, kk, nx, gs, A, c, Nat.le_refl _, by omega, .inr rfl, hkk, by go_num, by go_num, by trivial, by show 59 ∉ seg V (j + 1) (j + 1); rw [seg_self]; simp, HQ2⟩
              case measure => simp [ixO] <;> omega
        · have hqV2 : q < V.length := by
           rcases Nat.lt_or_ge q V.length with h | h
           · exact h
           · obtain rfl : q = V.length := by omega
             exact absurd (by rw [HGe.out hqS]; rfl) h59
          have hx : ((S[q].toNat : Int) == 59) = false := by rw [beq_eq_false_iff_ne]; omega
          have HSg2 : Hid (59 ∉ seg V a (q + 1)) := not_snoc haq hqV2 HSg.out (fun e => h59 (by rw [HGv.out q hqS hqV2, e]; rfl))
          clear h59 HD
          go_wp2_with fail
          go_roundw
          case rel => exact ⟨a, q + 1, kk, nx, gs, A, c, by omega, by omega, .inl (by omega), hkk, by go_num, by trivial, by trivial, HSg2, HQ⟩
          case measure => simp [ixO] <;> omega
      · have hqI : ¬ (q : Int) < (S.size : Int) := by have := HSz.out; omega
        obtain rfl : a = q := by omega
        rw [restS_end V a hq, List.nil_append, ← hR] at HQ
        clear HD HGv HGe HTx HSg
        go_wp2_with fail
        go_roundw
        case rel => exact ⟨i + 1, kk, nx, gs, A, c, by omega, hkk, by go_num, by trivial, HQ⟩
        case measure => simp [ixO] <;> omega
  · obtain rfl : i = us.length := by omega
    have hfin : G0 = .mk 4 nx ⟨#[]⟩ l := by
     have := HQ.out.fin
     rw [List.drop_length, piecesL, cookF] at this
     exact this.symm
    subst hfin
    obtain ⟨⟨v0, v1, v2, v3⟩, -⟩ := z8 HQ.out.box
    obtain ⟨⟨z0, z1, z2, z3⟩, zf0, zf1, zf2, zf3⟩ := z8 HQ.out.res
    have HFi := lH (fin_own (wf := _) HQ.out.res HQ.out.own HQ.out.low (by omega) HQ.out.low.size rfl)
    clear HQ HD HSm HSe
    go_wp2_with fail
    generalize (((wo.setCell ⟨w.heap.size + 1, 0, none⟩ (.int .i64 4)).setCell ⟨w.heap.size + 1, 1, none⟩ (.int .i64 nx)).setCell ⟨w.heap.size + 1, 2, none⟩ (.string ⟨#[]⟩)).setCell ⟨w.heap.size + 1, 3, none⟩ (.slice A l.length c) = wf at *
    obtain ⟨⟨e0, e1, e2, e3⟩, -⟩ := z8 HFi.out.1
    refine bodyPost_ret (v := .agg #[.int .i64 4, .int .i64 nx, .string ⟨#[]⟩, .slice A l.length c]) (by simp [results, results49, go_sem, e0, e1, e2, e3]) rfl ?_
    exact ⟨_, rfl, HFi.out.2⟩
end
end Rl
end Go.Proofs.YtgpemnmopogppaaGreatDoor
