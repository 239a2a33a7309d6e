import Derived.Test.YtgpemnmopogppaaGreatDoorZUfF
import Derived.Test.YtgpemnmopogppaaGreatDoorZUrG
import Derived.BigQuiet
set_option maxRecDepth 1000000
set_option maxHeartbeats 16000000
namespace Go.Proofs.YtgpemnmopogppaaGreatDoor
open Held
open Go.Proofs.Tryz
open Go Go.RowKit
namespace Uf
open Dp
open Ut
open Url (decF)
def restQ (l : List UInt8) (a : Nat) : List (List UInt8) := if a ≤ l.length then splitL 38 (l.drop a) else []
theorem ext_mid (l u x v : List UInt8) (h : l = u ++ (x ++ v)) : (mkB l).extract u.length (u.length + x.length) = mkB x := by
 apply ByteArray.ext
 rw [← Array.toList_inj]
 subst h
 simp [mkB]
theorem ext_at {l x v : List UInt8} {a : Nat} (ha : a ≤ l.length) (h : l.drop a = x ++ v) : (mkB l).extract a (a + x.length) = mkB x := by
 have h1 := ext_mid l (l.take a) x v (by rw [← h, List.take_append_drop])
 rwa [List.length_take, Nat.min_eq_left ha] at h1
structure PieceAt (l : List UInt8) (a E : Nat) (p : List UInt8) : Prop where
 ge : a ≤ E
 le : E ≤ l.length
 len : a + p.length = E
 find : findAt l 38 a = (E : Int) ∨ findAt l 38 a < 0 ∧ E = l.length
 rest : restQ l a = p :: restQ l (E + 1)
 text : (mkB l).extract a E = mkB p
 pre : ∃ v, l.drop a = p ++ v
theorem piece_at (l : List UInt8) (a : Nat) (ha : a ≤ l.length) : ∃ E p, PieceAt l a E p := by
 by_cases hm : 38 ∈ l.drop a
 · obtain ⟨x, y, hxy, hx⟩ := Up.mem_split 38 _ hm
   have hc := cutL_at 38 x y hx
   rw [← hxy] at hc
   have hlen : l.length - a = x.length + (y.length + 1) := by rw [← List.length_drop, hxy]; simp
   refine ⟨a + x.length, x, by omega, by omega, rfl, .inl ?_, ?_, ext_at ha hxy, _, hxy⟩
   · unfold findAt; rw [if_pos hm, hc]
   · unfold restQ
     rw [if_pos ha, if_pos (by omega), hxy, splitL_app, splitL_one 38 x hx]
     have : l.drop (a + x.length + 1) = (l.drop a).drop (x.length + 1) := by rw [List.drop_drop]; congr 1
     rw [this, hxy]
     simp
 · refine ⟨l.length, l.drop a, ha, Nat.le_refl _, by rw [List.length_drop]; omega, .inr ⟨?_, rfl⟩, ?_, ?_, [], by simp⟩
   · unfold findAt; rw [if_neg hm]; decide
   · unfold restQ
     rw [if_pos ha, if_neg (by omega), splitL_one 38 _ hm]
   · have h1 := ext_at (x := l.drop a) (v := []) ha (by simp)
     rwa [List.length_drop, Nat.add_sub_cancel' ha] at h1
theorem parts_at {l : List UInt8} {a E : Nat} {p : List UInt8} (h : PieceAt l a E p) (ha : a ≤ l.length) :
  (∃ n : Nat, findAt p 61 0 = (n : Int) ∧ a + n + 1 ≤ E ∧ (mkB l).extract a (a + n) = mkB (cutL 61 p).1 ∧ (mkB l).extract (a + n + 1) E = mkB (cutL 61 p).2) ∨ (findAt p 61 0 < 0 ∧ cutL 61 p = (p, [])) := by
 obtain ⟨v, hv⟩ := h.pre
 by_cases hm : 61 ∈ p
 · obtain ⟨x, y, hxy, hx⟩ := Up.mem_split 61 _ hm
   have hc := cutL_at 61 x y hx
   rw [← hxy] at hc
   have hl := h.len
   have hl2 : p.length = x.length + (y.length + 1) := by rw [hxy]; simp
   refine .inl ⟨x.length, ?_, by omega, ?_, ?_⟩
   · unfold findAt; rw [List.drop_zero, if_pos hm, hc]; simp
   · rw [hc]
     exact ext_at (v := 61 :: y ++ v) ha (by rw [hv, hxy]; simp)
   · rw [hc]
     have h1 := ext_at (l := l) (x := y) (v := v) (a := a + x.length + 1) (by have := h.le; omega) (by
      have : l.drop (a + x.length + 1) = (l.drop a).drop (x.length + 1) := by rw [List.drop_drop]; congr 1
      rw [this, hv, hxy]
      simp)
     have e : a + x.length + 1 + y.length = E := by omega
     rwa [e] at h1
 · refine .inr ⟨by unfold findAt; rw [List.drop_zero, if_neg hm]; decide, ?_⟩
   have h1 := takeWhile_all 61 p hm
   unfold cutL
   rw [h1.1, h1.2]
   rfl
theorem restQ_all (l : List UInt8) : restQ l 0 = splitL 38 l := by unfold restQ; simp
theorem restQ_end (l : List UInt8) (a : Nat) (h : ¬ a ≤ l.length) : restQ l a = [] := if_neg h
structure RQSt (w W : World) (l : List UInt8) (a k : Nat) (G0 : GV) (nx : Int) (gs : List GI) (A : Option Addr) (c : Nat) : Prop where
 box : Blk W (w.heap.size + 1) 25 #[.int .i64 4, .int .i64 nx, .string ⟨#[]⟩, .slice A gs.length c]
 res : Blk W w.heap.size 25 #[.int .i64 0, .int .i64 0, .string ⟨#[]⟩, .slice none 0 0]
 own : VOwn W (.mk 4 nx ⟨#[]⟩ gs) (.agg #[.int .i64 4, .int .i64 nx, .string ⟨#[]⟩, .slice A gs.length c])
 ok : QOk (.mk 4 nx ⟨#[]⟩ gs)
 fin : queryF (restQ l a) k (.mk 4 nx ⟨#[]⟩ gs) = G0
 low : Below w.heap.size w W
theorem RQSt.under {w W W' : World} {l : List UInt8} {a k : Nat} {G0 : GV} {nx : Int} {gs : List GI} {A : Option Addr} {c : Nat} (h : RQSt w W l a k G0 nx gs A c) (hb : Below W.heap.size W W') : RQSt w W' l a k G0 nx gs A c :=
 ⟨blk_below h.box hb, blk_below h.res hb, h.own.under hb, h.ok, h.fin, h.low.trans (hb.mono h.low.size)⟩
theorem RQSt.skip {w W : World} {l : List UInt8} {a k E : Nat} {p : List UInt8} {G0 : GV} {nx : Int} {gs : List GI} {A : Option Addr} {c : Nat} (h : RQSt w W l a k G0 nx gs A c) (hp : PieceAt l a E p) (hs : p = [] ∨ 1000 ≤ k) : RQSt w W l (E + 1) k G0 nx gs A c :=
 ⟨h.box, h.res, h.own, h.ok, by rw [← h.fin, hp.rest, queryF_skip hs], h.low⟩
theorem RQSt.take_ {w wr w4 wf : World} {l : List UInt8} {a k E : Nat} {p : List UInt8} {G0 g : GV} {nx nx4 : Int} {gs l4 : List GI} {A A4 : Option Addr} {c c4 : Nat} (h : RQSt w wr l a k G0 nx gs A c) (hp : PieceAt l a E p)
  (hG : g = .mk 4 nx4 ⟨#[]⟩ l4) (hq : ∀ r, queryF (p :: r) k (.mk 4 nx ⟨#[]⟩ gs) = queryF r (k + 1) g) (hok : QOk g) (hb4 : Below wr.heap.size wr w4) (hy : VOwn w4 (.mk 4 nx4 ⟨#[]⟩ l4) (.agg #[.int .i64 4, .int .i64 nx4, .string ⟨#[]⟩, .slice A4 l4.length c4]))
  (hf : wf = (((w4.setCell ⟨w.heap.size + 1, 0, none⟩ (.int .i64 4)).setCell ⟨w.heap.size + 1, 1, none⟩ (.int .i64 nx4)).setCell ⟨w.heap.size + 1, 2, none⟩ (.string ⟨#[]⟩)).setCell ⟨w.heap.size + 1, 3, none⟩ (.slice A4 l4.length c4)) : RQSt w wf l (E + 1) (k + 1) G0 nx4 l4 A4 c4 := by
 subst hG
 have h' := h.under hb4
 obtain ⟨h1, h2⟩ := store4 h'.box (.int .i64 4) (.int .i64 nx4) (.string ⟨#[]⟩) (.slice A4 l4.length c4)
 rw [← hf] at h1 h2
 refine ⟨h1, h'.res.keeps h2 (by omega), hy.keeps h2 fun j e => ?_, hok, ?_, h'.low.trans (h2.below h'.low.size (fun j e => by omega))⟩
 · subst e
   exact ⟨_, _, h'.box, by decide⟩
 · rw [← h.fin, hp.rest, hq]
end Uf
open Go Go.RowKit
namespace Uf
open Dp
open Ut
open Url (decF)
theorem rquery_any (l : List UInt8) (hl : l.length ≤ 16777216) (w : World) :
  Calls prog 11 #[.string (mkB l)] w fun e w' => ∃ y, e = .returned y ∧ VOwn w' (queryG l) y ∧ Below w.heap.size w w' := by
 have hsz : ((w.alloc (.cells #[.int .i64 0, .int .i64 0, .string ⟨#[]⟩, .slice none 0 0] 25)).alloc (.cells #[.int .i64 4, .int .i64 0, .string ⟨#[]⟩, .slice none 0 0] 25)).heap.size = w.heap.size + 2 := by simp
 have hal := fun (w1 : World) (o : Obj) => (Below.refl w1.heap.size w1).alloc (Nat.le_refl _) o
 have HBa := lH ((hal w (.cells #[.int .i64 0, .int .i64 0, .string ⟨#[]⟩, .slice none 0 0] 25)).alloc (by simp) (.cells #[.int .i64 4, .int .i64 0, .string ⟨#[]⟩, .slice none 0 0] 25))
 have HZa := lH (blk_below (Blk.new w 25 #[.int .i64 0, .int .i64 0, .string ⟨#[]⟩, .slice none 0 0]) (hal _ (.cells #[.int .i64 4, .int .i64 0, .string ⟨#[]⟩, .slice none 0 0] 25)))
 have hx0 := Blk.new (w.alloc (.cells #[.int .i64 0, .int .i64 0, .string ⟨#[]⟩, .slice none 0 0] 25)) 25 #[.int .i64 4, .int .i64 0, .string ⟨#[]⟩, .slice none 0 0]
 rw [show (w.alloc (.cells #[.int .i64 0, .int .i64 0, .string ⟨#[]⟩, .slice none 0 0] 25)).heap.size = w.heap.size + 1 by simp] at hx0
 have HXa := lH hx0
 obtain ⟨G0, hG0⟩ : ∃ z, queryG l = z := ⟨_, rfl⟩
 rw [hG0]
 have HQ0 : Hid (RQSt w ((w.alloc (.cells #[.int .i64 0, .int .i64 0, .string ⟨#[]⟩, .slice none 0 0] 25)).alloc (.cells #[.int .i64 4, .int .i64 0, .string ⟨#[]⟩, .slice none 0 0] 25)) l 0 0 G0 0 [] none 0) :=
  ⟨HXa.out, HZa.out, .leaf _ _ _ _, .empty, by rw [restQ_all]; exact hG0, HBa.out⟩
 have HD := lH (fun (p : List UInt8) (hp : p.length ≤ 16777216) (wz : World) => show Calls prog 32 #[.string (mkB p)] wz fun e w' => e = .returned (.string (mkB (decF p))) ∧ Below wz.heap.size wz w' by
  have h := Url.rdec_any (mkB p) (by rw [mkB_size]; exact hp) wz
  rw [mkB_list] at h
  exact h)
 have HF := lH (fun (l : List UInt8) (hl : l.length ≤ 4611686018427387904) (c : UInt8) (i : Nat) (wz : World) => find_any l hl c i wz)
 have HPc := lH (piece_at l)
 have HPt := lH (fun (a E : Nat) (p : List UInt8) (h : PieceAt l a E p) (ha : a ≤ l.length) => parts_at h ha)
 have hzl := mkB_size l
 obtain ⟨S, hS⟩ : ∃ z, mkB l = z := ⟨_, rfl⟩
 have HFl := lH (fun (a : Nat) (wz : World) => HF.out l (by omega) 38 a wz)
 have HTx := lH (fun (a E : Nat) (p : List UInt8) (h : PieceAt l a E p) => h.text)
 rw [hS] at HFl HTx HPt hzl ⊢
 clear hG0 HBa HZa HXa hx0 hal hsz hS
 have HZ := lH hzl
 clear hzl
 go_enter func11, ntmps11
 go_upto_region 2 with fail
 generalize (w.alloc (.cells #[.int .i64 0, .int .i64 0, .string ⟨#[]⟩, .slice none 0 0] 25)).alloc (.cells #[.int .i64 4, .int .i64 0, .string ⟨#[]⟩, .slice none 0 0] 25) = wa at *
 go_wp2_with fail
 go_loopw [4, 5] (fun x4 x5 wx => ∃ (a k : Nat) (nx : Int) (gs : List GI) (A : Option Addr) (c : Nat), a ≤ l.length + 1 ∧ k ≤ a ∧ x5 = .int .i64 a ∧ x4 = .int .i64 k ∧ Hid (RQSt w wx l a k G0 nx gs A c)) (fun _ x5 _ => l.length + 1 - (ixO x5).toNat)
 case atStart => exact ⟨0, 0, 0, [], none, 0, Nat.zero_le _, Nat.le_refl _, rfl, rfl, HQ0⟩
 case round =>
  clear HQ0
  obtain ⟨a, k, nx, gs, A, c, haL, hka, rfl, rfl, HQ⟩ := hrel
  by_cases hlt : a ≤ l.length
  · obtain ⟨E, p, hP⟩ := HPc.out a hlt
    have HP := lH hP
    have HFa := lH (HFl.out a)
    have hfd := HP.out.find
    have HFd := lH hfd
    have hle : (a : Int) ≤ (S.size : Int) := by have := HZ.out; omega
    have haE := HP.out.ge
    have hEl := HP.out.le
    generalize findAt l 38 a = f0 at *
    clear hP HPc hfd
    go_upto_if 19 with (go_at_call 30; refine (HFa.out _).mono ?_; rintro e w1 ⟨rfl, rfl⟩)
    go_cut [6] from 20 to 21 (fun x6 wx => x6 = .int .i64 (E : Int) ∧ wr = wx)
    case first =>
     rcases HFd.out with hf | ⟨hf, he⟩
     · subst hf
       have h0 : decide ((E : Int) < 0) = false := decide_eq_false (by omega)
       go_wp2_with fail
       go_meet
       case rel => exact ⟨by trivial, by trivial⟩
     · have hES : E = S.size := by have := HZ.out; omega
       subst hES
       go_wp2_with fail
       go_meet
       case rel => exact ⟨by first | trivial | rw [HZ.out], by first | trivial | rfl⟩
    case rest =>
     obtain ⟨rfl, rfl⟩ := hcut
     clear HFd HFa HFl
     have hw1 : IntKind.i64.wrap ((E : Int) + 1) = ((E + 1 : Nat) : Int) := by rw [IntWalk.i64_in _ (by omega)]; omega
     by_cases hpE : a < E
     · have hgtI : (a : Int) < (E : Int) := by omega
       by_cases hk0 : k < 1000
       · have hkI : (k : Int) < 1000 := by omega
         have hwk : IntKind.i64.wrap ((k : Int) + 1) = ((k + 1 : Nat) : Int) := by rw [IntWalk.i64_in _ (by omega)]; omega
         have hTx := HTx.out a E p HP.out
         have haI : (0 : Int) ≤ (a : Int) := by omega
         have hplen := HP.out.len
         have hcl := cutL_le 61 p
         have HF2 := lH (HF.out p (by omega) 61 0)
         have hpt := lH (HPt.out a E p HP.out hlt)
         have hES : (E : Int) ≤ (S.size : Int) := by have := HZ.out; omega
         have haEI : (a : Int) ≤ (E : Int) := by omega
         generalize findAt p 61 0 = f2 at *
         clear HF HPt
         go_upto_if 38 with (go_at_call 30; refine (HF2.out _).mono ?_; rintro e w1 ⟨rfl, rfl⟩)
         go_cut [7, 8] from 39 to 51 (fun x7 x8 wx => x7 = .string (mkB (cutL 61 p).1) ∧ x8 = .string (mkB (cutL 61 p).2) ∧ ∃ nd, wx = wr.drewN nd)
         case first =>
          rcases hpt.out with ⟨n, hf, hnE, he1, he2⟩ | ⟨hf, hc⟩
          · subst hf
            have h0 : decide ((n : Int) < 0) = false := decide_eq_false (by omega)
            have h0' : (0 : Int) ≤ (n : Int) := by omega
            have hv1 : IntKind.i64.wrap ((a : Int) + (n : Int)) = ((a + n : Nat) : Int) := by rw [IntWalk.i64_in _ (by omega)]; omega
            have hv2 : IntKind.i64.wrap (((a + n : Nat) : Int) + 1) = ((a + n + 1 : Nat) : Int) := by rw [IntWalk.i64_in _ (by omega)]; omega
            have hb1 : (a : Int) ≤ ((a + n : Nat) : Int) := by omega
            have hb2 : ((a + n : Nat) : Int) ≤ (S.size : Int) := by omega
            have hb3 : ((a + n + 1 : Nat) : Int) ≤ (E : Int) := by omega
            clear HD HQ
            go_upto_region 13 with fail
            go_quiet (fail)
            go_wp2_with fail
            go_meet
            case rel => exact ⟨by rw [← he1], by rw [← he2], _, rfl⟩
          · have h0 : ¬ (0 : Int) ≤ f2 := by omega
            have hc1 : (cutL 61 p).1 = p := by rw [hc]
            have hc2 : mkB (cutL 61 p).2 = ⟨#[]⟩ := by rw [hc]; exact mkB_nil
            clear HD HQ hc
            go_wp2_with fail
            go_meet
            case rel => exact ⟨by rw [hc1], by rw [hc2], 0, rfl⟩
         case rest =>
          obtain ⟨rfl, rfl, nd, rfl⟩ := hcut
          have hn1 : (cutL 61 p).1.length ≤ 16777216 := by omega
          have hn2 : (cutL 61 p).2.length ≤ 16777216 := by omega
          have hdn := decF_le (cutL 61 p).1
          have hdt := decF_le (cutL 61 p).2
          have HX := lH HQ.out.box
          have hp0 : ¬ p = [] := fun e => by rw [e] at hplen; simp at hplen; omega
          have HQn := lH (And.intro (fun (r : List (List UInt8)) => queryF_take (p := p) (r := r) (k := k) (g := .mk 4 nx ⟨#[]⟩ gs) (fun h => h.elim hp0 (by omega))) (putQ_ok (name := decF (cutL 61 p).1) (text := decF (cutL 61 p).2) HQ.out.ok (by omega) (by omega)))
          have HPut : Hid (∀ wz, Below wr.heap.size wr wz → Calls prog 31 #[.agg #[.int .i64 4, .int .i64 nx, .string ⟨#[]⟩, .slice A gs.length c], .string (mkB (decF (cutL 61 p).1)), .string (mkB (decF (cutL 61 p).2))] wz fun e w2 => ∃ nx4 l4 A4 c4, putQ (decF (cutL 61 p).1) (decF (cutL 61 p).2) (.mk 4 nx ⟨#[]⟩ gs) = .mk 4 nx4 ⟨#[]⟩ l4 ∧ e = .returned (.tuple #[.agg #[.int .i64 4, .int .i64 nx4, .string ⟨#[]⟩, .slice A4 l4.length c4], .int .i64 0]) ∧ VOwn w2 (.mk 4 nx4 ⟨#[]⟩ l4) (.agg #[.int .i64 4, .int .i64 nx4, .string ⟨#[]⟩, .slice A4 l4.length c4]) ∧ Below wz.heap.size wz w2) := fun wz hz =>
           (rqput_any wz (HQ.out.under hz).own HQ.out.ok.wf _ _ (by omega) (by omega)).mono fun e w2 ⟨y, h1, h2, h3⟩ => by
            obtain ⟨nx4, l4, hG⟩ := HQn.out.2.list
            rw [hG] at h2
            obtain ⟨ps, A4, c4, rfl, rfl, ho, hv⟩ := h2.form
            exact ⟨nx4, ps.map PI.it, A4, c4, hG, by rw [List.length_map]; exact h1, by rw [List.length_map]; exact h2, h3⟩
          obtain ⟨⟨v0, v1, v2, v3⟩, -⟩ := z8 HX.out
          clear hdn hdt hcl hpt hTx
          generalize putQ (decF (cutL 61 p).1) (decF (cutL 61 p).2) (.mk 4 nx ⟨#[]⟩ gs) = GN at *
          generalize (cutL 61 p).1 = NA at *
          generalize (cutL 61 p).2 = TA at *
          have hk1 : k < 1000 := by omega
          go_upto_region 14 with fail
          refine wp_region_held_drew (S := (fun _ => True)) (by kernel_rfl) ?_ (fun hHeld => ?_)
          · trivial
          refine hdt (v := ?v1) op1 ?_
          try simp only [hdq]
          refine hdt (v := ?v2) op3 ?_
          try simp only [hdq]
          refine hdr2 op0 (fun K hK => ?_) op2 (fun K hK => ?_)
          · go_simp
            refine hK.out _ _ ?_ (fun hHeld => ?_)
            · exact trivial
            clear hK K
            try simp only [hdq]
            refine hdr1 op2 (fun K hK => ?_)
            go_simp
            go_at_call 32
            refine (HD.out _ (by assumption) _).mono ?_
            rintro e w2 ⟨rfl, hb2⟩
            have HB2 : Hid (Below wr.heap.size wr w2) := (drewN' (Below.refl wr.heap.size wr) (nd + 1)).trans hb2
            obtain ⟨⟨v0w2, v1w2, v2w2, v3w2⟩, -⟩ := z8 (HX.out.below HB2.out HX.out.lt)
            clear hb2
            try (go_wp2_with fail)
            refine hK.out _ _ ?_ (fun hHeld => ?_)
            · exact trivial
            clear hK K
            try simp only [hdq]
            refine hdr1 op4 (fun K hK => ?_)
            go_simp
            go_at_call 32
            refine (HD.out _ (by assumption) _).mono ?_
            rintro e w3 ⟨rfl, hb2⟩
            have HB3 : Hid (Below wr.heap.size wr w3) := HB2.out.trans (hb2.mono HB2.out.size)
            obtain ⟨⟨v0w3, v1w3, v2w3, v3w3⟩, -⟩ := z8 (HX.out.below HB3.out HX.out.lt)
            clear hb2
            try (go_wp2_with fail)
            refine hK.out _ _ ?_ (fun hHeld => ?_)
            · exact trivial
            clear hK K
            try simp only [hdq]
            refine hdr1 op5 (fun K hK => ?_)
            go_simp
            go_at_call 31
            refine (HPut.out w3 HB3.out).mono ?_
            rintro e w4 ⟨nx4, l4, A4, c4, hG4, rfl, hy4, hb4⟩
            have HB4 : Hid (Below wr.heap.size wr w4) := HB3.out.trans (hb4.mono HB3.out.size)
            have HX4 := lH (HX.out.below HB4.out HX.out.lt)
            have HY4 := lH hy4
            have HG4 := lH hG4
            have HS3 := lH hb4.size
            obtain ⟨⟨b0, b1, b2, b3⟩, bf0, bf1, bf2, bf3⟩ := z8 HX4.out
            clear hy4 hb4 hG4
            try (go_wp2_with fail)
            refine hK.out _ _ ?_ (fun hHeld => ?_)
            · exact trivial
            clear hK K
            try simp only [hdq]
            refine hdt (v := ?v3) op6 ?_
            try simp only [hdq]
            refine hdt (v := ?v4) op7 ?_
            try simp only [hdq]
            refine hdt (v := ?v5) op8 ?_
            try simp only [hdq]
            refine hdr1 op9 (fun K hK => ?_)
            go_simp
            refine hK.out _ _ ?_ (fun hHeld => ?_)
            · exact trivial
            clear hK K
            try simp only [hdq]
            refine wpAnyH_done (by kernel_rfl) ?_ _
            go_wp2_with fail
            go_roundw
            case rel => exact ⟨E + 1, k + 1, nx4, l4, A4, c4, by omega, by omega, by trivial, by trivial, HQ.out.take_ HP.out HG4.out HQn.out.1 HQn.out.2 HB4.out HY4.out rfl⟩
            case measure => simp [ixO] <;> omega
          · go_simp
            go_at_call 32
            refine (HD.out _ (by assumption) _).mono ?_
            rintro e w2 ⟨rfl, hb2⟩
            have HB2 : Hid (Below wr.heap.size wr w2) := (drewN' (Below.refl wr.heap.size wr) (nd + 1)).trans hb2
            obtain ⟨⟨v0w2, v1w2, v2w2, v3w2⟩, -⟩ := z8 (HX.out.below HB2.out HX.out.lt)
            clear hb2
            try (go_wp2_with fail)
            refine hK.out _ _ ?_ (fun hHeld => ?_)
            · exact trivial
            clear hK K
            try simp only [hdq]
            refine hdr2 op0 (fun K hK => ?_) op4 (fun K hK => ?_)
            · go_simp
              refine hK.out _ _ ?_ (fun hHeld => ?_)
              · exact trivial
              clear hK K
              try simp only [hdq]
              refine hdr1 op4 (fun K hK => ?_)
              go_simp
              go_at_call 32
              refine (HD.out _ (by assumption) _).mono ?_
              rintro e w3 ⟨rfl, hb2⟩
              have HB3 : Hid (Below wr.heap.size wr w3) := HB2.out.trans (hb2.mono HB2.out.size)
              obtain ⟨⟨v0w3, v1w3, v2w3, v3w3⟩, -⟩ := z8 (HX.out.below HB3.out HX.out.lt)
              clear hb2
              try (go_wp2_with fail)
              refine hK.out _ _ ?_ (fun hHeld => ?_)
              · exact trivial
              clear hK K
              try simp only [hdq]
              refine hdr1 op5 (fun K hK => ?_)
              go_simp
              go_at_call 31
              refine (HPut.out w3 HB3.out).mono ?_
              rintro e w4 ⟨nx4, l4, A4, c4, hG4, rfl, hy4, hb4⟩
              have HB4 : Hid (Below wr.heap.size wr w4) := HB3.out.trans (hb4.mono HB3.out.size)
              have HX4 := lH (HX.out.below HB4.out HX.out.lt)
              have HY4 := lH hy4
              have HG4 := lH hG4
              have HS3 := lH hb4.size
              obtain ⟨⟨b0, b1, b2, b3⟩, bf0, bf1, bf2, bf3⟩ := z8 HX4.out
              clear hy4 hb4 hG4
              try (go_wp2_with fail)
              refine hK.out _ _ ?_ (fun hHeld => ?_)
              · exact trivial
              clear hK K
              try simp only [hdq]
              refine hdt (v := ?v6) op6 ?_
              try simp only [hdq]
              refine hdt (v := ?v7) op7 ?_
              try simp only [hdq]
              refine hdt (v := ?v8) op8 ?_
              try simp only [hdq]
              refine hdr1 op9 (fun K hK => ?_)
              go_simp
              refine hK.out _ _ ?_ (fun hHeld => ?_)
              · exact trivial
              clear hK K
              try simp only [hdq]
              refine wpAnyH_done (by kernel_rfl) ?_ _
              go_wp2_with fail
              go_roundw
              case rel => exact ⟨E + 1, k + 1, nx4, l4, A4, c4, by omega, by omega, by trivial, by trivial, HQ.out.take_ HP.out HG4.out HQn.out.1 HQn.out.2 HB4.out HY4.out rfl⟩
              case measure => simp [ixO] <;> omega
            · go_simp
              go_at_call 32
              refine (HD.out _ (by assumption) _).mono ?_
              rintro e w3 ⟨rfl, hb2⟩
              have HB3 : Hid (Below wr.heap.size wr w3) := HB2.out.trans (hb2.mono HB2.out.size)
              obtain ⟨⟨v0w3, v1w3, v2w3, v3w3⟩, -⟩ := z8 (HX.out.below HB3.out HX.out.lt)
              clear hb2
              try (go_wp2_with fail)
              refine hK.out _ _ ?_ (fun hHeld => ?_)
              · exact trivial
              clear hK K
              try simp only [hdq]
              refine hdr1 op0 (fun K hK => ?_)
              go_simp
              refine hK.out _ _ ?_ (fun hHeld => ?_)
              · exact trivial
              clear hK K
              try simp only [hdq]
              refine hdr1 op5 (fun K hK => ?_)
              go_simp
              go_at_call 31
              refine (HPut.out w3 HB3.out).mono ?_
              rintro e w4 ⟨nx4, l4, A4, c4, hG4, rfl, hy4, hb4⟩
              have HB4 : Hid (Below wr.heap.size wr w4) := HB3.out.trans (hb4.mono HB3.out.size)
              have HX4 := lH (HX.out.below HB4.out HX.out.lt)
              have HY4 := lH hy4
              have HG4 := lH hG4
              have HS3 := lH hb4.size
              obtain ⟨⟨b0, b1, b2, b3⟩, bf0, bf1, bf2, bf3⟩ := z8 HX4.out
              clear hy4 hb4 hG4
              try (go_wp2_with fail)
              refine hK.out _ _ ?_ (fun hHeld => ?_)
              · exact trivial
              clear hK K
              try simp only [hdq]
              refine hdt (v := ?v9) op6 ?_
              try simp only [hdq]
              refine hdt (v := ?v10) op7 ?_
              try simp only [hdq]
              refine hdt (v := ?v11) op8 ?_
              try simp only [hdq]
              refine hdr1 op9 (fun K hK => ?_)
              go_simp
              refine hK.out _ _ ?_ (fun hHeld => ?_)
              · exact trivial
              clear hK K
              try simp only [hdq]
              refine wpAnyH_done (by kernel_rfl) ?_ _
              go_wp2_with fail
              go_roundw
              case rel => exact ⟨E + 1, k + 1, nx4, l4, A4, c4, by omega, by omega, by trivial, by trivial, HQ.out.take_ HP.out HG4.out HQn.out.1 HQn.out.2 HB4.out HY4.out rfl⟩
              case measure => simp [ixO] <;> omega
       · have hkI : ¬ (k : Int) < 1000 := by omega
         have HN := lH (HQ.out.skip HP.out (.inr (by omega)))
         clear HQ HD HF HPt
         go_wp2_with fail
         go_roundw
         case rel => exact ⟨E + 1, k, nx, gs, A, c, by omega, by omega, by trivial, by trivial, HN⟩
         case measure => simp [ixO] <;> omega
     · have hgtI : ¬ (a : Int) < (E : Int) := by omega
       have HN := lH (HQ.out.skip HP.out (.inl (List.eq_nil_of_length_eq_zero (by have := HP.out.len; omega))))
       clear HQ HD HF HPt
       go_wp2_with fail
       go_roundw
       case rel => exact ⟨E + 1, k, nx, gs, A, c, by omega, by omega, by trivial, by trivial, HN⟩
       case measure => simp [ixO] <;> omega
  · have hgt : ¬ (a : Int) ≤ (S.size : Int) := by have := HZ.out; omega
    have hfin : G0 = .mk 4 nx ⟨#[]⟩ gs := by
     have := HQ.out.fin
     rw [restQ_end l a hlt, queryF] at this
     exact this.symm
    subst hfin
    obtain ⟨⟨v0, v1, v2, v3⟩, -⟩ := z8 HQ.out.box
    obtain ⟨⟨z0, z1, z2, z3⟩, zf0, zf1, zf2, zf3⟩ := z8 HQ.out.res
    have HFi := lH (fin_own (wf := _) HQ.out.res HQ.out.own HQ.out.low (Nat.le_refl _) HQ.out.low.size rfl)
    clear HQ HD HF HPt HFl
    go_wp2_with fail
    generalize (((wr.setCell ⟨w.heap.size, 0, none⟩ (.int .i64 4)).setCell ⟨w.heap.size, 1, none⟩ (.int .i64 nx)).setCell ⟨w.heap.size, 2, none⟩ (.string ⟨#[]⟩)).setCell ⟨w.heap.size, 3, none⟩ (.slice A gs.length c) = wf at *
    obtain ⟨⟨e0, e1, e2, e3⟩, -⟩ := z8 HFi.out.1
    refine bodyPost_ret (v := .agg #[.int .i64 4, .int .i64 nx, .string ⟨#[]⟩, .slice A gs.length c]) (by simp [results, results11, go_sem, e0, e1, e2, e3]) rfl ?_
    exact ⟨_, rfl, HFi.out.2⟩
end Uf
end Go.Proofs.YtgpemnmopogppaaGreatDoor
