import Derived.Test.YtgpemnmopogppaaGreatDoorZUsEQ
import Derived.Test.YtgpemnmopogppaaGreatDoorZRhAQ
import Derived.Test.YtgpemnmopogppaaGreatDoorZUtO
import Derived.Deep.RegionHeld3
set_option maxRecDepth 1000000
set_option maxHeartbeats 16000000
namespace Go.Proofs.YtgpemnmopogppaaGreatDoor
open Held
open Go.Proofs.Tryz
open Go Go.RowKit
namespace Rl
open Dp
open Us (PK LstP ownL setP turnL encT rowQ_cells all1_in RowQ)
open Ut (KZ range_Z store4 z8 ixO)
attribute [local go_sem] Oper.semAt_some
def svI (m p y : ByteArray) (us : List (ByteArray × ByteArray)) (i : Nat) : List PK × Int := ((firstL m p y) ++ (us.take i).map headU).foldl stepP ([], 0)
theorem svI_succ (m p y : ByteArray) (us : List (ByteArray × ByteArray)) (i : Nat) (h : i < us.length) : svI m p y us (i + 1) = stepP (svI m p y us i) (headU (us.getD i default)) := by
 unfold svI
 rw [List.take_succ_eq_append_getElem h, List.map_append, ← List.append_assoc, List.foldl_append, show us.getD i default = us[i] by simp [h]]
 rfl
theorem svI_zero (m p y : ByteArray) (us : List (ByteArray × ByteArray)) : svI m p y us 0 = stepP (stepP (stepP (stepP ([], 0) (nMethod, m)) (nUri, targetB p y)) (nQuery, y)) (nScript, p) := rfl
theorem svI_all (m p y : ByteArray) (us : List (ByteArray × ByteArray)) : svI m p y us us.length = serverP m p y us := by unfold svI serverP; rw [List.take_length]
theorem mapK_zero (f : UInt8 → UInt8) (s : List UInt8) : mapK f s 0 = s := by simp [mapK]
theorem z10 {w : World} {b : Nat} {t : TypeId} {a0 a1 a2 a3 a4 : Value} (h : Blk w b t #[a0, a1, a2, a3, a4]) : (w.cell? ⟨b, 0, none⟩ = some a0 ∧ w.cell? ⟨b, 1, none⟩ = some a1 ∧ w.cell? ⟨b, 2, none⟩ = some a2 ∧ w.cell? ⟨b, 3, none⟩ = some a3 ∧ w.cell? ⟨b, 4, none⟩ = some a4) ∧ True := ⟨⟨h.cell 0, h.cell 1, h.cell 2, h.cell 3, h.cell 4⟩, trivial⟩
section
variable (rm rp ry rb : ByteArray) (A0 : Option Addr) (c0 : Nat) (us : List (ByteArray × ByteArray))
theorem server_any (w : World) (hA : PairsAt w w.heap.size A0 us) (hn : us.length ≤ 4194304) (hz : ∀ k, (us.getD k default).1.size ≤ 16777216 ∧ (us.getD k default).2.size ≤ 16777216) (hp : rp.size ≤ 16777216) (hy : ry.size ≤ 16777216) (hL : LibS w) :
  Calls prog 45 #[.agg #[.string rm, .string rp, .string ry, .slice A0 us.length c0, .string rb]] w fun e w' => ∃ y, e = .returned y ∧ VIn w' (fun b => w.heap.size ≤ b ∧ b < w'.heap.size) (serverG rm rp ry us) y ∧ Below w.heap.size w w' := by
 have HLib := lH (fun wz (hb : Below w.heap.size w wz) => hL.below hb)
 have hal := fun (w1 : World) (o : Obj) => (Below.refl w1.heap.size w1).alloc (Nat.le_refl _) o
 have HAL := lH hal
 obtain ⟨wb, hwb⟩ : ∃ z, (w.alloc (.cells #[.string rm, .string rp, .string ry, .slice A0 us.length c0, .string rb] 43)).alloc (.cells #[.int .i64 0, .int .i64 0, .string ⟨#[]⟩, .slice none 0 0] 25) = z := ⟨_, rfl⟩
 have HQb : Hid (Blk wb w.heap.size 43 #[.string rm, .string rp, .string ry, .slice A0 us.length c0, .string rb] ∧ Blk wb (w.heap.size + 1) 25 #[.int .i64 0, .int .i64 0, .string ⟨#[]⟩, .slice none 0 0] ∧ Below w.heap.size w wb ∧ wb.heap.size = w.heap.size + 2) := by
  subst hwb
  have h1 := Blk.new w 43 #[.string rm, .string rp, .string ry, .slice A0 us.length c0, .string rb]
  have h2 := Blk.new (w.alloc (.cells #[.string rm, .string rp, .string ry, .slice A0 us.length c0, .string rb] 43)) 25 #[.int .i64 0, .int .i64 0, .string ⟨#[]⟩, .slice none 0 0]
  rw [World.size_alloc] at h2
  exact ⟨h1.alloc _, h2, (hal w _).alloc (by simp only [World.size_alloc]; omega) _, by simp⟩
 have HNw : Hid (Calls prog 83 #[] wb fun e w' => e = .returned (.pointer (some ⟨w.heap.size + 3, 0, none⟩)) ∧ LstP w' (w.heap.size + 3) (w.heap.size + 2) false (.slice none 0 0) [] 0 ∧ Below wb.heap.size wb w' ∧ w'.heap.size = w.heap.size + 4) := (Us.new_any wb).mono fun e w' ⟨h1, h2, h3, h4⟩ => by
  rw [HQb.out.2.2.2] at h1 h2 h4
  exact ⟨h1, h2, h3, h4⟩
 have Hwb := lH hwb
 have HPa := lH (fun wz (hb : Below w.heap.size w wz) => hA.below' hb)
 have HZ := lH hz
 have HTg := lH (fun wz => target_any rm rp ry rb A0 us.length c0 wz (by omega) (by omega))
 have HSet : Hid (∀ (w1 : World) (st : List PK × Int), SvW w w1 #[.string rm, .string rp, .string ry, .slice A0 us.length c0, .string rb] st → ∀ u : ByteArray × ByteArray, u.1.size ≤ 140737488351232 → Calls prog 84 #[.string u.1, .string u.2, .pointer (some ⟨w.heap.size + 4, 0, none⟩)] w1 fun e w2 => ∃ v, e = .returned v ∧ SvW w w2 #[.string rm, .string rp, .string ry, .slice A0 us.length c0, .string rb] (stepP st u)) := fun w1 st hS u hu =>
  (setc_any (fun w2 h2 => hL.below h2) w1 hS.low hS.low.size hS.lst (by have := hS.big; omega) u hu).mono fun e w2 ⟨⟨v, h1⟩, h2, h3⟩ => ⟨v, h1, hS.set h2 h3⟩
 obtain ⟨GS, hGS⟩ : ∃ z, serverG rm rp ry us = z := ⟨_, rfl⟩
 rw [hGS]
 have HGS := lH hGS
 clear hal hwb hA hz hL hGS
 refine (callsIn_wide (n := 6)).1 ?_
 refine callsIn_of_wp_marks func45 rfl trivial ?_ rfl
 simp only [ntmps45, List.size_toArray, List.length_cons, List.length_nil, Nat.reduceAdd, Nat.reduceSub, Array.replicate_succ, Array.replicate_zero, List.push_toArray, List.append_toArray, List.nil_append, List.cons_append]
 refine wpIn_wide.2 ?_
 go_upto_region 1 with fail
 rw [Hwb.out]
 clear Hwb
 go_upto_region 2 with (go_at_call 83; refine HNw.out.mono ?_; rintro e wx ⟨rfl, hl, hb, hs⟩; have HL0 := lH hl; have HB0 := lH hb; have HS0 := lH hs; clear hl hb hs)
 rw [HS0.out]
 have HW0 : Hid (SvW w (wx.alloc (.cells #[.pointer (some ⟨w.heap.size + 3, 0, none⟩)] 119)) #[.string rm, .string rp, .string ry, .slice A0 us.length c0, .string rb] ([], 0)) := by
  have hb1 := HAL.out wx (.cells #[.pointer (some ⟨w.heap.size + 3, 0, none⟩)] 119)
  have hx := Blk.new wx 119 #[.pointer (some ⟨w.heap.size + 3, 0, none⟩)]
  rw [HS0.out] at hx
  have hbw : Below w.heap.size w wx := HQb.out.2.2.1.trans (HB0.out.mono (by have := HQb.out.2.2.2; omega))
  refine ⟨blk_below (blk_below HQb.out.1 HB0.out) hb1, blk_below (blk_below HQb.out.2.1 HB0.out) hb1, ⟨⟨w.heap.size + 3, w.heap.size + 2, _, hx, HL0.out.below hb1, ?_⟩, by simp, z64⟩, hbw.trans (hb1.mono hbw.size)⟩
  rintro j (rfl | rfl | h)
  · omega
  · omega
  · simp [Value.ownBlock] at h
 generalize wx.alloc (.cells #[.pointer (some ⟨w.heap.size + 3, 0, none⟩)] 119) = w0 at *
 clear HL0 HB0 HS0 HNw HQb
 have d0 : w0.cell? ⟨w.heap.size, 0, none⟩ = some (.string rm) := HW0.out.req.cell 0
 have hin := setc_in #[.string nMethod, .string rm, .pointer (some ⟨w.heap.size + 4, 0, none⟩)] w0
 go_wp2_with fail
 refine (HSet.out w0 _ HW0.out (nMethod, rm) (show nMethod.size ≤ 140737488351232 by decide)).mono ?_
 rintro e w1 ⟨v1, rfl, hS⟩
 have HW1 := lH hS
 clear hS hin HW0 d0
 obtain ⟨⟨d0, d1, d2, d3, d4⟩, -⟩ := z10 HW1.out.req
 go_upto_region 4 with fail
 go_wp2_with (go_at_call 86; refine (HTg.out w1).mono ?_; rintro e w2 ⟨v, rfl, rfl, hb⟩; have HW2 := lH (HW1.out.below hb); clear hb)
 refine (HSet.out w2 _ HW2.out (nUri, targetB rp ry) (show nUri.size ≤ 140737488351232 by decide)).mono ?_
 rintro e w3 ⟨v2, rfl, hS⟩
 have HW3 := lH hS
 clear hS HW2 HW1 d0 d1 d2 d3 d4
 have d2 : w3.cell? ⟨w.heap.size, 2, none⟩ = some (.string ry) := HW3.out.req.cell 2
 have hin := setc_in #[.string nQuery, .string ry, .pointer (some ⟨w.heap.size + 4, 0, none⟩)] w3
 go_wp2_with fail
 refine (HSet.out w3 _ HW3.out (nQuery, ry) (show nQuery.size ≤ 140737488351232 by decide)).mono ?_
 rintro e w4 ⟨v3, rfl, hS⟩
 have HW4 := lH hS
 clear hS hin HW3 d2
 have d1 : w4.cell? ⟨w.heap.size, 1, none⟩ = some (.string rp) := HW4.out.req.cell 1
 have hin := setc_in #[.string nScript, .string rp, .pointer (some ⟨w.heap.size + 4, 0, none⟩)] w4
 go_wp2_with fail
 refine (HSet.out w4 _ HW4.out (nScript, rp) (show nScript.size ≤ 140737488351232 by decide)).mono ?_
 rintro e w5 ⟨v4, rfl, hS⟩
 have HW5 := lH hS
 clear hS hin HW4 d1 HTg
 rw [← svI_zero rm rp ry us] at HW5
 have d3 : w5.cell? ⟨w.heap.size, 3, none⟩ = some (.slice A0 us.length c0) := HW5.out.req.cell 3
 go_wp2_with fail
 clear d3
 go_loopw [34] (fun x34 wx => ∃ i : Nat, i ≤ us.length ∧ x34 = .int .i64 i ∧ Hid (SvW w wx #[.string rm, .string rp, .string ry, .slice A0 us.length c0, .string rb] (svI rm rp ry us i))) (fun x34 _ => us.length - (ixO x34).toNat)
 case atStart => exact ⟨0, Nat.zero_le _, rfl, HW5⟩
 case round =>
  clear HW5
  rename World => wo
  obtain ⟨i, hi, rfl, HQ⟩ := hrel
  by_cases hlt : i < us.length
  · have hlt' : (i : Int) < (us.length : Int) := by omega
    obtain ⟨ab, ao, hA0, hab, hcs⟩ := HPa.out wo HQ.out.low (by omega)
    subst hA0
    obtain ⟨hc1, hc2⟩ := hcs i hlt
    obtain ⟨hz1, hz2⟩ := HZ.out i
    have HSu := lH (svI_succ rm rp ry us i hlt)
    clear hcs
    generalize us.getD i default = u at *
    obtain ⟨un, uv⟩ := u
    dsimp only at *
    obtain ⟨V, hV⟩ : ∃ V, un = ⟨V.toArray⟩ := ⟨un.data.toList, by simp⟩
    subst hV
    have hz3 : V.length ≤ 16777216 := by simpa [ByteArray.size] using hz1
    have hcat : (⟨#[72, 84, 84, 80, 95]⟩ : ByteArray) ++ ⟨V.toArray⟩ = ⟨(httpL ++ V).toArray⟩ := by
     apply ByteArray.ext
     simp [httpL]
    have g1 : ¬ 9223372036854775807 < 5 + (⟨V.toArray⟩ : ByteArray).size := by simp [ByteArray.size]; omega
    have hbp := HAL.out wo (.cells #[.string ⟨V.toArray⟩, .string uv] 48)
    have HBp := lH hbp
    have HKp := lH (Blk.new wo 48 #[.string ⟨V.toArray⟩, .string uv])
    have HCat := lH hcat
    clear hbp hcat
    go_upto_region 10 with fail
    generalize wo.alloc (.cells #[.string ⟨V.toArray⟩, .string uv] 48) = wp at *
    have p0 : wp.cell? ⟨wo.heap.size, 0, none⟩ = some (.string ⟨V.toArray⟩) := HKp.out.cell 0
    have hcv := run_bytes_of_string (P := prog) wp 9 71 5 (⟨#[72, 84, 84, 80, 95]⟩ ++ ⟨V.toArray⟩) underlying9 underlying71 underlying5
    have hds : ((⟨#[72, 84, 84, 80, 95]⟩ : ByteArray) ++ ⟨V.toArray⟩).data.toList = httpL ++ V := by rw [HCat.out]
    have hsz : ((⟨#[72, 84, 84, 80, 95]⟩ : ByteArray) ++ ⟨V.toArray⟩).size = 5 + V.length := by rw [HCat.out]; simp [ByteArray.size, httpL]; omega
    have hs0 := small_start wp (⟨#[72, 84, 84, 80, 95]⟩ ++ ⟨V.toArray⟩)
    rw [hds, hsz] at hs0
    have HS0 := lH hs0
    clear hds hsz hs0
    go_upto_region 11 with fail
    obtain ⟨ic, hic⟩ : ∃ z, grownCap wp (5 + V.length) 0 5 = z := ⟨_, rfl⟩
    rw [hic] at HS0 ⊢
    generalize (wp.alloc (.cells (bytesRow (⟨#[72, 84, 84, 80, 95]⟩ ++ ⟨V.toArray⟩) ic) 5 ((bytesRow (⟨#[72, 84, 84, 80, 95]⟩ ++ ⟨V.toArray⟩) ic).size, (bytesRow (⟨#[72, 84, 84, 80, 95]⟩ ++ ⟨V.toArray⟩) ic).size + 1))).drew = wi at *
    clear hcv hic p0 g1 HCat
    obtain ⟨L, hLL⟩ : ∃ z, httpL ++ V = z := ⟨_, rfl⟩
    have hLn : L.length = 5 + V.length := by rw [← hLL]; simp [httpL]; omega
    have HLn := lH hLn
    have HLu : Hid (L.map upC = headN V) := by show L.map upC = headN V; rw [← hLL]; exact http_up V
    have HLd : Hid (∀ (j : Nat) (h : j < L.length), (L[j]).toNat = 45 → 4 < j) := by subst hLL; exact fun j h hd => http_dash V j h hd
    rw [hLL, ← mapK_zero upC L] at HS0
    clear hLL hLn
    have hLI : ((5 + V.length : Nat) : Int) = (L.length : Int) := by have := HLn.out; omega
    go_wp2_with fail
    go_loopw [44] (fun x44 wx => ∃ k : Nat, k ≤ L.length ∧ x44 = .int .i64 k ∧ Hid (SmallAt wp (mapK upC L k) wx)) (fun x44 _ => L.length - (ixO x44).toNat)
    case atStart => exact ⟨0, Nat.zero_le _, rfl, HS0⟩
    case round =>
     clear HS0
     obtain ⟨k, hk, rfl, H⟩ := hrel
     by_cases hkl : k < L.length
     · obtain ⟨c0, f0⟩ := H.out.cell k (by rw [mapK_len]; exact hkl)
       rw [mapK_at upC L k hkl] at c0
       have HN := lH (mapK_succ upC L k hkl)
       have HE := lH (mapK_same upC L k hkl)
       have Hd := lH (HLd.out k hkl)
       have hkI : (k : Int) < (L.length : Int) := by omega
       have hkJ : (k : Int) < 5 + (V.length : Int) := by have := HLn.out; omega
       generalize L[k] = c at *
       have hc1 := c.toNat_lt
       have hc2 : (c.toNat : Int) ≤ 255 := by omega
       clear HLd HLu hLI hkl
       by_cases h97 : 97 ≤ c.toNat
       · have h97I : (97 : Int) ≤ (c.toNat : Int) := by omega
         by_cases h122 : c.toNat ≤ 122
         · have h122I : (c.toNat : Int) ≤ 122 := by omega
           have h2 := H.out.set_ k (upC c)
           rw [up_small h97 h122] at h2
           have H2 := lH h2
           clear h2 HE Hd h97 h122
           go_wp2_with fail
           go_roundw
           case rel => exact ⟨k + 1, by omega, by go_num, by rw [HN.out]; exact H2.out⟩
           case measure => simp [ixO] <;> omega
         · have h122I : ¬ (c.toNat : Int) ≤ 122 := by omega
           have h45I : ((c.toNat : Int) == 45) = false := by rw [beq_eq_false_iff_ne]; omega
           have HN2 : Hid (mapK upC L (k + 1) = mapK upC L k) := HE.out (up_other (by omega) (by omega))
           clear HE HN Hd h97 h122
           go_wp2_with fail
           go_roundw
           case rel => exact ⟨k + 1, by omega, by go_num, by rw [HN2.out]; exact H.out⟩
           case measure => simp [ixO] <;> omega
       · have h97I : ¬ (97 : Int) ≤ (c.toNat : Int) := by omega
         by_cases h45 : c.toNat = 45
         · have hx : (c.toNat : Int) = 45 := by omega
           have h4 : (4 : Int) < (k : Int) := by have := Hd.out h45; omega
           have H2 : Hid (SmallAt wp ((mapK upC L k).set k 95) (wr.setCell ⟨wp.heap.size, k, none⟩ (.int .u8 95))) := H.out.set_ k 95
           rw [up_dash h45] at HN
           clear HE Hd h97 h45
           go_wp2_with fail
           go_roundw
           case rel => exact ⟨k + 1, by omega, by go_num, by rw [HN.out]; exact H2.out⟩
           case measure => simp [ixO] <;> omega
         · have h45I : ((c.toNat : Int) == 45) = false := by rw [beq_eq_false_iff_ne]; omega
           have HN2 : Hid (mapK upC L (k + 1) = mapK upC L k) := HE.out (up_other (by omega) (by omega))
           clear HE HN Hd h97 h45
           go_wp2_with fail
           go_roundw
           case rel => exact ⟨k + 1, by omega, by go_num, by rw [HN2.out]; exact H.out⟩
           case measure => simp [ixO] <;> omega
     · obtain rfl : k = L.length := by omega
       have hcb := fun cap => run_convert_bytes_back (P := prog) wr 71 9 5 ⟨wp.heap.size, 0, none⟩ cap (headN V) underlying71 underlying5 underlying9 (fun j hj => by
        have hl : (headN V).length = L.length := by rw [← HLu.out, List.length_map]
        have h1 := (H.out.cell j (by rw [mapK_len]; omega)).1
        have h2 : (mapK upC L L.length)[j]'(by rw [mapK_len]; omega) = (headN V)[j]'hj := by
         have e : mapK upC L L.length = headN V := by rw [mapK_all]; exact HLu.out
         simp only [e]
        rw [h2] at h1
        rw [show (⟨wp.heap.size, 0, none⟩ : Addr).add j = ⟨wp.heap.size, j, none⟩ by unfold Addr.add; split <;> simp_all]
        exact h1)
       have hlen : (headN V).length = 5 + V.length := by rw [← HLu.out, List.length_map, HLn.out]
       rw [hlen] at hcb
       have hhn : (headU (⟨V.toArray⟩, uv)) = (⟨(headN V).toArray⟩, uv) := by simp [headU]
       rw [hhn] at HSu
       have hhs : (⟨(headN V).toArray⟩ : ByteArray).size = 5 + V.length := by simp [ByteArray.size, hlen]
       have HLow := lH (HBp.out.trans (H.out.low.mono HBp.out.size))
       have HKr := lH (blk_below HKp.out H.out.low)
       have HQr := lH (HQ.out.below HLow.out)
       have q1 : wr.cell? ⟨wo.heap.size, 1, none⟩ = some (.string uv) := HKr.out.cell 1
       have HHs := lH hhs
       clear hlen hhn hhs H HLu HLd HLn hLI
       generalize (⟨(headN V).toArray⟩ : ByteArray) = HB at *
       have hin := setc_in #[.string HB, .string uv, .pointer (some ⟨w.heap.size + 4, 0, none⟩)] wr
       go_wp2_with fail
       refine (HSet.out wr _ HQr.out (HB, uv) (by have := HHs.out; show HB.size ≤ _; omega)).mono ?_
       rintro e w6 ⟨v6, rfl, hS⟩
       have HW6 := lH hS
       rw [← HSu.out] at HW6
       clear hS hin hcb q1
       go_wp2_with fail
       go_roundw
       case rel => exact ⟨i + 1, by omega, by go_num, HW6⟩
       case measure => simp [ixO] <;> omega
  · obtain rfl : i = us.length := by omega
    rw [svI_all] at HQ
    have hG := HGS.out
    unfold serverG at hG
    obtain ⟨st, hst⟩ : ∃ z, serverP rm rp ry us = z := ⟨_, rfl⟩
    rw [hst] at HQ hG
    clear hst HSet HPa HZ hlt HGS
    obtain ⟨⟨b, mb, sv, hbx, hL, hown⟩, hlen, hin64⟩ := HQ.out.lst
    obtain ⟨ps, nx⟩ := st
    dsimp only at hL hlen hin64
    obtain rfl : stG (ps, nx) = GS := hG
    have hbig := HQ.out.big
    have t0 : wo.cell? ⟨w.heap.size + 4, 0, none⟩ = some (.pointer (some ⟨b, 0, none⟩)) := hbx.cell 0
    have HNx := lH (Us.next_any wo b nx hL.cells.1 hL.cells.2.2.2.2)
    obtain ⟨w7, hw7⟩ : ∃ z, wo.alloc (.cells #[.int .i64 4, .int .i64 nx, .string ⟨#[]⟩, .slice none 0 0] 25) = z := ⟨_, rfl⟩
    have hb7 : Below wo.heap.size wo w7 := by rw [← hw7]; exact HAL.out wo _
    have h7s : w7.heap.size = wo.heap.size + 1 := by rw [← hw7]; simp
    have HV7 : Hid (Blk w7 wo.heap.size 25 #[.int .i64 4, .int .i64 nx, .string ⟨#[]⟩, .slice none 0 0]) := by rw [← hw7]; exact Blk.new wo _ _
    have HW7 := lH hw7
    have HL7 := lH (hL.below hb7)
    have HBx7 := lH (blk_below hbx hb7)
    have HR7 := lH (blk_below HQ.out.res hb7)
    have HB7 := lH (HQ.out.low.trans (hb7.mono HQ.out.low.size))
    have HOwn := lH hown
    have hbn : w.heap.size + 2 ≤ b := hown b (.inl rfl)
    have hbl : b < wo.heap.size := hL.blk.lt
    have HAl := lH (Us.all_any w7 b)
    have hCFr : ∀ g, sv.ownBlock = some g → ¬ (fun _ : Nat => False) g := fun _ _ h => h
    clear hw7 hL hbx hown hb7 HQ
    go_upto_region 22 with (go_at_call 87; refine HNx.out.mono ?_; rintro e wx ⟨rfl, hw⟩; rw [hw]; clear hw wx)
    rw [HW7.out]
    have t7 : w7.cell? ⟨w.heap.size + 4, 0, none⟩ = some (.pointer (some ⟨b, 0, none⟩)) := HBx7.out.cell 0
    clear HNx HW7 t0 HBx7
    go_wp2_with (go_at_call 88; refine HAl.out.mono ?_; rintro e wq ⟨rfl, he⟩; subst he)
    have HVw := lH (HAL.out w7 (.cells #[.pointer (some ⟨b, 0, none⟩)] 119))
    have HLw := lH (HL7.out.below HVw.out)
    have HBx := lH (Blk.new w7 119 #[.pointer (some ⟨b, 0, none⟩)])
    have hs0 : (w7.alloc (.cells #[.pointer (some ⟨b, 0, none⟩)] 119)).heap.size = wo.heap.size + 2 := by simp [h7s]
    rw [h7s] at HBx
    have HM0 : Hid (VSt w (ps.map giT) wo.heap.size (w.heap.size + 1) nx 0 (w7.alloc (.cells #[.pointer (some ⟨b, 0, none⟩)] 119))) := ⟨⟨_, [], rfl, RowSt.nil _ _, HV7.out.alloc _⟩, HB7.out.trans (HVw.out.mono HB7.out.size), HR7.out.alloc _⟩
    generalize w7.alloc (.cells #[.pointer (some ⟨b, 0, none⟩)] 119) = WZ at *
    have hwo := HB7.out.size
    clear HAl HL7 HV7 HR7 HVw t7
    refine (wpIn_wide (n := 6)).1 ?_
    refine range_Z (Zq := RowQ (fun _ => False)) rowQ_cells (b := b) (by omega) rfl (enters_of func128 (by kernel_rfl) rfl) (encs := encT) (xs := ps) (fun _ => rfl)
     (fun l J W hbW hJ hY h0 => all1_in (bx := wo.heap.size + 1) hlen hCFr J W ((hbW.cell (p := ⟨wo.heap.size + 1, 0, none⟩) (by rw [hs0]; exact Nat.lt_succ_self _)).trans (HBx.out.cell 0)) (HLw.out.below hbW) hJ (fun pre x W1 h1 h2 => hY pre x W1 h1 h2) h0)
     (fun pre Wz => Hid (VSt w (ps.map giT) wo.heap.size (w.heap.size + 1) nx pre.length Wz)) (fun _pre x a' Wz => ∃ kb, a' = { tmps := #[.agg #[.string rm, .string rp, .string ry, .slice A0 us.length c0, .string rb], .pointer (some ⟨w.heap.size, 0, none⟩), .pointer (some ⟨w.heap.size + 1, 0, none⟩), .pointer (some ⟨w.heap.size + 4, 0, none⟩), .func (.func 84) #[] #[.pointer (some ⟨w.heap.size + 4, 0, none⟩)], undef, u6, u7, u8, u9, .pointer (some ⟨wo.heap.size, 0, none⟩), .pointer (some ⟨kb, 0, none⟩), .string x.2, .pointer (some ⟨w.heap.size + 3, 0, none⟩), .func (.func 84) #[] #[.pointer (some ⟨w.heap.size + 4, 0, none⟩)], .func (.func 84) #[] #[.pointer (some ⟨w.heap.size + 4, 0, none⟩)], .pointer (some ⟨w.heap.size, 0, none⟩), .string rm, v1, .func (.func 84) #[] #[.pointer (some ⟨w.heap.size + 4, 0, none⟩)], .agg #[.string rm, .string rp, .string ry, .slice A0 us.length c0, .string rb], .string (targetB rp ry), v2, .func (.func 84) #[] #[.pointer (some ⟨w.heap.size + 4, 0, none⟩)], .pointer (some ⟨w.heap.size, 2, none⟩), .string ry, v3, .func (.func 84) #[] #[.pointer (some ⟨w.heap.size + 4, 0, none⟩)], .pointer (some ⟨w.heap.size, 1, none⟩), .string rp, v4, .pointer (some ⟨w.heap.size, 3, none⟩), .slice A0 us.length c0, .int .i64 us.length, .int .i64 us.length, .bool false, u36, u37, u38, u39, u40, u41, u42, u43, u44, u45, u46, u47, u48, u49, u50, u51, u52, u53, u54, u55, u56, u57, u58, u59, u60, u61, u62, u63, u64, u65, u66, u67, u68, u69, u70, u71, u72, u73, u74, u75, u76, u77, u78, .pointer (some ⟨b, 0, none⟩), .int .i64 nx, .agg #[.int .i64 4, .int .i64 nx, .string ⟨#[]⟩, .slice none 0 0], .pointer (some ⟨b, 0, none⟩), .func (.func 128) #[] #[.pointer (some ⟨wo.heap.size + 1, 0, none⟩)], .agg #[.bool x.1.1, .int .i64 x.1.2.1, .string x.1.2.2], .string x.2, undef, undef, undef, undef, undef, undef, undef, undef, undef, undef, undef, undef], defers := [] } ∧ Hid (Blk Wz kb 37 #[.bool x.1.1, .int .i64 x.1.2.1, .string x.1.2.2]) ∧ wo.heap.size < kb)
     (fun pre A B hA hk => hA.out.keepsS hk (fun j e => by rw [e]; omega)) (fun pre A l o o' hA hl ho h1 h2 => hA.out.put ho h1 h2 (by omega)) ?hAp HM0 ?assign ?body ?done
    case hAp =>
     rintro pre x a' A l o o' ⟨kb, rfl, h1, h2⟩ hl ho hc hc'
     exact ⟨kb, rfl, blk_put h1.out ho hc o', h2⟩
    case assign =>
     intro l1 pre x W K hpx hM hK
     have hws : wo.heap.size < W.heap.size := by
      obtain ⟨sv2, qs, _, _, hbv⟩ := hM.out.ex
      exact hbv.lt
     dsimp only [encT]
     gi_wp2
     have hb1 := (Below.refl W.heap.size W).alloc (Nat.le_refl _) (.cells #[.bool x.1.1, .int .i64 x.1.2.1, .string x.1.2.2] 37)
     refine hK _ _ ⟨W.heap.size, rfl, Blk.new W 37 #[.bool x.1.1, .int .i64 x.1.2.1, .string x.1.2.2], hws⟩ (hM.out.under hb1) (KZ.below hb1)
    case body =>
     rintro l1 pre x a' W hpx ⟨kb, rfl, HKb, hkv⟩ hM
     have hy : (ps.map giT)[pre.length]? = some (giT x) := by
      obtain ⟨t, ht⟩ := hpx
      rw [← ht]
      simp
     have hpl : (pre ++ [x]).length = pre.length + 1 := by simp
     generalize pre.length = m at *
     obtain ⟨⟨sv2, qs, hqq, hrq, hbv⟩, hlo, hres⟩ := hM.out
     obtain ⟨A4, c4, rfl⟩ := hrq.form
     obtain ⟨⟨yb, yi, ys⟩, yt⟩ := x
     have HQq := lH hqq
     have HRq := lH hrq
     have HBv := lH hbv
     have HLo := lH hlo
     have HRs := lH hres
     have Hy := lH hy
     have HvW : Hid (wo.heap.size + 1 ≤ W.heap.size) := lH (Nat.succ_le_of_lt hbv.lt)
     have HQl : Hid (qs.length ≤ 2048) := by
      have h1 := congrArg List.length hqq
      simp at h1
      show _ ≤ _
      omega
     have v3 : W.cell? ⟨wo.heap.size, 3, none⟩ = some (.slice A4 qs.length c4) := hbv.cell 3
     have v3a : (W.alloc (.cells #[.bool false, .int .i64 0, .string ⟨#[]⟩, .int .i64 0, .int .i64 0, .string ⟨#[]⟩, .slice none 0 0] 39)).cell? ⟨wo.heap.size, 3, none⟩ = some (.slice A4 qs.length c4) := (hbv.alloc _).cell 3
     have hix : ((qs.length : Nat) : Int) < (qs.length : Int) + 1 := by omega
     have nkv : kb ≠ wo.heap.size := by omega
     have HP : Hid (Below W.heap.size W (W.drew.alloc (.cells #[.bool false, .int .i64 0, .string ⟨#[]⟩, .int .i64 0, .int .i64 0, .string ⟨#[]⟩, .slice none 0 0] 39)) ∧ Blk (W.drew.alloc (.cells #[.bool false, .int .i64 0, .string ⟨#[]⟩, .int .i64 0, .int .i64 0, .string ⟨#[]⟩, .slice none 0 0] 39)) W.heap.size 39 #[.bool false, .int .i64 0, .string ⟨#[]⟩, .int .i64 0, .int .i64 0, .string ⟨#[]⟩, .slice none 0 0]) := ⟨(Below.refl W.heap.size W).drew.alloc (Nat.le_refl _) _, Blk.new W.drew _ _⟩
     clear hqq hrq hbv hlo hres hM hy hpx HLw HBx HM0
     gi_wp2
     refine region_round (S := (fun wz => wz.cell? ⟨kb, 0, none⟩ = some (.bool yb) ∧ wz.cell? ⟨kb, 1, none⟩ = some (.int .i64 yi) ∧ wz.cell? ⟨kb, 2, none⟩ = some (.string ys))) (by kernel_rfl) (by kernel_rfl) ?_ ?_ (fun hHeld => ?_)
     · rintro ⟨a9, w9, h9, -⟩
       cases h9
     · exact Us.sk3 HKb.out.drew
     refine hdt (v := ?v1) op0 ?_
     try simp only [hdq]
     refine hdt (v := ?v2) op2 ?_
     try simp only [hdq]
     refine hdt (v := ?v3) op3 ?_
     try simp only [hdq]
     refine hdt (v := ?v4) op4 ?_
     try simp only [hdq]
     refine hdt (v := ?v5) op5 ?_
     try simp only [hdq]
     refine hdr2 op1 (fun K hK => ?_) op7 (fun K hK => ?_)
     · go_simp
       refine hK.out _ _ ?_ (fun hHeld => ?_)
       · exact Us.sk3 HKb.out.drew
       clear hK K
       try simp only [hdq]
       refine hdt (v := ?v6) op6 ?_
       try simp only [hdq]
       refine hdr1 op7 (fun K hK => ?_)
       go_simp
       refine hK.out _ _ ?_ (fun hHeld => ?_)
       · exact Us.sk3 (HKb.out.drew.alloc _)
       clear hK K
       try simp only [hdq]
       refine hdr1 op8 (fun K hK => ?_)
       refine step_app_item rfl (.tmp 87) (.tmp 93) rfl (wo.heap.size + 1) (.slice A4 qs.length c4) qs rfl (own_below HRq.out.owns HP.out.1) ?_ (some ⟨W.heap.size, 0, none⟩) 1 1 [zeroPI] rfl (reads_one (p := zeroPI) HP.out.2) ?_ ?_
       · exact Nat.le_trans HvW.out HP.out.1.size
       · have := HQl.out; omega
       intro v7 w8 hown7 hg7 hor7
       obtain ⟨g7, cap7, rfl, hg7a, hg7b⟩ := hown7.form (Nat.succ_pos _)
       have HO7 := lH (show w8.ownsRow (wo.heap.size + 1) 39 7 (.slice (some ⟨g7, 0, none⟩) (qs.length + 1) cap7) (qs.length + 1) (rowC qs ++ rowC [zeroPI]) from hown7)
       have HE7 := lH (roundT_end (CF := fun _ => False) (m := WZ.heap.size) HQq.out (x := giT ((yb, yi, ys), yt)) (x' := ⟨yb, yi, ys, 3, 0, yt, [], none, 0⟩) Hy.out rfl HRq.out HBv.out HLo.out HRs.out (by omega) (by omega) HP.out.1 (VIn.mk 3 0 yt [] none 0 0 0 (fun _ => .nilIface) (Nat.zero_le _) (Nat.zero_le _) (fun h => absurd h (Nat.lt_irrefl 0)) (fun i it h => by simp at h) (fun i it h => by simp at h)) HO7.out rfl hg7 hor7)
       have HBv7 := lH ((blk_below HBv.out HP.out.1).grown hg7 (fun e => by have := (HRq.out.owns.lt _ e.symm).1; omega))
       have HKb7 := lH ((blk_below HKb.out HP.out.1).grown hg7 (row_ne (own_below HRq.out.owns HP.out.1) (blk_below HKb.out HP.out.1) (by decide)))
       have z := seven_row HO7.out
       obtain ⟨⟨z0, z1, z2, z3, z4, z5, z6⟩, y0, y1, y2, y3, y4, y5, y6⟩ := z
       have x2 : w8.cell? ⟨wo.heap.size, 3, none⟩ = some (.slice A4 qs.length c4) := HBv7.out.cell 3
       have xf2 := HBv7.out.frozen 3
       have nn1 : wo.heap.size ≠ g7 := by omega
       have nn2 : g7 ≠ wo.heap.size := Ne.symm nn1
       have nn3 : kb ≠ g7 := fun e => row_ne HO7.out HKb7.out (by decide) (by rw [e]; rfl)
       clear hown7 hg7 hor7
       refine hK.out _ _ ?_ (fun hHeld => ?_)
       · exact Us.sk3 HKb7.out
       clear hK K
       try simp only [hdq]
       refine hdt (v := ?v7) op9 ?_
       try simp only [hdq]
       refine hdt (v := ?v8) op11 ?_
       try simp only [hdq]
       refine hdr2 op10 (fun K hK => ?_) op12 (fun K hK => ?_)
       · go_simp
         refine hK.out _ _ ?_ (fun hHeld => ?_)
         · exact Us.sk3 (HKb7.out.keeps (fill_keeps _ g7 (qs.length * 7) ⟨yb, yi, ys, 3, 0, yt, [], none, 0⟩) nn3)
         clear hK K
         try simp only [hdq]
         refine hdr1 op12 (fun K hK => ?_)
         go_simp
         refine hK.out _ _ ?_ (fun hHeld => ?_)
         · exact Us.sk3 ((HKb7.out.keeps (fill_keeps _ g7 (qs.length * 7) ⟨yb, yi, ys, 3, 0, yt, [], none, 0⟩) nn3).far nkv _)
         clear hK K
         try simp only [hdq]
         refine wpAnyH_done (by kernel_rfl) ?_ _
         exact ⟨rfl, by rw [hpl]; exact HE7.out.1⟩
       · go_simp
         refine hK.out _ _ ?_ (fun hHeld => ?_)
         · exact Us.sk3 (HKb7.out.far nkv _)
         clear hK K
         try simp only [hdq]
         refine hdr1 op10 (fun K hK => ?_)
         go_simp
         refine hK.out _ _ ?_ (fun hHeld => ?_)
         · exact Us.sk3 ((HKb7.out.far nkv _).keeps (fill_keeps _ g7 (qs.length * 7) ⟨yb, yi, ys, 3, 0, yt, [], none, 0⟩) nn3)
         clear hK K
         try simp only [hdq]
         refine wpAnyH_done (by kernel_rfl) ?_ _
         exact ⟨rfl, by rw [hpl]; exact HE7.out.2⟩
     · go_simp
       refine hK.out _ _ ?_ (fun hHeld => ?_)
       · exact Us.sk3 (HKb.out.drew.alloc _)
       clear hK K
       try simp only [hdq]
       refine hdr1 op1 (fun K hK => ?_)
       go_simp
       refine hK.out _ _ ?_ (fun hHeld => ?_)
       · exact Us.sk3 (HKb.out.drew.alloc _)
       clear hK K
       try simp only [hdq]
       refine hdt (v := ?v9) op6 ?_
       try simp only [hdq]
       refine hdr1 op8 (fun K hK => ?_)
       refine step_app_item rfl (.tmp 87) (.tmp 93) rfl (wo.heap.size + 1) (.slice A4 qs.length c4) qs rfl (own_below HRq.out.owns HP.out.1) ?_ (some ⟨W.heap.size, 0, none⟩) 1 1 [zeroPI] rfl (reads_one (p := zeroPI) HP.out.2) ?_ ?_
       · exact Nat.le_trans HvW.out HP.out.1.size
       · have := HQl.out; omega
       intro v7 w8 hown7 hg7 hor7
       obtain ⟨g7, cap7, rfl, hg7a, hg7b⟩ := hown7.form (Nat.succ_pos _)
       have HO7 := lH (show w8.ownsRow (wo.heap.size + 1) 39 7 (.slice (some ⟨g7, 0, none⟩) (qs.length + 1) cap7) (qs.length + 1) (rowC qs ++ rowC [zeroPI]) from hown7)
       have HE7 := lH (roundT_end (CF := fun _ => False) (m := WZ.heap.size) HQq.out (x := giT ((yb, yi, ys), yt)) (x' := ⟨yb, yi, ys, 3, 0, yt, [], none, 0⟩) Hy.out rfl HRq.out HBv.out HLo.out HRs.out (by omega) (by omega) HP.out.1 (VIn.mk 3 0 yt [] none 0 0 0 (fun _ => .nilIface) (Nat.zero_le _) (Nat.zero_le _) (fun h => absurd h (Nat.lt_irrefl 0)) (fun i it h => by simp at h) (fun i it h => by simp at h)) HO7.out rfl hg7 hor7)
       have HBv7 := lH ((blk_below HBv.out HP.out.1).grown hg7 (fun e => by have := (HRq.out.owns.lt _ e.symm).1; omega))
       have HKb7 := lH ((blk_below HKb.out HP.out.1).grown hg7 (row_ne (own_below HRq.out.owns HP.out.1) (blk_below HKb.out HP.out.1) (by decide)))
       have z := seven_row HO7.out
       obtain ⟨⟨z0, z1, z2, z3, z4, z5, z6⟩, y0, y1, y2, y3, y4, y5, y6⟩ := z
       have x2 : w8.cell? ⟨wo.heap.size, 3, none⟩ = some (.slice A4 qs.length c4) := HBv7.out.cell 3
       have xf2 := HBv7.out.frozen 3
       have nn1 : wo.heap.size ≠ g7 := by omega
       have nn2 : g7 ≠ wo.heap.size := Ne.symm nn1
       have nn3 : kb ≠ g7 := fun e => row_ne HO7.out HKb7.out (by decide) (by rw [e]; rfl)
       clear hown7 hg7 hor7
       refine hK.out _ _ ?_ (fun hHeld => ?_)
       · exact Us.sk3 HKb7.out
       clear hK K
       try simp only [hdq]
       refine hdt (v := ?v10) op9 ?_
       try simp only [hdq]
       refine hdt (v := ?v11) op11 ?_
       try simp only [hdq]
       refine hdr2 op10 (fun K hK => ?_) op12 (fun K hK => ?_)
       · go_simp
         refine hK.out _ _ ?_ (fun hHeld => ?_)
         · exact Us.sk3 (HKb7.out.keeps (fill_keeps _ g7 (qs.length * 7) ⟨yb, yi, ys, 3, 0, yt, [], none, 0⟩) nn3)
         clear hK K
         try simp only [hdq]
         refine hdr1 op12 (fun K hK => ?_)
         go_simp
         refine hK.out _ _ ?_ (fun hHeld => ?_)
         · exact Us.sk3 ((HKb7.out.keeps (fill_keeps _ g7 (qs.length * 7) ⟨yb, yi, ys, 3, 0, yt, [], none, 0⟩) nn3).far nkv _)
         clear hK K
         try simp only [hdq]
         refine wpAnyH_done (by kernel_rfl) ?_ _
         exact ⟨rfl, by rw [hpl]; exact HE7.out.1⟩
       · go_simp
         refine hK.out _ _ ?_ (fun hHeld => ?_)
         · exact Us.sk3 (HKb7.out.far nkv _)
         clear hK K
         try simp only [hdq]
         refine hdr1 op10 (fun K hK => ?_)
         go_simp
         refine hK.out _ _ ?_ (fun hHeld => ?_)
         · exact Us.sk3 ((HKb7.out.far nkv _).keeps (fill_keeps _ g7 (qs.length * 7) ⟨yb, yi, ys, 3, 0, yt, [], none, 0⟩) nn3)
         clear hK K
         try simp only [hdq]
         refine wpAnyH_done (by kernel_rfl) ?_ _
         exact ⟨rfl, by rw [hpl]; exact HE7.out.2⟩
    case done =>
     intro D W hD hM hK
     have hDl := (Array.getElem?_eq_some_iff.1 hK).1
     obtain ⟨⟨sv2, qs, hqq, hrq, hbv⟩, hlo, hres⟩ := hM.out
     obtain ⟨A4, c4, rfl⟩ := hrq.form
     have hVin := hrq.vin 4 nx ⟨#[]⟩
     rw [hqq] at hVin
     have etk : (ps.map giT).take ps.length = ps.map giT := by rw [← List.length_map (f := giT), List.take_length]
     rw [etk] at hVin
     have y0 : W.cell? ⟨wo.heap.size, 0, none⟩ = some (.int .i64 4) := hbv.cell 0
     have y1 : W.cell? ⟨wo.heap.size, 1, none⟩ = some (.int .i64 nx) := hbv.cell 1
     have y2 : W.cell? ⟨wo.heap.size, 2, none⟩ = some (.string ⟨#[]⟩) := hbv.cell 2
     have y3 : W.cell? ⟨wo.heap.size, 3, none⟩ = some (.slice A4 qs.length c4) := hbv.cell 3
     obtain ⟨⟨z0, z1, z2, z3⟩, zf0, zf1, zf2, zf3⟩ := z8 hres
     have HS4 := lH (store4 hres (.int .i64 4) (.int .i64 nx) (.string ⟨#[]⟩) (.slice A4 qs.length c4))
     have HVi := lH hVin
     have HLo := lH hlo
     have HDk := lH hK
     clear hVin hM hres hbv hrq hqq hlo HLw HBx HM0 hK etk
     go_wp2_with fail
     have hDf := (HS4.out.2.block D hDl (by omega)).trans HDk.out
     have hsf : ((((W.setCell ⟨w.heap.size + 1, 0, none⟩ (.int .i64 4)).setCell ⟨w.heap.size + 1, 1, none⟩ (.int .i64 nx)).setCell ⟨w.heap.size + 1, 2, none⟩ (.string ⟨#[]⟩)).setCell ⟨w.heap.size + 1, 3, none⟩ (.slice A4 qs.length c4)).heap.size = W.heap.size := by simp
     generalize (((W.setCell ⟨w.heap.size + 1, 0, none⟩ (.int .i64 4)).setCell ⟨w.heap.size + 1, 1, none⟩ (.int .i64 nx)).setCell ⟨w.heap.size + 1, 2, none⟩ (.string ⟨#[]⟩)).setCell ⟨w.heap.size + 1, 3, none⟩ (.slice A4 qs.length c4) = wf at *
     have e0 : (wf.putObj D (.deferred none)).cell? ⟨w.heap.size + 1, 0, none⟩ = some (.int .i64 4) := (cell_put hDf rfl rfl _).trans (HS4.out.1.cell 0)
     have e1 : (wf.putObj D (.deferred none)).cell? ⟨w.heap.size + 1, 1, none⟩ = some (.int .i64 nx) := (cell_put hDf rfl rfl _).trans (HS4.out.1.cell 1)
     have e2 : (wf.putObj D (.deferred none)).cell? ⟨w.heap.size + 1, 2, none⟩ = some (.string ⟨#[]⟩) := (cell_put hDf rfl rfl _).trans (HS4.out.1.cell 2)
     have e3 : (wf.putObj D (.deferred none)).cell? ⟨w.heap.size + 1, 3, none⟩ = some (.slice A4 qs.length c4) := (cell_put hDf rfl rfl _).trans (HS4.out.1.cell 3)
     have hkp := Ut.keeps_put (A := wf) (l := D) (.deferred none)
     have hlf : Below w.heap.size w (wf.putObj D (.deferred none)) := (HLo.out.trans (HS4.out.2.below HLo.out.size (fun j e => by omega))).trans (hkp.below (by have := HLo.out.size; omega) (fun j e => by omega))
     refine ⟨by simp, .inl ⟨_, _, rfl, run_takeDeferred hDf, ?_⟩⟩
     refine ⟨.agg #[.int .i64 4, .int .i64 nx, .string ⟨#[]⟩, .slice A4 qs.length c4], by simp [results, results45, go_sem, e0, e1, e2, e3], _, rfl, ?_, hlf⟩
     exact HVi.out.keep (fun j hj => ⟨by omega, by simp; omega⟩) fun q hq => (cell_put hDf rfl rfl q).trans (HS4.out.2.cell hq.2 (fun e => by have := hq.1; omega))
end
end Rl
end Go.Proofs.YtgpemnmopogppaaGreatDoor
