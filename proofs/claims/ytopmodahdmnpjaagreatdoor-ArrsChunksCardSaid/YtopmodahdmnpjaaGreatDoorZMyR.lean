/- ostlerref08.may at lists; both may at any value: the walks. -/
import Derived.Test.YtopmodahdmnpjaaGreatDoorZMyFQ
import Derived.Test.YtopmodahdmnpjaaGreatDoorZMyJQ
import Derived.Test.YtopmodahdmnpjaaGreatDoorZMyM
namespace Go.Proofs.YtopmodahdmnpjaaGreatDoor
open Go Go.RowKit
namespace Dp
open Go.Proofs.YtopmodahdmnpjaaGreatDoor.Nm (normG keyV rnorm_any)
section
variable {w : World} {B : Nat}
set_option maxRecDepth 100000 in
set_option maxHeartbeats 4000000 in
theorem rlist_main (hBw : B ≤ w.heap.size) (n : Int) (l : List GI) (A : Option Addr) (c b off : Nat) (C : Nat → Value) (hc : l.length ≤ c)
    (hA : 0 < l.length → A = some ⟨b, off, none⟩ ∧ b < B) (hi : ∀ i it, l[i]? = some it → ItemAt w b (off + i * 7) it (C i)) (hW : ∀ i it, l[i]? = some it → VAt w B it.val (C i))
    (hF : ∀ (i : Nat) (it : GI), l[i]? = some it → In64 it.int ∧ it.text.size ≤ 140737488351232)
    (ih : ∀ i it, l[i]? = some it → ∀ w' : World, Below B w w' → ∀ d : Int, 0 ≤ d → d ≤ 64 → Calls Tryz.prog 17 #[C i, .int .i64 d] w' fun e w'' => e = .returned (.bool (mayV it.val d)) ∧ Below w'.heap.size w' w'')
    (w' : World) (hb : Below B w w') (d : Int) (hd0 : 0 ≤ d) (hd1 : d < 64) (hl : l.length ≤ 2048) (hn1 : -1 ≤ n) :
    Calls Tryz.prog 17 #[.agg #[.int .i64 4, .int .i64 n, .string ⟨#[]⟩, .slice A l.length c], .int .i64 d] w' fun e w'' => e = .returned (.bool (mayL l [] n d)) ∧ Below w'.heap.size w' w'' := by
  have hB' : B ≤ w'.heap.size := Nat.le_trans hBw hb.size
  have HA := Lib.hid hA
  have HI := Lib.hid hi
  have HV := Lib.hid ih
  have HW := Lib.hid hW
  have HF := Lib.hid hF
  have Hb := Lib.hid hb
  have hal := fun (w1 : World) (o : Obj) => (Below.refl w1.heap.size w1).alloc (Nat.le_refl _) o
  have HB0 := Lib.hid ((Below.refl w'.heap.size w').alloc (Nat.le_refl _) (.cells #[.int .i64 4, .int .i64 n, .string ⟨#[]⟩, .slice A l.length c] 24))
  have HX0 := Lib.hid (Blk.new w' 24 #[.int .i64 4, .int .i64 n, .string ⟨#[]⟩, .slice A l.length c])
  have HFG := Lib.hid (fun (hlt : 0 < l.length) j (hj : j ≤ l.length) kb ki ks w1 hz => rfind_any (w := w) (B := B) hBw hA hi j c hj (Nat.le_trans hj hc) (by omega) kb ki ks w1 hz)
  obtain ⟨M, HM⟩ : ∃ z, Hid (mayL l [] n d = z) := ⟨_, rfl⟩
  have HL0 : Hid (M = mayL (l.drop 0) (keysOf l 0) n d) := by
    show _ = _
    rw [← HM.out]
    rfl
  rw [HM.out]
  have HAL := Lib.hid hal
  clear hA hi ih hW hF hb HM hal
  go_enter Tryz.func17, Tryz.ntmps17
  go_wp2_with fail
  go_loopw [5] (fun xi wx => ∃ (j : Nat), j ≤ l.length ∧ xi = .int .i64 j ∧ Hid (M = mayL (l.drop j) (keysOf l j) n d) ∧ Hid (Below w'.heap.size w' wx) ∧ Hid (Blk wx w'.heap.size 24 #[.int .i64 4, .int .i64 n, .string ⟨#[]⟩, .slice A l.length c])) (fun xi _ => l.length - (ixOf xi).toNat)
  case atStart => exact ⟨0, Nat.zero_le _, rfl, HL0, HB0, HX0⟩
  case round =>
    obtain ⟨j, hj, rfl, HL, HB, HX⟩ := hrel
    clear HB0 HL0 HX0
    have b3 : wr.cell? ⟨w'.heap.size, 3, none⟩ = some (.slice A l.length c) := HX.out.cell 3
    by_cases hlt : j < l.length
    · obtain ⟨it, hit⟩ : ∃ it, l[j]? = some it := ⟨_, List.getElem?_eq_getElem hlt⟩
      obtain ⟨rfl, hbB⟩ := HA.out (by omega)
      have hbw : Below B w wr := Hb.out.trans (HB.out.mono hB')
      have hwr := HB.out.size
      have hvl := HX.out.lt
      have hh := HI.out j it hit
      obtain ⟨c0, c1, c2, v0, v1, v2, v3, e, c3, c4, c5, c6⟩ := hh.below hbw hbB
      obtain ⟨-, -, -, u0, u1, u2, u3, e9, x3, x4, x5, x6⟩ := hh
      have hform := HW.out j it hit
      rw [e] at hform
      obtain ⟨k1, n1, t1, A1, l1, e1, rfl, rfl, rfl, rfl⟩ := hform.form
      obtain ⟨rfl, rfl, rfl, rfl⟩ : Value.int .i64 k1 = u0 ∧ Value.int .i64 n1 = u1 ∧ Value.string t1 = u2 ∧ Value.slice A1 l1 e1 = u3 := by
        have := e.symm.trans e9
        simp at this
        exact this
      have HC3 := Lib.hid x3
      have HC4 := Lib.hid x4
      have HC5 := Lib.hid x5
      have HC6 := Lib.hid x6
      have HD := Lib.hid (HL.out.trans (mayL_drop l j it hit n d))
      have HKS := Lib.hid (keysOf_succ l j it hit)
      obtain ⟨hki, hks⟩ := HF.out j it hit
      have hR := fun wz (hz : Below B w wz) => HV.out j it hit wz hz (d + 1) (by omega) (by omega)
      rw [e] at hR
      have HR := Lib.hid hR
      rw [keyG_eq] at HD HKS
      clear hform HW HV HI HL e hR HF e9 x3 x4 x5 x6
      generalize mayV it.val (d + 1) = q at *
      generalize it.isText = ib at *
      generalize it.int = ii at *
      generalize it.text = is at *
      have hFd := HFG.out (by omega) j hj ib ii is
      have hfm := findK_mem (keysOf l j) (ib, ii, is) 0 (by omega)
      generalize findK (keysOf l j) (ib, ii, is) 0 = fk at *
      have HFd := Lib.hid hFd
      have HFM := Lib.hid hfm
      have hn0 := fun w1 => rnorm_any ii is w1 ib (by omega)
      obtain ⟨nb, ni, ns, hnorm⟩ := normG_ok (b := ib) (i := ii) (s := is)
      rw [hnorm] at HD hn0
      have HN : Hid (∀ w1 : World, Below B w w1 → Calls Tryz.prog 81 #[.agg #[.bool ib, .int .i64 ii, .string is]] w1 fun e w' => e = .returned (.agg #[.bool nb, .int .i64 ni, .string ns]) ∧ Below w1.heap.size w1 w') := fun w1 _ => hn0 w1
      clear hnorm hn0 hFd hfm HFG
      have HZ0 := Lib.hid (hbw.alloc (by omega) (.cells #[.bool ib, .int .i64 ii, .string is] 32))
      have HY0 := Lib.hid (HB.out.alloc HB.out.size (.cells #[.bool ib, .int .i64 ii, .string is] 32))
      have HX0 := Lib.hid (blk_below HX.out (HAL.out _ (.cells #[.bool ib, .int .i64 ii, .string is] 32)))
      have HI0 := Lib.hid (Blk.new wr 32 #[.bool ib, .int .i64 ii, .string is])
      clear HB HX hbw
      go_wp2_with fail
      generalize wr.alloc (.cells #[.bool ib, .int .i64 ii, .string is] 32) = wi at *
      have HZ1 := Lib.hid (drewN' HZ0.out 1)
      have HY1 := Lib.hid (drewN' HY0.out 1)
      have HX1 := Lib.hid (blk_below HX0.out (drewN' (Below.refl _ _) 1))
      have HI1 := Lib.hid (blk_below HI0.out (drewN' (Below.refl _ _) 1))
      have da0 := HI0.out.cell 0
      have da1 := HI0.out.cell 1
      have da2 := HI0.out.cell 2
      have da3 := HX0.out.cell 3
      have da4 := (HZ0.out.cell (p := ⟨b, off + j * 7 + 3, none⟩) hbB).trans HC3.out
      have da5 := (HZ0.out.cell (p := ⟨b, off + j * 7 + 4, none⟩) hbB).trans HC4.out
      have da6 := (HZ0.out.cell (p := ⟨b, off + j * 7 + 5, none⟩) hbB).trans HC5.out
      have da7 := (HZ0.out.cell (p := ⟨b, off + j * 7 + 6, none⟩) hbB).trans HC6.out
      have hwrap : IntKind.i64.wrap (d + 1) = d + 1 := IntWalk.i64_in _ (by omega)
      have hj0 : (0 : Int) ≤ (j : Int) := by omega
      have hjl : (j : Int) < (l.length : Int) := by omega
      have hjc : (j : Int) ≤ (c : Int) := by omega
      clear HZ0 HY0 HX0 HI0 b3
      by_cases hne : (nb, ni, ns) = (ib, ii, is)
      · have HD2 := Lib.hid (HD.out.trans (if_neg (fun h => h hne)))
        obtain ⟨h1, h23⟩ := Prod.mk.inj hne
        obtain ⟨h2, h3⟩ := Prod.mk.inj h23
        have h1 := h1.symm
        have h2 := h2.symm
        have h3 := h3.symm
        subst h1
        subst h2
        subst h3
        clear HD hne h23
        by_cases hmem : (ib, ii, is) ∈ keysOf l j
        · have hM : M = false := HD2.out.trans (if_pos hmem)
          subst hM
          have hf0 : 0 ≤ fk := of_decide_eq_true (HFM.out.trans (decide_eq_true hmem))
          clear HD2 hmem HR HFM
          refine wp_region_held_drew (S := (fun wz => wz.cell? ⟨wr.heap.size, 0, none⟩ = some (.bool ib) ∧ wz.cell? ⟨wr.heap.size, 1, none⟩ = some (.int .i64 ii) ∧ wz.cell? ⟨wr.heap.size, 2, none⟩ = some (.string is) ∧ wz.cell? ⟨w'.heap.size, 3, none⟩ = some (.slice (some ⟨b, off, none⟩) l.length c) ∧ wz.cell? ⟨b, off + j * 7 + 3, none⟩ = some (.int .i64 k1) ∧ wz.cell? ⟨b, off + j * 7 + 4, none⟩ = some (.int .i64 n1) ∧ wz.cell? ⟨b, off + j * 7 + 5, none⟩ = some (.string t1) ∧ wz.cell? ⟨b, off + j * 7 + 6, none⟩ = some (.slice A1 l1 e1))) (by kernel_rfl) ?_ (fun hHeld => ?_)
          · exact ⟨da0, da1, da2, da3, da4, da5, da6, da7⟩
          refine Held.tk (v := ?v1) Held.op0 (by assumption) ?_
          try simp only [Act.put, Held.sa, Held.sz, Held.ss]
          refine Held.tk (v := ?v2) Held.op1 (by assumption) ?_
          try simp only [Act.put, Held.sa, Held.sz, Held.ss]
          refine wpAnyH_ready (rs := [2]) (by kernel_rfl) (by simp) ?_
          refine AllReadyH.cons Held.op2 (fun K hK => ?_) AllReadyH.nil
          go_simp
          go_at_call 81; refine (HN.out _ HZ1.out).mono ?_; rintro e w2 ⟨rfl, hb2⟩; have HZ2 := Lib.hid (HZ1.out.trans (hb2.mono (by have := HZ1.out.size; omega))); have HY2 := Lib.hid (HY1.out.trans (hb2.mono (by have := HY1.out.size; omega))); have HX2 := Lib.hid (blk_below HX1.out hb2); have HI2 := Lib.hid (blk_below HI1.out hb2); have ya0 := HI2.out.cell 0; have ya1 := HI2.out.cell 1; have ya2 := HI2.out.cell 2; have ya3 := HX2.out.cell 3; have ya4 := (HZ2.out.cell (p := ⟨b, off + j * 7 + 3, none⟩) hbB).trans HC3.out; have ya5 := (HZ2.out.cell (p := ⟨b, off + j * 7 + 4, none⟩) hbB).trans HC4.out; have ya6 := (HZ2.out.cell (p := ⟨b, off + j * 7 + 5, none⟩) hbB).trans HC5.out; have ya7 := (HZ2.out.cell (p := ⟨b, off + j * 7 + 6, none⟩) hbB).trans HC6.out; clear hb2
          try (go_wp2_with fail)
          refine hK.out _ _ ?_ (fun hHeld => ?_)
          · exact ⟨ya0, ya1, ya2, ya3, ya4, ya5, ya6, ya7⟩
          clear hK K
          try simp only [Act.put, Held.sa, Held.sz, Held.ss]
          refine Held.tk (v := ?v4) Held.op3 (by assumption) ?_
          try simp only [Act.put, Held.sa, Held.sz, Held.ss]
          refine Held.tk (v := ?v5) Held.op4 (by assumption) ?_
          try simp only [Act.put, Held.sa, Held.sz, Held.ss]
          refine Held.tk (v := ?v6) Held.op5 (by assumption) ?_
          try simp only [Act.put, Held.sa, Held.sz, Held.ss]
          refine Held.tk (v := ?v7) Held.op6 (by assumption) ?_
          try simp only [Act.put, Held.sa, Held.sz, Held.ss]
          refine Held.tk (v := ?v8) Held.op7 (by assumption) ?_
          try simp only [Act.put, Held.sa, Held.sz, Held.ss]
          refine Held.tk (v := ?v9) Held.op8 (by assumption) ?_
          try simp only [Act.put, Held.sa, Held.sz, Held.ss]
          refine Held.tk (v := ?v10) Held.op9 (by assumption) ?_
          try simp only [Act.put, Held.sa, Held.sz, Held.ss]
          refine wpAnyH_ready (rs := [10]) (by kernel_rfl) (by simp) ?_
          refine AllReadyH.cons Held.op10 (fun K hK => ?_) AllReadyH.nil
          go_simp
          go_at_call 82; refine (HFd.out _ HZ2.out).mono ?_; rintro e w3 ⟨rfl, hb3⟩; have HZ3 := Lib.hid (HZ2.out.trans (hb3.mono (by have := HZ2.out.size; omega))); have HY3 := Lib.hid (HY2.out.trans (hb3.mono (by have := HY2.out.size; omega))); have HX3 := Lib.hid (blk_below HX2.out hb3); have HI3 := Lib.hid (blk_below HI2.out hb3); have za0 := HI3.out.cell 0; have za1 := HI3.out.cell 1; have za2 := HI3.out.cell 2; have za3 := HX3.out.cell 3; have za4 := (HZ3.out.cell (p := ⟨b, off + j * 7 + 3, none⟩) hbB).trans HC3.out; have za5 := (HZ3.out.cell (p := ⟨b, off + j * 7 + 4, none⟩) hbB).trans HC4.out; have za6 := (HZ3.out.cell (p := ⟨b, off + j * 7 + 5, none⟩) hbB).trans HC5.out; have za7 := (HZ3.out.cell (p := ⟨b, off + j * 7 + 6, none⟩) hbB).trans HC6.out; clear hb3
          try (go_wp2_with fail)
          refine hK.out _ _ ?_ (fun hHeld => ?_)
          · exact ⟨za0, za1, za2, za3, za4, za5, za6, za7⟩
          clear hK K
          try simp only [Act.put, Held.sa, Held.sz, Held.ss]
          refine Held.tk (v := ?v12) Held.op11 (by assumption) ?_
          try simp only [Act.put, Held.sa, Held.sz, Held.ss]
          refine Held.tk (v := ?v13) Held.op12 (by assumption) ?_
          try simp only [Act.put, Held.sa, Held.sz, Held.ss]
          refine Held.tk (v := ?v14) Held.op13 (by assumption) ?_
          try simp only [Act.put, Held.sa, Held.sz, Held.ss]
          refine wpAnyH_take (i := 14) (v := undef) Held.op14 (by kernel_rfl) (by kernel_rfl) (by kernel_rfl) (fun _ _ _ h => h) (Or.inr ⟨by rfl, rfl⟩) (by assumption) ?_
          try simp only [Act.put, Held.sa, Held.sz, Held.ss]
          refine wpAnyH_take (i := 15) (v := undef) Held.op15 (by kernel_rfl) (by kernel_rfl) (by kernel_rfl) (fun _ _ _ h => h) (Or.inr ⟨by rfl, rfl⟩) (by assumption) ?_
          try simp only [Act.put, Held.sa, Held.sz, Held.ss]
          refine wpAnyH_take (i := 16) (v := undef) Held.op16 (by kernel_rfl) (by kernel_rfl) (by kernel_rfl) (fun _ _ _ h => h) (Or.inr ⟨by rfl, rfl⟩) (by assumption) ?_
          try simp only [Act.put, Held.sa, Held.sz, Held.ss]
          refine wpAnyH_take (i := 17) (v := undef) Held.op17 (by kernel_rfl) (by kernel_rfl) (by kernel_rfl) (fun _ _ _ h => h) (Or.inr ⟨by rfl, rfl⟩) (by assumption) ?_
          try simp only [Act.put, Held.sa, Held.sz, Held.ss]
          refine wpAnyH_take (i := 18) (v := undef) Held.op18 (by kernel_rfl) (by kernel_rfl) (by kernel_rfl) (fun _ _ _ h => h) (Or.inr ⟨by rfl, rfl⟩) (by assumption) ?_
          try simp only [Act.put, Held.sa, Held.sz, Held.ss]
          refine wpAnyH_take (i := 19) (v := undef) Held.op19 (by kernel_rfl) (by kernel_rfl) (by kernel_rfl) (fun _ _ _ h => h) (Or.inr ⟨by rfl, rfl⟩) (by assumption) ?_
          try simp only [Act.put, Held.sa, Held.sz, Held.ss]
          refine wpAnyH_take (i := 20) (v := undef) Held.op20 (by kernel_rfl) (by kernel_rfl) (by kernel_rfl) (fun _ _ _ h => h) (Or.inr ⟨by rfl, rfl⟩) (by assumption) ?_
          try simp only [Act.put, Held.sa, Held.sz, Held.ss]
          refine wpAnyH_take (i := 21) (v := undef) Held.op21 (by kernel_rfl) (by kernel_rfl) (by kernel_rfl) (fun _ _ _ h => h) (Or.inr ⟨by rfl, rfl⟩) (by assumption) ?_
          try simp only [Act.put, Held.sa, Held.sz, Held.ss]
          refine wpAnyH_take (i := 22) (v := undef) Held.op22 (by kernel_rfl) (by kernel_rfl) (by kernel_rfl) (fun _ _ _ h => h) (Or.inr ⟨by rfl, rfl⟩) (by assumption) ?_
          try simp only [Act.put, Held.sa, Held.sz, Held.ss]
          refine wpAnyH_take (i := 23) (v := undef) Held.op23 (by kernel_rfl) (by kernel_rfl) (by kernel_rfl) (fun _ _ _ h => h) (Or.inr ⟨by rfl, rfl⟩) (by assumption) ?_
          try simp only [Act.put, Held.sa, Held.sz, Held.ss]
          refine Held.tk (v := ?v25) Held.op24 (by assumption) ?_
          try simp only [Act.put, Held.sa, Held.sz, Held.ss]
          refine wpAnyH_done (by kernel_rfl) ?_ _
          go_wp2_with fail
          go_ret
          exact ⟨rfl, HY3.out⟩
        · have HD3 := Lib.hid (HD2.out.trans (if_neg hmem))
          have hf0 : decide (0 ≤ fk) = false := HFM.out.trans (decide_eq_false hmem)
          clear HD2 hmem HFM
          cases q with
          | false =>
            have hM : M = false := HD3.out.trans (if_neg (by decide))
            subst hM
            clear HD3
            refine wp_region_held_drew (S := (fun wz => wz.cell? ⟨wr.heap.size, 0, none⟩ = some (.bool ib) ∧ wz.cell? ⟨wr.heap.size, 1, none⟩ = some (.int .i64 ii) ∧ wz.cell? ⟨wr.heap.size, 2, none⟩ = some (.string is) ∧ wz.cell? ⟨w'.heap.size, 3, none⟩ = some (.slice (some ⟨b, off, none⟩) l.length c) ∧ wz.cell? ⟨b, off + j * 7 + 3, none⟩ = some (.int .i64 k1) ∧ wz.cell? ⟨b, off + j * 7 + 4, none⟩ = some (.int .i64 n1) ∧ wz.cell? ⟨b, off + j * 7 + 5, none⟩ = some (.string t1) ∧ wz.cell? ⟨b, off + j * 7 + 6, none⟩ = some (.slice A1 l1 e1))) (by kernel_rfl) ?_ (fun hHeld => ?_)
            · exact ⟨da0, da1, da2, da3, da4, da5, da6, da7⟩
            refine Held.tk (v := ?v26) Held.op0 (by assumption) ?_
            try simp only [Act.put, Held.sa, Held.sz, Held.ss]
            refine Held.tk (v := ?v27) Held.op1 (by assumption) ?_
            try simp only [Act.put, Held.sa, Held.sz, Held.ss]
            refine wpAnyH_ready (rs := [2]) (by kernel_rfl) (by simp) ?_
            refine AllReadyH.cons Held.op2 (fun K hK => ?_) AllReadyH.nil
            go_simp
            go_at_call 81; refine (HN.out _ HZ1.out).mono ?_; rintro e w2 ⟨rfl, hb2⟩; have HZ2 := Lib.hid (HZ1.out.trans (hb2.mono (by have := HZ1.out.size; omega))); have HY2 := Lib.hid (HY1.out.trans (hb2.mono (by have := HY1.out.size; omega))); have HX2 := Lib.hid (blk_below HX1.out hb2); have HI2 := Lib.hid (blk_below HI1.out hb2); have ya0 := HI2.out.cell 0; have ya1 := HI2.out.cell 1; have ya2 := HI2.out.cell 2; have ya3 := HX2.out.cell 3; have ya4 := (HZ2.out.cell (p := ⟨b, off + j * 7 + 3, none⟩) hbB).trans HC3.out; have ya5 := (HZ2.out.cell (p := ⟨b, off + j * 7 + 4, none⟩) hbB).trans HC4.out; have ya6 := (HZ2.out.cell (p := ⟨b, off + j * 7 + 5, none⟩) hbB).trans HC5.out; have ya7 := (HZ2.out.cell (p := ⟨b, off + j * 7 + 6, none⟩) hbB).trans HC6.out; clear hb2
            try (go_wp2_with fail)
            refine hK.out _ _ ?_ (fun hHeld => ?_)
            · exact ⟨ya0, ya1, ya2, ya3, ya4, ya5, ya6, ya7⟩
            clear hK K
            try simp only [Act.put, Held.sa, Held.sz, Held.ss]
            refine Held.tk (v := ?v29) Held.op3 (by assumption) ?_
            try simp only [Act.put, Held.sa, Held.sz, Held.ss]
            refine Held.tk (v := ?v30) Held.op4 (by assumption) ?_
            try simp only [Act.put, Held.sa, Held.sz, Held.ss]
            refine Held.tk (v := ?v31) Held.op5 (by assumption) ?_
            try simp only [Act.put, Held.sa, Held.sz, Held.ss]
            refine Held.tk (v := ?v32) Held.op6 (by assumption) ?_
            try simp only [Act.put, Held.sa, Held.sz, Held.ss]
            refine Held.tk (v := ?v33) Held.op7 (by assumption) ?_
            try simp only [Act.put, Held.sa, Held.sz, Held.ss]
            refine Held.tk (v := ?v34) Held.op8 (by assumption) ?_
            try simp only [Act.put, Held.sa, Held.sz, Held.ss]
            refine Held.tk (v := ?v35) Held.op9 (by assumption) ?_
            try simp only [Act.put, Held.sa, Held.sz, Held.ss]
            refine wpAnyH_ready (rs := [10]) (by kernel_rfl) (by simp) ?_
            refine AllReadyH.cons Held.op10 (fun K hK => ?_) AllReadyH.nil
            go_simp
            go_at_call 82; refine (HFd.out _ HZ2.out).mono ?_; rintro e w3 ⟨rfl, hb3⟩; have HZ3 := Lib.hid (HZ2.out.trans (hb3.mono (by have := HZ2.out.size; omega))); have HY3 := Lib.hid (HY2.out.trans (hb3.mono (by have := HY2.out.size; omega))); have HX3 := Lib.hid (blk_below HX2.out hb3); have HI3 := Lib.hid (blk_below HI2.out hb3); have za0 := HI3.out.cell 0; have za1 := HI3.out.cell 1; have za2 := HI3.out.cell 2; have za3 := HX3.out.cell 3; have za4 := (HZ3.out.cell (p := ⟨b, off + j * 7 + 3, none⟩) hbB).trans HC3.out; have za5 := (HZ3.out.cell (p := ⟨b, off + j * 7 + 4, none⟩) hbB).trans HC4.out; have za6 := (HZ3.out.cell (p := ⟨b, off + j * 7 + 5, none⟩) hbB).trans HC5.out; have za7 := (HZ3.out.cell (p := ⟨b, off + j * 7 + 6, none⟩) hbB).trans HC6.out; clear hb3
            try (go_wp2_with fail)
            refine hK.out _ _ ?_ (fun hHeld => ?_)
            · exact ⟨za0, za1, za2, za3, za4, za5, za6, za7⟩
            clear hK K
            try simp only [Act.put, Held.sa, Held.sz, Held.ss]
            refine Held.tk (v := ?v37) Held.op11 (by assumption) ?_
            try simp only [Act.put, Held.sa, Held.sz, Held.ss]
            refine Held.tk (v := ?v38) Held.op12 (by assumption) ?_
            try simp only [Act.put, Held.sa, Held.sz, Held.ss]
            refine Held.tk (v := ?v39) Held.op13 (by assumption) ?_
            try simp only [Act.put, Held.sa, Held.sz, Held.ss]
            refine Held.tk (v := ?v40) Held.op14 (by assumption) ?_
            try simp only [Act.put, Held.sa, Held.sz, Held.ss]
            refine Held.tk (v := ?v41) Held.op15 (by assumption) ?_
            try simp only [Act.put, Held.sa, Held.sz, Held.ss]
            refine Held.tk (v := ?v42) Held.op16 (by assumption) ?_
            try simp only [Act.put, Held.sa, Held.sz, Held.ss]
            refine Held.tk (v := ?v43) Held.op17 (by assumption) ?_
            try simp only [Act.put, Held.sa, Held.sz, Held.ss]
            refine Held.tk (v := ?v44) Held.op18 (by assumption) ?_
            try simp only [Act.put, Held.sa, Held.sz, Held.ss]
            refine Held.tk (v := ?v45) Held.op19 (by assumption) ?_
            try simp only [Act.put, Held.sa, Held.sz, Held.ss]
            refine Held.tk (v := ?v46) Held.op20 (by assumption) ?_
            try simp only [Act.put, Held.sa, Held.sz, Held.ss]
            refine Held.tk (v := ?v47) Held.op21 (by assumption) ?_
            try simp only [Act.put, Held.sa, Held.sz, Held.ss]
            refine wpAnyH_ready (rs := [22]) (by kernel_rfl) (by simp) ?_
            refine AllReadyH.cons Held.op22 (fun K hK => ?_) AllReadyH.nil
            go_simp
            go_at_call 17; refine (HR.out _ HZ3.out).mono ?_; rintro e w4 ⟨rfl, hb4⟩; have HZ4 := Lib.hid (HZ3.out.trans (hb4.mono (by have := HZ3.out.size; omega))); have HY4 := Lib.hid (HY3.out.trans (hb4.mono (by have := HY3.out.size; omega))); have HX4 := Lib.hid (blk_below HX3.out hb4); have HI4 := Lib.hid (blk_below HI3.out hb4); have va0 := HI4.out.cell 0; have va1 := HI4.out.cell 1; have va2 := HI4.out.cell 2; have va3 := HX4.out.cell 3; have va4 := (HZ4.out.cell (p := ⟨b, off + j * 7 + 3, none⟩) hbB).trans HC3.out; have va5 := (HZ4.out.cell (p := ⟨b, off + j * 7 + 4, none⟩) hbB).trans HC4.out; have va6 := (HZ4.out.cell (p := ⟨b, off + j * 7 + 5, none⟩) hbB).trans HC5.out; have va7 := (HZ4.out.cell (p := ⟨b, off + j * 7 + 6, none⟩) hbB).trans HC6.out; clear hb4
            try (go_wp2_with fail)
            refine hK.out _ _ ?_ (fun hHeld => ?_)
            · exact ⟨va0, va1, va2, va3, va4, va5, va6, va7⟩
            clear hK K
            try simp only [Act.put, Held.sa, Held.sz, Held.ss]
            refine Held.tk (v := ?v49) Held.op23 (by assumption) ?_
            try simp only [Act.put, Held.sa, Held.sz, Held.ss]
            refine Held.tk (v := ?v50) Held.op24 (by assumption) ?_
            try simp only [Act.put, Held.sa, Held.sz, Held.ss]
            refine wpAnyH_done (by kernel_rfl) ?_ _
            go_wp2_with fail
            go_ret
            exact ⟨rfl, HY4.out⟩
          | true =>
            have HD4 := Lib.hid (HD3.out.trans (if_pos rfl))
            clear HD3
            refine wp_region_held_drew (S := (fun wz => wz.cell? ⟨wr.heap.size, 0, none⟩ = some (.bool ib) ∧ wz.cell? ⟨wr.heap.size, 1, none⟩ = some (.int .i64 ii) ∧ wz.cell? ⟨wr.heap.size, 2, none⟩ = some (.string is) ∧ wz.cell? ⟨w'.heap.size, 3, none⟩ = some (.slice (some ⟨b, off, none⟩) l.length c) ∧ wz.cell? ⟨b, off + j * 7 + 3, none⟩ = some (.int .i64 k1) ∧ wz.cell? ⟨b, off + j * 7 + 4, none⟩ = some (.int .i64 n1) ∧ wz.cell? ⟨b, off + j * 7 + 5, none⟩ = some (.string t1) ∧ wz.cell? ⟨b, off + j * 7 + 6, none⟩ = some (.slice A1 l1 e1))) (by kernel_rfl) ?_ (fun hHeld => ?_)
            · exact ⟨da0, da1, da2, da3, da4, da5, da6, da7⟩
            refine Held.tk (v := ?v51) Held.op0 (by assumption) ?_
            try simp only [Act.put, Held.sa, Held.sz, Held.ss]
            refine Held.tk (v := ?v52) Held.op1 (by assumption) ?_
            try simp only [Act.put, Held.sa, Held.sz, Held.ss]
            refine wpAnyH_ready (rs := [2]) (by kernel_rfl) (by simp) ?_
            refine AllReadyH.cons Held.op2 (fun K hK => ?_) AllReadyH.nil
            go_simp
            go_at_call 81; refine (HN.out _ HZ1.out).mono ?_; rintro e w2 ⟨rfl, hb2⟩; have HZ2 := Lib.hid (HZ1.out.trans (hb2.mono (by have := HZ1.out.size; omega))); have HY2 := Lib.hid (HY1.out.trans (hb2.mono (by have := HY1.out.size; omega))); have HX2 := Lib.hid (blk_below HX1.out hb2); have HI2 := Lib.hid (blk_below HI1.out hb2); have ya0 := HI2.out.cell 0; have ya1 := HI2.out.cell 1; have ya2 := HI2.out.cell 2; have ya3 := HX2.out.cell 3; have ya4 := (HZ2.out.cell (p := ⟨b, off + j * 7 + 3, none⟩) hbB).trans HC3.out; have ya5 := (HZ2.out.cell (p := ⟨b, off + j * 7 + 4, none⟩) hbB).trans HC4.out; have ya6 := (HZ2.out.cell (p := ⟨b, off + j * 7 + 5, none⟩) hbB).trans HC5.out; have ya7 := (HZ2.out.cell (p := ⟨b, off + j * 7 + 6, none⟩) hbB).trans HC6.out; clear hb2
            try (go_wp2_with fail)
            refine hK.out _ _ ?_ (fun hHeld => ?_)
            · exact ⟨ya0, ya1, ya2, ya3, ya4, ya5, ya6, ya7⟩
            clear hK K
            try simp only [Act.put, Held.sa, Held.sz, Held.ss]
            refine Held.tk (v := ?v54) Held.op3 (by assumption) ?_
            try simp only [Act.put, Held.sa, Held.sz, Held.ss]
            refine Held.tk (v := ?v55) Held.op4 (by assumption) ?_
            try simp only [Act.put, Held.sa, Held.sz, Held.ss]
            refine Held.tk (v := ?v56) Held.op5 (by assumption) ?_
            try simp only [Act.put, Held.sa, Held.sz, Held.ss]
            refine Held.tk (v := ?v57) Held.op6 (by assumption) ?_
            try simp only [Act.put, Held.sa, Held.sz, Held.ss]
            refine Held.tk (v := ?v58) Held.op7 (by assumption) ?_
            try simp only [Act.put, Held.sa, Held.sz, Held.ss]
            refine Held.tk (v := ?v59) Held.op8 (by assumption) ?_
            try simp only [Act.put, Held.sa, Held.sz, Held.ss]
            refine Held.tk (v := ?v60) Held.op9 (by assumption) ?_
            try simp only [Act.put, Held.sa, Held.sz, Held.ss]
            refine wpAnyH_ready (rs := [10]) (by kernel_rfl) (by simp) ?_
            refine AllReadyH.cons Held.op10 (fun K hK => ?_) AllReadyH.nil
            go_simp
            go_at_call 82; refine (HFd.out _ HZ2.out).mono ?_; rintro e w3 ⟨rfl, hb3⟩; have HZ3 := Lib.hid (HZ2.out.trans (hb3.mono (by have := HZ2.out.size; omega))); have HY3 := Lib.hid (HY2.out.trans (hb3.mono (by have := HY2.out.size; omega))); have HX3 := Lib.hid (blk_below HX2.out hb3); have HI3 := Lib.hid (blk_below HI2.out hb3); have za0 := HI3.out.cell 0; have za1 := HI3.out.cell 1; have za2 := HI3.out.cell 2; have za3 := HX3.out.cell 3; have za4 := (HZ3.out.cell (p := ⟨b, off + j * 7 + 3, none⟩) hbB).trans HC3.out; have za5 := (HZ3.out.cell (p := ⟨b, off + j * 7 + 4, none⟩) hbB).trans HC4.out; have za6 := (HZ3.out.cell (p := ⟨b, off + j * 7 + 5, none⟩) hbB).trans HC5.out; have za7 := (HZ3.out.cell (p := ⟨b, off + j * 7 + 6, none⟩) hbB).trans HC6.out; clear hb3
            try (go_wp2_with fail)
            refine hK.out _ _ ?_ (fun hHeld => ?_)
            · exact ⟨za0, za1, za2, za3, za4, za5, za6, za7⟩
            clear hK K
            try simp only [Act.put, Held.sa, Held.sz, Held.ss]
            refine Held.tk (v := ?v62) Held.op11 (by assumption) ?_
            try simp only [Act.put, Held.sa, Held.sz, Held.ss]
            refine Held.tk (v := ?v63) Held.op12 (by assumption) ?_
            try simp only [Act.put, Held.sa, Held.sz, Held.ss]
            refine Held.tk (v := ?v64) Held.op13 (by assumption) ?_
            try simp only [Act.put, Held.sa, Held.sz, Held.ss]
            refine Held.tk (v := ?v65) Held.op14 (by assumption) ?_
            try simp only [Act.put, Held.sa, Held.sz, Held.ss]
            refine Held.tk (v := ?v66) Held.op15 (by assumption) ?_
            try simp only [Act.put, Held.sa, Held.sz, Held.ss]
            refine Held.tk (v := ?v67) Held.op16 (by assumption) ?_
            try simp only [Act.put, Held.sa, Held.sz, Held.ss]
            refine Held.tk (v := ?v68) Held.op17 (by assumption) ?_
            try simp only [Act.put, Held.sa, Held.sz, Held.ss]
            refine Held.tk (v := ?v69) Held.op18 (by assumption) ?_
            try simp only [Act.put, Held.sa, Held.sz, Held.ss]
            refine Held.tk (v := ?v70) Held.op19 (by assumption) ?_
            try simp only [Act.put, Held.sa, Held.sz, Held.ss]
            refine Held.tk (v := ?v71) Held.op20 (by assumption) ?_
            try simp only [Act.put, Held.sa, Held.sz, Held.ss]
            refine Held.tk (v := ?v72) Held.op21 (by assumption) ?_
            try simp only [Act.put, Held.sa, Held.sz, Held.ss]
            refine wpAnyH_ready (rs := [22]) (by kernel_rfl) (by simp) ?_
            refine AllReadyH.cons Held.op22 (fun K hK => ?_) AllReadyH.nil
            go_simp
            go_at_call 17; refine (HR.out _ HZ3.out).mono ?_; rintro e w4 ⟨rfl, hb4⟩; have HZ4 := Lib.hid (HZ3.out.trans (hb4.mono (by have := HZ3.out.size; omega))); have HY4 := Lib.hid (HY3.out.trans (hb4.mono (by have := HY3.out.size; omega))); have HX4 := Lib.hid (blk_below HX3.out hb4); have HI4 := Lib.hid (blk_below HI3.out hb4); have va0 := HI4.out.cell 0; have va1 := HI4.out.cell 1; have va2 := HI4.out.cell 2; have va3 := HX4.out.cell 3; have va4 := (HZ4.out.cell (p := ⟨b, off + j * 7 + 3, none⟩) hbB).trans HC3.out; have va5 := (HZ4.out.cell (p := ⟨b, off + j * 7 + 4, none⟩) hbB).trans HC4.out; have va6 := (HZ4.out.cell (p := ⟨b, off + j * 7 + 5, none⟩) hbB).trans HC5.out; have va7 := (HZ4.out.cell (p := ⟨b, off + j * 7 + 6, none⟩) hbB).trans HC6.out; clear hb4
            try (go_wp2_with fail)
            refine hK.out _ _ ?_ (fun hHeld => ?_)
            · exact ⟨va0, va1, va2, va3, va4, va5, va6, va7⟩
            clear hK K
            try simp only [Act.put, Held.sa, Held.sz, Held.ss]
            refine Held.tk (v := ?v74) Held.op23 (by assumption) ?_
            try simp only [Act.put, Held.sa, Held.sz, Held.ss]
            refine Held.tk (v := ?v75) Held.op24 (by assumption) ?_
            try simp only [Act.put, Held.sa, Held.sz, Held.ss]
            refine wpAnyH_done (by kernel_rfl) ?_ _
            have y1 := HX4.out.cell 1
            by_cases hcc : ib = false ∧ 0 ≤ n ∧ n ≤ ii
            · have hM : M = false := HD4.out.trans (if_pos hcc)
              subst hM
              obtain ⟨rfl, hc1, hc2⟩ := hcc
              clear HD4
              go_wp2_with fail
              go_ret
              exact ⟨rfl, HY4.out⟩
            · have HD5 := Lib.hid (HD4.out.trans (if_neg hcc))
              clear HD4
              cases ib with
              | true =>
                clear hcc
                go_wp2_with fail
                go_roundw
                case rel => exact ⟨j + 1, by omega, by go_num, HD5, HY4, HX4⟩
                case measure => simp [ixOf] <;> omega
              | false =>
                by_cases hc1 : 0 ≤ n
                · have hc2 : ¬ n ≤ ii := fun h => hcc ⟨rfl, hc1, h⟩
                  clear hcc
                  go_wp2_with fail
                  go_roundw
                  case rel => exact ⟨j + 1, by omega, by go_num, HD5, HY4, HX4⟩
                  case measure => simp [ixOf] <;> omega
                · clear hcc
                  go_wp2_with fail
                  go_roundw
                  case rel => exact ⟨j + 1, by omega, by go_num, HD5, HY4, HX4⟩
                  case measure => simp [ixOf] <;> omega
      · have hM : M = false := HD.out.trans (if_pos hne)
        subst hM
        clear HD HR HFM
        by_cases h1 : nb = ib
        · have h1 := h1.symm
          subst h1
          by_cases h2 : ni = ii
          · have h2 := h2.symm
            subst h2
            have b3 : (is.toList == ns.toList) = false := by
              simp only [beq_eq_false_iff_ne, ne_eq]
              exact fun h => hne (by rw [toListInj2 h])
            clear hne
            refine wp_region_held_drew (S := (fun wz => wz.cell? ⟨wr.heap.size, 0, none⟩ = some (.bool ib) ∧ wz.cell? ⟨wr.heap.size, 1, none⟩ = some (.int .i64 ii) ∧ wz.cell? ⟨wr.heap.size, 2, none⟩ = some (.string is) ∧ wz.cell? ⟨w'.heap.size, 3, none⟩ = some (.slice (some ⟨b, off, none⟩) l.length c) ∧ wz.cell? ⟨b, off + j * 7 + 3, none⟩ = some (.int .i64 k1) ∧ wz.cell? ⟨b, off + j * 7 + 4, none⟩ = some (.int .i64 n1) ∧ wz.cell? ⟨b, off + j * 7 + 5, none⟩ = some (.string t1) ∧ wz.cell? ⟨b, off + j * 7 + 6, none⟩ = some (.slice A1 l1 e1))) (by kernel_rfl) ?_ (fun hHeld => ?_)
            · exact ⟨da0, da1, da2, da3, da4, da5, da6, da7⟩
            refine Held.tk (v := ?v76) Held.op0 (by assumption) ?_
            try simp only [Act.put, Held.sa, Held.sz, Held.ss]
            refine Held.tk (v := ?v77) Held.op1 (by assumption) ?_
            try simp only [Act.put, Held.sa, Held.sz, Held.ss]
            refine wpAnyH_ready (rs := [2]) (by kernel_rfl) (by simp) ?_
            refine AllReadyH.cons Held.op2 (fun K hK => ?_) AllReadyH.nil
            go_simp
            go_at_call 81; refine (HN.out _ HZ1.out).mono ?_; rintro e w2 ⟨rfl, hb2⟩; have HZ2 := Lib.hid (HZ1.out.trans (hb2.mono (by have := HZ1.out.size; omega))); have HY2 := Lib.hid (HY1.out.trans (hb2.mono (by have := HY1.out.size; omega))); have HX2 := Lib.hid (blk_below HX1.out hb2); have HI2 := Lib.hid (blk_below HI1.out hb2); have ya0 := HI2.out.cell 0; have ya1 := HI2.out.cell 1; have ya2 := HI2.out.cell 2; have ya3 := HX2.out.cell 3; have ya4 := (HZ2.out.cell (p := ⟨b, off + j * 7 + 3, none⟩) hbB).trans HC3.out; have ya5 := (HZ2.out.cell (p := ⟨b, off + j * 7 + 4, none⟩) hbB).trans HC4.out; have ya6 := (HZ2.out.cell (p := ⟨b, off + j * 7 + 5, none⟩) hbB).trans HC5.out; have ya7 := (HZ2.out.cell (p := ⟨b, off + j * 7 + 6, none⟩) hbB).trans HC6.out; clear hb2
            try (go_wp2_with fail)
            refine hK.out _ _ ?_ (fun hHeld => ?_)
            · exact ⟨ya0, ya1, ya2, ya3, ya4, ya5, ya6, ya7⟩
            clear hK K
            try simp only [Act.put, Held.sa, Held.sz, Held.ss]
            refine Held.tk (v := ?v79) Held.op3 (by assumption) ?_
            try simp only [Act.put, Held.sa, Held.sz, Held.ss]
            refine Held.tk (v := ?v80) Held.op4 (by assumption) ?_
            try simp only [Act.put, Held.sa, Held.sz, Held.ss]
            refine wpAnyH_take (i := 5) (v := undef) Held.op5 (by kernel_rfl) (by kernel_rfl) (by kernel_rfl) (fun _ _ _ h => h) (Or.inr ⟨by rfl, rfl⟩) (by assumption) ?_
            try simp only [Act.put, Held.sa, Held.sz, Held.ss]
            refine wpAnyH_take (i := 6) (v := undef) Held.op6 (by kernel_rfl) (by kernel_rfl) (by kernel_rfl) (fun _ _ _ h => h) (Or.inr ⟨by rfl, rfl⟩) (by assumption) ?_
            try simp only [Act.put, Held.sa, Held.sz, Held.ss]
            refine wpAnyH_take (i := 7) (v := undef) Held.op7 (by kernel_rfl) (by kernel_rfl) (by kernel_rfl) (fun _ _ _ h => h) (Or.inr ⟨by rfl, rfl⟩) (by assumption) ?_
            try simp only [Act.put, Held.sa, Held.sz, Held.ss]
            refine wpAnyH_take (i := 8) (v := undef) Held.op8 (by kernel_rfl) (by kernel_rfl) (by kernel_rfl) (fun _ _ _ h => h) (Or.inr ⟨by rfl, rfl⟩) (by assumption) ?_
            try simp only [Act.put, Held.sa, Held.sz, Held.ss]
            refine wpAnyH_take (i := 9) (v := undef) Held.op9 (by kernel_rfl) (by kernel_rfl) (by kernel_rfl) (fun _ _ _ h => h) (Or.inr ⟨by rfl, rfl⟩) (by assumption) ?_
            try simp only [Act.put, Held.sa, Held.sz, Held.ss]
            refine wpAnyH_take (i := 10) (v := undef) Held.op10 (by kernel_rfl) (by kernel_rfl) (by kernel_rfl) (fun _ _ _ h => h) (Or.inr ⟨by rfl, rfl⟩) (by assumption) ?_
            try simp only [Act.put, Held.sa, Held.sz, Held.ss]
            refine wpAnyH_take (i := 11) (v := undef) Held.op11 (by kernel_rfl) (by kernel_rfl) (by kernel_rfl) (fun _ _ _ h => h) (Or.inr ⟨by rfl, rfl⟩) (by assumption) ?_
            try simp only [Act.put, Held.sa, Held.sz, Held.ss]
            refine Held.tk (v := ?v88) Held.op12 (by assumption) ?_
            try simp only [Act.put, Held.sa, Held.sz, Held.ss]
            refine Held.tk (v := ?v89) Held.op13 (by assumption) ?_
            try simp only [Act.put, Held.sa, Held.sz, Held.ss]
            refine wpAnyH_take (i := 14) (v := undef) Held.op14 (by kernel_rfl) (by kernel_rfl) (by kernel_rfl) (fun _ _ _ h => h) (Or.inr ⟨by rfl, rfl⟩) (by assumption) ?_
            try simp only [Act.put, Held.sa, Held.sz, Held.ss]
            refine wpAnyH_take (i := 15) (v := undef) Held.op15 (by kernel_rfl) (by kernel_rfl) (by kernel_rfl) (fun _ _ _ h => h) (Or.inr ⟨by rfl, rfl⟩) (by assumption) ?_
            try simp only [Act.put, Held.sa, Held.sz, Held.ss]
            refine wpAnyH_take (i := 16) (v := undef) Held.op16 (by kernel_rfl) (by kernel_rfl) (by kernel_rfl) (fun _ _ _ h => h) (Or.inr ⟨by rfl, rfl⟩) (by assumption) ?_
            try simp only [Act.put, Held.sa, Held.sz, Held.ss]
            refine wpAnyH_take (i := 17) (v := undef) Held.op17 (by kernel_rfl) (by kernel_rfl) (by kernel_rfl) (fun _ _ _ h => h) (Or.inr ⟨by rfl, rfl⟩) (by assumption) ?_
            try simp only [Act.put, Held.sa, Held.sz, Held.ss]
            refine wpAnyH_take (i := 18) (v := undef) Held.op18 (by kernel_rfl) (by kernel_rfl) (by kernel_rfl) (fun _ _ _ h => h) (Or.inr ⟨by rfl, rfl⟩) (by assumption) ?_
            try simp only [Act.put, Held.sa, Held.sz, Held.ss]
            refine wpAnyH_take (i := 19) (v := undef) Held.op19 (by kernel_rfl) (by kernel_rfl) (by kernel_rfl) (fun _ _ _ h => h) (Or.inr ⟨by rfl, rfl⟩) (by assumption) ?_
            try simp only [Act.put, Held.sa, Held.sz, Held.ss]
            refine wpAnyH_take (i := 20) (v := undef) Held.op20 (by kernel_rfl) (by kernel_rfl) (by kernel_rfl) (fun _ _ _ h => h) (Or.inr ⟨by rfl, rfl⟩) (by assumption) ?_
            try simp only [Act.put, Held.sa, Held.sz, Held.ss]
            refine wpAnyH_take (i := 21) (v := undef) Held.op21 (by kernel_rfl) (by kernel_rfl) (by kernel_rfl) (fun _ _ _ h => h) (Or.inr ⟨by rfl, rfl⟩) (by assumption) ?_
            try simp only [Act.put, Held.sa, Held.sz, Held.ss]
            refine wpAnyH_take (i := 22) (v := undef) Held.op22 (by kernel_rfl) (by kernel_rfl) (by kernel_rfl) (fun _ _ _ h => h) (Or.inr ⟨by rfl, rfl⟩) (by assumption) ?_
            try simp only [Act.put, Held.sa, Held.sz, Held.ss]
            refine wpAnyH_take (i := 23) (v := undef) Held.op23 (by kernel_rfl) (by kernel_rfl) (by kernel_rfl) (fun _ _ _ h => h) (Or.inr ⟨by rfl, rfl⟩) (by assumption) ?_
            try simp only [Act.put, Held.sa, Held.sz, Held.ss]
            refine Held.tk (v := ?v100) Held.op24 (by assumption) ?_
            try simp only [Act.put, Held.sa, Held.sz, Held.ss]
            refine wpAnyH_done (by kernel_rfl) ?_ _
            go_wp2_with fail
            go_ret
            exact ⟨rfl, HY2.out⟩
          · have b3 : (ii == ni) = false := by
              have : ¬ ii = ni := fun h => h2 h.symm
              simpa using this
            clear hne h2
            refine wp_region_held_drew (S := (fun wz => wz.cell? ⟨wr.heap.size, 0, none⟩ = some (.bool ib) ∧ wz.cell? ⟨wr.heap.size, 1, none⟩ = some (.int .i64 ii) ∧ wz.cell? ⟨wr.heap.size, 2, none⟩ = some (.string is) ∧ wz.cell? ⟨w'.heap.size, 3, none⟩ = some (.slice (some ⟨b, off, none⟩) l.length c) ∧ wz.cell? ⟨b, off + j * 7 + 3, none⟩ = some (.int .i64 k1) ∧ wz.cell? ⟨b, off + j * 7 + 4, none⟩ = some (.int .i64 n1) ∧ wz.cell? ⟨b, off + j * 7 + 5, none⟩ = some (.string t1) ∧ wz.cell? ⟨b, off + j * 7 + 6, none⟩ = some (.slice A1 l1 e1))) (by kernel_rfl) ?_ (fun hHeld => ?_)
            · exact ⟨da0, da1, da2, da3, da4, da5, da6, da7⟩
            refine Held.tk (v := ?v101) Held.op0 (by assumption) ?_
            try simp only [Act.put, Held.sa, Held.sz, Held.ss]
            refine Held.tk (v := ?v102) Held.op1 (by assumption) ?_
            try simp only [Act.put, Held.sa, Held.sz, Held.ss]
            refine wpAnyH_ready (rs := [2]) (by kernel_rfl) (by simp) ?_
            refine AllReadyH.cons Held.op2 (fun K hK => ?_) AllReadyH.nil
            go_simp
            go_at_call 81; refine (HN.out _ HZ1.out).mono ?_; rintro e w2 ⟨rfl, hb2⟩; have HZ2 := Lib.hid (HZ1.out.trans (hb2.mono (by have := HZ1.out.size; omega))); have HY2 := Lib.hid (HY1.out.trans (hb2.mono (by have := HY1.out.size; omega))); have HX2 := Lib.hid (blk_below HX1.out hb2); have HI2 := Lib.hid (blk_below HI1.out hb2); have ya0 := HI2.out.cell 0; have ya1 := HI2.out.cell 1; have ya2 := HI2.out.cell 2; have ya3 := HX2.out.cell 3; have ya4 := (HZ2.out.cell (p := ⟨b, off + j * 7 + 3, none⟩) hbB).trans HC3.out; have ya5 := (HZ2.out.cell (p := ⟨b, off + j * 7 + 4, none⟩) hbB).trans HC4.out; have ya6 := (HZ2.out.cell (p := ⟨b, off + j * 7 + 5, none⟩) hbB).trans HC5.out; have ya7 := (HZ2.out.cell (p := ⟨b, off + j * 7 + 6, none⟩) hbB).trans HC6.out; clear hb2
            try (go_wp2_with fail)
            refine hK.out _ _ ?_ (fun hHeld => ?_)
            · exact ⟨ya0, ya1, ya2, ya3, ya4, ya5, ya6, ya7⟩
            clear hK K
            try simp only [Act.put, Held.sa, Held.sz, Held.ss]
            refine Held.tk (v := ?v104) Held.op3 (by assumption) ?_
            try simp only [Act.put, Held.sa, Held.sz, Held.ss]
            refine Held.tk (v := ?v105) Held.op4 (by assumption) ?_
            try simp only [Act.put, Held.sa, Held.sz, Held.ss]
            refine wpAnyH_take (i := 5) (v := undef) Held.op5 (by kernel_rfl) (by kernel_rfl) (by kernel_rfl) (fun _ _ _ h => h) (Or.inr ⟨by rfl, rfl⟩) (by assumption) ?_
            try simp only [Act.put, Held.sa, Held.sz, Held.ss]
            refine wpAnyH_take (i := 6) (v := undef) Held.op6 (by kernel_rfl) (by kernel_rfl) (by kernel_rfl) (fun _ _ _ h => h) (Or.inr ⟨by rfl, rfl⟩) (by assumption) ?_
            try simp only [Act.put, Held.sa, Held.sz, Held.ss]
            refine wpAnyH_take (i := 7) (v := undef) Held.op7 (by kernel_rfl) (by kernel_rfl) (by kernel_rfl) (fun _ _ _ h => h) (Or.inr ⟨by rfl, rfl⟩) (by assumption) ?_
            try simp only [Act.put, Held.sa, Held.sz, Held.ss]
            refine wpAnyH_take (i := 8) (v := undef) Held.op8 (by kernel_rfl) (by kernel_rfl) (by kernel_rfl) (fun _ _ _ h => h) (Or.inr ⟨by rfl, rfl⟩) (by assumption) ?_
            try simp only [Act.put, Held.sa, Held.sz, Held.ss]
            refine wpAnyH_take (i := 9) (v := undef) Held.op9 (by kernel_rfl) (by kernel_rfl) (by kernel_rfl) (fun _ _ _ h => h) (Or.inr ⟨by rfl, rfl⟩) (by assumption) ?_
            try simp only [Act.put, Held.sa, Held.sz, Held.ss]
            refine wpAnyH_take (i := 10) (v := undef) Held.op10 (by kernel_rfl) (by kernel_rfl) (by kernel_rfl) (fun _ _ _ h => h) (Or.inr ⟨by rfl, rfl⟩) (by assumption) ?_
            try simp only [Act.put, Held.sa, Held.sz, Held.ss]
            refine wpAnyH_take (i := 11) (v := undef) Held.op11 (by kernel_rfl) (by kernel_rfl) (by kernel_rfl) (fun _ _ _ h => h) (Or.inr ⟨by rfl, rfl⟩) (by assumption) ?_
            try simp only [Act.put, Held.sa, Held.sz, Held.ss]
            refine Held.tk (v := ?v113) Held.op12 (by assumption) ?_
            try simp only [Act.put, Held.sa, Held.sz, Held.ss]
            refine Held.tk (v := ?v114) Held.op13 (by assumption) ?_
            try simp only [Act.put, Held.sa, Held.sz, Held.ss]
            refine wpAnyH_take (i := 14) (v := undef) Held.op14 (by kernel_rfl) (by kernel_rfl) (by kernel_rfl) (fun _ _ _ h => h) (Or.inr ⟨by rfl, rfl⟩) (by assumption) ?_
            try simp only [Act.put, Held.sa, Held.sz, Held.ss]
            refine wpAnyH_take (i := 15) (v := undef) Held.op15 (by kernel_rfl) (by kernel_rfl) (by kernel_rfl) (fun _ _ _ h => h) (Or.inr ⟨by rfl, rfl⟩) (by assumption) ?_
            try simp only [Act.put, Held.sa, Held.sz, Held.ss]
            refine wpAnyH_take (i := 16) (v := undef) Held.op16 (by kernel_rfl) (by kernel_rfl) (by kernel_rfl) (fun _ _ _ h => h) (Or.inr ⟨by rfl, rfl⟩) (by assumption) ?_
            try simp only [Act.put, Held.sa, Held.sz, Held.ss]
            refine wpAnyH_take (i := 17) (v := undef) Held.op17 (by kernel_rfl) (by kernel_rfl) (by kernel_rfl) (fun _ _ _ h => h) (Or.inr ⟨by rfl, rfl⟩) (by assumption) ?_
            try simp only [Act.put, Held.sa, Held.sz, Held.ss]
            refine wpAnyH_take (i := 18) (v := undef) Held.op18 (by kernel_rfl) (by kernel_rfl) (by kernel_rfl) (fun _ _ _ h => h) (Or.inr ⟨by rfl, rfl⟩) (by assumption) ?_
            try simp only [Act.put, Held.sa, Held.sz, Held.ss]
            refine wpAnyH_take (i := 19) (v := undef) Held.op19 (by kernel_rfl) (by kernel_rfl) (by kernel_rfl) (fun _ _ _ h => h) (Or.inr ⟨by rfl, rfl⟩) (by assumption) ?_
            try simp only [Act.put, Held.sa, Held.sz, Held.ss]
            refine wpAnyH_take (i := 20) (v := undef) Held.op20 (by kernel_rfl) (by kernel_rfl) (by kernel_rfl) (fun _ _ _ h => h) (Or.inr ⟨by rfl, rfl⟩) (by assumption) ?_
            try simp only [Act.put, Held.sa, Held.sz, Held.ss]
            refine wpAnyH_take (i := 21) (v := undef) Held.op21 (by kernel_rfl) (by kernel_rfl) (by kernel_rfl) (fun _ _ _ h => h) (Or.inr ⟨by rfl, rfl⟩) (by assumption) ?_
            try simp only [Act.put, Held.sa, Held.sz, Held.ss]
            refine wpAnyH_take (i := 22) (v := undef) Held.op22 (by kernel_rfl) (by kernel_rfl) (by kernel_rfl) (fun _ _ _ h => h) (Or.inr ⟨by rfl, rfl⟩) (by assumption) ?_
            try simp only [Act.put, Held.sa, Held.sz, Held.ss]
            refine wpAnyH_take (i := 23) (v := undef) Held.op23 (by kernel_rfl) (by kernel_rfl) (by kernel_rfl) (fun _ _ _ h => h) (Or.inr ⟨by rfl, rfl⟩) (by assumption) ?_
            try simp only [Act.put, Held.sa, Held.sz, Held.ss]
            refine Held.tk (v := ?v125) Held.op24 (by assumption) ?_
            try simp only [Act.put, Held.sa, Held.sz, Held.ss]
            refine wpAnyH_done (by kernel_rfl) ?_ _
            go_wp2_with fail
            go_ret
            exact ⟨rfl, HY2.out⟩
        · have b3 : (ib == nb) = false := by
            have : ¬ ib = nb := fun h => h1 h.symm
            simpa using this
          clear hne h1
          refine wp_region_held_drew (S := (fun wz => wz.cell? ⟨wr.heap.size, 0, none⟩ = some (.bool ib) ∧ wz.cell? ⟨wr.heap.size, 1, none⟩ = some (.int .i64 ii) ∧ wz.cell? ⟨wr.heap.size, 2, none⟩ = some (.string is) ∧ wz.cell? ⟨w'.heap.size, 3, none⟩ = some (.slice (some ⟨b, off, none⟩) l.length c) ∧ wz.cell? ⟨b, off + j * 7 + 3, none⟩ = some (.int .i64 k1) ∧ wz.cell? ⟨b, off + j * 7 + 4, none⟩ = some (.int .i64 n1) ∧ wz.cell? ⟨b, off + j * 7 + 5, none⟩ = some (.string t1) ∧ wz.cell? ⟨b, off + j * 7 + 6, none⟩ = some (.slice A1 l1 e1))) (by kernel_rfl) ?_ (fun hHeld => ?_)
          · exact ⟨da0, da1, da2, da3, da4, da5, da6, da7⟩
          refine Held.tk (v := ?v126) Held.op0 (by assumption) ?_
          try simp only [Act.put, Held.sa, Held.sz, Held.ss]
          refine Held.tk (v := ?v127) Held.op1 (by assumption) ?_
          try simp only [Act.put, Held.sa, Held.sz, Held.ss]
          refine wpAnyH_ready (rs := [2]) (by kernel_rfl) (by simp) ?_
          refine AllReadyH.cons Held.op2 (fun K hK => ?_) AllReadyH.nil
          go_simp
          go_at_call 81; refine (HN.out _ HZ1.out).mono ?_; rintro e w2 ⟨rfl, hb2⟩; have HZ2 := Lib.hid (HZ1.out.trans (hb2.mono (by have := HZ1.out.size; omega))); have HY2 := Lib.hid (HY1.out.trans (hb2.mono (by have := HY1.out.size; omega))); have HX2 := Lib.hid (blk_below HX1.out hb2); have HI2 := Lib.hid (blk_below HI1.out hb2); have ya0 := HI2.out.cell 0; have ya1 := HI2.out.cell 1; have ya2 := HI2.out.cell 2; have ya3 := HX2.out.cell 3; have ya4 := (HZ2.out.cell (p := ⟨b, off + j * 7 + 3, none⟩) hbB).trans HC3.out; have ya5 := (HZ2.out.cell (p := ⟨b, off + j * 7 + 4, none⟩) hbB).trans HC4.out; have ya6 := (HZ2.out.cell (p := ⟨b, off + j * 7 + 5, none⟩) hbB).trans HC5.out; have ya7 := (HZ2.out.cell (p := ⟨b, off + j * 7 + 6, none⟩) hbB).trans HC6.out; clear hb2
          try (go_wp2_with fail)
          refine hK.out _ _ ?_ (fun hHeld => ?_)
          · exact ⟨ya0, ya1, ya2, ya3, ya4, ya5, ya6, ya7⟩
          clear hK K
          try simp only [Act.put, Held.sa, Held.sz, Held.ss]
          refine Held.tk (v := ?v129) Held.op3 (by assumption) ?_
          try simp only [Act.put, Held.sa, Held.sz, Held.ss]
          refine Held.tk (v := ?v130) Held.op4 (by assumption) ?_
          try simp only [Act.put, Held.sa, Held.sz, Held.ss]
          refine wpAnyH_take (i := 5) (v := undef) Held.op5 (by kernel_rfl) (by kernel_rfl) (by kernel_rfl) (fun _ _ _ h => h) (Or.inr ⟨by rfl, rfl⟩) (by assumption) ?_
          try simp only [Act.put, Held.sa, Held.sz, Held.ss]
          refine wpAnyH_take (i := 6) (v := undef) Held.op6 (by kernel_rfl) (by kernel_rfl) (by kernel_rfl) (fun _ _ _ h => h) (Or.inr ⟨by rfl, rfl⟩) (by assumption) ?_
          try simp only [Act.put, Held.sa, Held.sz, Held.ss]
          refine wpAnyH_take (i := 7) (v := undef) Held.op7 (by kernel_rfl) (by kernel_rfl) (by kernel_rfl) (fun _ _ _ h => h) (Or.inr ⟨by rfl, rfl⟩) (by assumption) ?_
          try simp only [Act.put, Held.sa, Held.sz, Held.ss]
          refine wpAnyH_take (i := 8) (v := undef) Held.op8 (by kernel_rfl) (by kernel_rfl) (by kernel_rfl) (fun _ _ _ h => h) (Or.inr ⟨by rfl, rfl⟩) (by assumption) ?_
          try simp only [Act.put, Held.sa, Held.sz, Held.ss]
          refine wpAnyH_take (i := 9) (v := undef) Held.op9 (by kernel_rfl) (by kernel_rfl) (by kernel_rfl) (fun _ _ _ h => h) (Or.inr ⟨by rfl, rfl⟩) (by assumption) ?_
          try simp only [Act.put, Held.sa, Held.sz, Held.ss]
          refine wpAnyH_take (i := 10) (v := undef) Held.op10 (by kernel_rfl) (by kernel_rfl) (by kernel_rfl) (fun _ _ _ h => h) (Or.inr ⟨by rfl, rfl⟩) (by assumption) ?_
          try simp only [Act.put, Held.sa, Held.sz, Held.ss]
          refine wpAnyH_take (i := 11) (v := undef) Held.op11 (by kernel_rfl) (by kernel_rfl) (by kernel_rfl) (fun _ _ _ h => h) (Or.inr ⟨by rfl, rfl⟩) (by assumption) ?_
          try simp only [Act.put, Held.sa, Held.sz, Held.ss]
          refine Held.tk (v := ?v138) Held.op12 (by assumption) ?_
          try simp only [Act.put, Held.sa, Held.sz, Held.ss]
          refine Held.tk (v := ?v139) Held.op13 (by assumption) ?_
          try simp only [Act.put, Held.sa, Held.sz, Held.ss]
          refine wpAnyH_take (i := 14) (v := undef) Held.op14 (by kernel_rfl) (by kernel_rfl) (by kernel_rfl) (fun _ _ _ h => h) (Or.inr ⟨by rfl, rfl⟩) (by assumption) ?_
          try simp only [Act.put, Held.sa, Held.sz, Held.ss]
          refine wpAnyH_take (i := 15) (v := undef) Held.op15 (by kernel_rfl) (by kernel_rfl) (by kernel_rfl) (fun _ _ _ h => h) (Or.inr ⟨by rfl, rfl⟩) (by assumption) ?_
          try simp only [Act.put, Held.sa, Held.sz, Held.ss]
          refine wpAnyH_take (i := 16) (v := undef) Held.op16 (by kernel_rfl) (by kernel_rfl) (by kernel_rfl) (fun _ _ _ h => h) (Or.inr ⟨by rfl, rfl⟩) (by assumption) ?_
          try simp only [Act.put, Held.sa, Held.sz, Held.ss]
          refine wpAnyH_take (i := 17) (v := undef) Held.op17 (by kernel_rfl) (by kernel_rfl) (by kernel_rfl) (fun _ _ _ h => h) (Or.inr ⟨by rfl, rfl⟩) (by assumption) ?_
          try simp only [Act.put, Held.sa, Held.sz, Held.ss]
          refine wpAnyH_take (i := 18) (v := undef) Held.op18 (by kernel_rfl) (by kernel_rfl) (by kernel_rfl) (fun _ _ _ h => h) (Or.inr ⟨by rfl, rfl⟩) (by assumption) ?_
          try simp only [Act.put, Held.sa, Held.sz, Held.ss]
          refine wpAnyH_take (i := 19) (v := undef) Held.op19 (by kernel_rfl) (by kernel_rfl) (by kernel_rfl) (fun _ _ _ h => h) (Or.inr ⟨by rfl, rfl⟩) (by assumption) ?_
          try simp only [Act.put, Held.sa, Held.sz, Held.ss]
          refine wpAnyH_take (i := 20) (v := undef) Held.op20 (by kernel_rfl) (by kernel_rfl) (by kernel_rfl) (fun _ _ _ h => h) (Or.inr ⟨by rfl, rfl⟩) (by assumption) ?_
          try simp only [Act.put, Held.sa, Held.sz, Held.ss]
          refine wpAnyH_take (i := 21) (v := undef) Held.op21 (by kernel_rfl) (by kernel_rfl) (by kernel_rfl) (fun _ _ _ h => h) (Or.inr ⟨by rfl, rfl⟩) (by assumption) ?_
          try simp only [Act.put, Held.sa, Held.sz, Held.ss]
          refine wpAnyH_take (i := 22) (v := undef) Held.op22 (by kernel_rfl) (by kernel_rfl) (by kernel_rfl) (fun _ _ _ h => h) (Or.inr ⟨by rfl, rfl⟩) (by assumption) ?_
          try simp only [Act.put, Held.sa, Held.sz, Held.ss]
          refine wpAnyH_take (i := 23) (v := undef) Held.op23 (by kernel_rfl) (by kernel_rfl) (by kernel_rfl) (fun _ _ _ h => h) (Or.inr ⟨by rfl, rfl⟩) (by assumption) ?_
          try simp only [Act.put, Held.sa, Held.sz, Held.ss]
          refine Held.tk (v := ?v150) Held.op24 (by assumption) ?_
          try simp only [Act.put, Held.sa, Held.sz, Held.ss]
          refine wpAnyH_done (by kernel_rfl) ?_ _
          go_wp2_with fail
          go_ret
          exact ⟨rfl, HY2.out⟩
    · obtain rfl : j = l.length := by omega
      have hM : M = true := by rw [HL.out, List.drop_length, mayL]
      subst hM
      clear HI HV HL HA HW HF
      go_wp2_with fail
      go_ret
      exact ⟨rfl, HB.out⟩
set_option maxRecDepth 100000 in
set_option maxHeartbeats 4000000 in
theorem rlist_any (hBw : B ≤ w.heap.size) (n : Int) (t : ByteArray) (l : List GI) (A : Option Addr) (c b off : Nat) (C : Nat → Value) (hc : l.length ≤ c)
    (hA : 0 < l.length → A = some ⟨b, off, none⟩ ∧ b < B) (hi : ∀ i it, l[i]? = some it → ItemAt w b (off + i * 7) it (C i)) (hW : ∀ i it, l[i]? = some it → VAt w B it.val (C i))
    (hF : ∀ (i : Nat) (it : GI), l[i]? = some it → In64 it.int ∧ it.text.size ≤ 140737488351232)
    (ih : ∀ i it, l[i]? = some it → ∀ w' : World, Below B w w' → ∀ d : Int, 0 ≤ d → d ≤ 64 → Calls Tryz.prog 17 #[C i, .int .i64 d] w' fun e w'' => e = .returned (.bool (mayV it.val d)) ∧ Below w'.heap.size w' w'')
    (w' : World) (hb : Below B w w') (d : Int) (hd0 : 0 ≤ d) (hd1 : d ≤ 64) :
    Calls Tryz.prog 17 #[.agg #[.int .i64 4, .int .i64 n, .string t, .slice A l.length c], .int .i64 d] w' fun e w'' => e = .returned (.bool (if t.size = 0 ∧ -1 ≤ n ∧ l.length ≤ 2048 ∧ d < 64 then mayL l [] n d else false)) ∧ Below w'.heap.size w' w'' := by
  have HA := Lib.hid hA
  have HI := Lib.hid hi
  have HV := Lib.hid ih
  have HW := Lib.hid hW
  have HF := Lib.hid hF
  have HB0 := Lib.hid ((Below.refl w'.heap.size w').alloc (Nat.le_refl _) (.cells #[.int .i64 4, .int .i64 n, .string t, .slice A l.length c] 24))
  clear hA hi ih hW hF
  by_cases ht : t.size = 0
  · obtain rfl := empty_eq ht
    by_cases hn1 : n < -1
    · rw [if_neg (by omega)]
      clear HA HI HV HW HF
      go_enter Tryz.func17, Tryz.ntmps17
      go_wp2_with fail
      go_ret
      exact ⟨rfl, HB0.out⟩
    · by_cases hl : 2048 < l.length
      · rw [if_neg (by omega)]
        clear HA HI HV HW HF
        go_enter Tryz.func17, Tryz.ntmps17
        go_wp2_with fail
        go_ret
        exact ⟨rfl, HB0.out⟩
      · by_cases hd : 64 ≤ d
        · rw [if_neg (by omega)]
          clear HA HI HV HW HF
          go_enter Tryz.func17, Tryz.ntmps17
          go_wp2_with fail
          go_ret
          exact ⟨rfl, HB0.out⟩
        · rw [if_pos ⟨rfl, by omega, by omega, by omega⟩]
          exact rlist_main hBw n l A c b off C hc HA.out HI.out HW.out HF.out HV.out w' hb d hd0 (by omega) (by omega) (by omega)
  · rw [if_neg (fun h => ht h.1)]
    have bt := empty_no ht
    clear HA HI HV HW HF
    go_enter Tryz.func17, Tryz.ntmps17
    go_wp2_with fail
    go_ret
    exact ⟨rfl, HB0.out⟩
theorem rmay_any (hBw : B ≤ w.heap.size) {g : GV} {x : Value} (h : VAt w B g x) : Fit g → ∀ (w' : World), Below B w w' → ∀ d : Int, 0 ≤ d → d ≤ 64 →
    Calls Tryz.prog 17 #[x, .int .i64 d] w' fun e w'' => e = .returned (.bool (mayV g d)) ∧ Below w'.heap.size w' w'' := by
  induction h with
  | mk k n t l A c b off C hc hn hA hi hv ih =>
    intro hf w' hb d hd0 hd1
    cases hf with
    | mk _ _ _ _ hk hn' ht h1 h2 =>
    have ih' := fun i it hit => ih i it hit (h2 i it hit)
    by_cases h4 : k = 4
    · subst h4
      rw [mayV, if_pos rfl]
      exact rlist_any hBw n t l A c b off C hc hA hi hv h1 ih' w' hb d hd0 hd1
    · rw [mayV, if_neg h4]
      by_cases hkk : 0 ≤ k ∧ k ≤ 5
      · obtain rfl | rfl | rfl | rfl | rfl : k = 0 ∨ k = 1 ∨ k = 2 ∨ k = 3 ∨ k = 5 := by omega
        · exact rmay_0 n t A l.length c w' d
        · exact rmay_1 n t A l.length c w' d
        · exact rmay_2 n t A l.length c w' d
        · exact rmay_3 n t A l.length c w' d
        · exact rmay_5 n t A l.length c w' d
      · have e : flatB k n t = false := by
          unfold flatB
          rw [if_neg (by omega), if_neg (by omega), if_neg (by omega), if_neg (by omega), if_neg (by omega)]
        rw [e, Bool.and_false]
        exact rmay_no n t A l.length c w' d k hkk
end
end Dp
end Go.Proofs.YtopmodahdmnpjaaGreatDoor
