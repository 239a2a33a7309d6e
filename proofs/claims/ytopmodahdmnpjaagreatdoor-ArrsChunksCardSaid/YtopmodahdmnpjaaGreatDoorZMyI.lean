/- deep.items: may a list's items be: the walk. -/
import Derived.Test.YtopmodahdmnpjaaGreatDoorZMyA
import Derived.Test.YtopmodahdmnpjaaGreatDoorZDpBlQ
import Derived.Test.YtopmodahdmnpjaaGreatDoorZAppsQ
import Derived.Still
import Derived.StillTactics
import Derived.StillTail
import Derived.BigQuiet
import Derived.Deep.RegionHeld3
import Derived.Deep.CutBlock
import Derived.Deep.CutRange
import Derived.Deep.DeepCutAuto
import Derived.Carry
import Derived.Maps.Own
import Derived.Maps.OwnOps
namespace Go.Proofs.YtopmodahdmnpjaaGreatDoor
open Go Go.RowKit
namespace Dp
open Go.Proofs.YtopmodahdmnpjaaGreatDoor.Nm (normG keyV norm_any)
theorem normG_ok {b : Bool} {i : Int} {s : ByteArray} : ∃ nb ni ns, normG b i s = (nb, ni, ns) := ⟨_, _, _, rfl⟩
theorem toListInj2 {a b : ByteArray} (h : a.toList = b.toList) : a = b := by
  rw [ByteArray.toList_eq, ByteArray.toList_eq] at h
  exact ByteArray.ext (Array.toList_inj.mp h)
section
variable {w : World} {B : Nat}
set_option maxRecDepth 100000 in
set_option maxHeartbeats 4000000 in
theorem items_main (hBw : B ≤ w.heap.size) (hLib : ∀ w', Below B w w' → LibS w') (k n : Int) (l : List GI) (A : Option Addr) (c b off : Nat) (C : Nat → Value)
    (hA : 0 < l.length → A = some ⟨b, off, none⟩ ∧ b < B) (hi : ∀ i it, l[i]? = some it → ItemAt w b (off + i * 7) it (C i)) (hW : ∀ i it, l[i]? = some it → VAt w B it.val (C i))
    (hF : ∀ (i : Nat) (it : GI), l[i]? = some it → In64 it.int ∧ it.text.size ≤ 140737488351232)
    (ih : ∀ i it, l[i]? = some it → ∀ w' : World, Below B w w' → ∀ d : Int, 0 ≤ d → d ≤ 64 → Calls Tryz.prog 79 #[C i, .int .i64 d] w' fun e w'' => e = .returned (.bool (mayV it.val d)) ∧ Below w'.heap.size w' w'')
    (w' : World) (hb : Below B w w') (d : Int) (hd0 : 0 ≤ d) (hd1 : d < 64) (hl : l.length ≤ 2048) (hn1 : -1 ≤ n) :
    Calls Tryz.prog 139 #[.agg #[.int .i64 k, .int .i64 n, .string ⟨#[]⟩, .slice A l.length c], .int .i64 d] w' fun e w'' => e = .returned (.bool (mayL l [] n d)) ∧ Below w'.heap.size w' w'' := by
  have hB' : B ≤ w'.heap.size := Nat.le_trans hBw hb.size
  have HA := Lib.hid hA
  have HI := Lib.hid hi
  have HV := Lib.hid ih
  have HW := Lib.hid hW
  have HF := Lib.hid hF
  have HLb := Lib.hid hLib
  have Hb := Lib.hid hb
  obtain ⟨VO, HVO⟩ : ∃ z, Hid (z = Obj.cells #[.int .i64 k, .int .i64 n, .string ⟨#[]⟩, .slice A l.length c] 24) := ⟨_, rfl⟩
  have hal := fun (w1 : World) (o : Obj) => (Below.refl w1.heap.size w1).alloc (Nat.le_refl _) o
  have HB0 := Lib.hid ((((Below.refl w'.heap.size w').alloc (Nat.le_refl _) (.cells #[.int .i64 k, .int .i64 n, .string ⟨#[]⟩, .slice A l.length c] 24))).alloc (by simp) (.map #[] 0))
  have HX0 := Lib.hid (blk_below (Blk.new w' 24 #[.int .i64 k, .int .i64 n, .string ⟨#[]⟩, .slice A l.length c]) (hal _ (.map #[] 0)))
  have hm0 := MetAt.made (w'.alloc (.cells #[.int .i64 k, .int .i64 n, .string ⟨#[]⟩, .slice A l.length c] 24))
  have hw1 : (w'.alloc (.cells #[.int .i64 k, .int .i64 n, .string ⟨#[]⟩, .slice A l.length c] 24)).heap.size = w'.heap.size + 1 := by simp
  rw [hw1] at hm0
  have HM0 := Lib.hid hm0
  obtain ⟨M, HM⟩ : ∃ z, Hid (mayL l [] n d = z) := ⟨_, rfl⟩
  have HL0 : Hid (M = mayL (l.drop 0) (keysOf l 0) n d) := by
    show _ = _
    rw [← HM.out]
    rfl
  rw [HM.out]
  have HAL := Lib.hid hal
  clear hA hi ih hW hF hLib hb HM hm0 hw1 HVO VO hal
  have hmm := @run_makeMap Tryz.prog
  go_enter Tryz.func139, Tryz.ntmps139
  go_wp2_with fail
  go_loopw [30] (fun xi wx => ∃ (j : Nat), j ≤ l.length ∧ xi = .int .i64 j ∧ Hid (M = mayL (l.drop j) (keysOf l j) n d) ∧ Hid (Below w'.heap.size w' wx) ∧ Hid (Blk wx w'.heap.size 24 #[.int .i64 k, .int .i64 n, .string ⟨#[]⟩, .slice A l.length c]) ∧ Hid (MetAt wx (w'.heap.size + 1) j (keysOf l j))) (fun xi _ => l.length - (ixOf xi).toNat)
  case atStart => exact ⟨0, Nat.zero_le _, rfl, HL0, HB0, HX0, HM0⟩
  case round =>
    obtain ⟨j, hj, rfl, HL, HB, HX, HMt⟩ := hrel
    clear HB0 HL0 HX0 HM0
    by_cases hlt : j < l.length
    · obtain ⟨it, hit⟩ : ∃ it, l[j]? = some it := ⟨_, List.getElem?_eq_getElem hlt⟩
      obtain ⟨rfl, hbB⟩ := HA.out (by omega)
      have hbw : Below B w wr := Hb.out.trans (HB.out.mono hB')
      have hwr := HB.out.size
      have hml := HMt.out.lt
      obtain ⟨c0, c1, c2, v0, v1, v2, v3, e, c3, c4, c5, c6⟩ := (HI.out j it hit).below hbw hbB
      have hform := HW.out j it hit
      rw [e] at hform
      obtain ⟨k1, n1, t1, A1, l1, e1, rfl, rfl, rfl, rfl⟩ := hform.form
      have HD := Lib.hid (HL.out.trans (mayL_drop l j it hit n d))
      have HKS := Lib.hid (keysOf_succ l j it hit)
      obtain ⟨hki, hks⟩ := HF.out j it hit
      have hR := fun wz (hz : Below B w wz) => HV.out j it hit wz hz (d + 1) (by omega) (by omega)
      rw [e] at hR
      have HR := Lib.hid hR
      rw [keyG_eq] at HD HKS
      clear hform HW HV HI HL e hR HF
      generalize mayV it.val (d + 1) = q at *
      generalize it.isText = ib at *
      generalize it.int = ii at *
      generalize it.text = is at *
      have HN := Lib.hid (fun w1 hL => norm_any ii is w1 ib (by omega) hL)
      have hKO : KeyOK (ib, ii, is) := ⟨hki, hks⟩
      have HW0 := Lib.hid (fun W h => MetAt.look (w := W) (b := w'.heap.size + 1) (n := j) (ks := keysOf l j) h (ib, ii, is) hKO)
      have HKO := Lib.hid hKO
      clear hKO hki
      have HZ0 := Lib.hid (hbw.alloc (by omega) (.cells #[.bool ib, .int .i64 ii, .string is, .int .i64 k1, .int .i64 n1, .string t1, .slice A1 l1 e1] 34))
      have HY0 := Lib.hid (HB.out.alloc HB.out.size (.cells #[.bool ib, .int .i64 ii, .string is, .int .i64 k1, .int .i64 n1, .string t1, .slice A1 l1 e1] 34))
      have HX0 := Lib.hid (blk_below HX.out (HAL.out _ (.cells #[.bool ib, .int .i64 ii, .string is, .int .i64 k1, .int .i64 n1, .string t1, .slice A1 l1 e1] 34)))
      have HI0 := Lib.hid (Blk.new wr 34 #[.bool ib, .int .i64 ii, .string is, .int .i64 k1, .int .i64 n1, .string t1, .slice A1 l1 e1])
      have HM0 := Lib.hid (HMt.out.below (HAL.out _ (.cells #[.bool ib, .int .i64 ii, .string is, .int .i64 k1, .int .i64 n1, .string t1, .slice A1 l1 e1] 34)))
      clear HB HX HMt hbw
      obtain ⟨nb, ni, ns, hnorm⟩ := normG_ok (b := ib) (i := ii) (s := is)
      rw [hnorm] at HD HN
      clear hnorm
      have HN2 : Hid (∀ w1 : World, LibS w1 → Calls Tryz.prog 145 #[.agg #[.bool ib, .int .i64 ii, .string is]] w1 fun e w' => e = .returned (.agg #[.bool nb, .int .i64 ni, .string ns]) ∧ Below w1.heap.size w1 w') := HN
      clear HN
      go_wp2_with fail
      generalize wr.alloc (.cells #[.bool ib, .int .i64 ii, .string is, .int .i64 k1, .int .i64 n1, .string t1, .slice A1 l1 e1] 34) = wi at *
      have HZ1 := Lib.hid (drewN' HZ0.out 1)
      have HY1 := Lib.hid (drewN' HY0.out 1)
      have HX1 := Lib.hid (blk_below HX0.out (drewN' (Below.refl _ _) 1))
      have HI1 := Lib.hid (blk_below HI0.out (drewN' (Below.refl _ _) 1))
      have HM1 := Lib.hid (HM0.out.below (drewN' (Below.refl _ _) 1))
      have d0 := HI0.out.cell 0
      have d1 := HI0.out.cell 1
      have d2 := HI0.out.cell 2
      have d3 := HI0.out.cell 3
      have d4 := HI0.out.cell 4
      have d5 := HI0.out.cell 5
      have d6 := HI0.out.cell 6
      have hwrap : IntKind.i64.wrap (d + 1) = d + 1 := IntWalk.i64_in _ (by omega)
      clear HZ0 HY0 HX0 HI0 HM0
      by_cases hne : (nb, ni, ns) = (ib, ii, is)
      · have HD2 := Lib.hid (HD.out.trans (if_neg (fun h => h hne)))
        obtain ⟨h1, h23⟩ := Prod.mk.inj hne
        obtain ⟨h2, h3⟩ := Prod.mk.inj h23
        have h1 := h1.symm
        have h2 := h2.symm
        have h3 := h3.symm
        subst h1
        subst h2
        subst h3
        clear HD hne h23
        by_cases hmem : (ib, ii, is) ∈ keysOf l j
        · have hM : M = false := HD2.out.trans (if_pos hmem)
          subst hM
          have HQ : Hid (∀ W : World, MetAt W (w'.heap.size + 1) j (keysOf l j) → (Instr.lookup 178 (.map (some (w'.heap.size + 1))) (.agg #[.bool ib, .int .i64 ii, .string is]) false).run Tryz.prog W = .ok (.bool true) W) := fun W h => (HW0.out W h).trans (by rw [decide_eq_true hmem])
          clear HD2 HW0 hmem HR
          refine wp_region_held_drew (S := (fun w' => w'.cell? ⟨wr.heap.size, 0, none⟩ = some (.bool ib) ∧ w'.cell? ⟨wr.heap.size, 1, none⟩ = some (.int .i64 ii) ∧ w'.cell? ⟨wr.heap.size, 2, none⟩ = some (.string is) ∧ w'.cell? ⟨wr.heap.size, 3, none⟩ = some (.int .i64 k1) ∧ w'.cell? ⟨wr.heap.size, 4, none⟩ = some (.int .i64 n1) ∧ w'.cell? ⟨wr.heap.size, 5, none⟩ = some (.string t1) ∧ w'.cell? ⟨wr.heap.size, 6, none⟩ = some (.slice A1 l1 e1))) (by kernel_rfl) ?_ (fun hHeld => ?_)
          · exact ⟨d0, d1, d2, d3, d4, d5, d6⟩
          refine Held.tk (v := ?v1) Held.op0 (by assumption) ?_
          try simp only [Act.put, Held.sa, Held.sz, Held.ss]
          refine Held.tk (v := ?v2) Held.op1 (by assumption) ?_
          try simp only [Act.put, Held.sa, Held.sz, Held.ss]
          refine Held.tk (v := ?v3) Held.op3 (by assumption) ?_
          try simp only [Act.put, Held.sa, Held.sz, Held.ss]
          refine Held.tk (v := ?v4) Held.op4 (by assumption) ?_
          try simp only [Act.put, Held.sa, Held.sz, Held.ss]
          refine wpAnyH_ready (rs := [2]) (by kernel_rfl) (by simp) ?_
          refine AllReadyH.cons Held.op2 (fun K hK => ?_) AllReadyH.nil
          go_simp
          go_at_call 145; refine (HN2.out _ (HLb.out _ HZ1.out)).mono ?_; rintro e w1 ⟨rfl, hb1⟩; have HZ2 := Lib.hid (HZ1.out.trans (hb1.mono (by have := HZ1.out.size; omega))); have HY2 := Lib.hid (HY1.out.trans (hb1.mono (by have := HY1.out.size; omega))); have HX2 := Lib.hid (blk_below HX1.out hb1); have HI2 := Lib.hid (blk_below HI1.out hb1); have HM2 := Lib.hid (HM1.out.below hb1); have ya0 := HI2.out.cell 0; have ya1 := HI2.out.cell 1; have ya2 := HI2.out.cell 2; have ya3 := HI2.out.cell 3; have ya4 := HI2.out.cell 4; have ya5 := HI2.out.cell 5; have ya6 := HI2.out.cell 6; have hlook := HQ.out _ HM2.out; clear hb1
          try (go_wp2_with fail)
          refine hK.out _ _ ?_ (fun hHeld => ?_)
          · exact ⟨ya0, ya1, ya2, ya3, ya4, ya5, ya6⟩
          clear hK K
          try simp only [Act.put, Held.sa, Held.sz, Held.ss]
          refine Held.tk (v := ?v6) Held.op5 (by assumption) ?_
          try simp only [Act.put, Held.sa, Held.sz, Held.ss]
          refine Held.tk (v := ?v7) Held.op6 (by assumption) ?_
          try simp only [Act.put, Held.sa, Held.sz, Held.ss]
          refine Held.tk (v := ?v8) Held.op7 (by assumption) ?_
          try simp only [Act.put, Held.sa, Held.sz, Held.ss]
          refine Held.tk (v := ?v9) Held.op8 (by assumption) ?_
          try simp only [Act.put, Held.sa, Held.sz, Held.ss]
          refine Held.tk (v := ?v10) Held.op9 (by assumption) ?_
          try simp only [Act.put, Held.sa, Held.sz, Held.ss]
          refine wpAnyH_ready (rs := [10]) (by kernel_rfl) (by simp) ?_
          refine AllReadyH.cons Held.op10 (fun K hK => ?_) AllReadyH.nil
          go_simp
          refine hK.out _ _ ?_ (fun hHeld => ?_)
          · exact ⟨ya0, ya1, ya2, ya3, ya4, ya5, ya6⟩
          clear hK K
          try simp only [Act.put, Held.sa, Held.sz, Held.ss]
          refine Held.tk (v := ?v12) Held.op11 (by assumption) ?_
          try simp only [Act.put, Held.sa, Held.sz, Held.ss]
          refine Held.tk (v := ?v13) Held.op12 (by assumption) ?_
          try simp only [Act.put, Held.sa, Held.sz, Held.ss]
          refine wpAnyH_take (i := 13) (v := undef) Held.op13 (by kernel_rfl) (by kernel_rfl) (by kernel_rfl) (fun _ _ _ h => h) (Or.inr ⟨by rfl, rfl⟩) (by assumption) ?_
          try simp only [Act.put, Held.sa, Held.sz, Held.ss]
          refine wpAnyH_take (i := 14) (v := undef) Held.op14 (by kernel_rfl) (by kernel_rfl) (by kernel_rfl) (fun _ _ _ h => h) (Or.inr ⟨by rfl, rfl⟩) (by assumption) ?_
          try simp only [Act.put, Held.sa, Held.sz, Held.ss]
          refine wpAnyH_take (i := 15) (v := undef) Held.op15 (by kernel_rfl) (by kernel_rfl) (by kernel_rfl) (fun _ _ _ h => h) (Or.inr ⟨by rfl, rfl⟩) (by assumption) ?_
          try simp only [Act.put, Held.sa, Held.sz, Held.ss]
          refine wpAnyH_take (i := 16) (v := undef) Held.op16 (by kernel_rfl) (by kernel_rfl) (by kernel_rfl) (fun _ _ _ h => h) (Or.inr ⟨by rfl, rfl⟩) (by assumption) ?_
          try simp only [Act.put, Held.sa, Held.sz, Held.ss]
          refine wpAnyH_take (i := 17) (v := undef) Held.op17 (by kernel_rfl) (by kernel_rfl) (by kernel_rfl) (fun _ _ _ h => h) (Or.inr ⟨by rfl, rfl⟩) (by assumption) ?_
          try simp only [Act.put, Held.sa, Held.sz, Held.ss]
          refine wpAnyH_take (i := 18) (v := undef) Held.op18 (by kernel_rfl) (by kernel_rfl) (by kernel_rfl) (fun _ _ _ h => h) (Or.inr ⟨by rfl, rfl⟩) (by assumption) ?_
          try simp only [Act.put, Held.sa, Held.sz, Held.ss]
          refine Held.tk (v := ?v20) Held.op19 (by assumption) ?_
          try simp only [Act.put, Held.sa, Held.sz, Held.ss]
          refine wpAnyH_done (by kernel_rfl) ?_ _
          all_goals (go_wp2_with fail; go_ret; exact ⟨rfl, HY2.out⟩)
        · have HD3 := Lib.hid (HD2.out.trans (if_neg hmem))
          have HQ : Hid (∀ W : World, MetAt W (w'.heap.size + 1) j (keysOf l j) → (Instr.lookup 178 (.map (some (w'.heap.size + 1))) (.agg #[.bool ib, .int .i64 ii, .string is]) false).run Tryz.prog W = .ok (.bool false) W) := fun W h => (HW0.out W h).trans (by rw [decide_eq_false hmem])
          clear HD2 HW0 hmem
          cases q with
          | false =>
            have hM : M = false := HD3.out.trans (if_neg (by decide))
            subst hM
            clear HD3
            first
              | go_region_held3 (fun w' => w'.cell? ⟨wr.heap.size, 0, none⟩ = some (.bool ib) ∧ w'.cell? ⟨wr.heap.size, 1, none⟩ = some (.int .i64 ii) ∧ w'.cell? ⟨wr.heap.size, 2, none⟩ = some (.string is) ∧ w'.cell? ⟨wr.heap.size, 3, none⟩ = some (.int .i64 k1) ∧ w'.cell? ⟨wr.heap.size, 4, none⟩ = some (.int .i64 n1) ∧ w'.cell? ⟨wr.heap.size, 5, none⟩ = some (.string t1) ∧ w'.cell? ⟨wr.heap.size, 6, none⟩ = some (.slice A1 l1 e1)) (first | exact ⟨d0, d1, d2, d3, d4, d5, d6⟩ | exact ⟨ya0, ya1, ya2, ya3, ya4, ya5, ya6⟩ | exact ⟨za0, za1, za2, za3, za4, za5, za6⟩)
                  (first
                    | (go_at_call 145; refine (HN2.out _ (HLb.out _ HZ1.out)).mono ?_; rintro e w1 ⟨rfl, hb1⟩; have HZ2 := Lib.hid (HZ1.out.trans (hb1.mono (by have := HZ1.out.size; omega))); have HY2 := Lib.hid (HY1.out.trans (hb1.mono (by have := HY1.out.size; omega))); have HX2 := Lib.hid (blk_below HX1.out hb1); have HI2 := Lib.hid (blk_below HI1.out hb1); have HM2 := Lib.hid (HM1.out.below hb1); have ya0 := HI2.out.cell 0; have ya1 := HI2.out.cell 1; have ya2 := HI2.out.cell 2; have ya3 := HI2.out.cell 3; have ya4 := HI2.out.cell 4; have ya5 := HI2.out.cell 5; have ya6 := HI2.out.cell 6; have hlook := HQ.out _ HM2.out; clear hb1)
                    | (go_at_call 79; refine (HR.out _ HZ2.out).mono ?_; rintro e w2 ⟨rfl, hb2⟩; have HZ3 := Lib.hid (HZ2.out.trans (hb2.mono (by have := HZ2.out.size; omega))); have HY3 := Lib.hid (HY2.out.trans (hb2.mono (by have := HY2.out.size; omega))); have HX3 := Lib.hid (blk_below HX2.out hb2); have HI3 := Lib.hid (blk_below HI2.out hb2); have HM3 := Lib.hid (HM2.out.below hb2); have za0 := HI3.out.cell 0; have za1 := HI3.out.cell 1; have za2 := HI3.out.cell 2; have za3 := HI3.out.cell 3; have za4 := HI3.out.cell 4; have za5 := HI3.out.cell 5; have za6 := HI3.out.cell 6; clear hb2)
                  )
              | fail "held"
            go_wp2_with fail
            go_ret
            exact ⟨rfl, HY3.out⟩
          | true =>
            have HD4 := Lib.hid (HD3.out.trans (if_pos rfl))
            clear HD3
            first
              | go_region_held3 (fun w' => w'.cell? ⟨wr.heap.size, 0, none⟩ = some (.bool ib) ∧ w'.cell? ⟨wr.heap.size, 1, none⟩ = some (.int .i64 ii) ∧ w'.cell? ⟨wr.heap.size, 2, none⟩ = some (.string is) ∧ w'.cell? ⟨wr.heap.size, 3, none⟩ = some (.int .i64 k1) ∧ w'.cell? ⟨wr.heap.size, 4, none⟩ = some (.int .i64 n1) ∧ w'.cell? ⟨wr.heap.size, 5, none⟩ = some (.string t1) ∧ w'.cell? ⟨wr.heap.size, 6, none⟩ = some (.slice A1 l1 e1)) (first | exact ⟨d0, d1, d2, d3, d4, d5, d6⟩ | exact ⟨ya0, ya1, ya2, ya3, ya4, ya5, ya6⟩ | exact ⟨za0, za1, za2, za3, za4, za5, za6⟩)
                  (first
                    | (go_at_call 145; refine (HN2.out _ (HLb.out _ HZ1.out)).mono ?_; rintro e w1 ⟨rfl, hb1⟩; have HZ2 := Lib.hid (HZ1.out.trans (hb1.mono (by have := HZ1.out.size; omega))); have HY2 := Lib.hid (HY1.out.trans (hb1.mono (by have := HY1.out.size; omega))); have HX2 := Lib.hid (blk_below HX1.out hb1); have HI2 := Lib.hid (blk_below HI1.out hb1); have HM2 := Lib.hid (HM1.out.below hb1); have ya0 := HI2.out.cell 0; have ya1 := HI2.out.cell 1; have ya2 := HI2.out.cell 2; have ya3 := HI2.out.cell 3; have ya4 := HI2.out.cell 4; have ya5 := HI2.out.cell 5; have ya6 := HI2.out.cell 6; have hlook := HQ.out _ HM2.out; clear hb1)
                    | (go_at_call 79; refine (HR.out _ HZ2.out).mono ?_; rintro e w2 ⟨rfl, hb2⟩; have HZ3 := Lib.hid (HZ2.out.trans (hb2.mono (by have := HZ2.out.size; omega))); have HY3 := Lib.hid (HY2.out.trans (hb2.mono (by have := HY2.out.size; omega))); have HX3 := Lib.hid (blk_below HX2.out hb2); have HI3 := Lib.hid (blk_below HI2.out hb2); have HM3 := Lib.hid (HM2.out.below hb2); have za0 := HI3.out.cell 0; have za1 := HI3.out.cell 1; have za2 := HI3.out.cell 2; have za3 := HI3.out.cell 3; have za4 := HI3.out.cell 4; have za5 := HI3.out.cell 5; have za6 := HI3.out.cell 6; clear hb2)
                  )
              | fail "held"
            have x1 := HX3.out.cell 1
            by_cases hc : ib = false ∧ 0 ≤ n ∧ n ≤ ii
            · have hM : M = false := HD4.out.trans (if_pos hc)
              subst hM
              obtain ⟨rfl, hc1, hc2⟩ := hc
              clear HD4
              go_wp2_with fail
              go_ret
              exact ⟨rfl, HY3.out⟩
            · have HD5 := Lib.hid (HD4.out.trans (if_neg hc))
              clear HD4
              have hsz := HY3.out.size
              have hmlt := HM3.out.lt
              cases ib with
              | true =>
                clear hc
                go_wp2_with (at_mapUpdate; refine wpList_met_put rfl _ _ _ rfl rfl HM3.out (by unfold maxLen; omega) (_, ii, is) HKO.out rfl rfl ?_; intro w5 hm5 hg5; have HM5 := Lib.hid (HKS.out.symm ▸ hm5); have HY5 := Lib.hid (HY3.out.grown hg5 hsz (fun g h => by injection h with h; omega)); have HX5 := Lib.hid (HX3.out.grown hg5 (fun h => by injection h with h; omega)); clear hm5 hg5)
                go_roundw
                case rel => exact ⟨j + 1, by omega, by go_num, HD5, HY5, HX5, HM5⟩
                case measure => simp [ixOf] <;> omega
              | false =>
                by_cases hc1 : 0 ≤ n
                · have hc2 : ¬ n ≤ ii := fun h => hc ⟨rfl, hc1, h⟩
                  clear hc
                  go_wp2_with (at_mapUpdate; refine wpList_met_put rfl _ _ _ rfl rfl HM3.out (by unfold maxLen; omega) (_, ii, is) HKO.out rfl rfl ?_; intro w5 hm5 hg5; have HM5 := Lib.hid (HKS.out.symm ▸ hm5); have HY5 := Lib.hid (HY3.out.grown hg5 hsz (fun g h => by injection h with h; omega)); have HX5 := Lib.hid (HX3.out.grown hg5 (fun h => by injection h with h; omega)); clear hm5 hg5)
                  go_roundw
                  case rel => exact ⟨j + 1, by omega, by go_num, HD5, HY5, HX5, HM5⟩
                  case measure => simp [ixOf] <;> omega
                · clear hc
                  go_wp2_with (at_mapUpdate; refine wpList_met_put rfl _ _ _ rfl rfl HM3.out (by unfold maxLen; omega) (_, ii, is) HKO.out rfl rfl ?_; intro w5 hm5 hg5; have HM5 := Lib.hid (HKS.out.symm ▸ hm5); have HY5 := Lib.hid (HY3.out.grown hg5 hsz (fun g h => by injection h with h; omega)); have HX5 := Lib.hid (HX3.out.grown hg5 (fun h => by injection h with h; omega)); clear hm5 hg5)
                  go_roundw
                  case rel => exact ⟨j + 1, by omega, by go_num, HD5, HY5, HX5, HM5⟩
                  case measure => simp [ixOf] <;> omega
      · have hM : M = false := HD.out.trans (if_pos hne)
        subst hM
        clear HD HR HW0
        by_cases h1 : nb = ib
        · have h1 := h1.symm
          subst h1
          by_cases h2 : ni = ii
          · have h2 := h2.symm
            subst h2
            have b3 : (ns.toList == is.toList) = false := by
              simp only [beq_eq_false_iff_ne, ne_eq]
              exact fun h => hne (by rw [toListInj2 h])
            clear hne
            refine wp_region_held_drew (S := (fun w' => w'.cell? ⟨wr.heap.size, 0, none⟩ = some (.bool ib) ∧ w'.cell? ⟨wr.heap.size, 1, none⟩ = some (.int .i64 ii) ∧ w'.cell? ⟨wr.heap.size, 2, none⟩ = some (.string is) ∧ w'.cell? ⟨wr.heap.size, 3, none⟩ = some (.int .i64 k1) ∧ w'.cell? ⟨wr.heap.size, 4, none⟩ = some (.int .i64 n1) ∧ w'.cell? ⟨wr.heap.size, 5, none⟩ = some (.string t1) ∧ w'.cell? ⟨wr.heap.size, 6, none⟩ = some (.slice A1 l1 e1))) (by kernel_rfl) ?_ (fun hHeld => ?_)
            · exact ⟨d0, d1, d2, d3, d4, d5, d6⟩
            refine Held.tk (v := ?v21) Held.op0 (by assumption) ?_
            try simp only [Act.put, Held.sa, Held.sz, Held.ss]
            refine Held.tk (v := ?v22) Held.op1 (by assumption) ?_
            try simp only [Act.put, Held.sa, Held.sz, Held.ss]
            refine Held.tk (v := ?v23) Held.op3 (by assumption) ?_
            try simp only [Act.put, Held.sa, Held.sz, Held.ss]
            refine Held.tk (v := ?v24) Held.op4 (by assumption) ?_
            try simp only [Act.put, Held.sa, Held.sz, Held.ss]
            refine wpAnyH_ready (rs := [2]) (by kernel_rfl) (by simp) ?_
            refine AllReadyH.cons Held.op2 (fun K hK => ?_) AllReadyH.nil
            go_simp
            go_at_call 145; refine (HN2.out _ (HLb.out _ HZ1.out)).mono ?_; rintro e w1 ⟨rfl, hb1⟩; have HZ2 := Lib.hid (HZ1.out.trans (hb1.mono (by have := HZ1.out.size; omega))); have HY2 := Lib.hid (HY1.out.trans (hb1.mono (by have := HY1.out.size; omega))); have HX2 := Lib.hid (blk_below HX1.out hb1); have HI2 := Lib.hid (blk_below HI1.out hb1); have HM2 := Lib.hid (HM1.out.below hb1); have ya0 := HI2.out.cell 0; have ya1 := HI2.out.cell 1; have ya2 := HI2.out.cell 2; have ya3 := HI2.out.cell 3; have ya4 := HI2.out.cell 4; have ya5 := HI2.out.cell 5; have ya6 := HI2.out.cell 6; clear hb1
            try (go_wp2_with fail)
            refine hK.out _ _ ?_ (fun hHeld => ?_)
            · exact ⟨ya0, ya1, ya2, ya3, ya4, ya5, ya6⟩
            clear hK K
            try simp only [Act.put, Held.sa, Held.sz, Held.ss]
            refine Held.tk (v := ?v26) Held.op5 (by assumption) ?_
            try simp only [Act.put, Held.sa, Held.sz, Held.ss]
            refine Held.tk (v := ?v27) Held.op6 (by assumption) ?_
            try simp only [Act.put, Held.sa, Held.sz, Held.ss]
            refine wpAnyH_take (i := 7) (v := undef) Held.op7 (by kernel_rfl) (by kernel_rfl) (by kernel_rfl) (fun _ _ _ h => h) (Or.inr ⟨by rfl, rfl⟩) (by assumption) ?_
            try simp only [Act.put, Held.sa, Held.sz, Held.ss]
            refine wpAnyH_take (i := 8) (v := undef) Held.op8 (by kernel_rfl) (by kernel_rfl) (by kernel_rfl) (fun _ _ _ h => h) (Or.inr ⟨by rfl, rfl⟩) (by assumption) ?_
            try simp only [Act.put, Held.sa, Held.sz, Held.ss]
            refine wpAnyH_take (i := 9) (v := undef) Held.op9 (by kernel_rfl) (by kernel_rfl) (by kernel_rfl) (fun _ _ _ h => h) (Or.inr ⟨by rfl, rfl⟩) (by assumption) ?_
            try simp only [Act.put, Held.sa, Held.sz, Held.ss]
            refine wpAnyH_take (i := 10) (v := undef) Held.op10 (by kernel_rfl) (by kernel_rfl) (by kernel_rfl) (fun _ _ _ h => h) (Or.inr ⟨by rfl, rfl⟩) (by assumption) ?_
            try simp only [Act.put, Held.sa, Held.sz, Held.ss]
            refine Held.tk (v := ?v32) Held.op11 (by assumption) ?_
            try simp only [Act.put, Held.sa, Held.sz, Held.ss]
            refine Held.tk (v := ?v33) Held.op12 (by assumption) ?_
            try simp only [Act.put, Held.sa, Held.sz, Held.ss]
            refine wpAnyH_take (i := 13) (v := undef) Held.op13 (by kernel_rfl) (by kernel_rfl) (by kernel_rfl) (fun _ _ _ h => h) (Or.inr ⟨by rfl, rfl⟩) (by assumption) ?_
            try simp only [Act.put, Held.sa, Held.sz, Held.ss]
            refine wpAnyH_take (i := 14) (v := undef) Held.op14 (by kernel_rfl) (by kernel_rfl) (by kernel_rfl) (fun _ _ _ h => h) (Or.inr ⟨by rfl, rfl⟩) (by assumption) ?_
            try simp only [Act.put, Held.sa, Held.sz, Held.ss]
            refine wpAnyH_take (i := 15) (v := undef) Held.op15 (by kernel_rfl) (by kernel_rfl) (by kernel_rfl) (fun _ _ _ h => h) (Or.inr ⟨by rfl, rfl⟩) (by assumption) ?_
            try simp only [Act.put, Held.sa, Held.sz, Held.ss]
            refine wpAnyH_take (i := 16) (v := undef) Held.op16 (by kernel_rfl) (by kernel_rfl) (by kernel_rfl) (fun _ _ _ h => h) (Or.inr ⟨by rfl, rfl⟩) (by assumption) ?_
            try simp only [Act.put, Held.sa, Held.sz, Held.ss]
            refine wpAnyH_take (i := 17) (v := undef) Held.op17 (by kernel_rfl) (by kernel_rfl) (by kernel_rfl) (fun _ _ _ h => h) (Or.inr ⟨by rfl, rfl⟩) (by assumption) ?_
            try simp only [Act.put, Held.sa, Held.sz, Held.ss]
            refine wpAnyH_take (i := 18) (v := undef) Held.op18 (by kernel_rfl) (by kernel_rfl) (by kernel_rfl) (fun _ _ _ h => h) (Or.inr ⟨by rfl, rfl⟩) (by assumption) ?_
            try simp only [Act.put, Held.sa, Held.sz, Held.ss]
            refine Held.tk (v := ?v40) Held.op19 (by assumption) ?_
            try simp only [Act.put, Held.sa, Held.sz, Held.ss]
            refine wpAnyH_done (by kernel_rfl) ?_ _
            all_goals (go_wp2_with fail; go_ret; exact ⟨rfl, HY2.out⟩)
          · have b3 : (ni == ii) = false := by simpa using h2
            clear hne h2
            refine wp_region_held_drew (S := (fun w' => w'.cell? ⟨wr.heap.size, 0, none⟩ = some (.bool ib) ∧ w'.cell? ⟨wr.heap.size, 1, none⟩ = some (.int .i64 ii) ∧ w'.cell? ⟨wr.heap.size, 2, none⟩ = some (.string is) ∧ w'.cell? ⟨wr.heap.size, 3, none⟩ = some (.int .i64 k1) ∧ w'.cell? ⟨wr.heap.size, 4, none⟩ = some (.int .i64 n1) ∧ w'.cell? ⟨wr.heap.size, 5, none⟩ = some (.string t1) ∧ w'.cell? ⟨wr.heap.size, 6, none⟩ = some (.slice A1 l1 e1))) (by kernel_rfl) ?_ (fun hHeld => ?_)
            · exact ⟨d0, d1, d2, d3, d4, d5, d6⟩
            refine Held.tk (v := ?v41) Held.op0 (by assumption) ?_
            try simp only [Act.put, Held.sa, Held.sz, Held.ss]
            refine Held.tk (v := ?v42) Held.op1 (by assumption) ?_
            try simp only [Act.put, Held.sa, Held.sz, Held.ss]
            refine Held.tk (v := ?v43) Held.op3 (by assumption) ?_
            try simp only [Act.put, Held.sa, Held.sz, Held.ss]
            refine Held.tk (v := ?v44) Held.op4 (by assumption) ?_
            try simp only [Act.put, Held.sa, Held.sz, Held.ss]
            refine wpAnyH_ready (rs := [2]) (by kernel_rfl) (by simp) ?_
            refine AllReadyH.cons Held.op2 (fun K hK => ?_) AllReadyH.nil
            go_simp
            go_at_call 145; refine (HN2.out _ (HLb.out _ HZ1.out)).mono ?_; rintro e w1 ⟨rfl, hb1⟩; have HZ2 := Lib.hid (HZ1.out.trans (hb1.mono (by have := HZ1.out.size; omega))); have HY2 := Lib.hid (HY1.out.trans (hb1.mono (by have := HY1.out.size; omega))); have HX2 := Lib.hid (blk_below HX1.out hb1); have HI2 := Lib.hid (blk_below HI1.out hb1); have HM2 := Lib.hid (HM1.out.below hb1); have ya0 := HI2.out.cell 0; have ya1 := HI2.out.cell 1; have ya2 := HI2.out.cell 2; have ya3 := HI2.out.cell 3; have ya4 := HI2.out.cell 4; have ya5 := HI2.out.cell 5; have ya6 := HI2.out.cell 6; clear hb1
            try (go_wp2_with fail)
            refine hK.out _ _ ?_ (fun hHeld => ?_)
            · exact ⟨ya0, ya1, ya2, ya3, ya4, ya5, ya6⟩
            clear hK K
            try simp only [Act.put, Held.sa, Held.sz, Held.ss]
            refine Held.tk (v := ?v46) Held.op5 (by assumption) ?_
            try simp only [Act.put, Held.sa, Held.sz, Held.ss]
            refine Held.tk (v := ?v47) Held.op6 (by assumption) ?_
            try simp only [Act.put, Held.sa, Held.sz, Held.ss]
            refine wpAnyH_take (i := 7) (v := undef) Held.op7 (by kernel_rfl) (by kernel_rfl) (by kernel_rfl) (fun _ _ _ h => h) (Or.inr ⟨by rfl, rfl⟩) (by assumption) ?_
            try simp only [Act.put, Held.sa, Held.sz, Held.ss]
            refine wpAnyH_take (i := 8) (v := undef) Held.op8 (by kernel_rfl) (by kernel_rfl) (by kernel_rfl) (fun _ _ _ h => h) (Or.inr ⟨by rfl, rfl⟩) (by assumption) ?_
            try simp only [Act.put, Held.sa, Held.sz, Held.ss]
            refine wpAnyH_take (i := 9) (v := undef) Held.op9 (by kernel_rfl) (by kernel_rfl) (by kernel_rfl) (fun _ _ _ h => h) (Or.inr ⟨by rfl, rfl⟩) (by assumption) ?_
            try simp only [Act.put, Held.sa, Held.sz, Held.ss]
            refine wpAnyH_take (i := 10) (v := undef) Held.op10 (by kernel_rfl) (by kernel_rfl) (by kernel_rfl) (fun _ _ _ h => h) (Or.inr ⟨by rfl, rfl⟩) (by assumption) ?_
            try simp only [Act.put, Held.sa, Held.sz, Held.ss]
            refine Held.tk (v := ?v52) Held.op11 (by assumption) ?_
            try simp only [Act.put, Held.sa, Held.sz, Held.ss]
            refine Held.tk (v := ?v53) Held.op12 (by assumption) ?_
            try simp only [Act.put, Held.sa, Held.sz, Held.ss]
            refine wpAnyH_take (i := 13) (v := undef) Held.op13 (by kernel_rfl) (by kernel_rfl) (by kernel_rfl) (fun _ _ _ h => h) (Or.inr ⟨by rfl, rfl⟩) (by assumption) ?_
            try simp only [Act.put, Held.sa, Held.sz, Held.ss]
            refine wpAnyH_take (i := 14) (v := undef) Held.op14 (by kernel_rfl) (by kernel_rfl) (by kernel_rfl) (fun _ _ _ h => h) (Or.inr ⟨by rfl, rfl⟩) (by assumption) ?_
            try simp only [Act.put, Held.sa, Held.sz, Held.ss]
            refine wpAnyH_take (i := 15) (v := undef) Held.op15 (by kernel_rfl) (by kernel_rfl) (by kernel_rfl) (fun _ _ _ h => h) (Or.inr ⟨by rfl, rfl⟩) (by assumption) ?_
            try simp only [Act.put, Held.sa, Held.sz, Held.ss]
            refine wpAnyH_take (i := 16) (v := undef) Held.op16 (by kernel_rfl) (by kernel_rfl) (by kernel_rfl) (fun _ _ _ h => h) (Or.inr ⟨by rfl, rfl⟩) (by assumption) ?_
            try simp only [Act.put, Held.sa, Held.sz, Held.ss]
            refine wpAnyH_take (i := 17) (v := undef) Held.op17 (by kernel_rfl) (by kernel_rfl) (by kernel_rfl) (fun _ _ _ h => h) (Or.inr ⟨by rfl, rfl⟩) (by assumption) ?_
            try simp only [Act.put, Held.sa, Held.sz, Held.ss]
            refine wpAnyH_take (i := 18) (v := undef) Held.op18 (by kernel_rfl) (by kernel_rfl) (by kernel_rfl) (fun _ _ _ h => h) (Or.inr ⟨by rfl, rfl⟩) (by assumption) ?_
            try simp only [Act.put, Held.sa, Held.sz, Held.ss]
            refine Held.tk (v := ?v60) Held.op19 (by assumption) ?_
            try simp only [Act.put, Held.sa, Held.sz, Held.ss]
            refine wpAnyH_done (by kernel_rfl) ?_ _
            all_goals (go_wp2_with fail; go_ret; exact ⟨rfl, HY2.out⟩)
        · have b3 : (nb == ib) = false := by simpa using h1
          clear hne h1
          refine wp_region_held_drew (S := (fun w' => w'.cell? ⟨wr.heap.size, 0, none⟩ = some (.bool ib) ∧ w'.cell? ⟨wr.heap.size, 1, none⟩ = some (.int .i64 ii) ∧ w'.cell? ⟨wr.heap.size, 2, none⟩ = some (.string is) ∧ w'.cell? ⟨wr.heap.size, 3, none⟩ = some (.int .i64 k1) ∧ w'.cell? ⟨wr.heap.size, 4, none⟩ = some (.int .i64 n1) ∧ w'.cell? ⟨wr.heap.size, 5, none⟩ = some (.string t1) ∧ w'.cell? ⟨wr.heap.size, 6, none⟩ = some (.slice A1 l1 e1))) (by kernel_rfl) ?_ (fun hHeld => ?_)
          · exact ⟨d0, d1, d2, d3, d4, d5, d6⟩
          refine Held.tk (v := ?v61) Held.op0 (by assumption) ?_
          try simp only [Act.put, Held.sa, Held.sz, Held.ss]
          refine Held.tk (v := ?v62) Held.op1 (by assumption) ?_
          try simp only [Act.put, Held.sa, Held.sz, Held.ss]
          refine Held.tk (v := ?v63) Held.op3 (by assumption) ?_
          try simp only [Act.put, Held.sa, Held.sz, Held.ss]
          refine Held.tk (v := ?v64) Held.op4 (by assumption) ?_
          try simp only [Act.put, Held.sa, Held.sz, Held.ss]
          refine wpAnyH_ready (rs := [2]) (by kernel_rfl) (by simp) ?_
          refine AllReadyH.cons Held.op2 (fun K hK => ?_) AllReadyH.nil
          go_simp
          go_at_call 145; refine (HN2.out _ (HLb.out _ HZ1.out)).mono ?_; rintro e w1 ⟨rfl, hb1⟩; have HZ2 := Lib.hid (HZ1.out.trans (hb1.mono (by have := HZ1.out.size; omega))); have HY2 := Lib.hid (HY1.out.trans (hb1.mono (by have := HY1.out.size; omega))); have HX2 := Lib.hid (blk_below HX1.out hb1); have HI2 := Lib.hid (blk_below HI1.out hb1); have HM2 := Lib.hid (HM1.out.below hb1); have ya0 := HI2.out.cell 0; have ya1 := HI2.out.cell 1; have ya2 := HI2.out.cell 2; have ya3 := HI2.out.cell 3; have ya4 := HI2.out.cell 4; have ya5 := HI2.out.cell 5; have ya6 := HI2.out.cell 6; clear hb1
          try (go_wp2_with fail)
          refine hK.out _ _ ?_ (fun hHeld => ?_)
          · exact ⟨ya0, ya1, ya2, ya3, ya4, ya5, ya6⟩
          clear hK K
          try simp only [Act.put, Held.sa, Held.sz, Held.ss]
          refine Held.tk (v := ?v66) Held.op5 (by assumption) ?_
          try simp only [Act.put, Held.sa, Held.sz, Held.ss]
          refine Held.tk (v := ?v67) Held.op6 (by assumption) ?_
          try simp only [Act.put, Held.sa, Held.sz, Held.ss]
          refine wpAnyH_take (i := 7) (v := undef) Held.op7 (by kernel_rfl) (by kernel_rfl) (by kernel_rfl) (fun _ _ _ h => h) (Or.inr ⟨by rfl, rfl⟩) (by assumption) ?_
          try simp only [Act.put, Held.sa, Held.sz, Held.ss]
          refine wpAnyH_take (i := 8) (v := undef) Held.op8 (by kernel_rfl) (by kernel_rfl) (by kernel_rfl) (fun _ _ _ h => h) (Or.inr ⟨by rfl, rfl⟩) (by assumption) ?_
          try simp only [Act.put, Held.sa, Held.sz, Held.ss]
          refine wpAnyH_take (i := 9) (v := undef) Held.op9 (by kernel_rfl) (by kernel_rfl) (by kernel_rfl) (fun _ _ _ h => h) (Or.inr ⟨by rfl, rfl⟩) (by assumption) ?_
          try simp only [Act.put, Held.sa, Held.sz, Held.ss]
          refine wpAnyH_take (i := 10) (v := undef) Held.op10 (by kernel_rfl) (by kernel_rfl) (by kernel_rfl) (fun _ _ _ h => h) (Or.inr ⟨by rfl, rfl⟩) (by assumption) ?_
          try simp only [Act.put, Held.sa, Held.sz, Held.ss]
          refine Held.tk (v := ?v72) Held.op11 (by assumption) ?_
          try simp only [Act.put, Held.sa, Held.sz, Held.ss]
          refine Held.tk (v := ?v73) Held.op12 (by assumption) ?_
          try simp only [Act.put, Held.sa, Held.sz, Held.ss]
          refine wpAnyH_take (i := 13) (v := undef) Held.op13 (by kernel_rfl) (by kernel_rfl) (by kernel_rfl) (fun _ _ _ h => h) (Or.inr ⟨by rfl, rfl⟩) (by assumption) ?_
          try simp only [Act.put, Held.sa, Held.sz, Held.ss]
          refine wpAnyH_take (i := 14) (v := undef) Held.op14 (by kernel_rfl) (by kernel_rfl) (by kernel_rfl) (fun _ _ _ h => h) (Or.inr ⟨by rfl, rfl⟩) (by assumption) ?_
          try simp only [Act.put, Held.sa, Held.sz, Held.ss]
          refine wpAnyH_take (i := 15) (v := undef) Held.op15 (by kernel_rfl) (by kernel_rfl) (by kernel_rfl) (fun _ _ _ h => h) (Or.inr ⟨by rfl, rfl⟩) (by assumption) ?_
          try simp only [Act.put, Held.sa, Held.sz, Held.ss]
          refine wpAnyH_take (i := 16) (v := undef) Held.op16 (by kernel_rfl) (by kernel_rfl) (by kernel_rfl) (fun _ _ _ h => h) (Or.inr ⟨by rfl, rfl⟩) (by assumption) ?_
          try simp only [Act.put, Held.sa, Held.sz, Held.ss]
          refine wpAnyH_take (i := 17) (v := undef) Held.op17 (by kernel_rfl) (by kernel_rfl) (by kernel_rfl) (fun _ _ _ h => h) (Or.inr ⟨by rfl, rfl⟩) (by assumption) ?_
          try simp only [Act.put, Held.sa, Held.sz, Held.ss]
          refine wpAnyH_take (i := 18) (v := undef) Held.op18 (by kernel_rfl) (by kernel_rfl) (by kernel_rfl) (fun _ _ _ h => h) (Or.inr ⟨by rfl, rfl⟩) (by assumption) ?_
          try simp only [Act.put, Held.sa, Held.sz, Held.ss]
          refine Held.tk (v := ?v80) Held.op19 (by assumption) ?_
          try simp only [Act.put, Held.sa, Held.sz, Held.ss]
          refine wpAnyH_done (by kernel_rfl) ?_ _
          all_goals (go_wp2_with fail; go_ret; exact ⟨rfl, HY2.out⟩)
    · obtain rfl : j = l.length := by omega
      have hM : M = true := by rw [HL.out, List.drop_length, mayL]
      subst hM
      clear HI HV HL HA HW HF
      go_wp2_with fail
      go_ret
      exact ⟨rfl, HB.out⟩
set_option maxRecDepth 100000 in
set_option maxHeartbeats 4000000 in
theorem items_any (hBw : B ≤ w.heap.size) (hLib : ∀ w', Below B w w' → LibS w') (k n : Int) (t : ByteArray) (l : List GI) (A : Option Addr) (c b off : Nat) (C : Nat → Value)
    (hn : l.length ≤ 9223372036854775807) (hA : 0 < l.length → A = some ⟨b, off, none⟩ ∧ b < B) (hi : ∀ i it, l[i]? = some it → ItemAt w b (off + i * 7) it (C i)) (hW : ∀ i it, l[i]? = some it → VAt w B it.val (C i))
    (hF : ∀ (i : Nat) (it : GI), l[i]? = some it → In64 it.int ∧ it.text.size ≤ 140737488351232)
    (ih : ∀ i it, l[i]? = some it → ∀ w' : World, Below B w w' → ∀ d : Int, 0 ≤ d → d ≤ 64 → Calls Tryz.prog 79 #[C i, .int .i64 d] w' fun e w'' => e = .returned (.bool (mayV it.val d)) ∧ Below w'.heap.size w' w'')
    (w' : World) (hb : Below B w w') (d : Int) (hd0 : 0 ≤ d) (hd1 : d ≤ 64) :
    Calls Tryz.prog 139 #[.agg #[.int .i64 k, .int .i64 n, .string t, .slice A l.length c], .int .i64 d] w' fun e w'' => e = .returned (.bool (if t.size = 0 ∧ -1 ≤ n ∧ l.length ≤ 2048 ∧ d < 64 then mayL l [] n d else false)) ∧ Below w'.heap.size w' w'' := by
  have hB' : B ≤ w'.heap.size := Nat.le_trans hBw hb.size
  have HA := Lib.hid hA
  have HI := Lib.hid hi
  have HV := Lib.hid ih
  have HW := Lib.hid hW
  have HF := Lib.hid hF
  have HLb := Lib.hid hLib
  have Hb := Lib.hid hb
  have HB0 := Lib.hid ((Below.refl w'.heap.size w').alloc (Nat.le_refl _) (.cells #[.int .i64 k, .int .i64 n, .string t, .slice A l.length c] 24))
  clear hA hi ih hW hF hLib hb
  by_cases ht : t.size = 0
  · obtain rfl : t = ⟨#[]⟩ := ByteArray.ext (Array.eq_empty_of_size_eq_zero ht)
    by_cases hn1 : n < -1
    · rw [if_neg (by omega)]
      clear HA HI HV HW HF HLb ht
      go_enter Tryz.func139, Tryz.ntmps139
      go_wp2_with fail
      go_ret
      exact ⟨rfl, HB0.out⟩
    · by_cases hl : 2048 < l.length
      · rw [if_neg (by omega)]
        clear HA HI HV HW HF HLb ht
        go_enter Tryz.func139, Tryz.ntmps139
        go_wp2_with fail
        go_ret
        exact ⟨rfl, HB0.out⟩
      · by_cases hd : 64 ≤ d
        · rw [if_neg (by omega)]
          clear HA HI HV HW HF HLb ht
          go_enter Tryz.func139, Tryz.ntmps139
          go_wp2_with fail
          go_ret
          exact ⟨rfl, HB0.out⟩
        · rw [if_pos (by omega)]
          exact items_main hBw HLb.out k n l A c b off C HA.out HI.out HW.out HF.out HV.out w' Hb.out d hd0 (by omega) (by omega) (by omega)
  · rw [if_neg (by omega)]
    have bt : (t.toList == []) = false := by
      simp only [beq_eq_false_iff_ne, ne_eq]
      intro h
      apply ht
      rw [ByteArray.toList_eq] at h
      show t.data.size = 0
      rw [← Array.length_toList, h]
      rfl
    clear HA HI HV HW HF HLb ht
    go_enter Tryz.func139, Tryz.ntmps139
    go_wp2_with fail
    go_ret
    exact ⟨rfl, HB0.out⟩
end
end Dp
end Go.Proofs.YtopmodahdmnpjaaGreatDoor
