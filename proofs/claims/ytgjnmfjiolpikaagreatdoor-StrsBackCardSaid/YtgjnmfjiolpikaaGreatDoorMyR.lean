/- ostlerref08.may at lists; both may at any value: the walks. -/
import Derived.Test.YtgjnmfjiolpikaaGreatDoorMyF
import Derived.Test.YtgjnmfjiolpikaaGreatDoorMyJ
import Derived.Test.YtgjnmfjiolpikaaGreatDoorMyM
import Derived.Test.YtgjnmfjiolpikaaGreatDoorNmN
namespace Go.Proofs.YtgjnmfjiolpikaaGreatDoor
open Go Go.RowKit
namespace Dp
open Go.Proofs.YtgjnmfjiolpikaaGreatDoor.Nm (normG keyV rnorm_any)
section
variable {w : World} {B : Nat}
set_option maxRecDepth 100000 in
set_option maxHeartbeats 4000000 in
theorem rlist_main (hBw : B ≤ w.heap.size) (n : Int) (l : List GI) (A : Option Addr) (c b off : Nat) (C : Nat → Value) (hc : l.length ≤ c)
    (hA : 0 < l.length → A = some ⟨b, off, none⟩ ∧ b < B) (hi : ∀ i it, l[i]? = some it → ItemAt w b (off + i * 7) it (C i)) (hW : ∀ i it, l[i]? = some it → VAt w B it.val (C i))
    (hF : ∀ (i : Nat) (it : GI), l[i]? = some it → In64 it.int ∧ it.text.size ≤ 140737488351232)
    (ih : ∀ i it, l[i]? = some it → ∀ w' : World, Below B w w' → ∀ d : Int, 0 ≤ d → d ≤ 64 → Calls Tryz.prog 13 #[C i, .int .i64 d] w' fun e w'' => e = .returned (.bool (mayV it.val d)) ∧ Below w'.heap.size w' w'')
    (w' : World) (hb : Below B w w') (d : Int) (hd0 : 0 ≤ d) (hd1 : d < 64) (hl : l.length ≤ 2048) (hn1 : -1 ≤ n) :
    Calls Tryz.prog 13 #[.agg #[.int .i64 4, .int .i64 n, .string ⟨#[]⟩, .slice A l.length c], .int .i64 d] w' fun e w'' => e = .returned (.bool (mayL l [] n d)) ∧ Below w'.heap.size w' w'' := by
  have hB' : B ≤ w'.heap.size := Nat.le_trans hBw hb.size
  have HA := Lib.hid hA
  have HI := Lib.hid hi
  have HV := Lib.hid ih
  have HW := Lib.hid hW
  have HF := Lib.hid hF
  have Hb := Lib.hid hb
  have hal := fun (w1 : World) (o : Obj) => (Below.refl w1.heap.size w1).alloc (Nat.le_refl _) o
  have HB0 := Lib.hid ((Below.refl w'.heap.size w').alloc (Nat.le_refl _) (.cells #[.int .i64 4, .int .i64 n, .string ⟨#[]⟩, .slice A l.length c] 25))
  have HX0 := Lib.hid (Blk.new w' 25 #[.int .i64 4, .int .i64 n, .string ⟨#[]⟩, .slice A l.length c])
  have HFG := Lib.hid (fun (hlt : 0 < l.length) j (hj : j ≤ l.length) kb ki ks w1 hz => rfind_any (w := w) (B := B) hBw hA hi j c hj (Nat.le_trans hj hc) (by omega) kb ki ks w1 hz)
  obtain ⟨M, HM⟩ : ∃ z, Hid (mayL l [] n d = z) := ⟨_, rfl⟩
  have HL0 : Hid (M = mayL (l.drop 0) (keysOf l 0) n d) := by
    show _ = _
    rw [← HM.out]
    rfl
  rw [HM.out]
  have HAL := Lib.hid hal
  clear hA hi ih hW hF hb HM hal
  go_enter Tryz.func13, Tryz.ntmps13
  go_wp2_with fail
  go_loopw [5] (fun xi wx => ∃ (j : Nat), j ≤ l.length ∧ xi = .int .i64 j ∧ Hid (M = mayL (l.drop j) (keysOf l j) n d) ∧ Hid (Below w'.heap.size w' wx) ∧ Hid (Blk wx w'.heap.size 25 #[.int .i64 4, .int .i64 n, .string ⟨#[]⟩, .slice A l.length c])) (fun xi _ => l.length - (ixOf xi).toNat)
  case atStart => exact ⟨0, Nat.zero_le _, rfl, HL0, HB0, HX0⟩
  case round =>
    obtain ⟨j, hj, rfl, HL, HB, HX⟩ := hrel
    clear HB0 HL0 HX0
    have b3 : wr.cell? ⟨w'.heap.size, 3, none⟩ = some (.slice A l.length c) := HX.out.cell 3
    by_cases hlt : j < l.length
    · obtain ⟨it, hit⟩ : ∃ it, l[j]? = some it := ⟨_, List.getElem?_eq_getElem hlt⟩
      obtain ⟨rfl, hbB⟩ := HA.out (by omega)
      have hbw : Below B w wr := Hb.out.trans (HB.out.mono hB')
      have hwr := HB.out.size
      have hvl := HX.out.lt
      have hh := HI.out j it hit
      obtain ⟨c0, c1, c2, v0, v1, v2, v3, e, c3, c4, c5, c6⟩ := hh.below hbw hbB
      obtain ⟨-, -, -, u0, u1, u2, u3, e9, x3, x4, x5, x6⟩ := hh
      have hform := HW.out j it hit
      rw [e] at hform
      obtain ⟨k1, n1, t1, A1, l1, e1, rfl, rfl, rfl, rfl⟩ := hform.form
      obtain ⟨rfl, rfl, rfl, rfl⟩ : Value.int .i64 k1 = u0 ∧ Value.int .i64 n1 = u1 ∧ Value.string t1 = u2 ∧ Value.slice A1 l1 e1 = u3 := by
        have := e.symm.trans e9
        simp at this
        exact this
      have HC3 := Lib.hid x3
      have HC4 := Lib.hid x4
      have HC5 := Lib.hid x5
      have HC6 := Lib.hid x6
      have HD := Lib.hid (HL.out.trans (mayL_drop l j it hit n d))
      have HKS := Lib.hid (keysOf_succ l j it hit)
      obtain ⟨hki, hks⟩ := HF.out j it hit
      have hR := fun wz (hz : Below B w wz) => HV.out j it hit wz hz (d + 1) (by omega) (by omega)
      rw [e] at hR
      have HR := Lib.hid hR
      rw [keyG_eq] at HD HKS
      clear hform HW HV HI HL e hR HF e9 x3 x4 x5 x6
      generalize mayV it.val (d + 1) = q at *
      generalize it.isText = ib at *
      generalize it.int = ii at *
      generalize it.text = is at *
      have hFd := HFG.out (by omega) j hj ib ii is
      have hfm := findK_mem (keysOf l j) (ib, ii, is) 0 (by omega)
      generalize findK (keysOf l j) (ib, ii, is) 0 = fk at *
      have HFd := Lib.hid hFd
      have HFM := Lib.hid hfm
      have hn0 := fun w1 => rnorm_any ii is w1 ib (by omega)
      obtain ⟨nb, ni, ns, hnorm⟩ := normG_ok (b := ib) (i := ii) (s := is)
      rw [hnorm] at HD hn0
      have HN : Hid (∀ w1 : World, Below B w w1 → Calls Tryz.prog 74 #[.agg #[.bool ib, .int .i64 ii, .string is]] w1 fun e w' => e = .returned (.agg #[.bool nb, .int .i64 ni, .string ns]) ∧ Below w1.heap.size w1 w') := fun w1 _ => hn0 w1
      clear hnorm hn0 hFd hfm HFG
      have HZ0 := Lib.hid (hbw.alloc (by omega) (.cells #[.bool ib, .int .i64 ii, .string is] 44))
      have HY0 := Lib.hid (HB.out.alloc HB.out.size (.cells #[.bool ib, .int .i64 ii, .string is] 44))
      have HX0 := Lib.hid (blk_below HX.out (HAL.out _ (.cells #[.bool ib, .int .i64 ii, .string is] 44)))
      have HI0 := Lib.hid (Blk.new wr 44 #[.bool ib, .int .i64 ii, .string is])
      clear HB HX hbw
      go_wp2_with fail
      generalize wr.alloc (.cells #[.bool ib, .int .i64 ii, .string is] 44) = wi at *
      have HZ1 := Lib.hid (drewN' HZ0.out 1)
      have HY1 := Lib.hid (drewN' HY0.out 1)
      have HX1 := Lib.hid (blk_below HX0.out (drewN' (Below.refl _ _) 1))
      have HI1 := Lib.hid (blk_below HI0.out (drewN' (Below.refl _ _) 1))
      have da0 := HI0.out.cell 0
      have da1 := HI0.out.cell 1
      have da2 := HI0.out.cell 2
      have da3 := HX0.out.cell 3
      have da4 := (HZ0.out.cell (p := ⟨b, off + j * 7 + 3, none⟩) hbB).trans HC3.out
      have da5 := (HZ0.out.cell (p := ⟨b, off + j * 7 + 4, none⟩) hbB).trans HC4.out
      have da6 := (HZ0.out.cell (p := ⟨b, off + j * 7 + 5, none⟩) hbB).trans HC5.out
      have da7 := (HZ0.out.cell (p := ⟨b, off + j * 7 + 6, none⟩) hbB).trans HC6.out
      have hwrap : IntKind.i64.wrap (d + 1) = d + 1 := IntWalk.i64_in _ (by omega)
      have hj0 : (0 : Int) ≤ (j : Int) := by omega
      have hjl : (j : Int) < (l.length : Int) := by omega
      have hjc : (j : Int) ≤ (c : Int) := by omega
      clear HZ0 HY0 HX0 HI0 b3
      by_cases hne : (nb, ni, ns) = (ib, ii, is)
      · have HD2 := Lib.hid (HD.out.trans (if_neg (fun h => h hne)))
        obtain ⟨h1, h23⟩ := Prod.mk.inj hne
        obtain ⟨h2, h3⟩ := Prod.mk.inj h23
        have h1 := h1.symm
        have h2 := h2.symm
        have h3 := h3.symm
        subst h1
        subst h2
        subst h3
        clear HD hne h23
        by_cases hmem : (ib, ii, is) ∈ keysOf l j
        · have hM : M = false := HD2.out.trans (if_pos hmem)
          subst hM
          have hf0 : 0 ≤ fk := of_decide_eq_true (HFM.out.trans (decide_eq_true hmem))
          clear HD2 hmem HR HFM
          refine wp_region_held_drew (S := (fun wz => wz.cell? ⟨wr.heap.size, 0, none⟩ = some (.bool ib) ∧ wz.cell? ⟨wr.heap.size, 1, none⟩ = some (.int .i64 ii) ∧ wz.cell? ⟨wr.heap.size, 2, none⟩ = some (.string is) ∧ wz.cell? ⟨w'.heap.size, 3, none⟩ = some (.slice (some ⟨b, off, none⟩) l.length c) ∧ wz.cell? ⟨b, off + j * 7 + 3, none⟩ = some (.int .i64 k1) ∧ wz.cell? ⟨b, off + j * 7 + 4, none⟩ = some (.int .i64 n1) ∧ wz.cell? ⟨b, off + j * 7 + 5, none⟩ = some (.string t1) ∧ wz.cell? ⟨b, off + j * 7 + 6, none⟩ = some (.slice A1 l1 e1))) (by kernel_rfl) ?_ (fun hHeld => ?_)
          · exact ⟨da0, da1, da2, da3, da4, da5, da6, da7⟩
          refine wpAnyH_take (i := 0) (v := ?v1) Held.op0 (by kernel_rfl) (by kernel_rfl) (by kernel_rfl) (fun _ _ _ h => h) (Or.inl ⟨by rfl, ?hy1⟩) (by assumption) ?rest1
          case hy1 => (intro wq hSq; (try dsimp only at hSq); first | (go_simp; done) | (go_simp; with_reducible rfl))
          try simp only [Act.put, List.setIfInBounds_toArray, List.set_cons_zero, List.set_cons_succ]
          refine wpAnyH_take (i := 1) (v := ?v2) Held.op1 (by kernel_rfl) (by kernel_rfl) (by kernel_rfl) (fun _ _ _ h => h) (Or.inl ⟨by rfl, ?hy2⟩) (by assumption) ?rest2
          case hy2 => (intro wq hSq; (try dsimp only at hSq); first | (go_simp; done) | (go_simp; with_reducible rfl))
          try simp only [Act.put, List.setIfInBounds_toArray, List.set_cons_zero, List.set_cons_succ]
          refine wpAnyH_ready (rs := [2]) (by kernel_rfl) (by simp) ?_
          refine AllReadyH.cons Held.op2 (fun K hK => ?_) AllReadyH.nil
          go_simp
          go_at_call 74; refine (HN.out _ HZ1.out).mono ?_; rintro e w2 ⟨rfl, hb2⟩; have HZ2 := Lib.hid (HZ1.out.trans (hb2.mono (by have := HZ1.out.size; omega))); have HY2 := Lib.hid (HY1.out.trans (hb2.mono (by have := HY1.out.size; omega))); have HX2 := Lib.hid (blk_below HX1.out hb2); have HI2 := Lib.hid (blk_below HI1.out hb2); have ya0 := HI2.out.cell 0; have ya1 := HI2.out.cell 1; have ya2 := HI2.out.cell 2; have ya3 := HX2.out.cell 3; have ya4 := (HZ2.out.cell (p := ⟨b, off + j * 7 + 3, none⟩) hbB).trans HC3.out; have ya5 := (HZ2.out.cell (p := ⟨b, off + j * 7 + 4, none⟩) hbB).trans HC4.out; have ya6 := (HZ2.out.cell (p := ⟨b, off + j * 7 + 5, none⟩) hbB).trans HC5.out; have ya7 := (HZ2.out.cell (p := ⟨b, off + j * 7 + 6, none⟩) hbB).trans HC6.out; clear hb2
          try (go_wp2_with fail)
          refine hK.out _ _ ?_ (fun hHeld => ?_)
          · exact ⟨ya0, ya1, ya2, ya3, ya4, ya5, ya6, ya7⟩
          clear hK K
          try simp only [Act.put, List.setIfInBounds_toArray, List.set_cons_zero, List.set_cons_succ]
          refine wpAnyH_take (i := 3) (v := ?v4) Held.op3 (by kernel_rfl) (by kernel_rfl) (by kernel_rfl) (fun _ _ _ h => h) (Or.inl ⟨by rfl, ?hy4⟩) (by assumption) ?rest4
          case hy4 => (intro wq hSq; (try dsimp only at hSq); first | (go_simp; done) | (go_simp; with_reducible rfl))
          try simp only [Act.put, List.setIfInBounds_toArray, List.set_cons_zero, List.set_cons_succ]
          refine wpAnyH_take (i := 4) (v := ?v5) Held.op4 (by kernel_rfl) (by kernel_rfl) (by kernel_rfl) (fun _ _ _ h => h) (Or.inl ⟨by rfl, ?hy5⟩) (by assumption) ?rest5
          case hy5 => (intro wq hSq; (try dsimp only at hSq); first | (go_simp; done) | (go_simp; with_reducible rfl))
          try simp only [Act.put, List.setIfInBounds_toArray, List.set_cons_zero, List.set_cons_succ]
          refine wpAnyH_take (i := 5) (v := ?v6) Held.op5 (by kernel_rfl) (by kernel_rfl) (by kernel_rfl) (fun _ _ _ h => h) (Or.inl ⟨by rfl, ?hy6⟩) (by assumption) ?rest6
          case hy6 => (intro wq hSq; (try dsimp only at hSq); first | (go_simp; done) | (go_simp; with_reducible rfl))
          try simp only [Act.put, List.setIfInBounds_toArray, List.set_cons_zero, List.set_cons_succ]
          refine wpAnyH_take (i := 6) (v := ?v7) Held.op6 (by kernel_rfl) (by kernel_rfl) (by kernel_rfl) (fun _ _ _ h => h) (Or.inl ⟨by rfl, ?hy7⟩) (by assumption) ?rest7
          case hy7 => (intro wq hSq; (try dsimp only at hSq); first | (go_simp; done) | (go_simp; with_reducible rfl))
          try simp only [Act.put, List.setIfInBounds_toArray, List.set_cons_zero, List.set_cons_succ]
          refine wpAnyH_take (i := 7) (v := ?v8) Held.op7 (by kernel_rfl) (by kernel_rfl) (by kernel_rfl) (fun _ _ _ h => h) (Or.inl ⟨by rfl, ?hy8⟩) (by assumption) ?rest8
          case hy8 => (intro wq hSq; (try dsimp only at hSq); first | (go_simp; done) | (go_simp; with_reducible rfl))
          try simp only [Act.put, List.setIfInBounds_toArray, List.set_cons_zero, List.set_cons_succ]
          refine wpAnyH_take (i := 8) (v := ?v9) Held.op8 (by kernel_rfl) (by kernel_rfl) (by kernel_rfl) (fun _ _ _ h => h) (Or.inl ⟨by rfl, ?hy9⟩) (by assumption) ?rest9
          case hy9 => (intro wq hSq; (try dsimp only at hSq); first | (go_simp; done) | (go_simp; with_reducible rfl))
          try simp only [Act.put, List.setIfInBounds_toArray, List.set_cons_zero, List.set_cons_succ]
          refine wpAnyH_take (i := 9) (v := ?v10) Held.op9 (by kernel_rfl) (by kernel_rfl) (by kernel_rfl) (fun _ _ _ h => h) (Or.inl ⟨by rfl, ?hy10⟩) (by assumption) ?rest10
          case hy10 => (intro wq hSq; (try dsimp only at hSq); first | (go_simp; done) | (go_simp; with_reducible rfl))
          try simp only [Act.put, List.setIfInBounds_toArray, List.set_cons_zero, List.set_cons_succ]
          refine wpAnyH_ready (rs := [10]) (by kernel_rfl) (by simp) ?_
          refine AllReadyH.cons Held.op10 (fun K hK => ?_) AllReadyH.nil
          go_simp
          go_at_call 75; refine (HFd.out _ HZ2.out).mono ?_; rintro e w3 ⟨rfl, hb3⟩; have HZ3 := Lib.hid (HZ2.out.trans (hb3.mono (by have := HZ2.out.size; omega))); have HY3 := Lib.hid (HY2.out.trans (hb3.mono (by have := HY2.out.size; omega))); have HX3 := Lib.hid (blk_below HX2.out hb3); have HI3 := Lib.hid (blk_below HI2.out hb3); have za0 := HI3.out.cell 0; have za1 := HI3.out.cell 1; have za2 := HI3.out.cell 2; have za3 := HX3.out.cell 3; have za4 := (HZ3.out.cell (p := ⟨b, off + j * 7 + 3, none⟩) hbB).trans HC3.out; have za5 := (HZ3.out.cell (p := ⟨b, off + j * 7 + 4, none⟩) hbB).trans HC4.out; have za6 := (HZ3.out.cell (p := ⟨b, off + j * 7 + 5, none⟩) hbB).trans HC5.out; have za7 := (HZ3.out.cell (p := ⟨b, off + j * 7 + 6, none⟩) hbB).trans HC6.out; clear hb3
          try (go_wp2_with fail)
          refine hK.out _ _ ?_ (fun hHeld => ?_)
          · exact ⟨za0, za1, za2, za3, za4, za5, za6, za7⟩
          clear hK K
          try simp only [Act.put, List.setIfInBounds_toArray, List.set_cons_zero, List.set_cons_succ]
          refine wpAnyH_take (i := 11) (v := ?v12) Held.op11 (by kernel_rfl) (by kernel_rfl) (by kernel_rfl) (fun _ _ _ h => h) (Or.inl ⟨by rfl, ?hy12⟩) (by assumption) ?rest12
          case hy12 => (intro wq hSq; (try dsimp only at hSq); first | (go_simp; done) | (go_simp; with_reducible rfl))
          try simp only [Act.put, List.setIfInBounds_toArray, List.set_cons_zero, List.set_cons_succ]
          refine wpAnyH_take (i := 12) (v := ?v13) Held.op12 (by kernel_rfl) (by kernel_rfl) (by kernel_rfl) (fun _ _ _ h => h) (Or.inl ⟨by rfl, ?hy13⟩) (by assumption) ?rest13
          case hy13 => (intro wq hSq; (try dsimp only at hSq); first | (go_simp; done) | (go_simp; with_reducible rfl))
          try simp only [Act.put, List.setIfInBounds_toArray, List.set_cons_zero, List.set_cons_succ]
          refine wpAnyH_take (i := 13) (v := ?v14) Held.op13 (by kernel_rfl) (by kernel_rfl) (by kernel_rfl) (fun _ _ _ h => h) (Or.inl ⟨by rfl, ?hy14⟩) (by assumption) ?rest14
          case hy14 => (intro wq hSq; (try dsimp only at hSq); first | (go_simp; done) | (go_simp; with_reducible rfl))
          try simp only [Act.put, List.setIfInBounds_toArray, List.set_cons_zero, List.set_cons_succ]
          refine wpAnyH_take (i := 14) (v := undef) Held.op14 (by kernel_rfl) (by kernel_rfl) (by kernel_rfl) (fun _ _ _ h => h) (Or.inr ⟨by rfl, rfl⟩) (by assumption) ?_
          try simp only [Act.put, List.setIfInBounds_toArray, List.set_cons_zero, List.set_cons_succ]
          refine wpAnyH_take (i := 15) (v := undef) Held.op15 (by kernel_rfl) (by kernel_rfl) (by kernel_rfl) (fun _ _ _ h => h) (Or.inr ⟨by rfl, rfl⟩) (by assumption) ?_
          try simp only [Act.put, List.setIfInBounds_toArray, List.set_cons_zero, List.set_cons_succ]
          refine wpAnyH_take (i := 16) (v := undef) Held.op16 (by kernel_rfl) (by kernel_rfl) (by kernel_rfl) (fun _ _ _ h => h) (Or.inr ⟨by rfl, rfl⟩) (by assumption) ?_
          try simp only [Act.put, List.setIfInBounds_toArray, List.set_cons_zero, List.set_cons_succ]
          refine wpAnyH_take (i := 17) (v := undef) Held.op17 (by kernel_rfl) (by kernel_rfl) (by kernel_rfl) (fun _ _ _ h => h) (Or.inr ⟨by rfl, rfl⟩) (by assumption) ?_
          try simp only [Act.put, List.setIfInBounds_toArray, List.set_cons_zero, List.set_cons_succ]
          refine wpAnyH_take (i := 18) (v := undef) Held.op18 (by kernel_rfl) (by kernel_rfl) (by kernel_rfl) (fun _ _ _ h => h) (Or.inr ⟨by rfl, rfl⟩) (by assumption) ?_
          try simp only [Act.put, List.setIfInBounds_toArray, List.set_cons_zero, List.set_cons_succ]
          refine wpAnyH_take (i := 19) (v := undef) Held.op19 (by kernel_rfl) (by kernel_rfl) (by kernel_rfl) (fun _ _ _ h => h) (Or.inr ⟨by rfl, rfl⟩) (by assumption) ?_
          try simp only [Act.put, List.setIfInBounds_toArray, List.set_cons_zero, List.set_cons_succ]
          refine wpAnyH_take (i := 20) (v := undef) Held.op20 (by kernel_rfl) (by kernel_rfl) (by kernel_rfl) (fun _ _ _ h => h) (Or.inr ⟨by rfl, rfl⟩) (by assumption) ?_
          try simp only [Act.put, List.setIfInBounds_toArray, List.set_cons_zero, List.set_cons_succ]
          refine wpAnyH_take (i := 21) (v := undef) Held.op21 (by kernel_rfl) (by kernel_rfl) (by kernel_rfl) (fun _ _ _ h => h) (Or.inr ⟨by rfl, rfl⟩) (by assumption) ?_
          try simp only [Act.put, List.setIfInBounds_toArray, List.set_cons_zero, List.set_cons_succ]
          refine wpAnyH_take (i := 22) (v := undef) Held.op22 (by kernel_rfl) (by kernel_rfl) (by kernel_rfl) (fun _ _ _ h => h) (Or.inr ⟨by rfl, rfl⟩) (by assumption) ?_
          try simp only [Act.put, List.setIfInBounds_toArray, List.set_cons_zero, List.set_cons_succ]
          refine wpAnyH_take (i := 23) (v := undef) Held.op23 (by kernel_rfl) (by kernel_rfl) (by kernel_rfl) (fun _ _ _ h => h) (Or.inr ⟨by rfl, rfl⟩) (by assumption) ?_
          try simp only [Act.put, List.setIfInBounds_toArray, List.set_cons_zero, List.set_cons_succ]
          refine wpAnyH_take (i := 24) (v := ?v25) Held.op24 (by kernel_rfl) (by kernel_rfl) (by kernel_rfl) (fun _ _ _ h => h) (Or.inl ⟨by rfl, ?hy25⟩) (by assumption) ?rest25
          case hy25 => (intro wq hSq; (try dsimp only at hSq); first | (go_simp; done) | (go_simp; with_reducible rfl))
          try simp only [Act.put, List.setIfInBounds_toArray, List.set_cons_zero, List.set_cons_succ]
          refine wpAnyH_done (by kernel_rfl) ?_ _
          go_wp2_with fail
          go_ret
          exact ⟨rfl, HY3.out⟩
        · have HD3 := Lib.hid (HD2.out.trans (if_neg hmem))
          have hf0 : decide (0 ≤ fk) = false := HFM.out.trans (decide_eq_false hmem)
          clear HD2 hmem HFM
          cases q with
          | false =>
            have hM : M = false := HD3.out.trans (if_neg (by decide))
            subst hM
            clear HD3
            refine wp_region_held_drew (S := (fun wz => wz.cell? ⟨wr.heap.size, 0, none⟩ = some (.bool ib) ∧ wz.cell? ⟨wr.heap.size, 1, none⟩ = some (.int .i64 ii) ∧ wz.cell? ⟨wr.heap.size, 2, none⟩ = some (.string is) ∧ wz.cell? ⟨w'.heap.size, 3, none⟩ = some (.slice (some ⟨b, off, none⟩) l.length c) ∧ wz.cell? ⟨b, off + j * 7 + 3, none⟩ = some (.int .i64 k1) ∧ wz.cell? ⟨b, off + j * 7 + 4, none⟩ = some (.int .i64 n1) ∧ wz.cell? ⟨b, off + j * 7 + 5, none⟩ = some (.string t1) ∧ wz.cell? ⟨b, off + j * 7 + 6, none⟩ = some (.slice A1 l1 e1))) (by kernel_rfl) ?_ (fun hHeld => ?_)
            · exact ⟨da0, da1, da2, da3, da4, da5, da6, da7⟩
            refine wpAnyH_take (i := 0) (v := ?v26) Held.op0 (by kernel_rfl) (by kernel_rfl) (by kernel_rfl) (fun _ _ _ h => h) (Or.inl ⟨by rfl, ?hy26⟩) (by assumption) ?rest26
            case hy26 => (intro wq hSq; (try dsimp only at hSq); first | (go_simp; done) | (go_simp; with_reducible rfl))
            try simp only [Act.put, List.setIfInBounds_toArray, List.set_cons_zero, List.set_cons_succ]
            refine wpAnyH_take (i := 1) (v := ?v27) Held.op1 (by kernel_rfl) (by kernel_rfl) (by kernel_rfl) (fun _ _ _ h => h) (Or.inl ⟨by rfl, ?hy27⟩) (by assumption) ?rest27
            case hy27 => (intro wq hSq; (try dsimp only at hSq); first | (go_simp; done) | (go_simp; with_reducible rfl))
            try simp only [Act.put, List.setIfInBounds_toArray, List.set_cons_zero, List.set_cons_succ]
            refine wpAnyH_ready (rs := [2]) (by kernel_rfl) (by simp) ?_
            refine AllReadyH.cons Held.op2 (fun K hK => ?_) AllReadyH.nil
            go_simp
            go_at_call 74; refine (HN.out _ HZ1.out).mono ?_; rintro e w2 ⟨rfl, hb2⟩; have HZ2 := Lib.hid (HZ1.out.trans (hb2.mono (by have := HZ1.out.size; omega))); have HY2 := Lib.hid (HY1.out.trans (hb2.mono (by have := HY1.out.size; omega))); have HX2 := Lib.hid (blk_below HX1.out hb2); have HI2 := Lib.hid (blk_below HI1.out hb2); have ya0 := HI2.out.cell 0; have ya1 := HI2.out.cell 1; have ya2 := HI2.out.cell 2; have ya3 := HX2.out.cell 3; have ya4 := (HZ2.out.cell (p := ⟨b, off + j * 7 + 3, none⟩) hbB).trans HC3.out; have ya5 := (HZ2.out.cell (p := ⟨b, off + j * 7 + 4, none⟩) hbB).trans HC4.out; have ya6 := (HZ2.out.cell (p := ⟨b, off + j * 7 + 5, none⟩) hbB).trans HC5.out; have ya7 := (HZ2.out.cell (p := ⟨b, off + j * 7 + 6, none⟩) hbB).trans HC6.out; clear hb2
            try (go_wp2_with fail)
            refine hK.out _ _ ?_ (fun hHeld => ?_)
            · exact ⟨ya0, ya1, ya2, ya3, ya4, ya5, ya6, ya7⟩
            clear hK K
            try simp only [Act.put, List.setIfInBounds_toArray, List.set_cons_zero, List.set_cons_succ]
            refine wpAnyH_take (i := 3) (v := ?v29) Held.op3 (by kernel_rfl) (by kernel_rfl) (by kernel_rfl) (fun _ _ _ h => h) (Or.inl ⟨by rfl, ?hy29⟩) (by assumption) ?rest29
            case hy29 => (intro wq hSq; (try dsimp only at hSq); first | (go_simp; done) | (go_simp; with_reducible rfl))
            try simp only [Act.put, List.setIfInBounds_toArray, List.set_cons_zero, List.set_cons_succ]
            refine wpAnyH_take (i := 4) (v := ?v30) Held.op4 (by kernel_rfl) (by kernel_rfl) (by kernel_rfl) (fun _ _ _ h => h) (Or.inl ⟨by rfl, ?hy30⟩) (by assumption) ?rest30
            case hy30 => (intro wq hSq; (try dsimp only at hSq); first | (go_simp; done) | (go_simp; with_reducible rfl))
            try simp only [Act.put, List.setIfInBounds_toArray, List.set_cons_zero, List.set_cons_succ]
            refine wpAnyH_take (i := 5) (v := ?v31) Held.op5 (by kernel_rfl) (by kernel_rfl) (by kernel_rfl) (fun _ _ _ h => h) (Or.inl ⟨by rfl, ?hy31⟩) (by assumption) ?rest31
            case hy31 => (intro wq hSq; (try dsimp only at hSq); first | (go_simp; done) | (go_simp; with_reducible rfl))
            try simp only [Act.put, List.setIfInBounds_toArray, List.set_cons_zero, List.set_cons_succ]
            refine wpAnyH_take (i := 6) (v := ?v32) Held.op6 (by kernel_rfl) (by kernel_rfl) (by kernel_rfl) (fun _ _ _ h => h) (Or.inl ⟨by rfl, ?hy32⟩) (by assumption) ?rest32
            case hy32 => (intro wq hSq; (try dsimp only at hSq); first | (go_simp; done) | (go_simp; with_reducible rfl))
            try simp only [Act.put, List.setIfInBounds_toArray, List.set_cons_zero, List.set_cons_succ]
            refine wpAnyH_take (i := 7) (v := ?v33) Held.op7 (by kernel_rfl) (by kernel_rfl) (by kernel_rfl) (fun _ _ _ h => h) (Or.inl ⟨by rfl, ?hy33⟩) (by assumption) ?rest33
            case hy33 => (intro wq hSq; (try dsimp only at hSq); first | (go_simp; done) | (go_simp; with_reducible rfl))
            try simp only [Act.put, List.setIfInBounds_toArray, List.set_cons_zero, List.set_cons_succ]
            refine wpAnyH_take (i := 8) (v := ?v34) Held.op8 (by kernel_rfl) (by kernel_rfl) (by kernel_rfl) (fun _ _ _ h => h) (Or.inl ⟨by rfl, ?hy34⟩) (by assumption) ?rest34
            case hy34 => (intro wq hSq; (try dsimp only at hSq); first | (go_simp; done) | (go_simp; with_reducible rfl))
            try simp only [Act.put, List.setIfInBounds_toArray, List.set_cons_zero, List.set_cons_succ]
            refine wpAnyH_take (i := 9) (v := ?v35) Held.op9 (by kernel_rfl) (by kernel_rfl) (by kernel_rfl) (fun _ _ _ h => h) (Or.inl ⟨by rfl, ?hy35⟩) (by assumption) ?rest35
            case hy35 => (intro wq hSq; (try dsimp only at hSq); first | (go_simp; done) | (go_simp; with_reducible rfl))
            try simp only [Act.put, List.setIfInBounds_toArray, List.set_cons_zero, List.set_cons_succ]
            refine wpAnyH_ready (rs := [10]) (by kernel_rfl) (by simp) ?_
            refine AllReadyH.cons Held.op10 (fun K hK => ?_) AllReadyH.nil
            go_simp
            go_at_call 75; refine (HFd.out _ HZ2.out).mono ?_; rintro e w3 ⟨rfl, hb3⟩; have HZ3 := Lib.hid (HZ2.out.trans (hb3.mono (by have := HZ2.out.size; omega))); have HY3 := Lib.hid (HY2.out.trans (hb3.mono (by have := HY2.out.size; omega))); have HX3 := Lib.hid (blk_below HX2.out hb3); have HI3 := Lib.hid (blk_below HI2.out hb3); have za0 := HI3.out.cell 0; have za1 := HI3.out.cell 1; have za2 := HI3.out.cell 2; have za3 := HX3.out.cell 3; have za4 := (HZ3.out.cell (p := ⟨b, off + j * 7 + 3, none⟩) hbB).trans HC3.out; have za5 := (HZ3.out.cell (p := ⟨b, off + j * 7 + 4, none⟩) hbB).trans HC4.out; have za6 := (HZ3.out.cell (p := ⟨b, off + j * 7 + 5, none⟩) hbB).trans HC5.out; have za7 := (HZ3.out.cell (p := ⟨b, off + j * 7 + 6, none⟩) hbB).trans HC6.out; clear hb3
            try (go_wp2_with fail)
            refine hK.out _ _ ?_ (fun hHeld => ?_)
            · exact ⟨za0, za1, za2, za3, za4, za5, za6, za7⟩
            clear hK K
            try simp only [Act.put, List.setIfInBounds_toArray, List.set_cons_zero, List.set_cons_succ]
            refine wpAnyH_take (i := 11) (v := ?v37) Held.op11 (by kernel_rfl) (by kernel_rfl) (by kernel_rfl) (fun _ _ _ h => h) (Or.inl ⟨by rfl, ?hy37⟩) (by assumption) ?rest37
            case hy37 => (intro wq hSq; (try dsimp only at hSq); first | (go_simp; done) | (go_simp; with_reducible rfl))
            try simp only [Act.put, List.setIfInBounds_toArray, List.set_cons_zero, List.set_cons_succ]
            refine wpAnyH_take (i := 12) (v := ?v38) Held.op12 (by kernel_rfl) (by kernel_rfl) (by kernel_rfl) (fun _ _ _ h => h) (Or.inl ⟨by rfl, ?hy38⟩) (by assumption) ?rest38
            case hy38 => (intro wq hSq; (try dsimp only at hSq); first | (go_simp; done) | (go_simp; with_reducible rfl))
            try simp only [Act.put, List.setIfInBounds_toArray, List.set_cons_zero, List.set_cons_succ]
            refine wpAnyH_take (i := 13) (v := ?v39) Held.op13 (by kernel_rfl) (by kernel_rfl) (by kernel_rfl) (fun _ _ _ h => h) (Or.inl ⟨by rfl, ?hy39⟩) (by assumption) ?rest39
            case hy39 => (intro wq hSq; (try dsimp only at hSq); first | (go_simp; done) | (go_simp; with_reducible rfl))
            try simp only [Act.put, List.setIfInBounds_toArray, List.set_cons_zero, List.set_cons_succ]
            refine wpAnyH_take (i := 14) (v := ?v40) Held.op14 (by kernel_rfl) (by kernel_rfl) (by kernel_rfl) (fun _ _ _ h => h) (Or.inl ⟨by rfl, ?hy40⟩) (by assumption) ?rest40
            case hy40 => (intro wq hSq; (try dsimp only at hSq); first | (go_simp; done) | (go_simp; with_reducible rfl))
            try simp only [Act.put, List.setIfInBounds_toArray, List.set_cons_zero, List.set_cons_succ]
            refine wpAnyH_take (i := 15) (v := ?v41) Held.op15 (by kernel_rfl) (by kernel_rfl) (by kernel_rfl) (fun _ _ _ h => h) (Or.inl ⟨by rfl, ?hy41⟩) (by assumption) ?rest41
            case hy41 => (intro wq hSq; (try dsimp only at hSq); first | (go_simp; done) | (go_simp; with_reducible rfl))
            try simp only [Act.put, List.setIfInBounds_toArray, List.set_cons_zero, List.set_cons_succ]
            refine wpAnyH_take (i := 16) (v := ?v42) Held.op16 (by kernel_rfl) (by kernel_rfl) (by kernel_rfl) (fun _ _ _ h => h) (Or.inl ⟨by rfl, ?hy42⟩) (by assumption) ?rest42
            case hy42 => (intro wq hSq; (try dsimp only at hSq); first | (go_simp; done) | (go_simp; with_reducible rfl))
            try simp only [Act.put, List.setIfInBounds_toArray, List.set_cons_zero, List.set_cons_succ]
            refine wpAnyH_take (i := 17) (v := ?v43) Held.op17 (by kernel_rfl) (by kernel_rfl) (by kernel_rfl) (fun _ _ _ h => h) (Or.inl ⟨by rfl, ?hy43⟩) (by assumption) ?rest43
            case hy43 => (intro wq hSq; (try dsimp only at hSq); first | (go_simp; done) | (go_simp; with_reducible rfl))
            try simp only [Act.put, List.setIfInBounds_toArray, List.set_cons_zero, List.set_cons_succ]
            refine wpAnyH_take (i := 18) (v := ?v44) Held.op18 (by kernel_rfl) (by kernel_rfl) (by kernel_rfl) (fun _ _ _ h => h) (Or.inl ⟨by rfl, ?hy44⟩) (by assumption) ?rest44
            case hy44 => (intro wq hSq; (try dsimp only at hSq); first | (go_simp; done) | (go_simp; with_reducible rfl))
            try simp only [Act.put, List.setIfInBounds_toArray, List.set_cons_zero, List.set_cons_succ]
            refine wpAnyH_take (i := 19) (v := ?v45) Held.op19 (by kernel_rfl) (by kernel_rfl) (by kernel_rfl) (fun _ _ _ h => h) (Or.inl ⟨by rfl, ?hy45⟩) (by assumption) ?rest45
            case hy45 => (intro wq hSq; (try dsimp only at hSq); first | (go_simp; done) | (go_simp; with_reducible rfl))
            try simp only [Act.put, List.setIfInBounds_toArray, List.set_cons_zero, List.set_cons_succ]
            refine wpAnyH_take (i := 20) (v := ?v46) Held.op20 (by kernel_rfl) (by kernel_rfl) (by kernel_rfl) (fun _ _ _ h => h) (Or.inl ⟨by rfl, ?hy46⟩) (by assumption) ?rest46
            case hy46 => (intro wq hSq; (try dsimp only at hSq); first | (go_simp; done) | (go_simp; with_reducible rfl))
            try simp only [Act.put, List.setIfInBounds_toArray, List.set_cons_zero, List.set_cons_succ]
            refine wpAnyH_take (i := 21) (v := ?v47) Held.op21 (by kernel_rfl) (by kernel_rfl) (by kernel_rfl) (fun _ _ _ h => h) (Or.inl ⟨by rfl, ?hy47⟩) (by assumption) ?rest47
            case hy47 => (intro wq hSq; (try dsimp only at hSq); first | (go_simp; done) | (go_simp; with_reducible rfl))
            try simp only [Act.put, List.setIfInBounds_toArray, List.set_cons_zero, List.set_cons_succ]
            refine wpAnyH_ready (rs := [22]) (by kernel_rfl) (by simp) ?_
            refine AllReadyH.cons Held.op22 (fun K hK => ?_) AllReadyH.nil
            go_simp
            go_at_call 13; refine (HR.out _ HZ3.out).mono ?_; rintro e w4 ⟨rfl, hb4⟩; have HZ4 := Lib.hid (HZ3.out.trans (hb4.mono (by have := HZ3.out.size; omega))); have HY4 := Lib.hid (HY3.out.trans (hb4.mono (by have := HY3.out.size; omega))); have HX4 := Lib.hid (blk_below HX3.out hb4); have HI4 := Lib.hid (blk_below HI3.out hb4); have va0 := HI4.out.cell 0; have va1 := HI4.out.cell 1; have va2 := HI4.out.cell 2; have va3 := HX4.out.cell 3; have va4 := (HZ4.out.cell (p := ⟨b, off + j * 7 + 3, none⟩) hbB).trans HC3.out; have va5 := (HZ4.out.cell (p := ⟨b, off + j * 7 + 4, none⟩) hbB).trans HC4.out; have va6 := (HZ4.out.cell (p := ⟨b, off + j * 7 + 5, none⟩) hbB).trans HC5.out; have va7 := (HZ4.out.cell (p := ⟨b, off + j * 7 + 6, none⟩) hbB).trans HC6.out; clear hb4
            try (go_wp2_with fail)
            refine hK.out _ _ ?_ (fun hHeld => ?_)
            · exact ⟨va0, va1, va2, va3, va4, va5, va6, va7⟩
            clear hK K
            try simp only [Act.put, List.setIfInBounds_toArray, List.set_cons_zero, List.set_cons_succ]
            refine wpAnyH_take (i := 23) (v := ?v49) Held.op23 (by kernel_rfl) (by kernel_rfl) (by kernel_rfl) (fun _ _ _ h => h) (Or.inl ⟨by rfl, ?hy49⟩) (by assumption) ?rest49
            case hy49 => (intro wq hSq; (try dsimp only at hSq); first | (go_simp; done) | (go_simp; with_reducible rfl))
            try simp only [Act.put, List.setIfInBounds_toArray, List.set_cons_zero, List.set_cons_succ]
            refine wpAnyH_take (i := 24) (v := ?v50) Held.op24 (by kernel_rfl) (by kernel_rfl) (by kernel_rfl) (fun _ _ _ h => h) (Or.inl ⟨by rfl, ?hy50⟩) (by assumption) ?rest50
            case hy50 => (intro wq hSq; (try dsimp only at hSq); first | (go_simp; done) | (go_simp; with_reducible rfl))
            try simp only [Act.put, List.setIfInBounds_toArray, List.set_cons_zero, List.set_cons_succ]
            refine wpAnyH_done (by kernel_rfl) ?_ _
            go_wp2_with fail
            go_ret
            exact ⟨rfl, HY4.out⟩
          | true =>
            have HD4 := Lib.hid (HD3.out.trans (if_pos rfl))
            clear HD3
            refine wp_region_held_drew (S := (fun wz => wz.cell? ⟨wr.heap.size, 0, none⟩ = some (.bool ib) ∧ wz.cell? ⟨wr.heap.size, 1, none⟩ = some (.int .i64 ii) ∧ wz.cell? ⟨wr.heap.size, 2, none⟩ = some (.string is) ∧ wz.cell? ⟨w'.heap.size, 3, none⟩ = some (.slice (some ⟨b, off, none⟩) l.length c) ∧ wz.cell? ⟨b, off + j * 7 + 3, none⟩ = some (.int .i64 k1) ∧ wz.cell? ⟨b, off + j * 7 + 4, none⟩ = some (.int .i64 n1) ∧ wz.cell? ⟨b, off + j * 7 + 5, none⟩ = some (.string t1) ∧ wz.cell? ⟨b, off + j * 7 + 6, none⟩ = some (.slice A1 l1 e1))) (by kernel_rfl) ?_ (fun hHeld => ?_)
            · exact ⟨da0, da1, da2, da3, da4, da5, da6, da7⟩
            refine wpAnyH_take (i := 0) (v := ?v51) Held.op0 (by kernel_rfl) (by kernel_rfl) (by kernel_rfl) (fun _ _ _ h => h) (Or.inl ⟨by rfl, ?hy51⟩) (by assumption) ?rest51
            case hy51 => (intro wq hSq; (try dsimp only at hSq); first | (go_simp; done) | (go_simp; with_reducible rfl))
            try simp only [Act.put, List.setIfInBounds_toArray, List.set_cons_zero, List.set_cons_succ]
            refine wpAnyH_take (i := 1) (v := ?v52) Held.op1 (by kernel_rfl) (by kernel_rfl) (by kernel_rfl) (fun _ _ _ h => h) (Or.inl ⟨by rfl, ?hy52⟩) (by assumption) ?rest52
            case hy52 => (intro wq hSq; (try dsimp only at hSq); first | (go_simp; done) | (go_simp; with_reducible rfl))
            try simp only [Act.put, List.setIfInBounds_toArray, List.set_cons_zero, List.set_cons_succ]
            refine wpAnyH_ready (rs := [2]) (by kernel_rfl) (by simp) ?_
            refine AllReadyH.cons Held.op2 (fun K hK => ?_) AllReadyH.nil
            go_simp
            go_at_call 74; refine (HN.out _ HZ1.out).mono ?_; rintro e w2 ⟨rfl, hb2⟩; have HZ2 := Lib.hid (HZ1.out.trans (hb2.mono (by have := HZ1.out.size; omega))); have HY2 := Lib.hid (HY1.out.trans (hb2.mono (by have := HY1.out.size; omega))); have HX2 := Lib.hid (blk_below HX1.out hb2); have HI2 := Lib.hid (blk_below HI1.out hb2); have ya0 := HI2.out.cell 0; have ya1 := HI2.out.cell 1; have ya2 := HI2.out.cell 2; have ya3 := HX2.out.cell 3; have ya4 := (HZ2.out.cell (p := ⟨b, off + j * 7 + 3, none⟩) hbB).trans HC3.out; have ya5 := (HZ2.out.cell (p := ⟨b, off + j * 7 + 4, none⟩) hbB).trans HC4.out; have ya6 := (HZ2.out.cell (p := ⟨b, off + j * 7 + 5, none⟩) hbB).trans HC5.out; have ya7 := (HZ2.out.cell (p := ⟨b, off + j * 7 + 6, none⟩) hbB).trans HC6.out; clear hb2
            try (go_wp2_with fail)
            refine hK.out _ _ ?_ (fun hHeld => ?_)
            · exact ⟨ya0, ya1, ya2, ya3, ya4, ya5, ya6, ya7⟩
            clear hK K
            try simp only [Act.put, List.setIfInBounds_toArray, List.set_cons_zero, List.set_cons_succ]
            refine wpAnyH_take (i := 3) (v := ?v54) Held.op3 (by kernel_rfl) (by kernel_rfl) (by kernel_rfl) (fun _ _ _ h => h) (Or.inl ⟨by rfl, ?hy54⟩) (by assumption) ?rest54
            case hy54 => (intro wq hSq; (try dsimp only at hSq); first | (go_simp; done) | (go_simp; with_reducible rfl))
            try simp only [Act.put, List.setIfInBounds_toArray, List.set_cons_zero, List.set_cons_succ]
            refine wpAnyH_take (i := 4) (v := ?v55) Held.op4 (by kernel_rfl) (by kernel_rfl) (by kernel_rfl) (fun _ _ _ h => h) (Or.inl ⟨by rfl, ?hy55⟩) (by assumption) ?rest55
            case hy55 => (intro wq hSq; (try dsimp only at hSq); first | (go_simp; done) | (go_simp; with_reducible rfl))
            try simp only [Act.put, List.setIfInBounds_toArray, List.set_cons_zero, List.set_cons_succ]
            refine wpAnyH_take (i := 5) (v := ?v56) Held.op5 (by kernel_rfl) (by kernel_rfl) (by kernel_rfl) (fun _ _ _ h => h) (Or.inl ⟨by rfl, ?hy56⟩) (by assumption) ?rest56
            case hy56 => (intro wq hSq; (try dsimp only at hSq); first | (go_simp; done) | (go_simp; with_reducible rfl))
            try simp only [Act.put, List.setIfInBounds_toArray, List.set_cons_zero, List.set_cons_succ]
            refine wpAnyH_take (i := 6) (v := ?v57) Held.op6 (by kernel_rfl) (by kernel_rfl) (by kernel_rfl) (fun _ _ _ h => h) (Or.inl ⟨by rfl, ?hy57⟩) (by assumption) ?rest57
            case hy57 => (intro wq hSq; (try dsimp only at hSq); first | (go_simp; done) | (go_simp; with_reducible rfl))
            try simp only [Act.put, List.setIfInBounds_toArray, List.set_cons_zero, List.set_cons_succ]
            refine wpAnyH_take (i := 7) (v := ?v58) Held.op7 (by kernel_rfl) (by kernel_rfl) (by kernel_rfl) (fun _ _ _ h => h) (Or.inl ⟨by rfl, ?hy58⟩) (by assumption) ?rest58
            case hy58 => (intro wq hSq; (try dsimp only at hSq); first | (go_simp; done) | (go_simp; with_reducible rfl))
            try simp only [Act.put, List.setIfInBounds_toArray, List.set_cons_zero, List.set_cons_succ]
            refine wpAnyH_take (i := 8) (v := ?v59) Held.op8 (by kernel_rfl) (by kernel_rfl) (by kernel_rfl) (fun _ _ _ h => h) (Or.inl ⟨by rfl, ?hy59⟩) (by assumption) ?rest59
            case hy59 => (intro wq hSq; (try dsimp only at hSq); first | (go_simp; done) | (go_simp; with_reducible rfl))
            try simp only [Act.put, List.setIfInBounds_toArray, List.set_cons_zero, List.set_cons_succ]
            refine wpAnyH_take (i := 9) (v := ?v60) Held.op9 (by kernel_rfl) (by kernel_rfl) (by kernel_rfl) (fun _ _ _ h => h) (Or.inl ⟨by rfl, ?hy60⟩) (by assumption) ?rest60
            case hy60 => (intro wq hSq; (try dsimp only at hSq); first | (go_simp; done) | (go_simp; with_reducible rfl))
            try simp only [Act.put, List.setIfInBounds_toArray, List.set_cons_zero, List.set_cons_succ]
            refine wpAnyH_ready (rs := [10]) (by kernel_rfl) (by simp) ?_
            refine AllReadyH.cons Held.op10 (fun K hK => ?_) AllReadyH.nil
            go_simp
            go_at_call 75; refine (HFd.out _ HZ2.out).mono ?_; rintro e w3 ⟨rfl, hb3⟩; have HZ3 := Lib.hid (HZ2.out.trans (hb3.mono (by have := HZ2.out.size; omega))); have HY3 := Lib.hid (HY2.out.trans (hb3.mono (by have := HY2.out.size; omega))); have HX3 := Lib.hid (blk_below HX2.out hb3); have HI3 := Lib.hid (blk_below HI2.out hb3); have za0 := HI3.out.cell 0; have za1 := HI3.out.cell 1; have za2 := HI3.out.cell 2; have za3 := HX3.out.cell 3; have za4 := (HZ3.out.cell (p := ⟨b, off + j * 7 + 3, none⟩) hbB).trans HC3.out; have za5 := (HZ3.out.cell (p := ⟨b, off + j * 7 + 4, none⟩) hbB).trans HC4.out; have za6 := (HZ3.out.cell (p := ⟨b, off + j * 7 + 5, none⟩) hbB).trans HC5.out; have za7 := (HZ3.out.cell (p := ⟨b, off + j * 7 + 6, none⟩) hbB).trans HC6.out; clear hb3
            try (go_wp2_with fail)
            refine hK.out _ _ ?_ (fun hHeld => ?_)
            · exact ⟨za0, za1, za2, za3, za4, za5, za6, za7⟩
            clear hK K
            try simp only [Act.put, List.setIfInBounds_toArray, List.set_cons_zero, List.set_cons_succ]
            refine wpAnyH_take (i := 11) (v := ?v62) Held.op11 (by kernel_rfl) (by kernel_rfl) (by kernel_rfl) (fun _ _ _ h => h) (Or.inl ⟨by rfl, ?hy62⟩) (by assumption) ?rest62
            case hy62 => (intro wq hSq; (try dsimp only at hSq); first | (go_simp; done) | (go_simp; with_reducible rfl))
            try simp only [Act.put, List.setIfInBounds_toArray, List.set_cons_zero, List.set_cons_succ]
            refine wpAnyH_take (i := 12) (v := ?v63) Held.op12 (by kernel_rfl) (by kernel_rfl) (by kernel_rfl) (fun _ _ _ h => h) (Or.inl ⟨by rfl, ?hy63⟩) (by assumption) ?rest63
            case hy63 => (intro wq hSq; (try dsimp only at hSq); first | (go_simp; done) | (go_simp; with_reducible rfl))
            try simp only [Act.put, List.setIfInBounds_toArray, List.set_cons_zero, List.set_cons_succ]
            refine wpAnyH_take (i := 13) (v := ?v64) Held.op13 (by kernel_rfl) (by kernel_rfl) (by kernel_rfl) (fun _ _ _ h => h) (Or.inl ⟨by rfl, ?hy64⟩) (by assumption) ?rest64
            case hy64 => (intro wq hSq; (try dsimp only at hSq); first | (go_simp; done) | (go_simp; with_reducible rfl))
            try simp only [Act.put, List.setIfInBounds_toArray, List.set_cons_zero, List.set_cons_succ]
            refine wpAnyH_take (i := 14) (v := ?v65) Held.op14 (by kernel_rfl) (by kernel_rfl) (by kernel_rfl) (fun _ _ _ h => h) (Or.inl ⟨by rfl, ?hy65⟩) (by assumption) ?rest65
            case hy65 => (intro wq hSq; (try dsimp only at hSq); first | (go_simp; done) | (go_simp; with_reducible rfl))
            try simp only [Act.put, List.setIfInBounds_toArray, List.set_cons_zero, List.set_cons_succ]
            refine wpAnyH_take (i := 15) (v := ?v66) Held.op15 (by kernel_rfl) (by kernel_rfl) (by kernel_rfl) (fun _ _ _ h => h) (Or.inl ⟨by rfl, ?hy66⟩) (by assumption) ?rest66
            case hy66 => (intro wq hSq; (try dsimp only at hSq); first | (go_simp; done) | (go_simp; with_reducible rfl))
            try simp only [Act.put, List.setIfInBounds_toArray, List.set_cons_zero, List.set_cons_succ]
            refine wpAnyH_take (i := 16) (v := ?v67) Held.op16 (by kernel_rfl) (by kernel_rfl) (by kernel_rfl) (fun _ _ _ h => h) (Or.inl ⟨by rfl, ?hy67⟩) (by assumption) ?rest67
            case hy67 => (intro wq hSq; (try dsimp only at hSq); first | (go_simp; done) | (go_simp; with_reducible rfl))
            try simp only [Act.put, List.setIfInBounds_toArray, List.set_cons_zero, List.set_cons_succ]
            refine wpAnyH_take (i := 17) (v := ?v68) Held.op17 (by kernel_rfl) (by kernel_rfl) (by kernel_rfl) (fun _ _ _ h => h) (Or.inl ⟨by rfl, ?hy68⟩) (by assumption) ?rest68
            case hy68 => (intro wq hSq; (try dsimp only at hSq); first | (go_simp; done) | (go_simp; with_reducible rfl))
            try simp only [Act.put, List.setIfInBounds_toArray, List.set_cons_zero, List.set_cons_succ]
            refine wpAnyH_take (i := 18) (v := ?v69) Held.op18 (by kernel_rfl) (by kernel_rfl) (by kernel_rfl) (fun _ _ _ h => h) (Or.inl ⟨by rfl, ?hy69⟩) (by assumption) ?rest69
            case hy69 => (intro wq hSq; (try dsimp only at hSq); first | (go_simp; done) | (go_simp; with_reducible rfl))
            try simp only [Act.put, List.setIfInBounds_toArray, List.set_cons_zero, List.set_cons_succ]
            refine wpAnyH_take (i := 19) (v := ?v70) Held.op19 (by kernel_rfl) (by kernel_rfl) (by kernel_rfl) (fun _ _ _ h => h) (Or.inl ⟨by rfl, ?hy70⟩) (by assumption) ?rest70
            case hy70 => (intro wq hSq; (try dsimp only at hSq); first | (go_simp; done) | (go_simp; with_reducible rfl))
            try simp only [Act.put, List.setIfInBounds_toArray, List.set_cons_zero, List.set_cons_succ]
            refine wpAnyH_take (i := 20) (v := ?v71) Held.op20 (by kernel_rfl) (by kernel_rfl) (by kernel_rfl) (fun _ _ _ h => h) (Or.inl ⟨by rfl, ?hy71⟩) (by assumption) ?rest71
            case hy71 => (intro wq hSq; (try dsimp only at hSq); first | (go_simp; done) | (go_simp; with_reducible rfl))
            try simp only [Act.put, List.setIfInBounds_toArray, List.set_cons_zero, List.set_cons_succ]
            refine wpAnyH_take (i := 21) (v := ?v72) Held.op21 (by kernel_rfl) (by kernel_rfl) (by kernel_rfl) (fun _ _ _ h => h) (Or.inl ⟨by rfl, ?hy72⟩) (by assumption) ?rest72
            case hy72 => (intro wq hSq; (try dsimp only at hSq); first | (go_simp; done) | (go_simp; with_reducible rfl))
            try simp only [Act.put, List.setIfInBounds_toArray, List.set_cons_zero, List.set_cons_succ]
            refine wpAnyH_ready (rs := [22]) (by kernel_rfl) (by simp) ?_
            refine AllReadyH.cons Held.op22 (fun K hK => ?_) AllReadyH.nil
            go_simp
            go_at_call 13; refine (HR.out _ HZ3.out).mono ?_; rintro e w4 ⟨rfl, hb4⟩; have HZ4 := Lib.hid (HZ3.out.trans (hb4.mono (by have := HZ3.out.size; omega))); have HY4 := Lib.hid (HY3.out.trans (hb4.mono (by have := HY3.out.size; omega))); have HX4 := Lib.hid (blk_below HX3.out hb4); have HI4 := Lib.hid (blk_below HI3.out hb4); have va0 := HI4.out.cell 0; have va1 := HI4.out.cell 1; have va2 := HI4.out.cell 2; have va3 := HX4.out.cell 3; have va4 := (HZ4.out.cell (p := ⟨b, off + j * 7 + 3, none⟩) hbB).trans HC3.out; have va5 := (HZ4.out.cell (p := ⟨b, off + j * 7 + 4, none⟩) hbB).trans HC4.out; have va6 := (HZ4.out.cell (p := ⟨b, off + j * 7 + 5, none⟩) hbB).trans HC5.out; have va7 := (HZ4.out.cell (p := ⟨b, off + j * 7 + 6, none⟩) hbB).trans HC6.out; clear hb4
            try (go_wp2_with fail)
            refine hK.out _ _ ?_ (fun hHeld => ?_)
            · exact ⟨va0, va1, va2, va3, va4, va5, va6, va7⟩
            clear hK K
            try simp only [Act.put, List.setIfInBounds_toArray, List.set_cons_zero, List.set_cons_succ]
            refine wpAnyH_take (i := 23) (v := ?v74) Held.op23 (by kernel_rfl) (by kernel_rfl) (by kernel_rfl) (fun _ _ _ h => h) (Or.inl ⟨by rfl, ?hy74⟩) (by assumption) ?rest74
            case hy74 => (intro wq hSq; (try dsimp only at hSq); first | (go_simp; done) | (go_simp; with_reducible rfl))
            try simp only [Act.put, List.setIfInBounds_toArray, List.set_cons_zero, List.set_cons_succ]
            refine wpAnyH_take (i := 24) (v := ?v75) Held.op24 (by kernel_rfl) (by kernel_rfl) (by kernel_rfl) (fun _ _ _ h => h) (Or.inl ⟨by rfl, ?hy75⟩) (by assumption) ?rest75
            case hy75 => (intro wq hSq; (try dsimp only at hSq); first | (go_simp; done) | (go_simp; with_reducible rfl))
            try simp only [Act.put, List.setIfInBounds_toArray, List.set_cons_zero, List.set_cons_succ]
            refine wpAnyH_done (by kernel_rfl) ?_ _
            have y1 := HX4.out.cell 1
            by_cases hcc : ib = false ∧ 0 ≤ n ∧ n ≤ ii
            · have hM : M = false := HD4.out.trans (if_pos hcc)
              subst hM
              obtain ⟨rfl, hc1, hc2⟩ := hcc
              clear HD4
              go_wp2_with fail
              go_ret
              exact ⟨rfl, HY4.out⟩
            · have HD5 := Lib.hid (HD4.out.trans (if_neg hcc))
              clear HD4
              cases ib with
              | true =>
                clear hcc
                go_wp2_with fail
                go_roundw
                case rel => exact ⟨j + 1, by omega, by go_num, HD5, HY4, HX4⟩
                case measure => simp [ixOf] <;> omega
              | false =>
                by_cases hc1 : 0 ≤ n
                · have hc2 : ¬ n ≤ ii := fun h => hcc ⟨rfl, hc1, h⟩
                  clear hcc
                  go_wp2_with fail
                  go_roundw
                  case rel => exact ⟨j + 1, by omega, by go_num, HD5, HY4, HX4⟩
                  case measure => simp [ixOf] <;> omega
                · clear hcc
                  go_wp2_with fail
                  go_roundw
                  case rel => exact ⟨j + 1, by omega, by go_num, HD5, HY4, HX4⟩
                  case measure => simp [ixOf] <;> omega
      · have hM : M = false := HD.out.trans (if_pos hne)
        subst hM
        clear HD HR HFM
        by_cases h1 : nb = ib
        · have h1 := h1.symm
          subst h1
          by_cases h2 : ni = ii
          · have h2 := h2.symm
            subst h2
            have b3 : (is.toList == ns.toList) = false := by
              simp only [beq_eq_false_iff_ne, ne_eq]
              exact fun h => hne (by rw [toListInj2 h])
            clear hne
            refine wp_region_held_drew (S := (fun wz => wz.cell? ⟨wr.heap.size, 0, none⟩ = some (.bool ib) ∧ wz.cell? ⟨wr.heap.size, 1, none⟩ = some (.int .i64 ii) ∧ wz.cell? ⟨wr.heap.size, 2, none⟩ = some (.string is) ∧ wz.cell? ⟨w'.heap.size, 3, none⟩ = some (.slice (some ⟨b, off, none⟩) l.length c) ∧ wz.cell? ⟨b, off + j * 7 + 3, none⟩ = some (.int .i64 k1) ∧ wz.cell? ⟨b, off + j * 7 + 4, none⟩ = some (.int .i64 n1) ∧ wz.cell? ⟨b, off + j * 7 + 5, none⟩ = some (.string t1) ∧ wz.cell? ⟨b, off + j * 7 + 6, none⟩ = some (.slice A1 l1 e1))) (by kernel_rfl) ?_ (fun hHeld => ?_)
            · exact ⟨da0, da1, da2, da3, da4, da5, da6, da7⟩
            refine wpAnyH_take (i := 0) (v := ?v76) Held.op0 (by kernel_rfl) (by kernel_rfl) (by kernel_rfl) (fun _ _ _ h => h) (Or.inl ⟨by rfl, ?hy76⟩) (by assumption) ?rest76
            case hy76 => (intro wq hSq; (try dsimp only at hSq); first | (go_simp; done) | (go_simp; with_reducible rfl))
            try simp only [Act.put, List.setIfInBounds_toArray, List.set_cons_zero, List.set_cons_succ]
            refine wpAnyH_take (i := 1) (v := ?v77) Held.op1 (by kernel_rfl) (by kernel_rfl) (by kernel_rfl) (fun _ _ _ h => h) (Or.inl ⟨by rfl, ?hy77⟩) (by assumption) ?rest77
            case hy77 => (intro wq hSq; (try dsimp only at hSq); first | (go_simp; done) | (go_simp; with_reducible rfl))
            try simp only [Act.put, List.setIfInBounds_toArray, List.set_cons_zero, List.set_cons_succ]
            refine wpAnyH_ready (rs := [2]) (by kernel_rfl) (by simp) ?_
            refine AllReadyH.cons Held.op2 (fun K hK => ?_) AllReadyH.nil
            go_simp
            go_at_call 74; refine (HN.out _ HZ1.out).mono ?_; rintro e w2 ⟨rfl, hb2⟩; have HZ2 := Lib.hid (HZ1.out.trans (hb2.mono (by have := HZ1.out.size; omega))); have HY2 := Lib.hid (HY1.out.trans (hb2.mono (by have := HY1.out.size; omega))); have HX2 := Lib.hid (blk_below HX1.out hb2); have HI2 := Lib.hid (blk_below HI1.out hb2); have ya0 := HI2.out.cell 0; have ya1 := HI2.out.cell 1; have ya2 := HI2.out.cell 2; have ya3 := HX2.out.cell 3; have ya4 := (HZ2.out.cell (p := ⟨b, off + j * 7 + 3, none⟩) hbB).trans HC3.out; have ya5 := (HZ2.out.cell (p := ⟨b, off + j * 7 + 4, none⟩) hbB).trans HC4.out; have ya6 := (HZ2.out.cell (p := ⟨b, off + j * 7 + 5, none⟩) hbB).trans HC5.out; have ya7 := (HZ2.out.cell (p := ⟨b, off + j * 7 + 6, none⟩) hbB).trans HC6.out; clear hb2
            try (go_wp2_with fail)
            refine hK.out _ _ ?_ (fun hHeld => ?_)
            · exact ⟨ya0, ya1, ya2, ya3, ya4, ya5, ya6, ya7⟩
            clear hK K
            try simp only [Act.put, List.setIfInBounds_toArray, List.set_cons_zero, List.set_cons_succ]
            refine wpAnyH_take (i := 3) (v := ?v79) Held.op3 (by kernel_rfl) (by kernel_rfl) (by kernel_rfl) (fun _ _ _ h => h) (Or.inl ⟨by rfl, ?hy79⟩) (by assumption) ?rest79
            case hy79 => (intro wq hSq; (try dsimp only at hSq); first | (go_simp; done) | (go_simp; with_reducible rfl))
            try simp only [Act.put, List.setIfInBounds_toArray, List.set_cons_zero, List.set_cons_succ]
            refine wpAnyH_take (i := 4) (v := ?v80) Held.op4 (by kernel_rfl) (by kernel_rfl) (by kernel_rfl) (fun _ _ _ h => h) (Or.inl ⟨by rfl, ?hy80⟩) (by assumption) ?rest80
            case hy80 => (intro wq hSq; (try dsimp only at hSq); first | (go_simp; done) | (go_simp; with_reducible rfl))
            try simp only [Act.put, List.setIfInBounds_toArray, List.set_cons_zero, List.set_cons_succ]
            refine wpAnyH_take (i := 5) (v := undef) Held.op5 (by kernel_rfl) (by kernel_rfl) (by kernel_rfl) (fun _ _ _ h => h) (Or.inr ⟨by rfl, rfl⟩) (by assumption) ?_
            try simp only [Act.put, List.setIfInBounds_toArray, List.set_cons_zero, List.set_cons_succ]
            refine wpAnyH_take (i := 6) (v := undef) Held.op6 (by kernel_rfl) (by kernel_rfl) (by kernel_rfl) (fun _ _ _ h => h) (Or.inr ⟨by rfl, rfl⟩) (by assumption) ?_
            try simp only [Act.put, List.setIfInBounds_toArray, List.set_cons_zero, List.set_cons_succ]
            refine wpAnyH_take (i := 7) (v := undef) Held.op7 (by kernel_rfl) (by kernel_rfl) (by kernel_rfl) (fun _ _ _ h => h) (Or.inr ⟨by rfl, rfl⟩) (by assumption) ?_
            try simp only [Act.put, List.setIfInBounds_toArray, List.set_cons_zero, List.set_cons_succ]
            refine wpAnyH_take (i := 8) (v := undef) Held.op8 (by kernel_rfl) (by kernel_rfl) (by kernel_rfl) (fun _ _ _ h => h) (Or.inr ⟨by rfl, rfl⟩) (by assumption) ?_
            try simp only [Act.put, List.setIfInBounds_toArray, List.set_cons_zero, List.set_cons_succ]
            refine wpAnyH_take (i := 9) (v := undef) Held.op9 (by kernel_rfl) (by kernel_rfl) (by kernel_rfl) (fun _ _ _ h => h) (Or.inr ⟨by rfl, rfl⟩) (by assumption) ?_
            try simp only [Act.put, List.setIfInBounds_toArray, List.set_cons_zero, List.set_cons_succ]
            refine wpAnyH_take (i := 10) (v := undef) Held.op10 (by kernel_rfl) (by kernel_rfl) (by kernel_rfl) (fun _ _ _ h => h) (Or.inr ⟨by rfl, rfl⟩) (by assumption) ?_
            try simp only [Act.put, List.setIfInBounds_toArray, List.set_cons_zero, List.set_cons_succ]
            refine wpAnyH_take (i := 11) (v := undef) Held.op11 (by kernel_rfl) (by kernel_rfl) (by kernel_rfl) (fun _ _ _ h => h) (Or.inr ⟨by rfl, rfl⟩) (by assumption) ?_
            try simp only [Act.put, List.setIfInBounds_toArray, List.set_cons_zero, List.set_cons_succ]
            refine wpAnyH_take (i := 12) (v := ?v88) Held.op12 (by kernel_rfl) (by kernel_rfl) (by kernel_rfl) (fun _ _ _ h => h) (Or.inl ⟨by rfl, ?hy88⟩) (by assumption) ?rest88
            case hy88 => (intro wq hSq; (try dsimp only at hSq); first | (go_simp; done) | (go_simp; with_reducible rfl))
            try simp only [Act.put, List.setIfInBounds_toArray, List.set_cons_zero, List.set_cons_succ]
            refine wpAnyH_take (i := 13) (v := ?v89) Held.op13 (by kernel_rfl) (by kernel_rfl) (by kernel_rfl) (fun _ _ _ h => h) (Or.inl ⟨by rfl, ?hy89⟩) (by assumption) ?rest89
            case hy89 => (intro wq hSq; (try dsimp only at hSq); first | (go_simp; done) | (go_simp; with_reducible rfl))
            try simp only [Act.put, List.setIfInBounds_toArray, List.set_cons_zero, List.set_cons_succ]
            refine wpAnyH_take (i := 14) (v := undef) Held.op14 (by kernel_rfl) (by kernel_rfl) (by kernel_rfl) (fun _ _ _ h => h) (Or.inr ⟨by rfl, rfl⟩) (by assumption) ?_
            try simp only [Act.put, List.setIfInBounds_toArray, List.set_cons_zero, List.set_cons_succ]
            refine wpAnyH_take (i := 15) (v := undef) Held.op15 (by kernel_rfl) (by kernel_rfl) (by kernel_rfl) (fun _ _ _ h => h) (Or.inr ⟨by rfl, rfl⟩) (by assumption) ?_
            try simp only [Act.put, List.setIfInBounds_toArray, List.set_cons_zero, List.set_cons_succ]
            refine wpAnyH_take (i := 16) (v := undef) Held.op16 (by kernel_rfl) (by kernel_rfl) (by kernel_rfl) (fun _ _ _ h => h) (Or.inr ⟨by rfl, rfl⟩) (by assumption) ?_
            try simp only [Act.put, List.setIfInBounds_toArray, List.set_cons_zero, List.set_cons_succ]
            refine wpAnyH_take (i := 17) (v := undef) Held.op17 (by kernel_rfl) (by kernel_rfl) (by kernel_rfl) (fun _ _ _ h => h) (Or.inr ⟨by rfl, rfl⟩) (by assumption) ?_
            try simp only [Act.put, List.setIfInBounds_toArray, List.set_cons_zero, List.set_cons_succ]
            refine wpAnyH_take (i := 18) (v := undef) Held.op18 (by kernel_rfl) (by kernel_rfl) (by kernel_rfl) (fun _ _ _ h => h) (Or.inr ⟨by rfl, rfl⟩) (by assumption) ?_
            try simp only [Act.put, List.setIfInBounds_toArray, List.set_cons_zero, List.set_cons_succ]
            refine wpAnyH_take (i := 19) (v := undef) Held.op19 (by kernel_rfl) (by kernel_rfl) (by kernel_rfl) (fun _ _ _ h => h) (Or.inr ⟨by rfl, rfl⟩) (by assumption) ?_
            try simp only [Act.put, List.setIfInBounds_toArray, List.set_cons_zero, List.set_cons_succ]
            refine wpAnyH_take (i := 20) (v := undef) Held.op20 (by kernel_rfl) (by kernel_rfl) (by kernel_rfl) (fun _ _ _ h => h) (Or.inr ⟨by rfl, rfl⟩) (by assumption) ?_
            try simp only [Act.put, List.setIfInBounds_toArray, List.set_cons_zero, List.set_cons_succ]
            refine wpAnyH_take (i := 21) (v := undef) Held.op21 (by kernel_rfl) (by kernel_rfl) (by kernel_rfl) (fun _ _ _ h => h) (Or.inr ⟨by rfl, rfl⟩) (by assumption) ?_
            try simp only [Act.put, List.setIfInBounds_toArray, List.set_cons_zero, List.set_cons_succ]
            refine wpAnyH_take (i := 22) (v := undef) Held.op22 (by kernel_rfl) (by kernel_rfl) (by kernel_rfl) (fun _ _ _ h => h) (Or.inr ⟨by rfl, rfl⟩) (by assumption) ?_
            try simp only [Act.put, List.setIfInBounds_toArray, List.set_cons_zero, List.set_cons_succ]
            refine wpAnyH_take (i := 23) (v := undef) Held.op23 (by kernel_rfl) (by kernel_rfl) (by kernel_rfl) (fun _ _ _ h => h) (Or.inr ⟨by rfl, rfl⟩) (by assumption) ?_
            try simp only [Act.put, List.setIfInBounds_toArray, List.set_cons_zero, List.set_cons_succ]
            refine wpAnyH_take (i := 24) (v := ?v100) Held.op24 (by kernel_rfl) (by kernel_rfl) (by kernel_rfl) (fun _ _ _ h => h) (Or.inl ⟨by rfl, ?hy100⟩) (by assumption) ?rest100
            case hy100 => (intro wq hSq; (try dsimp only at hSq); first | (go_simp; done) | (go_simp; with_reducible rfl))
            try simp only [Act.put, List.setIfInBounds_toArray, List.set_cons_zero, List.set_cons_succ]
            refine wpAnyH_done (by kernel_rfl) ?_ _
            go_wp2_with fail
            go_ret
            exact ⟨rfl, HY2.out⟩
          · have b3 : (ii == ni) = false := by
              have : ¬ ii = ni := fun h => h2 h.symm
              simpa using this
            clear hne h2
            refine wp_region_held_drew (S := (fun wz => wz.cell? ⟨wr.heap.size, 0, none⟩ = some (.bool ib) ∧ wz.cell? ⟨wr.heap.size, 1, none⟩ = some (.int .i64 ii) ∧ wz.cell? ⟨wr.heap.size, 2, none⟩ = some (.string is) ∧ wz.cell? ⟨w'.heap.size, 3, none⟩ = some (.slice (some ⟨b, off, none⟩) l.length c) ∧ wz.cell? ⟨b, off + j * 7 + 3, none⟩ = some (.int .i64 k1) ∧ wz.cell? ⟨b, off + j * 7 + 4, none⟩ = some (.int .i64 n1) ∧ wz.cell? ⟨b, off + j * 7 + 5, none⟩ = some (.string t1) ∧ wz.cell? ⟨b, off + j * 7 + 6, none⟩ = some (.slice A1 l1 e1))) (by kernel_rfl) ?_ (fun hHeld => ?_)
            · exact ⟨da0, da1, da2, da3, da4, da5, da6, da7⟩
            refine wpAnyH_take (i := 0) (v := ?v101) Held.op0 (by kernel_rfl) (by kernel_rfl) (by kernel_rfl) (fun _ _ _ h => h) (Or.inl ⟨by rfl, ?hy101⟩) (by assumption) ?rest101
            case hy101 => (intro wq hSq; (try dsimp only at hSq); first | (go_simp; done) | (go_simp; with_reducible rfl))
            try simp only [Act.put, List.setIfInBounds_toArray, List.set_cons_zero, List.set_cons_succ]
            refine wpAnyH_take (i := 1) (v := ?v102) Held.op1 (by kernel_rfl) (by kernel_rfl) (by kernel_rfl) (fun _ _ _ h => h) (Or.inl ⟨by rfl, ?hy102⟩) (by assumption) ?rest102
            case hy102 => (intro wq hSq; (try dsimp only at hSq); first | (go_simp; done) | (go_simp; with_reducible rfl))
            try simp only [Act.put, List.setIfInBounds_toArray, List.set_cons_zero, List.set_cons_succ]
            refine wpAnyH_ready (rs := [2]) (by kernel_rfl) (by simp) ?_
            refine AllReadyH.cons Held.op2 (fun K hK => ?_) AllReadyH.nil
            go_simp
            go_at_call 74; refine (HN.out _ HZ1.out).mono ?_; rintro e w2 ⟨rfl, hb2⟩; have HZ2 := Lib.hid (HZ1.out.trans (hb2.mono (by have := HZ1.out.size; omega))); have HY2 := Lib.hid (HY1.out.trans (hb2.mono (by have := HY1.out.size; omega))); have HX2 := Lib.hid (blk_below HX1.out hb2); have HI2 := Lib.hid (blk_below HI1.out hb2); have ya0 := HI2.out.cell 0; have ya1 := HI2.out.cell 1; have ya2 := HI2.out.cell 2; have ya3 := HX2.out.cell 3; have ya4 := (HZ2.out.cell (p := ⟨b, off + j * 7 + 3, none⟩) hbB).trans HC3.out; have ya5 := (HZ2.out.cell (p := ⟨b, off + j * 7 + 4, none⟩) hbB).trans HC4.out; have ya6 := (HZ2.out.cell (p := ⟨b, off + j * 7 + 5, none⟩) hbB).trans HC5.out; have ya7 := (HZ2.out.cell (p := ⟨b, off + j * 7 + 6, none⟩) hbB).trans HC6.out; clear hb2
            try (go_wp2_with fail)
            refine hK.out _ _ ?_ (fun hHeld => ?_)
            · exact ⟨ya0, ya1, ya2, ya3, ya4, ya5, ya6, ya7⟩
            clear hK K
            try simp only [Act.put, List.setIfInBounds_toArray, List.set_cons_zero, List.set_cons_succ]
            refine wpAnyH_take (i := 3) (v := ?v104) Held.op3 (by kernel_rfl) (by kernel_rfl) (by kernel_rfl) (fun _ _ _ h => h) (Or.inl ⟨by rfl, ?hy104⟩) (by assumption) ?rest104
            case hy104 => (intro wq hSq; (try dsimp only at hSq); first | (go_simp; done) | (go_simp; with_reducible rfl))
            try simp only [Act.put, List.setIfInBounds_toArray, List.set_cons_zero, List.set_cons_succ]
            refine wpAnyH_take (i := 4) (v := ?v105) Held.op4 (by kernel_rfl) (by kernel_rfl) (by kernel_rfl) (fun _ _ _ h => h) (Or.inl ⟨by rfl, ?hy105⟩) (by assumption) ?rest105
            case hy105 => (intro wq hSq; (try dsimp only at hSq); first | (go_simp; done) | (go_simp; with_reducible rfl))
            try simp only [Act.put, List.setIfInBounds_toArray, List.set_cons_zero, List.set_cons_succ]
            refine wpAnyH_take (i := 5) (v := undef) Held.op5 (by kernel_rfl) (by kernel_rfl) (by kernel_rfl) (fun _ _ _ h => h) (Or.inr ⟨by rfl, rfl⟩) (by assumption) ?_
            try simp only [Act.put, List.setIfInBounds_toArray, List.set_cons_zero, List.set_cons_succ]
            refine wpAnyH_take (i := 6) (v := undef) Held.op6 (by kernel_rfl) (by kernel_rfl) (by kernel_rfl) (fun _ _ _ h => h) (Or.inr ⟨by rfl, rfl⟩) (by assumption) ?_
            try simp only [Act.put, List.setIfInBounds_toArray, List.set_cons_zero, List.set_cons_succ]
            refine wpAnyH_take (i := 7) (v := undef) Held.op7 (by kernel_rfl) (by kernel_rfl) (by kernel_rfl) (fun _ _ _ h => h) (Or.inr ⟨by rfl, rfl⟩) (by assumption) ?_
            try simp only [Act.put, List.setIfInBounds_toArray, List.set_cons_zero, List.set_cons_succ]
            refine wpAnyH_take (i := 8) (v := undef) Held.op8 (by kernel_rfl) (by kernel_rfl) (by kernel_rfl) (fun _ _ _ h => h) (Or.inr ⟨by rfl, rfl⟩) (by assumption) ?_
            try simp only [Act.put, List.setIfInBounds_toArray, List.set_cons_zero, List.set_cons_succ]
            refine wpAnyH_take (i := 9) (v := undef) Held.op9 (by kernel_rfl) (by kernel_rfl) (by kernel_rfl) (fun _ _ _ h => h) (Or.inr ⟨by rfl, rfl⟩) (by assumption) ?_
            try simp only [Act.put, List.setIfInBounds_toArray, List.set_cons_zero, List.set_cons_succ]
            refine wpAnyH_take (i := 10) (v := undef) Held.op10 (by kernel_rfl) (by kernel_rfl) (by kernel_rfl) (fun _ _ _ h => h) (Or.inr ⟨by rfl, rfl⟩) (by assumption) ?_
            try simp only [Act.put, List.setIfInBounds_toArray, List.set_cons_zero, List.set_cons_succ]
            refine wpAnyH_take (i := 11) (v := undef) Held.op11 (by kernel_rfl) (by kernel_rfl) (by kernel_rfl) (fun _ _ _ h => h) (Or.inr ⟨by rfl, rfl⟩) (by assumption) ?_
            try simp only [Act.put, List.setIfInBounds_toArray, List.set_cons_zero, List.set_cons_succ]
            refine wpAnyH_take (i := 12) (v := ?v113) Held.op12 (by kernel_rfl) (by kernel_rfl) (by kernel_rfl) (fun _ _ _ h => h) (Or.inl ⟨by rfl, ?hy113⟩) (by assumption) ?rest113
            case hy113 => (intro wq hSq; (try dsimp only at hSq); first | (go_simp; done) | (go_simp; with_reducible rfl))
            try simp only [Act.put, List.setIfInBounds_toArray, List.set_cons_zero, List.set_cons_succ]
            refine wpAnyH_take (i := 13) (v := ?v114) Held.op13 (by kernel_rfl) (by kernel_rfl) (by kernel_rfl) (fun _ _ _ h => h) (Or.inl ⟨by rfl, ?hy114⟩) (by assumption) ?rest114
            case hy114 => (intro wq hSq; (try dsimp only at hSq); first | (go_simp; done) | (go_simp; with_reducible rfl))
            try simp only [Act.put, List.setIfInBounds_toArray, List.set_cons_zero, List.set_cons_succ]
            refine wpAnyH_take (i := 14) (v := undef) Held.op14 (by kernel_rfl) (by kernel_rfl) (by kernel_rfl) (fun _ _ _ h => h) (Or.inr ⟨by rfl, rfl⟩) (by assumption) ?_
            try simp only [Act.put, List.setIfInBounds_toArray, List.set_cons_zero, List.set_cons_succ]
            refine wpAnyH_take (i := 15) (v := undef) Held.op15 (by kernel_rfl) (by kernel_rfl) (by kernel_rfl) (fun _ _ _ h => h) (Or.inr ⟨by rfl, rfl⟩) (by assumption) ?_
            try simp only [Act.put, List.setIfInBounds_toArray, List.set_cons_zero, List.set_cons_succ]
            refine wpAnyH_take (i := 16) (v := undef) Held.op16 (by kernel_rfl) (by kernel_rfl) (by kernel_rfl) (fun _ _ _ h => h) (Or.inr ⟨by rfl, rfl⟩) (by assumption) ?_
            try simp only [Act.put, List.setIfInBounds_toArray, List.set_cons_zero, List.set_cons_succ]
            refine wpAnyH_take (i := 17) (v := undef) Held.op17 (by kernel_rfl) (by kernel_rfl) (by kernel_rfl) (fun _ _ _ h => h) (Or.inr ⟨by rfl, rfl⟩) (by assumption) ?_
            try simp only [Act.put, List.setIfInBounds_toArray, List.set_cons_zero, List.set_cons_succ]
            refine wpAnyH_take (i := 18) (v := undef) Held.op18 (by kernel_rfl) (by kernel_rfl) (by kernel_rfl) (fun _ _ _ h => h) (Or.inr ⟨by rfl, rfl⟩) (by assumption) ?_
            try simp only [Act.put, List.setIfInBounds_toArray, List.set_cons_zero, List.set_cons_succ]
            refine wpAnyH_take (i := 19) (v := undef) Held.op19 (by kernel_rfl) (by kernel_rfl) (by kernel_rfl) (fun _ _ _ h => h) (Or.inr ⟨by rfl, rfl⟩) (by assumption) ?_
            try simp only [Act.put, List.setIfInBounds_toArray, List.set_cons_zero, List.set_cons_succ]
            refine wpAnyH_take (i := 20) (v := undef) Held.op20 (by kernel_rfl) (by kernel_rfl) (by kernel_rfl) (fun _ _ _ h => h) (Or.inr ⟨by rfl, rfl⟩) (by assumption) ?_
            try simp only [Act.put, List.setIfInBounds_toArray, List.set_cons_zero, List.set_cons_succ]
            refine wpAnyH_take (i := 21) (v := undef) Held.op21 (by kernel_rfl) (by kernel_rfl) (by kernel_rfl) (fun _ _ _ h => h) (Or.inr ⟨by rfl, rfl⟩) (by assumption) ?_
            try simp only [Act.put, List.setIfInBounds_toArray, List.set_cons_zero, List.set_cons_succ]
            refine wpAnyH_take (i := 22) (v := undef) Held.op22 (by kernel_rfl) (by kernel_rfl) (by kernel_rfl) (fun _ _ _ h => h) (Or.inr ⟨by rfl, rfl⟩) (by assumption) ?_
            try simp only [Act.put, List.setIfInBounds_toArray, List.set_cons_zero, List.set_cons_succ]
            refine wpAnyH_take (i := 23) (v := undef) Held.op23 (by kernel_rfl) (by kernel_rfl) (by kernel_rfl) (fun _ _ _ h => h) (Or.inr ⟨by rfl, rfl⟩) (by assumption) ?_
            try simp only [Act.put, List.setIfInBounds_toArray, List.set_cons_zero, List.set_cons_succ]
            refine wpAnyH_take (i := 24) (v := ?v125) Held.op24 (by kernel_rfl) (by kernel_rfl) (by kernel_rfl) (fun _ _ _ h => h) (Or.inl ⟨by rfl, ?hy125⟩) (by assumption) ?rest125
            case hy125 => (intro wq hSq; (try dsimp only at hSq); first | (go_simp; done) | (go_simp; with_reducible rfl))
            try simp only [Act.put, List.setIfInBounds_toArray, List.set_cons_zero, List.set_cons_succ]
            refine wpAnyH_done (by kernel_rfl) ?_ _
            go_wp2_with fail
            go_ret
            exact ⟨rfl, HY2.out⟩
        · have b3 : (ib == nb) = false := by
            have : ¬ ib = nb := fun h => h1 h.symm
            simpa using this
          clear hne h1
          refine wp_region_held_drew (S := (fun wz => wz.cell? ⟨wr.heap.size, 0, none⟩ = some (.bool ib) ∧ wz.cell? ⟨wr.heap.size, 1, none⟩ = some (.int .i64 ii) ∧ wz.cell? ⟨wr.heap.size, 2, none⟩ = some (.string is) ∧ wz.cell? ⟨w'.heap.size, 3, none⟩ = some (.slice (some ⟨b, off, none⟩) l.length c) ∧ wz.cell? ⟨b, off + j * 7 + 3, none⟩ = some (.int .i64 k1) ∧ wz.cell? ⟨b, off + j * 7 + 4, none⟩ = some (.int .i64 n1) ∧ wz.cell? ⟨b, off + j * 7 + 5, none⟩ = some (.string t1) ∧ wz.cell? ⟨b, off + j * 7 + 6, none⟩ = some (.slice A1 l1 e1))) (by kernel_rfl) ?_ (fun hHeld => ?_)
          · exact ⟨da0, da1, da2, da3, da4, da5, da6, da7⟩
          refine wpAnyH_take (i := 0) (v := ?v126) Held.op0 (by kernel_rfl) (by kernel_rfl) (by kernel_rfl) (fun _ _ _ h => h) (Or.inl ⟨by rfl, ?hy126⟩) (by assumption) ?rest126
          case hy126 => (intro wq hSq; (try dsimp only at hSq); first | (go_simp; done) | (go_simp; with_reducible rfl))
          try simp only [Act.put, List.setIfInBounds_toArray, List.set_cons_zero, List.set_cons_succ]
          refine wpAnyH_take (i := 1) (v := ?v127) Held.op1 (by kernel_rfl) (by kernel_rfl) (by kernel_rfl) (fun _ _ _ h => h) (Or.inl ⟨by rfl, ?hy127⟩) (by assumption) ?rest127
          case hy127 => (intro wq hSq; (try dsimp only at hSq); first | (go_simp; done) | (go_simp; with_reducible rfl))
          try simp only [Act.put, List.setIfInBounds_toArray, List.set_cons_zero, List.set_cons_succ]
          refine wpAnyH_ready (rs := [2]) (by kernel_rfl) (by simp) ?_
          refine AllReadyH.cons Held.op2 (fun K hK => ?_) AllReadyH.nil
          go_simp
          go_at_call 74; refine (HN.out _ HZ1.out).mono ?_; rintro e w2 ⟨rfl, hb2⟩; have HZ2 := Lib.hid (HZ1.out.trans (hb2.mono (by have := HZ1.out.size; omega))); have HY2 := Lib.hid (HY1.out.trans (hb2.mono (by have := HY1.out.size; omega))); have HX2 := Lib.hid (blk_below HX1.out hb2); have HI2 := Lib.hid (blk_below HI1.out hb2); have ya0 := HI2.out.cell 0; have ya1 := HI2.out.cell 1; have ya2 := HI2.out.cell 2; have ya3 := HX2.out.cell 3; have ya4 := (HZ2.out.cell (p := ⟨b, off + j * 7 + 3, none⟩) hbB).trans HC3.out; have ya5 := (HZ2.out.cell (p := ⟨b, off + j * 7 + 4, none⟩) hbB).trans HC4.out; have ya6 := (HZ2.out.cell (p := ⟨b, off + j * 7 + 5, none⟩) hbB).trans HC5.out; have ya7 := (HZ2.out.cell (p := ⟨b, off + j * 7 + 6, none⟩) hbB).trans HC6.out; clear hb2
          try (go_wp2_with fail)
          refine hK.out _ _ ?_ (fun hHeld => ?_)
          · exact ⟨ya0, ya1, ya2, ya3, ya4, ya5, ya6, ya7⟩
          clear hK K
          try simp only [Act.put, List.setIfInBounds_toArray, List.set_cons_zero, List.set_cons_succ]
          refine wpAnyH_take (i := 3) (v := ?v129) Held.op3 (by kernel_rfl) (by kernel_rfl) (by kernel_rfl) (fun _ _ _ h => h) (Or.inl ⟨by rfl, ?hy129⟩) (by assumption) ?rest129
          case hy129 => (intro wq hSq; (try dsimp only at hSq); first | (go_simp; done) | (go_simp; with_reducible rfl))
          try simp only [Act.put, List.setIfInBounds_toArray, List.set_cons_zero, List.set_cons_succ]
          refine wpAnyH_take (i := 4) (v := ?v130) Held.op4 (by kernel_rfl) (by kernel_rfl) (by kernel_rfl) (fun _ _ _ h => h) (Or.inl ⟨by rfl, ?hy130⟩) (by assumption) ?rest130
          case hy130 => (intro wq hSq; (try dsimp only at hSq); first | (go_simp; done) | (go_simp; with_reducible rfl))
          try simp only [Act.put, List.setIfInBounds_toArray, List.set_cons_zero, List.set_cons_succ]
          refine wpAnyH_take (i := 5) (v := undef) Held.op5 (by kernel_rfl) (by kernel_rfl) (by kernel_rfl) (fun _ _ _ h => h) (Or.inr ⟨by rfl, rfl⟩) (by assumption) ?_
          try simp only [Act.put, List.setIfInBounds_toArray, List.set_cons_zero, List.set_cons_succ]
          refine wpAnyH_take (i := 6) (v := undef) Held.op6 (by kernel_rfl) (by kernel_rfl) (by kernel_rfl) (fun _ _ _ h => h) (Or.inr ⟨by rfl, rfl⟩) (by assumption) ?_
          try simp only [Act.put, List.setIfInBounds_toArray, List.set_cons_zero, List.set_cons_succ]
          refine wpAnyH_take (i := 7) (v := undef) Held.op7 (by kernel_rfl) (by kernel_rfl) (by kernel_rfl) (fun _ _ _ h => h) (Or.inr ⟨by rfl, rfl⟩) (by assumption) ?_
          try simp only [Act.put, List.setIfInBounds_toArray, List.set_cons_zero, List.set_cons_succ]
          refine wpAnyH_take (i := 8) (v := undef) Held.op8 (by kernel_rfl) (by kernel_rfl) (by kernel_rfl) (fun _ _ _ h => h) (Or.inr ⟨by rfl, rfl⟩) (by assumption) ?_
          try simp only [Act.put, List.setIfInBounds_toArray, List.set_cons_zero, List.set_cons_succ]
          refine wpAnyH_take (i := 9) (v := undef) Held.op9 (by kernel_rfl) (by kernel_rfl) (by kernel_rfl) (fun _ _ _ h => h) (Or.inr ⟨by rfl, rfl⟩) (by assumption) ?_
          try simp only [Act.put, List.setIfInBounds_toArray, List.set_cons_zero, List.set_cons_succ]
          refine wpAnyH_take (i := 10) (v := undef) Held.op10 (by kernel_rfl) (by kernel_rfl) (by kernel_rfl) (fun _ _ _ h => h) (Or.inr ⟨by rfl, rfl⟩) (by assumption) ?_
          try simp only [Act.put, List.setIfInBounds_toArray, List.set_cons_zero, List.set_cons_succ]
          refine wpAnyH_take (i := 11) (v := undef) Held.op11 (by kernel_rfl) (by kernel_rfl) (by kernel_rfl) (fun _ _ _ h => h) (Or.inr ⟨by rfl, rfl⟩) (by assumption) ?_
          try simp only [Act.put, List.setIfInBounds_toArray, List.set_cons_zero, List.set_cons_succ]
          refine wpAnyH_take (i := 12) (v := ?v138) Held.op12 (by kernel_rfl) (by kernel_rfl) (by kernel_rfl) (fun _ _ _ h => h) (Or.inl ⟨by rfl, ?hy138⟩) (by assumption) ?rest138
          case hy138 => (intro wq hSq; (try dsimp only at hSq); first | (go_simp; done) | (go_simp; with_reducible rfl))
          try simp only [Act.put, List.setIfInBounds_toArray, List.set_cons_zero, List.set_cons_succ]
          refine wpAnyH_take (i := 13) (v := ?v139) Held.op13 (by kernel_rfl) (by kernel_rfl) (by kernel_rfl) (fun _ _ _ h => h) (Or.inl ⟨by rfl, ?hy139⟩) (by assumption) ?rest139
          case hy139 => (intro wq hSq; (try dsimp only at hSq); first | (go_simp; done) | (go_simp; with_reducible rfl))
          try simp only [Act.put, List.setIfInBounds_toArray, List.set_cons_zero, List.set_cons_succ]
          refine wpAnyH_take (i := 14) (v := undef) Held.op14 (by kernel_rfl) (by kernel_rfl) (by kernel_rfl) (fun _ _ _ h => h) (Or.inr ⟨by rfl, rfl⟩) (by assumption) ?_
          try simp only [Act.put, List.setIfInBounds_toArray, List.set_cons_zero, List.set_cons_succ]
          refine wpAnyH_take (i := 15) (v := undef) Held.op15 (by kernel_rfl) (by kernel_rfl) (by kernel_rfl) (fun _ _ _ h => h) (Or.inr ⟨by rfl, rfl⟩) (by assumption) ?_
          try simp only [Act.put, List.setIfInBounds_toArray, List.set_cons_zero, List.set_cons_succ]
          refine wpAnyH_take (i := 16) (v := undef) Held.op16 (by kernel_rfl) (by kernel_rfl) (by kernel_rfl) (fun _ _ _ h => h) (Or.inr ⟨by rfl, rfl⟩) (by assumption) ?_
          try simp only [Act.put, List.setIfInBounds_toArray, List.set_cons_zero, List.set_cons_succ]
          refine wpAnyH_take (i := 17) (v := undef) Held.op17 (by kernel_rfl) (by kernel_rfl) (by kernel_rfl) (fun _ _ _ h => h) (Or.inr ⟨by rfl, rfl⟩) (by assumption) ?_
          try simp only [Act.put, List.setIfInBounds_toArray, List.set_cons_zero, List.set_cons_succ]
          refine wpAnyH_take (i := 18) (v := undef) Held.op18 (by kernel_rfl) (by kernel_rfl) (by kernel_rfl) (fun _ _ _ h => h) (Or.inr ⟨by rfl, rfl⟩) (by assumption) ?_
          try simp only [Act.put, List.setIfInBounds_toArray, List.set_cons_zero, List.set_cons_succ]
          refine wpAnyH_take (i := 19) (v := undef) Held.op19 (by kernel_rfl) (by kernel_rfl) (by kernel_rfl) (fun _ _ _ h => h) (Or.inr ⟨by rfl, rfl⟩) (by assumption) ?_
          try simp only [Act.put, List.setIfInBounds_toArray, List.set_cons_zero, List.set_cons_succ]
          refine wpAnyH_take (i := 20) (v := undef) Held.op20 (by kernel_rfl) (by kernel_rfl) (by kernel_rfl) (fun _ _ _ h => h) (Or.inr ⟨by rfl, rfl⟩) (by assumption) ?_
          try simp only [Act.put, List.setIfInBounds_toArray, List.set_cons_zero, List.set_cons_succ]
          refine wpAnyH_take (i := 21) (v := undef) Held.op21 (by kernel_rfl) (by kernel_rfl) (by kernel_rfl) (fun _ _ _ h => h) (Or.inr ⟨by rfl, rfl⟩) (by assumption) ?_
          try simp only [Act.put, List.setIfInBounds_toArray, List.set_cons_zero, List.set_cons_succ]
          refine wpAnyH_take (i := 22) (v := undef) Held.op22 (by kernel_rfl) (by kernel_rfl) (by kernel_rfl) (fun _ _ _ h => h) (Or.inr ⟨by rfl, rfl⟩) (by assumption) ?_
          try simp only [Act.put, List.setIfInBounds_toArray, List.set_cons_zero, List.set_cons_succ]
          refine wpAnyH_take (i := 23) (v := undef) Held.op23 (by kernel_rfl) (by kernel_rfl) (by kernel_rfl) (fun _ _ _ h => h) (Or.inr ⟨by rfl, rfl⟩) (by assumption) ?_
          try simp only [Act.put, List.setIfInBounds_toArray, List.set_cons_zero, List.set_cons_succ]
          refine wpAnyH_take (i := 24) (v := ?v150) Held.op24 (by kernel_rfl) (by kernel_rfl) (by kernel_rfl) (fun _ _ _ h => h) (Or.inl ⟨by rfl, ?hy150⟩) (by assumption) ?rest150
          case hy150 => (intro wq hSq; (try dsimp only at hSq); first | (go_simp; done) | (go_simp; with_reducible rfl))
          try simp only [Act.put, List.setIfInBounds_toArray, List.set_cons_zero, List.set_cons_succ]
          refine wpAnyH_done (by kernel_rfl) ?_ _
          go_wp2_with fail
          go_ret
          exact ⟨rfl, HY2.out⟩
    · obtain rfl : j = l.length := by omega
      have hM : M = true := by rw [HL.out, List.drop_length, mayL]
      subst hM
      clear HI HV HL HA HW HF
      go_wp2_with fail
      go_ret
      exact ⟨rfl, HB.out⟩
set_option maxRecDepth 100000 in
set_option maxHeartbeats 4000000 in
theorem rlist_any (hBw : B ≤ w.heap.size) (n : Int) (t : ByteArray) (l : List GI) (A : Option Addr) (c b off : Nat) (C : Nat → Value) (hc : l.length ≤ c)
    (hA : 0 < l.length → A = some ⟨b, off, none⟩ ∧ b < B) (hi : ∀ i it, l[i]? = some it → ItemAt w b (off + i * 7) it (C i)) (hW : ∀ i it, l[i]? = some it → VAt w B it.val (C i))
    (hF : ∀ (i : Nat) (it : GI), l[i]? = some it → In64 it.int ∧ it.text.size ≤ 140737488351232)
    (ih : ∀ i it, l[i]? = some it → ∀ w' : World, Below B w w' → ∀ d : Int, 0 ≤ d → d ≤ 64 → Calls Tryz.prog 13 #[C i, .int .i64 d] w' fun e w'' => e = .returned (.bool (mayV it.val d)) ∧ Below w'.heap.size w' w'')
    (w' : World) (hb : Below B w w') (d : Int) (hd0 : 0 ≤ d) (hd1 : d ≤ 64) :
    Calls Tryz.prog 13 #[.agg #[.int .i64 4, .int .i64 n, .string t, .slice A l.length c], .int .i64 d] w' fun e w'' => e = .returned (.bool (if t.size = 0 ∧ -1 ≤ n ∧ l.length ≤ 2048 ∧ d < 64 then mayL l [] n d else false)) ∧ Below w'.heap.size w' w'' := by
  have HA := Lib.hid hA
  have HI := Lib.hid hi
  have HV := Lib.hid ih
  have HW := Lib.hid hW
  have HF := Lib.hid hF
  have HB0 := Lib.hid ((Below.refl w'.heap.size w').alloc (Nat.le_refl _) (.cells #[.int .i64 4, .int .i64 n, .string t, .slice A l.length c] 25))
  clear hA hi ih hW hF
  by_cases ht : t.size = 0
  · obtain rfl := empty_eq ht
    by_cases hn1 : n < -1
    · rw [if_neg (by omega)]
      clear HA HI HV HW HF
      go_enter Tryz.func13, Tryz.ntmps13
      go_wp2_with fail
      go_ret
      exact ⟨rfl, HB0.out⟩
    · by_cases hl : 2048 < l.length
      · rw [if_neg (by omega)]
        clear HA HI HV HW HF
        go_enter Tryz.func13, Tryz.ntmps13
        go_wp2_with fail
        go_ret
        exact ⟨rfl, HB0.out⟩
      · by_cases hd : 64 ≤ d
        · rw [if_neg (by omega)]
          clear HA HI HV HW HF
          go_enter Tryz.func13, Tryz.ntmps13
          go_wp2_with fail
          go_ret
          exact ⟨rfl, HB0.out⟩
        · rw [if_pos ⟨rfl, by omega, by omega, by omega⟩]
          exact rlist_main hBw n l A c b off C hc HA.out HI.out HW.out HF.out HV.out w' hb d hd0 (by omega) (by omega) (by omega)
  · rw [if_neg (fun h => ht h.1)]
    have bt := empty_no ht
    clear HA HI HV HW HF
    go_enter Tryz.func13, Tryz.ntmps13
    go_wp2_with fail
    go_ret
    exact ⟨rfl, HB0.out⟩
theorem rmay_any (hBw : B ≤ w.heap.size) {g : GV} {x : Value} (h : VAt w B g x) : Fit g → ∀ (w' : World), Below B w w' → ∀ d : Int, 0 ≤ d → d ≤ 64 →
    Calls Tryz.prog 13 #[x, .int .i64 d] w' fun e w'' => e = .returned (.bool (mayV g d)) ∧ Below w'.heap.size w' w'' := by
  induction h with
  | mk k n t l A c b off C hc hn hA hi hv ih =>
    intro hf w' hb d hd0 hd1
    cases hf with
    | mk _ _ _ _ hk hn' ht h1 h2 =>
    have ih' := fun i it hit => ih i it hit (h2 i it hit)
    by_cases h4 : k = 4
    · subst h4
      rw [mayV, if_pos rfl]
      exact rlist_any hBw n t l A c b off C hc hA hi hv h1 ih' w' hb d hd0 hd1
    · rw [mayV, if_neg h4]
      by_cases hkk : 0 ≤ k ∧ k ≤ 5
      · obtain rfl | rfl | rfl | rfl | rfl : k = 0 ∨ k = 1 ∨ k = 2 ∨ k = 3 ∨ k = 5 := by omega
        · exact rmay_0 n t A l.length c w' d
        · exact rmay_1 n t A l.length c w' d
        · exact rmay_2 n t A l.length c w' d
        · exact rmay_3 n t A l.length c w' d
        · exact rmay_5 n t A l.length c w' d
      · have e : flatB k n t = false := by
          unfold flatB
          rw [if_neg (by omega), if_neg (by omega), if_neg (by omega), if_neg (by omega), if_neg (by omega)]
        rw [e, Bool.and_false]
        exact rmay_no n t A l.length c w' d k hkk
end
end Dp
end Go.Proofs.YtgjnmfjiolpikaaGreatDoor
