/- ostlerref08.lists: the order of two lists: the walk. -/
import Derived.Test.YthdnflklhhfojaaGreatDoorOrI
namespace Go.Proofs.YthdnflklhhfojaaGreatDoor
open Go Go.RowKit
namespace Dp
section
variable {w : World} {B : Nat}
set_option maxRecDepth 100000 in
set_option maxHeartbeats 4000000 in
theorem rlists_main (hBw : B ≤ w.heap.size) (l l' : List GI) (A : Option Addr) (c b off : Nat) (C : Nat → Value) (A' : Option Addr) (c' b' off' : Nat) (C' : Nat → Value)
    (hA : 0 < l.length → A = some ⟨b, off, none⟩ ∧ b < B) (hi : ∀ i it, l[i]? = some it → ItemAt w b (off + i * 7) it (C i)) (hW : ∀ i it, l[i]? = some it → VAt w B it.val (C i))
    (hF : ∀ (i : Nat) (it : GI), l[i]? = some it → In64 it.int ∧ it.text.size ≤ 140737488351232)
    (hA' : 0 < l'.length → A' = some ⟨b', off', none⟩ ∧ b' < B) (hi' : ∀ i it, l'[i]? = some it → ItemAt w b' (off' + i * 7) it (C' i)) (hW' : ∀ i it, l'[i]? = some it → VAt w B it.val (C' i))
    (_hF' : ∀ (i : Nat) (it : GI), l'[i]? = some it → In64 it.int ∧ it.text.size ≤ 140737488351232)
    (_hd' : ∀ (j : Nat) (it : GI), l'[j]? = some it → GI.keyG it ∉ keysOf l' j)
    (ih : ∀ i it, l[i]? = some it → ∀ i' it', l'[i']? = some it' → ∀ w1 : World, Below B w w1 → Calls Tryz.prog 45 #[C i, C' i'] w1 fun e w2 => e = .returned (.int .i64 (ordV it.val it'.val)) ∧ Below w1.heap.size w1 w2)
    (hc : l.length ≤ c) (hc' : l'.length ≤ c') (m : Nat) (hm : l.length = m) (hm' : l'.length = m) (hml : m ≤ 2048) (w' : World) (hb : Below B w w') :
    Calls Tryz.prog 78 #[.slice A m c, .slice A' m c'] w' fun e w'' => e = .returned (.int .i64 (if missL l (keysOf l' m) = true then 1 else ordL l l')) ∧ Below w'.heap.size w' w'' := by
  have hB' : B ≤ w'.heap.size := Nat.le_trans hBw hb.size
  have HFG := Lib.hid (fun kb ki ks w1 hz => rfind_any (w := w) (B := B) hBw hA' hi' m c' (by omega) (by omega) (by omega) kb ki ks w1 hz)
  have HA := Lib.hid hA
  have HI := Lib.hid hi
  have HW := Lib.hid hW
  have HF := Lib.hid hF
  have HA2 := Lib.hid hA'
  have HI2 := Lib.hid hi'
  have HW2 := Lib.hid hW'
  have HV := Lib.hid ih
  have HML := Lib.hid hm
  have HML2 := Lib.hid hm'
  have Hb := Lib.hid hb
  have HCC := Lib.hid (And.intro hc hc')
  have HKA := Lib.hid (show l'.map GI.keyG = keysOf l' m by rw [← keysOf_all, hm'])
  obtain ⟨M, HM⟩ : ∃ z, Hid ((if missL l (keysOf l' m) = true then 1 else ordL l l') = z) := ⟨_, rfl⟩
  rw [HM.out]
  have HB0 := Lib.hid (Below.refl w'.heap.size w')
  have HMs : Hid (missL l (keysOf l' m) = missL (l.drop 0) (keysOf l' m)) := rfl
  have hmc : (m : Int) ≤ (c : Int) := by omega
  have hmc' : (m : Int) ≤ (c' : Int) := by omega
  clear hA hi hW hF hA' hi' hW' _hF' _hd' ih hm hm' hb hc hc'
  go_enter Tryz.func78, Tryz.ntmps78
  go_wp2_with fail
  go_loopw [5] (fun xi wx => ∃ (i : Nat), i ≤ m ∧ xi = .int .i64 i ∧ Hid (missL l (keysOf l' m) = missL (l.drop i) (keysOf l' m)) ∧ Hid (Below w'.heap.size w' wx)) (fun xi _ => m - (ixOf xi).toNat)
  case atStart => exact ⟨0, Nat.zero_le _, rfl, HMs, HB0⟩
  case round =>
    clear HMs HB0
    obtain ⟨i, hi, rfl, HMs, HB⟩ := hrel
    by_cases hlt : i < m
    · obtain ⟨it, hit⟩ : ∃ it, l[i]? = some it := ⟨_, List.getElem?_eq_getElem (by rw [HML.out]; exact hlt)⟩
      obtain ⟨rfl, hbB⟩ := HA.out (by rw [HML.out]; omega)
      have hbw : Below B w wr := Hb.out.trans (HB.out.mono hB')
      have hwr := HB.out.size
      obtain ⟨c0, c1, c2, v0, v1, v2, v3, e, c3, c4, c5, c6⟩ := (HI.out i it hit).below hbw hbB
      have HS := Lib.hid (HMs.out.trans (missL_drop l i it hit (keysOf l' m)))
      rw [keyG_eq] at HS
      clear e HA HI HW HF HI2 HV HML HMs c3 c4 c5 c6
      generalize it.isText = ib at *
      generalize it.int = ii at *
      generalize it.text = is at *
      have HG := Lib.hid (HFG.out ib ii is wr hbw)
      have hfm := findK_mem (keysOf l' m) (ib, ii, is) 0 (by omega)
      generalize findK (keysOf l' m) (ib, ii, is) 0 = fk at *
      have hi0 : (0 : Int) ≤ (i : Int) := by omega
      have him : (i : Int) < (m : Int) := by omega
      clear hbw HFG
      by_cases hmem : (ib, ii, is) ∈ keysOf l' m
      · have HS2 := Lib.hid (HS.out.trans (if_pos hmem))
        rw [decide_eq_true hmem] at hfm
        have hfk : ¬ fk < 0 := by have := of_decide_eq_true hfm; omega
        have bfk : decide (fk < 0) = false := decide_eq_false hfk
        clear HS hfm hmem HM HKA HML2 HW2 HCC
        go_wp2_with (go_at_call 69; refine HG.out.mono ?_; rintro e w4 ⟨rfl, hb4⟩; have HB4 := Lib.hid (HB.out.trans (hb4.mono HB.out.size)); clear hb4)
        go_roundw
        case rel => exact ⟨i + 1, by omega, by go_num, HS2, HB4⟩
        case measure => simp [ixOf] <;> omega
      · have hmm2 : missL l (keysOf l' m) = true := HS.out.trans (if_neg hmem)
        have hM1 : M = 1 := by
          have := HM.out
          rw [if_pos hmm2] at this
          exact this.symm
        subst hM1
        rw [decide_eq_false hmem] at hfm
        have hfk : fk < 0 := by have := of_decide_eq_false hfm; omega
        have bfk : decide (fk < 0) = true := decide_eq_true hfk
        clear HS hfm hmem HM HKA HML2 HW2 HCC hmm2
        go_wp2_with (go_at_call 69; refine HG.out.mono ?_; rintro e w4 ⟨rfl, hb4⟩; have HB4 := Lib.hid (HB.out.trans (hb4.mono HB.out.size)); clear hb4)
        go_ret
        exact ⟨rfl, HB4.out⟩
    · have hjm : i = m := by omega
      have hms : missL l (keysOf l' m) = false := by
        rw [HMs.out, hjm, ← HML.out, List.drop_length]
        rfl
      have HMO : Hid (M = ordL (l.drop 0) l') := by
        show _ = _
        rw [← HM.out, hms, if_neg (by decide), List.drop_zero]
      have HNO := Lib.hid (missL_no l (keysOf l' m) hms)
      have HB1 := HB
      clear HB HM hms HMs
      go_wp2_with fail
      clear hjm hlt hi
      rename World => w2
      go_loopw [6] (fun xi wx => ∃ (u : Nat), u ≤ m ∧ xi = .int .i64 u ∧ Hid (M = ordL (l.drop u) l') ∧ Hid (Below w'.heap.size w' wx)) (fun xi _ => m - (ixOf xi).toNat)
      case atStart => exact ⟨0, Nat.zero_le _, rfl, HMO, HB1⟩
      case round =>
        clear HMO HB1
        obtain ⟨u, hu, rfl, HMO, HB⟩ := hrel
        by_cases hlt : u < m
        · obtain ⟨it, hit⟩ : ∃ it, l[u]? = some it := ⟨_, List.getElem?_eq_getElem (by rw [HML.out]; exact hlt)⟩
          obtain ⟨rfl, hbB⟩ := HA.out (by rw [HML.out]; omega)
          obtain ⟨rfl, hbB'⟩ := HA2.out (by rw [HML2.out]; omega)
          have hbw : Below B w wr := Hb.out.trans (HB.out.mono hB')
          have hwr := HB.out.size
          have hmem := HNO.out u it hit
          have hfy := findK_yes hmem
          obtain ⟨q, hqq⟩ : ∃ q : Nat, (findK (keysOf l' m) (GI.keyG it) 0).toNat = q := ⟨_, rfl⟩
          have hql : q < l'.length := by
            have := hfy.2
            rw [keysOf_len l' m (by rw [HML2.out]; exact Nat.le_refl _)] at this
            rw [HML2.out]
            omega
          have hqm : q < m := by rw [← HML2.out]; exact hql
          have hfq : findK (keysOf l' m) (GI.keyG it) 0 = (q : Int) := by omega
          obtain ⟨it', hit'⟩ : ∃ it, l'[q]? = some it := ⟨_, List.getElem?_eq_getElem hql⟩
          have hdr := ordL_drop l l' u it it' hit (by rw [HKA.out, hqq]; exact hit')
          have HD := Lib.hid (HMO.out.trans hdr)
          have hg := fun w1 hz => HFG.out it.isText it.int it.text w1 hz
          rw [← keyG_eq, hfq] at hg
          have HG : Hid (∀ w1 : World, Below B w w1 → Calls Tryz.prog 69 #[.slice (some ⟨b', off', none⟩) m c', .agg #[.bool it.isText, .int .i64 it.int, .string it.text]] w1 fun e w'' => e = .returned (.int .i64 (q : Int)) ∧ Below w1.heap.size w1 w'') := hg
          obtain ⟨x0, x1, x2, v0, v1, v2, v3, e, x3, x4, x5, x6⟩ := HI.out u it hit
          have hform := HW.out u it hit
          rw [e] at hform
          obtain ⟨k1, n1, t1, A1, l1, e1, rfl, rfl, rfl, rfl⟩ := hform.form
          obtain ⟨-, -, -, u0, u1, u2, u3, e', z3, z4, z5, z6⟩ := HI2.out q it' hit'
          have hform' := HW2.out q it' hit'
          rw [e'] at hform'
          obtain ⟨k2, n2, t2, A2, l2, e2, rfl, rfl, rfl, rfl⟩ := hform'.form
          have hR := HV.out u it hit q it' hit'
          rw [e, e'] at hR
          have HR := Lib.hid hR
          clear hg hR hdr hql hqq hfq hfy hmem hform hform' e e' HMO HA HI HW HF HI2 HV HW2 HML HML2 HKA HNO HA2 HFG HCC
          generalize ordV it.val it'.val = z at *
          generalize it.isText = ib at *
          generalize it.int = ii at *
          generalize it.text = is at *
          have HC0 := Lib.hid x0
          have HC1 := Lib.hid x1
          have HC2 := Lib.hid x2
          have HC3 := Lib.hid x3
          have HC4 := Lib.hid x4
          have HC5 := Lib.hid x5
          have HC6 := Lib.hid x6
          have HE3 := Lib.hid z3
          have HE4 := Lib.hid z4
          have HE5 := Lib.hid z5
          have HE6 := Lib.hid z6
          have HZ0 := Lib.hid hbw
          have HZ1 := Lib.hid (drewN' hbw 1)
          have HY1 := Lib.hid (drewN' HB.out 1)
          have hu0 : (0 : Int) ≤ (u : Int) := by omega
          have hum : (u : Int) < (m : Int) := by omega
          have hq0 : (0 : Int) ≤ (q : Int) := by omega
          have hqm' : (q : Int) < (m : Int) := by omega
          clear x0 x1 x2 x3 x4 x5 x6 z3 z4 z5 z6 HB hbw
          go_wp2_with fail
          have d0 := (HZ0.out.cell (p := ⟨b, off + u * 7, none⟩) hbB).trans HC0.out
          have d1 := (HZ0.out.cell (p := ⟨b, off + u * 7 + 1, none⟩) hbB).trans HC1.out
          have d2 := (HZ0.out.cell (p := ⟨b, off + u * 7 + 2, none⟩) hbB).trans HC2.out
          have d3 := (HZ0.out.cell (p := ⟨b, off + u * 7 + 3, none⟩) hbB).trans HC3.out
          have d4 := (HZ0.out.cell (p := ⟨b, off + u * 7 + 4, none⟩) hbB).trans HC4.out
          have d5 := (HZ0.out.cell (p := ⟨b, off + u * 7 + 5, none⟩) hbB).trans HC5.out
          have d6 := (HZ0.out.cell (p := ⟨b, off + u * 7 + 6, none⟩) hbB).trans HC6.out
          have d7 := (HZ0.out.cell (p := ⟨b', off' + q * 7 + 3, none⟩) hbB').trans HE3.out
          have d8 := (HZ0.out.cell (p := ⟨b', off' + q * 7 + 4, none⟩) hbB').trans HE4.out
          have d9 := (HZ0.out.cell (p := ⟨b', off' + q * 7 + 5, none⟩) hbB').trans HE5.out
          have d10 := (HZ0.out.cell (p := ⟨b', off' + q * 7 + 6, none⟩) hbB').trans HE6.out
          refine wp_region_held_drew (S := (fun wz => wz.cell? ⟨b, off + u * 7, none⟩ = some (.bool ib) ∧ wz.cell? ⟨b, off + u * 7 + 1, none⟩ = some (.int .i64 ii) ∧ wz.cell? ⟨b, off + u * 7 + 2, none⟩ = some (.string is) ∧ wz.cell? ⟨b, off + u * 7 + 3, none⟩ = some (.int .i64 k1) ∧ wz.cell? ⟨b, off + u * 7 + 4, none⟩ = some (.int .i64 n1) ∧ wz.cell? ⟨b, off + u * 7 + 5, none⟩ = some (.string t1) ∧ wz.cell? ⟨b, off + u * 7 + 6, none⟩ = some (.slice A1 l1 e1) ∧ wz.cell? ⟨b', off' + q * 7 + 3, none⟩ = some (.int .i64 k2) ∧ wz.cell? ⟨b', off' + q * 7 + 4, none⟩ = some (.int .i64 n2) ∧ wz.cell? ⟨b', off' + q * 7 + 5, none⟩ = some (.string t2) ∧ wz.cell? ⟨b', off' + q * 7 + 6, none⟩ = some (.slice A2 l2 e2))) (by kernel_rfl) ?_ (fun hHeld => ?_)
          · exact ⟨d0, d1, d2, d3, d4, d5, d6, d7, d8, d9, d10⟩
          refine wpAnyH_take (i := 0) (v := ?v9) Held.op0 (by kernel_rfl) (by kernel_rfl) (by kernel_rfl) (fun _ _ _ h => h) (Or.inl ⟨by rfl, ?hy9⟩) (by assumption) ?rest9
          case hy9 => (intro wq hSq; (try dsimp only at hSq); first | (go_simp; done) | (go_simp; with_reducible rfl))
          try simp only [Act.put, List.setIfInBounds_toArray, List.set_cons_zero, List.set_cons_succ]
          refine wpAnyH_take (i := 1) (v := ?v10) Held.op1 (by kernel_rfl) (by kernel_rfl) (by kernel_rfl) (fun _ _ _ h => h) (Or.inl ⟨by rfl, ?hy10⟩) (by assumption) ?rest10
          case hy10 => (intro wq hSq; (try dsimp only at hSq); first | (go_simp; done) | (go_simp; with_reducible rfl))
          try simp only [Act.put, List.setIfInBounds_toArray, List.set_cons_zero, List.set_cons_succ]
          refine wpAnyH_take (i := 2) (v := ?v11) Held.op2 (by kernel_rfl) (by kernel_rfl) (by kernel_rfl) (fun _ _ _ h => h) (Or.inl ⟨by rfl, ?hy11⟩) (by assumption) ?rest11
          case hy11 => (intro wq hSq; (try dsimp only at hSq); first | (go_simp; done) | (go_simp; with_reducible rfl))
          try simp only [Act.put, List.setIfInBounds_toArray, List.set_cons_zero, List.set_cons_succ]
          refine wpAnyH_take (i := 3) (v := ?v12) Held.op3 (by kernel_rfl) (by kernel_rfl) (by kernel_rfl) (fun _ _ _ h => h) (Or.inl ⟨by rfl, ?hy12⟩) (by assumption) ?rest12
          case hy12 => (intro wq hSq; (try dsimp only at hSq); first | (go_simp; done) | (go_simp; with_reducible rfl))
          try simp only [Act.put, List.setIfInBounds_toArray, List.set_cons_zero, List.set_cons_succ]
          refine wpAnyH_take (i := 4) (v := ?v13) Held.op4 (by kernel_rfl) (by kernel_rfl) (by kernel_rfl) (fun _ _ _ h => h) (Or.inl ⟨by rfl, ?hy13⟩) (by assumption) ?rest13
          case hy13 => (intro wq hSq; (try dsimp only at hSq); first | (go_simp; done) | (go_simp; with_reducible rfl))
          try simp only [Act.put, List.setIfInBounds_toArray, List.set_cons_zero, List.set_cons_succ]
          refine wpAnyH_take (i := 5) (v := ?v14) Held.op5 (by kernel_rfl) (by kernel_rfl) (by kernel_rfl) (fun _ _ _ h => h) (Or.inl ⟨by rfl, ?hy14⟩) (by assumption) ?rest14
          case hy14 => (intro wq hSq; (try dsimp only at hSq); first | (go_simp; done) | (go_simp; with_reducible rfl))
          try simp only [Act.put, List.setIfInBounds_toArray, List.set_cons_zero, List.set_cons_succ]
          refine wpAnyH_take (i := 6) (v := ?v15) Held.op6 (by kernel_rfl) (by kernel_rfl) (by kernel_rfl) (fun _ _ _ h => h) (Or.inl ⟨by rfl, ?hy15⟩) (by assumption) ?rest15
          case hy15 => (intro wq hSq; (try dsimp only at hSq); first | (go_simp; done) | (go_simp; with_reducible rfl))
          try simp only [Act.put, List.setIfInBounds_toArray, List.set_cons_zero, List.set_cons_succ]
          refine wpAnyH_take (i := 7) (v := ?v16) Held.op7 (by kernel_rfl) (by kernel_rfl) (by kernel_rfl) (fun _ _ _ h => h) (Or.inl ⟨by rfl, ?hy16⟩) (by assumption) ?rest16
          case hy16 => (intro wq hSq; (try dsimp only at hSq); first | (go_simp; done) | (go_simp; with_reducible rfl))
          try simp only [Act.put, List.setIfInBounds_toArray, List.set_cons_zero, List.set_cons_succ]
          refine wpAnyH_take (i := 8) (v := ?v17) Held.op8 (by kernel_rfl) (by kernel_rfl) (by kernel_rfl) (fun _ _ _ h => h) (Or.inl ⟨by rfl, ?hy17⟩) (by assumption) ?rest17
          case hy17 => (intro wq hSq; (try dsimp only at hSq); first | (go_simp; done) | (go_simp; with_reducible rfl))
          try simp only [Act.put, List.setIfInBounds_toArray, List.set_cons_zero, List.set_cons_succ]
          refine wpAnyH_take (i := 9) (v := ?v18) Held.op9 (by kernel_rfl) (by kernel_rfl) (by kernel_rfl) (fun _ _ _ h => h) (Or.inl ⟨by rfl, ?hy18⟩) (by assumption) ?rest18
          case hy18 => (intro wq hSq; (try dsimp only at hSq); first | (go_simp; done) | (go_simp; with_reducible rfl))
          try simp only [Act.put, List.setIfInBounds_toArray, List.set_cons_zero, List.set_cons_succ]
          refine wpAnyH_take (i := 10) (v := ?v19) Held.op10 (by kernel_rfl) (by kernel_rfl) (by kernel_rfl) (fun _ _ _ h => h) (Or.inl ⟨by rfl, ?hy19⟩) (by assumption) ?rest19
          case hy19 => (intro wq hSq; (try dsimp only at hSq); first | (go_simp; done) | (go_simp; with_reducible rfl))
          try simp only [Act.put, List.setIfInBounds_toArray, List.set_cons_zero, List.set_cons_succ]
          refine wpAnyH_take (i := 11) (v := ?v20) Held.op11 (by kernel_rfl) (by kernel_rfl) (by kernel_rfl) (fun _ _ _ h => h) (Or.inl ⟨by rfl, ?hy20⟩) (by assumption) ?rest20
          case hy20 => (intro wq hSq; (try dsimp only at hSq); first | (go_simp; done) | (go_simp; with_reducible rfl))
          try simp only [Act.put, List.setIfInBounds_toArray, List.set_cons_zero, List.set_cons_succ]
          refine wpAnyH_ready (rs := [12]) (by kernel_rfl) (by simp) ?_
          refine AllReadyH.cons Held.op12 (fun K hK => ?_) AllReadyH.nil
          go_simp
          go_at_call 69; refine (HG.out _ HZ1.out).mono ?_; rintro e w5 ⟨rfl, hb5⟩; have HZ2 := Lib.hid (HZ1.out.trans (hb5.mono (by have := HZ1.out.size; omega))); have HY2 := Lib.hid (HY1.out.trans (hb5.mono (by have := HY1.out.size; omega))); have y0 := (HZ2.out.cell (p := ⟨b, off + u * 7, none⟩) hbB).trans HC0.out; have y1 := (HZ2.out.cell (p := ⟨b, off + u * 7 + 1, none⟩) hbB).trans HC1.out; have y2 := (HZ2.out.cell (p := ⟨b, off + u * 7 + 2, none⟩) hbB).trans HC2.out; have y3 := (HZ2.out.cell (p := ⟨b, off + u * 7 + 3, none⟩) hbB).trans HC3.out; have y4 := (HZ2.out.cell (p := ⟨b, off + u * 7 + 4, none⟩) hbB).trans HC4.out; have y5 := (HZ2.out.cell (p := ⟨b, off + u * 7 + 5, none⟩) hbB).trans HC5.out; have y6 := (HZ2.out.cell (p := ⟨b, off + u * 7 + 6, none⟩) hbB).trans HC6.out; have y7 := (HZ2.out.cell (p := ⟨b', off' + q * 7 + 3, none⟩) hbB').trans HE3.out; have y8 := (HZ2.out.cell (p := ⟨b', off' + q * 7 + 4, none⟩) hbB').trans HE4.out; have y9 := (HZ2.out.cell (p := ⟨b', off' + q * 7 + 5, none⟩) hbB').trans HE5.out; have y10 := (HZ2.out.cell (p := ⟨b', off' + q * 7 + 6, none⟩) hbB').trans HE6.out; clear hb5
          try (go_wp2_with fail)
          refine hK.out _ _ ?_ (fun hHeld => ?_)
          · exact ⟨y0, y1, y2, y3, y4, y5, y6, y7, y8, y9, y10⟩
          clear hK K
          try simp only [Act.put, List.setIfInBounds_toArray, List.set_cons_zero, List.set_cons_succ]
          refine wpAnyH_take (i := 13) (v := ?v22) Held.op13 (by kernel_rfl) (by kernel_rfl) (by kernel_rfl) (fun _ _ _ h => h) (Or.inl ⟨by rfl, ?hy22⟩) (by assumption) ?rest22
          case hy22 => (intro wq hSq; (try dsimp only at hSq); first | (go_simp; done) | (go_simp; with_reducible rfl))
          try simp only [Act.put, List.setIfInBounds_toArray, List.set_cons_zero, List.set_cons_succ]
          refine wpAnyH_take (i := 14) (v := ?v23) Held.op14 (by kernel_rfl) (by kernel_rfl) (by kernel_rfl) (fun _ _ _ h => h) (Or.inl ⟨by rfl, ?hy23⟩) (by assumption) ?rest23
          case hy23 => (intro wq hSq; (try dsimp only at hSq); first | (go_simp; done) | (go_simp; with_reducible rfl))
          try simp only [Act.put, List.setIfInBounds_toArray, List.set_cons_zero, List.set_cons_succ]
          refine wpAnyH_take (i := 15) (v := ?v24) Held.op15 (by kernel_rfl) (by kernel_rfl) (by kernel_rfl) (fun _ _ _ h => h) (Or.inl ⟨by rfl, ?hy24⟩) (by assumption) ?rest24
          case hy24 => (intro wq hSq; (try dsimp only at hSq); first | (go_simp; done) | (go_simp; with_reducible rfl))
          try simp only [Act.put, List.setIfInBounds_toArray, List.set_cons_zero, List.set_cons_succ]
          refine wpAnyH_ready (rs := [16]) (by kernel_rfl) (by simp) ?_
          refine AllReadyH.cons Held.op16 (fun K hK => ?_) AllReadyH.nil
          go_simp
          go_at_call 45; refine (HR.out _ HZ2.out).mono ?_; rintro e w6 ⟨rfl, hb6⟩; have HZ3 := Lib.hid (HZ2.out.trans (hb6.mono (by have := HZ2.out.size; omega))); have HY3 := Lib.hid (HY2.out.trans (hb6.mono (by have := HY2.out.size; omega))); have g0 := (HZ3.out.cell (p := ⟨b, off + u * 7, none⟩) hbB).trans HC0.out; have g1 := (HZ3.out.cell (p := ⟨b, off + u * 7 + 1, none⟩) hbB).trans HC1.out; have g2 := (HZ3.out.cell (p := ⟨b, off + u * 7 + 2, none⟩) hbB).trans HC2.out; have g3 := (HZ3.out.cell (p := ⟨b, off + u * 7 + 3, none⟩) hbB).trans HC3.out; have g4 := (HZ3.out.cell (p := ⟨b, off + u * 7 + 4, none⟩) hbB).trans HC4.out; have g5 := (HZ3.out.cell (p := ⟨b, off + u * 7 + 5, none⟩) hbB).trans HC5.out; have g6 := (HZ3.out.cell (p := ⟨b, off + u * 7 + 6, none⟩) hbB).trans HC6.out; have g7 := (HZ3.out.cell (p := ⟨b', off' + q * 7 + 3, none⟩) hbB').trans HE3.out; have g8 := (HZ3.out.cell (p := ⟨b', off' + q * 7 + 4, none⟩) hbB').trans HE4.out; have g9 := (HZ3.out.cell (p := ⟨b', off' + q * 7 + 5, none⟩) hbB').trans HE5.out; have g10 := (HZ3.out.cell (p := ⟨b', off' + q * 7 + 6, none⟩) hbB').trans HE6.out; clear hb6
          try (go_wp2_with fail)
          refine hK.out _ _ ?_ (fun hHeld => ?_)
          · exact ⟨g0, g1, g2, g3, g4, g5, g6, g7, g8, g9, g10⟩
          clear hK K
          try simp only [Act.put, List.setIfInBounds_toArray, List.set_cons_zero, List.set_cons_succ]
          refine wpAnyH_take (i := 17) (v := ?v26) Held.op17 (by kernel_rfl) (by kernel_rfl) (by kernel_rfl) (fun _ _ _ h => h) (Or.inl ⟨by rfl, ?hy26⟩) (by assumption) ?rest26
          case hy26 => (intro wq hSq; (try dsimp only at hSq); first | (go_simp; done) | (go_simp; with_reducible rfl))
          try simp only [Act.put, List.setIfInBounds_toArray, List.set_cons_zero, List.set_cons_succ]
          refine wpAnyH_done (by kernel_rfl) ?_ _
          by_cases hz : z = 0
          · have HD2 := Lib.hid (HD.out.trans (if_pos hz))
            subst hz
            clear HD
            go_wp2_with fail
            go_roundw
            case rel => exact ⟨u + 1, by omega, by go_num, HD2, HY3⟩
            case measure => simp [ixOf] <;> omega
          · have hM2 : M = z := HD.out.trans (if_neg hz)
            subst hM2
            have bz : (M != 0) = true := by simpa using hz
            clear HD
            go_wp2_with fail
            go_ret
            exact ⟨rfl, HY3.out⟩
        · have hum : u = m := by omega
          have hM0 : M = 0 := by
            rw [HMO.out, hum, ← HML.out, List.drop_length]
            rfl
          subst hM0
          clear HMO HA HI HW HF HI2 HV HW2 HML HML2 HKA HNO HA2 hum HFG HCC
          go_wp2_with fail
          go_ret
          exact ⟨rfl, HB.out⟩
theorem rlists_any (hBw : B ≤ w.heap.size) (l l' : List GI) (A : Option Addr) (c b off : Nat) (C : Nat → Value) (A' : Option Addr) (c' b' off' : Nat) (C' : Nat → Value)
    (hA : 0 < l.length → A = some ⟨b, off, none⟩ ∧ b < B) (hi : ∀ i it, l[i]? = some it → ItemAt w b (off + i * 7) it (C i)) (hW : ∀ i it, l[i]? = some it → VAt w B it.val (C i))
    (hF : ∀ (i : Nat) (it : GI), l[i]? = some it → In64 it.int ∧ it.text.size ≤ 140737488351232)
    (hA' : 0 < l'.length → A' = some ⟨b', off', none⟩ ∧ b' < B) (hi' : ∀ i it, l'[i]? = some it → ItemAt w b' (off' + i * 7) it (C' i)) (hW' : ∀ i it, l'[i]? = some it → VAt w B it.val (C' i))
    (hF' : ∀ (i : Nat) (it : GI), l'[i]? = some it → In64 it.int ∧ it.text.size ≤ 140737488351232)
    (hd' : ∀ (j : Nat) (it : GI), l'[j]? = some it → GI.keyG it ∉ keysOf l' j)
    (ih : ∀ i it, l[i]? = some it → ∀ i' it', l'[i']? = some it' → ∀ w1 : World, Below B w w1 → Calls Tryz.prog 45 #[C i, C' i'] w1 fun e w2 => e = .returned (.int .i64 (ordV it.val it'.val)) ∧ Below w1.heap.size w1 w2)
    (hc : l.length ≤ c) (hc' : l'.length ≤ c') (hml : l.length ≤ 2048) (w' : World) (hb : Below B w w') :
    Calls Tryz.prog 78 #[.slice A l.length c, .slice A' l'.length c'] w' fun e w'' => e = .returned (.int .i64 (listsI l l')) ∧ Below w'.heap.size w' w'' := by
  unfold listsI
  by_cases h1 : l.length < l'.length
  · rw [if_pos h1]
    have b2 : decide ((l.length : Int) < (l'.length : Int)) = true := decide_eq_true (by omega)
    clear hA hi hW hF hA' hi' hW' hF' hd' ih
    go_enter Tryz.func78, Tryz.ntmps78
    go_wp2_with fail
    go_ret
    exact ⟨rfl, Below.refl _ _⟩
  · rw [if_neg h1]
    by_cases h2 : l'.length < l.length
    · rw [if_pos h2]
      have b2 : decide ((l.length : Int) < (l'.length : Int)) = false := decide_eq_false (by omega)
      have b3 : decide ((l'.length : Int) < (l.length : Int)) = true := decide_eq_true (by omega)
      clear hA hi hW hF hA' hi' hW' hF' hd' ih
      go_enter Tryz.func78, Tryz.ntmps78
      go_wp2_with fail
      go_ret
      exact ⟨rfl, Below.refl _ _⟩
    · rw [if_neg h2]
      have hll : l'.length = l.length := by omega
      have hk : l'.map GI.keyG = keysOf l' l.length := by rw [← keysOf_all, hll]
      rw [hll, hk]
      exact rlists_main hBw l l' A c b off C A' c' b' off' C' hA hi hW hF hA' hi' hW' hF' hd' ih hc hc' l.length rfl hll hml w' hb
end
end Dp
end Go.Proofs.YthdnflklhhfojaaGreatDoor
