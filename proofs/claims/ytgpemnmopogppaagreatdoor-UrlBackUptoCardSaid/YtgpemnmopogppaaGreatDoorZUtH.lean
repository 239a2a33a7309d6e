/- url.grown: a value as a tree: the walk. -/
import Derived.Test.YtgpemnmopogppaaGreatDoorZUtG
import Derived.Deep.RegionHeld3
namespace Go.Proofs.YtgpemnmopogppaaGreatDoor
open Go Go.RowKit
namespace Ut
open Go.Proofs.YtgpemnmopogppaaGreatDoor.Nm (normG keyV norm_any)
open Go.Proofs.YtgpemnmopogppaaGreatDoor.Dp
/-- Values as queries make them: lists have their keys in their one form, each once, and the next number that the keys say. -/
inductive WfG : GV → Prop where
  | leaf (k n : Int) (t : ByteArray) (hk : k ≠ 4) (h1 : In64 k) (h2 : In64 n) (h3 : t.size ≤ 140737488351232) : WfG (.mk k n t [])
  | node (nx : Int) (gs : List GI) (hlen : gs.length ≤ 2048) (hnx : nx = (gs.map GI.keyG).foldl nextK 0)
      (hkey : ∀ (i : Nat) (it : GI), gs[i]? = some it → KeyOK (GI.keyG it) ∧ normG (GI.keyG it).1 (GI.keyG it).2.1 (GI.keyG it).2.2 = GI.keyG it ∧ findK ((gs.take i).map GI.keyG) (GI.keyG it) 0 < 0) (hv : ∀ (i : Nat) (it : GI), gs[i]? = some it → WfG it.val) : WfG (.mk 4 nx ⟨#[]⟩ gs)
theorem fold_in64 : ∀ (ks : List Key3) (nx : Int), In64 nx → (∀ k ∈ ks, KeyOK k) → In64 (ks.foldl nextK nx)
  | [], _, h, _ => h
  | k :: ks, nx, h, hk => by
    rw [List.foldl_cons]
    exact fold_in64 ks _ (nextK_in h (hk k (List.mem_cons_self ..))) fun k' h' => hk k' (List.mem_cons_of_mem _ h')
theorem take_keys {gs : List GI} {j : Nat} {it : GI} (h : gs[j]? = some it) : (gs.take (j + 1)).map GI.keyG = (gs.take j).map GI.keyG ++ [GI.keyG it] := by
  rw [List.take_add_one, h, List.map_append]
  rfl
section
variable {w : World} {B : Nat}
set_option maxRecDepth 100000 in
set_option maxHeartbeats 4000000 in
theorem grown_any (hBw : B ≤ w.heap.size) (hLib : ∀ w', Below B w w' → LibS w') {g : GV} {x : Value} (h : VAt w B g x) (hg : WfG g) : ∀ (w' : World), Below B w w' →
    Calls Tryz.prog 63 #[x] w' fun e w'' => ∃ p F, e = .returned (.pointer (some ⟨p, 0, none⟩)) ∧ TreeAt w'' F p g ∧ Below w'.heap.size w' w'' ∧ ∀ j, F j → w'.heap.size ≤ j := by
  induction h with
  | mk k n t l A c b off C hc hn hA hi hv ih =>
    intro w' hb
    have hB' : B ≤ w'.heap.size := Nat.le_trans hBw hb.size
    have hal := fun (w1 : World) (o : Obj) => (Below.refl w1.heap.size w1).alloc (Nat.le_refl _) o
    have hw1 : (w'.alloc (.cells #[.int .i64 k, .int .i64 n, .string t, .slice A l.length c] 25)).heap.size = w'.heap.size + 1 := by simp
    have HB0 := Lib.hid ((((Below.refl w'.heap.size w').alloc (Nat.le_refl _) (.cells #[.int .i64 k, .int .i64 n, .string t, .slice A l.length c] 25))).alloc (by simp) (.cells #[.pointer none, .int .i64 k, .int .i64 n, .string t, .slice A l.length c] 106))
    have HX0 := Lib.hid (blk_below (Blk.new w' 25 #[.int .i64 k, .int .i64 n, .string t, .slice A l.length c]) (hal _ (.cells #[.pointer none, .int .i64 k, .int .i64 n, .string t, .slice A l.length c] 106)))
    have HP0 := Lib.hid (Blk.new (w'.alloc (.cells #[.int .i64 k, .int .i64 n, .string t, .slice A l.length c] 25)) 106 #[.pointer none, .int .i64 k, .int .i64 n, .string t, .slice A l.length c])
    rw [hw1] at HP0
    have hsz : ((w'.alloc (.cells #[.int .i64 k, .int .i64 n, .string t, .slice A l.length c] 25)).alloc (.cells #[.pointer none, .int .i64 k, .int .i64 n, .string t, .slice A l.length c] 106)).heap.size = w'.heap.size + 2 := by simp
    cases hg with
    | leaf _ _ _ hk h1 h2 h3 =>
      clear ih hi hv hA hal hw1
      simp only [List.length_nil] at *
      have HZ := Lib.hid hsz
      have x0 := HX0.out.cell 0
      clear hsz
      go_enter Tryz.func63, Tryz.ntmps63
      go_wp2_with fail
      go_ret
      refine ⟨_, fun j => j = w'.heap.size + 1, rfl, .leaf _ _ k n t A c hk HP0.out rfl (fun j hj => by rw [HZ.out, hj]; omega), HB0.out, fun j hj => by omega⟩
    | node _ _ hlen hnx hkey hwf =>
    have HA := Lib.hid hA
    have HI := Lib.hid hi
    have HV := Lib.hid (fun i it h => ih i it h (hwf i it h))
    have HW := Lib.hid hv
    have Hb := Lib.hid hb
    have HKy := Lib.hid hkey
    have HNx := Lib.hid hnx
    have HAL := Lib.hid hal
    have HLib := Lib.hid hLib
    have hLen := hlen
    have HNew := Lib.hid (new_any ((w'.alloc (.cells #[.int .i64 4, .int .i64 n, .string ⟨#[]⟩, .slice A l.length c] 25)).alloc (.cells #[.pointer none, .int .i64 4, .int .i64 n, .string ⟨#[]⟩, .slice A l.length c] 106)))
    rw [hsz] at HNew
    clear hA hi ih hv hb hw1 hal hkey hnx hwf hlen hLib
    go_enter Tryz.func63, Tryz.ntmps63
    go_upto_region 2 with fail
    generalize (w'.alloc (.cells #[.int .i64 4, .int .i64 n, .string ⟨#[]⟩, .slice A l.length c] 25)).alloc (.cells #[.pointer none, .int .i64 4, .int .i64 n, .string ⟨#[]⟩, .slice A l.length c] 106) = wa at *
    have x0 : wa.cell? ⟨w'.heap.size, 0, none⟩ = some (.int .i64 4) := HX0.out.cell 0
    go_upto_region 4 with (go_at_call 66; refine HNew.out.mono ?_; rintro e w1 ⟨rfl, hL1, hb1, hz1⟩; have HL1 := Lib.hid hL1; have HB1 := Lib.hid hb1; have HZ1 := Lib.hid hz1; clear hL1 hb1 hz1; have HP1 := Lib.hid (HP0.out.below HB1.out (by omega)); have HX1 := Lib.hid (HX0.out.below HB1.out (by omega)); have p0 := HP1.out.cell 0; have pf0 := HP1.out.frozen 0)
    have HP2 := Lib.hid (HP1.out.set_ 0 (.pointer (some ⟨w'.heap.size + 3, 0, none⟩)))
    have HX2 := Lib.hid (HX1.out.far (p := ⟨w'.heap.size + 1, 0, none⟩) (by simp) (.pointer (some ⟨w'.heap.size + 3, 0, none⟩)))
    have hz2 : (w1.setCell ⟨w'.heap.size + 1, 0, none⟩ (.pointer (some ⟨w'.heap.size + 3, 0, none⟩))).heap.size = w'.heap.size + 4 := by have h9 := HZ1.out; simp; omega
    have HB2 := Lib.hid ((HB0.out.trans (HB1.out.mono (by omega))).setCell (p := ⟨w'.heap.size + 1, 0, none⟩) (by simp) (.pointer (some ⟨w'.heap.size + 3, 0, none⟩)))
    have HL2 := Lib.hid (HL1.out.keeps (set_keepsP w1 (w'.heap.size + 1) 0 (.pointer (some ⟨w'.heap.size + 3, 0, none⟩))) (fun j hj => by rcases hj with rfl | rfl | e <;> first | omega | cases e))
    generalize w1.setCell ⟨w'.heap.size + 1, 0, none⟩ (.pointer (some ⟨w'.heap.size + 3, 0, none⟩)) = w2 at *
    have HN2 : Hid (NodeAt w2 (fun j => w'.heap.size + 1 ≤ j ∧ j < w2.heap.size) (w'.heap.size + 1) (w'.heap.size + 3) (w'.heap.size + 2) (.slice none 0 0) [] 0 (fun _ _ => False)) := Lib.hid ⟨HL2.out, ⟨⟨Nat.le_refl _, by omega⟩, fun j hj => (by rcases hj with rfl | rfl | e <;> first | (constructor <;> omega) | (cases e))⟩, fun _ _ _ h => (h : False).elim, fun _ _ _ _ _ h => (h : False).elim, fun _ _ h => (by simp at h), fun j hj => hj.2, Nat.zero_le _⟩
    clear HP0 HX0 HB0 HP1 HX1 HB1 HL1 HL2 HNew p0 pf0 HZ1 x0
    have x3 : w2.cell? ⟨w'.heap.size + 1, 4, none⟩ = some (.slice A l.length c) := HP2.out.cell 4
    have x4 : w2.cell? ⟨w'.heap.size, 3, none⟩ = some (.slice A l.length c) := HX2.out.cell 3
    go_wp2_with fail
    clear x3 x4
    go_loopw [19] (fun xi wx => ∃ (j : Nat) (sv : Value) (ts : List TS) (nx : Int) (G : Nat → Nat → Prop) (F : Nat → Prop), j ≤ l.length ∧ xi = .int .i64 j ∧ Hid (ts.map TS.gi = l.take j) ∧ Hid (nx = ((l.take j).map GI.keyG).foldl nextK 0) ∧ Hid (NodeAt wx F (w'.heap.size + 1) (w'.heap.size + 3) (w'.heap.size + 2) sv ts nx G) ∧ Hid (∀ j, F j → w'.heap.size + 1 ≤ j) ∧ Hid (Below w'.heap.size w' wx) ∧ Hid (Blk wx (w'.heap.size + 1) 106 #[.pointer (some ⟨w'.heap.size + 3, 0, none⟩), .int .i64 4, .int .i64 n, .string ⟨#[]⟩, .slice A l.length c]) ∧ w'.heap.size + 4 ≤ wx.heap.size) (fun xi _ => l.length - (ixOf xi).toNat)
    case atStart => exact ⟨0, _, [], 0, _, _, Nat.zero_le _, rfl, by simp [Hid], by simp [Hid], HN2, Lib.hid (fun j hj => hj.1), HB2, HP2, by omega⟩
    case round =>
      obtain ⟨j, sv, ts, nx, G, F, hj, rfl, HTs, HNj, HNr, HFr, HBr, HPr, hzr⟩ := hrel
      clear HN2 HB2 HP2 HX2
      by_cases hlt : j < l.length
      · obtain ⟨it, hit⟩ : ∃ it, l[j]? = some it := ⟨_, List.getElem?_eq_getElem hlt⟩
        obtain ⟨rfl, hbB⟩ := HA.out (by omega)
        have hbw : Below B w wr := Hb.out.trans (HBr.out.mono hB')
        have hwr := HBr.out.size
        obtain ⟨c0, c1, c2, v0, v1, v2, v3, e, c3', c4, c5, c6⟩ := (HI.out j it hit).below hbw hbB
        have hform := HW.out j it hit
        have HK := Lib.hid (HKy.out j it hit)
        have hR := fun wz (hz : Below B w wz) => HV.out j it hit wz hz
        rw [e] at hform hR
        have HHit := Lib.hid hit
        clear hit
        obtain ⟨ib, ii, is, iv⟩ := it
        simp only [GI.val, GI.isText, GI.int, GI.text] at hform hR c0 c1 c2
        obtain ⟨k1, n1, t1, l1⟩ := iv
        obtain ⟨rfl, rfl, rfl, A1, e1, rfl⟩ := vat_form2 hform
        have HCR := Lib.hid hR
        clear hform HW e hR HI HV
        have Hbw := Lib.hid (hbw.alloc (by omega) (.cells #[.bool ib, .int .i64 ii, .string is, .int .i64 k1, .int .i64 n1, .string t1, .slice A1 l1.length e1] 39))
        have HBi := Lib.hid (HAL.out wr (.cells #[.bool ib, .int .i64 ii, .string is, .int .i64 k1, .int .i64 n1, .string t1, .slice A1 l1.length e1] 39))
        have HIi := Lib.hid (Blk.new wr 39 #[.bool ib, .int .i64 ii, .string is, .int .i64 k1, .int .i64 n1, .string t1, .slice A1 l1.length e1])
        have HPi := Lib.hid (blk_below HPr.out HBi.out)
        have HNi := Lib.hid (HNr.out.below HBi.out)
        have hwi : (wr.alloc (.cells #[.bool ib, .int .i64 ii, .string is, .int .i64 k1, .int .i64 n1, .string t1, .slice A1 l1.length e1] 39)).heap.size = wr.heap.size + 1 := by simp
        have hBi : B ≤ (wr.alloc (.cells #[.bool ib, .int .i64 ii, .string is, .int .i64 k1, .int .i64 n1, .string t1, .slice A1 l1.length e1] 39)).heap.size := by omega
        have hlts : ts.length = j := by have := congrArg List.length HTs.out; simp at this; omega
        have hlen : (ts.map TS.pk).length ≤ 2048 := by simp; omega
        have hkeys : ts.map Prod.fst = (l.take j).map GI.keyG := by rw [← HTs.out, gi_key]
        have hnx64 : In64 nx := by
          rw [HNj.out]
          exact fold_in64 _ _ z64 (fun k hk => by
            obtain ⟨it, hit, rfl⟩ := List.mem_map.1 hk
            obtain ⟨i, hi⟩ := List.getElem?_of_mem hit
            have := (HKy.out i it (by rw [List.getElem?_take] at hi; split at hi; exact hi; cases hi)).1
            exact this)
        have HSP : Hid (∀ q, setP (ts.map TS.pk) nx (ib, ii, is) q = some (ts.map TS.pk ++ [((ib, ii, is), q)], nextK nx (ib, ii, is))) := Lib.hid (fun q => by
          have hkk := HK.out.2
          simp only [GI.keyG] at hkk
          unfold setP
          simp only
          rw [pk_fst, hkeys, hkk.1, if_neg (by omega), if_neg (by simp; omega)])
        have hio : ¬ ownL (w'.heap.size + 3) (w'.heap.size + 2) sv wr.heap.size := fun h => Nat.lt_irrefl _ (HNr.out.hl.lt h)
        have hLib := HLib.out
        clear hbw
        go_upto_region 7 with fail
        generalize wr.alloc (.cells #[.bool ib, .int .i64 ii, .string is, .int .i64 k1, .int .i64 n1, .string t1, .slice A1 l1.length e1] 39) = wi at *
        refine wp_region_held_drew (S := (fun wq => wq.cell? ⟨w'.heap.size + 1, 0, none⟩ = some (.pointer (some ⟨w'.heap.size + 3, 0, none⟩)) ∧ wq.cell? ⟨wr.heap.size, 0, none⟩ = some (.bool ib) ∧ wq.cell? ⟨wr.heap.size, 1, none⟩ = some (.int .i64 ii) ∧ wq.cell? ⟨wr.heap.size, 2, none⟩ = some (.string is) ∧ wq.cell? ⟨wr.heap.size, 3, none⟩ = some (.int .i64 k1) ∧ wq.cell? ⟨wr.heap.size, 4, none⟩ = some (.int .i64 n1) ∧ wq.cell? ⟨wr.heap.size, 5, none⟩ = some (.string t1) ∧ wq.cell? ⟨wr.heap.size, 6, none⟩ = some (.slice A1 l1.length e1))) (by kernel_rfl) ?_ (fun hHeld => ?_)
        · exact ⟨HPi.out.cell 0, HIi.out.cell 0, HIi.out.cell 1, HIi.out.cell 2, HIi.out.cell 3, HIi.out.cell 4, HIi.out.cell 5, HIi.out.cell 6⟩
        refine wpAnyH_take (i := 0) (v := ?v1) Held.op0 (by kernel_rfl) (by kernel_rfl) (by kernel_rfl) (fun _ _ _ h => h) (Or.inl ⟨by rfl, ?hy1⟩) (by assumption) ?rest1
        case hy1 => (intro wq hSq; (try dsimp only at hSq); first | (go_simp; done) | (go_simp; with_reducible rfl))
        try simp only [Act.put, List.setIfInBounds_toArray, List.set_cons_zero, List.set_cons_succ]
        refine wpAnyH_take (i := 1) (v := ?v2) Held.op1 (by kernel_rfl) (by kernel_rfl) (by kernel_rfl) (fun _ _ _ h => h) (Or.inl ⟨by rfl, ?hy2⟩) (by assumption) ?rest2
        case hy2 => (intro wq hSq; (try dsimp only at hSq); first | (go_simp; done) | (go_simp; with_reducible rfl))
        try simp only [Act.put, List.setIfInBounds_toArray, List.set_cons_zero, List.set_cons_succ]
        refine wpAnyH_take (i := 2) (v := ?v3) Held.op2 (by kernel_rfl) (by kernel_rfl) (by kernel_rfl) (fun _ _ _ h => h) (Or.inl ⟨by rfl, ?hy3⟩) (by assumption) ?rest3
        case hy3 => (intro wq hSq; (try dsimp only at hSq); first | (go_simp; done) | (go_simp; with_reducible rfl))
        try simp only [Act.put, List.setIfInBounds_toArray, List.set_cons_zero, List.set_cons_succ]
        refine wpAnyH_take (i := 3) (v := ?v4) Held.op3 (by kernel_rfl) (by kernel_rfl) (by kernel_rfl) (fun _ _ _ h => h) (Or.inl ⟨by rfl, ?hy4⟩) (by assumption) ?rest4
        case hy4 => (intro wq hSq; (try dsimp only at hSq); first | (go_simp; done) | (go_simp; with_reducible rfl))
        try simp only [Act.put, List.setIfInBounds_toArray, List.set_cons_zero, List.set_cons_succ]
        refine wpAnyH_take (i := 4) (v := ?v5) Held.op4 (by kernel_rfl) (by kernel_rfl) (by kernel_rfl) (fun _ _ _ h => h) (Or.inl ⟨by rfl, ?hy5⟩) (by assumption) ?rest5
        case hy5 => (intro wq hSq; (try dsimp only at hSq); first | (go_simp; done) | (go_simp; with_reducible rfl))
        try simp only [Act.put, List.setIfInBounds_toArray, List.set_cons_zero, List.set_cons_succ]
        refine wpAnyH_take (i := 5) (v := ?v6) Held.op5 (by kernel_rfl) (by kernel_rfl) (by kernel_rfl) (fun _ _ _ h => h) (Or.inl ⟨by rfl, ?hy6⟩) (by assumption) ?rest6
        case hy6 => (intro wq hSq; (try dsimp only at hSq); first | (go_simp; done) | (go_simp; with_reducible rfl))
        try simp only [Act.put, List.setIfInBounds_toArray, List.set_cons_zero, List.set_cons_succ]
        refine wpAnyH_take (i := 6) (v := ?v7) Held.op6 (by kernel_rfl) (by kernel_rfl) (by kernel_rfl) (fun _ _ _ h => h) (Or.inl ⟨by rfl, ?hy7⟩) (by assumption) ?rest7
        case hy7 => (intro wq hSq; (try dsimp only at hSq); first | (go_simp; done) | (go_simp; with_reducible rfl))
        try simp only [Act.put, List.setIfInBounds_toArray, List.set_cons_zero, List.set_cons_succ]
        refine wpAnyH_take (i := 7) (v := ?v8) Held.op7 (by kernel_rfl) (by kernel_rfl) (by kernel_rfl) (fun _ _ _ h => h) (Or.inl ⟨by rfl, ?hy8⟩) (by assumption) ?rest8
        case hy8 => (intro wq hSq; (try dsimp only at hSq); first | (go_simp; done) | (go_simp; with_reducible rfl))
        try simp only [Act.put, List.setIfInBounds_toArray, List.set_cons_zero, List.set_cons_succ]
        refine wpAnyH_ready (rs := [8]) (by kernel_rfl) (by simp) ?_
        refine AllReadyH.cons Held.op8 (fun K hK => ?_) AllReadyH.nil
        go_simp
        go_at_call 63
        refine (HCR.out _ (Hbw.out.trans (drewU (Below.refl _ _) 1))).mono ?_
        rintro e w2 ⟨q, Fq, rfl, hT2, hb2, hF2⟩
        have HB2 := Lib.hid ((drewU (Below.refl wi.heap.size wi) 1).trans hb2)
        have HI2 := Lib.hid (blk_below HIi.out HB2.out)
        have HP2 := Lib.hid (blk_below HPi.out HB2.out)
        have HN2 := Lib.hid (HNi.out.below HB2.out)
        have HT2 := Lib.hid hT2
        have HF2 := Lib.hid hF2
        have HS := Lib.hid (set_any hLib w2 (Hbw.out.trans (HB2.out.mono hBi)) HN2.out.hl (Nat.le_trans hBi HB2.out.size) (ib, ii, is) HK.out.1.1 HK.out.1.2 q hlen hnx64)
        clear hT2 hb2 hF2
        refine hK.out _ _ ?_ (fun hHeld => ?_)
        · exact ⟨HP2.out.cell 0, HI2.out.cell 0, HI2.out.cell 1, HI2.out.cell 2, HI2.out.cell 3, HI2.out.cell 4, HI2.out.cell 5, HI2.out.cell 6⟩
        clear hK K
        try simp only [Act.put, List.setIfInBounds_toArray, List.set_cons_zero, List.set_cons_succ]
        refine wpAnyH_ready (rs := [9]) (by kernel_rfl) (by simp) ?_
        refine AllReadyH.cons Held.op9 (fun K hK => ?_) AllReadyH.nil
        go_simp
        go_at_call 110
        refine HS.out.mono ?_
        rintro e w3 ⟨hk3, hpost⟩
        rcases hpost with ⟨hnone, _, _⟩ | ⟨ps', nx', sv', hsome, rfl, hL3, ht3⟩
        · exact absurd hnone (by rw [HSP.out q]; simp)
        have HI3 := Lib.hid (HI2.out.keeps hk3 hio)
        have HP3 := Lib.hid (HP2.out.keeps hk3 (own_ne HP2.out HN2.out.hl))
        have HK3 := Lib.hid hk3
        have HL3 := Lib.hid hL3
        have HT3 := Lib.hid ht3
        have HO3 := Lib.hid hsome
        clear hk3 hL3 ht3 hsome
        refine hK.out _ _ ?_ (fun hHeld => ?_)
        · exact ⟨HP3.out.cell 0, HI3.out.cell 0, HI3.out.cell 1, HI3.out.cell 2, HI3.out.cell 3, HI3.out.cell 4, HI3.out.cell 5, HI3.out.cell 6⟩
        clear hK K
        try simp only [Act.put, List.setIfInBounds_toArray, List.set_cons_zero, List.set_cons_succ]
        refine wpAnyH_done (by kernel_rfl) ?_ _
        have hw2 := HB2.out.size
        have hFx : ∀ jj, Fq jj → ¬ F jj := fun jj h1 h2 => by
          have h3 := HF2.out jj h1
          have h4 := HNr.out.hlt jj h2
          have h5 : wi.heap.size ≤ jj := h3
          omega
        obtain ⟨i', ts', G', hN', _, _, _, hcase⟩ := HN2.out.set (own_ne HP2.out HN2.out.hl) HK3.out HL3.out HO3.out (fun jj hjj => HT3.out jj hjj) HT2.out hFx
        have hkk := HK.out.2.1
        simp only [GI.keyG] at hkk
        rw [hkk] at hcase
        have happ : ts' = ts ++ [((ib, ii, is), q, .mk k1 n1 t1 l1)] ∧ nx' = nextK nx (ib, ii, is) := by
          rcases hcase with ⟨h1, h2, h3, h4⟩ | ⟨h1, h2, h3, _⟩
          · rw [hkeys] at h4
            have h5 := HK.out.2.2
            simp only [GI.keyG] at h5
            omega
          · exact ⟨h2, h3⟩
        obtain ⟨rfl, rfl⟩ := happ
        have HNn := Lib.hid hN'
        have HTn : Hid ((ts ++ [((ib, ii, is), q, GV.mk k1 n1 t1 l1)]).map TS.gi = l.take (j + 1)) := by
          show _ = _
          rw [List.map_append, HTs.out, List.take_add_one, HHit.out]
          rfl
        have HNj3 : Hid (nextK nx (ib, ii, is) = ((l.take (j + 1)).map GI.keyG).foldl nextK 0) := by
          show _ = _
          rw [take_keys HHit.out, List.foldl_append, ← HNj.out]
          rfl
        have HBn := Lib.hid ((HBr.out.trans ((HBi.out.trans (HB2.out.mono (by omega))).mono hwr)).trans (HK3.out.below (by omega) (fun jj hjj => by have := HFr.out jj (HNr.out.hF.2 jj hjj); omega)))
        have hz3 := HK3.out.size
        have HFn : Hid (∀ jj, (F jj ∨ Fq jj ∨ ownL (w'.heap.size + 3) (w'.heap.size + 2) sv' jj) → w'.heap.size + 1 ≤ jj) := Lib.hid (fun jj hjj => by
          rcases hjj with h | h | h
          · exact HFr.out jj h
          · have h3 : wi.heap.size ≤ jj := HF2.out jj h
            omega
          · rcases HT3.out jj h with h | h
            · exact HFr.out jj (HNr.out.hF.2 jj h)
            · omega)
        clear hN' hcase HNr HFr HTs HNj HBr HPr HBi HIi HPi HNi HI2 HP2 HN2 HT2 HF2 HS HI3 HK3 HL3 HT3 HO3 HSP HCR Hbw HB2
        go_wp2_with fail
        go_roundw
        case rel => exact ⟨j + 1, sv', _, _, G', _, by omega, by go_num, HTn, HNj3, HNn, HFn, HBn, HP3, by omega⟩
        case measure => simp [ixOf] <;> omega
      · obtain rfl : j = l.length := by omega
        have HTf := HTs.out
        rw [List.take_length] at HTf
        have HNf := HNj.out
        rw [List.take_length, ← HNx.out] at HNf
        subst HNf
        have hT := HNr.out.tree HPr.out (fun _ => ⟨fun _ => rfl, fun _ => Int.le_refl _⟩)
        rw [HTf] at hT
        have HT := Lib.hid hT
        clear HI HV HA HW hT
        go_wp2_with fail
        go_ret
        exact ⟨_, F, rfl, HT.out, HBr.out, fun j hj => by have := HFr.out j hj; omega⟩
end
end Ut
end Go.Proofs.YtgpemnmopogppaaGreatDoor
