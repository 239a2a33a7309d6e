/- url: tree.value: a tree as a value: the walk. -/
import Derived.Test.YtgpemnmopogppaaGreatDoorZUtLQ
import Derived.Deep.RegionHeld3
namespace Go.Proofs.YtgpemnmopogppaaGreatDoor
open Go Go.RowKit
namespace Ut
open Go.Proofs.YtgpemnmopogppaaGreatDoor.Dp
/-- No list has more items than a list may have. -/
inductive Lim : GV → Prop where
  | mk (k n : Int) (t : ByteArray) (l : List GI) (hl : l.length ≤ 2048) (h : ∀ (i : Nat) (it : GI), l[i]? = some it → Lim it.val) : Lim (.mk k n t l)
theorem TreeAt.lim {w : World} {F : Nat → Prop} {p : Nat} {g : GV} (h : TreeAt w F p g) : Lim g := by
  induction h with
  | leaf F p k n t A c hk hb hp hlt => exact .mk _ _ _ _ (Nat.zero_le _) fun i it h => by simp at h
  | node F p b mb sv bk bn bt bA bl bc ts nx G hb hbase hl hF hG hd hc hlt hn ih =>
    refine .mk _ _ _ _ (by simpa using hn) fun i it h => ?_
    rw [List.getElem?_map] at h
    obtain ⟨x, hx, rfl⟩ := Option.map_eq_some_iff.1 h
    exact ih i x hx
theorem store4 {w : World} {r : Nat} {t : TypeId} {a0 a1 a2 a3 : Value} (h : Blk w r t #[a0, a1, a2, a3]) (u0 u1 u2 u3 : Value) :
    Blk ((((w.setCell ⟨r, 0, none⟩ u0).setCell ⟨r, 1, none⟩ u1).setCell ⟨r, 2, none⟩ u2).setCell ⟨r, 3, none⟩ u3) r t #[u0, u1, u2, u3] ∧ Keeps (fun j => j = r) w ((((w.setCell ⟨r, 0, none⟩ u0).setCell ⟨r, 1, none⟩ u1).setCell ⟨r, 2, none⟩ u2).setCell ⟨r, 3, none⟩ u3) :=
  ⟨(((h.set_ 0 u0).set_ 1 u1).set_ 2 u2).set_ 3 u3, ((((Keeps.refl (fun j => j = r) w).setCell (p := ⟨r, 0, none⟩) (.inl rfl) _).setCell (p := ⟨r, 1, none⟩) (.inl rfl) _).setCell (p := ⟨r, 2, none⟩) (.inl rfl) _).setCell (p := ⟨r, 3, none⟩) (.inl rfl) _⟩
attribute [local go_sem] Oper.semAt_some
/-- What value answers. -/
def ValP (w' : World) (F : Nat → Prop) (g : GV) (e : Ending) (w2 : World) : Prop := ∃ y, e = .returned y ∧ VIn w2 (fun j => w'.heap.size ≤ j ∧ j < w2.heap.size) g y ∧ Keeps F w' w2
section
set_option maxRecDepth 100000 in
set_option maxHeartbeats 8000000 in
theorem value_any {g : GV} (hg : Lim g) : ∀ (w' : World) (F : Nat → Prop) (p : Nat), TreeAt w' F p g → Calls Tryz.prog 64 #[.pointer (some ⟨p, 0, none⟩)] w' fun e w2 => ValP w' F g e w2 := by
  induction hg with
  | mk k n t l hl hlim ih =>
  intro w' F p hT
  have hal := fun (w1 : World) (o : Obj) => (Below.refl w1.heap.size w1).alloc (Nat.le_refl _) o
  have HBa := Lib.hid (hal w' (.cells #[.int .i64 0, .int .i64 0, .string ⟨#[]⟩, .slice none 0 0] 25))
  have HZa := Lib.hid (Blk.new w' 25 #[.int .i64 0, .int .i64 0, .string ⟨#[]⟩, .slice none 0 0])
  have HAL := Lib.hid hal
  have hsz : (w'.alloc (.cells #[.int .i64 0, .int .i64 0, .string ⟨#[]⟩, .slice none 0 0] 25)).heap.size = w'.heap.size + 1 := by simp
  clear hal
  cases hT with
  | leaf _ _ _ _ _ A c hk hb hp hlt =>
    have HP := Lib.hid (blk_below hb HBa.out)
    have HS := Lib.hid (store4 HZa.out (.int .i64 k) (.int .i64 n) (.string t) (.slice A 0 c))
    have HSz := Lib.hid hsz
    clear ih hb hsz
    refine (callsIn_wide (n := 6)).1 ?_
    refine callsIn_of_wp_marks Tryz.func64 rfl trivial ?_ rfl
    simp only [Tryz.ntmps64, List.size_toArray, List.length_cons, List.length_nil, Nat.reduceAdd, Nat.reduceSub, Array.replicate_succ, Array.replicate_zero, List.push_toArray, List.append_toArray, List.nil_append, List.cons_append]
    refine wpIn_wide.2 ?_
    go_upto_region 1 with fail
    generalize w'.alloc (.cells #[.int .i64 0, .int .i64 0, .string ⟨#[]⟩, .slice none 0 0] 25) = w1 at *
    have p0 : w1.cell? ⟨p, 0, none⟩ = some (.pointer none) := HP.out.cell 0
    have p1 : w1.cell? ⟨p, 1, none⟩ = some (.int .i64 k) := HP.out.cell 1
    have p2 : w1.cell? ⟨p, 2, none⟩ = some (.int .i64 n) := HP.out.cell 2
    have p3 : w1.cell? ⟨p, 3, none⟩ = some (.string t) := HP.out.cell 3
    have p4 : w1.cell? ⟨p, 4, none⟩ = some (.slice A 0 c) := HP.out.cell 4
    have z0 : w1.cell? ⟨w'.heap.size, 0, none⟩ = some (.int .i64 0) := HZa.out.cell 0
    have z1 : w1.cell? ⟨w'.heap.size, 1, none⟩ = some (.int .i64 0) := HZa.out.cell 1
    have z2 : w1.cell? ⟨w'.heap.size, 2, none⟩ = some (.string ⟨#[]⟩) := HZa.out.cell 2
    have z3 : w1.cell? ⟨w'.heap.size, 3, none⟩ = some (.slice none 0 0) := HZa.out.cell 3
    have zf0 := HZa.out.frozen 0
    have zf1 := HZa.out.frozen 1
    have zf2 := HZa.out.frozen 2
    have zf3 := HZa.out.frozen 3
    go_wp2_with fail
    have hzf : ((((w1.setCell ⟨w'.heap.size, 0, none⟩ (.int .i64 k)).setCell ⟨w'.heap.size, 1, none⟩ (.int .i64 n)).setCell ⟨w'.heap.size, 2, none⟩ (.string t)).setCell ⟨w'.heap.size, 3, none⟩ (.slice A 0 c)).heap.size = w'.heap.size + 1 := by simp; exact HSz.out
    generalize ((((w1.setCell ⟨w'.heap.size, 0, none⟩ (.int .i64 k)).setCell ⟨w'.heap.size, 1, none⟩ (.int .i64 n)).setCell ⟨w'.heap.size, 2, none⟩ (.string t)).setCell ⟨w'.heap.size, 3, none⟩ (.slice A 0 c)) = wf at *
    have e0 : wf.cell? ⟨w'.heap.size, 0, none⟩ = some (.int .i64 k) := HS.out.1.cell 0
    have e1 : wf.cell? ⟨w'.heap.size, 1, none⟩ = some (.int .i64 n) := HS.out.1.cell 1
    have e2 : wf.cell? ⟨w'.heap.size, 2, none⟩ = some (.string t) := HS.out.1.cell 2
    have e3 : wf.cell? ⟨w'.heap.size, 3, none⟩ = some (.slice A 0 c) := HS.out.1.cell 3
    refine ⟨.agg #[.int .i64 k, .int .i64 n, .string t, .slice A 0 c], by simp [results, Tryz.results64, go_sem, e0, e1, e2, e3], _, rfl, ?_, keeps_new (Keeps.of_below HBa.out) HS.out.2 (fun j e => .inr (Nat.le_of_eq e.symm))⟩
    exact VIn.mk k n t [] A c 0 0 (fun _ => .nilIface) (Nat.zero_le _) (Nat.zero_le _) (fun h => absurd h (Nat.lt_irrefl 0)) (fun i it h => by simp at h) (fun i it h => by simp at h)
  | node _ _ b mb sv bk bn bt bA bl bc ts nx G hb hbase hL hF hG hd hc hlt hn =>
    have HP := Lib.hid (blk_below hb HBa.out)
    have HT := Lib.hid (fun i x hx => (hc i x hx).under HBa.out)
    have HN := Lib.hid (next_any (w'.alloc (.cells #[.int .i64 0, .int .i64 0, .string ⟨#[]⟩, .slice none 0 0] 25)) b n (hL.below HBa.out).cells.1 (hL.below HBa.out).cells.2.2.2.2)
    have HL := Lib.hid (hL.below HBa.out)
    have HSz := Lib.hid hsz
    have HIh := Lib.hid ih
    have HF := Lib.hid hF
    have HG := Lib.hid hG
    have Hd := Lib.hid hd
    have Hlt := Lib.hid hlt
    have hpo := own_ne hb hL
    have hVb := Blk.new (w'.alloc (.cells #[.int .i64 0, .int .i64 0, .string ⟨#[]⟩, .slice none 0 0] 25)) 25 #[.int .i64 4, .int .i64 n, .string ⟨#[]⟩, .slice none 0 0]
    rw [hsz] at hVb
    have HVb := Lib.hid hVb
    have HB2 := Lib.hid (HAL.out (w'.alloc (.cells #[.int .i64 0, .int .i64 0, .string ⟨#[]⟩, .slice none 0 0] 25)) (.cells #[.int .i64 4, .int .i64 n, .string ⟨#[]⟩, .slice none 0 0] 25))
    clear ih hb hL hF hG hd hlt hc hVb hsz
    refine (callsIn_wide (n := 6)).1 ?_
    refine callsIn_of_wp_marks Tryz.func64 rfl trivial ?_ rfl
    simp only [Tryz.ntmps64, List.size_toArray, List.length_cons, List.length_nil, Nat.reduceAdd, Nat.reduceSub, Array.replicate_succ, Array.replicate_zero, List.push_toArray, List.append_toArray, List.nil_append, List.cons_append]
    refine wpIn_wide.2 ?_
    go_upto_region 1 with fail
    generalize w'.alloc (.cells #[.int .i64 0, .int .i64 0, .string ⟨#[]⟩, .slice none 0 0] 25) = w1 at *
    have p0 : w1.cell? ⟨p, 0, none⟩ = some (.pointer (some ⟨b, 0, none⟩)) := HP.out.cell 0
    go_upto_region 4 with (go_at_call 111; refine HN.out.mono ?_; rintro e wx ⟨rfl, hw⟩; rw [hw]; clear hw wx)
    have HPb := Lib.hid (blk_below HP.out HB2.out)
    have HZb := Lib.hid (blk_below HZa.out HB2.out)
    have HLb := Lib.hid (HL.out.below HB2.out)
    have HTb := Lib.hid (fun i x hx => (HT.out i x hx).under HB2.out)
    have HBc := Lib.hid (HBa.out.trans (HB2.out.mono (by rw [HSz.out]; omega)))
    have hsz2 : (w1.alloc (.cells #[.int .i64 4, .int .i64 n, .string ⟨#[]⟩, .slice none 0 0] 25)).heap.size = w'.heap.size + 2 := by simp [HSz.out]
    clear HP HT HN HL HZa HB2 HBa p0
    rw [HSz.out]
    generalize w1.alloc (.cells #[.int .i64 4, .int .i64 n, .string ⟨#[]⟩, .slice none 0 0] 25) = w2 at *
    clear HSz w1
    have p1 : w2.cell? ⟨p, 1, none⟩ = some (.int .i64 bk) := HPb.out.cell 1
    have p2 : w2.cell? ⟨p, 2, none⟩ = some (.int .i64 bn) := HPb.out.cell 2
    have v1 : w2.cell? ⟨w'.heap.size + 1, 1, none⟩ = some (.int .i64 n) := HVb.out.cell 1
    have vf1 := HVb.out.frozen 1
    go_cut [49] from 21 to 49 (fun x wx => ∃ nd, wx = w2.drewN nd ∧ ((x = .bool true ∧ bn = n) ∨ x = .bool false))
    case first =>
      by_cases h4 : bk = 4
      · obtain ⟨h5, h6⟩ := hbase h4
        subst h4
        by_cases h7 : bn < 0
        · obtain rfl := h5 h7
          clear h5 h6 hbase
          go_quiet (fail)
          go_wp2_with fail
          go_meet
          case rel => first | exact ⟨_, rfl, .inl ⟨rfl, rfl⟩⟩ | exact ⟨_, rfl, .inl ⟨rfl, trivial⟩⟩ | exact ⟨_, rfl, .inl trivial⟩
        · clear h5 hbase
          by_cases h8 : 0 ≤ n
          · have h9 := h6 h8
            have h10 : ¬ n < bn := by omega
            clear h6
            go_quiet (fail)
            go_wp2_with fail
            go_meet
            case rel => exact ⟨_, rfl, .inr rfl⟩
          · clear h6
            by_cases h10 : n < bn
            · go_quiet (fail)
              go_wp2_with fail
              go_meet
              case rel => exact ⟨_, rfl, .inr rfl⟩
            · go_quiet (fail)
              go_wp2_with fail
              go_meet
              case rel => exact ⟨_, rfl, .inr rfl⟩
      · clear hbase
        have hd4 : (bk == 4) = false := beq_eq_false_iff_ne.2 h4
        go_quiet (fail)
        go_wp2_with fail
        go_meet
        case rel => exact ⟨_, rfl, .inr rfl⟩
    case rest =>
      obtain ⟨nd, rfl, hx⟩ := hcut
      clear hbase p1 v1 vf1
      have hvp : p ≠ w'.heap.size + 1 := by have := Hlt.out p HF.out.1; omega
      have p2 : (w2.drewN nd).cell? ⟨p, 2, none⟩ = some (.int .i64 bn) := HPb.out.cell 2
      have v1 : (w2.drewN nd).cell? ⟨w'.heap.size + 1, 1, none⟩ = some (.int .i64 n) := HVb.out.cell 1
      have vf1 : (w2.drewN nd).frozen? ⟨w'.heap.size + 1, 1, none⟩ = false := HVb.out.frozen 1
      go_upto_if 49 with fail
      go_cut [] from 50 to 55 (fun wx => Hid (Blk wx (w'.heap.size + 1) 25 #[.int .i64 4, .int .i64 n, .string ⟨#[]⟩, .slice none 0 0]) ∧ Hid (Keeps (fun j => j = w'.heap.size + 1) w2 wx))
      case first =>
        rcases hx with ⟨rfl, rfl⟩ | rfl
        · go_wp2_with fail
          go_meet
          case rel => exact ⟨HVb.out.drewN nd |>.set_ 1 _, ((Keeps.refl (fun j => j = w'.heap.size + 1) w2).drewN nd).setCell (p := ⟨w'.heap.size + 1, 1, none⟩) (.inl rfl) _⟩
        · go_wp2_with fail
          go_meet
          case rel => exact ⟨HVb.out.drewN nd, (Keeps.refl _ w2).drewN nd⟩
      case rest =>
        obtain ⟨HVc, HKc⟩ := hcut
        have hss := HKc.out.size
        have HPc := Lib.hid (HPb.out.keeps HKc.out hvp)
        have HZc := Lib.hid (HZb.out.keeps HKc.out (by omega))
        have hFv : ∀ j, F j → j ≠ w'.heap.size + 1 := fun j hj => by have := Hlt.out j hj; omega
        have HLc := Lib.hid (HLb.out.keeps HKc.out (fun j hj => hFv j (HF.out.2 j hj)))
        have HTc := Lib.hid (fun i x hx => (HTb.out i x hx).keeps HKc.out (fun j hj => hFv j (HG.out i j (List.getElem?_eq_some_iff.1 hx).1 hj).1))
        have HBd := Lib.hid (HBc.out.trans (HKc.out.below (B := w'.heap.size) (by omega) (fun j e => by rw [e]; omega)))
        clear hx p2 v1 vf1 HPb HZb HLb HTb HBc HVb
        have p0 : wc.cell? ⟨p, 0, none⟩ = some (.pointer (some ⟨b, 0, none⟩)) := HPc.out.cell 0
        have HAl := Lib.hid (all_any wc b)
        have hwc : w'.heap.size + 2 ≤ wc.heap.size := by omega
        clear HKc hss hsz2
        go_wp2_with (go_at_call 112; refine HAl.out.mono ?_; rintro e wq ⟨rfl, he⟩; subst he)
        have HVw := Lib.hid (HAL.out wc (.cells #[.pointer (some ⟨b, 0, none⟩)] 104))
        have HLw := Lib.hid (HLc.out.below HVw.out)
        have HBx := Lib.hid (Blk.new wc 104 #[.pointer (some ⟨b, 0, none⟩)])
        have hs0 : (wc.alloc (.cells #[.pointer (some ⟨b, 0, none⟩)] 104)).heap.size = wc.heap.size + 1 := by simp
        have HM0 : Hid (ValSt w' F G ts (w'.heap.size + 1) n ([] : List PK).length (wc.alloc (.cells #[.pointer (some ⟨b, 0, none⟩)] 104))) := ⟨⟨_, [], rfl, RowSt.nil _ _, HVc.out.alloc _⟩, (Keeps.of_below HBd.out).trans (Keeps.of_below HVw.out), HZc.out.alloc _, fun i x _ hx => (HTc.out i x hx).under HVw.out⟩
        have hCFr : ∀ g, sv.ownBlock = some g → ¬ (fun j => ∃ i, i < ts.length ∧ G i j) g := fun g e h => by
          obtain ⟨i, hi, hg⟩ := h
          exact (HG.out i g hi hg).2.2 (.inr (.inr e.symm))
        have hbl : b < wc.heap.size := HLc.out.blk.lt
        have hbF : F b := HF.out.2 b (.inl rfl)
        have hbG : ∀ i j, i < ts.length → G i j → j ≠ b := fun i j hi hj e => (HG.out i j hi hj).2.2 (.inl e)
        have hnl : (ts.map TS.pk).length ≤ 2048 := by simpa using hn
        generalize wc.alloc (.cells #[.pointer (some ⟨b, 0, none⟩)] 104) = W0 at *
        clear HAl HLc HTc HVc HPc HZc p0 HVw HBd
        refine (wpIn_wide (n := 6)).1 ?_
        refine range_Z (Zq := RowQ (fun j => ∃ i, i < ts.length ∧ G i j)) rowQ_cells (b := b) (by omega) rfl (enters_of Tryz.func144 (by kernel_rfl) rfl) (encs := encT) (xs := ts.map TS.pk) (fun _ => rfl)
          (fun l J W hbW hJ hY h0 => all1_in (bx := wc.heap.size) hnl hCFr J W ((hbW.cell (p := ⟨wc.heap.size, 0, none⟩) (by rw [hs0]; exact Nat.lt_succ_self _)).trans (HBx.out.cell 0)) (HLw.out.below hbW) hJ (fun pre x W1 h1 h2 => hY pre x W1 h1 h2) h0)
          (fun pre Wz => Hid (ValSt w' F G ts (w'.heap.size + 1) n pre.length Wz)) (fun _pre x a' Wz => ∃ kb, a' = { tmps := #[.pointer (some ⟨p, 0, none⟩), undef, .pointer (some ⟨w'.heap.size, 0, none⟩), .pointer (some ⟨w'.heap.size + 1, 0, none⟩), .pointer (some ⟨kb, 0, none⟩), .pointer (some ⟨x.2, 0, none⟩), .pointer (some ⟨p, 0, none⟩), .pointer (some ⟨p, 0, none⟩), .pointer (some ⟨p, 0, none⟩), .pointer (some ⟨b, 0, none⟩), .bool false, undef, undef, undef, undef, .pointer (some ⟨p, 0, none⟩), .pointer (some ⟨p, 0, none⟩), .pointer (some ⟨p, 0, none⟩), .pointer (some ⟨b, 0, none⟩), .int .i64 n, .agg #[.int .i64 4, .int .i64 n, .string ⟨#[]⟩, .slice none 0 0], u21, u22, u23, u24, u25, u26, u27, u28, u29, u30, u31, u32, u33, u34, u35, u36, u37, u38, u39, u40, u41, u42, u43, u44, u45, u46, u47, u48, u49, u50, u51, u52, u53, u54, u55, .pointer (some ⟨p, 0, none⟩), .pointer (some ⟨p, 0, none⟩), .pointer (some ⟨p, 0, none⟩), .pointer (some ⟨b, 0, none⟩), .func (.func 144) #[] #[.pointer (some ⟨wc.heap.size, 0, none⟩)], .agg #[.bool x.1.1, .int .i64 x.1.2.1, .string x.1.2.2], .pointer (some ⟨x.2, 0, none⟩), undef, undef, undef, undef, undef, undef, undef, undef, undef, undef, undef, undef], defers := [] } ∧ Hid (Blk Wz kb 37 #[.bool x.1.1, .int .i64 x.1.2.1, .string x.1.2.2]) ∧ w'.heap.size + 1 < kb)
          (fun pre A B hA hk => hA.out.keepsS hk (Nat.lt_succ_self _) (fun j e => .inl (by rw [e]; exact ⟨hbF, Hlt.out _ hbF⟩)) (fun i j hi hj => hbG i j hi hj)) (fun pre A l o o' hA hl ho h1 h2 => hA.out.put (fun i j hi hj => Hlt.out j (HG.out i j hi hj).1) ho h1 h2 (by omega)) ?hAp HM0 ?assign ?body ?done
        case hAp =>
          rintro pre x a' A l o o' ⟨kb, rfl, h1, h2⟩ hl ho hc hc'
          exact ⟨kb, rfl, blk_put h1.out ho hc o', h2⟩
        case assign =>
          intro l1 pre x W K hpx hM hK
          have hws : w'.heap.size + 1 < W.heap.size := by
            obtain ⟨sv2, qs, _, _, hbv⟩ := hM.out.ex
            exact hbv.lt
          dsimp only [encT]
          gi_wp2
          have hb1 := (Below.refl W.heap.size W).alloc (Nat.le_refl _) (.cells #[.bool x.1.1, .int .i64 x.1.2.1, .string x.1.2.2] 37)
          refine hK _ _ ⟨W.heap.size, rfl, Blk.new W 37 #[.bool x.1.1, .int .i64 x.1.2.1, .string x.1.2.2], hws⟩ (hM.out.under hb1) (KZ.below hb1)
        case body =>
          rintro l1 pre x a' W hpx ⟨kb, rfl, HKb, hkv⟩ hM
          obtain ⟨y, hy, hyx⟩ : ∃ y, ts[pre.length]? = some y ∧ y.pk = x := by
            obtain ⟨t, ht⟩ := hpx
            have h1 : (ts.map TS.pk)[pre.length]? = some x := by rw [← ht]; simp
            rw [List.getElem?_map] at h1
            exact Option.map_eq_some_iff.1 h1
          subst hyx
          have hpl : (pre ++ [y.pk]).length = pre.length + 1 := by simp
          have hil := (List.getElem?_eq_some_iff.1 hy).1
          generalize pre.length = m at *
          obtain ⟨⟨sv2, qs, hqq, hrq, hbv⟩, hkp, hres, hrest⟩ := hM.out
          obtain ⟨A4, c4, rfl⟩ := hrq.form
          have hTx := hrest m y (Nat.le_refl _) hy
          have hIy := HIh.out m y.gi (by rw [List.getElem?_map, hy]; rfl)
          obtain ⟨⟨yb, yi, ys⟩, yp, k1, n1, t1, l1⟩ := y
          have HCv : Hid (∀ wz : World, Below W.heap.size W wz → Calls Tryz.prog 64 #[.pointer (some ⟨yp, 0, none⟩)] wz fun e w2 => ∃ A2 c2, e = .returned (.agg #[.int .i64 k1, .int .i64 n1, .string t1, .slice A2 l1.length c2]) ∧ VIn w2 (fun b => wz.heap.size ≤ b ∧ b < w2.heap.size) (.mk k1 n1 t1 l1) (.agg #[.int .i64 k1, .int .i64 n1, .string t1, .slice A2 l1.length c2]) ∧ Keeps (G m) wz w2) := fun wz hz => (hIy wz (G m) yp (hTx.under hz)).mono fun e w2 ⟨u, h1, h2, h3⟩ => by
            have h2' : VIn w2 (fun b => wz.heap.size ≤ b ∧ b < w2.heap.size) (.mk k1 n1 t1 l1) u := h2
            obtain ⟨A2, c2, rfl⟩ := h2'.form
            exact ⟨A2, c2, h1, h2', h3⟩
          have HQq := Lib.hid hqq
          have HRq := Lib.hid hrq
          have HBv := Lib.hid hbv
          have HKp := Lib.hid hkp
          have HRs := Lib.hid hres
          have HRest := Lib.hid hrest
          have Hy := Lib.hid hy
          have hGm : ∀ j, G m j → j < w'.heap.size := fun j hj => Hlt.out j (HG.out m j hil hj).1
          have HvW : Hid (w'.heap.size + 2 ≤ W.heap.size) := Lib.hid (Nat.succ_le_of_lt hbv.lt)
          have HRG : Hid (∀ g, (Value.slice A4 qs.length c4).ownBlock = some g → ¬ G m g) := Lib.hid (fun g e hg => by have h1 := (hrq.owns.lt g e).1; have h2 := hGm g hg; omega)
          have HQl : Hid (qs.length ≤ 2048) := by
            have h1 := congrArg List.length hqq
            simp at h1
            show _ ≤ _
            omega
          have v3 : W.cell? ⟨w'.heap.size + 1, 3, none⟩ = some (.slice A4 qs.length c4) := hbv.cell 3
          have v3a : (W.alloc (.cells #[.bool false, .int .i64 0, .string ⟨#[]⟩, .int .i64 0, .int .i64 0, .string ⟨#[]⟩, .slice none 0 0] 39)).cell? ⟨w'.heap.size + 1, 3, none⟩ = some (.slice A4 qs.length c4) := (hbv.alloc _).cell 3
          have hix : ((qs.length : Nat) : Int) < (qs.length : Int) + 1 := by omega
          have nkv : kb ≠ w'.heap.size + 1 := by omega
          have hkG : ¬ G m kb := fun h => by have := hGm kb h; omega
          have hvG : ¬ G m (w'.heap.size + 1) := fun h => by have := hGm _ h; omega
          have HFl := Lib.hid Hlt.out
          have HGF := Lib.hid (fun i j hi hj => (HG.out i j hi hj).1)
          have HCF : Hid (∀ i j, i < ts.length → G i j → (fun j => ∃ i, i < ts.length ∧ G i j) j) := Lib.hid (fun i j hi hj => ⟨i, hi, hj⟩)
          have HSm : Hid (w'.heap.size ≤ W0.heap.size) := Lib.hid (by omega)
          clear hqq hrq hbv hkp hres hrest hM hy hTx hIy hpx HLw HBx HM0 HIh
          simp only [TS.pk] at *
          gi_wp2
          refine region_round (S := (fun wz => wz.cell? ⟨kb, 0, none⟩ = some (.bool yb) ∧ wz.cell? ⟨kb, 1, none⟩ = some (.int .i64 yi) ∧ wz.cell? ⟨kb, 2, none⟩ = some (.string ys))) (by kernel_rfl) (by kernel_rfl) ?_ ?_ (fun hHeld => ?_)
          · rintro ⟨a9, w9, h9, -⟩
            cases h9
          · exact sk3 HKb.out.drew
          refine wpAnyH_take (i := 0) (v := ?v1) Held.op0 (by kernel_rfl) (by kernel_rfl) (by kernel_rfl) (fun _ _ _ h => h) (Or.inl ⟨by rfl, ?hy1⟩) (by assumption) ?rest1
          case hy1 => (intro wq hSq; (try dsimp only at hSq); first | (go_simp; done) | (go_simp; with_reducible rfl))
          try simp only [Act.put, List.setIfInBounds_toArray, List.set_cons_zero, List.set_cons_succ]
          refine wpAnyH_take (i := 2) (v := ?v2) Held.op2 (by kernel_rfl) (by kernel_rfl) (by kernel_rfl) (fun _ _ _ h => h) (Or.inl ⟨by rfl, ?hy2⟩) (by assumption) ?rest2
          case hy2 => (intro wq hSq; (try dsimp only at hSq); first | (go_simp; done) | (go_simp; with_reducible rfl))
          try simp only [Act.put, List.setIfInBounds_toArray, List.set_cons_zero, List.set_cons_succ]
          refine wpAnyH_take (i := 3) (v := ?v3) Held.op3 (by kernel_rfl) (by kernel_rfl) (by kernel_rfl) (fun _ _ _ h => h) (Or.inl ⟨by rfl, ?hy3⟩) (by assumption) ?rest3
          case hy3 => (intro wq hSq; (try dsimp only at hSq); first | (go_simp; done) | (go_simp; with_reducible rfl))
          try simp only [Act.put, List.setIfInBounds_toArray, List.set_cons_zero, List.set_cons_succ]
          refine wpAnyH_ready (rs := [1, 4, 7]) (by kernel_rfl) (by simp) ?_
          refine AllReadyH.cons Held.op1 (fun K hK => ?_) (AllReadyH.cons Held.op4 (fun K hK => ?_) (AllReadyH.cons Held.op7 (fun K hK => ?_) AllReadyH.nil))
          · go_simp
            refine hK.out _ _ ?_ (fun hHeld => ?_)
            · exact sk3 HKb.out.drew
            clear hK K
            try simp only [Act.put, List.setIfInBounds_toArray, List.set_cons_zero, List.set_cons_succ]
            refine wpAnyH_take (i := 6) (v := ?v4) Held.op6 (by kernel_rfl) (by kernel_rfl) (by kernel_rfl) (fun _ _ _ h => h) (Or.inl ⟨by rfl, ?hy4⟩) (by assumption) ?rest4
            case hy4 => (intro wq hSq; (try dsimp only at hSq); first | (go_simp; done) | (go_simp; with_reducible rfl))
            try simp only [Act.put, List.setIfInBounds_toArray, List.set_cons_zero, List.set_cons_succ]
            refine wpAnyH_ready (rs := [4, 7]) (by kernel_rfl) (by simp) ?_
            refine AllReadyH.cons Held.op4 (fun K hK => ?_) (AllReadyH.cons Held.op7 (fun K hK => ?_) AllReadyH.nil)
            · go_simp
              go_at_call 64
              refine (HCv.out _ ?_).mono ?_
              · exact drewU (Below.refl W.heap.size W) 1
              rintro e w2 ⟨A2, c2, rfl, hy, hk2⟩
              have HY2 := Lib.hid hy
              have HB2 : Hid (Keeps (G m) W w2) := (Keeps.of_below (S := G m) (drewU (Below.refl W.heap.size W) 1)).trans hk2
              have HKb2 := Lib.hid (HKb.out.keeps HB2.out hkG)
              have v3b : w2.cell? ⟨w'.heap.size + 1, 3, none⟩ = some (.slice A4 qs.length c4) := (HBv.out.keeps HB2.out hvG).cell 3
              clear hy hk2
              try (go_wp2_with fail)
              refine hK.out _ _ ?_ (fun hHeld => ?_)
              · exact sk3 HKb2.out
              clear hK K
              try simp only [Act.put, List.setIfInBounds_toArray, List.set_cons_zero, List.set_cons_succ]
              refine wpAnyH_take (i := 5) (v := ?v5) Held.op5 (by kernel_rfl) (by kernel_rfl) (by kernel_rfl) (fun _ _ _ h => h) (Or.inl ⟨by rfl, ?hy5⟩) (by assumption) ?rest5
              case hy5 => (intro wq hSq; (try dsimp only at hSq); first | (go_simp; done) | (go_simp; with_reducible rfl))
              try simp only [Act.put, List.setIfInBounds_toArray, List.set_cons_zero, List.set_cons_succ]
              refine wpAnyH_ready (rs := [7]) (by kernel_rfl) (by simp) ?_
              refine AllReadyH.cons Held.op7 (fun K hK => ?_) AllReadyH.nil
              have HP : Hid (Keeps (G m) W (w2.alloc (.cells #[.bool false, .int .i64 0, .string ⟨#[]⟩, .int .i64 0, .int .i64 0, .string ⟨#[]⟩, .slice none 0 0] 39)) ∧ Blk (w2.alloc (.cells #[.bool false, .int .i64 0, .string ⟨#[]⟩, .int .i64 0, .int .i64 0, .string ⟨#[]⟩, .slice none 0 0] 39)) w2.heap.size 39 #[.bool false, .int .i64 0, .string ⟨#[]⟩, .int .i64 0, .int .i64 0, .string ⟨#[]⟩, .slice none 0 0] ∧ VIn (w2.alloc (.cells #[.bool false, .int .i64 0, .string ⟨#[]⟩, .int .i64 0, .int .i64 0, .string ⟨#[]⟩, .slice none 0 0] 39)) (fun b => W.heap.size ≤ b ∧ b < (w2.alloc (.cells #[.bool false, .int .i64 0, .string ⟨#[]⟩, .int .i64 0, .int .i64 0, .string ⟨#[]⟩, .slice none 0 0] 39)).heap.size) (.mk k1 n1 t1 l1) (.agg #[.int .i64 k1, .int .i64 n1, .string t1, .slice A2 l1.length c2])) := ⟨HB2.out.trans (Keeps.of_below ((Below.refl w2.heap.size w2).alloc (Nat.le_refl _) _)), Blk.new w2 _ _, HY2.out.keep (fun b hS => ⟨hS.1, by have := hS.2; simp; omega⟩) fun q hq => World.cell?_alloc_lt w2 _ q hq.2⟩
              have HKbp := Lib.hid (HKb2.out.alloc (.cells #[.bool false, .int .i64 0, .string ⟨#[]⟩, .int .i64 0, .int .i64 0, .string ⟨#[]⟩, .slice none 0 0] 39))
              have v3p : (w2.alloc (.cells #[.bool false, .int .i64 0, .string ⟨#[]⟩, .int .i64 0, .int .i64 0, .string ⟨#[]⟩, .slice none 0 0] 39)).cell? ⟨w'.heap.size + 1, 3, none⟩ = some (.slice A4 qs.length c4) := ((HBv.out.keeps HB2.out hvG).alloc _).cell 3
              go_simp
              generalize w2.alloc (.cells #[.bool false, .int .i64 0, .string ⟨#[]⟩, .int .i64 0, .int .i64 0, .string ⟨#[]⟩, .slice none 0 0] 39) = Wp at *
              refine hK.out _ _ ?_ (fun hHeld => ?_)
              · exact sk3 HKbp.out
              clear hK K
              try simp only [Act.put, List.setIfInBounds_toArray, List.set_cons_zero, List.set_cons_succ]
              refine wpAnyH_ready (rs := [8]) (by kernel_rfl) (by simp) ?_
              refine AllReadyH.cons Held.op8 (fun K hK => ?_) AllReadyH.nil
              refine step_app_item rfl (.tmp 64) (.tmp 70) rfl (w'.heap.size + 1 + 1) (.slice A4 qs.length c4) qs rfl (row_keep HRq.out.owns HP.out.1 HRG.out) ?_ (some ⟨w2.heap.size, 0, none⟩) 1 1 [zeroPI] rfl (reads_one (p := zeroPI) HP.out.2.1) ?_ ?_
              · exact Nat.le_trans HvW.out HP.out.1.size
              · have := HQl.out; omega
              intro v7 w7 hown7 hg7 hor7
              obtain ⟨g7, cap7, rfl, hg7a, hg7b⟩ := hown7.form (Nat.succ_pos _)
              have HO7 := Lib.hid (show w7.ownsRow (w'.heap.size + 1 + 1) 39 7 (.slice (some ⟨g7, 0, none⟩) (qs.length + 1) cap7) (qs.length + 1) (rowC qs ++ rowC [zeroPI]) from hown7)
              have HE7 := Lib.hid (roundV_end HFl.out HGF.out Hd.out HCF.out HSm.out HQq.out (x := ((yb, yi, ys), yp, (.mk k1 n1 t1 l1))) (x' := ⟨yb, yi, ys, k1, n1, t1, l1, A2, c2⟩) Hy.out rfl HRq.out HBv.out HKp.out HRs.out HRest.out (Nat.lt_succ_self _) HP.out.1 HP.out.2.2 HO7.out rfl hg7 hor7)
              have HBv7 := Lib.hid ((HBv.out.keeps HP.out.1 hvG).grown hg7 (fun e => by have := (HRq.out.owns.lt _ e.symm).1; omega))
              have HKb7 := Lib.hid (HKbp.out.grown hg7 (row_ne (row_keep HRq.out.owns HP.out.1 HRG.out) HKbp.out (by decide)))
              have z := seven_row HO7.out
              obtain ⟨⟨z0, z1, z2, z3, z4, z5, z6⟩, y0, y1, y2, y3, y4, y5, y6⟩ := z
              have x2 : w7.cell? ⟨w'.heap.size + 1, 3, none⟩ = some (.slice A4 qs.length c4) := HBv7.out.cell 3
              have xf2 := HBv7.out.frozen 3
              have nn1 : w'.heap.size + 1 ≠ g7 := by omega
              have nn2 : g7 ≠ w'.heap.size + 1 := Ne.symm nn1
              have nn3 : kb ≠ g7 := fun e => row_ne HO7.out HKb7.out (by decide) (by rw [e]; rfl)
              clear hown7 hg7 hor7
              refine hK.out _ _ ?_ (fun hHeld => ?_)
              · exact sk3 HKb7.out
              clear hK K
              try simp only [Act.put, List.setIfInBounds_toArray, List.set_cons_zero, List.set_cons_succ]
              refine wpAnyH_take (i := 9) (v := ?v6) Held.op9 (by kernel_rfl) (by kernel_rfl) (by kernel_rfl) (fun _ _ _ h => h) (Or.inl ⟨by rfl, ?hy6⟩) (by assumption) ?rest6
              case hy6 => (intro wq hSq; (try dsimp only at hSq); first | (go_simp; done) | (go_simp; with_reducible rfl))
              try simp only [Act.put, List.setIfInBounds_toArray, List.set_cons_zero, List.set_cons_succ]
              refine wpAnyH_take (i := 11) (v := ?v7) Held.op11 (by kernel_rfl) (by kernel_rfl) (by kernel_rfl) (fun _ _ _ h => h) (Or.inl ⟨by rfl, ?hy7⟩) (by assumption) ?rest7
              case hy7 => (intro wq hSq; (try dsimp only at hSq); first | (go_simp; done) | (go_simp; with_reducible rfl))
              try simp only [Act.put, List.setIfInBounds_toArray, List.set_cons_zero, List.set_cons_succ]
              refine wpAnyH_ready (rs := [10, 12]) (by kernel_rfl) (by simp) ?_
              refine AllReadyH.cons Held.op10 (fun K hK => ?_) (AllReadyH.cons Held.op12 (fun K hK => ?_) AllReadyH.nil)
              · go_simp
                refine hK.out _ _ ?_ (fun hHeld => ?_)
                · exact sk3 (HKb7.out.keeps (fill_keeps _ g7 (qs.length * 7) ⟨yb, yi, ys, k1, n1, t1, l1, A2, c2⟩) nn3)
                clear hK K
                try simp only [Act.put, List.setIfInBounds_toArray, List.set_cons_zero, List.set_cons_succ]
                refine wpAnyH_ready (rs := [12]) (by kernel_rfl) (by simp) ?_
                refine AllReadyH.cons Held.op12 (fun K hK => ?_) AllReadyH.nil
                go_simp
                refine hK.out _ _ ?_ (fun hHeld => ?_)
                · exact sk3 ((HKb7.out.keeps (fill_keeps _ g7 (qs.length * 7) ⟨yb, yi, ys, k1, n1, t1, l1, A2, c2⟩) nn3).far nkv _)
                clear hK K
                try simp only [Act.put, List.setIfInBounds_toArray, List.set_cons_zero, List.set_cons_succ]
                refine wpAnyH_done (by kernel_rfl) ?_ _
                exact ⟨rfl, by rw [hpl]; exact HE7.out.1⟩
              · go_simp
                refine hK.out _ _ ?_ (fun hHeld => ?_)
                · exact sk3 (HKb7.out.far nkv _)
                clear hK K
                try simp only [Act.put, List.setIfInBounds_toArray, List.set_cons_zero, List.set_cons_succ]
                refine wpAnyH_ready (rs := [10]) (by kernel_rfl) (by simp) ?_
                refine AllReadyH.cons Held.op10 (fun K hK => ?_) AllReadyH.nil
                go_simp
                refine hK.out _ _ ?_ (fun hHeld => ?_)
                · exact sk3 ((HKb7.out.far nkv _).keeps (fill_keeps _ g7 (qs.length * 7) ⟨yb, yi, ys, k1, n1, t1, l1, A2, c2⟩) nn3)
                clear hK K
                try simp only [Act.put, List.setIfInBounds_toArray, List.set_cons_zero, List.set_cons_succ]
                refine wpAnyH_done (by kernel_rfl) ?_ _
                exact ⟨rfl, by rw [hpl]; exact HE7.out.2⟩
            · go_simp
              refine hK.out _ _ ?_ (fun hHeld => ?_)
              · exact sk3 (HKb.out.drew.alloc _)
              clear hK K
              try simp only [Act.put, List.setIfInBounds_toArray, List.set_cons_zero, List.set_cons_succ]
              refine wpAnyH_ready (rs := [4]) (by kernel_rfl) (by simp) ?_
              refine AllReadyH.cons Held.op4 (fun K hK => ?_) AllReadyH.nil
              go_simp
              go_at_call 64
              refine (HCv.out _ ?_).mono ?_
              · exact drewU ((Below.refl W.heap.size W).alloc (Nat.le_refl _) (.cells #[.bool false, .int .i64 0, .string ⟨#[]⟩, .int .i64 0, .int .i64 0, .string ⟨#[]⟩, .slice none 0 0] 39)) 1
              rintro e w2 ⟨A2, c2, rfl, hy, hk2⟩
              have HY2 := Lib.hid hy
              have HB2 : Hid (Keeps (G m) W w2) := (Keeps.of_below (S := G m) (drewU ((Below.refl W.heap.size W).alloc (Nat.le_refl _) (.cells #[.bool false, .int .i64 0, .string ⟨#[]⟩, .int .i64 0, .int .i64 0, .string ⟨#[]⟩, .slice none 0 0] 39)) 1)).trans hk2
              have HZ2 : Hid (Blk w2 W.heap.size 39 #[.bool false, .int .i64 0, .string ⟨#[]⟩, .int .i64 0, .int .i64 0, .string ⟨#[]⟩, .slice none 0 0]) := (Blk.drew (Blk.new W _ _)).keeps hk2 (fun hg => by have := hGm _ hg; have := HvW.out; omega)
              have HKb2 := Lib.hid (HKb.out.keeps HB2.out hkG)
              have v3b : w2.cell? ⟨w'.heap.size + 1, 3, none⟩ = some (.slice A4 qs.length c4) := (HBv.out.keeps HB2.out hvG).cell 3
              clear hy hk2
              rename World => Wp
              have HP : Hid (Keeps (G m) W Wp ∧ Blk Wp W.heap.size 39 #[.bool false, .int .i64 0, .string ⟨#[]⟩, .int .i64 0, .int .i64 0, .string ⟨#[]⟩, .slice none 0 0] ∧ VIn Wp (fun b => W.heap.size ≤ b ∧ b < Wp.heap.size) (.mk k1 n1 t1 l1) (.agg #[.int .i64 k1, .int .i64 n1, .string t1, .slice A2 l1.length c2])) := ⟨HB2.out, HZ2.out, HY2.out.keep (fun b hS => ⟨by have := hS.1; simp at this; omega, hS.2⟩) fun _ _ => rfl⟩
              have HKbp := HKb2
              try (go_wp2_with fail)
              refine hK.out _ _ ?_ (fun hHeld => ?_)
              · exact sk3 HKbp.out
              clear hK K
              try simp only [Act.put, List.setIfInBounds_toArray, List.set_cons_zero, List.set_cons_succ]
              refine wpAnyH_take (i := 5) (v := ?v8) Held.op5 (by kernel_rfl) (by kernel_rfl) (by kernel_rfl) (fun _ _ _ h => h) (Or.inl ⟨by rfl, ?hy8⟩) (by assumption) ?rest8
              case hy8 => (intro wq hSq; (try dsimp only at hSq); first | (go_simp; done) | (go_simp; with_reducible rfl))
              try simp only [Act.put, List.setIfInBounds_toArray, List.set_cons_zero, List.set_cons_succ]
              refine wpAnyH_ready (rs := [8]) (by kernel_rfl) (by simp) ?_
              refine AllReadyH.cons Held.op8 (fun K hK => ?_) AllReadyH.nil
              refine step_app_item rfl (.tmp 64) (.tmp 70) rfl (w'.heap.size + 1 + 1) (.slice A4 qs.length c4) qs rfl (row_keep HRq.out.owns HP.out.1 HRG.out) ?_ (some ⟨W.heap.size, 0, none⟩) 1 1 [zeroPI] rfl (reads_one (p := zeroPI) HP.out.2.1) ?_ ?_
              · exact Nat.le_trans HvW.out HP.out.1.size
              · have := HQl.out; omega
              intro v7 w7 hown7 hg7 hor7
              obtain ⟨g7, cap7, rfl, hg7a, hg7b⟩ := hown7.form (Nat.succ_pos _)
              have HO7 := Lib.hid (show w7.ownsRow (w'.heap.size + 1 + 1) 39 7 (.slice (some ⟨g7, 0, none⟩) (qs.length + 1) cap7) (qs.length + 1) (rowC qs ++ rowC [zeroPI]) from hown7)
              have HE7 := Lib.hid (roundV_end HFl.out HGF.out Hd.out HCF.out HSm.out HQq.out (x := ((yb, yi, ys), yp, (.mk k1 n1 t1 l1))) (x' := ⟨yb, yi, ys, k1, n1, t1, l1, A2, c2⟩) Hy.out rfl HRq.out HBv.out HKp.out HRs.out HRest.out (Nat.lt_succ_self _) HP.out.1 HP.out.2.2 HO7.out rfl hg7 hor7)
              have HBv7 := Lib.hid ((HBv.out.keeps HP.out.1 hvG).grown hg7 (fun e => by have := (HRq.out.owns.lt _ e.symm).1; omega))
              have HKb7 := Lib.hid (HKbp.out.grown hg7 (row_ne (row_keep HRq.out.owns HP.out.1 HRG.out) HKbp.out (by decide)))
              have z := seven_row HO7.out
              obtain ⟨⟨z0, z1, z2, z3, z4, z5, z6⟩, y0, y1, y2, y3, y4, y5, y6⟩ := z
              have x2 : w7.cell? ⟨w'.heap.size + 1, 3, none⟩ = some (.slice A4 qs.length c4) := HBv7.out.cell 3
              have xf2 := HBv7.out.frozen 3
              have nn1 : w'.heap.size + 1 ≠ g7 := by omega
              have nn2 : g7 ≠ w'.heap.size + 1 := Ne.symm nn1
              have nn3 : kb ≠ g7 := fun e => row_ne HO7.out HKb7.out (by decide) (by rw [e]; rfl)
              clear hown7 hg7 hor7
              refine hK.out _ _ ?_ (fun hHeld => ?_)
              · exact sk3 HKb7.out
              clear hK K
              try simp only [Act.put, List.setIfInBounds_toArray, List.set_cons_zero, List.set_cons_succ]
              refine wpAnyH_take (i := 9) (v := ?v9) Held.op9 (by kernel_rfl) (by kernel_rfl) (by kernel_rfl) (fun _ _ _ h => h) (Or.inl ⟨by rfl, ?hy9⟩) (by assumption) ?rest9
              case hy9 => (intro wq hSq; (try dsimp only at hSq); first | (go_simp; done) | (go_simp; with_reducible rfl))
              try simp only [Act.put, List.setIfInBounds_toArray, List.set_cons_zero, List.set_cons_succ]
              refine wpAnyH_take (i := 11) (v := ?v10) Held.op11 (by kernel_rfl) (by kernel_rfl) (by kernel_rfl) (fun _ _ _ h => h) (Or.inl ⟨by rfl, ?hy10⟩) (by assumption) ?rest10
              case hy10 => (intro wq hSq; (try dsimp only at hSq); first | (go_simp; done) | (go_simp; with_reducible rfl))
              try simp only [Act.put, List.setIfInBounds_toArray, List.set_cons_zero, List.set_cons_succ]
              refine wpAnyH_ready (rs := [10, 12]) (by kernel_rfl) (by simp) ?_
              refine AllReadyH.cons Held.op10 (fun K hK => ?_) (AllReadyH.cons Held.op12 (fun K hK => ?_) AllReadyH.nil)
              · go_simp
                refine hK.out _ _ ?_ (fun hHeld => ?_)
                · exact sk3 (HKb7.out.keeps (fill_keeps _ g7 (qs.length * 7) ⟨yb, yi, ys, k1, n1, t1, l1, A2, c2⟩) nn3)
                clear hK K
                try simp only [Act.put, List.setIfInBounds_toArray, List.set_cons_zero, List.set_cons_succ]
                refine wpAnyH_ready (rs := [12]) (by kernel_rfl) (by simp) ?_
                refine AllReadyH.cons Held.op12 (fun K hK => ?_) AllReadyH.nil
                go_simp
                refine hK.out _ _ ?_ (fun hHeld => ?_)
                · exact sk3 ((HKb7.out.keeps (fill_keeps _ g7 (qs.length * 7) ⟨yb, yi, ys, k1, n1, t1, l1, A2, c2⟩) nn3).far nkv _)
                clear hK K
                try simp only [Act.put, List.setIfInBounds_toArray, List.set_cons_zero, List.set_cons_succ]
                refine wpAnyH_done (by kernel_rfl) ?_ _
                exact ⟨rfl, by rw [hpl]; exact HE7.out.1⟩
              · go_simp
                refine hK.out _ _ ?_ (fun hHeld => ?_)
                · exact sk3 (HKb7.out.far nkv _)
                clear hK K
                try simp only [Act.put, List.setIfInBounds_toArray, List.set_cons_zero, List.set_cons_succ]
                refine wpAnyH_ready (rs := [10]) (by kernel_rfl) (by simp) ?_
                refine AllReadyH.cons Held.op10 (fun K hK => ?_) AllReadyH.nil
                go_simp
                refine hK.out _ _ ?_ (fun hHeld => ?_)
                · exact sk3 ((HKb7.out.far nkv _).keeps (fill_keeps _ g7 (qs.length * 7) ⟨yb, yi, ys, k1, n1, t1, l1, A2, c2⟩) nn3)
                clear hK K
                try simp only [Act.put, List.setIfInBounds_toArray, List.set_cons_zero, List.set_cons_succ]
                refine wpAnyH_done (by kernel_rfl) ?_ _
                exact ⟨rfl, by rw [hpl]; exact HE7.out.2⟩
          · go_simp
            go_at_call 64
            refine (HCv.out _ ?_).mono ?_
            · exact drewU (Below.refl W.heap.size W) 1
            rintro e w2 ⟨A2, c2, rfl, hy, hk2⟩
            have HY2 := Lib.hid hy
            have HB2 : Hid (Keeps (G m) W w2) := (Keeps.of_below (S := G m) (drewU (Below.refl W.heap.size W) 1)).trans hk2
            have HKb2 := Lib.hid (HKb.out.keeps HB2.out hkG)
            have v3b : w2.cell? ⟨w'.heap.size + 1, 3, none⟩ = some (.slice A4 qs.length c4) := (HBv.out.keeps HB2.out hvG).cell 3
            clear hy hk2
            try (go_wp2_with fail)
            refine hK.out _ _ ?_ (fun hHeld => ?_)
            · exact sk3 HKb2.out
            clear hK K
            try simp only [Act.put, List.setIfInBounds_toArray, List.set_cons_zero, List.set_cons_succ]
            refine wpAnyH_take (i := 5) (v := ?v11) Held.op5 (by kernel_rfl) (by kernel_rfl) (by kernel_rfl) (fun _ _ _ h => h) (Or.inl ⟨by rfl, ?hy11⟩) (by assumption) ?rest11
            case hy11 => (intro wq hSq; (try dsimp only at hSq); first | (go_simp; done) | (go_simp; with_reducible rfl))
            try simp only [Act.put, List.setIfInBounds_toArray, List.set_cons_zero, List.set_cons_succ]
            refine wpAnyH_ready (rs := [1, 7]) (by kernel_rfl) (by simp) ?_
            refine AllReadyH.cons Held.op1 (fun K hK => ?_) (AllReadyH.cons Held.op7 (fun K hK => ?_) AllReadyH.nil)
            · go_simp
              refine hK.out _ _ ?_ (fun hHeld => ?_)
              · exact sk3 HKb2.out
              clear hK K
              try simp only [Act.put, List.setIfInBounds_toArray, List.set_cons_zero, List.set_cons_succ]
              refine wpAnyH_take (i := 6) (v := ?v12) Held.op6 (by kernel_rfl) (by kernel_rfl) (by kernel_rfl) (fun _ _ _ h => h) (Or.inl ⟨by rfl, ?hy12⟩) (by assumption) ?rest12
              case hy12 => (intro wq hSq; (try dsimp only at hSq); first | (go_simp; done) | (go_simp; with_reducible rfl))
              try simp only [Act.put, List.setIfInBounds_toArray, List.set_cons_zero, List.set_cons_succ]
              refine wpAnyH_ready (rs := [7]) (by kernel_rfl) (by simp) ?_
              refine AllReadyH.cons Held.op7 (fun K hK => ?_) AllReadyH.nil
              have HP : Hid (Keeps (G m) W (w2.alloc (.cells #[.bool false, .int .i64 0, .string ⟨#[]⟩, .int .i64 0, .int .i64 0, .string ⟨#[]⟩, .slice none 0 0] 39)) ∧ Blk (w2.alloc (.cells #[.bool false, .int .i64 0, .string ⟨#[]⟩, .int .i64 0, .int .i64 0, .string ⟨#[]⟩, .slice none 0 0] 39)) w2.heap.size 39 #[.bool false, .int .i64 0, .string ⟨#[]⟩, .int .i64 0, .int .i64 0, .string ⟨#[]⟩, .slice none 0 0] ∧ VIn (w2.alloc (.cells #[.bool false, .int .i64 0, .string ⟨#[]⟩, .int .i64 0, .int .i64 0, .string ⟨#[]⟩, .slice none 0 0] 39)) (fun b => W.heap.size ≤ b ∧ b < (w2.alloc (.cells #[.bool false, .int .i64 0, .string ⟨#[]⟩, .int .i64 0, .int .i64 0, .string ⟨#[]⟩, .slice none 0 0] 39)).heap.size) (.mk k1 n1 t1 l1) (.agg #[.int .i64 k1, .int .i64 n1, .string t1, .slice A2 l1.length c2])) := ⟨HB2.out.trans (Keeps.of_below ((Below.refl w2.heap.size w2).alloc (Nat.le_refl _) _)), Blk.new w2 _ _, HY2.out.keep (fun b hS => ⟨hS.1, by have := hS.2; simp; omega⟩) fun q hq => World.cell?_alloc_lt w2 _ q hq.2⟩
              have HKbp := Lib.hid (HKb2.out.alloc (.cells #[.bool false, .int .i64 0, .string ⟨#[]⟩, .int .i64 0, .int .i64 0, .string ⟨#[]⟩, .slice none 0 0] 39))
              have v3p : (w2.alloc (.cells #[.bool false, .int .i64 0, .string ⟨#[]⟩, .int .i64 0, .int .i64 0, .string ⟨#[]⟩, .slice none 0 0] 39)).cell? ⟨w'.heap.size + 1, 3, none⟩ = some (.slice A4 qs.length c4) := ((HBv.out.keeps HB2.out hvG).alloc _).cell 3
              go_simp
              generalize w2.alloc (.cells #[.bool false, .int .i64 0, .string ⟨#[]⟩, .int .i64 0, .int .i64 0, .string ⟨#[]⟩, .slice none 0 0] 39) = Wp at *
              refine hK.out _ _ ?_ (fun hHeld => ?_)
              · exact sk3 HKbp.out
              clear hK K
              try simp only [Act.put, List.setIfInBounds_toArray, List.set_cons_zero, List.set_cons_succ]
              refine wpAnyH_ready (rs := [8]) (by kernel_rfl) (by simp) ?_
              refine AllReadyH.cons Held.op8 (fun K hK => ?_) AllReadyH.nil
              refine step_app_item rfl (.tmp 64) (.tmp 70) rfl (w'.heap.size + 1 + 1) (.slice A4 qs.length c4) qs rfl (row_keep HRq.out.owns HP.out.1 HRG.out) ?_ (some ⟨w2.heap.size, 0, none⟩) 1 1 [zeroPI] rfl (reads_one (p := zeroPI) HP.out.2.1) ?_ ?_
              · exact Nat.le_trans HvW.out HP.out.1.size
              · have := HQl.out; omega
              intro v7 w7 hown7 hg7 hor7
              obtain ⟨g7, cap7, rfl, hg7a, hg7b⟩ := hown7.form (Nat.succ_pos _)
              have HO7 := Lib.hid (show w7.ownsRow (w'.heap.size + 1 + 1) 39 7 (.slice (some ⟨g7, 0, none⟩) (qs.length + 1) cap7) (qs.length + 1) (rowC qs ++ rowC [zeroPI]) from hown7)
              have HE7 := Lib.hid (roundV_end HFl.out HGF.out Hd.out HCF.out HSm.out HQq.out (x := ((yb, yi, ys), yp, (.mk k1 n1 t1 l1))) (x' := ⟨yb, yi, ys, k1, n1, t1, l1, A2, c2⟩) Hy.out rfl HRq.out HBv.out HKp.out HRs.out HRest.out (Nat.lt_succ_self _) HP.out.1 HP.out.2.2 HO7.out rfl hg7 hor7)
              have HBv7 := Lib.hid ((HBv.out.keeps HP.out.1 hvG).grown hg7 (fun e => by have := (HRq.out.owns.lt _ e.symm).1; omega))
              have HKb7 := Lib.hid (HKbp.out.grown hg7 (row_ne (row_keep HRq.out.owns HP.out.1 HRG.out) HKbp.out (by decide)))
              have z := seven_row HO7.out
              obtain ⟨⟨z0, z1, z2, z3, z4, z5, z6⟩, y0, y1, y2, y3, y4, y5, y6⟩ := z
              have x2 : w7.cell? ⟨w'.heap.size + 1, 3, none⟩ = some (.slice A4 qs.length c4) := HBv7.out.cell 3
              have xf2 := HBv7.out.frozen 3
              have nn1 : w'.heap.size + 1 ≠ g7 := by omega
              have nn2 : g7 ≠ w'.heap.size + 1 := Ne.symm nn1
              have nn3 : kb ≠ g7 := fun e => row_ne HO7.out HKb7.out (by decide) (by rw [e]; rfl)
              clear hown7 hg7 hor7
              refine hK.out _ _ ?_ (fun hHeld => ?_)
              · exact sk3 HKb7.out
              clear hK K
              try simp only [Act.put, List.setIfInBounds_toArray, List.set_cons_zero, List.set_cons_succ]
              refine wpAnyH_take (i := 9) (v := ?v13) Held.op9 (by kernel_rfl) (by kernel_rfl) (by kernel_rfl) (fun _ _ _ h => h) (Or.inl ⟨by rfl, ?hy13⟩) (by assumption) ?rest13
              case hy13 => (intro wq hSq; (try dsimp only at hSq); first | (go_simp; done) | (go_simp; with_reducible rfl))
              try simp only [Act.put, List.setIfInBounds_toArray, List.set_cons_zero, List.set_cons_succ]
              refine wpAnyH_take (i := 11) (v := ?v14) Held.op11 (by kernel_rfl) (by kernel_rfl) (by kernel_rfl) (fun _ _ _ h => h) (Or.inl ⟨by rfl, ?hy14⟩) (by assumption) ?rest14
              case hy14 => (intro wq hSq; (try dsimp only at hSq); first | (go_simp; done) | (go_simp; with_reducible rfl))
              try simp only [Act.put, List.setIfInBounds_toArray, List.set_cons_zero, List.set_cons_succ]
              refine wpAnyH_ready (rs := [10, 12]) (by kernel_rfl) (by simp) ?_
              refine AllReadyH.cons Held.op10 (fun K hK => ?_) (AllReadyH.cons Held.op12 (fun K hK => ?_) AllReadyH.nil)
              · go_simp
                refine hK.out _ _ ?_ (fun hHeld => ?_)
                · exact sk3 (HKb7.out.keeps (fill_keeps _ g7 (qs.length * 7) ⟨yb, yi, ys, k1, n1, t1, l1, A2, c2⟩) nn3)
                clear hK K
                try simp only [Act.put, List.setIfInBounds_toArray, List.set_cons_zero, List.set_cons_succ]
                refine wpAnyH_ready (rs := [12]) (by kernel_rfl) (by simp) ?_
                refine AllReadyH.cons Held.op12 (fun K hK => ?_) AllReadyH.nil
                go_simp
                refine hK.out _ _ ?_ (fun hHeld => ?_)
                · exact sk3 ((HKb7.out.keeps (fill_keeps _ g7 (qs.length * 7) ⟨yb, yi, ys, k1, n1, t1, l1, A2, c2⟩) nn3).far nkv _)
                clear hK K
                try simp only [Act.put, List.setIfInBounds_toArray, List.set_cons_zero, List.set_cons_succ]
                refine wpAnyH_done (by kernel_rfl) ?_ _
                exact ⟨rfl, by rw [hpl]; exact HE7.out.1⟩
              · go_simp
                refine hK.out _ _ ?_ (fun hHeld => ?_)
                · exact sk3 (HKb7.out.far nkv _)
                clear hK K
                try simp only [Act.put, List.setIfInBounds_toArray, List.set_cons_zero, List.set_cons_succ]
                refine wpAnyH_ready (rs := [10]) (by kernel_rfl) (by simp) ?_
                refine AllReadyH.cons Held.op10 (fun K hK => ?_) AllReadyH.nil
                go_simp
                refine hK.out _ _ ?_ (fun hHeld => ?_)
                · exact sk3 ((HKb7.out.far nkv _).keeps (fill_keeps _ g7 (qs.length * 7) ⟨yb, yi, ys, k1, n1, t1, l1, A2, c2⟩) nn3)
                clear hK K
                try simp only [Act.put, List.setIfInBounds_toArray, List.set_cons_zero, List.set_cons_succ]
                refine wpAnyH_done (by kernel_rfl) ?_ _
                exact ⟨rfl, by rw [hpl]; exact HE7.out.2⟩
            · have HP : Hid (Keeps (G m) W (w2.alloc (.cells #[.bool false, .int .i64 0, .string ⟨#[]⟩, .int .i64 0, .int .i64 0, .string ⟨#[]⟩, .slice none 0 0] 39)) ∧ Blk (w2.alloc (.cells #[.bool false, .int .i64 0, .string ⟨#[]⟩, .int .i64 0, .int .i64 0, .string ⟨#[]⟩, .slice none 0 0] 39)) w2.heap.size 39 #[.bool false, .int .i64 0, .string ⟨#[]⟩, .int .i64 0, .int .i64 0, .string ⟨#[]⟩, .slice none 0 0] ∧ VIn (w2.alloc (.cells #[.bool false, .int .i64 0, .string ⟨#[]⟩, .int .i64 0, .int .i64 0, .string ⟨#[]⟩, .slice none 0 0] 39)) (fun b => W.heap.size ≤ b ∧ b < (w2.alloc (.cells #[.bool false, .int .i64 0, .string ⟨#[]⟩, .int .i64 0, .int .i64 0, .string ⟨#[]⟩, .slice none 0 0] 39)).heap.size) (.mk k1 n1 t1 l1) (.agg #[.int .i64 k1, .int .i64 n1, .string t1, .slice A2 l1.length c2])) := ⟨HB2.out.trans (Keeps.of_below ((Below.refl w2.heap.size w2).alloc (Nat.le_refl _) _)), Blk.new w2 _ _, HY2.out.keep (fun b hS => ⟨hS.1, by have := hS.2; simp; omega⟩) fun q hq => World.cell?_alloc_lt w2 _ q hq.2⟩
              have HKbp := Lib.hid (HKb2.out.alloc (.cells #[.bool false, .int .i64 0, .string ⟨#[]⟩, .int .i64 0, .int .i64 0, .string ⟨#[]⟩, .slice none 0 0] 39))
              have v3p : (w2.alloc (.cells #[.bool false, .int .i64 0, .string ⟨#[]⟩, .int .i64 0, .int .i64 0, .string ⟨#[]⟩, .slice none 0 0] 39)).cell? ⟨w'.heap.size + 1, 3, none⟩ = some (.slice A4 qs.length c4) := ((HBv.out.keeps HB2.out hvG).alloc _).cell 3
              go_simp
              generalize w2.alloc (.cells #[.bool false, .int .i64 0, .string ⟨#[]⟩, .int .i64 0, .int .i64 0, .string ⟨#[]⟩, .slice none 0 0] 39) = Wp at *
              refine hK.out _ _ ?_ (fun hHeld => ?_)
              · exact sk3 HKbp.out
              clear hK K
              try simp only [Act.put, List.setIfInBounds_toArray, List.set_cons_zero, List.set_cons_succ]
              refine wpAnyH_ready (rs := [1]) (by kernel_rfl) (by simp) ?_
              refine AllReadyH.cons Held.op1 (fun K hK => ?_) AllReadyH.nil
              go_simp
              refine hK.out _ _ ?_ (fun hHeld => ?_)
              · exact sk3 HKbp.out
              clear hK K
              try simp only [Act.put, List.setIfInBounds_toArray, List.set_cons_zero, List.set_cons_succ]
              refine wpAnyH_take (i := 6) (v := ?v15) Held.op6 (by kernel_rfl) (by kernel_rfl) (by kernel_rfl) (fun _ _ _ h => h) (Or.inl ⟨by rfl, ?hy15⟩) (by assumption) ?rest15
              case hy15 => (intro wq hSq; (try dsimp only at hSq); first | (go_simp; done) | (go_simp; with_reducible rfl))
              try simp only [Act.put, List.setIfInBounds_toArray, List.set_cons_zero, List.set_cons_succ]
              refine wpAnyH_ready (rs := [8]) (by kernel_rfl) (by simp) ?_
              refine AllReadyH.cons Held.op8 (fun K hK => ?_) AllReadyH.nil
              refine step_app_item rfl (.tmp 64) (.tmp 70) rfl (w'.heap.size + 1 + 1) (.slice A4 qs.length c4) qs rfl (row_keep HRq.out.owns HP.out.1 HRG.out) ?_ (some ⟨w2.heap.size, 0, none⟩) 1 1 [zeroPI] rfl (reads_one (p := zeroPI) HP.out.2.1) ?_ ?_
              · exact Nat.le_trans HvW.out HP.out.1.size
              · have := HQl.out; omega
              intro v7 w7 hown7 hg7 hor7
              obtain ⟨g7, cap7, rfl, hg7a, hg7b⟩ := hown7.form (Nat.succ_pos _)
              have HO7 := Lib.hid (show w7.ownsRow (w'.heap.size + 1 + 1) 39 7 (.slice (some ⟨g7, 0, none⟩) (qs.length + 1) cap7) (qs.length + 1) (rowC qs ++ rowC [zeroPI]) from hown7)
              have HE7 := Lib.hid (roundV_end HFl.out HGF.out Hd.out HCF.out HSm.out HQq.out (x := ((yb, yi, ys), yp, (.mk k1 n1 t1 l1))) (x' := ⟨yb, yi, ys, k1, n1, t1, l1, A2, c2⟩) Hy.out rfl HRq.out HBv.out HKp.out HRs.out HRest.out (Nat.lt_succ_self _) HP.out.1 HP.out.2.2 HO7.out rfl hg7 hor7)
              have HBv7 := Lib.hid ((HBv.out.keeps HP.out.1 hvG).grown hg7 (fun e => by have := (HRq.out.owns.lt _ e.symm).1; omega))
              have HKb7 := Lib.hid (HKbp.out.grown hg7 (row_ne (row_keep HRq.out.owns HP.out.1 HRG.out) HKbp.out (by decide)))
              have z := seven_row HO7.out
              obtain ⟨⟨z0, z1, z2, z3, z4, z5, z6⟩, y0, y1, y2, y3, y4, y5, y6⟩ := z
              have x2 : w7.cell? ⟨w'.heap.size + 1, 3, none⟩ = some (.slice A4 qs.length c4) := HBv7.out.cell 3
              have xf2 := HBv7.out.frozen 3
              have nn1 : w'.heap.size + 1 ≠ g7 := by omega
              have nn2 : g7 ≠ w'.heap.size + 1 := Ne.symm nn1
              have nn3 : kb ≠ g7 := fun e => row_ne HO7.out HKb7.out (by decide) (by rw [e]; rfl)
              clear hown7 hg7 hor7
              refine hK.out _ _ ?_ (fun hHeld => ?_)
              · exact sk3 HKb7.out
              clear hK K
              try simp only [Act.put, List.setIfInBounds_toArray, List.set_cons_zero, List.set_cons_succ]
              refine wpAnyH_take (i := 9) (v := ?v16) Held.op9 (by kernel_rfl) (by kernel_rfl) (by kernel_rfl) (fun _ _ _ h => h) (Or.inl ⟨by rfl, ?hy16⟩) (by assumption) ?rest16
              case hy16 => (intro wq hSq; (try dsimp only at hSq); first | (go_simp; done) | (go_simp; with_reducible rfl))
              try simp only [Act.put, List.setIfInBounds_toArray, List.set_cons_zero, List.set_cons_succ]
              refine wpAnyH_take (i := 11) (v := ?v17) Held.op11 (by kernel_rfl) (by kernel_rfl) (by kernel_rfl) (fun _ _ _ h => h) (Or.inl ⟨by rfl, ?hy17⟩) (by assumption) ?rest17
              case hy17 => (intro wq hSq; (try dsimp only at hSq); first | (go_simp; done) | (go_simp; with_reducible rfl))
              try simp only [Act.put, List.setIfInBounds_toArray, List.set_cons_zero, List.set_cons_succ]
              refine wpAnyH_ready (rs := [10, 12]) (by kernel_rfl) (by simp) ?_
              refine AllReadyH.cons Held.op10 (fun K hK => ?_) (AllReadyH.cons Held.op12 (fun K hK => ?_) AllReadyH.nil)
              · go_simp
                refine hK.out _ _ ?_ (fun hHeld => ?_)
                · exact sk3 (HKb7.out.keeps (fill_keeps _ g7 (qs.length * 7) ⟨yb, yi, ys, k1, n1, t1, l1, A2, c2⟩) nn3)
                clear hK K
                try simp only [Act.put, List.setIfInBounds_toArray, List.set_cons_zero, List.set_cons_succ]
                refine wpAnyH_ready (rs := [12]) (by kernel_rfl) (by simp) ?_
                refine AllReadyH.cons Held.op12 (fun K hK => ?_) AllReadyH.nil
                go_simp
                refine hK.out _ _ ?_ (fun hHeld => ?_)
                · exact sk3 ((HKb7.out.keeps (fill_keeps _ g7 (qs.length * 7) ⟨yb, yi, ys, k1, n1, t1, l1, A2, c2⟩) nn3).far nkv _)
                clear hK K
                try simp only [Act.put, List.setIfInBounds_toArray, List.set_cons_zero, List.set_cons_succ]
                refine wpAnyH_done (by kernel_rfl) ?_ _
                exact ⟨rfl, by rw [hpl]; exact HE7.out.1⟩
              · go_simp
                refine hK.out _ _ ?_ (fun hHeld => ?_)
                · exact sk3 (HKb7.out.far nkv _)
                clear hK K
                try simp only [Act.put, List.setIfInBounds_toArray, List.set_cons_zero, List.set_cons_succ]
                refine wpAnyH_ready (rs := [10]) (by kernel_rfl) (by simp) ?_
                refine AllReadyH.cons Held.op10 (fun K hK => ?_) AllReadyH.nil
                go_simp
                refine hK.out _ _ ?_ (fun hHeld => ?_)
                · exact sk3 ((HKb7.out.far nkv _).keeps (fill_keeps _ g7 (qs.length * 7) ⟨yb, yi, ys, k1, n1, t1, l1, A2, c2⟩) nn3)
                clear hK K
                try simp only [Act.put, List.setIfInBounds_toArray, List.set_cons_zero, List.set_cons_succ]
                refine wpAnyH_done (by kernel_rfl) ?_ _
                exact ⟨rfl, by rw [hpl]; exact HE7.out.2⟩
          · go_simp
            refine hK.out _ _ ?_ (fun hHeld => ?_)
            · exact sk3 (HKb.out.drew.alloc _)
            clear hK K
            try simp only [Act.put, List.setIfInBounds_toArray, List.set_cons_zero, List.set_cons_succ]
            refine wpAnyH_ready (rs := [1, 4]) (by kernel_rfl) (by simp) ?_
            refine AllReadyH.cons Held.op1 (fun K hK => ?_) (AllReadyH.cons Held.op4 (fun K hK => ?_) AllReadyH.nil)
            · go_simp
              refine hK.out _ _ ?_ (fun hHeld => ?_)
              · exact sk3 (HKb.out.drew.alloc _)
              clear hK K
              try simp only [Act.put, List.setIfInBounds_toArray, List.set_cons_zero, List.set_cons_succ]
              refine wpAnyH_take (i := 6) (v := ?v18) Held.op6 (by kernel_rfl) (by kernel_rfl) (by kernel_rfl) (fun _ _ _ h => h) (Or.inl ⟨by rfl, ?hy18⟩) (by assumption) ?rest18
              case hy18 => (intro wq hSq; (try dsimp only at hSq); first | (go_simp; done) | (go_simp; with_reducible rfl))
              try simp only [Act.put, List.setIfInBounds_toArray, List.set_cons_zero, List.set_cons_succ]
              refine wpAnyH_ready (rs := [4]) (by kernel_rfl) (by simp) ?_
              refine AllReadyH.cons Held.op4 (fun K hK => ?_) AllReadyH.nil
              go_simp
              go_at_call 64
              refine (HCv.out _ ?_).mono ?_
              · exact drewU ((Below.refl W.heap.size W).alloc (Nat.le_refl _) (.cells #[.bool false, .int .i64 0, .string ⟨#[]⟩, .int .i64 0, .int .i64 0, .string ⟨#[]⟩, .slice none 0 0] 39)) 1
              rintro e w2 ⟨A2, c2, rfl, hy, hk2⟩
              have HY2 := Lib.hid hy
              have HB2 : Hid (Keeps (G m) W w2) := (Keeps.of_below (S := G m) (drewU ((Below.refl W.heap.size W).alloc (Nat.le_refl _) (.cells #[.bool false, .int .i64 0, .string ⟨#[]⟩, .int .i64 0, .int .i64 0, .string ⟨#[]⟩, .slice none 0 0] 39)) 1)).trans hk2
              have HZ2 : Hid (Blk w2 W.heap.size 39 #[.bool false, .int .i64 0, .string ⟨#[]⟩, .int .i64 0, .int .i64 0, .string ⟨#[]⟩, .slice none 0 0]) := (Blk.drew (Blk.new W _ _)).keeps hk2 (fun hg => by have := hGm _ hg; have := HvW.out; omega)
              have HKb2 := Lib.hid (HKb.out.keeps HB2.out hkG)
              have v3b : w2.cell? ⟨w'.heap.size + 1, 3, none⟩ = some (.slice A4 qs.length c4) := (HBv.out.keeps HB2.out hvG).cell 3
              clear hy hk2
              rename World => Wp
              have HP : Hid (Keeps (G m) W Wp ∧ Blk Wp W.heap.size 39 #[.bool false, .int .i64 0, .string ⟨#[]⟩, .int .i64 0, .int .i64 0, .string ⟨#[]⟩, .slice none 0 0] ∧ VIn Wp (fun b => W.heap.size ≤ b ∧ b < Wp.heap.size) (.mk k1 n1 t1 l1) (.agg #[.int .i64 k1, .int .i64 n1, .string t1, .slice A2 l1.length c2])) := ⟨HB2.out, HZ2.out, HY2.out.keep (fun b hS => ⟨by have := hS.1; simp at this; omega, hS.2⟩) fun _ _ => rfl⟩
              have HKbp := HKb2
              try (go_wp2_with fail)
              refine hK.out _ _ ?_ (fun hHeld => ?_)
              · exact sk3 HKbp.out
              clear hK K
              try simp only [Act.put, List.setIfInBounds_toArray, List.set_cons_zero, List.set_cons_succ]
              refine wpAnyH_take (i := 5) (v := ?v19) Held.op5 (by kernel_rfl) (by kernel_rfl) (by kernel_rfl) (fun _ _ _ h => h) (Or.inl ⟨by rfl, ?hy19⟩) (by assumption) ?rest19
              case hy19 => (intro wq hSq; (try dsimp only at hSq); first | (go_simp; done) | (go_simp; with_reducible rfl))
              try simp only [Act.put, List.setIfInBounds_toArray, List.set_cons_zero, List.set_cons_succ]
              refine wpAnyH_ready (rs := [8]) (by kernel_rfl) (by simp) ?_
              refine AllReadyH.cons Held.op8 (fun K hK => ?_) AllReadyH.nil
              refine step_app_item rfl (.tmp 64) (.tmp 70) rfl (w'.heap.size + 1 + 1) (.slice A4 qs.length c4) qs rfl (row_keep HRq.out.owns HP.out.1 HRG.out) ?_ (some ⟨W.heap.size, 0, none⟩) 1 1 [zeroPI] rfl (reads_one (p := zeroPI) HP.out.2.1) ?_ ?_
              · exact Nat.le_trans HvW.out HP.out.1.size
              · have := HQl.out; omega
              intro v7 w7 hown7 hg7 hor7
              obtain ⟨g7, cap7, rfl, hg7a, hg7b⟩ := hown7.form (Nat.succ_pos _)
              have HO7 := Lib.hid (show w7.ownsRow (w'.heap.size + 1 + 1) 39 7 (.slice (some ⟨g7, 0, none⟩) (qs.length + 1) cap7) (qs.length + 1) (rowC qs ++ rowC [zeroPI]) from hown7)
              have HE7 := Lib.hid (roundV_end HFl.out HGF.out Hd.out HCF.out HSm.out HQq.out (x := ((yb, yi, ys), yp, (.mk k1 n1 t1 l1))) (x' := ⟨yb, yi, ys, k1, n1, t1, l1, A2, c2⟩) Hy.out rfl HRq.out HBv.out HKp.out HRs.out HRest.out (Nat.lt_succ_self _) HP.out.1 HP.out.2.2 HO7.out rfl hg7 hor7)
              have HBv7 := Lib.hid ((HBv.out.keeps HP.out.1 hvG).grown hg7 (fun e => by have := (HRq.out.owns.lt _ e.symm).1; omega))
              have HKb7 := Lib.hid (HKbp.out.grown hg7 (row_ne (row_keep HRq.out.owns HP.out.1 HRG.out) HKbp.out (by decide)))
              have z := seven_row HO7.out
              obtain ⟨⟨z0, z1, z2, z3, z4, z5, z6⟩, y0, y1, y2, y3, y4, y5, y6⟩ := z
              have x2 : w7.cell? ⟨w'.heap.size + 1, 3, none⟩ = some (.slice A4 qs.length c4) := HBv7.out.cell 3
              have xf2 := HBv7.out.frozen 3
              have nn1 : w'.heap.size + 1 ≠ g7 := by omega
              have nn2 : g7 ≠ w'.heap.size + 1 := Ne.symm nn1
              have nn3 : kb ≠ g7 := fun e => row_ne HO7.out HKb7.out (by decide) (by rw [e]; rfl)
              clear hown7 hg7 hor7
              refine hK.out _ _ ?_ (fun hHeld => ?_)
              · exact sk3 HKb7.out
              clear hK K
              try simp only [Act.put, List.setIfInBounds_toArray, List.set_cons_zero, List.set_cons_succ]
              refine wpAnyH_take (i := 9) (v := ?v20) Held.op9 (by kernel_rfl) (by kernel_rfl) (by kernel_rfl) (fun _ _ _ h => h) (Or.inl ⟨by rfl, ?hy20⟩) (by assumption) ?rest20
              case hy20 => (intro wq hSq; (try dsimp only at hSq); first | (go_simp; done) | (go_simp; with_reducible rfl))
              try simp only [Act.put, List.setIfInBounds_toArray, List.set_cons_zero, List.set_cons_succ]
              refine wpAnyH_take (i := 11) (v := ?v21) Held.op11 (by kernel_rfl) (by kernel_rfl) (by kernel_rfl) (fun _ _ _ h => h) (Or.inl ⟨by rfl, ?hy21⟩) (by assumption) ?rest21
              case hy21 => (intro wq hSq; (try dsimp only at hSq); first | (go_simp; done) | (go_simp; with_reducible rfl))
              try simp only [Act.put, List.setIfInBounds_toArray, List.set_cons_zero, List.set_cons_succ]
              refine wpAnyH_ready (rs := [10, 12]) (by kernel_rfl) (by simp) ?_
              refine AllReadyH.cons Held.op10 (fun K hK => ?_) (AllReadyH.cons Held.op12 (fun K hK => ?_) AllReadyH.nil)
              · go_simp
                refine hK.out _ _ ?_ (fun hHeld => ?_)
                · exact sk3 (HKb7.out.keeps (fill_keeps _ g7 (qs.length * 7) ⟨yb, yi, ys, k1, n1, t1, l1, A2, c2⟩) nn3)
                clear hK K
                try simp only [Act.put, List.setIfInBounds_toArray, List.set_cons_zero, List.set_cons_succ]
                refine wpAnyH_ready (rs := [12]) (by kernel_rfl) (by simp) ?_
                refine AllReadyH.cons Held.op12 (fun K hK => ?_) AllReadyH.nil
                go_simp
                refine hK.out _ _ ?_ (fun hHeld => ?_)
                · exact sk3 ((HKb7.out.keeps (fill_keeps _ g7 (qs.length * 7) ⟨yb, yi, ys, k1, n1, t1, l1, A2, c2⟩) nn3).far nkv _)
                clear hK K
                try simp only [Act.put, List.setIfInBounds_toArray, List.set_cons_zero, List.set_cons_succ]
                refine wpAnyH_done (by kernel_rfl) ?_ _
                exact ⟨rfl, by rw [hpl]; exact HE7.out.1⟩
              · go_simp
                refine hK.out _ _ ?_ (fun hHeld => ?_)
                · exact sk3 (HKb7.out.far nkv _)
                clear hK K
                try simp only [Act.put, List.setIfInBounds_toArray, List.set_cons_zero, List.set_cons_succ]
                refine wpAnyH_ready (rs := [10]) (by kernel_rfl) (by simp) ?_
                refine AllReadyH.cons Held.op10 (fun K hK => ?_) AllReadyH.nil
                go_simp
                refine hK.out _ _ ?_ (fun hHeld => ?_)
                · exact sk3 ((HKb7.out.far nkv _).keeps (fill_keeps _ g7 (qs.length * 7) ⟨yb, yi, ys, k1, n1, t1, l1, A2, c2⟩) nn3)
                clear hK K
                try simp only [Act.put, List.setIfInBounds_toArray, List.set_cons_zero, List.set_cons_succ]
                refine wpAnyH_done (by kernel_rfl) ?_ _
                exact ⟨rfl, by rw [hpl]; exact HE7.out.2⟩
            · go_simp
              go_at_call 64
              refine (HCv.out _ ?_).mono ?_
              · exact drewU ((Below.refl W.heap.size W).alloc (Nat.le_refl _) (.cells #[.bool false, .int .i64 0, .string ⟨#[]⟩, .int .i64 0, .int .i64 0, .string ⟨#[]⟩, .slice none 0 0] 39)) 1
              rintro e w2 ⟨A2, c2, rfl, hy, hk2⟩
              have HY2 := Lib.hid hy
              have HB2 : Hid (Keeps (G m) W w2) := (Keeps.of_below (S := G m) (drewU ((Below.refl W.heap.size W).alloc (Nat.le_refl _) (.cells #[.bool false, .int .i64 0, .string ⟨#[]⟩, .int .i64 0, .int .i64 0, .string ⟨#[]⟩, .slice none 0 0] 39)) 1)).trans hk2
              have HZ2 : Hid (Blk w2 W.heap.size 39 #[.bool false, .int .i64 0, .string ⟨#[]⟩, .int .i64 0, .int .i64 0, .string ⟨#[]⟩, .slice none 0 0]) := (Blk.drew (Blk.new W _ _)).keeps hk2 (fun hg => by have := hGm _ hg; have := HvW.out; omega)
              have HKb2 := Lib.hid (HKb.out.keeps HB2.out hkG)
              have v3b : w2.cell? ⟨w'.heap.size + 1, 3, none⟩ = some (.slice A4 qs.length c4) := (HBv.out.keeps HB2.out hvG).cell 3
              clear hy hk2
              rename World => Wp
              have HP : Hid (Keeps (G m) W Wp ∧ Blk Wp W.heap.size 39 #[.bool false, .int .i64 0, .string ⟨#[]⟩, .int .i64 0, .int .i64 0, .string ⟨#[]⟩, .slice none 0 0] ∧ VIn Wp (fun b => W.heap.size ≤ b ∧ b < Wp.heap.size) (.mk k1 n1 t1 l1) (.agg #[.int .i64 k1, .int .i64 n1, .string t1, .slice A2 l1.length c2])) := ⟨HB2.out, HZ2.out, HY2.out.keep (fun b hS => ⟨by have := hS.1; simp at this; omega, hS.2⟩) fun _ _ => rfl⟩
              have HKbp := HKb2
              try (go_wp2_with fail)
              refine hK.out _ _ ?_ (fun hHeld => ?_)
              · exact sk3 HKbp.out
              clear hK K
              try simp only [Act.put, List.setIfInBounds_toArray, List.set_cons_zero, List.set_cons_succ]
              refine wpAnyH_take (i := 5) (v := ?v22) Held.op5 (by kernel_rfl) (by kernel_rfl) (by kernel_rfl) (fun _ _ _ h => h) (Or.inl ⟨by rfl, ?hy22⟩) (by assumption) ?rest22
              case hy22 => (intro wq hSq; (try dsimp only at hSq); first | (go_simp; done) | (go_simp; with_reducible rfl))
              try simp only [Act.put, List.setIfInBounds_toArray, List.set_cons_zero, List.set_cons_succ]
              refine wpAnyH_ready (rs := [1]) (by kernel_rfl) (by simp) ?_
              refine AllReadyH.cons Held.op1 (fun K hK => ?_) AllReadyH.nil
              go_simp
              refine hK.out _ _ ?_ (fun hHeld => ?_)
              · exact sk3 HKbp.out
              clear hK K
              try simp only [Act.put, List.setIfInBounds_toArray, List.set_cons_zero, List.set_cons_succ]
              refine wpAnyH_take (i := 6) (v := ?v23) Held.op6 (by kernel_rfl) (by kernel_rfl) (by kernel_rfl) (fun _ _ _ h => h) (Or.inl ⟨by rfl, ?hy23⟩) (by assumption) ?rest23
              case hy23 => (intro wq hSq; (try dsimp only at hSq); first | (go_simp; done) | (go_simp; with_reducible rfl))
              try simp only [Act.put, List.setIfInBounds_toArray, List.set_cons_zero, List.set_cons_succ]
              refine wpAnyH_ready (rs := [8]) (by kernel_rfl) (by simp) ?_
              refine AllReadyH.cons Held.op8 (fun K hK => ?_) AllReadyH.nil
              refine step_app_item rfl (.tmp 64) (.tmp 70) rfl (w'.heap.size + 1 + 1) (.slice A4 qs.length c4) qs rfl (row_keep HRq.out.owns HP.out.1 HRG.out) ?_ (some ⟨W.heap.size, 0, none⟩) 1 1 [zeroPI] rfl (reads_one (p := zeroPI) HP.out.2.1) ?_ ?_
              · exact Nat.le_trans HvW.out HP.out.1.size
              · have := HQl.out; omega
              intro v7 w7 hown7 hg7 hor7
              obtain ⟨g7, cap7, rfl, hg7a, hg7b⟩ := hown7.form (Nat.succ_pos _)
              have HO7 := Lib.hid (show w7.ownsRow (w'.heap.size + 1 + 1) 39 7 (.slice (some ⟨g7, 0, none⟩) (qs.length + 1) cap7) (qs.length + 1) (rowC qs ++ rowC [zeroPI]) from hown7)
              have HE7 := Lib.hid (roundV_end HFl.out HGF.out Hd.out HCF.out HSm.out HQq.out (x := ((yb, yi, ys), yp, (.mk k1 n1 t1 l1))) (x' := ⟨yb, yi, ys, k1, n1, t1, l1, A2, c2⟩) Hy.out rfl HRq.out HBv.out HKp.out HRs.out HRest.out (Nat.lt_succ_self _) HP.out.1 HP.out.2.2 HO7.out rfl hg7 hor7)
              have HBv7 := Lib.hid ((HBv.out.keeps HP.out.1 hvG).grown hg7 (fun e => by have := (HRq.out.owns.lt _ e.symm).1; omega))
              have HKb7 := Lib.hid (HKbp.out.grown hg7 (row_ne (row_keep HRq.out.owns HP.out.1 HRG.out) HKbp.out (by decide)))
              have z := seven_row HO7.out
              obtain ⟨⟨z0, z1, z2, z3, z4, z5, z6⟩, y0, y1, y2, y3, y4, y5, y6⟩ := z
              have x2 : w7.cell? ⟨w'.heap.size + 1, 3, none⟩ = some (.slice A4 qs.length c4) := HBv7.out.cell 3
              have xf2 := HBv7.out.frozen 3
              have nn1 : w'.heap.size + 1 ≠ g7 := by omega
              have nn2 : g7 ≠ w'.heap.size + 1 := Ne.symm nn1
              have nn3 : kb ≠ g7 := fun e => row_ne HO7.out HKb7.out (by decide) (by rw [e]; rfl)
              clear hown7 hg7 hor7
              refine hK.out _ _ ?_ (fun hHeld => ?_)
              · exact sk3 HKb7.out
              clear hK K
              try simp only [Act.put, List.setIfInBounds_toArray, List.set_cons_zero, List.set_cons_succ]
              refine wpAnyH_take (i := 9) (v := ?v24) Held.op9 (by kernel_rfl) (by kernel_rfl) (by kernel_rfl) (fun _ _ _ h => h) (Or.inl ⟨by rfl, ?hy24⟩) (by assumption) ?rest24
              case hy24 => (intro wq hSq; (try dsimp only at hSq); first | (go_simp; done) | (go_simp; with_reducible rfl))
              try simp only [Act.put, List.setIfInBounds_toArray, List.set_cons_zero, List.set_cons_succ]
              refine wpAnyH_take (i := 11) (v := ?v25) Held.op11 (by kernel_rfl) (by kernel_rfl) (by kernel_rfl) (fun _ _ _ h => h) (Or.inl ⟨by rfl, ?hy25⟩) (by assumption) ?rest25
              case hy25 => (intro wq hSq; (try dsimp only at hSq); first | (go_simp; done) | (go_simp; with_reducible rfl))
              try simp only [Act.put, List.setIfInBounds_toArray, List.set_cons_zero, List.set_cons_succ]
              refine wpAnyH_ready (rs := [10, 12]) (by kernel_rfl) (by simp) ?_
              refine AllReadyH.cons Held.op10 (fun K hK => ?_) (AllReadyH.cons Held.op12 (fun K hK => ?_) AllReadyH.nil)
              · go_simp
                refine hK.out _ _ ?_ (fun hHeld => ?_)
                · exact sk3 (HKb7.out.keeps (fill_keeps _ g7 (qs.length * 7) ⟨yb, yi, ys, k1, n1, t1, l1, A2, c2⟩) nn3)
                clear hK K
                try simp only [Act.put, List.setIfInBounds_toArray, List.set_cons_zero, List.set_cons_succ]
                refine wpAnyH_ready (rs := [12]) (by kernel_rfl) (by simp) ?_
                refine AllReadyH.cons Held.op12 (fun K hK => ?_) AllReadyH.nil
                go_simp
                refine hK.out _ _ ?_ (fun hHeld => ?_)
                · exact sk3 ((HKb7.out.keeps (fill_keeps _ g7 (qs.length * 7) ⟨yb, yi, ys, k1, n1, t1, l1, A2, c2⟩) nn3).far nkv _)
                clear hK K
                try simp only [Act.put, List.setIfInBounds_toArray, List.set_cons_zero, List.set_cons_succ]
                refine wpAnyH_done (by kernel_rfl) ?_ _
                exact ⟨rfl, by rw [hpl]; exact HE7.out.1⟩
              · go_simp
                refine hK.out _ _ ?_ (fun hHeld => ?_)
                · exact sk3 (HKb7.out.far nkv _)
                clear hK K
                try simp only [Act.put, List.setIfInBounds_toArray, List.set_cons_zero, List.set_cons_succ]
                refine wpAnyH_ready (rs := [10]) (by kernel_rfl) (by simp) ?_
                refine AllReadyH.cons Held.op10 (fun K hK => ?_) AllReadyH.nil
                go_simp
                refine hK.out _ _ ?_ (fun hHeld => ?_)
                · exact sk3 ((HKb7.out.far nkv _).keeps (fill_keeps _ g7 (qs.length * 7) ⟨yb, yi, ys, k1, n1, t1, l1, A2, c2⟩) nn3)
                clear hK K
                try simp only [Act.put, List.setIfInBounds_toArray, List.set_cons_zero, List.set_cons_succ]
                refine wpAnyH_done (by kernel_rfl) ?_ _
                exact ⟨rfl, by rw [hpl]; exact HE7.out.2⟩
        case done =>
          intro D W hD hM hK
          have hDl := (Array.getElem?_eq_some_iff.1 hK).1
          obtain ⟨⟨sv2, qs, hqq, hrq, hbv⟩, hkp, hres, _⟩ := hM.out
          obtain ⟨A4, c4, rfl⟩ := hrq.form
          have hVin := hrq.vin 4 n ⟨#[]⟩
          rw [hqq] at hVin
          simp only [List.length_map, List.take_length] at hVin
          have y0 : W.cell? ⟨w'.heap.size + 1, 0, none⟩ = some (.int .i64 4) := hbv.cell 0
          have y1 : W.cell? ⟨w'.heap.size + 1, 1, none⟩ = some (.int .i64 n) := hbv.cell 1
          have y2 : W.cell? ⟨w'.heap.size + 1, 2, none⟩ = some (.string ⟨#[]⟩) := hbv.cell 2
          have y3 : W.cell? ⟨w'.heap.size + 1, 3, none⟩ = some (.slice A4 qs.length c4) := hbv.cell 3
          have z0 : W.cell? ⟨w'.heap.size, 0, none⟩ = some (.int .i64 0) := hres.cell 0
          have z1 : W.cell? ⟨w'.heap.size, 1, none⟩ = some (.int .i64 0) := hres.cell 1
          have z2 : W.cell? ⟨w'.heap.size, 2, none⟩ = some (.string ⟨#[]⟩) := hres.cell 2
          have z3 : W.cell? ⟨w'.heap.size, 3, none⟩ = some (.slice none 0 0) := hres.cell 3
          have zf0 := hres.frozen 0
          have zf1 := hres.frozen 1
          have zf2 := hres.frozen 2
          have zf3 := hres.frozen 3
          have HS4 := Lib.hid (store4 hres (.int .i64 4) (.int .i64 n) (.string ⟨#[]⟩) (.slice A4 qs.length c4))
          have HVi := Lib.hid hVin
          have HKp := Lib.hid hkp
          have HDk := Lib.hid hK
          clear hVin hM hres hbv hrq hqq hkp HLw HBx HM0 HIh hK
          go_wp2_with fail
          have hDf := (HS4.out.2.block D hDl (by omega)).trans HDk.out
          have hsf : ((((W.setCell ⟨w'.heap.size, 0, none⟩ (.int .i64 4)).setCell ⟨w'.heap.size, 1, none⟩ (.int .i64 n)).setCell ⟨w'.heap.size, 2, none⟩ (.string ⟨#[]⟩)).setCell ⟨w'.heap.size, 3, none⟩ (.slice A4 qs.length c4)).heap.size = W.heap.size := by simp
          generalize (((W.setCell ⟨w'.heap.size, 0, none⟩ (.int .i64 4)).setCell ⟨w'.heap.size, 1, none⟩ (.int .i64 n)).setCell ⟨w'.heap.size, 2, none⟩ (.string ⟨#[]⟩)).setCell ⟨w'.heap.size, 3, none⟩ (.slice A4 qs.length c4) = wf at *
          have e0 : (wf.putObj D (.deferred none)).cell? ⟨w'.heap.size, 0, none⟩ = some (.int .i64 4) := (cell_put hDf rfl rfl _).trans (HS4.out.1.cell 0)
          have e1 : (wf.putObj D (.deferred none)).cell? ⟨w'.heap.size, 1, none⟩ = some (.int .i64 n) := (cell_put hDf rfl rfl _).trans (HS4.out.1.cell 1)
          have e2 : (wf.putObj D (.deferred none)).cell? ⟨w'.heap.size, 2, none⟩ = some (.string ⟨#[]⟩) := (cell_put hDf rfl rfl _).trans (HS4.out.1.cell 2)
          have e3 : (wf.putObj D (.deferred none)).cell? ⟨w'.heap.size, 3, none⟩ = some (.slice A4 qs.length c4) := (cell_put hDf rfl rfl _).trans (HS4.out.1.cell 3)
          refine ⟨by simp, .inl ⟨_, _, rfl, run_takeDeferred hDf, ?_⟩⟩
          refine ⟨.agg #[.int .i64 4, .int .i64 n, .string ⟨#[]⟩, .slice A4 qs.length c4], by simp [results, Tryz.results64, go_sem, e0, e1, e2, e3], _, rfl, ?_, ?_⟩
          · exact HVi.out.keep (fun j hj => ⟨by omega, by simp; omega⟩) fun q hq => (cell_put hDf rfl rfl q).trans (HS4.out.2.cell hq.2 (fun e => by have := hq.1; omega))
          · exact keeps_new (keeps_new HKp.out HS4.out.2 (fun j e => .inr (Nat.le_of_eq e.symm))) (keeps_put _) (fun j e => .inr (by rw [e]; omega))
end
end Ut
end Go.Proofs.YtgpemnmopogppaaGreatDoor
