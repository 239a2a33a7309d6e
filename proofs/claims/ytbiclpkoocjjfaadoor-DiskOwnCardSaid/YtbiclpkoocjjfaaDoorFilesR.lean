/- The reference's Files: its walk. -/
import Derived.Test.YtbiclpkoocjjfaaDoorFilesX
import Derived.Test.YtbiclpkoocjjfaaDoorDiskT
import Derived.Deep.RegionLaw
import Derived.Deep.RegionHeld3
import Derived.Deep.DeepCutAuto
import Derived.Deep.QuietTactic
import Derived.BigQuiet
namespace Go.Proofs.YtbiclpkoocjjfaaDoor
open Go.RowKit Go.Maps

theorem ins_len (l : List FileV) (x : FileV) : (insF l x).length = l.length + 1 := by
  have := place_le l x.1 l.length
  unfold insF
  rw [List.length_append, List.length_cons, List.length_take, List.length_drop]; omega
theorem rfiles_len (L : List Ent) (acc : List FileV) : (rfilesL L acc).length ≤ acc.length + L.length := by
  induction L generalizing acc with
  | nil => rw [rfilesL]; simp
  | cons e L ih =>
    rw [rfilesL]
    have := ih (if e.stamp = 0 then acc else insF acc (e.path, e.text))
    split at this
    · rename_i h; rw [if_pos h]; simp; omega
    · rename_i h; rw [if_neg h]; rw [ins_len] at this; simp; omega
theorem rfiles_take (L : List Ent) (k : Nat) (h : k < L.length) : rfilesL (L.take (k + 1)) [] = if (L.getD k default).stamp = 0 then rfilesL (L.take k) [] else insF (rfilesL (L.take k) []) ((L.getD k default).path, (L.getD k default).text) := by
  rw [List.take_succ_eq_append_getElem h, rfiles_snoc]
  have e : L.getD k default = L[k] := by simp [List.getD_eq_getElem?_getD, h]
  rw [e]
/-- What is tested: a path is greater than the one at hand. -/
theorem gt_cases (q p : ByteArray) : (cmpB p.data.toList q.data.toList < 0 ∧ Op.bytesLess q.toList p.toList = false ∧ (q.toList == p.toList) = false) ∨ (¬ cmpB p.data.toList q.data.toList < 0 ∧ (Op.bytesLess q.toList p.toList = true ∨ (Op.bytesLess q.toList p.toList = false ∧ (q.toList == p.toList) = true))) := by
  rw [ByteArray.toList_eq, ByteArray.toList_eq, less_cmp]
  by_cases h : cmpB p.data.toList q.data.toList < 0
  · refine .inl ⟨h, decide_eq_false (fun h' => ?_), beq_eq_false_iff_ne.2 (fun e => ?_)⟩
    · rw [cmp_neg] at h'; omega
    · rw [e, cmp_self] at h; omega
  · refine .inr ⟨h, ?_⟩
    by_cases h2 : cmpB q.data.toList p.data.toList < 0
    · exact .inl (decide_eq_true h2)
    · refine .inr ⟨decide_eq_false h2, ?_⟩
      rw [cmp_neg] at h
      have := cmp_eq _ _ (show cmpB q.data.toList p.data.toList = 0 by omega)
      rw [this]; simp

theorem own_keep {w w' : World} {base size n : Nat} {e : TypeId} {v : Value} {xs : List Value} (h : w.ownsRow base e size v n xs) (hb : Below w.heap.size w w') : w'.ownsRow base e size v n xs := by
  obtain ⟨hx, ⟨rfl, rfl⟩ | ⟨g, cap, cur, rfl, hg, hh, r⟩⟩ := h
  · exact ⟨hx, .inl ⟨rfl, rfl⟩⟩
  · exact ⟨hx, .inr ⟨g, cap, cur, rfl, hg, (hb.block g (Array.getElem?_eq_some_iff.1 hh).1).trans hh, r⟩⟩
theorem own_cap2 {w : World} {base n m c : Nat} {e : TypeId} {A : Option Addr} {xs : List Value} (h : w.ownsRow base e 2 (.slice A n c) m xs) : m ≤ c ∧ c ≤ maxLen := by
  obtain ⟨_, ⟨hv, rfl⟩ | ⟨g', cap', cur, hv, hg, hh, hnc, hcm, hcs, htk⟩⟩ := h
  · exact ⟨Nat.zero_le _, by simp only [Value.slice.injEq] at hv; obtain ⟨_, _, rfl⟩ := hv; decide⟩
  · simp only [Value.slice.injEq] at hv
    obtain ⟨_, _, rfl⟩ := hv
    exact ⟨hnc, hcm⟩
theorem Reads.take_ {w : World} {B size n m : Nat} {A : Option Addr} {xs : List Value} (h : Reads w B size A n xs) (hm : m ≤ n) : Reads w B size A m (xs.take (m * size)) :=
  ⟨by rw [List.length_take, h.1]; exact Nat.min_eq_left (Nat.mul_le_mul_right _ hm), fun h0 => by
    obtain ⟨ad, e, hb, hc⟩ := h.2 (by omega)
    refine ⟨ad, e, hb, fun j u hu => hc j u ?_⟩
    rw [List.getElem?_take] at hu
    split at hu
    · exact hu
    · cases hu⟩
theorem below_nil' {w w' : World} (h : w.grownBy w' (Value.slice none 0 0).ownBlock) : Below w.heap.size w w' :=
  (Below.refl _ _).grown h (Nat.le_refl _) (fun k hk => by simp [Value.ownBlock] at hk)
theorem below_nilD {w w' : World} (h : w.drew.grownBy w' (Value.slice none 0 0).ownBlock) : Below w.heap.size w w' :=
  have b := below_nil' h
  ⟨b.os, b.tape, b.output, b.size, b.block⟩
theorem below_nilA {w w' : World} {o : Obj} (h : (w.alloc o).drew.grownBy w' (Value.slice none 0 0).ownBlock) : Below w.heap.size w w' :=
  have b := below_nilD h
  ((Below.refl _ _).alloc (Nat.le_refl _) o).trans (b.mono (by simp))
theorem blk_nilA {w w' : World} {t : TypeId} {cs : Array Value} (h : (w.alloc (.cells cs t)).drew.grownBy w' (Value.slice none 0 0).ownBlock) : Blk w' w.heap.size t cs :=
  (Blk.new w t cs).below (below_nilD h) (by simp)
theorem fcells_take (l : List FileV) (m : Nat) (hm : m ≤ l.length) : (l.take m).flatMap encF = (l.flatMap encF).take (m * 2) := by
  have e : l.flatMap encF = (l.take m).flatMap encF ++ (l.drop m).flatMap encF := by
    rw [← List.flatMap_append, List.take_append_drop]
  have hl : ((l.take m).flatMap encF).length = m * 2 := by rw [fcells_len, List.length_take, Nat.min_eq_left hm]
  rw [e, ← hl, List.take_left]
theorem fcells_drop (l : List FileV) (m : Nat) (hm : m ≤ l.length) : (l.drop m).flatMap encF = (l.flatMap encF).drop (m * 2) := by
  have e : l.flatMap encF = (l.take m).flatMap encF ++ (l.drop m).flatMap encF := by
    rw [← List.flatMap_append, List.take_append_drop]
  have hl : ((l.take m).flatMap encF).length = m * 2 := by rw [fcells_len, List.length_take, Nat.min_eq_left hm]
  rw [e, ← hl, List.drop_left]
theorem reads_blk {w : World} {B g : Nat} {t : TypeId} {x : FileV} (h : Blk w g t #[.string x.1, .string x.2]) (hg : g < B) : Reads w B 2 (some ⟨g, 0, none⟩) 1 (encF x) :=
  ⟨rfl, fun _ => ⟨_, rfl, hg, fun j u hu => by
    have e : (⟨g, 0, none⟩ : Addr).add j = ⟨g, j, none⟩ := by unfold Addr.add; split <;> simp_all
    rw [e, h.cell j, ← hu]
    simp [encF]⟩⟩
theorem row_ge {z : Nat} {v v' : Value} {H : Nat} (hv : ∀ k, v.ownBlock = some k → z ≤ k) (h : v'.ownBlock = v.ownBlock ∨ v'.ownBlock = some H) (hH : z ≤ H) : ∀ k, v'.ownBlock = some k → z ≤ k := fun k hk => by
  rcases h with e | e
  · exact hv k (e ▸ hk)
  · rw [e] at hk; have : H = k := Option.some.inj hk; omega
theorem below_drewN {B : Nat} {a w : World} (h : Below B a w) (n : Nat) : Below B a (w.drewN n) := ⟨h.os, h.tape, h.output, h.size, h.block⟩

def RFilesPost (L : List Ent) (w : World) (e : Ending) (w' : World) : Prop :=
  ∃ v, e = .returned v ∧ w'.ownsRow w.heap.size 53 2 v (rfilesL L []).length ((rfilesL L []).flatMap encF) ∧ Below w.heap.size w w'

set_option maxRecDepth 100000 in
set_option maxHeartbeats 4000000 in
theorem rfiles_any (b base : Nat) (v : Value) (L : List Ent) (W R : Int) (w : World) (h : RefAt w b base v L W R) (hn : L.length ≤ 2199023255552) :
    Calls Tryd.prog 42 #[.pointer (some ⟨b, 0, none⟩)] w (RFilesPost L w) := by
  obtain ⟨i0, hi0, hz0, hz1, hz2⟩ := info_parts file_info
  have HI := Lib.hid (And.intro hi0 (And.intro hz0 (And.intro hz1 hz2))); clear hi0 hz0 hz1 hz2
  have HR := Lib.hid h
  obtain ⟨A, cap, rfl, hcells⟩ := h.shape
  clear h hcells
  have hbl : b < w.heap.size := HR.out.blk.lt
  go_enter Tryd.func42, Tryd.ntmps42
  go_wp2_with fail
  go_loopw [3, 4] (fun x i wr => ∃ k : Nat, k ≤ L.length ∧ i = .int .i64 (k : Nat) ∧ ∃ l, Hid (rfilesL (L.take k) [] = l ∧ wr.ownsRow w.heap.size 53 2 x l.length (l.flatMap encF) ∧ Below w.heap.size w wr)) (fun _ i _ => L.length - (intOf i).toNat)
  case atStart => exact ⟨0, Nat.zero_le _, rfl, [], rfl, World.ownsRow_nil _ _ _ _, Below.refl _ _⟩
  case round =>
    obtain ⟨k, hk, rfl, l, H⟩ := hrel
    have HR1 := Lib.hid (HR.out.below H.out.2.2)
    have hc0 : wr.cell? ⟨b, 0, none⟩ = some (.slice A L.length cap) := HR1.out.blk.cell 0
    by_cases hlt : k < L.length
    · have hltI : (k : Int) < (L.length : Int) := by omega
      obtain ⟨A', cap', hv, hcells⟩ := HR1.out.shape
      simp only [Value.slice.injEq, true_and] at hv
      obtain ⟨rfl, rfl⟩ := hv
      obtain ⟨g, rfl, hbg, q0, q1, q2, _⟩ := hcells k hlt
      have HT := Lib.hid (rfiles_take L k hlt)
      have hll : l.length ≤ k := by
        have := rfiles_len (L.take k) []
        rw [H.out.1, List.length_take] at this
        simp at this; omega
      clear hcells
      generalize L.getD k default = e at *
      obtain ⟨pa, te, st, fl⟩ := e
      simp only at q0 q1 q2 HT
      by_cases hst : st = 0
      · subst hst
        have HN : Hid (rfilesL (L.take (k + 1)) [] = l) := by show _ = _; rw [HT.out, if_pos rfl, H.out.1]
        clear HT
        go_wp2_with fail
        go_roundw
        case rel => exact ⟨k + 1, by omega, by go_num, l, HN.out, H.out.2⟩
        case measure => simp [intOf] <;> omega
      · have hstB : (st == 0) = false := beq_eq_false_iff_ne.2 hst
        have HN : Hid (rfilesL (L.take (k + 1)) [] = insF l (pa, te)) := by show _ = _; rw [HT.out, if_neg hst, H.out.1]
        have HO := Lib.hid H.out.2.1
        obtain ⟨A3, c3, rfl⟩ := own_shape2 H.out.2.1
        clear HT hst
        have HBo := Lib.hid H.out.2.2
        have hgl : g < wr.heap.size := World.block_lt_of_cell? wr _ q0
        have hbl2 : b < wr.heap.size := World.block_lt_of_cell? wr _ hc0
        go_wp2_with fail
        obtain ⟨wo, hwo⟩ : ∃ wo, wo = wr := ⟨_, rfl⟩
        subst hwo
        go_loopw [5] (fun y wx => ∃ j : Nat, j ≤ l.length ∧ y = .int .i64 (j : Nat) ∧ Hid (placeOf l pa l.length = placeOf l pa j ∧ Below wo.heap.size wo wx)) (fun y _ => (intOf y).toNat)
        case atStart => exact ⟨l.length, Nat.le_refl _, rfl, rfl, Below.refl _ _⟩
        case round =>
          obtain ⟨j, hj, rfl, HJ⟩ := hrel
          have d0 : wr.cell? ⟨b, 0, none⟩ = some (.slice (some ⟨g, 0, none⟩) L.length cap) := (HJ.out.2.cell (p := ⟨b, 0, none⟩) hbl2).trans hc0
          have d1 : wr.cell? ⟨g, k * 4, none⟩ = some (.string pa) := (HJ.out.2.cell (p := ⟨g, k * 4, none⟩) hgl).trans q0
          have d2 : wr.cell? ⟨g, k * 4 + 1, none⟩ = some (.string te) := (HJ.out.2.cell (p := ⟨g, k * 4 + 1, none⟩) hgl).trans q1
          have HRd : Hid (Reads wr wr.heap.size 2 A3 l.length (l.flatMap encF)) := (Reads.of_own (own_keep HO.out HJ.out.2))
          obtain ⟨hcap1, hcap2⟩ := own_cap2 HO.out
          unfold maxLen at hcap2
          have hjc : j ≤ c3 := by omega
          have hjcI : (j : Int) ≤ (c3 : Int) := by omega
          rcases Nat.eq_zero_or_pos j with hj0 | hj0
          case' inl =>
            have HP : Hid (placeOf l pa l.length = j) := by show _ = _; rw [HJ.out.1, hj0]; rfl
            have g0 : decide (0 < j) = false := by simp; omega
            clear hj0
            go_wp2_with fail
            go_quiet (fail)
            go_wp2_with fail
          case' inr =>
            obtain ⟨i, rfl⟩ : ∃ i, j = i + 1 := ⟨j - 1, by omega⟩
            have hil : i < l.length := by omega
            have hilI : (i : Int) < (l.length : Int) := by omega
            obtain ⟨g3, c3', hv3, hg3, hl3⟩ := HO.out.form (by omega)
            simp only [Value.slice.injEq] at hv3
            obtain ⟨rfl, _, rfl⟩ := hv3
            have f0 : wr.cell? ⟨g3, i * 2, none⟩ = some (.string l[i].1) := by
              have h1 := HO.out.cells (g := g3) rfl (i * 2 + 0) (.string l[i].1) (by rw [fcells_at l i 0 hil (by omega)]; rfl)
              have e : (⟨g3, 0, none⟩ : Addr).add (i * 2 + 0) = ⟨g3, i * 2, none⟩ := by unfold Addr.add; split <;> simp_all
              rw [e] at h1
              exact (HJ.out.2.cell (p := ⟨g3, i * 2, none⟩) hl3).trans h1
            have HPl : Hid (placeOf l pa (i + 1) = if cmpB pa.data.toList l[i].1.data.toList < 0 then placeOf l pa i else i + 1) := by
              show _ = _; rw [placeOf, getD_at l i hil]
            rcases gt_cases l[i].1 pa with ⟨hc, t1, t2⟩ | ⟨hc, t1 | ⟨t1, t2⟩⟩
            case' inl =>
              have HC : Hid (placeOf l pa l.length = placeOf l pa i) := by show _ = _; rw [HJ.out.1, HPl.out, if_pos hc]
              clear hc HPl
              generalize l[i].1 = q at *
              go_wp2_with fail
              go_quiet (fail)
              go_wp2_with fail
              go_roundw
              case rel => exact ⟨i, by omega, by go_num, HC.out, below_drewN HJ.out.2 _⟩
              case measure => simp [intOf]
            case' inr.inl =>
              have HP : Hid (placeOf l pa l.length = i + 1) := by show _ = _; rw [HJ.out.1, HPl.out, if_neg hc]
              clear hc HPl
              generalize l[i].1 = q at *
              go_wp2_with fail
              go_quiet (fail)
              go_wp2_with fail
              generalize i + 1 = j at *
              generalize (some (⟨g3, 0, none⟩ : Addr)) = A3 at *
            case' inr.inr =>
              have HP : Hid (placeOf l pa l.length = i + 1) := by show _ = _; rw [HJ.out.1, HPl.out, if_neg hc]
              clear hc HPl
              generalize l[i].1 = q at *
              go_wp2_with fail
              go_quiet (fail)
              go_wp2_with fail
              generalize i + 1 = j at *
              generalize (some (⟨g3, 0, none⟩ : Addr)) = A3 at *
          all_goals
            have HB9 : Hid (Below wo.heap.size wo (wr.drewN nq)) := below_drewN HJ.out.2 _
            have HR9 : Hid (Reads (wr.drewN nq) wr.heap.size 2 A3 l.length (l.flatMap encF)) := HRd.out.drewN _
            have e0 : (wr.drewN nq).cell? ⟨b, 0, none⟩ = some (.slice (some ⟨g, 0, none⟩) L.length cap) := d0
            have e1 : (wr.drewN nq).cell? ⟨g, k * 4, none⟩ = some (.string pa) := d1
            have e2 : (wr.drewN nq).cell? ⟨g, k * 4 + 1, none⟩ = some (.string te) := d2
            have hz9 : wo.heap.size ≤ (wr.drewN nq).heap.size := HB9.out.size
            have HR9' : Hid (Reads (wr.drewN nq) (wr.drewN nq).heap.size 2 A3 l.length (l.flatMap encF)) := HR9.out
            generalize wr.drewN nq = w9 at *
            have hgl9 : g < w9.heap.size := by omega
            have hb9 : b < w9.heap.size := by omega
            have hwz : w.heap.size ≤ w9.heap.size := Nat.le_trans HBo.out.size hz9
            have HOne := Lib.hid (fcells_one l)
            have HRt : Hid (Reads w9 w9.heap.size 2 A3 j ((l.flatMap encF).take (j * 2))) := HR9'.out.take_ hj
            have HOt : Hid (∀ u ∈ (l.flatMap encF).take (j * 2), u.oneCell' = true) := fun u hu => HOne.out u (List.take_subset _ _ hu)
            clear d0 d1 d2 HRd HR9 HJ
            have HRd : Hid (Reads w9 w9.heap.size 2 (if c3 = j then A3 else A3.map (·.add (j * 2))) (l.length - j) ((l.flatMap encF).drop (j * 2))) := HR9'.out.cut hj hcap1
            have HOd : Hid (∀ u ∈ (l.flatMap encF).drop (j * 2), u.oneCell' = true) := fun u hu => HOne.out u (List.drop_subset _ _ hu)
            go_region_held3 (fun w' => w'.cell? ⟨b, 0, none⟩ = some (.slice (some ⟨g, 0, none⟩) L.length cap) ∧ w'.cell? ⟨g, k * 4, none⟩ = some (.string pa) ∧ w'.cell? ⟨g, k * 4 + 1, none⟩ = some (.string te))
              (first
                | exact ⟨e0, e1, e2⟩
                | exact ⟨a0, a1, a2⟩
                | exact ⟨b0, b1, b2⟩
                | exact ⟨c0, c1, c2⟩
                | exact ⟨(World.cell?_alloc_lt _ _ _ hb5).trans a0, (World.cell?_alloc_lt _ _ _ hg5l).trans a1, (World.cell?_alloc_lt _ _ _ hg5l).trans a2⟩
                | exact ⟨(World.cell?_alloc_lt w9 _ _ hb9).trans e0, (World.cell?_alloc_lt w9 _ _ hgl9).trans e1, (World.cell?_alloc_lt w9 _ _ hgl9).trans e2⟩)
              (first
                | (refine step_append_any _ rfl (.const (.slice none 0 0)) (.tmp 49) _ rfl w.heap.size 53 i0 _ 2 32 Tryd.underlying40 HI.out.1 HI.out.2.1 HI.out.2.2.1 HI.out.2.2.2 rfl (by decide) (.slice none 0 0) 0 [] rfl (World.ownsRow_nil _ _ _ _) w9.heap.size A3 j c3 ((l.flatMap encF).take (j * 2)) ?_ ?_ ?_ ?_ ?_ ?_ ?_
                   · rfl
                   · first | exact HRt.out | exact HRt.out.alloc (Nat.le_refl _) _
                   · exact HOt.out
                   · unfold maxLen; omega
                   · omega
                   · first | exact hwz | (simp; omega)
                   intro v5 w5 hown5 hgr5 hat5
                   have HT5 : Hid (Below w9.heap.size w9 w5) := by
                     first
                       | exact below_nilD hgr5
                       | exact below_nilA hgr5
                   have HV5 : Hid (∀ k, v5.ownBlock = some k → w9.heap.size ≤ k) := row_ge (v := .slice none 0 0) (fun k hk => by simp [Value.ownBlock] at hk) hat5 (by first | exact Nat.le_refl _ | simp)
                   have HBk : Hid (Blk w5 w9.heap.size 53 #[.string pa, .string te] ∨ True) := by
                     first
                       | exact .inl (blk_nilA hgr5)
                       | exact .inr trivial
                   have hz5 : w9.heap.size ≤ w5.heap.size := HT5.out.size
                   have hb5 : b < w5.heap.size := by omega
                   have hg5l : g < w5.heap.size := by omega
                   have a0 := (HT5.out.cell (p := ⟨b, 0, none⟩) hb9).trans e0
                   have a1 := (HT5.out.cell (p := ⟨g, k * 4, none⟩) hgl9).trans e1
                   have a2 := (HT5.out.cell (p := ⟨g, k * 4 + 1, none⟩) hgl9).trans e2)
                | (refine step_append_any _ rfl (.tmp 50) (.tmp 68) _ rfl w.heap.size 53 i0 _ 2 32 Tryd.underlying40 HI.out.1 HI.out.2.1 HI.out.2.2.1 HI.out.2.2.2 rfl (by decide) v5 (0 + j) ([] ++ (l.flatMap encF).take (j * 2)) rfl (hown5.alloc _) (w5.heap.size + 1) (some ⟨w5.heap.size, 0, none⟩) 1 1 (encF (pa, te)) ?_ ?_ ?_ ?_ ?_ ?_ ?_
                   · rfl
                   · exact reads_blk (Blk.new w5 53 #[.string pa, .string te]) (Nat.lt_succ_self _)
                   · exact encF_one (pa, te)
                   · unfold maxLen; omega
                   · omega
                   · simp; omega
                   intro v6 w6 hown6 hgr6 hat6
                   have HT6 : Hid (Below w9.heap.size w9 w6) := by
                     have h1 := HT5.out.alloc HT5.out.size (.cells #[.string pa, .string te] 53)
                     exact h1.grown hgr6 h1.size HV5.out
                   have HV6 : Hid (∀ k, v6.ownBlock = some k → w9.heap.size ≤ k) := row_ge HV5.out hat6 (by simp; omega)
                   have hz6 : w9.heap.size ≤ w6.heap.size := HT6.out.size
                   have b0 := (HT6.out.cell (p := ⟨b, 0, none⟩) hb9).trans e0
                   have b1 := (HT6.out.cell (p := ⟨g, k * 4, none⟩) hgl9).trans e1
                   have b2 := (HT6.out.cell (p := ⟨g, k * 4 + 1, none⟩) hgl9).trans e2)
                | (refine step_append_any _ rfl (.tmp 50) (.tmp 68) _ rfl w.heap.size 53 i0 _ 2 32 Tryd.underlying40 HI.out.1 HI.out.2.1 HI.out.2.2.1 HI.out.2.2.2 rfl (by decide) v5 (0 + j) ([] ++ (l.flatMap encF).take (j * 2)) rfl hown5 w5.heap.size (some ⟨w9.heap.size, 0, none⟩) 1 1 (encF (pa, te)) ?_ ?_ ?_ ?_ ?_ ?_ ?_
                   · rfl
                   · have hk5 : Blk w5 w9.heap.size 53 #[.string pa, .string te] := by
                       first | exact blk_nilA hgr5
                     exact reads_blk hk5 hk5.lt
                   · exact encF_one (pa, te)
                   · unfold maxLen; omega
                   · omega
                   · omega
                   intro v6 w6 hown6 hgr6 hat6
                   have HT6 : Hid (Below w9.heap.size w9 w6) := HT5.out.grown hgr6 HT5.out.size HV5.out
                   have HV6 : Hid (∀ k, v6.ownBlock = some k → w9.heap.size ≤ k) := row_ge HV5.out hat6 hz5
                   have hz6 : w9.heap.size ≤ w6.heap.size := HT6.out.size
                   have b0 := (HT6.out.cell (p := ⟨b, 0, none⟩) hb9).trans e0
                   have b1 := (HT6.out.cell (p := ⟨g, k * 4, none⟩) hgl9).trans e1
                   have b2 := (HT6.out.cell (p := ⟨g, k * 4 + 1, none⟩) hgl9).trans e2)
                | (refine step_append_any _ rfl (.tmp 69) (.tmp 72) _ rfl w.heap.size 53 i0 _ 2 32 Tryd.underlying40 HI.out.1 HI.out.2.1 HI.out.2.2.1 HI.out.2.2.2 rfl (by decide) v6 (0 + j + 1) ([] ++ (l.flatMap encF).take (j * 2) ++ encF (pa, te)) rfl hown6 w9.heap.size (if c3 = j then A3 else A3.map (·.add (j * 2))) (l.length - j) (c3 - j) ((l.flatMap encF).drop (j * 2)) ?_ ?_ ?_ ?_ ?_ ?_ ?_
                   · rfl
                   · exact HRd.out.below HT6.out
                   · exact HOd.out
                   · unfold maxLen; omega
                   · omega
                   · omega
                   intro v7 w7 hown7 hgr7 hat7
                   have HT7 : Hid (Below w9.heap.size w9 w7) := HT6.out.grown hgr7 HT6.out.size HV6.out
                   have c0 := (HT7.out.cell (p := ⟨b, 0, none⟩) hb9).trans e0
                   have c1 := (HT7.out.cell (p := ⟨g, k * 4, none⟩) hgl9).trans e1
                   have c2 := (HT7.out.cell (p := ⟨g, k * 4 + 1, none⟩) hgl9).trans e2)
                | (trace_state; fail))
            all_goals
              have HFin : Hid (rfilesL (L.take (k + 1)) [] = insF l (pa, te) ∧ w7.ownsRow w.heap.size 53 2 v7 (insF l (pa, te)).length ((insF l (pa, te)).flatMap encF) ∧ Below w.heap.size w w7) := by
                refine ⟨HN.out, ?_, ?_⟩
                · have e1 : (insF l (pa, te)).length = 0 + j + 1 + (l.length - j) := by rw [ins_len]; omega
                  have e2 : (insF l (pa, te)).flatMap encF = [] ++ (l.flatMap encF).take (j * 2) ++ encF (pa, te) ++ (l.flatMap encF).drop (j * 2) := by
                    unfold insF
                    rw [HP.out, List.flatMap_append, List.flatMap_cons, fcells_take l j hj, fcells_drop l j hj, List.nil_append, List.append_assoc]
                  rw [e1, e2]
                  exact hown7
                · have h1 := HBo.out.trans (HB9.out.mono HBo.out.size)
                  exact h1.trans (HT7.out.mono h1.size)
              clear hown7 hgr7 hat7 hown6 hgr6 hat6 hown5 hgr5 hat5
              go_wp2_with fail
              go_roundw
              case rel => exact ⟨k + 1, by omega, by go_num, _, HFin⟩
              case measure => simp [intOf] <;> omega
    · obtain rfl : k = L.length := by omega
      have hd := H.out
      rw [List.take_of_length_le (Nat.le_refl _)] at hd
      obtain ⟨rfl, ho, hb⟩ := hd
      have HF : Hid (RFilesPost L w (.returned _) wr) := ⟨_, rfl, ho, hb⟩
      clear ho hb H HR1 hlt
      go_wp2_with fail
      go_ret
      exact HF.out
end Go.Proofs.YtbiclpkoocjjfaaDoor
