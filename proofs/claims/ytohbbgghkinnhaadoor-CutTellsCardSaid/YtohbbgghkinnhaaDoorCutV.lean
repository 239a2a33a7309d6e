/- CutTells: the walk. -/
import Derived.Test.YtohbbgghkinnhaaDoorCutQ
import Derived.Deep.RegionLaw
import Derived.Deep.RegionHeld3
import Derived.Deep.DeepCutAuto
import Derived.Lib.SmallJoins
namespace Go.Proofs.YtohbbgghkinnhaaDoor
open Go.RowKit

/-- A piece by its parts. -/
structure Pc where
  kind : Int
  text : ByteArray
  at_ : Int
def qc (q : Pc) : List Value := [.int .i64 q.kind, .string q.text, .int .i64 q.at_]
def allQ (s : ByteArray) (p : Pc) : List Pc := p :: (fewL s).map fun x => ⟨x.kind, s.extract x.a x.b, x.a⟩
theorem allQ_cells (s : ByteArray) (p : Pc) : (allQ s p).flatMap qc = qc p ++ (fewL s).flatMap (pcCells s) := by
  unfold allQ
  rw [List.flatMap_cons, List.flatMap_map]
  rfl
theorem allQ_len (s : ByteArray) (p : Pc) : (allQ s p).length = 1 + (fewL s).length := by
  unfold allQ; rw [List.length_cons, List.length_map]; omega
theorem qcells_at : ∀ (l : List Pc) (j r : Nat) (hj : j < l.length), r < 3 → (l.flatMap qc)[j * 3 + r]? = (qc l[j])[r]?
  | q :: l, 0, r, _, hr => by rw [List.flatMap_cons, List.getElem?_append_left (by simp [qc]; omega)]; simp
  | q :: l, j + 1, r, hj, hr => by
    rw [List.flatMap_cons, List.getElem?_append_right (by simp [qc]; omega)]
    have : (j + 1) * 3 + r - (qc q).length = j * 3 + r := by simp [qc]; omega
    rw [this, qcells_at l j r (by simpa using hj) hr]
    rfl
theorem allQ_ok (s : ByteArray) (p : Pc) (hs : s.size ≤ 140737488351232) (hp : p.text.size ≤ 140737488351232) : ∀ q ∈ allQ s p, q.text.size ≤ 140737488351232 := by
  intro q hq
  unfold allQ at hq
  rcases List.mem_cons.1 hq with rfl | h
  · exact hp
  · obtain ⟨x, _, rfl⟩ := List.mem_map.1 h
    show (s.extract x.a x.b).size ≤ _
    rw [ByteArray.size_extract]; omega
theorem own_of_blk {w : World} {g base : Nat} {e : TypeId} {cs : Array Value} (hb : Blk w g e cs) (hg : base ≤ g) (hs : cs.size = 3) : w.ownsRow base e 3 (.slice (some ⟨g, 0, none⟩) 1 1) 1 cs.toList := by
  refine ⟨by simp [hs], .inr ⟨g, 1, cs, rfl, hg, hb, Nat.le_refl _, by decide, by omega, ?_⟩⟩
  rw [List.take_of_length_le (by simp [hs])]
def TellCut (w : World) (qs : List Pc) (x : Value) (wx : World) : Prop :=
  ∃ g cap, x = .slice (some ⟨g, 0, none⟩) (qs.length : Nat) cap ∧ (∀ j u, (qs.flatMap qc)[j]? = some u → wx.cell? ⟨g, j, none⟩ = some u) ∧ Below w.heap.size w wx

/-- A call of a Go function by its contract, as one step of a region that draws. -/
theorem step_call {P : Program} {ops : Array Oper} {o : Oper} {a : Act} {w : World} {K : Act → World → Prop} {Q : Exit → Act → World → Prop} {E : Prop} (hgd : o.guard = none) (f : FuncId) (xs : Array Operand) (ats : Array TypeId)
    (ho : o.op = .call { callee := .value (.func f), args := xs, argTypes := ats }) (args : Array Value) (hargs : #[] ++ xs.map a.eval ++ #[] = args)
    (eg : (callFunc f args).run P w = .ok (.enter f args) w) (R : Value → World → Prop) (hc : Calls P f args w fun e w' => ∃ v, e = .returned v ∧ R v w')
    (h : ∀ v w', R v w' → K (a.put o.dst v) w') : if Region.wanted o (yielded ops a.tmps) = true then Oper.wp P o a w K Q else E := by
  have hw : Region.wanted o (yielded ops a.tmps) = true := by simp [Region.wanted, hgd]
  rw [if_pos hw]
  obtain ⟨dst, op, ty, pos, after, guard⟩ := o
  simp only at ho hgd
  subst ho hgd
  unfold Oper.wp
  rw [execOp_call_go, hargs, eg, Oper.upon_enter]
  exact hc.mono fun e w' ⟨v, he, hR⟩ => by subst he; exact h v w' hR
def FirstV (s : ByteArray) (w : World) (v : Value) (w' : World) : Prop :=
  ∃ A c, v = .slice A ((fewL s).length : Nat) c ∧ Reads w' w'.heap.size 3 A (fewL s).length ((fewL s).flatMap (pcCells s)) ∧ Below w.heap.size w w'
theorem first_v (s : ByteArray) (hml : s.size ≤ maxLen) (w : World) : Calls Tryd.prog 12 #[.string s] w fun e w' => ∃ v, e = .returned v ∧ FirstV s w v w' :=
  (first_any s hml w).mono fun _ _ ⟨A, c, he, hr, hb⟩ => ⟨_, he, A, c, rfl, hr, hb⟩
theorem first_in (args : Array Value) (w : World) : (callFunc 12 args).run Tryd.prog w = .ok (.enter 12 args) w := enters_of Tryd.func12 (by kernel_rfl) rfl args w
theorem few_one (s : ByteArray) : ∀ u ∈ (fewL s).flatMap (pcCells s), u.oneCell' = true := by
  intro u hu
  obtain ⟨p, _, hp⟩ := List.mem_flatMap.1 hu
  simp only [pcCells, List.mem_cons, List.not_mem_nil, or_false] at hp
  rcases hp with rfl | rfl | rfl <;> rfl
theorem blk_new1 (w : World) (o : Obj) (t : TypeId) (cs : Array Value) : Blk ((w.alloc o).alloc (.cells cs t)) (w.heap.size + 1) t cs := by
  have := Blk.new (w.alloc o) t cs
  simpa using this
theorem own_ge {b g0 n c : Nat} (h : b ≤ g0) : ∀ g, (Value.slice (some ⟨g0, 0, none⟩) n c).ownBlock = some g → b ≤ g := fun g hg => by
  have e : g0 = g := Option.some.inj hg
  omega
/-- What the append leaves. -/
theorem tell_cut {s : ByteArray} {q : Pc} {w w1 w2 : World} {v v' : Value} {i : Nat} (hi : i = 1 + (fewL s).length) (hown : w2.ownsRow (w.heap.size + 1) 32 3 v' i (qc q ++ (fewL s).flatMap (pcCells s)))
    (hb : Below w.heap.size w w1) (hg : w1.grownBy w2 v.ownBlock) (hv : ∀ g, v.ownBlock = some g → w.heap.size ≤ g) : TellCut w (allQ s q) v' w2 := by
  subst hi
  obtain ⟨g, cap, rfl, _, hlt⟩ := hown.form (by omega)
  refine ⟨g, cap, by rw [allQ_len], fun j u hu => ?_, hb.grown hg hb.size hv⟩
  have := hown.cells (g := g) rfl j u (by rw [← allQ_cells]; exact hu)
  have e : (⟨g, 0, none⟩ : Addr).add j = ⟨g, j, none⟩ := by unfold Addr.add; split <;> simp_all
  rw [e] at this
  exact this

set_option maxRecDepth 100000 in
set_option maxHeartbeats 4000000 in
theorem tells_any (s : ByteArray) (hs : s.size ≤ 140737488351232) (kd x : Int) (t : ByteArray) (ht : t.size ≤ 140737488351232) (at_ : Int) (m : Int) (w : World) (hL : Lib2 m w) :
    Calls Tryd.prog 7 #[.string s, .agg #[.int .i64 kd, .string t, .int .i64 x], .int .i64 at_] w fun e w' => e = .returned (.bool true) ∧ Below w.heap.size w w' := by
  have HF := Lib.hid (first_v s (by unfold maxLen; omega))
  have HG := Lib.hid (fun w => first_in #[.string s] w)
  obtain ⟨i0, hi0, hz0, hz1, hz2⟩ := info_parts piece_info
  have HI := Lib.hid (And.intro hi0 (And.intro hz0 (And.intro hz1 hz2)))
  have HL := Lib.hid hL
  have hfl := few_le s
  have HO := Lib.hid (few_one s)
  obtain ⟨n, hn⟩ : ∃ n, 1 + (fewL s).length = n := ⟨_, rfl⟩
  have HN := Lib.hid hn
  have hn20 : n ≤ 21 := by omega
  clear hi0 hz0 hz1 hz2 hL
  go_enter Tryd.func7, Tryd.ntmps7
  go_upto_region 1 with (fail)
  go_cut [13, 14, 15] (fun x13 x14 x15 wx => TellCut w (allQ s ⟨kd, t, x⟩) x13 wx ∧ x14 = .int .i64 ((n : Nat) : Int) ∧ x15 = .int .i64 0)
  case first =>
    clear hn
    go_region_law (first
      | (refine step_call rfl 12 _ _ rfl #[.string s] (by simp [Act.eval, Act.put]) (HG.out _) _ (HF.out _) ?_; rintro v w1 ⟨A, c, rfl, hr, hb⟩
         have hbx : Blk w1 w.heap.size 32 #[.int .i64 kd, .string t, .int .i64 x] := by
           first
             | exact ((Blk.new _ _ _).alloc _).drew.below hb (by simp <;> omega)
             | exact (Blk.new _ _ _).drew.below hb (by simp <;> omega)
         have c0 : w1.cell? ⟨w.heap.size, 0, none⟩ = some (.int .i64 kd) := hbx.cell 0
         have c1 : w1.cell? ⟨w.heap.size, 1, none⟩ = some (.string t) := hbx.cell 1
         have c2 : w1.cell? ⟨w.heap.size, 2, none⟩ = some (.int .i64 x) := hbx.cell 2)
      | (refine step_append_any _ rfl (.tmp 10) (.tmp 12) _ rfl (w.heap.size + 1) 32 i0 _ 3 32 Tryd.underlying22 HI.out.1 HI.out.2.1 HI.out.2.2.1 HI.out.2.2.2 rfl (by decide) (.slice (some ⟨w.heap.size + 1, 0, none⟩) 1 1) 1 (qc ⟨kd, t, x⟩) ?_ ?_ w1.heap.size A (fewL s).length c ((fewL s).flatMap (pcCells s)) ?_ ?_ HO.out ?_ ?_ ?_ ?_
         · rfl
         · exact own_of_blk (w := w1) (cs := #[.int .i64 kd, .string t, .int .i64 x]) ((blk_new1 _ _ _ _).drew.below hb (by simp)) (Nat.le_refl _) rfl
         · rfl
         · exact hr
         · unfold maxLen; omega
         · omega
         · have := hb.size; simp at this; omega
         intro v2 w2 hown2 hg2 _
         obtain ⟨g, cap, rfl, _, hlt⟩ := hown2.form (by omega)
         have HT : Hid _ := tell_cut rfl hown2 (w1 := w1) ((((((Below.refl w.heap.size w).alloc (Nat.le_refl _) _).alloc (by simp) _)).drew).trans (hb.mono (by simp; omega))) hg2 (own_ge (Nat.le_succ _)))
      | (refine step_append_any _ rfl (.tmp 10) (.tmp 12) _ rfl (w.heap.size + 1) 32 i0 _ 3 32 Tryd.underlying22 HI.out.1 HI.out.2.1 HI.out.2.2.1 HI.out.2.2.2 rfl (by decide) (.slice (some ⟨w1.heap.size, 0, none⟩) 1 1) 1 (qc ⟨kd, t, x⟩) ?_ ?_ w1.heap.size A (fewL s).length c ((fewL s).flatMap (pcCells s)) ?_ ?_ HO.out ?_ ?_ ?_ ?_
         · rfl
         · exact own_of_blk (cs := #[.int .i64 kd, .string t, .int .i64 x]) (Blk.new _ _ _) (by have := hb.size; simp at this <;> omega) rfl
         · rfl
         · exact hr.alloc (Nat.le_refl _) _
         · unfold maxLen; omega
         · omega
         · have := hb.size; simp at this ⊢ <;> omega
         intro v2 w2 hown2 hg2 _
         obtain ⟨g, cap, rfl, _, hlt⟩ := hown2.form (by omega)
         have HT : Hid _ := tell_cut rfl hown2 (((((Below.refl w.heap.size w).alloc (Nat.le_refl _) _).drew).trans (hb.mono (by simp))).alloc (by have := hb.size; simp at this <;> omega) _) hg2 (own_ge (by have := hb.size; simp at this <;> omega))))
    all_goals
      go_wp2_with fail
      go_meet
      exact ⟨HT.out, by rw [← HN.out]; go_num, rfl⟩
  case rest =>
    obtain ⟨⟨g, cap, rfl, hcells, hb0⟩, rfl, rfl⟩ := hcut
    have HB0 := Lib.hid hb0
    have HQ : Hid (∀ j, j < n → ∃ q : Pc, q.text.size ≤ 140737488351232 ∧ wc.cell? ⟨g, j * 3, none⟩ = some (.int .i64 q.kind) ∧ wc.cell? ⟨g, j * 3 + 1, none⟩ = some (.string q.text) ∧ wc.cell? ⟨g, j * 3 + 2, none⟩ = some (.int .i64 q.at_)) := by
      intro j hj
      have hj' : j < (allQ s ⟨kd, t, x⟩).length := by rw [allQ_len, hn]; exact hj
      refine ⟨(allQ s ⟨kd, t, x⟩)[j], allQ_ok s _ hs ht _ (List.getElem_mem hj'), ?_, ?_, ?_⟩
      · exact hcells _ _ (qcells_at _ j 0 hj' (by omega))
      · exact hcells _ _ (qcells_at _ j 1 hj' (by omega))
      · exact hcells _ _ (qcells_at _ j 2 hj' (by omega))
    have hln : (allQ s ⟨kd, t, x⟩).length = n := by rw [allQ_len, hn]
    rw [hln]
    clear hcells hb0 hln hn HO HN HF HG HI
    go_wp2_with fail
    go_loopw [15] (fun i wx => ∃ j : Nat, j ≤ n ∧ i = .int .i64 (j : Nat) ∧ Hid (Below wc.heap.size wc wx)) (fun i _ => n - (intOf i).toNat)
    case atStart => exact ⟨0, Nat.zero_le _, rfl, Below.refl _ _⟩
    case round =>
      obtain ⟨j, hj, rfl, HB⟩ := hrel
      by_cases hlt : j < n
      · obtain ⟨⟨k1, t1, x1⟩, hq, p0, p1, p2⟩ := HQ.out j hlt
        simp only at hq p0 p1 p2
        have hgl := World.block_lt_of_cell? wc _ p0
        have q0 := (HB.out.cell (p := ⟨g, j * 3, none⟩) hgl).trans p0
        have q1 := (HB.out.cell (p := ⟨g, j * 3 + 1, none⟩) hgl).trans p1
        have q2 := (HB.out.cell (p := ⟨g, j * 3 + 2, none⟩) hgl).trans p2
        clear p0 p1 p2
        have hltI : (j : Int) < ((n : Nat) : Int) := by omega
        have HE := Lib.hid (ended_any s hs k1 x1 t1 hq)
        have HR := Lib.hid (rended_any s hs k1 x1 t1 hq)
        have hblk : Blk (wr.alloc (.cells #[.int .i64 k1, .string t1, .int .i64 x1] 32)) wr.heap.size 32 #[.int .i64 k1, .string t1, .int .i64 x1] := Blk.new _ _ _
        have HB1 : Hid (Below wc.heap.size wc (wr.alloc (.cells #[.int .i64 k1, .string t1, .int .i64 x1] 32))) := HB.out.alloc HB.out.size _
        generalize endedB s.data.toList x1 t1.data.toList = b at HE HR
        go_wp2_with fail
        generalize wr.alloc (.cells #[.int .i64 k1, .string t1, .int .i64 x1] 32) = W at *
        have hlW : wr.heap.size < W.heap.size := hblk.lt
        generalize wr.heap.size = ab at *
        have c0 : W.cell? ⟨ab, 0, none⟩ = some (.int .i64 k1) := hblk.cell 0
        have c1 : W.cell? ⟨ab, 1, none⟩ = some (.string t1) := hblk.cell 1
        have c2 : W.cell? ⟨ab, 2, none⟩ = some (.int .i64 x1) := hblk.cell 2
        clear q0 q1 q2
        go_region_held3 (fun w' => w'.cell? ⟨ab, 0, none⟩ = some (.int .i64 k1) ∧ w'.cell? ⟨ab, 1, none⟩ = some (.string t1) ∧ w'.cell? ⟨ab, 2, none⟩ = some (.int .i64 x1)) (first | exact ⟨c0, c1, c2⟩ | exact ⟨d0, d1, d2⟩ | exact ⟨e0, e1, e2⟩)
          (first
            | (go_at_call 13; refine (HE.out _).mono ?_; rintro e w1 ⟨rfl, hb1⟩; have d0 := (hb1.cell (p := ⟨ab, 0, none⟩) hlW).trans c0; have d1 := (hb1.cell (p := ⟨ab, 1, none⟩) hlW).trans c1; have d2 := (hb1.cell (p := ⟨ab, 2, none⟩) hlW).trans c2)
            | (go_at_call 14; refine (HR.out _).mono ?_; rintro e w2 ⟨rfl, hb2⟩; have e0 := (hb2.cell (p := ⟨ab, 0, none⟩) (Nat.lt_of_lt_of_le hlW hb1.size)).trans d0; have e1 := (hb2.cell (p := ⟨ab, 1, none⟩) (Nat.lt_of_lt_of_le hlW hb1.size)).trans d1; have e2 := (hb2.cell (p := ⟨ab, 2, none⟩) (Nat.lt_of_lt_of_le hlW hb1.size)).trans d2))
        generalize endedB s.data.toList x1 t1.data.toList = b
        have HB2 : Hid (Below wc.heap.size wc w2) := by
          have h1 : Below wc.heap.size wc w1 := HB1.out.drew.trans (hb1.mono HB1.out.size)
          exact h1.trans (hb2.mono h1.size)
        cases b
        all_goals
          go_wp2_with fail
          go_roundw
          case rel => exact ⟨j + 1, by omega, by go_num, HB2⟩
          case measure => simp [intOf]; omega
      · obtain rfl : j = n := by omega
        have HB1 : Hid (Below w.heap.size w wr) := HB0.out.trans (HB.out.mono HB0.out.size)
        have HL1 := Lib.hid (HL.out.below HB1.out)
        have HX := Lib.hid (line_any s (by unfold maxLen; omega) at_)
        have HY := Lib.hid (rline_any s hs at_)
        generalize lineOf s.data.toList at_ = ln at HX HY
        go_wp2_with (first
          | (go_at_call 15; refine (HX.out _).mono ?_; rintro e w1 ⟨rfl, rfl⟩)
          | (go_at_call 16; refine (HY.out _).mono ?_; rintro e w1 ⟨rfl, rfl⟩)
          | (go_at_call 11; refine (alive_any m _ HL1.out).mono ?_; rintro e w1 ⟨rfl, hb1⟩))
        go_ret
        exact ⟨rfl, HB1.out.trans (hb1.mono HB1.out.size)⟩
end Go.Proofs.YtohbbgghkinnhaaDoor
