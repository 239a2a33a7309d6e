/- strs: strpos and str_contains. -/
import Derived.Test.YtjojfnhdegiebaaGreatDoorFnE
import Derived.Lib.IndexMore
import Derived.Lib.IndexLaws
namespace Go.Proofs.YtjojfnhdegiebaaGreatDoor
open Go.RowKit
set_option maxRecDepth 100000 in
theorem truth_any (b : Bool) (w : World) : Calls Tryz.prog 90 #[.bool b] w fun e w' => e = .returned (.tuple #[.agg #[.int .i64 1, .int .i64 (if b then 1 else 0), .string ⟨#[]⟩, .slice none 0 0], .int .i64 0]) ∧ Below w.heap.size w w' := by
  cases b with
  | true =>
    have hb0 := (Below.refl w.heap.size w).alloc (Nat.le_refl _) (.cells #[.int .i64 1, .int .i64 1, .string ⟨#[]⟩, .slice none 0 0] 25)
    have B := hb0.alloc hb0.size (.cells #[.int .i64 1, .int .i64 1, .string ⟨#[]⟩, .slice none 0 0] 25)
    have HN := (Blk.new w 25 #[.int .i64 1, .int .i64 1, .string ⟨#[]⟩, .slice none 0 0]).alloc (.cells #[.int .i64 1, .int .i64 1, .string ⟨#[]⟩, .slice none 0 0] 25)
    go_enter Tryz.func90, Tryz.ntmps90
    go_wp2_with fail
    generalize (w.alloc (.cells #[.int .i64 1, .int .i64 1, .string ⟨#[]⟩, .slice none 0 0] 25)).alloc (.cells #[.int .i64 1, .int .i64 1, .string ⟨#[]⟩, .slice none 0 0] 25) = w1 at *
    have e0 : w1.cell? ⟨w.heap.size, 0, none⟩ = _ := HN.cell 0
    have e1 : w1.cell? ⟨w.heap.size, 1, none⟩ = _ := HN.cell 1
    have e2 : w1.cell? ⟨w.heap.size, 2, none⟩ = _ := HN.cell 2
    have e3 : w1.cell? ⟨w.heap.size, 3, none⟩ = _ := HN.cell 3
    simp at e0 e1 e2 e3
    refine bodyPost_ret (v := .tuple #[.agg #[.int .i64 1, .int .i64 1, .string ⟨#[]⟩, .slice none 0 0], .int .i64 0]) (by simp [results, Tryz.results90, go_sem, e0, e1, e2, e3]) rfl ?_
    exact ⟨rfl, B⟩
  | false =>
    have hb0 := (Below.refl w.heap.size w).alloc (Nat.le_refl _) (.cells #[.int .i64 1, .int .i64 0, .string ⟨#[]⟩, .slice none 0 0] 25)
    have B := hb0.alloc hb0.size (.cells #[.int .i64 1, .int .i64 0, .string ⟨#[]⟩, .slice none 0 0] 25)
    have HN := (Blk.new w 25 #[.int .i64 1, .int .i64 0, .string ⟨#[]⟩, .slice none 0 0]).alloc (.cells #[.int .i64 1, .int .i64 0, .string ⟨#[]⟩, .slice none 0 0] 25)
    go_enter Tryz.func90, Tryz.ntmps90
    go_wp2_with fail
    generalize (w.alloc (.cells #[.int .i64 1, .int .i64 0, .string ⟨#[]⟩, .slice none 0 0] 25)).alloc (.cells #[.int .i64 1, .int .i64 0, .string ⟨#[]⟩, .slice none 0 0] 25) = w1 at *
    have e0 : w1.cell? ⟨w.heap.size, 0, none⟩ = _ := HN.cell 0
    have e1 : w1.cell? ⟨w.heap.size, 1, none⟩ = _ := HN.cell 1
    have e2 : w1.cell? ⟨w.heap.size, 2, none⟩ = _ := HN.cell 2
    have e3 : w1.cell? ⟨w.heap.size, 3, none⟩ = _ := HN.cell 3
    simp at e0 e1 e2 e3
    refine bodyPost_ret (v := .tuple #[.agg #[.int .i64 1, .int .i64 0, .string ⟨#[]⟩, .slice none 0 0], .int .i64 0]) (by simp [results, Tryz.results90, go_sem, e0, e1, e2, e3]) rfl ?_
    exact ⟨rfl, B⟩
theorem s_in (args : Array Value) (w : World) : (callFunc 23 args).run Tryz.prog w = .ok (.enter 23 args) w := enters_of Tryz.func23 (by kernel_rfl) rfl args w
theorem s_v {f : FuncId} {args : Array Value} {w : World} {t : ByteArray} (h : Calls Tryz.prog f args w fun e w' => e = .returned (.string t) ∧ Below w.heap.size w w') : Calls Tryz.prog f args w fun e w' => ∃ v, e = .returned v ∧ v = .string t ∧ Below w.heap.size w w' :=
  h.mono (by rintro e w' ⟨rfl, h⟩; exact ⟨_, rfl, rfl, h⟩)
theorem index_in (args : Array Value) (w : World) : (callFunc 89 args).run Tryz.prog w = .ok (.enter 89 args) w := enters_of Tryz.func89 (by kernel_rfl) rfl args w
theorem index_v {f : FuncId} {args : Array Value} {w : World} {i : Int} (h : Calls Tryz.prog f args w fun e w' => e = .returned (.int .i64 i) ∧ w' = w) : Calls Tryz.prog f args w fun e w' => ∃ v, e = .returned v ∧ v = .int .i64 i ∧ w = w' :=
  h.mono (by rintro e w' ⟨rfl, rfl⟩; exact ⟨_, rfl, rfl, rfl⟩)

set_option maxRecDepth 100000 in
set_option maxHeartbeats 1000000 in
theorem strpos_do (s t : ByteArray) (hs : s.size < 4294967281) (m : Int) (g cap : Nat) (w : World) (hL : LibS m w) (hA : ArgsAt w g [(3, 0, s), (3, 0, t)]) :
    Calls Tryz.prog 41 #[.slice (some ⟨g, 0, none⟩) 2 cap] w fun e w' => e = .returned (.tuple #[.agg #[.int .i64 (if 0 ≤ Lib.index s.data.toList t.data.toList then 2 else 1), .int .i64 (if 0 ≤ Lib.index s.data.toList t.data.toList then Lib.index s.data.toList t.data.toList else 0), .string ⟨#[]⟩, .slice none 0 0], .int .i64 0]) ∧ Below w.heap.size w w' := by
  have HS := Lib.hid (fun w hA => s_any [(3, 0, s), (3, 0, t)] 0 0 s (by simp) rfl g cap w hA)
  have HT := Lib.hid (fun w hA => s_any [(3, 0, s), (3, 0, t)] 1 0 t (by simp) rfl g cap w hA)
  have HX := Lib.hid (fun w hm => Tryz.strings_Index s t m w hs hm)
  have hr := Lib.index_ge s.data.toList t.data.toList
  have hroom := Lib.index_room s.data.toList t.data.toList
  have hsz := Lib.size_eq s
  have hle : Lib.index s.data.toList t.data.toList ≤ 4294967281 := by
    by_cases h : 0 ≤ Lib.index s.data.toList t.data.toList
    · have := hroom h; omega
    · omega
  clear hroom hsz
  have hx : s.extract 0 s.size = s := by simp
  have HL := Lib.hid hL
  clear hL
  generalize Lib.index s.data.toList t.data.toList = ix at *
  by_cases h0 : 0 ≤ ix
  · have HNU := Lib.hid (fun w => number_any ix w)
    have hneg : ¬ (ix < 0) := by omega
    have hwr : IntKind.i64.wrap (0 + ix) = ix := by rw [IntWalk.i64_in _ (by omega)]; omega
    rw [if_pos h0, if_pos h0]
    go_enter Tryz.func41, Tryz.ntmps41
    go_wp2_with fail
    have HL0 := Lib.hid (HL.out.below ((Below.refl w.heap.size w).alloc (Nat.le_refl _) (.cells #[.int .i64 0, .int .i64 0, .string ⟨#[]⟩, .slice none 0 0] 25)))
    have hb0 := (Below.refl w.heap.size w).alloc (Nat.le_refl _) (.cells #[.int .i64 0, .int .i64 0, .string ⟨#[]⟩, .slice none 0 0] 25)
    have hZ := Blk.new w 25 #[.int .i64 0, .int .i64 0, .string ⟨#[]⟩, .slice none 0 0]
    have hA0 := hA.below hb0 (Nat.le_refl _)
    generalize w.alloc (.cells #[.int .i64 0, .int .i64 0, .string ⟨#[]⟩, .slice none 0 0] 25) = w0 at *
    refine (HS.out _ hA0).mono ?_
    rintro e w1 ⟨rfl, hb1⟩
    have HA1 := Lib.hid (hA0.below hb1 (Nat.le_refl _))
    have HL1 := Lib.hid (HL0.out.below hb1)
    clear HS hA hA0 HL0 HL
    go_wp2_with fail
    go_cut [6] (fun i wx => i = .int .i64 ix ∧ Below w1.heap.size w1 wx)
    case first =>
      go_region_law (first
        | (refine step_callP rfl 23 _ _ rfl #[.slice (some ⟨g, 0, none⟩) 2 cap, .int .i64 1] (by simp [Act.eval, Act.put]) (s_in _ _) _ (s_v (HT.out w1.drew HA1.out)) ?_; rintro v w2 ⟨rfl, hb2⟩; have HL2 := Lib.hid (HL1.out.below (w' := w2) ⟨hb2.os, hb2.tape, hb2.output, hb2.size, hb2.block⟩))
        | (refine step_callP rfl 89 _ _ rfl #[.string s, .string t] (by simp [Act.eval, Act.put]) (index_in _ _) _ (index_v (HX.out _ HL2.out.max)) ?_; rintro v w3 ⟨rfl, rfl⟩))
      all_goals
        go_wp2_with fail
        go_meet
        exact ⟨rfl, ⟨hb2.os, hb2.tape, hb2.output, hb2.size, hb2.block⟩⟩
    case rest =>
      obtain ⟨rfl, hb2⟩ := hcut
      rename World => w2
      clear HX HT HL1 HA1
      go_wp2_with fail
      refine (HNU.out _).mono ?_
      rintro e w4 ⟨rfl, hb4⟩
      clear HNU
      have HZe := Lib.hid (blk_below (blk_below (blk_below hZ hb1) hb2) hb4)
      have HBe := Lib.hid (((hb0.trans (hb1.mono hb0.size)).trans (hb2.mono (Nat.le_trans hb0.size hb1.size))).trans (hb4.mono (Nat.le_trans (Nat.le_trans hb0.size hb1.size) hb2.size)))
      have c0 : w4.cell? ⟨w.heap.size, 0, none⟩ = some (.int .i64 0) := HZe.out.cell 0
      have c1 : w4.cell? ⟨w.heap.size, 1, none⟩ = some (.int .i64 0) := HZe.out.cell 1
      have c2 : w4.cell? ⟨w.heap.size, 2, none⟩ = some (.string ⟨#[]⟩) := HZe.out.cell 2
      have c3 : w4.cell? ⟨w.heap.size, 3, none⟩ = some (.slice none 0 0) := HZe.out.cell 3
      have z0 := HZe.out.frozen 0
      have z1 := HZe.out.frozen 1
      have z2 := HZe.out.frozen 2
      have z3 := HZe.out.frozen 3
      go_wp2_with fail
      have HV7 := (((HZe.out.set_ 0 (.int .i64 2)).set_ 1 (.int .i64 ix)).set_ 2 (.string ⟨#[]⟩)).set_ 3 (.slice none 0 0)
      have HB7 := (((HBe.out.setCell (p := ⟨w.heap.size, 0, none⟩) (Nat.le_refl _) (.int .i64 2)).setCell (p := ⟨w.heap.size, 1, none⟩) (Nat.le_refl _) (.int .i64 ix)).setCell (p := ⟨w.heap.size, 2, none⟩) (Nat.le_refl _) (.string ⟨#[]⟩)).setCell (p := ⟨w.heap.size, 3, none⟩) (Nat.le_refl _) (.slice none 0 0)
      generalize (((w4.setCell ⟨w.heap.size, 0, none⟩ (.int .i64 2)).setCell ⟨w.heap.size, 1, none⟩ (.int .i64 ix)).setCell ⟨w.heap.size, 2, none⟩ (.string ⟨#[]⟩)).setCell ⟨w.heap.size, 3, none⟩ (.slice none 0 0) = w7 at *
      have e0 : w7.cell? ⟨w.heap.size, 0, none⟩ = some (.int .i64 2) := HV7.cell 0
      have e1 : w7.cell? ⟨w.heap.size, 1, none⟩ = some (.int .i64 ix) := HV7.cell 1
      have e2 : w7.cell? ⟨w.heap.size, 2, none⟩ = some (.string ⟨#[]⟩) := HV7.cell 2
      have e3 : w7.cell? ⟨w.heap.size, 3, none⟩ = some (.slice none 0 0) := HV7.cell 3
      refine bodyPost_ret (v := .tuple #[.agg #[.int .i64 2, .int .i64 ix, .string ⟨#[]⟩, .slice none 0 0], .int .i64 0]) (by simp [results, Tryz.results41, go_sem, e0, e1, e2, e3]) rfl ?_
      exact ⟨rfl, HB7⟩

  · have HNU := Lib.hid (fun w => truth_any false w)
    have hneg : ix < 0 := by omega
    rw [if_neg h0, if_neg h0]
    go_enter Tryz.func41, Tryz.ntmps41
    go_wp2_with fail
    have HL0 := Lib.hid (HL.out.below ((Below.refl w.heap.size w).alloc (Nat.le_refl _) (.cells #[.int .i64 0, .int .i64 0, .string ⟨#[]⟩, .slice none 0 0] 25)))
    have hb0 := (Below.refl w.heap.size w).alloc (Nat.le_refl _) (.cells #[.int .i64 0, .int .i64 0, .string ⟨#[]⟩, .slice none 0 0] 25)
    have hZ := Blk.new w 25 #[.int .i64 0, .int .i64 0, .string ⟨#[]⟩, .slice none 0 0]
    have hA0 := hA.below hb0 (Nat.le_refl _)
    generalize w.alloc (.cells #[.int .i64 0, .int .i64 0, .string ⟨#[]⟩, .slice none 0 0] 25) = w0 at *
    refine (HS.out _ hA0).mono ?_
    rintro e w1 ⟨rfl, hb1⟩
    have HA1 := Lib.hid (hA0.below hb1 (Nat.le_refl _))
    have HL1 := Lib.hid (HL0.out.below hb1)
    clear HS hA hA0 HL0 HL
    go_wp2_with fail
    go_cut [6] (fun i wx => i = .int .i64 ix ∧ Below w1.heap.size w1 wx)
    case first =>
      go_region_law (first
        | (refine step_callP rfl 23 _ _ rfl #[.slice (some ⟨g, 0, none⟩) 2 cap, .int .i64 1] (by simp [Act.eval, Act.put]) (s_in _ _) _ (s_v (HT.out w1.drew HA1.out)) ?_; rintro v w2 ⟨rfl, hb2⟩; have HL2 := Lib.hid (HL1.out.below (w' := w2) ⟨hb2.os, hb2.tape, hb2.output, hb2.size, hb2.block⟩))
        | (refine step_callP rfl 89 _ _ rfl #[.string s, .string t] (by simp [Act.eval, Act.put]) (index_in _ _) _ (index_v (HX.out _ HL2.out.max)) ?_; rintro v w3 ⟨rfl, rfl⟩))
      all_goals
        go_wp2_with fail
        go_meet
        exact ⟨rfl, ⟨hb2.os, hb2.tape, hb2.output, hb2.size, hb2.block⟩⟩
    case rest =>
      obtain ⟨rfl, hb2⟩ := hcut
      rename World => w2
      clear HX HT HL1 HA1
      go_wp2_with fail
      refine (HNU.out _).mono ?_
      rintro e w4 ⟨rfl, hb4⟩
      clear HNU
      have HZe := Lib.hid (blk_below (blk_below (blk_below hZ hb1) hb2) hb4)
      have HBe := Lib.hid (((hb0.trans (hb1.mono hb0.size)).trans (hb2.mono (Nat.le_trans hb0.size hb1.size))).trans (hb4.mono (Nat.le_trans (Nat.le_trans hb0.size hb1.size) hb2.size)))
      have c0 : w4.cell? ⟨w.heap.size, 0, none⟩ = some (.int .i64 0) := HZe.out.cell 0
      have c1 : w4.cell? ⟨w.heap.size, 1, none⟩ = some (.int .i64 0) := HZe.out.cell 1
      have c2 : w4.cell? ⟨w.heap.size, 2, none⟩ = some (.string ⟨#[]⟩) := HZe.out.cell 2
      have c3 : w4.cell? ⟨w.heap.size, 3, none⟩ = some (.slice none 0 0) := HZe.out.cell 3
      have z0 := HZe.out.frozen 0
      have z1 := HZe.out.frozen 1
      have z2 := HZe.out.frozen 2
      have z3 := HZe.out.frozen 3
      go_wp2_with fail
      have HV7 := (((HZe.out.set_ 0 (.int .i64 1)).set_ 1 (.int .i64 0)).set_ 2 (.string ⟨#[]⟩)).set_ 3 (.slice none 0 0)
      have HB7 := (((HBe.out.setCell (p := ⟨w.heap.size, 0, none⟩) (Nat.le_refl _) (.int .i64 1)).setCell (p := ⟨w.heap.size, 1, none⟩) (Nat.le_refl _) (.int .i64 0)).setCell (p := ⟨w.heap.size, 2, none⟩) (Nat.le_refl _) (.string ⟨#[]⟩)).setCell (p := ⟨w.heap.size, 3, none⟩) (Nat.le_refl _) (.slice none 0 0)
      generalize (((w4.setCell ⟨w.heap.size, 0, none⟩ (.int .i64 1)).setCell ⟨w.heap.size, 1, none⟩ (.int .i64 0)).setCell ⟨w.heap.size, 2, none⟩ (.string ⟨#[]⟩)).setCell ⟨w.heap.size, 3, none⟩ (.slice none 0 0) = w7 at *
      have e0 : w7.cell? ⟨w.heap.size, 0, none⟩ = some (.int .i64 1) := HV7.cell 0
      have e1 : w7.cell? ⟨w.heap.size, 1, none⟩ = some (.int .i64 0) := HV7.cell 1
      have e2 : w7.cell? ⟨w.heap.size, 2, none⟩ = some (.string ⟨#[]⟩) := HV7.cell 2
      have e3 : w7.cell? ⟨w.heap.size, 3, none⟩ = some (.slice none 0 0) := HV7.cell 3
      refine bodyPost_ret (v := .tuple #[.agg #[.int .i64 1, .int .i64 0, .string ⟨#[]⟩, .slice none 0 0], .int .i64 0]) (by simp [results, Tryz.results41, go_sem, e0, e1, e2, e3]) rfl ?_
      exact ⟨rfl, HB7⟩

theorem contains_in (args : Array Value) (w : World) : (callFunc 44 args).run Tryz.prog w = .ok (.enter 44 args) w := enters_of Tryz.func44 (by kernel_rfl) rfl args w
theorem contains_v {f : FuncId} {args : Array Value} {w : World} {i : Bool} (h : Calls Tryz.prog f args w fun e w' => e = .returned (.bool i) ∧ w' = w) : Calls Tryz.prog f args w fun e w' => ∃ v, e = .returned v ∧ v = .bool i ∧ w = w' :=
  h.mono (by rintro e w' ⟨rfl, rfl⟩; exact ⟨_, rfl, rfl, rfl⟩)
theorem truth_in (args : Array Value) (w : World) : (callFunc 90 args).run Tryz.prog w = .ok (.enter 90 args) w := enters_of Tryz.func90 (by kernel_rfl) rfl args w
theorem truth_v {f : FuncId} {args : Array Value} {w : World} {x : Value} (h : Calls Tryz.prog f args w fun e w' => e = .returned x ∧ Below w.heap.size w w') : Calls Tryz.prog f args w fun e w' => ∃ v, e = .returned v ∧ v = x ∧ Below w.heap.size w w' :=
  h.mono (by rintro e w' ⟨rfl, h⟩; exact ⟨_, rfl, rfl, h⟩)
/-- A call of a function value as a step law. -/
theorem step_callD {P : Program} {ops : Array Oper} {o : Oper} {a : Act} {w : World} {K : Act → World → Prop} {Q : Exit → Act → World → Prop} {E : Prop} (hgd : o.guard = none) (x : Operand) (f : FuncId) (xs : Array Operand) (ats : Array TypeId)
    (ho : o.op = .call { callee := .value x, args := xs, argTypes := ats }) (hx : a.eval x = .func (.func f) #[] #[]) (args : Array Value) (hargs : xs.map a.eval = args)
    (eg : (callFunc f args).run P w = .ok (.enter f args) w) (R : Value → World → Prop) (hc : Calls P f args w fun e w' => ∃ v, e = .returned v ∧ R v w')
    (h : ∀ v w', R v w' → K (a.put o.dst v) w') : if Region.wanted o (yielded ops a.tmps) = true then Oper.wp P o a w K Q else E := by
  have hw : Region.wanted o (yielded ops a.tmps) = true := by simp [Region.wanted, hgd]
  rw [if_pos hw]
  obtain ⟨dst, op, ty, pos, after, guard⟩ := o
  simp only at ho hgd
  subst ho hgd
  unfold Oper.wp
  have he : (execOp a.eval { dst, op := .call { callee := .value x, args := xs, argTypes := ats }, type := ty, pos, after, guard := none }).run P w = .ok (.enter f args) w := by
    rw [← eg, ← hargs]
    simp [execOp, resolve, invoke, hx, Deferred.ofValue]
  rw [he, Oper.upon_enter]
  refine hc.mono ?_
  rintro e w' ⟨v, rfl, hR⟩
  exact h v w' hR

set_option maxRecDepth 100000 in
set_option maxHeartbeats 1000000 in
theorem contains_do (s t : ByteArray) (hs : s.size < 4294967281) (m : Int) (g cap c : Nat) (w : World) (hL : LibS m w) (hA : ArgsAt w g [(3, 0, s), (3, 0, t)]) (hc : w.cell? ⟨c, 0, none⟩ = some (.func (.func 44) #[] #[])) :
    Calls Tryz.prog 92 #[.slice (some ⟨g, 0, none⟩) 2 cap, .pointer (some ⟨c, 0, none⟩)] w fun e w' => e = .returned (.tuple #[.agg #[.int .i64 1, .int .i64 (if (Lib.contains s.data.toList t.data.toList) then 1 else 0), .string ⟨#[]⟩, .slice none 0 0], .int .i64 0]) ∧ Below w.heap.size w w' := by
  have HS := Lib.hid (fun w hA => s_any [(3, 0, s), (3, 0, t)] 0 0 s (by simp) rfl g cap w hA)
  have HT := Lib.hid (fun w hA => s_any [(3, 0, s), (3, 0, t)] 1 0 t (by simp) rfl g cap w hA)
  have HX := Lib.hid (fun w hm => Tryz.strings_Contains s t m w hs hm)
  have HU := Lib.hid (fun w => truth_any (Lib.contains s.data.toList t.data.toList) w)
  have HL := Lib.hid hL
  clear hL
  generalize (if (Lib.contains s.data.toList t.data.toList) = true then (1 : Int) else 0) = nb at *
  generalize (Lib.contains s.data.toList t.data.toList) = cb at *
  have hb0 := (Below.refl w.heap.size w).alloc (Nat.le_refl _) (.cells #[.int .i64 0, .int .i64 0, .string ⟨#[]⟩, .slice none 0 0] 25)
  have hZ := Blk.new w 25 #[.int .i64 0, .int .i64 0, .string ⟨#[]⟩, .slice none 0 0]
  have hA0 := hA.below hb0 (Nat.le_refl _)
  have HL0 := Lib.hid (HL.out.below hb0)
  have hcl : c < w.heap.size := World.block_lt_of_cell? w _ hc
  have hc0 := (hb0.cell (p := ⟨c, 0, none⟩) hcl).trans hc
  have hzl := hZ.lt
  have hcl0 : c < (w.alloc (.cells #[.int .i64 0, .int .i64 0, .string ⟨#[]⟩, .slice none 0 0] 25)).heap.size := by omega
  go_enter Tryz.func92, Tryz.ntmps92
  go_wp2_with fail
  generalize w.alloc (.cells #[.int .i64 0, .int .i64 0, .string ⟨#[]⟩, .slice none 0 0] 25) = w0 at *
  have HA0 := Lib.hid hA0
  have HB0 := Lib.hid hb0
  have HZ0 := Lib.hid hZ
  clear hA hA0 hc HL hb0 hZ
  go_cut [4] (fun x wx => x = .int .i64 0 ∧ Blk wx w.heap.size 25 #[.int .i64 1, .int .i64 nb, .string ⟨#[]⟩, .slice none 0 0] ∧ Below w.heap.size w wx)
  case first =>
    go_region_law (first
      | (refine step_callP rfl 23 _ _ rfl #[.slice (some ⟨g, 0, none⟩) 2 cap, .int .i64 0] (by simp [Act.eval, Act.put]) (s_in _ _) _ (s_v (HS.out w0.drew HA0.out)) ?_; rintro v w1 ⟨rfl, hb1⟩; have HB1 := Lib.hid (Below.mk (w' := w1) hb1.os hb1.tape hb1.output hb1.size hb1.block : Below w0.heap.size w0 w1); have HA1 := Lib.hid (HA0.out.below HB1.out (Nat.le_refl _)); have hc1 := (HB1.out.cell (p := ⟨c, 0, none⟩) hcl0).trans hc0; have hcl1 := Nat.lt_of_lt_of_le hcl0 HB1.out.size)
      | (refine step_callP rfl 23 _ _ rfl #[.slice (some ⟨g, 0, none⟩) 2 cap, .int .i64 1] (by simp [Act.eval, Act.put]) (s_in _ _) _ (s_v (HT.out _ HA1.out)) ?_; rintro v w2 ⟨rfl, hb2⟩; have HB2 := Lib.hid hb2; have hc2 := (hb2.cell (p := ⟨c, 0, none⟩) hcl1).trans hc1; have HL2 := Lib.hid ((HL0.out.below HB1.out).below hb2))
      | (refine step_callD rfl (.tmp 5) 44 _ _ rfl (by simp [Act.eval, Act.put]) #[.string s, .string t] (by simp [Act.eval, Act.put]) (contains_in _ _) _ (contains_v (HX.out _ HL2.out.max)) ?_; rintro v w3 ⟨rfl, rfl⟩)
      | (refine step_callP rfl 90 _ _ rfl #[.bool cb] (by simp [Act.eval, Act.put]) (truth_in _ _) _ (truth_v (HU.out _)) ?_; rintro v w4 ⟨rfl, hb4⟩; have HZ4 := Lib.hid (blk_below (blk_below (blk_below HZ0.out HB1.out) HB2.out) hb4); have HB4 := Lib.hid (((HB0.out.trans (HB1.out.mono HB0.out.size)).trans (HB2.out.mono (Nat.le_trans HB0.out.size HB1.out.size))).trans (hb4.mono (Nat.le_trans (Nat.le_trans HB0.out.size HB1.out.size) HB2.out.size))); have q0 : w4.cell? ⟨w.heap.size, 0, none⟩ = some (.int .i64 0) := HZ4.out.cell 0; have q1 : w4.cell? ⟨w.heap.size, 1, none⟩ = some (.int .i64 0) := HZ4.out.cell 1; have q2 : w4.cell? ⟨w.heap.size, 2, none⟩ = some (.string ⟨#[]⟩) := HZ4.out.cell 2; have q3 : w4.cell? ⟨w.heap.size, 3, none⟩ = some (.slice none 0 0) := HZ4.out.cell 3; have z0 := HZ4.out.frozen 0; have z1 := HZ4.out.frozen 1; have z2 := HZ4.out.frozen 2; have z3 := HZ4.out.frozen 3))
    all_goals
      go_wp2_with fail
      go_meet
      exact ⟨rfl, (((HZ4.out.set_ 0 _).set_ 1 _).set_ 2 _).set_ 3 _, (((HB4.out.setCell (p := ⟨w.heap.size, 0, none⟩) (Nat.le_refl _) _).setCell (p := ⟨w.heap.size, 1, none⟩) (Nat.le_refl _) _).setCell (p := ⟨w.heap.size, 2, none⟩) (Nat.le_refl _) _).setCell (p := ⟨w.heap.size, 3, none⟩) (Nat.le_refl _) _⟩
  case rest =>
    obtain ⟨rfl, HV7, HB7⟩ := hcut
    rename World => w7
    have e0 : w7.cell? ⟨w.heap.size, 0, none⟩ = some (.int .i64 1) := HV7.cell 0
    have e1 : w7.cell? ⟨w.heap.size, 1, none⟩ = some (.int .i64 nb) := HV7.cell 1
    have e2 : w7.cell? ⟨w.heap.size, 2, none⟩ = some (.string ⟨#[]⟩) := HV7.cell 2
    have e3 : w7.cell? ⟨w.heap.size, 3, none⟩ = some (.slice none 0 0) := HV7.cell 3
    go_wp2_with fail
    refine bodyPost_ret (v := .tuple #[.agg #[.int .i64 1, .int .i64 nb, .string ⟨#[]⟩, .slice none 0 0], .int .i64 0]) (by simp [results, Tryz.results92, go_sem, e0, e1, e2, e3]) rfl ?_
    exact ⟨rfl, HB7⟩
end Go.Proofs.YtjojfnhdegiebaaGreatDoor
