/- strs.Call, by its table. -/
import Derived.Test.YtgjnmfjiolpikaaGreatDoorFnA
import Derived.Test.YtgjnmfjiolpikaaGreatDoorWords
import Derived.Laws.EntriesVeiled
namespace Go.Proofs.YtgjnmfjiolpikaaGreatDoor
open Go.RowKit
/-- A lookup whose run is known. -/
theorem wpList_lookup_run {P : Program} (w : World) {ops : Array Oper} {rest : List Oper} {o : Oper} {a : Act} {Q : Exit → Act → World → Prop} (hg : o.guard = none) (m x : Operand) (t : TypeId) (ok : Bool) (hop : o.op = Op.lookup t m x ok)
    (y : Value) (hrun : (Instr.lookup t (a.eval m) (a.eval x) ok).run P w = .ok y w) (hK : wpList P ops Q rest (a.put o.dst y) w) : wpList P ops Q (o :: rest) a w := by
  refine wpList_plain hg fun K' hK' => ?_
  unfold Oper.wp
  simp [execOp, hop, hrun, Result.andThen]
  exact hK' _ _ hK

theorem look_run {w : World} {b : Nat} {es : Array MapEntry} {clock i : Nat} {nm : ByteArray} {v : Value} (hb : w.heap[b]? = some (.map es clock)) (h : Instr.findNow .string (.string nm) es.toList 0 = some (some (i, v))) :
    (Instr.lookup 38 (.map (some b)) (.string nm) true).run Tryz.prog w = .ok (.tuple #[v, .bool true]) w := by
  have hgo := Ev.run_getObj (P := Tryz.prog) hb (fun a e f => by simp)
  have hck : ∀ em, (Instr.checkKey em 10000 9 (.string nm)).run Tryz.prog w = .ok () w := by
    intro em
    unfold Instr.checkKey
    simp [run_underlying Tryz.underlying9]
  unfold Instr.lookup Instr.findKey
  simp [run_underlying Tryz.underlying38, run_underlying Tryz.underlying9, hgo, hck, h]
/-- Plain values as arguments: kind, number, text. -/
abbrev PV := Int × Int × ByteArray
/-- The arguments of a call. -/
def ArgsAt (w : World) (g : Nat) (vs : List PV) : Prop := g < w.heap.size ∧ ∀ i, i < vs.length → w.cell? ⟨g, i * 4, none⟩ = some (.int .i64 (vs.getD i default).1) ∧ w.cell? ⟨g, i * 4 + 1, none⟩ = some (.int .i64 (vs.getD i default).2.1) ∧
  w.cell? ⟨g, i * 4 + 2, none⟩ = some (.string (vs.getD i default).2.2) ∧ w.cell? ⟨g, i * 4 + 3, none⟩ = some (.slice none 0 0)
theorem ArgsAt.below {w w' : World} {g : Nat} {vs : List PV} (h : ArgsAt w g vs) {B : Nat} (hb : Below B w w') (hB : w.heap.size ≤ B) : ArgsAt w' g vs :=
  ⟨Nat.lt_of_lt_of_le h.1 hb.size, fun i hi => by
    obtain ⟨a, b, c, d⟩ := h.2 i hi
    have hg : g < B := Nat.lt_of_lt_of_le h.1 hB
    exact ⟨(hb.cell (p := ⟨g, _, none⟩) hg).trans a, (hb.cell (p := ⟨g, _, none⟩) hg).trans b, (hb.cell (p := ⟨g, _, none⟩) hg).trans c, (hb.cell (p := ⟨g, _, none⟩) hg).trans d⟩⟩
set_option maxRecDepth 100000 in
theorem taken_si (c : Int) (hc : c = 115 ∨ c = 105) (k n : Int) (t : ByteArray) (h0 : 0 ≤ k) (h1 : k ≤ 3) (w : World) : Calls Tryz.prog 11 #[.int .u8 c, .agg #[.int .i64 k, .int .i64 n, .string t, .slice none 0 0]] w fun e w' => e = .returned (.bool true) ∧ Below w.heap.size w w' := by
  have B := (Below.refl w.heap.size w).alloc (Nat.le_refl _) (.cells #[.int .i64 k, .int .i64 n, .string t, .slice none 0 0] 25)
  rcases hc with rfl | rfl
  · go_enter Tryz.func11, Tryz.ntmps11
    go_wp2_with fail
    go_ret
    exact ⟨rfl, B⟩
  · go_enter Tryz.func11, Tryz.ntmps11
    go_wp2_with fail
    go_ret
    exact ⟨rfl, B⟩
/-- A Go call as a step law for go_region_law. -/
theorem step_callP {P : Program} {ops : Array Oper} {o : Oper} {a : Act} {w : World} {K : Act → World → Prop} {Q : Exit → Act → World → Prop} {E : Prop} (hgd : o.guard = none) (f : FuncId) (xs : Array Operand) (ats : Array TypeId)
    (ho : o.op = .call { callee := .value (.func f), args := xs, argTypes := ats }) (args : Array Value) (hargs : #[] ++ xs.map a.eval ++ #[] = args)
    (eg : (callFunc f args).run P w = .ok (.enter f args) w) (R : Value → World → Prop) (hc : Calls P f args w fun e w' => ∃ v, e = .returned v ∧ R v w')
    (h : ∀ v w', R v w' → K (a.put o.dst v) w') : if Region.wanted o (yielded ops a.tmps) = true then Oper.wp P o a w K Q else E := by
  have hw : Region.wanted o (yielded ops a.tmps) = true := by simp [Region.wanted, hgd]
  rw [if_pos hw]
  obtain ⟨dst, op, ty, pos, after, guard⟩ := o
  simp only at ho hgd
  subst ho hgd
  unfold Oper.wp
  rw [execOp_call_go, hargs, eg, Oper.upon_enter]
  refine hc.mono ?_
  rintro e w' ⟨v, rfl, hR⟩
  exact h v w' hR
theorem taken_in (args : Array Value) (w : World) : (callFunc 11 args).run Tryz.prog w = .ok (.enter 11 args) w := enters_of Tryz.func11 (by kernel_rfl) rfl args w
theorem taken_v (c : Int) (hc : c = 115 ∨ c = 105) (k n : Int) (t : ByteArray) (h0 : 0 ≤ k) (h1 : k ≤ 3) (w : World) : Calls Tryz.prog 11 #[.int .u8 c, .agg #[.int .i64 k, .int .i64 n, .string t, .slice none 0 0]] w fun e w' => ∃ v, e = .returned v ∧ v = .bool true ∧ Below w.heap.size w w' :=
  (taken_si c hc k n t h0 h1 w).mono (by rintro e w' ⟨rfl, h⟩; exact ⟨_, rfl, rfl, h⟩)
end Go.Proofs.YtgjnmfjiolpikaaGreatDoor
