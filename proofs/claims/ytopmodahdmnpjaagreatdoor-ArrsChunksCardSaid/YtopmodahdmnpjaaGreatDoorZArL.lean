/- Seat as: lookups in the table of functions. -/
import Derived.Test.YtopmodahdmnpjaaGreatDoorZArD
import Derived.Test.YtopmodahdmnpjaaGreatDoorZWords
import Derived.Laws.EntriesVeiled
namespace Go.Proofs.YtopmodahdmnpjaaGreatDoor
open Go.RowKit
/-- A lookup whose run is known. -/
theorem wpList_lookup_run {P : Program} (w : World) {ops : Array Oper} {rest : List Oper} {o : Oper} {a : Act} {Q : Exit → Act → World → Prop} (hg : o.guard = none) (m x : Operand) (t : TypeId) (ok : Bool) (hop : o.op = Op.lookup t m x ok)
    (y : Value) (hrun : (Instr.lookup t (a.eval m) (a.eval x) ok).run P w = .ok y w) (hK : wpList P ops Q rest (a.put o.dst y) w) : wpList P ops Q (o :: rest) a w := by
  refine wpList_plain hg fun K' hK' => ?_
  unfold Oper.wp
  simp [execOp, hop, hrun, Result.andThen]
  exact hK' _ _ hK

theorem look_run {w : World} {b : Nat} {es : Array MapEntry} {clock i : Nat} {nm : ByteArray} {v : Value} (hb : w.heap[b]? = some (.map es clock)) (h : Instr.findNow .string (.string nm) es.toList 0 = some (some (i, v))) :
    (Instr.lookup 45 (.map (some b)) (.string nm) true).run Tryz.prog w = .ok (.tuple #[v, .bool true]) w := by
  have hgo := Ev.run_getObj (P := Tryz.prog) hb (fun a e f => by simp)
  have hck : ∀ em, (Instr.checkKey em 10000 9 (.string nm)).run Tryz.prog w = .ok () w := by
    intro em
    unfold Instr.checkKey
    simp [run_underlying Tryz.underlying9]
  unfold Instr.lookup Instr.findKey
  simp [run_underlying Tryz.underlying45, run_underlying Tryz.underlying9, hgo, hck, h]
end Go.Proofs.YtopmodahdmnpjaaGreatDoor
