/- strs: a call's arguments; substr and strlen. -/
import Derived.Test.YtgjnmfjiolpikaaGreatDoorFnB
namespace Go.Proofs.YtgjnmfjiolpikaaGreatDoor
open Go.RowKit

set_option maxRecDepth 100000 in
theorem conv_text (n : Int) (t : ByteArray) (w : World) : Calls Tryz.prog 76 #[.agg #[.int .i64 3, .int .i64 n, .string t, .slice none 0 0]] w fun e w' => e = .returned (.tuple #[.string t, .int .i64 0]) ∧ Below w.heap.size w w' := by
  have B := (Below.refl w.heap.size w).alloc (Nat.le_refl _) (.cells #[.int .i64 3, .int .i64 n, .string t, .slice none 0 0] 25)
  go_enter Tryz.func76, Tryz.ntmps76
  go_wp2_with fail
  go_ret2
  exact ⟨rfl, B⟩
set_option maxRecDepth 100000 in
theorem conv_number (n : Int) (t : ByteArray) (w : World) : Calls Tryz.prog 94 #[.agg #[.int .i64 2, .int .i64 n, .string t, .slice none 0 0]] w fun e w' => e = .returned (.int .i64 n) ∧ Below w.heap.size w w' := by
  have B := (Below.refl w.heap.size w).alloc (Nat.le_refl _) (.cells #[.int .i64 2, .int .i64 n, .string t, .slice none 0 0] 25)
  go_enter Tryz.func94, Tryz.ntmps94
  go_wp2_with fail
  go_ret
  exact ⟨rfl, B⟩
set_option maxRecDepth 100000 in
theorem text_any (t : ByteArray) (w : World) : Calls Tryz.prog 52 #[.string t] w fun e w' => e = .returned (.tuple #[.agg #[.int .i64 3, .int .i64 0, .string t, .slice none 0 0], .int .i64 0]) ∧ Below w.heap.size w w' := by
  have B := (Below.refl w.heap.size w).alloc (Nat.le_refl _) (.cells #[.int .i64 3, .int .i64 0, .string t, .slice none 0 0] 25)
  have HN := Blk.new w 25 #[.int .i64 3, .int .i64 0, .string t, .slice none 0 0]
  go_enter Tryz.func52, Tryz.ntmps52
  go_wp2_with fail
  generalize w.alloc (.cells #[.int .i64 3, .int .i64 0, .string t, .slice none 0 0] 25) = w1 at *
  have e0 : w1.cell? ⟨w.heap.size, 0, none⟩ = _ := HN.cell 0
  have e1 : w1.cell? ⟨w.heap.size, 1, none⟩ = _ := HN.cell 1
  have e2 : w1.cell? ⟨w.heap.size, 2, none⟩ = _ := HN.cell 2
  have e3 : w1.cell? ⟨w.heap.size, 3, none⟩ = _ := HN.cell 3
  simp at e0 e1 e2 e3
  refine bodyPost_ret (v := .tuple #[.agg #[.int .i64 3, .int .i64 0, .string t, .slice none 0 0], .int .i64 0]) (by simp [results, Tryz.results52, go_sem, e0, e1, e2, e3]) rfl ?_
  exact ⟨rfl, B⟩
set_option maxRecDepth 100000 in
theorem number_any (n : Int) (w : World) : Calls Tryz.prog 15 #[.int .i64 n] w fun e w' => e = .returned (.tuple #[.agg #[.int .i64 2, .int .i64 n, .string ⟨#[]⟩, .slice none 0 0], .int .i64 0]) ∧ Below w.heap.size w w' := by
  have B := (Below.refl w.heap.size w).alloc (Nat.le_refl _) (.cells #[.int .i64 2, .int .i64 n, .string ⟨#[]⟩, .slice none 0 0] 25)
  have HN := Blk.new w 25 #[.int .i64 2, .int .i64 n, .string ⟨#[]⟩, .slice none 0 0]
  go_enter Tryz.func15, Tryz.ntmps15
  go_wp2_with fail
  generalize w.alloc (.cells #[.int .i64 2, .int .i64 n, .string ⟨#[]⟩, .slice none 0 0] 25) = w1 at *
  have e0 : w1.cell? ⟨w.heap.size, 0, none⟩ = _ := HN.cell 0
  have e1 : w1.cell? ⟨w.heap.size, 1, none⟩ = _ := HN.cell 1
  have e2 : w1.cell? ⟨w.heap.size, 2, none⟩ = _ := HN.cell 2
  have e3 : w1.cell? ⟨w.heap.size, 3, none⟩ = _ := HN.cell 3
  simp at e0 e1 e2 e3
  refine bodyPost_ret (v := .tuple #[.agg #[.int .i64 2, .int .i64 n, .string ⟨#[]⟩, .slice none 0 0], .int .i64 0]) (by simp [results, Tryz.results15, go_sem, e0, e1, e2, e3]) rfl ?_
  exact ⟨rfl, B⟩
end Go.Proofs.YtgjnmfjiolpikaaGreatDoor
