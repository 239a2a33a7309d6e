/- arrs.sorted: the walk. -/
import Derived.Test.YtopmodahdmnpjaaGreatDoorZAsO
import Derived.Test.YtopmodahdmnpjaaGreatDoorZAsK
namespace Go.Proofs.YtopmodahdmnpjaaGreatDoor
open Go Go.RowKit
namespace Dp
section
variable {w : World} {B : Nat}
/-- The closure that gives what an item is sorted by: its value. -/
theorem of_any (w : World) (kb : Nat) (hk : w.cell? ⟨kb, 0, none⟩ = some (.bool false)) (ib : Bool) (ii : Int) (is : ByteArray) (k n : Int) (t : ByteArray) (A : Option Addr) (l c : Nat) :
    Calls Tryz.prog 120 #[.agg #[.bool ib, .int .i64 ii, .string is, .int .i64 k, .int .i64 n, .string t, .slice A l c], .pointer (some ⟨kb, 0, none⟩)] w fun e w' => e = .returned (.agg #[.int .i64 k, .int .i64 n, .string t, .slice A l c]) ∧ Below w.heap.size w w' := by
  have hal := (Below.refl w.heap.size w).alloc (Nat.le_refl _) (.cells #[.bool ib, .int .i64 ii, .string is, .int .i64 k, .int .i64 n, .string t, .slice A l c] 34)
  have hal2 := hal.alloc (by simp) (.cells #[.int .i64 0, .int .i64 0, .string ⟨#[]⟩, .slice none 0 0] 24)
  have HB := Lib.hid hal2
  have hI := (Blk.new w 34 #[.bool ib, .int .i64 ii, .string is, .int .i64 k, .int .i64 n, .string t, .slice A l c])
  have HI := Lib.hid (hI.alloc (.cells #[.int .i64 0, .int .i64 0, .string ⟨#[]⟩, .slice none 0 0] 24))
  have hz := Blk.new (w.alloc (.cells #[.bool ib, .int .i64 ii, .string is, .int .i64 k, .int .i64 n, .string t, .slice A l c] 34)) 24 #[.int .i64 0, .int .i64 0, .string ⟨#[]⟩, .slice none 0 0]
  rw [show (w.alloc (.cells #[.bool ib, .int .i64 ii, .string is, .int .i64 k, .int .i64 n, .string t, .slice A l c] 34)).heap.size = w.heap.size + 1 by simp] at hz
  have HZ := Lib.hid hz
  have hkc := (hal2.cell (World.block_lt_of_cell? w _ hk)).trans hk
  clear hal hal2 hI hz
  go_enter Tryz.func120, Tryz.ntmps120
  go_upto_region 1 with fail
  have d3 := HI.out.cell 3
  have d4 := HI.out.cell 4
  have d5 := HI.out.cell 5
  have d6 := HI.out.cell 6
  generalize (w.alloc (.cells #[.bool ib, .int .i64 ii, .string is, .int .i64 k, .int .i64 n, .string t, .slice A l c] 34)).alloc (.cells #[.int .i64 0, .int .i64 0, .string ⟨#[]⟩, .slice none 0 0] 24) = wi at *
  have z0 := HZ.out.frozen 0
  have z1 := HZ.out.frozen 1
  have z2 := HZ.out.frozen 2
  have z3 := HZ.out.frozen 3
  have y0 := HZ.out.cell 0
  have y1 := HZ.out.cell 1
  have y2 := HZ.out.cell 2
  have y3 := HZ.out.cell 3
  go_wp2_with fail
  have HB7 := Lib.hid ((((HB.out.setCell (p := ⟨w.heap.size + 1, 0, none⟩) (by simp) (.int .i64 k)).setCell (p := ⟨w.heap.size + 1, 1, none⟩) (by simp) (.int .i64 n)).setCell (p := ⟨w.heap.size + 1, 2, none⟩) (by simp) (.string t)).setCell (p := ⟨w.heap.size + 1, 3, none⟩) (by simp) (.slice A l c))
  have HY7 := Lib.hid ((((HZ.out.set_ 0 (.int .i64 k)).set_ 1 (.int .i64 n)).set_ 2 (.string t)).set_ 3 (.slice A l c))
  generalize (((wi.setCell ⟨w.heap.size + 1, 0, none⟩ (.int .i64 k)).setCell ⟨w.heap.size + 1, 1, none⟩ (.int .i64 n)).setCell ⟨w.heap.size + 1, 2, none⟩ (.string t)).setCell ⟨w.heap.size + 1, 3, none⟩ (.slice A l c) = w7 at *
  have e0 : w7.cell? ⟨w.heap.size + 1, 0, none⟩ = some (.int .i64 k) := HY7.out.cell 0
  have e1 : w7.cell? ⟨w.heap.size + 1, 1, none⟩ = some (.int .i64 n) := HY7.out.cell 1
  have e2 : w7.cell? ⟨w.heap.size + 1, 2, none⟩ = some (.string t) := HY7.out.cell 2
  have e3 : w7.cell? ⟨w.heap.size + 1, 3, none⟩ = some (.slice A l c) := HY7.out.cell 3
  refine bodyPost_ret (v := .agg #[.int .i64 k, .int .i64 n, .string t, .slice A l c]) (by simp [results, Tryz.results120, go_sem, e0, e1, e2, e3]) rfl ?_
  exact ⟨rfl, HB7.out⟩
set_option maxRecDepth 100000 in
set_option maxHeartbeats 4000000 in
theorem items_arg (w : World) (ab ao ac : Nat) (A : Option Addr) (l c : Nat) (k n : Int) (t : ByteArray) (h0 : w.cell? ⟨ab, ao, none⟩ = some (.int .i64 k)) (h1 : w.cell? ⟨ab, ao + 1, none⟩ = some (.int .i64 n)) (h2 : w.cell? ⟨ab, ao + 2, none⟩ = some (.string t)) (h3 : w.cell? ⟨ab, ao + 3, none⟩ = some (.slice A l c)) :
    Calls Tryz.prog 21 #[.slice (some ⟨ab, ao, none⟩) 1 ac, .int .i64 0] w fun e w' => e = .returned (.slice A l c) ∧ Below w.heap.size w w' := by
  go_enter Tryz.func21, Tryz.ntmps21
  go_wp2_with fail
  go_ret
  exact ⟨rfl, Below.refl _ _⟩
end
end Dp
end Go.Proofs.YtopmodahdmnpjaaGreatDoor
