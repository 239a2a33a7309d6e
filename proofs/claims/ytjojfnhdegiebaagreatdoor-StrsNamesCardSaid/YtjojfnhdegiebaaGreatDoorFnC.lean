/- strs: a call's arguments; substr and strlen. -/
import Derived.Test.YtjojfnhdegiebaaGreatDoorFnB
namespace Go.Proofs.YtjojfnhdegiebaaGreatDoor
open Go.RowKit

set_option maxRecDepth 100000 in
theorem conv_text (n : Int) (t : ByteArray) (w : World) : Calls Tryz.prog 85 #[.agg #[.int .i64 3, .int .i64 n, .string t, .slice none 0 0]] w fun e w' => e = .returned (.tuple #[.string t, .int .i64 0]) ∧ Below w.heap.size w w' := by
  have B := (Below.refl w.heap.size w).alloc (Nat.le_refl _) (.cells #[.int .i64 3, .int .i64 n, .string t, .slice none 0 0] 25)
  go_enter Tryz.func85, Tryz.ntmps85
  go_wp2_with fail
  go_ret2
  exact ⟨rfl, B⟩
set_option maxRecDepth 100000 in
theorem conv_number (n : Int) (t : ByteArray) (w : World) : Calls Tryz.prog 103 #[.agg #[.int .i64 2, .int .i64 n, .string t, .slice none 0 0]] w fun e w' => e = .returned (.int .i64 n) ∧ Below w.heap.size w w' := by
  have B := (Below.refl w.heap.size w).alloc (Nat.le_refl _) (.cells #[.int .i64 2, .int .i64 n, .string t, .slice none 0 0] 25)
  go_enter Tryz.func103, Tryz.ntmps103
  go_wp2_with fail
  go_ret
  exact ⟨rfl, B⟩
set_option maxRecDepth 100000 in
theorem text_any (t : ByteArray) (w : World) : Calls Tryz.prog 59 #[.string t] w fun e w' => e = .returned (.tuple #[.agg #[.int .i64 3, .int .i64 0, .string t, .slice none 0 0], .int .i64 0]) ∧ Below w.heap.size w w' := by
  have B := (Below.refl w.heap.size w).alloc (Nat.le_refl _) (.cells #[.int .i64 3, .int .i64 0, .string t, .slice none 0 0] 25)
  have HN := Blk.new w 25 #[.int .i64 3, .int .i64 0, .string t, .slice none 0 0]
  go_enter Tryz.func59, Tryz.ntmps59
  go_wp2_with fail
  generalize w.alloc (.cells #[.int .i64 3, .int .i64 0, .string t, .slice none 0 0] 25) = w1 at *
  have e0 : w1.cell? ⟨w.heap.size, 0, none⟩ = _ := HN.cell 0
  have e1 : w1.cell? ⟨w.heap.size, 1, none⟩ = _ := HN.cell 1
  have e2 : w1.cell? ⟨w.heap.size, 2, none⟩ = _ := HN.cell 2
  have e3 : w1.cell? ⟨w.heap.size, 3, none⟩ = _ := HN.cell 3
  simp at e0 e1 e2 e3
  refine bodyPost_ret (v := .tuple #[.agg #[.int .i64 3, .int .i64 0, .string t, .slice none 0 0], .int .i64 0]) (by simp [results, Tryz.results59, go_sem, e0, e1, e2, e3]) rfl ?_
  exact ⟨rfl, B⟩
set_option maxRecDepth 100000 in
theorem number_any (n : Int) (w : World) : Calls Tryz.prog 22 #[.int .i64 n] w fun e w' => e = .returned (.tuple #[.agg #[.int .i64 2, .int .i64 n, .string ⟨#[]⟩, .slice none 0 0], .int .i64 0]) ∧ Below w.heap.size w w' := by
  have B := (Below.refl w.heap.size w).alloc (Nat.le_refl _) (.cells #[.int .i64 2, .int .i64 n, .string ⟨#[]⟩, .slice none 0 0] 25)
  have HN := Blk.new w 25 #[.int .i64 2, .int .i64 n, .string ⟨#[]⟩, .slice none 0 0]
  go_enter Tryz.func22, Tryz.ntmps22
  go_wp2_with fail
  generalize w.alloc (.cells #[.int .i64 2, .int .i64 n, .string ⟨#[]⟩, .slice none 0 0] 25) = w1 at *
  have e0 : w1.cell? ⟨w.heap.size, 0, none⟩ = _ := HN.cell 0
  have e1 : w1.cell? ⟨w.heap.size, 1, none⟩ = _ := HN.cell 1
  have e2 : w1.cell? ⟨w.heap.size, 2, none⟩ = _ := HN.cell 2
  have e3 : w1.cell? ⟨w.heap.size, 3, none⟩ = _ := HN.cell 3
  simp at e0 e1 e2 e3
  refine bodyPost_ret (v := .tuple #[.agg #[.int .i64 2, .int .i64 n, .string ⟨#[]⟩, .slice none 0 0], .int .i64 0]) (by simp [results, Tryz.results22, go_sem, e0, e1, e2, e3]) rfl ?_
  exact ⟨rfl, B⟩
set_option maxRecDepth 100000 in
theorem s_any (vs : List PV) (i : Nat) (n : Int) (t : ByteArray) (hi : i < vs.length) (hv : vs.getD i default = (3, n, t)) (g cap : Nat) (w : World) (hA : ArgsAt w g vs) :
    Calls Tryz.prog 23 #[.slice (some ⟨g, 0, none⟩) vs.length cap, .int .i64 i] w fun e w' => e = .returned (.string t) ∧ Below w.heap.size w w' := by
  obtain ⟨a0, a1, a2, a3⟩ := hA.2 i hi
  rw [hv] at a0 a1 a2
  dsimp only at a0 a1 a2
  have hI : (i : Int) < (vs.length : Int) := by omega
  have HC := Lib.hid (fun w => conv_text n t w)
  clear hv
  go_enter Tryz.func23, Tryz.ntmps23
  go_wp2_with (go_at_call 85; refine (HC.out _).mono ?_; rintro e w1 ⟨rfl, hb1⟩)
  go_ret
  exact ⟨rfl, hb1⟩
set_option maxRecDepth 100000 in
theorem n_any (vs : List PV) (i : Nat) (n : Int) (t : ByteArray) (hi : i < vs.length) (hv : vs.getD i default = (2, n, t)) (g cap : Nat) (w : World) (hA : ArgsAt w g vs) :
    Calls Tryz.prog 60 #[.slice (some ⟨g, 0, none⟩) vs.length cap, .int .i64 i] w fun e w' => e = .returned (.int .i64 n) ∧ Below w.heap.size w w' := by
  obtain ⟨a0, a1, a2, a3⟩ := hA.2 i hi
  rw [hv] at a0 a1 a2
  dsimp only at a0 a1 a2
  have hI : (i : Int) < (vs.length : Int) := by omega
  have HC := Lib.hid (fun w => conv_number n t w)
  clear hv
  go_enter Tryz.func60, Tryz.ntmps60
  go_wp2_with (go_at_call 103; refine (HC.out _).mono ?_; rintro e w1 ⟨rfl, hb1⟩)
  go_ret
  exact ⟨rfl, hb1⟩
end Go.Proofs.YtjojfnhdegiebaaGreatDoor
