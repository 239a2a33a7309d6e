/- strs: strlen and substr. -/
import Derived.Test.YtjojfnhdegiebaaGreatDoorFnC
namespace Go.Proofs.YtjojfnhdegiebaaGreatDoor
open Go.RowKit
theorem blk_below {w w' : World} {g : Nat} {t : TypeId} {cs : Array Value} (h : Blk w g t cs) (hb : Below w.heap.size w w') : Blk w' g t cs := h.keeps (Keeps.of_below (S := fun _ => False) hb) id

set_option maxRecDepth 100000 in
theorem strlen_do (s : ByteArray) (g cap : Nat) (w : World) (hA : ArgsAt w g [(3, 0, s)]) :
    Calls Tryz.prog 21 #[.slice (some ⟨g, 0, none⟩) 1 cap] w fun e w' => e = .returned (.tuple #[.agg #[.int .i64 2, .int .i64 s.size, .string ⟨#[]⟩, .slice none 0 0], .int .i64 0]) ∧ Below w.heap.size w w' := by
  have HS := Lib.hid (fun w hA => s_any [(3, 0, s)] 0 0 s (by simp) rfl g cap w hA)
  have HN := Lib.hid (fun w => number_any (s.size : Int) w)
  go_enter Tryz.func21, Tryz.ntmps21
  go_wp2_with fail
  have hb0 := (Below.refl w.heap.size w).alloc (Nat.le_refl _) (.cells #[.int .i64 0, .int .i64 0, .string ⟨#[]⟩, .slice none 0 0] 25)
  have hZ := Blk.new w 25 #[.int .i64 0, .int .i64 0, .string ⟨#[]⟩, .slice none 0 0]
  have hA0 := hA.below hb0 (Nat.le_refl _)
  generalize w.alloc (.cells #[.int .i64 0, .int .i64 0, .string ⟨#[]⟩, .slice none 0 0] 25) = w0 at *
  refine (HS.out _ hA0).mono ?_
  rintro e w1 ⟨rfl, hb1⟩
  clear HS hA hA0
  go_wp2_with fail
  refine (HN.out _).mono ?_
  rintro e w2 ⟨rfl, hb2⟩
  have HZe := Lib.hid (blk_below (blk_below hZ hb1) hb2)
  have HBe := Lib.hid ((hb0.trans (hb1.mono hb0.size)).trans (hb2.mono (Nat.le_trans hb0.size hb1.size)))
  have c0 : w2.cell? ⟨w.heap.size, 0, none⟩ = some (.int .i64 0) := HZe.out.cell 0
  have c1 : w2.cell? ⟨w.heap.size, 1, none⟩ = some (.int .i64 0) := HZe.out.cell 1
  have c2 : w2.cell? ⟨w.heap.size, 2, none⟩ = some (.string ⟨#[]⟩) := HZe.out.cell 2
  have c3 : w2.cell? ⟨w.heap.size, 3, none⟩ = some (.slice none 0 0) := HZe.out.cell 3
  have z0 := HZe.out.frozen 0
  have z1 := HZe.out.frozen 1
  have z2 := HZe.out.frozen 2
  have z3 := HZe.out.frozen 3
  go_wp2_with fail
  have HV7 := (((HZe.out.set_ 0 (.int .i64 2)).set_ 1 (.int .i64 s.size)).set_ 2 (.string ⟨#[]⟩)).set_ 3 (.slice none 0 0)
  have HB7 := (((HBe.out.setCell (p := ⟨w.heap.size, 0, none⟩) (Nat.le_refl _) (.int .i64 2)).setCell (p := ⟨w.heap.size, 1, none⟩) (Nat.le_refl _) (.int .i64 s.size)).setCell (p := ⟨w.heap.size, 2, none⟩) (Nat.le_refl _) (.string ⟨#[]⟩)).setCell (p := ⟨w.heap.size, 3, none⟩) (Nat.le_refl _) (.slice none 0 0)
  generalize (((w2.setCell ⟨w.heap.size, 0, none⟩ (.int .i64 2)).setCell ⟨w.heap.size, 1, none⟩ (.int .i64 s.size)).setCell ⟨w.heap.size, 2, none⟩ (.string ⟨#[]⟩)).setCell ⟨w.heap.size, 3, none⟩ (.slice none 0 0) = w7 at *
  have e0 : w7.cell? ⟨w.heap.size, 0, none⟩ = some (.int .i64 2) := HV7.cell 0
  have e1 : w7.cell? ⟨w.heap.size, 1, none⟩ = some (.int .i64 s.size) := HV7.cell 1
  have e2 : w7.cell? ⟨w.heap.size, 2, none⟩ = some (.string ⟨#[]⟩) := HV7.cell 2
  have e3 : w7.cell? ⟨w.heap.size, 3, none⟩ = some (.slice none 0 0) := HV7.cell 3
  refine bodyPost_ret (v := .tuple #[.agg #[.int .i64 2, .int .i64 s.size, .string ⟨#[]⟩, .slice none 0 0], .int .i64 0]) (by simp [results, Tryz.results21, go_sem, e0, e1, e2, e3]) rfl ?_
  exact ⟨rfl, HB7⟩

set_option maxRecDepth 100000 in
set_option maxHeartbeats 1000000 in
theorem substr_two (s : ByteArray) (hs : s.size ≤ maxLen) (n : Int) (h0 : 0 ≤ n) (g cap : Nat) (w : World) (hA : ArgsAt w g [(3, 0, s), (2, n, ⟨#[]⟩)]) :
    Calls Tryz.prog 40 #[.slice (some ⟨g, 0, none⟩) 2 cap] w fun e w' => e = .returned (.tuple #[.agg #[.int .i64 3, .int .i64 0, .string (s.extract n.toNat s.size), .slice none 0 0], .int .i64 0]) ∧ Below w.heap.size w w' := by
  have HT := Lib.hid (fun w t => text_any t w)
  have HS := Lib.hid (fun w hA => s_any [(3, 0, s), (2, n, ⟨#[]⟩)] 0 0 s (by simp) rfl g cap w hA)
  have HN := Lib.hid (fun w hA => n_any [(3, 0, s), (2, n, ⟨#[]⟩)] 1 n ⟨#[]⟩ (by simp) rfl g cap w hA)
  have hml : s.size ≤ 9223372036854775807 := by unfold maxLen at hs; omega
  have hneg : ¬ (n < -(s.size : Int)) := by omega
  have hneg2 : IntKind.i64.wrap (-(s.size : Int)) = -(s.size : Int) := IntWalk.i64_in _ (by omega)
  by_cases hn : (s.size : Int) ≤ n
  · have he : s.extract n.toNat s.size = ⟨#[]⟩ := by apply ByteArray.ext; simp; omega
    rw [he]
    clear he
    go_enter Tryz.func40, Tryz.ntmps40
    go_wp2_with fail
    have hb0 := (Below.refl w.heap.size w).alloc (Nat.le_refl _) (.cells #[.int .i64 0, .int .i64 0, .string ⟨#[]⟩, .slice none 0 0] 25)
    have hZ := Blk.new w 25 #[.int .i64 0, .int .i64 0, .string ⟨#[]⟩, .slice none 0 0]
    have hA0 := hA.below hb0 (Nat.le_refl _)
    generalize w.alloc (.cells #[.int .i64 0, .int .i64 0, .string ⟨#[]⟩, .slice none 0 0] 25) = w0 at *
    refine (HS.out _ hA0).mono ?_
    rintro e w1 ⟨rfl, hb1⟩
    have hA1 := hA0.below hb1 (Nat.le_refl _)
    clear HS hA hA0
    go_wp2_with fail
    refine (HN.out _ hA1).mono ?_
    rintro e w2 ⟨rfl, hb2⟩
    clear hA1 HN
    go_wp2_with fail
    refine (HT.out _ _).mono ?_
    rintro e w3 ⟨rfl, hb3⟩
    clear HT
    have HZe := Lib.hid (blk_below (blk_below (blk_below hZ hb1) hb2) hb3)
    have HBe := Lib.hid (((hb0.trans (hb1.mono hb0.size)).trans (hb2.mono (Nat.le_trans hb0.size hb1.size))).trans (hb3.mono (Nat.le_trans (Nat.le_trans hb0.size hb1.size) hb2.size)))
    have c0 : w3.cell? ⟨w.heap.size, 0, none⟩ = some (.int .i64 0) := HZe.out.cell 0
    have c1 : w3.cell? ⟨w.heap.size, 1, none⟩ = some (.int .i64 0) := HZe.out.cell 1
    have c2 : w3.cell? ⟨w.heap.size, 2, none⟩ = some (.string ⟨#[]⟩) := HZe.out.cell 2
    have c3 : w3.cell? ⟨w.heap.size, 3, none⟩ = some (.slice none 0 0) := HZe.out.cell 3
    have z0 := HZe.out.frozen 0
    have z1 := HZe.out.frozen 1
    have z2 := HZe.out.frozen 2
    have z3 := HZe.out.frozen 3
    go_wp2_with fail
    have HV7 := (((HZe.out.set_ 0 (.int .i64 3)).set_ 1 (.int .i64 0)).set_ 2 (.string ⟨#[]⟩)).set_ 3 (.slice none 0 0)
    have HB7 := (((HBe.out.setCell (p := ⟨w.heap.size, 0, none⟩) (Nat.le_refl _) (.int .i64 3)).setCell (p := ⟨w.heap.size, 1, none⟩) (Nat.le_refl _) (.int .i64 0)).setCell (p := ⟨w.heap.size, 2, none⟩) (Nat.le_refl _) (.string ⟨#[]⟩)).setCell (p := ⟨w.heap.size, 3, none⟩) (Nat.le_refl _) (.slice none 0 0)
    generalize (((w3.setCell ⟨w.heap.size, 0, none⟩ (.int .i64 3)).setCell ⟨w.heap.size, 1, none⟩ (.int .i64 0)).setCell ⟨w.heap.size, 2, none⟩ (.string ⟨#[]⟩)).setCell ⟨w.heap.size, 3, none⟩ (.slice none 0 0) = w7 at *
    have e0 : w7.cell? ⟨w.heap.size, 0, none⟩ = some (.int .i64 3) := HV7.cell 0
    have e1 : w7.cell? ⟨w.heap.size, 1, none⟩ = some (.int .i64 0) := HV7.cell 1
    have e2 : w7.cell? ⟨w.heap.size, 2, none⟩ = some (.string ⟨#[]⟩) := HV7.cell 2
    have e3 : w7.cell? ⟨w.heap.size, 3, none⟩ = some (.slice none 0 0) := HV7.cell 3
    refine bodyPost_ret (v := .tuple #[.agg #[.int .i64 3, .int .i64 0, .string ⟨#[]⟩, .slice none 0 0], .int .i64 0]) (by simp [results, Tryz.results40, go_sem, e0, e1, e2, e3]) rfl ?_
    exact ⟨rfl, HB7⟩
  · have hn2 : n < (s.size : Int) := by omega
    have hn3 : n.toNat ≤ s.size := by omega
    obtain ⟨k, rfl⟩ : ∃ k : Nat, n = (k : Int) := ⟨n.toNat, by omega⟩
    have hk : ((k : Int)).toNat = k := by omega
    rw [hk]
    go_enter Tryz.func40, Tryz.ntmps40
    go_wp2_with fail
    have hb0 := (Below.refl w.heap.size w).alloc (Nat.le_refl _) (.cells #[.int .i64 0, .int .i64 0, .string ⟨#[]⟩, .slice none 0 0] 25)
    have hZ := Blk.new w 25 #[.int .i64 0, .int .i64 0, .string ⟨#[]⟩, .slice none 0 0]
    have hA0 := hA.below hb0 (Nat.le_refl _)
    generalize w.alloc (.cells #[.int .i64 0, .int .i64 0, .string ⟨#[]⟩, .slice none 0 0] 25) = w0 at *
    refine (HS.out _ hA0).mono ?_
    rintro e w1 ⟨rfl, hb1⟩
    have hA1 := hA0.below hb1 (Nat.le_refl _)
    clear HS hA hA0
    go_wp2_with fail
    refine (HN.out _ hA1).mono ?_
    rintro e w2 ⟨rfl, hb2⟩
    clear hA1 HN
    go_wp2_with fail
    refine (HT.out _ _).mono ?_
    rintro e w3 ⟨rfl, hb3⟩
    clear HT
    have HZe := Lib.hid (blk_below (blk_below (blk_below hZ hb1) hb2) hb3)
    have HBe := Lib.hid (((hb0.trans (hb1.mono hb0.size)).trans (hb2.mono (Nat.le_trans hb0.size hb1.size))).trans (hb3.mono (Nat.le_trans (Nat.le_trans hb0.size hb1.size) hb2.size)))
    have c0 : w3.cell? ⟨w.heap.size, 0, none⟩ = some (.int .i64 0) := HZe.out.cell 0
    have c1 : w3.cell? ⟨w.heap.size, 1, none⟩ = some (.int .i64 0) := HZe.out.cell 1
    have c2 : w3.cell? ⟨w.heap.size, 2, none⟩ = some (.string ⟨#[]⟩) := HZe.out.cell 2
    have c3 : w3.cell? ⟨w.heap.size, 3, none⟩ = some (.slice none 0 0) := HZe.out.cell 3
    have z0 := HZe.out.frozen 0
    have z1 := HZe.out.frozen 1
    have z2 := HZe.out.frozen 2
    have z3 := HZe.out.frozen 3
    go_wp2_with fail
    have HV7 := (((HZe.out.set_ 0 (.int .i64 3)).set_ 1 (.int .i64 0)).set_ 2 (.string (s.extract k s.size))).set_ 3 (.slice none 0 0)
    have HB7 := (((HBe.out.setCell (p := ⟨w.heap.size, 0, none⟩) (Nat.le_refl _) (.int .i64 3)).setCell (p := ⟨w.heap.size, 1, none⟩) (Nat.le_refl _) (.int .i64 0)).setCell (p := ⟨w.heap.size, 2, none⟩) (Nat.le_refl _) (.string (s.extract k s.size))).setCell (p := ⟨w.heap.size, 3, none⟩) (Nat.le_refl _) (.slice none 0 0)
    generalize (((w3.setCell ⟨w.heap.size, 0, none⟩ (.int .i64 3)).setCell ⟨w.heap.size, 1, none⟩ (.int .i64 0)).setCell ⟨w.heap.size, 2, none⟩ (.string (s.extract k s.size))).setCell ⟨w.heap.size, 3, none⟩ (.slice none 0 0) = w7 at *
    have e0 : w7.cell? ⟨w.heap.size, 0, none⟩ = some (.int .i64 3) := HV7.cell 0
    have e1 : w7.cell? ⟨w.heap.size, 1, none⟩ = some (.int .i64 0) := HV7.cell 1
    have e2 : w7.cell? ⟨w.heap.size, 2, none⟩ = some (.string (s.extract k s.size)) := HV7.cell 2
    have e3 : w7.cell? ⟨w.heap.size, 3, none⟩ = some (.slice none 0 0) := HV7.cell 3
    refine bodyPost_ret (v := .tuple #[.agg #[.int .i64 3, .int .i64 0, .string (s.extract k s.size), .slice none 0 0], .int .i64 0]) (by simp [results, Tryz.results40, go_sem, e0, e1, e2, e3]) rfl ?_
    exact ⟨rfl, HB7⟩


set_option maxRecDepth 100000 in
set_option maxHeartbeats 1000000 in
theorem substr_three (s : ByteArray) (hs : s.size ≤ maxLen) (n : Int) (h0 : 0 ≤ n) (g cap : Nat) (w : World) (hA : ArgsAt w g [(3, 0, s), (2, 0, ⟨#[]⟩), (2, n, ⟨#[]⟩)]) :
    Calls Tryz.prog 40 #[.slice (some ⟨g, 0, none⟩) 3 cap] w fun e w' => e = .returned (.tuple #[.agg #[.int .i64 3, .int .i64 0, .string (s.extract 0 (min n.toNat s.size)), .slice none 0 0], .int .i64 0]) ∧ Below w.heap.size w w' := by
  have HT := Lib.hid (fun w t => text_any t w)
  have HS := Lib.hid (fun w hA => s_any [(3, 0, s), (2, 0, ⟨#[]⟩), (2, n, ⟨#[]⟩)] 0 0 s (by simp) rfl g cap w hA)
  have HN := Lib.hid (fun w hA => n_any [(3, 0, s), (2, 0, ⟨#[]⟩), (2, n, ⟨#[]⟩)] 1 0 ⟨#[]⟩ (by simp) rfl g cap w hA)
  have HM := Lib.hid (fun w hA => n_any [(3, 0, s), (2, 0, ⟨#[]⟩), (2, n, ⟨#[]⟩)] 2 n ⟨#[]⟩ (by simp) rfl g cap w hA)
  have hml : s.size ≤ 9223372036854775807 := by unfold maxLen at hs; omega
  have hneg : ¬ (n < -(s.size : Int)) := by omega
  have hneg2 : IntKind.i64.wrap (-(s.size : Int)) = -(s.size : Int) := IntWalk.i64_in _ (by omega)
  have hn0 : ¬ (n < 0) := by omega
  by_cases hz : s.size = 0
  · have he : s.extract 0 (min n.toNat s.size) = ⟨#[]⟩ := by rw [show min n.toNat s.size = 0 by omega]; apply ByteArray.ext; simp
    have hzI : (s.size : Int) ≤ 0 := by omega
    rw [he]
    clear he HM
    go_enter Tryz.func40, Tryz.ntmps40
    go_wp2_with fail
    have hb0 := (Below.refl w.heap.size w).alloc (Nat.le_refl _) (.cells #[.int .i64 0, .int .i64 0, .string ⟨#[]⟩, .slice none 0 0] 25)
    have hZ := Blk.new w 25 #[.int .i64 0, .int .i64 0, .string ⟨#[]⟩, .slice none 0 0]
    have hA0 := hA.below hb0 (Nat.le_refl _)
    generalize w.alloc (.cells #[.int .i64 0, .int .i64 0, .string ⟨#[]⟩, .slice none 0 0] 25) = w0 at *
    refine (HS.out _ hA0).mono ?_
    rintro e w1 ⟨rfl, hb1⟩
    have hA1 := hA0.below hb1 (Nat.le_refl _)
    clear HS hA hA0
    go_wp2_with fail
    refine (HN.out _ hA1).mono ?_
    rintro e w2 ⟨rfl, hb2⟩
    clear hA1 HN
    go_wp2_with fail
    refine (HT.out _ _).mono ?_
    rintro e w3 ⟨rfl, hb3⟩
    clear HT
    have HZe := Lib.hid (blk_below (blk_below (blk_below hZ hb1) hb2) hb3)
    have HBe := Lib.hid (((hb0.trans (hb1.mono hb0.size)).trans (hb2.mono (Nat.le_trans hb0.size hb1.size))).trans (hb3.mono (Nat.le_trans (Nat.le_trans hb0.size hb1.size) hb2.size)))
    have c0 : w3.cell? ⟨w.heap.size, 0, none⟩ = some (.int .i64 0) := HZe.out.cell 0
    have c1 : w3.cell? ⟨w.heap.size, 1, none⟩ = some (.int .i64 0) := HZe.out.cell 1
    have c2 : w3.cell? ⟨w.heap.size, 2, none⟩ = some (.string ⟨#[]⟩) := HZe.out.cell 2
    have c3 : w3.cell? ⟨w.heap.size, 3, none⟩ = some (.slice none 0 0) := HZe.out.cell 3
    have z0 := HZe.out.frozen 0
    have z1 := HZe.out.frozen 1
    have z2 := HZe.out.frozen 2
    have z3 := HZe.out.frozen 3
    go_wp2_with fail
    have HV7 := (((HZe.out.set_ 0 (.int .i64 3)).set_ 1 (.int .i64 0)).set_ 2 (.string ⟨#[]⟩)).set_ 3 (.slice none 0 0)
    have HB7 := (((HBe.out.setCell (p := ⟨w.heap.size, 0, none⟩) (Nat.le_refl _) (.int .i64 3)).setCell (p := ⟨w.heap.size, 1, none⟩) (Nat.le_refl _) (.int .i64 0)).setCell (p := ⟨w.heap.size, 2, none⟩) (Nat.le_refl _) (.string ⟨#[]⟩)).setCell (p := ⟨w.heap.size, 3, none⟩) (Nat.le_refl _) (.slice none 0 0)
    generalize (((w3.setCell ⟨w.heap.size, 0, none⟩ (.int .i64 3)).setCell ⟨w.heap.size, 1, none⟩ (.int .i64 0)).setCell ⟨w.heap.size, 2, none⟩ (.string ⟨#[]⟩)).setCell ⟨w.heap.size, 3, none⟩ (.slice none 0 0) = w7 at *
    have e0 : w7.cell? ⟨w.heap.size, 0, none⟩ = some (.int .i64 3) := HV7.cell 0
    have e1 : w7.cell? ⟨w.heap.size, 1, none⟩ = some (.int .i64 0) := HV7.cell 1
    have e2 : w7.cell? ⟨w.heap.size, 2, none⟩ = some (.string ⟨#[]⟩) := HV7.cell 2
    have e3 : w7.cell? ⟨w.heap.size, 3, none⟩ = some (.slice none 0 0) := HV7.cell 3
    refine bodyPost_ret (v := .tuple #[.agg #[.int .i64 3, .int .i64 0, .string ⟨#[]⟩, .slice none 0 0], .int .i64 0]) (by simp [results, Tryz.results40, go_sem, e0, e1, e2, e3]) rfl ?_
    exact ⟨rfl, HB7⟩
  · have hzI : ¬ ((s.size : Int) ≤ 0) := by omega
    have hz2 : 0 < s.size := by omega
    have hx : s.extract 0 s.size = s := by simp
    by_cases hn : n ≤ (s.size : Int)
    · obtain ⟨k, rfl⟩ : ∃ k : Nat, n = (k : Int) := ⟨n.toNat, by omega⟩
      have hk : min ((k : Int)).toNat s.size = k := by omega
      have hmin : min (k : Int) (s.size : Int) = (k : Int) := by omega
      have hks : k ≤ s.size := by omega
      rw [hk]
      go_enter Tryz.func40, Tryz.ntmps40
      go_wp2_with fail
      have hb0 := (Below.refl w.heap.size w).alloc (Nat.le_refl _) (.cells #[.int .i64 0, .int .i64 0, .string ⟨#[]⟩, .slice none 0 0] 25)
      have hZ := Blk.new w 25 #[.int .i64 0, .int .i64 0, .string ⟨#[]⟩, .slice none 0 0]
      have hA0 := hA.below hb0 (Nat.le_refl _)
      generalize w.alloc (.cells #[.int .i64 0, .int .i64 0, .string ⟨#[]⟩, .slice none 0 0] 25) = w0 at *
      refine (HS.out _ hA0).mono ?_
      rintro e w1 ⟨rfl, hb1⟩
      have hA1 := hA0.below hb1 (Nat.le_refl _)
      clear HS hA hA0
      go_wp2_with fail
      refine (HN.out _ hA1).mono ?_
      rintro e w2 ⟨rfl, hb2⟩
      have hA2 := hA1.below hb2 (Nat.le_refl _)
      clear hA1 HN
      go_wp2_with fail
      refine (HM.out _ hA2).mono ?_
      rintro e w3 ⟨rfl, hb3⟩
      clear hA2 HM
      go_wp2_with fail
      refine (HT.out _ _).mono ?_
      rintro e w4 ⟨rfl, hb4⟩
      clear HT
      have HZe := Lib.hid (blk_below (blk_below (blk_below (blk_below hZ hb1) hb2) hb3) hb4)
      have HBe := Lib.hid ((((hb0.trans (hb1.mono hb0.size)).trans (hb2.mono (Nat.le_trans hb0.size hb1.size))).trans (hb3.mono (Nat.le_trans (Nat.le_trans hb0.size hb1.size) hb2.size))).trans (hb4.mono (Nat.le_trans (Nat.le_trans (Nat.le_trans hb0.size hb1.size) hb2.size) hb3.size)))
      have c0 : w4.cell? ⟨w.heap.size, 0, none⟩ = some (.int .i64 0) := HZe.out.cell 0
      have c1 : w4.cell? ⟨w.heap.size, 1, none⟩ = some (.int .i64 0) := HZe.out.cell 1
      have c2 : w4.cell? ⟨w.heap.size, 2, none⟩ = some (.string ⟨#[]⟩) := HZe.out.cell 2
      have c3 : w4.cell? ⟨w.heap.size, 3, none⟩ = some (.slice none 0 0) := HZe.out.cell 3
      have z0 := HZe.out.frozen 0
      have z1 := HZe.out.frozen 1
      have z2 := HZe.out.frozen 2
      have z3 := HZe.out.frozen 3
      go_wp2_with fail
      have HV7 := (((HZe.out.set_ 0 (.int .i64 3)).set_ 1 (.int .i64 0)).set_ 2 (.string (s.extract 0 k))).set_ 3 (.slice none 0 0)
      have HB7 := (((HBe.out.setCell (p := ⟨w.heap.size, 0, none⟩) (Nat.le_refl _) (.int .i64 3)).setCell (p := ⟨w.heap.size, 1, none⟩) (Nat.le_refl _) (.int .i64 0)).setCell (p := ⟨w.heap.size, 2, none⟩) (Nat.le_refl _) (.string (s.extract 0 k))).setCell (p := ⟨w.heap.size, 3, none⟩) (Nat.le_refl _) (.slice none 0 0)
      generalize (((w4.setCell ⟨w.heap.size, 0, none⟩ (.int .i64 3)).setCell ⟨w.heap.size, 1, none⟩ (.int .i64 0)).setCell ⟨w.heap.size, 2, none⟩ (.string (s.extract 0 k))).setCell ⟨w.heap.size, 3, none⟩ (.slice none 0 0) = w7 at *
      have e0 : w7.cell? ⟨w.heap.size, 0, none⟩ = some (.int .i64 3) := HV7.cell 0
      have e1 : w7.cell? ⟨w.heap.size, 1, none⟩ = some (.int .i64 0) := HV7.cell 1
      have e2 : w7.cell? ⟨w.heap.size, 2, none⟩ = some (.string (s.extract 0 k)) := HV7.cell 2
      have e3 : w7.cell? ⟨w.heap.size, 3, none⟩ = some (.slice none 0 0) := HV7.cell 3
      refine bodyPost_ret (v := .tuple #[.agg #[.int .i64 3, .int .i64 0, .string (s.extract 0 k), .slice none 0 0], .int .i64 0]) (by simp [results, Tryz.results40, go_sem, e0, e1, e2, e3]) rfl ?_
      exact ⟨rfl, HB7⟩
    · have hk : min n.toNat s.size = s.size := by omega
      have hmin : min n (s.size : Int) = (s.size : Int) := by omega
      rw [hk, hx]
      go_enter Tryz.func40, Tryz.ntmps40
      go_wp2_with fail
      have hb0 := (Below.refl w.heap.size w).alloc (Nat.le_refl _) (.cells #[.int .i64 0, .int .i64 0, .string ⟨#[]⟩, .slice none 0 0] 25)
      have hZ := Blk.new w 25 #[.int .i64 0, .int .i64 0, .string ⟨#[]⟩, .slice none 0 0]
      have hA0 := hA.below hb0 (Nat.le_refl _)
      generalize w.alloc (.cells #[.int .i64 0, .int .i64 0, .string ⟨#[]⟩, .slice none 0 0] 25) = w0 at *
      refine (HS.out _ hA0).mono ?_
      rintro e w1 ⟨rfl, hb1⟩
      have hA1 := hA0.below hb1 (Nat.le_refl _)
      clear HS hA hA0
      go_wp2_with fail
      refine (HN.out _ hA1).mono ?_
      rintro e w2 ⟨rfl, hb2⟩
      have hA2 := hA1.below hb2 (Nat.le_refl _)
      clear hA1 HN
      go_wp2_with fail
      refine (HM.out _ hA2).mono ?_
      rintro e w3 ⟨rfl, hb3⟩
      clear hA2 HM
      go_wp2_with fail
      refine (HT.out _ _).mono ?_
      rintro e w4 ⟨rfl, hb4⟩
      clear HT
      have HZe := Lib.hid (blk_below (blk_below (blk_below (blk_below hZ hb1) hb2) hb3) hb4)
      have HBe := Lib.hid ((((hb0.trans (hb1.mono hb0.size)).trans (hb2.mono (Nat.le_trans hb0.size hb1.size))).trans (hb3.mono (Nat.le_trans (Nat.le_trans hb0.size hb1.size) hb2.size))).trans (hb4.mono (Nat.le_trans (Nat.le_trans (Nat.le_trans hb0.size hb1.size) hb2.size) hb3.size)))
      have c0 : w4.cell? ⟨w.heap.size, 0, none⟩ = some (.int .i64 0) := HZe.out.cell 0
      have c1 : w4.cell? ⟨w.heap.size, 1, none⟩ = some (.int .i64 0) := HZe.out.cell 1
      have c2 : w4.cell? ⟨w.heap.size, 2, none⟩ = some (.string ⟨#[]⟩) := HZe.out.cell 2
      have c3 : w4.cell? ⟨w.heap.size, 3, none⟩ = some (.slice none 0 0) := HZe.out.cell 3
      have z0 := HZe.out.frozen 0
      have z1 := HZe.out.frozen 1
      have z2 := HZe.out.frozen 2
      have z3 := HZe.out.frozen 3
      go_wp2_with fail
      have HV7 := (((HZe.out.set_ 0 (.int .i64 3)).set_ 1 (.int .i64 0)).set_ 2 (.string s)).set_ 3 (.slice none 0 0)
      have HB7 := (((HBe.out.setCell (p := ⟨w.heap.size, 0, none⟩) (Nat.le_refl _) (.int .i64 3)).setCell (p := ⟨w.heap.size, 1, none⟩) (Nat.le_refl _) (.int .i64 0)).setCell (p := ⟨w.heap.size, 2, none⟩) (Nat.le_refl _) (.string s)).setCell (p := ⟨w.heap.size, 3, none⟩) (Nat.le_refl _) (.slice none 0 0)
      generalize (((w4.setCell ⟨w.heap.size, 0, none⟩ (.int .i64 3)).setCell ⟨w.heap.size, 1, none⟩ (.int .i64 0)).setCell ⟨w.heap.size, 2, none⟩ (.string s)).setCell ⟨w.heap.size, 3, none⟩ (.slice none 0 0) = w7 at *
      have e0 : w7.cell? ⟨w.heap.size, 0, none⟩ = some (.int .i64 3) := HV7.cell 0
      have e1 : w7.cell? ⟨w.heap.size, 1, none⟩ = some (.int .i64 0) := HV7.cell 1
      have e2 : w7.cell? ⟨w.heap.size, 2, none⟩ = some (.string s) := HV7.cell 2
      have e3 : w7.cell? ⟨w.heap.size, 3, none⟩ = some (.slice none 0 0) := HV7.cell 3
      refine bodyPost_ret (v := .tuple #[.agg #[.int .i64 3, .int .i64 0, .string s, .slice none 0 0], .int .i64 0]) (by simp [results, Tryz.results40, go_sem, e0, e1, e2, e3]) rfl ?_
      exact ⟨rfl, HB7⟩

end Go.Proofs.YtjojfnhdegiebaaGreatDoor
