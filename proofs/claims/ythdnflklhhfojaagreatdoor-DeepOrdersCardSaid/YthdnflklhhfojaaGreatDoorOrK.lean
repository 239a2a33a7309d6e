/- deep.order and the document's: the order of two values: the walks. -/
import Derived.Test.YthdnflklhhfojaaGreatDoorOrG
import Derived.Test.YthdnflklhhfojaaGreatDoorOrI
namespace Go.Proofs.YthdnflklhhfojaaGreatDoor
open Go Go.RowKit
namespace Dp
def tvI (p : Bool) : Int := if p = true then 1 else 0
def rankI (k : Int) : Int := if k = 4 then 2 else if k = 5 then 1 else 0
theorem order_truths (p q : Bool) : orderP 1 (tvI p) ⟨#[]⟩ 1 (tvI q) ⟨#[]⟩ = truthsI p q := by
  unfold orderP
  rw [if_pos (by decide)]
  cases p <;> cases q <;> rfl
section
variable (n n' : Int) (t t' : ByteArray) (A A' : Option Addr) (l l' c c' : Nat) (w : World)
theorem dplain_b (n : Int) (t : ByteArray) (A : Option Addr) (l c : Nat) (w : World) (k : Int) : Calls Tryz.prog 70 #[.agg #[.int .i64 k, .int .i64 n, .string t, .slice A l c]] w fun e w' => e = .returned (.bool (plainB k)) ∧ Below w.heap.size w w' := by
  refine (dplain_any n t A l c w k).mono ?_
  rintro e w' ⟨rfl, rfl⟩
  exact ⟨rfl, (Below.refl w.heap.size w).alloc (Nat.le_refl _) _⟩
theorem plain_t {k : Int} (h0 : 0 ≤ k) (h3 : k ≤ 3) : plainB k = true := by simp [plainB]; omega
theorem plain_f {k : Int} (h3 : 4 ≤ k) : plainB k = false := by simp [plainB]; omega
set_option maxRecDepth 100000 in
set_option maxHeartbeats 1000000 in
theorem dtruth_any (n : Int) (t : ByteArray) (A : Option Addr) (l c : Nat) (w : World) (k : Int) : Calls Tryz.prog 72 #[.agg #[.int .i64 k, .int .i64 n, .string t, .slice A l c]] w fun e w' => e = .returned (.agg #[.int .i64 1, .int .i64 (tvI (truthK k n t l)), .string ⟨#[]⟩, .slice none 0 0]) ∧ Below w.heap.size w w' := by
  have HB := Lib.hid (((Below.refl w.heap.size w).alloc (Nat.le_refl _) (.cells #[.int .i64 k, .int .i64 n, .string t, .slice A l c] 27)).alloc (by simp) (.cells #[.int .i64 0, .int .i64 0, .string ⟨#[]⟩, .slice none 0 0] 27))
  have hy := Blk.new (w.alloc (.cells #[.int .i64 k, .int .i64 n, .string t, .slice A l c] 27)) 27 #[.int .i64 0, .int .i64 0, .string ⟨#[]⟩, .slice none 0 0]
  have hw1 : (w.alloc (.cells #[.int .i64 k, .int .i64 n, .string t, .slice A l c] 27)).heap.size = w.heap.size + 1 := by simp
  rw [hw1] at hy
  have HY := Lib.hid hy
  clear hy hw1
  have HT := Lib.hid (fun w => ctruth_any n t A l c w k)
  generalize truthK k n t l = p at *
  go_enter Tryz.func72, Tryz.ntmps72
  cases p with
  | true =>
    go_wp2_with (go_at_call 108; refine (HT.out _).mono ?_; rintro e w3 ⟨rfl, hb⟩; have HB3 := Lib.hid (HB.out.trans (hb.mono HB.out.size)); have HY3 := Lib.hid (blk_below HY.out hb); have y0 := HY3.out.cell 0; have y1 := HY3.out.cell 1; have y2 := HY3.out.cell 2; have y3 := HY3.out.cell 3; have z0 := HY3.out.frozen 0; have z1 := HY3.out.frozen 1; have z2 := HY3.out.frozen 2; have z3 := HY3.out.frozen 3; clear hb)
    have HB7 := Lib.hid ((((HB3.out.setCell (p := ⟨w.heap.size + 1, 0, none⟩) (by simp) (.int .i64 1)).setCell (p := ⟨w.heap.size + 1, 1, none⟩) (by simp) (.int .i64 1)).setCell (p := ⟨w.heap.size + 1, 2, none⟩) (by simp) (.string ⟨#[]⟩)).setCell (p := ⟨w.heap.size + 1, 3, none⟩) (by simp) (.slice none 0 0))
    have HY7 := Lib.hid ((((HY3.out.set_ 0 (.int .i64 1)).set_ 1 (.int .i64 1)).set_ 2 (.string ⟨#[]⟩)).set_ 3 (.slice none 0 0))
    generalize (((w3.setCell ⟨w.heap.size + 1, 0, none⟩ (.int .i64 1)).setCell ⟨w.heap.size + 1, 1, none⟩ (.int .i64 1)).setCell ⟨w.heap.size + 1, 2, none⟩ (.string ⟨#[]⟩)).setCell ⟨w.heap.size + 1, 3, none⟩ (.slice none 0 0) = w7 at *
    have e0 : w7.cell? ⟨w.heap.size + 1, 0, none⟩ = some (.int .i64 1) := HY7.out.cell 0
    have e1 : w7.cell? ⟨w.heap.size + 1, 1, none⟩ = some (.int .i64 1) := HY7.out.cell 1
    have e2 : w7.cell? ⟨w.heap.size + 1, 2, none⟩ = some (.string ⟨#[]⟩) := HY7.out.cell 2
    have e3 : w7.cell? ⟨w.heap.size + 1, 3, none⟩ = some (.slice none 0 0) := HY7.out.cell 3
    refine bodyPost_ret (v := .agg #[.int .i64 1, .int .i64 1, .string ⟨#[]⟩, .slice none 0 0]) (by simp [results, Tryz.results72, go_sem, e0, e1, e2, e3]) rfl ?_
    exact ⟨rfl, HB7.out⟩
  | false =>
    go_wp2_with (go_at_call 108; refine (HT.out _).mono ?_; rintro e w3 ⟨rfl, hb⟩; have HB3 := Lib.hid (HB.out.trans (hb.mono HB.out.size)); have HY3 := Lib.hid (blk_below HY.out hb); have y0 := HY3.out.cell 0; have y1 := HY3.out.cell 1; have y2 := HY3.out.cell 2; have y3 := HY3.out.cell 3; have z0 := HY3.out.frozen 0; have z1 := HY3.out.frozen 1; have z2 := HY3.out.frozen 2; have z3 := HY3.out.frozen 3; clear hb)
    have HB7 := Lib.hid ((((HB3.out.setCell (p := ⟨w.heap.size + 1, 0, none⟩) (by simp) (.int .i64 1)).setCell (p := ⟨w.heap.size + 1, 1, none⟩) (by simp) (.int .i64 0)).setCell (p := ⟨w.heap.size + 1, 2, none⟩) (by simp) (.string ⟨#[]⟩)).setCell (p := ⟨w.heap.size + 1, 3, none⟩) (by simp) (.slice none 0 0))
    have HY7 := Lib.hid ((((HY3.out.set_ 0 (.int .i64 1)).set_ 1 (.int .i64 0)).set_ 2 (.string ⟨#[]⟩)).set_ 3 (.slice none 0 0))
    generalize (((w3.setCell ⟨w.heap.size + 1, 0, none⟩ (.int .i64 1)).setCell ⟨w.heap.size + 1, 1, none⟩ (.int .i64 0)).setCell ⟨w.heap.size + 1, 2, none⟩ (.string ⟨#[]⟩)).setCell ⟨w.heap.size + 1, 3, none⟩ (.slice none 0 0) = w7 at *
    have e0 : w7.cell? ⟨w.heap.size + 1, 0, none⟩ = some (.int .i64 1) := HY7.out.cell 0
    have e1 : w7.cell? ⟨w.heap.size + 1, 1, none⟩ = some (.int .i64 0) := HY7.out.cell 1
    have e2 : w7.cell? ⟨w.heap.size + 1, 2, none⟩ = some (.string ⟨#[]⟩) := HY7.out.cell 2
    have e3 : w7.cell? ⟨w.heap.size + 1, 3, none⟩ = some (.slice none 0 0) := HY7.out.cell 3
    refine bodyPost_ret (v := .agg #[.int .i64 1, .int .i64 0, .string ⟨#[]⟩, .slice none 0 0]) (by simp [results, Tryz.results72, go_sem, e0, e1, e2, e3]) rfl ?_
    exact ⟨rfl, HB7.out⟩
theorem drank_any (n : Int) (t : ByteArray) (A : Option Addr) (l c : Nat) (w : World) (k : Int) (h2 : 2 ≤ k) (h5 : k ≤ 5) : Calls Tryz.prog 74 #[.agg #[.int .i64 k, .int .i64 n, .string t, .slice A l c]] w fun e w' => e = .returned (.int .i64 (rankI k)) ∧ Below w.heap.size w w' := by
  obtain rfl | rfl | rfl | rfl : k = 2 ∨ k = 3 ∨ k = 4 ∨ k = 5 := by omega
  · go_enter Tryz.func74, Tryz.ntmps74
    go_wp2_with fail
    go_ret
    exact ⟨rfl, (Below.refl w.heap.size w).alloc (Nat.le_refl _) _⟩
  · go_enter Tryz.func74, Tryz.ntmps74
    go_wp2_with fail
    go_ret
    exact ⟨rfl, (Below.refl w.heap.size w).alloc (Nat.le_refl _) _⟩
  · go_enter Tryz.func74, Tryz.ntmps74
    go_wp2_with fail
    go_ret
    exact ⟨rfl, (Below.refl w.heap.size w).alloc (Nat.le_refl _) _⟩
  · go_enter Tryz.func74, Tryz.ntmps74
    go_wp2_with fail
    go_ret
    exact ⟨rfl, (Below.refl w.heap.size w).alloc (Nat.le_refl _) _⟩
set_option maxRecDepth 100000 in
set_option maxHeartbeats 2000000 in
theorem dord_plain (k k' : Int) (k0 : 0 ≤ k) (k3 : k ≤ 3) (k0' : 0 ≤ k') (k3' : k' ≤ 3) (h0 : In64 n) (h0' : In64 n') (ht : t.size ≤ 281474976710656) (ht' : t'.size ≤ 281474976710656) (hL : LibS w) : Calls Tryz.prog 44 #[.agg #[.int .i64 k, .int .i64 n, .string t, .slice A l c], .agg #[.int .i64 k', .int .i64 n', .string t', .slice A' l' c']] w fun e w' => e = .returned (.int .i64 (orderP k n t k' n' t')) ∧ Below w.heap.size w w' := by
  have HP := Lib.hid dplain_b
  have HL := Lib.hid hL
  have HO := Lib.hid (fun w1 (hL1 : LibS w1) => corder_any n n' t t' A A' l l' c c' w1 k k' k0 k3 k0' k3' h0 h0' ht ht' hL1)
  have hp := plain_t k0 k3
  have hp' := plain_t k0' k3'
  clear h0 h0' ht ht' hL k0 k3 k0' k3'
  generalize orderP k n t k' n' t' = r at *
  have HU := Lib.hid (Two.made w #[.int .i64 k, .int .i64 n, .string t, .slice A l c] #[.int .i64 k', .int .i64 n', .string t', .slice A' l' c'])
  go_enter Tryz.func44, Tryz.ntmps44
  go_wp2_with (first | (go_at_call 70; refine (HP.out _ _ _ _ _ _ _).mono ?_; rintro e w1 ⟨rfl, hb⟩; have HU := Lib.hid (HU.out.next hb); clear hb; obtain ⟨x0, x1, x2, x3, y0, y1, y2, y3⟩ := HU.out.cells) | (go_at_call 71; refine (HO.out _ (HL.out.below HU.out.1)).mono ?_; rintro e w1 ⟨rfl, hb⟩; have HU := Lib.hid (HU.out.next hb); clear hb; obtain ⟨x0, x1, x2, x3, y0, y1, y2, y3⟩ := HU.out.cells))
  go_ret
  exact ⟨rfl, HU.out.1⟩
set_option maxRecDepth 100000 in
set_option maxHeartbeats 2000000 in
theorem dord_t1 (k k' : Int) (k0 : 0 ≤ k) (k1 : k ≤ 1) (k4' : 4 ≤ k') (hL : LibS w) : Calls Tryz.prog 44 #[.agg #[.int .i64 k, .int .i64 n, .string t, .slice A l c], .agg #[.int .i64 k', .int .i64 n', .string t', .slice A' l' c']] w fun e w' => e = .returned (.int .i64 (truthsI (truthK k n t l) (truthK k' n' t' l'))) ∧ Below w.heap.size w w' := by
  have HP := Lib.hid dplain_b
  have hp := plain_t k0 (show k ≤ 3 by omega)
  have hp' := plain_f k4'
  have d1 : decide (k ≤ 1) = true := decide_eq_true k1
  have HL := Lib.hid hL
  have HT := Lib.hid dtruth_any
  have HO : Hid (∀ (p q : Bool) (w1 : World), LibS w1 → Calls Tryz.prog 71 #[.agg #[.int .i64 1, .int .i64 (tvI p), .string ⟨#[]⟩, .slice none 0 0], .agg #[.int .i64 1, .int .i64 (tvI q), .string ⟨#[]⟩, .slice none 0 0]] w1 fun e w2 => e = .returned (.tuple #[.int .i64 (truthsI p q), .int .i64 0]) ∧ Below w1.heap.size w1 w2) := fun p q w1 hL1 => by
    have := corder_1_x (tvI p) (tvI q) ⟨#[]⟩ ⟨#[]⟩ none none 0 0 0 0 w1 1 (by omega) (by omega)
    rw [order_truths] at this
    exact this
  clear hL
  have HU := Lib.hid (Two.made w #[.int .i64 k, .int .i64 n, .string t, .slice A l c] #[.int .i64 k', .int .i64 n', .string t', .slice A' l' c'])
  go_enter Tryz.func44, Tryz.ntmps44
  go_wp2_with (go_at_call 70; refine (HP.out _ _ _ _ _ _ _).mono ?_; rintro e w1 ⟨rfl, hb⟩; have HU := Lib.hid (HU.out.next hb); clear hb; obtain ⟨x0, x1, x2, x3, y0, y1, y2, y3⟩ := HU.out.cells)
  have HU := Lib.hid HU.out.drew
  go_region_held3 (fun w' => w'.cell? ⟨w.heap.size, 0, none⟩ = some (.int .i64 k) ∧ w'.cell? ⟨w.heap.size, 1, none⟩ = some (.int .i64 n) ∧ w'.cell? ⟨w.heap.size, 2, none⟩ = some (.string t) ∧ w'.cell? ⟨w.heap.size, 3, none⟩ = some (.slice A l c) ∧ w'.cell? ⟨w.heap.size + 1, 0, none⟩ = some (.int .i64 k') ∧ w'.cell? ⟨w.heap.size + 1, 1, none⟩ = some (.int .i64 n') ∧ w'.cell? ⟨w.heap.size + 1, 2, none⟩ = some (.string t') ∧ w'.cell? ⟨w.heap.size + 1, 3, none⟩ = some (.slice A' l' c')) (exact ⟨x0, x1, x2, x3, y0, y1, y2, y3⟩) (first | (go_at_call 72; refine (HT.out _ _ _ _ _ _ _).mono ?_; rintro e w1 ⟨rfl, hb⟩; have HU := Lib.hid (HU.out.next hb); clear hb; obtain ⟨x0, x1, x2, x3, y0, y1, y2, y3⟩ := HU.out.cells) | (go_at_call 71; refine (HO.out _ _ _ (HL.out.below HU.out.1)).mono ?_; rintro e w1 ⟨rfl, hb⟩; have HU := Lib.hid (HU.out.next hb); clear hb; obtain ⟨x0, x1, x2, x3, y0, y1, y2, y3⟩ := HU.out.cells))
  go_wp2_with fail
  go_ret
  exact ⟨rfl, HU.out.1⟩
set_option maxRecDepth 100000 in
set_option maxHeartbeats 2000000 in
theorem dord_t2 (k k' : Int) (k4 : 4 ≤ k) (_k0' : 0 ≤ k') (k1' : k' ≤ 1) (hL : LibS w) : Calls Tryz.prog 44 #[.agg #[.int .i64 k, .int .i64 n, .string t, .slice A l c], .agg #[.int .i64 k', .int .i64 n', .string t', .slice A' l' c']] w fun e w' => e = .returned (.int .i64 (truthsI (truthK k n t l) (truthK k' n' t' l'))) ∧ Below w.heap.size w w' := by
  have HP := Lib.hid dplain_b
  have hp := plain_f k4
  have d1 : decide (k ≤ 1) = false := decide_eq_false (by omega)
  have d2 : decide (k' ≤ 1) = true := decide_eq_true k1'
  have HL := Lib.hid hL
  have HT := Lib.hid dtruth_any
  have HO : Hid (∀ (p q : Bool) (w1 : World), LibS w1 → Calls Tryz.prog 71 #[.agg #[.int .i64 1, .int .i64 (tvI p), .string ⟨#[]⟩, .slice none 0 0], .agg #[.int .i64 1, .int .i64 (tvI q), .string ⟨#[]⟩, .slice none 0 0]] w1 fun e w2 => e = .returned (.tuple #[.int .i64 (truthsI p q), .int .i64 0]) ∧ Below w1.heap.size w1 w2) := fun p q w1 hL1 => by
    have := corder_1_x (tvI p) (tvI q) ⟨#[]⟩ ⟨#[]⟩ none none 0 0 0 0 w1 1 (by omega) (by omega)
    rw [order_truths] at this
    exact this
  clear hL
  have HU := Lib.hid (Two.made w #[.int .i64 k, .int .i64 n, .string t, .slice A l c] #[.int .i64 k', .int .i64 n', .string t', .slice A' l' c'])
  go_enter Tryz.func44, Tryz.ntmps44
  go_wp2_with (go_at_call 70; refine (HP.out _ _ _ _ _ _ _).mono ?_; rintro e w1 ⟨rfl, hb⟩; have HU := Lib.hid (HU.out.next hb); clear hb; obtain ⟨x0, x1, x2, x3, y0, y1, y2, y3⟩ := HU.out.cells)
  have HU := Lib.hid HU.out.drew
  go_region_held3 (fun w' => w'.cell? ⟨w.heap.size, 0, none⟩ = some (.int .i64 k) ∧ w'.cell? ⟨w.heap.size, 1, none⟩ = some (.int .i64 n) ∧ w'.cell? ⟨w.heap.size, 2, none⟩ = some (.string t) ∧ w'.cell? ⟨w.heap.size, 3, none⟩ = some (.slice A l c) ∧ w'.cell? ⟨w.heap.size + 1, 0, none⟩ = some (.int .i64 k') ∧ w'.cell? ⟨w.heap.size + 1, 1, none⟩ = some (.int .i64 n') ∧ w'.cell? ⟨w.heap.size + 1, 2, none⟩ = some (.string t') ∧ w'.cell? ⟨w.heap.size + 1, 3, none⟩ = some (.slice A' l' c')) (exact ⟨x0, x1, x2, x3, y0, y1, y2, y3⟩) (first | (go_at_call 72; refine (HT.out _ _ _ _ _ _ _).mono ?_; rintro e w1 ⟨rfl, hb⟩; have HU := Lib.hid (HU.out.next hb); clear hb; obtain ⟨x0, x1, x2, x3, y0, y1, y2, y3⟩ := HU.out.cells) | (go_at_call 71; refine (HO.out _ _ _ (HL.out.below HU.out.1)).mono ?_; rintro e w1 ⟨rfl, hb⟩; have HU := Lib.hid (HU.out.next hb); clear hb; obtain ⟨x0, x1, x2, x3, y0, y1, y2, y3⟩ := HU.out.cells))
  go_wp2_with fail
  go_ret
  exact ⟨rfl, HU.out.1⟩
set_option maxRecDepth 100000 in
set_option maxHeartbeats 2000000 in
theorem dord_4_5 : Calls Tryz.prog 44 #[.agg #[.int .i64 4, .int .i64 n, .string t, .slice A l c], .agg #[.int .i64 5, .int .i64 n', .string t', .slice A' l' c']] w fun e w' => e = .returned (.int .i64 (1)) ∧ Below w.heap.size w w' := by
  have HP := Lib.hid dplain_b
  have p2 : plainB 2 = true := rfl
  have p3 : plainB 3 = true := rfl
  have p4 : plainB 4 = false := rfl
  have p5 : plainB 5 = false := rfl
  have HR := Lib.hid drank_any
  have r2 : rankI 2 = 0 := rfl
  have r3 : rankI 3 = 0 := rfl
  have r4 : rankI 4 = 2 := rfl
  have r5 : rankI 5 = 1 := rfl
  have HU := Lib.hid (Two.made w #[.int .i64 4, .int .i64 n, .string t, .slice A l c] #[.int .i64 5, .int .i64 n', .string t', .slice A' l' c'])
  go_enter Tryz.func44, Tryz.ntmps44
  go_wp2_with (go_at_call 70; refine (HP.out _ _ _ _ _ _ _).mono ?_; rintro e w1 ⟨rfl, hb⟩; have HU := Lib.hid (HU.out.next hb); clear hb; obtain ⟨x0, x1, x2, x3, y0, y1, y2, y3⟩ := HU.out.cells)
  have HU := Lib.hid HU.out.drew
  go_region_held3 (fun w' => w'.cell? ⟨w.heap.size, 0, none⟩ = some (.int .i64 4) ∧ w'.cell? ⟨w.heap.size, 1, none⟩ = some (.int .i64 n) ∧ w'.cell? ⟨w.heap.size, 2, none⟩ = some (.string t) ∧ w'.cell? ⟨w.heap.size, 3, none⟩ = some (.slice A l c) ∧ w'.cell? ⟨w.heap.size + 1, 0, none⟩ = some (.int .i64 5) ∧ w'.cell? ⟨w.heap.size + 1, 1, none⟩ = some (.int .i64 n') ∧ w'.cell? ⟨w.heap.size + 1, 2, none⟩ = some (.string t') ∧ w'.cell? ⟨w.heap.size + 1, 3, none⟩ = some (.slice A' l' c')) (exact ⟨x0, x1, x2, x3, y0, y1, y2, y3⟩) ((go_at_call 74; refine (HR.out _ _ _ _ _ _ _ (by omega) (by omega)).mono ?_; rintro e w1 ⟨rfl, hb⟩; have HU := Lib.hid (HU.out.next hb); clear hb; obtain ⟨x0, x1, x2, x3, y0, y1, y2, y3⟩ := HU.out.cells))
  go_wp2_with fail
  go_ret
  exact ⟨rfl, HU.out.1⟩
set_option maxRecDepth 100000 in
set_option maxHeartbeats 2000000 in
theorem dord_5_4 : Calls Tryz.prog 44 #[.agg #[.int .i64 5, .int .i64 n, .string t, .slice A l c], .agg #[.int .i64 4, .int .i64 n', .string t', .slice A' l' c']] w fun e w' => e = .returned (.int .i64 (-1)) ∧ Below w.heap.size w w' := by
  have HP := Lib.hid dplain_b
  have p2 : plainB 2 = true := rfl
  have p3 : plainB 3 = true := rfl
  have p4 : plainB 4 = false := rfl
  have p5 : plainB 5 = false := rfl
  have HR := Lib.hid drank_any
  have r2 : rankI 2 = 0 := rfl
  have r3 : rankI 3 = 0 := rfl
  have r4 : rankI 4 = 2 := rfl
  have r5 : rankI 5 = 1 := rfl
  have HU := Lib.hid (Two.made w #[.int .i64 5, .int .i64 n, .string t, .slice A l c] #[.int .i64 4, .int .i64 n', .string t', .slice A' l' c'])
  go_enter Tryz.func44, Tryz.ntmps44
  go_wp2_with (go_at_call 70; refine (HP.out _ _ _ _ _ _ _).mono ?_; rintro e w1 ⟨rfl, hb⟩; have HU := Lib.hid (HU.out.next hb); clear hb; obtain ⟨x0, x1, x2, x3, y0, y1, y2, y3⟩ := HU.out.cells)
  have HU := Lib.hid HU.out.drew
  go_region_held3 (fun w' => w'.cell? ⟨w.heap.size, 0, none⟩ = some (.int .i64 5) ∧ w'.cell? ⟨w.heap.size, 1, none⟩ = some (.int .i64 n) ∧ w'.cell? ⟨w.heap.size, 2, none⟩ = some (.string t) ∧ w'.cell? ⟨w.heap.size, 3, none⟩ = some (.slice A l c) ∧ w'.cell? ⟨w.heap.size + 1, 0, none⟩ = some (.int .i64 4) ∧ w'.cell? ⟨w.heap.size + 1, 1, none⟩ = some (.int .i64 n') ∧ w'.cell? ⟨w.heap.size + 1, 2, none⟩ = some (.string t') ∧ w'.cell? ⟨w.heap.size + 1, 3, none⟩ = some (.slice A' l' c')) (exact ⟨x0, x1, x2, x3, y0, y1, y2, y3⟩) ((go_at_call 74; refine (HR.out _ _ _ _ _ _ _ (by omega) (by omega)).mono ?_; rintro e w1 ⟨rfl, hb⟩; have HU := Lib.hid (HU.out.next hb); clear hb; obtain ⟨x0, x1, x2, x3, y0, y1, y2, y3⟩ := HU.out.cells))
  go_wp2_with fail
  go_ret
  exact ⟨rfl, HU.out.1⟩
set_option maxRecDepth 100000 in
set_option maxHeartbeats 2000000 in
theorem dord_2_4 : Calls Tryz.prog 44 #[.agg #[.int .i64 2, .int .i64 n, .string t, .slice A l c], .agg #[.int .i64 4, .int .i64 n', .string t', .slice A' l' c']] w fun e w' => e = .returned (.int .i64 (-1)) ∧ Below w.heap.size w w' := by
  have HP := Lib.hid dplain_b
  have p2 : plainB 2 = true := rfl
  have p3 : plainB 3 = true := rfl
  have p4 : plainB 4 = false := rfl
  have p5 : plainB 5 = false := rfl
  have HR := Lib.hid drank_any
  have r2 : rankI 2 = 0 := rfl
  have r3 : rankI 3 = 0 := rfl
  have r4 : rankI 4 = 2 := rfl
  have r5 : rankI 5 = 1 := rfl
  have HU := Lib.hid (Two.made w #[.int .i64 2, .int .i64 n, .string t, .slice A l c] #[.int .i64 4, .int .i64 n', .string t', .slice A' l' c'])
  go_enter Tryz.func44, Tryz.ntmps44
  go_wp2_with (go_at_call 70; refine (HP.out _ _ _ _ _ _ _).mono ?_; rintro e w1 ⟨rfl, hb⟩; have HU := Lib.hid (HU.out.next hb); clear hb; obtain ⟨x0, x1, x2, x3, y0, y1, y2, y3⟩ := HU.out.cells)
  have HU := Lib.hid HU.out.drew
  go_region_held3 (fun w' => w'.cell? ⟨w.heap.size, 0, none⟩ = some (.int .i64 2) ∧ w'.cell? ⟨w.heap.size, 1, none⟩ = some (.int .i64 n) ∧ w'.cell? ⟨w.heap.size, 2, none⟩ = some (.string t) ∧ w'.cell? ⟨w.heap.size, 3, none⟩ = some (.slice A l c) ∧ w'.cell? ⟨w.heap.size + 1, 0, none⟩ = some (.int .i64 4) ∧ w'.cell? ⟨w.heap.size + 1, 1, none⟩ = some (.int .i64 n') ∧ w'.cell? ⟨w.heap.size + 1, 2, none⟩ = some (.string t') ∧ w'.cell? ⟨w.heap.size + 1, 3, none⟩ = some (.slice A' l' c')) (exact ⟨x0, x1, x2, x3, y0, y1, y2, y3⟩) ((go_at_call 74; refine (HR.out _ _ _ _ _ _ _ (by omega) (by omega)).mono ?_; rintro e w1 ⟨rfl, hb⟩; have HU := Lib.hid (HU.out.next hb); clear hb; obtain ⟨x0, x1, x2, x3, y0, y1, y2, y3⟩ := HU.out.cells))
  go_wp2_with fail
  go_ret
  exact ⟨rfl, HU.out.1⟩
set_option maxRecDepth 100000 in
set_option maxHeartbeats 2000000 in
theorem dord_2_5 : Calls Tryz.prog 44 #[.agg #[.int .i64 2, .int .i64 n, .string t, .slice A l c], .agg #[.int .i64 5, .int .i64 n', .string t', .slice A' l' c']] w fun e w' => e = .returned (.int .i64 (-1)) ∧ Below w.heap.size w w' := by
  have HP := Lib.hid dplain_b
  have p2 : plainB 2 = true := rfl
  have p3 : plainB 3 = true := rfl
  have p4 : plainB 4 = false := rfl
  have p5 : plainB 5 = false := rfl
  have HR := Lib.hid drank_any
  have r2 : rankI 2 = 0 := rfl
  have r3 : rankI 3 = 0 := rfl
  have r4 : rankI 4 = 2 := rfl
  have r5 : rankI 5 = 1 := rfl
  have HU := Lib.hid (Two.made w #[.int .i64 2, .int .i64 n, .string t, .slice A l c] #[.int .i64 5, .int .i64 n', .string t', .slice A' l' c'])
  go_enter Tryz.func44, Tryz.ntmps44
  go_wp2_with (go_at_call 70; refine (HP.out _ _ _ _ _ _ _).mono ?_; rintro e w1 ⟨rfl, hb⟩; have HU := Lib.hid (HU.out.next hb); clear hb; obtain ⟨x0, x1, x2, x3, y0, y1, y2, y3⟩ := HU.out.cells)
  have HU := Lib.hid HU.out.drew
  go_region_held3 (fun w' => w'.cell? ⟨w.heap.size, 0, none⟩ = some (.int .i64 2) ∧ w'.cell? ⟨w.heap.size, 1, none⟩ = some (.int .i64 n) ∧ w'.cell? ⟨w.heap.size, 2, none⟩ = some (.string t) ∧ w'.cell? ⟨w.heap.size, 3, none⟩ = some (.slice A l c) ∧ w'.cell? ⟨w.heap.size + 1, 0, none⟩ = some (.int .i64 5) ∧ w'.cell? ⟨w.heap.size + 1, 1, none⟩ = some (.int .i64 n') ∧ w'.cell? ⟨w.heap.size + 1, 2, none⟩ = some (.string t') ∧ w'.cell? ⟨w.heap.size + 1, 3, none⟩ = some (.slice A' l' c')) (exact ⟨x0, x1, x2, x3, y0, y1, y2, y3⟩) ((go_at_call 74; refine (HR.out _ _ _ _ _ _ _ (by omega) (by omega)).mono ?_; rintro e w1 ⟨rfl, hb⟩; have HU := Lib.hid (HU.out.next hb); clear hb; obtain ⟨x0, x1, x2, x3, y0, y1, y2, y3⟩ := HU.out.cells))
  go_wp2_with fail
  go_ret
  exact ⟨rfl, HU.out.1⟩
set_option maxRecDepth 100000 in
set_option maxHeartbeats 2000000 in
theorem dord_3_4 : Calls Tryz.prog 44 #[.agg #[.int .i64 3, .int .i64 n, .string t, .slice A l c], .agg #[.int .i64 4, .int .i64 n', .string t', .slice A' l' c']] w fun e w' => e = .returned (.int .i64 (-1)) ∧ Below w.heap.size w w' := by
  have HP := Lib.hid dplain_b
  have p2 : plainB 2 = true := rfl
  have p3 : plainB 3 = true := rfl
  have p4 : plainB 4 = false := rfl
  have p5 : plainB 5 = false := rfl
  have HR := Lib.hid drank_any
  have r2 : rankI 2 = 0 := rfl
  have r3 : rankI 3 = 0 := rfl
  have r4 : rankI 4 = 2 := rfl
  have r5 : rankI 5 = 1 := rfl
  have HU := Lib.hid (Two.made w #[.int .i64 3, .int .i64 n, .string t, .slice A l c] #[.int .i64 4, .int .i64 n', .string t', .slice A' l' c'])
  go_enter Tryz.func44, Tryz.ntmps44
  go_wp2_with (go_at_call 70; refine (HP.out _ _ _ _ _ _ _).mono ?_; rintro e w1 ⟨rfl, hb⟩; have HU := Lib.hid (HU.out.next hb); clear hb; obtain ⟨x0, x1, x2, x3, y0, y1, y2, y3⟩ := HU.out.cells)
  have HU := Lib.hid HU.out.drew
  go_region_held3 (fun w' => w'.cell? ⟨w.heap.size, 0, none⟩ = some (.int .i64 3) ∧ w'.cell? ⟨w.heap.size, 1, none⟩ = some (.int .i64 n) ∧ w'.cell? ⟨w.heap.size, 2, none⟩ = some (.string t) ∧ w'.cell? ⟨w.heap.size, 3, none⟩ = some (.slice A l c) ∧ w'.cell? ⟨w.heap.size + 1, 0, none⟩ = some (.int .i64 4) ∧ w'.cell? ⟨w.heap.size + 1, 1, none⟩ = some (.int .i64 n') ∧ w'.cell? ⟨w.heap.size + 1, 2, none⟩ = some (.string t') ∧ w'.cell? ⟨w.heap.size + 1, 3, none⟩ = some (.slice A' l' c')) (exact ⟨x0, x1, x2, x3, y0, y1, y2, y3⟩) ((go_at_call 74; refine (HR.out _ _ _ _ _ _ _ (by omega) (by omega)).mono ?_; rintro e w1 ⟨rfl, hb⟩; have HU := Lib.hid (HU.out.next hb); clear hb; obtain ⟨x0, x1, x2, x3, y0, y1, y2, y3⟩ := HU.out.cells))
  go_wp2_with fail
  go_ret
  exact ⟨rfl, HU.out.1⟩
set_option maxRecDepth 100000 in
set_option maxHeartbeats 2000000 in
theorem dord_3_5 : Calls Tryz.prog 44 #[.agg #[.int .i64 3, .int .i64 n, .string t, .slice A l c], .agg #[.int .i64 5, .int .i64 n', .string t', .slice A' l' c']] w fun e w' => e = .returned (.int .i64 (-1)) ∧ Below w.heap.size w w' := by
  have HP := Lib.hid dplain_b
  have p2 : plainB 2 = true := rfl
  have p3 : plainB 3 = true := rfl
  have p4 : plainB 4 = false := rfl
  have p5 : plainB 5 = false := rfl
  have HR := Lib.hid drank_any
  have r2 : rankI 2 = 0 := rfl
  have r3 : rankI 3 = 0 := rfl
  have r4 : rankI 4 = 2 := rfl
  have r5 : rankI 5 = 1 := rfl
  have HU := Lib.hid (Two.made w #[.int .i64 3, .int .i64 n, .string t, .slice A l c] #[.int .i64 5, .int .i64 n', .string t', .slice A' l' c'])
  go_enter Tryz.func44, Tryz.ntmps44
  go_wp2_with (go_at_call 70; refine (HP.out _ _ _ _ _ _ _).mono ?_; rintro e w1 ⟨rfl, hb⟩; have HU := Lib.hid (HU.out.next hb); clear hb; obtain ⟨x0, x1, x2, x3, y0, y1, y2, y3⟩ := HU.out.cells)
  have HU := Lib.hid HU.out.drew
  go_region_held3 (fun w' => w'.cell? ⟨w.heap.size, 0, none⟩ = some (.int .i64 3) ∧ w'.cell? ⟨w.heap.size, 1, none⟩ = some (.int .i64 n) ∧ w'.cell? ⟨w.heap.size, 2, none⟩ = some (.string t) ∧ w'.cell? ⟨w.heap.size, 3, none⟩ = some (.slice A l c) ∧ w'.cell? ⟨w.heap.size + 1, 0, none⟩ = some (.int .i64 5) ∧ w'.cell? ⟨w.heap.size + 1, 1, none⟩ = some (.int .i64 n') ∧ w'.cell? ⟨w.heap.size + 1, 2, none⟩ = some (.string t') ∧ w'.cell? ⟨w.heap.size + 1, 3, none⟩ = some (.slice A' l' c')) (exact ⟨x0, x1, x2, x3, y0, y1, y2, y3⟩) ((go_at_call 74; refine (HR.out _ _ _ _ _ _ _ (by omega) (by omega)).mono ?_; rintro e w1 ⟨rfl, hb⟩; have HU := Lib.hid (HU.out.next hb); clear hb; obtain ⟨x0, x1, x2, x3, y0, y1, y2, y3⟩ := HU.out.cells))
  go_wp2_with fail
  go_ret
  exact ⟨rfl, HU.out.1⟩
set_option maxRecDepth 100000 in
set_option maxHeartbeats 2000000 in
theorem dord_4_2 : Calls Tryz.prog 44 #[.agg #[.int .i64 4, .int .i64 n, .string t, .slice A l c], .agg #[.int .i64 2, .int .i64 n', .string t', .slice A' l' c']] w fun e w' => e = .returned (.int .i64 (1)) ∧ Below w.heap.size w w' := by
  have HP := Lib.hid dplain_b
  have p2 : plainB 2 = true := rfl
  have p3 : plainB 3 = true := rfl
  have p4 : plainB 4 = false := rfl
  have p5 : plainB 5 = false := rfl
  have HR := Lib.hid drank_any
  have r2 : rankI 2 = 0 := rfl
  have r3 : rankI 3 = 0 := rfl
  have r4 : rankI 4 = 2 := rfl
  have r5 : rankI 5 = 1 := rfl
  have HU := Lib.hid (Two.made w #[.int .i64 4, .int .i64 n, .string t, .slice A l c] #[.int .i64 2, .int .i64 n', .string t', .slice A' l' c'])
  go_enter Tryz.func44, Tryz.ntmps44
  go_wp2_with (go_at_call 70; refine (HP.out _ _ _ _ _ _ _).mono ?_; rintro e w1 ⟨rfl, hb⟩; have HU := Lib.hid (HU.out.next hb); clear hb; obtain ⟨x0, x1, x2, x3, y0, y1, y2, y3⟩ := HU.out.cells)
  have HU := Lib.hid HU.out.drew
  go_region_held3 (fun w' => w'.cell? ⟨w.heap.size, 0, none⟩ = some (.int .i64 4) ∧ w'.cell? ⟨w.heap.size, 1, none⟩ = some (.int .i64 n) ∧ w'.cell? ⟨w.heap.size, 2, none⟩ = some (.string t) ∧ w'.cell? ⟨w.heap.size, 3, none⟩ = some (.slice A l c) ∧ w'.cell? ⟨w.heap.size + 1, 0, none⟩ = some (.int .i64 2) ∧ w'.cell? ⟨w.heap.size + 1, 1, none⟩ = some (.int .i64 n') ∧ w'.cell? ⟨w.heap.size + 1, 2, none⟩ = some (.string t') ∧ w'.cell? ⟨w.heap.size + 1, 3, none⟩ = some (.slice A' l' c')) (exact ⟨x0, x1, x2, x3, y0, y1, y2, y3⟩) ((go_at_call 74; refine (HR.out _ _ _ _ _ _ _ (by omega) (by omega)).mono ?_; rintro e w1 ⟨rfl, hb⟩; have HU := Lib.hid (HU.out.next hb); clear hb; obtain ⟨x0, x1, x2, x3, y0, y1, y2, y3⟩ := HU.out.cells))
  go_wp2_with fail
  go_ret
  exact ⟨rfl, HU.out.1⟩
set_option maxRecDepth 100000 in
set_option maxHeartbeats 2000000 in
theorem dord_4_3 : Calls Tryz.prog 44 #[.agg #[.int .i64 4, .int .i64 n, .string t, .slice A l c], .agg #[.int .i64 3, .int .i64 n', .string t', .slice A' l' c']] w fun e w' => e = .returned (.int .i64 (1)) ∧ Below w.heap.size w w' := by
  have HP := Lib.hid dplain_b
  have p2 : plainB 2 = true := rfl
  have p3 : plainB 3 = true := rfl
  have p4 : plainB 4 = false := rfl
  have p5 : plainB 5 = false := rfl
  have HR := Lib.hid drank_any
  have r2 : rankI 2 = 0 := rfl
  have r3 : rankI 3 = 0 := rfl
  have r4 : rankI 4 = 2 := rfl
  have r5 : rankI 5 = 1 := rfl
  have HU := Lib.hid (Two.made w #[.int .i64 4, .int .i64 n, .string t, .slice A l c] #[.int .i64 3, .int .i64 n', .string t', .slice A' l' c'])
  go_enter Tryz.func44, Tryz.ntmps44
  go_wp2_with (go_at_call 70; refine (HP.out _ _ _ _ _ _ _).mono ?_; rintro e w1 ⟨rfl, hb⟩; have HU := Lib.hid (HU.out.next hb); clear hb; obtain ⟨x0, x1, x2, x3, y0, y1, y2, y3⟩ := HU.out.cells)
  have HU := Lib.hid HU.out.drew
  go_region_held3 (fun w' => w'.cell? ⟨w.heap.size, 0, none⟩ = some (.int .i64 4) ∧ w'.cell? ⟨w.heap.size, 1, none⟩ = some (.int .i64 n) ∧ w'.cell? ⟨w.heap.size, 2, none⟩ = some (.string t) ∧ w'.cell? ⟨w.heap.size, 3, none⟩ = some (.slice A l c) ∧ w'.cell? ⟨w.heap.size + 1, 0, none⟩ = some (.int .i64 3) ∧ w'.cell? ⟨w.heap.size + 1, 1, none⟩ = some (.int .i64 n') ∧ w'.cell? ⟨w.heap.size + 1, 2, none⟩ = some (.string t') ∧ w'.cell? ⟨w.heap.size + 1, 3, none⟩ = some (.slice A' l' c')) (exact ⟨x0, x1, x2, x3, y0, y1, y2, y3⟩) ((go_at_call 74; refine (HR.out _ _ _ _ _ _ _ (by omega) (by omega)).mono ?_; rintro e w1 ⟨rfl, hb⟩; have HU := Lib.hid (HU.out.next hb); clear hb; obtain ⟨x0, x1, x2, x3, y0, y1, y2, y3⟩ := HU.out.cells))
  go_wp2_with fail
  go_ret
  exact ⟨rfl, HU.out.1⟩
set_option maxRecDepth 100000 in
set_option maxHeartbeats 2000000 in
theorem dord_5_2 : Calls Tryz.prog 44 #[.agg #[.int .i64 5, .int .i64 n, .string t, .slice A l c], .agg #[.int .i64 2, .int .i64 n', .string t', .slice A' l' c']] w fun e w' => e = .returned (.int .i64 (1)) ∧ Below w.heap.size w w' := by
  have HP := Lib.hid dplain_b
  have p2 : plainB 2 = true := rfl
  have p3 : plainB 3 = true := rfl
  have p4 : plainB 4 = false := rfl
  have p5 : plainB 5 = false := rfl
  have HR := Lib.hid drank_any
  have r2 : rankI 2 = 0 := rfl
  have r3 : rankI 3 = 0 := rfl
  have r4 : rankI 4 = 2 := rfl
  have r5 : rankI 5 = 1 := rfl
  have HU := Lib.hid (Two.made w #[.int .i64 5, .int .i64 n, .string t, .slice A l c] #[.int .i64 2, .int .i64 n', .string t', .slice A' l' c'])
  go_enter Tryz.func44, Tryz.ntmps44
  go_wp2_with (go_at_call 70; refine (HP.out _ _ _ _ _ _ _).mono ?_; rintro e w1 ⟨rfl, hb⟩; have HU := Lib.hid (HU.out.next hb); clear hb; obtain ⟨x0, x1, x2, x3, y0, y1, y2, y3⟩ := HU.out.cells)
  have HU := Lib.hid HU.out.drew
  go_region_held3 (fun w' => w'.cell? ⟨w.heap.size, 0, none⟩ = some (.int .i64 5) ∧ w'.cell? ⟨w.heap.size, 1, none⟩ = some (.int .i64 n) ∧ w'.cell? ⟨w.heap.size, 2, none⟩ = some (.string t) ∧ w'.cell? ⟨w.heap.size, 3, none⟩ = some (.slice A l c) ∧ w'.cell? ⟨w.heap.size + 1, 0, none⟩ = some (.int .i64 2) ∧ w'.cell? ⟨w.heap.size + 1, 1, none⟩ = some (.int .i64 n') ∧ w'.cell? ⟨w.heap.size + 1, 2, none⟩ = some (.string t') ∧ w'.cell? ⟨w.heap.size + 1, 3, none⟩ = some (.slice A' l' c')) (exact ⟨x0, x1, x2, x3, y0, y1, y2, y3⟩) ((go_at_call 74; refine (HR.out _ _ _ _ _ _ _ (by omega) (by omega)).mono ?_; rintro e w1 ⟨rfl, hb⟩; have HU := Lib.hid (HU.out.next hb); clear hb; obtain ⟨x0, x1, x2, x3, y0, y1, y2, y3⟩ := HU.out.cells))
  go_wp2_with fail
  go_ret
  exact ⟨rfl, HU.out.1⟩
set_option maxRecDepth 100000 in
set_option maxHeartbeats 2000000 in
theorem dord_5_3 : Calls Tryz.prog 44 #[.agg #[.int .i64 5, .int .i64 n, .string t, .slice A l c], .agg #[.int .i64 3, .int .i64 n', .string t', .slice A' l' c']] w fun e w' => e = .returned (.int .i64 (1)) ∧ Below w.heap.size w w' := by
  have HP := Lib.hid dplain_b
  have p2 : plainB 2 = true := rfl
  have p3 : plainB 3 = true := rfl
  have p4 : plainB 4 = false := rfl
  have p5 : plainB 5 = false := rfl
  have HR := Lib.hid drank_any
  have r2 : rankI 2 = 0 := rfl
  have r3 : rankI 3 = 0 := rfl
  have r4 : rankI 4 = 2 := rfl
  have r5 : rankI 5 = 1 := rfl
  have HU := Lib.hid (Two.made w #[.int .i64 5, .int .i64 n, .string t, .slice A l c] #[.int .i64 3, .int .i64 n', .string t', .slice A' l' c'])
  go_enter Tryz.func44, Tryz.ntmps44
  go_wp2_with (go_at_call 70; refine (HP.out _ _ _ _ _ _ _).mono ?_; rintro e w1 ⟨rfl, hb⟩; have HU := Lib.hid (HU.out.next hb); clear hb; obtain ⟨x0, x1, x2, x3, y0, y1, y2, y3⟩ := HU.out.cells)
  have HU := Lib.hid HU.out.drew
  go_region_held3 (fun w' => w'.cell? ⟨w.heap.size, 0, none⟩ = some (.int .i64 5) ∧ w'.cell? ⟨w.heap.size, 1, none⟩ = some (.int .i64 n) ∧ w'.cell? ⟨w.heap.size, 2, none⟩ = some (.string t) ∧ w'.cell? ⟨w.heap.size, 3, none⟩ = some (.slice A l c) ∧ w'.cell? ⟨w.heap.size + 1, 0, none⟩ = some (.int .i64 3) ∧ w'.cell? ⟨w.heap.size + 1, 1, none⟩ = some (.int .i64 n') ∧ w'.cell? ⟨w.heap.size + 1, 2, none⟩ = some (.string t') ∧ w'.cell? ⟨w.heap.size + 1, 3, none⟩ = some (.slice A' l' c')) (exact ⟨x0, x1, x2, x3, y0, y1, y2, y3⟩) ((go_at_call 74; refine (HR.out _ _ _ _ _ _ _ (by omega) (by omega)).mono ?_; rintro e w1 ⟨rfl, hb⟩; have HU := Lib.hid (HU.out.next hb); clear hb; obtain ⟨x0, x1, x2, x3, y0, y1, y2, y3⟩ := HU.out.cells))
  go_wp2_with fail
  go_ret
  exact ⟨rfl, HU.out.1⟩
set_option maxRecDepth 100000 in
set_option maxHeartbeats 2000000 in
theorem dord_5_5 : Calls Tryz.prog 44 #[.agg #[.int .i64 5, .int .i64 n, .string t, .slice A l c], .agg #[.int .i64 5, .int .i64 n', .string t', .slice A' l' c']] w fun e w' => e = .returned (.int .i64 (if n = n' then 0 else 1)) ∧ Below w.heap.size w w' := by
  have HP := Lib.hid dplain_b
  have p5 : plainB 5 = false := rfl
  have HU := Lib.hid (Two.made w #[.int .i64 5, .int .i64 n, .string t, .slice A l c] #[.int .i64 5, .int .i64 n', .string t', .slice A' l' c'])
  by_cases hn : n = n'
  · subst hn
    rw [if_pos rfl]
    go_enter Tryz.func44, Tryz.ntmps44
    go_wp2_with (go_at_call 70; refine (HP.out _ _ _ _ _ _ _).mono ?_; rintro e w1 ⟨rfl, hb⟩; have HU := Lib.hid (HU.out.next hb); clear hb; obtain ⟨x0, x1, x2, x3, y0, y1, y2, y3⟩ := HU.out.cells)
    go_ret
    exact ⟨rfl, HU.out.1⟩
  · rw [if_neg hn]
    have bn : (n == n') = false := by simpa using hn
    have HR := Lib.hid drank_any
    have r5 : rankI 5 = 1 := rfl
    go_enter Tryz.func44, Tryz.ntmps44
    go_wp2_with (go_at_call 70; refine (HP.out _ _ _ _ _ _ _).mono ?_; rintro e w1 ⟨rfl, hb⟩; have HU := Lib.hid (HU.out.next hb); clear hb; obtain ⟨x0, x1, x2, x3, y0, y1, y2, y3⟩ := HU.out.cells)
    have HU := Lib.hid HU.out.drew
    go_region_held3 (fun w' => w'.cell? ⟨w.heap.size, 0, none⟩ = some (.int .i64 5) ∧ w'.cell? ⟨w.heap.size, 1, none⟩ = some (.int .i64 n) ∧ w'.cell? ⟨w.heap.size, 2, none⟩ = some (.string t) ∧ w'.cell? ⟨w.heap.size, 3, none⟩ = some (.slice A l c) ∧ w'.cell? ⟨w.heap.size + 1, 0, none⟩ = some (.int .i64 5) ∧ w'.cell? ⟨w.heap.size + 1, 1, none⟩ = some (.int .i64 n') ∧ w'.cell? ⟨w.heap.size + 1, 2, none⟩ = some (.string t') ∧ w'.cell? ⟨w.heap.size + 1, 3, none⟩ = some (.slice A' l' c')) (exact ⟨x0, x1, x2, x3, y0, y1, y2, y3⟩) ((go_at_call 74; refine (HR.out _ _ _ _ _ _ _ (by omega) (by omega)).mono ?_; rintro e w1 ⟨rfl, hb⟩; have HU := Lib.hid (HU.out.next hb); clear hb; obtain ⟨x0, x1, x2, x3, y0, y1, y2, y3⟩ := HU.out.cells))
    go_wp2_with fail
    go_ret
    exact ⟨rfl, HU.out.1⟩
set_option maxRecDepth 100000 in
set_option maxHeartbeats 2000000 in
theorem dord_4_4 (r : Int) (HLs : ∀ w1, Below w.heap.size w w1 → Calls Tryz.prog 73 #[.slice A l c, .slice A' l' c'] w1 fun e w2 => e = .returned (.int .i64 r) ∧ Below w1.heap.size w1 w2) : Calls Tryz.prog 44 #[.agg #[.int .i64 4, .int .i64 n, .string t, .slice A l c], .agg #[.int .i64 4, .int .i64 n', .string t', .slice A' l' c']] w fun e w' => e = .returned (.int .i64 (r)) ∧ Below w.heap.size w w' := by
  have HP := Lib.hid dplain_b
  have p4 : plainB 4 = false := rfl
  have HS := Lib.hid HLs
  clear HLs
  have HU := Lib.hid (Two.made w #[.int .i64 4, .int .i64 n, .string t, .slice A l c] #[.int .i64 4, .int .i64 n', .string t', .slice A' l' c'])
  go_enter Tryz.func44, Tryz.ntmps44
  go_wp2_with (first | (go_at_call 70; refine (HP.out _ _ _ _ _ _ _).mono ?_; rintro e w1 ⟨rfl, hb⟩; have HU := Lib.hid (HU.out.next hb); clear hb; obtain ⟨x0, x1, x2, x3, y0, y1, y2, y3⟩ := HU.out.cells) | (go_at_call 73; refine (HS.out _ HU.out.1).mono ?_; rintro e w1 ⟨rfl, hb⟩; have HU := Lib.hid (HU.out.next hb); clear hb; obtain ⟨x0, x1, x2, x3, y0, y1, y2, y3⟩ := HU.out.cells))
  go_ret
  exact ⟨rfl, HU.out.1⟩
end
section
variable {w : World} {B : Nat}
set_option maxRecDepth 100000 in
set_option maxHeartbeats 1000000 in
theorem dord_any (hBw : B ≤ w.heap.size) (hLib : ∀ w', Below B w w' → LibS w') {g : GV} {x : Value} (h : VAt w B g x) : Good g → Fit g → ∀ {g' : GV} {x' : Value}, VAt w B g' x' → Good g' → Fit g' → ∀ w' : World, Below B w w' →
    Calls Tryz.prog 44 #[x, x'] w' fun e w'' => e = .returned (.int .i64 (ordV g g')) ∧ Below w'.heap.size w' w'' := by
  induction h with
  | mk k n t l A c b off C hc hn hA hi hv ih =>
    intro hG hF g' x' h' hG' hF' w' hb
    cases h' with
    | mk k' n' t' l' _ c' b' off' C' hc' hn' hA' hi' hv' =>
    rename_i A'
    cases hG with
    | mk _ _ _ _ g0 g5 gn gd g2 =>
    cases hG' with
    | mk _ _ _ _ g0' g5' gn' gd' g2' =>
    cases hF with
    | mk _ _ _ _ hk h0 ht h1 h2 =>
    cases hF' with
    | mk _ _ _ _ hk' h0' ht' h1' h2' =>
    rw [ordV]
    by_cases hp : k ≤ 3 ∧ k' ≤ 3
    · rw [if_pos hp]
      exact dord_plain n n' t t' A A' l.length l'.length c c' w' k k' g0 hp.1 g0' hp.2 h0 h0' (by omega) (by omega) (hLib w' hb)
    · rw [if_neg hp]
      by_cases ht1 : k ≤ 1 ∨ k' ≤ 1
      · rw [if_pos ht1]
        by_cases hk1 : k ≤ 1
        · exact dord_t1 n n' t t' A A' l.length l'.length c c' w' k k' g0 hk1 (by omega) (hLib w' hb)
        · exact dord_t2 n n' t t' A A' l.length l'.length c c' w' k k' (by omega) g0' (by omega) (hLib w' hb)
      · rw [if_neg ht1]
        by_cases h44 : k = 4 ∧ k' = 4
        · rw [if_pos h44]
          obtain ⟨rfl, rfl⟩ := h44
          have ih' := fun i it hit i' it' hit' w1 hz => ih i it hit (g2 i it hit) (h2 i it hit) (hv' i' it' hit') (g2' i' it' hit') (h2' i' it' hit') w1 hz
          exact dord_4_4 n n' t t' A A' l.length l'.length c c' w' _ (fun w1 hz => lists_any hBw l l' A c b off C A' c' b' off' C' hA hi hv h1 hA' hi' hv' h1' gd' ih' gn w1 (hb.trans (hz.mono (Nat.le_trans hBw hb.size))))
        · rw [if_neg h44]
          by_cases h55 : k = 5 ∧ k' = 5
          · rw [if_pos h55]
            obtain ⟨rfl, rfl⟩ := h55
            exact dord_5_5 n n' t t' A A' l.length l'.length c c' w'
          · rw [if_neg h55]
            obtain rfl | rfl | rfl | rfl : k = 2 ∨ k = 3 ∨ k = 4 ∨ k = 5 := by omega
            · obtain rfl | rfl : k' = 4 ∨ k' = 5 := by omega
              · rw [if_neg (by decide)]; exact dord_2_4 n n' t t' A A' l.length l'.length c c' w'
              · rw [if_neg (by decide)]; exact dord_2_5 n n' t t' A A' l.length l'.length c c' w'
            · obtain rfl | rfl : k' = 4 ∨ k' = 5 := by omega
              · rw [if_neg (by decide)]; exact dord_3_4 n n' t t' A A' l.length l'.length c c' w'
              · rw [if_neg (by decide)]; exact dord_3_5 n n' t t' A A' l.length l'.length c c' w'
            · obtain rfl | rfl | rfl : k' = 2 ∨ k' = 3 ∨ k' = 5 := by omega
              · rw [if_pos (by decide)]; exact dord_4_2 n n' t t' A A' l.length l'.length c c' w'
              · rw [if_pos (by decide)]; exact dord_4_3 n n' t t' A A' l.length l'.length c c' w'
              · rw [if_pos (by decide)]; exact dord_4_5 n n' t t' A A' l.length l'.length c c' w'
            · obtain rfl | rfl | rfl : k' = 2 ∨ k' = 3 ∨ k' = 4 := by omega
              · rw [if_pos (by decide)]; exact dord_5_2 n n' t t' A A' l.length l'.length c c' w'
              · rw [if_pos (by decide)]; exact dord_5_3 n n' t t' A A' l.length l'.length c c' w'
              · rw [if_neg (by decide)]; exact dord_5_4 n n' t t' A A' l.length l'.length c c' w'
end
end Dp
end Go.Proofs.YthdnflklhhfojaaGreatDoor
