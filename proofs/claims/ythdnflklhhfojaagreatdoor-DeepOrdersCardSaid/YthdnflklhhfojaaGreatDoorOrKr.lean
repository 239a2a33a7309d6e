/- ostlerref08.order: the walk. -/
import Derived.Test.YthdnflklhhfojaaGreatDoorOrGr
import Derived.Test.YthdnflklhhfojaaGreatDoorOrJ
import Derived.Test.YthdnflklhhfojaaGreatDoorOrK
namespace Go.Proofs.YthdnflklhhfojaaGreatDoor
open Go Go.RowKit
namespace Dp
section
variable (n n' : Int) (t t' : ByteArray) (A A' : Option Addr) (l l' c c' : Nat) (w : World)
theorem rplain_b (n : Int) (t : ByteArray) (A : Option Addr) (l c : Nat) (w : World) (k : Int) : Calls Tryz.prog 75 #[.agg #[.int .i64 k, .int .i64 n, .string t, .slice A l c]] w fun e w' => e = .returned (.bool (plainB k)) ∧ Below w.heap.size w w' := by
  refine (rplain_any n t A l c w k).mono ?_
  rintro e w' ⟨rfl, rfl⟩
  exact ⟨rfl, (Below.refl w.heap.size w).alloc (Nat.le_refl _) _⟩
set_option maxRecDepth 100000 in
set_option maxHeartbeats 2000000 in
theorem rord_plain (k k' : Int) (k0 : 0 ≤ k) (k3 : k ≤ 3) (k0' : 0 ≤ k') (k3' : k' ≤ 3) (h0 : In64 n) (h0' : In64 n') (ht : t.size ≤ 281474976710656) (ht' : t'.size ≤ 281474976710656) : Calls Tryz.prog 45 #[.agg #[.int .i64 k, .int .i64 n, .string t, .slice A l c], .agg #[.int .i64 k', .int .i64 n', .string t', .slice A' l' c']] w fun e w' => e = .returned (.int .i64 (orderP k n t k' n' t')) ∧ Below w.heap.size w w' := by
  have HP := Lib.hid rplain_b
  have HO := Lib.hid (fun w1 => rorder_any n n' t t' A A' l l' c c' w1 k k' k0 k3 k0' k3' h0 h0' ht ht')
  have hp := plain_t k0 k3
  have hp' := plain_t k0' k3'
  clear h0 h0' ht ht' k0 k3 k0' k3'
  generalize orderP k n t k' n' t' = r at *
  have HU := Lib.hid (Two.made w #[.int .i64 k, .int .i64 n, .string t, .slice A l c] #[.int .i64 k', .int .i64 n', .string t', .slice A' l' c'])
  go_enter Tryz.func45, Tryz.ntmps45
  go_wp2_with (first | (go_at_call 75; refine (HP.out _ _ _ _ _ _ _).mono ?_; rintro e w1 ⟨rfl, hb⟩; have HU := Lib.hid (HU.out.next hb); clear hb; obtain ⟨x0, x1, x2, x3, y0, y1, y2, y3⟩ := HU.out.cells) | (go_at_call 76; refine (HO.out _).mono ?_; rintro e w1 ⟨rfl, hb⟩; have HU := Lib.hid (HU.out.next hb); clear hb; obtain ⟨x0, x1, x2, x3, y0, y1, y2, y3⟩ := HU.out.cells))
  go_ret
  exact ⟨rfl, HU.out.1⟩
set_option maxRecDepth 100000 in
set_option maxHeartbeats 2000000 in
theorem rord_t1 (k k' : Int) (k0 : 0 ≤ k) (k1 : k ≤ 1) (k4' : 4 ≤ k') : Calls Tryz.prog 45 #[.agg #[.int .i64 k, .int .i64 n, .string t, .slice A l c], .agg #[.int .i64 k', .int .i64 n', .string t', .slice A' l' c']] w fun e w' => e = .returned (.int .i64 (truthsI (truthK k n t l) (truthK k' n' t' l'))) ∧ Below w.heap.size w w' := by
  have HP := Lib.hid rplain_b
  have hp := plain_t k0 (show k ≤ 3 by omega)
  have hp' := plain_f k4'
  have d1 : decide (k ≤ 1) = true := decide_eq_true k1
  have HT := Lib.hid (fun n t A l c w k => rtruth_any n t A l c w k)
  have HU := Lib.hid (Two.made w #[.int .i64 k, .int .i64 n, .string t, .slice A l c] #[.int .i64 k', .int .i64 n', .string t', .slice A' l' c'])
  cases q1 : truthK k n t l with
  | true =>
    cases q2 : truthK k' n' t' l' with
    | true =>
      go_enter Tryz.func45, Tryz.ntmps45
      go_wp2_with (go_at_call 75; refine (HP.out _ _ _ _ _ _ _).mono ?_; rintro e w1 ⟨rfl, hb⟩; have HU := Lib.hid (HU.out.next hb); clear hb; obtain ⟨x0, x1, x2, x3, y0, y1, y2, y3⟩ := HU.out.cells)
      have HU := Lib.hid HU.out.drew
      go_region_held3 (fun w' => w'.cell? ⟨w.heap.size, 0, none⟩ = some (.int .i64 k) ∧ w'.cell? ⟨w.heap.size, 1, none⟩ = some (.int .i64 n) ∧ w'.cell? ⟨w.heap.size, 2, none⟩ = some (.string t) ∧ w'.cell? ⟨w.heap.size, 3, none⟩ = some (.slice A l c) ∧ w'.cell? ⟨w.heap.size + 1, 0, none⟩ = some (.int .i64 k') ∧ w'.cell? ⟨w.heap.size + 1, 1, none⟩ = some (.int .i64 n') ∧ w'.cell? ⟨w.heap.size + 1, 2, none⟩ = some (.string t') ∧ w'.cell? ⟨w.heap.size + 1, 3, none⟩ = some (.slice A' l' c')) (exact ⟨x0, x1, x2, x3, y0, y1, y2, y3⟩) (first | (go_at_call 77; refine (HT.out _ _ _ _ _ _ _).mono ?_; rintro e w1 ⟨rfl, hb⟩; have HU := Lib.hid (HU.out.next hb); clear hb; obtain ⟨x0, x1, x2, x3, y0, y1, y2, y3⟩ := HU.out.cells))
      go_wp2_with fail
      go_ret
      exact ⟨rfl, HU.out.1⟩
    | false =>
      go_enter Tryz.func45, Tryz.ntmps45
      go_wp2_with (go_at_call 75; refine (HP.out _ _ _ _ _ _ _).mono ?_; rintro e w1 ⟨rfl, hb⟩; have HU := Lib.hid (HU.out.next hb); clear hb; obtain ⟨x0, x1, x2, x3, y0, y1, y2, y3⟩ := HU.out.cells)
      have HU := Lib.hid HU.out.drew
      go_region_held3 (fun w' => w'.cell? ⟨w.heap.size, 0, none⟩ = some (.int .i64 k) ∧ w'.cell? ⟨w.heap.size, 1, none⟩ = some (.int .i64 n) ∧ w'.cell? ⟨w.heap.size, 2, none⟩ = some (.string t) ∧ w'.cell? ⟨w.heap.size, 3, none⟩ = some (.slice A l c) ∧ w'.cell? ⟨w.heap.size + 1, 0, none⟩ = some (.int .i64 k') ∧ w'.cell? ⟨w.heap.size + 1, 1, none⟩ = some (.int .i64 n') ∧ w'.cell? ⟨w.heap.size + 1, 2, none⟩ = some (.string t') ∧ w'.cell? ⟨w.heap.size + 1, 3, none⟩ = some (.slice A' l' c')) (exact ⟨x0, x1, x2, x3, y0, y1, y2, y3⟩) (first | (go_at_call 77; refine (HT.out _ _ _ _ _ _ _).mono ?_; rintro e w1 ⟨rfl, hb⟩; have HU := Lib.hid (HU.out.next hb); clear hb; obtain ⟨x0, x1, x2, x3, y0, y1, y2, y3⟩ := HU.out.cells))
      go_wp2_with fail
      go_ret
      exact ⟨rfl, HU.out.1⟩
  | false =>
    cases q2 : truthK k' n' t' l' with
    | true =>
      go_enter Tryz.func45, Tryz.ntmps45
      go_wp2_with (go_at_call 75; refine (HP.out _ _ _ _ _ _ _).mono ?_; rintro e w1 ⟨rfl, hb⟩; have HU := Lib.hid (HU.out.next hb); clear hb; obtain ⟨x0, x1, x2, x3, y0, y1, y2, y3⟩ := HU.out.cells)
      have HU := Lib.hid HU.out.drew
      go_region_held3 (fun w' => w'.cell? ⟨w.heap.size, 0, none⟩ = some (.int .i64 k) ∧ w'.cell? ⟨w.heap.size, 1, none⟩ = some (.int .i64 n) ∧ w'.cell? ⟨w.heap.size, 2, none⟩ = some (.string t) ∧ w'.cell? ⟨w.heap.size, 3, none⟩ = some (.slice A l c) ∧ w'.cell? ⟨w.heap.size + 1, 0, none⟩ = some (.int .i64 k') ∧ w'.cell? ⟨w.heap.size + 1, 1, none⟩ = some (.int .i64 n') ∧ w'.cell? ⟨w.heap.size + 1, 2, none⟩ = some (.string t') ∧ w'.cell? ⟨w.heap.size + 1, 3, none⟩ = some (.slice A' l' c')) (exact ⟨x0, x1, x2, x3, y0, y1, y2, y3⟩) (first | (go_at_call 77; refine (HT.out _ _ _ _ _ _ _).mono ?_; rintro e w1 ⟨rfl, hb⟩; have HU := Lib.hid (HU.out.next hb); clear hb; obtain ⟨x0, x1, x2, x3, y0, y1, y2, y3⟩ := HU.out.cells))
      go_wp2_with fail
      go_ret
      exact ⟨rfl, HU.out.1⟩
    | false =>
      go_enter Tryz.func45, Tryz.ntmps45
      go_wp2_with (go_at_call 75; refine (HP.out _ _ _ _ _ _ _).mono ?_; rintro e w1 ⟨rfl, hb⟩; have HU := Lib.hid (HU.out.next hb); clear hb; obtain ⟨x0, x1, x2, x3, y0, y1, y2, y3⟩ := HU.out.cells)
      have HU := Lib.hid HU.out.drew
      go_region_held3 (fun w' => w'.cell? ⟨w.heap.size, 0, none⟩ = some (.int .i64 k) ∧ w'.cell? ⟨w.heap.size, 1, none⟩ = some (.int .i64 n) ∧ w'.cell? ⟨w.heap.size, 2, none⟩ = some (.string t) ∧ w'.cell? ⟨w.heap.size, 3, none⟩ = some (.slice A l c) ∧ w'.cell? ⟨w.heap.size + 1, 0, none⟩ = some (.int .i64 k') ∧ w'.cell? ⟨w.heap.size + 1, 1, none⟩ = some (.int .i64 n') ∧ w'.cell? ⟨w.heap.size + 1, 2, none⟩ = some (.string t') ∧ w'.cell? ⟨w.heap.size + 1, 3, none⟩ = some (.slice A' l' c')) (exact ⟨x0, x1, x2, x3, y0, y1, y2, y3⟩) (first | (go_at_call 77; refine (HT.out _ _ _ _ _ _ _).mono ?_; rintro e w1 ⟨rfl, hb⟩; have HU := Lib.hid (HU.out.next hb); clear hb; obtain ⟨x0, x1, x2, x3, y0, y1, y2, y3⟩ := HU.out.cells))
      go_wp2_with fail
      go_ret
      exact ⟨rfl, HU.out.1⟩
set_option maxRecDepth 100000 in
set_option maxHeartbeats 2000000 in
theorem rord_t2 (k k' : Int) (k4 : 4 ≤ k) (_k0' : 0 ≤ k') (k1' : k' ≤ 1) : Calls Tryz.prog 45 #[.agg #[.int .i64 k, .int .i64 n, .string t, .slice A l c], .agg #[.int .i64 k', .int .i64 n', .string t', .slice A' l' c']] w fun e w' => e = .returned (.int .i64 (truthsI (truthK k n t l) (truthK k' n' t' l'))) ∧ Below w.heap.size w w' := by
  have HP := Lib.hid rplain_b
  have hp := plain_f k4
  have d1 : decide (k ≤ 1) = false := decide_eq_false (by omega)
  have d2 : decide (k' ≤ 1) = true := decide_eq_true k1'
  have HT := Lib.hid (fun n t A l c w k => rtruth_any n t A l c w k)
  have HU := Lib.hid (Two.made w #[.int .i64 k, .int .i64 n, .string t, .slice A l c] #[.int .i64 k', .int .i64 n', .string t', .slice A' l' c'])
  cases q1 : truthK k n t l with
  | true =>
    cases q2 : truthK k' n' t' l' with
    | true =>
      go_enter Tryz.func45, Tryz.ntmps45
      go_wp2_with (go_at_call 75; refine (HP.out _ _ _ _ _ _ _).mono ?_; rintro e w1 ⟨rfl, hb⟩; have HU := Lib.hid (HU.out.next hb); clear hb; obtain ⟨x0, x1, x2, x3, y0, y1, y2, y3⟩ := HU.out.cells)
      have HU := Lib.hid HU.out.drew
      go_region_held3 (fun w' => w'.cell? ⟨w.heap.size, 0, none⟩ = some (.int .i64 k) ∧ w'.cell? ⟨w.heap.size, 1, none⟩ = some (.int .i64 n) ∧ w'.cell? ⟨w.heap.size, 2, none⟩ = some (.string t) ∧ w'.cell? ⟨w.heap.size, 3, none⟩ = some (.slice A l c) ∧ w'.cell? ⟨w.heap.size + 1, 0, none⟩ = some (.int .i64 k') ∧ w'.cell? ⟨w.heap.size + 1, 1, none⟩ = some (.int .i64 n') ∧ w'.cell? ⟨w.heap.size + 1, 2, none⟩ = some (.string t') ∧ w'.cell? ⟨w.heap.size + 1, 3, none⟩ = some (.slice A' l' c')) (exact ⟨x0, x1, x2, x3, y0, y1, y2, y3⟩) (first | (go_at_call 77; refine (HT.out _ _ _ _ _ _ _).mono ?_; rintro e w1 ⟨rfl, hb⟩; have HU := Lib.hid (HU.out.next hb); clear hb; obtain ⟨x0, x1, x2, x3, y0, y1, y2, y3⟩ := HU.out.cells))
      go_wp2_with fail
      go_ret
      exact ⟨rfl, HU.out.1⟩
    | false =>
      go_enter Tryz.func45, Tryz.ntmps45
      go_wp2_with (go_at_call 75; refine (HP.out _ _ _ _ _ _ _).mono ?_; rintro e w1 ⟨rfl, hb⟩; have HU := Lib.hid (HU.out.next hb); clear hb; obtain ⟨x0, x1, x2, x3, y0, y1, y2, y3⟩ := HU.out.cells)
      have HU := Lib.hid HU.out.drew
      go_region_held3 (fun w' => w'.cell? ⟨w.heap.size, 0, none⟩ = some (.int .i64 k) ∧ w'.cell? ⟨w.heap.size, 1, none⟩ = some (.int .i64 n) ∧ w'.cell? ⟨w.heap.size, 2, none⟩ = some (.string t) ∧ w'.cell? ⟨w.heap.size, 3, none⟩ = some (.slice A l c) ∧ w'.cell? ⟨w.heap.size + 1, 0, none⟩ = some (.int .i64 k') ∧ w'.cell? ⟨w.heap.size + 1, 1, none⟩ = some (.int .i64 n') ∧ w'.cell? ⟨w.heap.size + 1, 2, none⟩ = some (.string t') ∧ w'.cell? ⟨w.heap.size + 1, 3, none⟩ = some (.slice A' l' c')) (exact ⟨x0, x1, x2, x3, y0, y1, y2, y3⟩) (first | (go_at_call 77; refine (HT.out _ _ _ _ _ _ _).mono ?_; rintro e w1 ⟨rfl, hb⟩; have HU := Lib.hid (HU.out.next hb); clear hb; obtain ⟨x0, x1, x2, x3, y0, y1, y2, y3⟩ := HU.out.cells))
      go_wp2_with fail
      go_ret
      exact ⟨rfl, HU.out.1⟩
  | false =>
    cases q2 : truthK k' n' t' l' with
    | true =>
      go_enter Tryz.func45, Tryz.ntmps45
      go_wp2_with (go_at_call 75; refine (HP.out _ _ _ _ _ _ _).mono ?_; rintro e w1 ⟨rfl, hb⟩; have HU := Lib.hid (HU.out.next hb); clear hb; obtain ⟨x0, x1, x2, x3, y0, y1, y2, y3⟩ := HU.out.cells)
      have HU := Lib.hid HU.out.drew
      go_region_held3 (fun w' => w'.cell? ⟨w.heap.size, 0, none⟩ = some (.int .i64 k) ∧ w'.cell? ⟨w.heap.size, 1, none⟩ = some (.int .i64 n) ∧ w'.cell? ⟨w.heap.size, 2, none⟩ = some (.string t) ∧ w'.cell? ⟨w.heap.size, 3, none⟩ = some (.slice A l c) ∧ w'.cell? ⟨w.heap.size + 1, 0, none⟩ = some (.int .i64 k') ∧ w'.cell? ⟨w.heap.size + 1, 1, none⟩ = some (.int .i64 n') ∧ w'.cell? ⟨w.heap.size + 1, 2, none⟩ = some (.string t') ∧ w'.cell? ⟨w.heap.size + 1, 3, none⟩ = some (.slice A' l' c')) (exact ⟨x0, x1, x2, x3, y0, y1, y2, y3⟩) (first | (go_at_call 77; refine (HT.out _ _ _ _ _ _ _).mono ?_; rintro e w1 ⟨rfl, hb⟩; have HU := Lib.hid (HU.out.next hb); clear hb; obtain ⟨x0, x1, x2, x3, y0, y1, y2, y3⟩ := HU.out.cells))
      go_wp2_with fail
      go_ret
      exact ⟨rfl, HU.out.1⟩
    | false =>
      go_enter Tryz.func45, Tryz.ntmps45
      go_wp2_with (go_at_call 75; refine (HP.out _ _ _ _ _ _ _).mono ?_; rintro e w1 ⟨rfl, hb⟩; have HU := Lib.hid (HU.out.next hb); clear hb; obtain ⟨x0, x1, x2, x3, y0, y1, y2, y3⟩ := HU.out.cells)
      have HU := Lib.hid HU.out.drew
      go_region_held3 (fun w' => w'.cell? ⟨w.heap.size, 0, none⟩ = some (.int .i64 k) ∧ w'.cell? ⟨w.heap.size, 1, none⟩ = some (.int .i64 n) ∧ w'.cell? ⟨w.heap.size, 2, none⟩ = some (.string t) ∧ w'.cell? ⟨w.heap.size, 3, none⟩ = some (.slice A l c) ∧ w'.cell? ⟨w.heap.size + 1, 0, none⟩ = some (.int .i64 k') ∧ w'.cell? ⟨w.heap.size + 1, 1, none⟩ = some (.int .i64 n') ∧ w'.cell? ⟨w.heap.size + 1, 2, none⟩ = some (.string t') ∧ w'.cell? ⟨w.heap.size + 1, 3, none⟩ = some (.slice A' l' c')) (exact ⟨x0, x1, x2, x3, y0, y1, y2, y3⟩) (first | (go_at_call 77; refine (HT.out _ _ _ _ _ _ _).mono ?_; rintro e w1 ⟨rfl, hb⟩; have HU := Lib.hid (HU.out.next hb); clear hb; obtain ⟨x0, x1, x2, x3, y0, y1, y2, y3⟩ := HU.out.cells))
      go_wp2_with fail
      go_ret
      exact ⟨rfl, HU.out.1⟩
set_option maxRecDepth 100000 in
set_option maxHeartbeats 2000000 in
theorem rord_4_5 : Calls Tryz.prog 45 #[.agg #[.int .i64 4, .int .i64 n, .string t, .slice A l c], .agg #[.int .i64 5, .int .i64 n', .string t', .slice A' l' c']] w fun e w' => e = .returned (.int .i64 (1)) ∧ Below w.heap.size w w' := by
  have HP := Lib.hid rplain_b
  have p2 : plainB 2 = true := rfl
  have p3 : plainB 3 = true := rfl
  have p4 : plainB 4 = false := rfl
  have p5 : plainB 5 = false := rfl
  have HU := Lib.hid (Two.made w #[.int .i64 4, .int .i64 n, .string t, .slice A l c] #[.int .i64 5, .int .i64 n', .string t', .slice A' l' c'])
  go_enter Tryz.func45, Tryz.ntmps45
  go_wp2_with (go_at_call 75; refine (HP.out _ _ _ _ _ _ _).mono ?_; rintro e w1 ⟨rfl, hb⟩; have HU := Lib.hid (HU.out.next hb); clear hb; obtain ⟨x0, x1, x2, x3, y0, y1, y2, y3⟩ := HU.out.cells)
  go_ret
  exact ⟨rfl, HU.out.1⟩
set_option maxRecDepth 100000 in
set_option maxHeartbeats 2000000 in
theorem rord_5_4 : Calls Tryz.prog 45 #[.agg #[.int .i64 5, .int .i64 n, .string t, .slice A l c], .agg #[.int .i64 4, .int .i64 n', .string t', .slice A' l' c']] w fun e w' => e = .returned (.int .i64 (-1)) ∧ Below w.heap.size w w' := by
  have HP := Lib.hid rplain_b
  have p2 : plainB 2 = true := rfl
  have p3 : plainB 3 = true := rfl
  have p4 : plainB 4 = false := rfl
  have p5 : plainB 5 = false := rfl
  have HU := Lib.hid (Two.made w #[.int .i64 5, .int .i64 n, .string t, .slice A l c] #[.int .i64 4, .int .i64 n', .string t', .slice A' l' c'])
  go_enter Tryz.func45, Tryz.ntmps45
  go_wp2_with (go_at_call 75; refine (HP.out _ _ _ _ _ _ _).mono ?_; rintro e w1 ⟨rfl, hb⟩; have HU := Lib.hid (HU.out.next hb); clear hb; obtain ⟨x0, x1, x2, x3, y0, y1, y2, y3⟩ := HU.out.cells)
  go_ret
  exact ⟨rfl, HU.out.1⟩
set_option maxRecDepth 100000 in
set_option maxHeartbeats 2000000 in
theorem rord_2_4 : Calls Tryz.prog 45 #[.agg #[.int .i64 2, .int .i64 n, .string t, .slice A l c], .agg #[.int .i64 4, .int .i64 n', .string t', .slice A' l' c']] w fun e w' => e = .returned (.int .i64 (-1)) ∧ Below w.heap.size w w' := by
  have HP := Lib.hid rplain_b
  have p2 : plainB 2 = true := rfl
  have p3 : plainB 3 = true := rfl
  have p4 : plainB 4 = false := rfl
  have p5 : plainB 5 = false := rfl
  have HU := Lib.hid (Two.made w #[.int .i64 2, .int .i64 n, .string t, .slice A l c] #[.int .i64 4, .int .i64 n', .string t', .slice A' l' c'])
  go_enter Tryz.func45, Tryz.ntmps45
  go_wp2_with (go_at_call 75; refine (HP.out _ _ _ _ _ _ _).mono ?_; rintro e w1 ⟨rfl, hb⟩; have HU := Lib.hid (HU.out.next hb); clear hb; obtain ⟨x0, x1, x2, x3, y0, y1, y2, y3⟩ := HU.out.cells)
  go_ret
  exact ⟨rfl, HU.out.1⟩
set_option maxRecDepth 100000 in
set_option maxHeartbeats 2000000 in
theorem rord_2_5 : Calls Tryz.prog 45 #[.agg #[.int .i64 2, .int .i64 n, .string t, .slice A l c], .agg #[.int .i64 5, .int .i64 n', .string t', .slice A' l' c']] w fun e w' => e = .returned (.int .i64 (-1)) ∧ Below w.heap.size w w' := by
  have HP := Lib.hid rplain_b
  have p2 : plainB 2 = true := rfl
  have p3 : plainB 3 = true := rfl
  have p4 : plainB 4 = false := rfl
  have p5 : plainB 5 = false := rfl
  have HU := Lib.hid (Two.made w #[.int .i64 2, .int .i64 n, .string t, .slice A l c] #[.int .i64 5, .int .i64 n', .string t', .slice A' l' c'])
  go_enter Tryz.func45, Tryz.ntmps45
  go_wp2_with (go_at_call 75; refine (HP.out _ _ _ _ _ _ _).mono ?_; rintro e w1 ⟨rfl, hb⟩; have HU := Lib.hid (HU.out.next hb); clear hb; obtain ⟨x0, x1, x2, x3, y0, y1, y2, y3⟩ := HU.out.cells)
  go_ret
  exact ⟨rfl, HU.out.1⟩
set_option maxRecDepth 100000 in
set_option maxHeartbeats 2000000 in
theorem rord_3_4 : Calls Tryz.prog 45 #[.agg #[.int .i64 3, .int .i64 n, .string t, .slice A l c], .agg #[.int .i64 4, .int .i64 n', .string t', .slice A' l' c']] w fun e w' => e = .returned (.int .i64 (-1)) ∧ Below w.heap.size w w' := by
  have HP := Lib.hid rplain_b
  have p2 : plainB 2 = true := rfl
  have p3 : plainB 3 = true := rfl
  have p4 : plainB 4 = false := rfl
  have p5 : plainB 5 = false := rfl
  have HU := Lib.hid (Two.made w #[.int .i64 3, .int .i64 n, .string t, .slice A l c] #[.int .i64 4, .int .i64 n', .string t', .slice A' l' c'])
  go_enter Tryz.func45, Tryz.ntmps45
  go_wp2_with (go_at_call 75; refine (HP.out _ _ _ _ _ _ _).mono ?_; rintro e w1 ⟨rfl, hb⟩; have HU := Lib.hid (HU.out.next hb); clear hb; obtain ⟨x0, x1, x2, x3, y0, y1, y2, y3⟩ := HU.out.cells)
  go_ret
  exact ⟨rfl, HU.out.1⟩
set_option maxRecDepth 100000 in
set_option maxHeartbeats 2000000 in
theorem rord_3_5 : Calls Tryz.prog 45 #[.agg #[.int .i64 3, .int .i64 n, .string t, .slice A l c], .agg #[.int .i64 5, .int .i64 n', .string t', .slice A' l' c']] w fun e w' => e = .returned (.int .i64 (-1)) ∧ Below w.heap.size w w' := by
  have HP := Lib.hid rplain_b
  have p2 : plainB 2 = true := rfl
  have p3 : plainB 3 = true := rfl
  have p4 : plainB 4 = false := rfl
  have p5 : plainB 5 = false := rfl
  have HU := Lib.hid (Two.made w #[.int .i64 3, .int .i64 n, .string t, .slice A l c] #[.int .i64 5, .int .i64 n', .string t', .slice A' l' c'])
  go_enter Tryz.func45, Tryz.ntmps45
  go_wp2_with (go_at_call 75; refine (HP.out _ _ _ _ _ _ _).mono ?_; rintro e w1 ⟨rfl, hb⟩; have HU := Lib.hid (HU.out.next hb); clear hb; obtain ⟨x0, x1, x2, x3, y0, y1, y2, y3⟩ := HU.out.cells)
  go_ret
  exact ⟨rfl, HU.out.1⟩
set_option maxRecDepth 100000 in
set_option maxHeartbeats 2000000 in
theorem rord_4_2 : Calls Tryz.prog 45 #[.agg #[.int .i64 4, .int .i64 n, .string t, .slice A l c], .agg #[.int .i64 2, .int .i64 n', .string t', .slice A' l' c']] w fun e w' => e = .returned (.int .i64 (1)) ∧ Below w.heap.size w w' := by
  have HP := Lib.hid rplain_b
  have p2 : plainB 2 = true := rfl
  have p3 : plainB 3 = true := rfl
  have p4 : plainB 4 = false := rfl
  have p5 : plainB 5 = false := rfl
  have HU := Lib.hid (Two.made w #[.int .i64 4, .int .i64 n, .string t, .slice A l c] #[.int .i64 2, .int .i64 n', .string t', .slice A' l' c'])
  go_enter Tryz.func45, Tryz.ntmps45
  go_wp2_with (go_at_call 75; refine (HP.out _ _ _ _ _ _ _).mono ?_; rintro e w1 ⟨rfl, hb⟩; have HU := Lib.hid (HU.out.next hb); clear hb; obtain ⟨x0, x1, x2, x3, y0, y1, y2, y3⟩ := HU.out.cells)
  go_ret
  exact ⟨rfl, HU.out.1⟩
set_option maxRecDepth 100000 in
set_option maxHeartbeats 2000000 in
theorem rord_4_3 : Calls Tryz.prog 45 #[.agg #[.int .i64 4, .int .i64 n, .string t, .slice A l c], .agg #[.int .i64 3, .int .i64 n', .string t', .slice A' l' c']] w fun e w' => e = .returned (.int .i64 (1)) ∧ Below w.heap.size w w' := by
  have HP := Lib.hid rplain_b
  have p2 : plainB 2 = true := rfl
  have p3 : plainB 3 = true := rfl
  have p4 : plainB 4 = false := rfl
  have p5 : plainB 5 = false := rfl
  have HU := Lib.hid (Two.made w #[.int .i64 4, .int .i64 n, .string t, .slice A l c] #[.int .i64 3, .int .i64 n', .string t', .slice A' l' c'])
  go_enter Tryz.func45, Tryz.ntmps45
  go_wp2_with (go_at_call 75; refine (HP.out _ _ _ _ _ _ _).mono ?_; rintro e w1 ⟨rfl, hb⟩; have HU := Lib.hid (HU.out.next hb); clear hb; obtain ⟨x0, x1, x2, x3, y0, y1, y2, y3⟩ := HU.out.cells)
  go_ret
  exact ⟨rfl, HU.out.1⟩
set_option maxRecDepth 100000 in
set_option maxHeartbeats 2000000 in
theorem rord_5_2 : Calls Tryz.prog 45 #[.agg #[.int .i64 5, .int .i64 n, .string t, .slice A l c], .agg #[.int .i64 2, .int .i64 n', .string t', .slice A' l' c']] w fun e w' => e = .returned (.int .i64 (1)) ∧ Below w.heap.size w w' := by
  have HP := Lib.hid rplain_b
  have p2 : plainB 2 = true := rfl
  have p3 : plainB 3 = true := rfl
  have p4 : plainB 4 = false := rfl
  have p5 : plainB 5 = false := rfl
  have HU := Lib.hid (Two.made w #[.int .i64 5, .int .i64 n, .string t, .slice A l c] #[.int .i64 2, .int .i64 n', .string t', .slice A' l' c'])
  go_enter Tryz.func45, Tryz.ntmps45
  go_wp2_with (go_at_call 75; refine (HP.out _ _ _ _ _ _ _).mono ?_; rintro e w1 ⟨rfl, hb⟩; have HU := Lib.hid (HU.out.next hb); clear hb; obtain ⟨x0, x1, x2, x3, y0, y1, y2, y3⟩ := HU.out.cells)
  go_ret
  exact ⟨rfl, HU.out.1⟩
set_option maxRecDepth 100000 in
set_option maxHeartbeats 2000000 in
theorem rord_5_3 : Calls Tryz.prog 45 #[.agg #[.int .i64 5, .int .i64 n, .string t, .slice A l c], .agg #[.int .i64 3, .int .i64 n', .string t', .slice A' l' c']] w fun e w' => e = .returned (.int .i64 (1)) ∧ Below w.heap.size w w' := by
  have HP := Lib.hid rplain_b
  have p2 : plainB 2 = true := rfl
  have p3 : plainB 3 = true := rfl
  have p4 : plainB 4 = false := rfl
  have p5 : plainB 5 = false := rfl
  have HU := Lib.hid (Two.made w #[.int .i64 5, .int .i64 n, .string t, .slice A l c] #[.int .i64 3, .int .i64 n', .string t', .slice A' l' c'])
  go_enter Tryz.func45, Tryz.ntmps45
  go_wp2_with (go_at_call 75; refine (HP.out _ _ _ _ _ _ _).mono ?_; rintro e w1 ⟨rfl, hb⟩; have HU := Lib.hid (HU.out.next hb); clear hb; obtain ⟨x0, x1, x2, x3, y0, y1, y2, y3⟩ := HU.out.cells)
  go_ret
  exact ⟨rfl, HU.out.1⟩
set_option maxRecDepth 100000 in
set_option maxHeartbeats 2000000 in
theorem rord_5_5 : Calls Tryz.prog 45 #[.agg #[.int .i64 5, .int .i64 n, .string t, .slice A l c], .agg #[.int .i64 5, .int .i64 n', .string t', .slice A' l' c']] w fun e w' => e = .returned (.int .i64 (if n = n' then 0 else 1)) ∧ Below w.heap.size w w' := by
  have HP := Lib.hid rplain_b
  have p5 : plainB 5 = false := rfl
  have HU := Lib.hid (Two.made w #[.int .i64 5, .int .i64 n, .string t, .slice A l c] #[.int .i64 5, .int .i64 n', .string t', .slice A' l' c'])
  by_cases hn : n = n'
  · subst hn
    rw [if_pos rfl]
    go_enter Tryz.func45, Tryz.ntmps45
    go_wp2_with (go_at_call 75; refine (HP.out _ _ _ _ _ _ _).mono ?_; rintro e w1 ⟨rfl, hb⟩; have HU := Lib.hid (HU.out.next hb); clear hb; obtain ⟨x0, x1, x2, x3, y0, y1, y2, y3⟩ := HU.out.cells)
    go_ret
    exact ⟨rfl, HU.out.1⟩
  · rw [if_neg hn]
    have bn : (n == n') = false := by simpa using hn
    go_enter Tryz.func45, Tryz.ntmps45
    go_wp2_with (go_at_call 75; refine (HP.out _ _ _ _ _ _ _).mono ?_; rintro e w1 ⟨rfl, hb⟩; have HU := Lib.hid (HU.out.next hb); clear hb; obtain ⟨x0, x1, x2, x3, y0, y1, y2, y3⟩ := HU.out.cells)
    go_ret
    exact ⟨rfl, HU.out.1⟩
set_option maxRecDepth 100000 in
set_option maxHeartbeats 2000000 in
theorem rord_4_4 (r : Int) (HLs : ∀ w1, Below w.heap.size w w1 → Calls Tryz.prog 78 #[.slice A l c, .slice A' l' c'] w1 fun e w2 => e = .returned (.int .i64 r) ∧ Below w1.heap.size w1 w2) : Calls Tryz.prog 45 #[.agg #[.int .i64 4, .int .i64 n, .string t, .slice A l c], .agg #[.int .i64 4, .int .i64 n', .string t', .slice A' l' c']] w fun e w' => e = .returned (.int .i64 (r)) ∧ Below w.heap.size w w' := by
  have HP := Lib.hid rplain_b
  have p4 : plainB 4 = false := rfl
  have HS := Lib.hid HLs
  clear HLs
  have HU := Lib.hid (Two.made w #[.int .i64 4, .int .i64 n, .string t, .slice A l c] #[.int .i64 4, .int .i64 n', .string t', .slice A' l' c'])
  go_enter Tryz.func45, Tryz.ntmps45
  go_wp2_with (first | (go_at_call 75; refine (HP.out _ _ _ _ _ _ _).mono ?_; rintro e w1 ⟨rfl, hb⟩; have HU := Lib.hid (HU.out.next hb); clear hb; obtain ⟨x0, x1, x2, x3, y0, y1, y2, y3⟩ := HU.out.cells) | (go_at_call 78; refine (HS.out _ HU.out.1).mono ?_; rintro e w1 ⟨rfl, hb⟩; have HU := Lib.hid (HU.out.next hb); clear hb; obtain ⟨x0, x1, x2, x3, y0, y1, y2, y3⟩ := HU.out.cells))
  go_ret
  exact ⟨rfl, HU.out.1⟩
end
section
variable {w : World} {B : Nat}
set_option maxRecDepth 100000 in
set_option maxHeartbeats 1000000 in
theorem rord_any (hBw : B ≤ w.heap.size) {g : GV} {x : Value} (h : VAt w B g x) : Good g → Fit g → ∀ {g' : GV} {x' : Value}, VAt w B g' x' → Good g' → Fit g' → ∀ w' : World, Below B w w' →
    Calls Tryz.prog 45 #[x, x'] w' fun e w'' => e = .returned (.int .i64 (ordV g g')) ∧ Below w'.heap.size w' w'' := by
  induction h with
  | mk k n t l A c b off C hc hn hA hi hv ih =>
    intro hG hF g' x' h' hG' hF' w' hb
    cases h' with
    | mk k' n' t' l' _ c' b' off' C' hc' hn' hA' hi' hv' =>
    rename_i A'
    cases hG with
    | mk _ _ _ _ g0 g5 gn gd g2 =>
    cases hG' with
    | mk _ _ _ _ g0' g5' gn' gd' g2' =>
    cases hF with
    | mk _ _ _ _ hk h0 ht h1 h2 =>
    cases hF' with
    | mk _ _ _ _ hk' h0' ht' h1' h2' =>
    rw [ordV]
    by_cases hp : k ≤ 3 ∧ k' ≤ 3
    · rw [if_pos hp]
      exact rord_plain n n' t t' A A' l.length l'.length c c' w' k k' g0 hp.1 g0' hp.2 h0 h0' (by omega) (by omega)
    · rw [if_neg hp]
      by_cases ht1 : k ≤ 1 ∨ k' ≤ 1
      · rw [if_pos ht1]
        by_cases hk1 : k ≤ 1
        · exact rord_t1 n n' t t' A A' l.length l'.length c c' w' k k' g0 hk1 (by omega)
        · exact rord_t2 n n' t t' A A' l.length l'.length c c' w' k k' (by omega) g0' (by omega)
      · rw [if_neg ht1]
        by_cases h44 : k = 4 ∧ k' = 4
        · rw [if_pos h44]
          obtain ⟨rfl, rfl⟩ := h44
          have ih' := fun i it hit i' it' hit' w1 hz => ih i it hit (g2 i it hit) (h2 i it hit) (hv' i' it' hit') (g2' i' it' hit') (h2' i' it' hit') w1 hz
          exact rord_4_4 n n' t t' A A' l.length l'.length c c' w' _ (fun w1 hz => rlists_any hBw l l' A c b off C A' c' b' off' C' hA hi hv h1 hA' hi' hv' h1' gd' ih' hc hc' gn w1 (hb.trans (hz.mono (Nat.le_trans hBw hb.size))))
        · rw [if_neg h44]
          by_cases h55 : k = 5 ∧ k' = 5
          · rw [if_pos h55]
            obtain ⟨rfl, rfl⟩ := h55
            exact rord_5_5 n n' t t' A A' l.length l'.length c c' w'
          · rw [if_neg h55]
            obtain rfl | rfl | rfl | rfl : k = 2 ∨ k = 3 ∨ k = 4 ∨ k = 5 := by omega
            · obtain rfl | rfl : k' = 4 ∨ k' = 5 := by omega
              · rw [if_neg (by decide)]; exact rord_2_4 n n' t t' A A' l.length l'.length c c' w'
              · rw [if_neg (by decide)]; exact rord_2_5 n n' t t' A A' l.length l'.length c c' w'
            · obtain rfl | rfl : k' = 4 ∨ k' = 5 := by omega
              · rw [if_neg (by decide)]; exact rord_3_4 n n' t t' A A' l.length l'.length c c' w'
              · rw [if_neg (by decide)]; exact rord_3_5 n n' t t' A A' l.length l'.length c c' w'
            · obtain rfl | rfl | rfl : k' = 2 ∨ k' = 3 ∨ k' = 5 := by omega
              · rw [if_pos (by decide)]; exact rord_4_2 n n' t t' A A' l.length l'.length c c' w'
              · rw [if_pos (by decide)]; exact rord_4_3 n n' t t' A A' l.length l'.length c c' w'
              · rw [if_pos (by decide)]; exact rord_4_5 n n' t t' A A' l.length l'.length c c' w'
            · obtain rfl | rfl | rfl : k' = 2 ∨ k' = 3 ∨ k' = 4 := by omega
              · rw [if_pos (by decide)]; exact rord_5_2 n n' t t' A A' l.length l'.length c c' w'
              · rw [if_pos (by decide)]; exact rord_5_3 n n' t t' A A' l.length l'.length c c' w'
              · rw [if_neg (by decide)]; exact rord_5_4 n n' t t' A A' l.length l'.length c c' w'
end
end Dp
end Go.Proofs.YthdnflklhhfojaaGreatDoor
