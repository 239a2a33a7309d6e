/- The document's order of plain values: the walk. -/
import Derived.Test.YthdnflklhhfojaaGreatDoorOrG
import Derived.Test.YthdnflklhhfojaaGreatDoorNmN
namespace Go.Proofs.YthdnflklhhfojaaGreatDoor
open Go Go.RowKit
namespace Dp
open Go.Proofs.YthdnflklhhfojaaGreatDoor.Nm (numericL numeric_ok numeric_no rdigits_any)
theorem rplain_yes (n : Int) (t : ByteArray) (A : Option Addr) (l c : Nat) (w : World) (k : Int) (h0 : 0 ≤ k) (h3 : k ≤ 3) : Calls Tryz.prog 75 #[.agg #[.int .i64 k, .int .i64 n, .string t, .slice A l c]] w fun e w' => e = .returned (.bool true) ∧ Below w.heap.size w w' := by
  refine (rplain_any n t A l c w k).mono ?_
  rintro e w' ⟨rfl, rfl⟩
  exact ⟨by rw [show plainB k = true by simp [plainB]; omega], (Below.refl w.heap.size w).alloc (Nat.le_refl _) _⟩
theorem rnumeric_det (s : ByteArray) (hs : s.size ≤ 281474976710656) (w : World) : Calls Tryz.prog 105 #[.string s] w fun e w' => e = .returned (.tuple #[.int .i64 ((numericL s.data.toList).getD 0), .bool (numericL s.data.toList).isSome]) ∧ w = w' := by
  cases h : numericL s.data.toList with
  | none => exact numeric_no s (by omega) h w
  | some v => exact numeric_ok s (by omega) v h w
section
variable (n : Int) (t : ByteArray) (A : Option Addr) (l c : Nat) (w : World)
set_option maxRecDepth 100000 in
theorem rtext_any (k : Int) (hk : k = 0 ∨ k = 2 ∨ k = 3) (h0 : In64 n) : Calls Tryz.prog 115 #[.agg #[.int .i64 k, .int .i64 n, .string t, .slice A l c]] w fun e w' => e = .returned (.tuple #[.string (textP k n t), .int .i64 0]) ∧ Below w.heap.size w w' := by
  have HB0 := Lib.hid ((Below.refl w.heap.size w).alloc (Nat.le_refl _) (.cells #[.int .i64 k, .int .i64 n, .string t, .slice A l c] 27))
  rcases hk with rfl | rfl | rfl
  · go_enter Tryz.func115, Tryz.ntmps115
    go_wp2_with fail
    go_ret2
    exact ⟨rfl, HB0.out⟩
  · have HI := Lib.hid (rdigits_any n h0.1 h0.2 (w.alloc (.cells #[.int .i64 2, .int .i64 n, .string t, .slice A l c] 27)))
    have e : textP 2 n t = ⟨(Lib.itoa n).toArray⟩ := rfl
    rw [e]
    clear h0
    go_enter Tryz.func115, Tryz.ntmps115
    go_wp2_with (go_at_call 59; refine HI.out.mono ?_; rintro e w1 ⟨rfl, hb⟩)
    go_ret2
    exact ⟨rfl, HB0.out.trans (hb.mono HB0.out.size)⟩
  · go_enter Tryz.func115, Tryz.ntmps115
    go_wp2_with fail
    go_ret2
    exact ⟨rfl, HB0.out⟩
end
section
variable (n n' : Int) (t t' : ByteArray) (A A' : Option Addr) (l l' c c' : Nat) (w : World)
set_option maxRecDepth 100000 in
set_option maxHeartbeats 2000000 in
theorem rorder_1_x (k' : Int) (k0 : 0 ≤ k') (k3 : k' ≤ 3) : Calls Tryz.prog 76 #[.agg #[.int .i64 1, .int .i64 n, .string t, .slice A l c], .agg #[.int .i64 k', .int .i64 n', .string t', .slice A' l' c']] w fun e w' => e = .returned (.tuple #[.int .i64 (orderP 1 n t k' n' t'), .int .i64 0]) ∧ Below w.heap.size w w' := by
  have hE : orderP 1 n t k' n' t' = truthsI (truthK 1 n t l) (truthK k' n' t' l') := by
    unfold orderP
    rw [if_pos (by first | decide | exact .inl rfl | exact .inr rfl)]
    rw [truthK_plain (k := 1) (l := l) (by omega), truthK_plain (k := k') (l := l') (by omega)]
  rw [hE]
  clear hE
  have HU := Lib.hid (Two.made w #[.int .i64 1, .int .i64 n, .string t, .slice A l c] #[.int .i64 k', .int .i64 n', .string t', .slice A' l' c'])
  have HP := Lib.hid rplain_yes
  have HTr := Lib.hid (fun n t A l c w k => rtruth_any n t A l c w k)
  have HTs := Lib.hid rtruths_any
  have HN := Lib.hid rnumeric_det
  have HTx := Lib.hid rtext_any
  have HC := Lib.hid rtexts_any
  have HM := Lib.hid rnums_any
  go_enter Tryz.func76, Tryz.ntmps76
  go_wp2_with (first | (go_at_call 75; refine (HP.out _ _ _ _ _ _ _ (by omega) (by omega)).mono ?_; rintro e w1 ⟨rfl, hb⟩; have HU := Lib.hid (HU.out.next hb); clear hb; obtain ⟨x0, x1, x2, x3, y0, y1, y2, y3⟩ := HU.out.cells) | (go_at_call 105; refine (HN.out _ (by assumption) _).mono ?_; rintro e w1 ⟨rfl, rfl⟩) | (go_at_call 115; refine (HTx.out _ _ _ _ _ _ _ (by decide) (by assumption)).mono ?_; rintro e w1 ⟨rfl, hb⟩; have HU := Lib.hid (HU.out.next hb); clear hb; obtain ⟨x0, x1, x2, x3, y0, y1, y2, y3⟩ := HU.out.cells) | (go_at_call 113; refine (HC.out _ _ _).mono ?_; rintro e w1 ⟨rfl, rfl⟩) | (go_at_call 114; refine (HM.out _ _ _).mono ?_; rintro e w1 ⟨rfl, rfl⟩))
  have HU := Lib.hid HU.out.drew
  go_region_held3 (fun w' => w'.cell? ⟨w.heap.size, 0, none⟩ = some (.int .i64 1) ∧ w'.cell? ⟨w.heap.size, 1, none⟩ = some (.int .i64 n) ∧ w'.cell? ⟨w.heap.size, 2, none⟩ = some (.string t) ∧ w'.cell? ⟨w.heap.size, 3, none⟩ = some (.slice A l c) ∧ w'.cell? ⟨w.heap.size + 1, 0, none⟩ = some (.int .i64 k') ∧ w'.cell? ⟨w.heap.size + 1, 1, none⟩ = some (.int .i64 n') ∧ w'.cell? ⟨w.heap.size + 1, 2, none⟩ = some (.string t') ∧ w'.cell? ⟨w.heap.size + 1, 3, none⟩ = some (.slice A' l' c')) (exact ⟨x0, x1, x2, x3, y0, y1, y2, y3⟩) (first | (go_at_call 77; refine (HTr.out _ _ _ _ _ _ _).mono ?_; rintro e w1 ⟨rfl, hb⟩; have HU := Lib.hid (HU.out.next hb); clear hb; obtain ⟨x0, x1, x2, x3, y0, y1, y2, y3⟩ := HU.out.cells) | (go_at_call 112; refine (HTs.out _ _ _).mono ?_; rintro e w1 ⟨rfl, rfl⟩))
  go_wp2_with fail
  go_ret2
  exact ⟨rfl, HU.out.1⟩
set_option maxRecDepth 100000 in
set_option maxHeartbeats 2000000 in
theorem rorder_0_1 : Calls Tryz.prog 76 #[.agg #[.int .i64 0, .int .i64 n, .string t, .slice A l c], .agg #[.int .i64 1, .int .i64 n', .string t', .slice A' l' c']] w fun e w' => e = .returned (.tuple #[.int .i64 (orderP 0 n t 1 n' t'), .int .i64 0]) ∧ Below w.heap.size w w' := by
  have hE : orderP 0 n t 1 n' t' = truthsI (truthK 0 n t l) (truthK 1 n' t' l') := by
    unfold orderP
    rw [if_pos (by first | decide | exact .inl rfl | exact .inr rfl)]
    rw [truthK_plain (k := 0) (l := l) (by omega), truthK_plain (k := 1) (l := l') (by omega)]
  rw [hE]
  clear hE
  have HU := Lib.hid (Two.made w #[.int .i64 0, .int .i64 n, .string t, .slice A l c] #[.int .i64 1, .int .i64 n', .string t', .slice A' l' c'])
  have HP := Lib.hid rplain_yes
  have HTr := Lib.hid (fun n t A l c w k => rtruth_any n t A l c w k)
  have HTs := Lib.hid rtruths_any
  have HN := Lib.hid rnumeric_det
  have HTx := Lib.hid rtext_any
  have HC := Lib.hid rtexts_any
  have HM := Lib.hid rnums_any
  go_enter Tryz.func76, Tryz.ntmps76
  go_wp2_with (first | (go_at_call 75; refine (HP.out _ _ _ _ _ _ _ (by omega) (by omega)).mono ?_; rintro e w1 ⟨rfl, hb⟩; have HU := Lib.hid (HU.out.next hb); clear hb; obtain ⟨x0, x1, x2, x3, y0, y1, y2, y3⟩ := HU.out.cells) | (go_at_call 105; refine (HN.out _ (by assumption) _).mono ?_; rintro e w1 ⟨rfl, rfl⟩) | (go_at_call 115; refine (HTx.out _ _ _ _ _ _ _ (by decide) (by assumption)).mono ?_; rintro e w1 ⟨rfl, hb⟩; have HU := Lib.hid (HU.out.next hb); clear hb; obtain ⟨x0, x1, x2, x3, y0, y1, y2, y3⟩ := HU.out.cells) | (go_at_call 113; refine (HC.out _ _ _).mono ?_; rintro e w1 ⟨rfl, rfl⟩) | (go_at_call 114; refine (HM.out _ _ _).mono ?_; rintro e w1 ⟨rfl, rfl⟩))
  have HU := Lib.hid HU.out.drew
  go_region_held3 (fun w' => w'.cell? ⟨w.heap.size, 0, none⟩ = some (.int .i64 0) ∧ w'.cell? ⟨w.heap.size, 1, none⟩ = some (.int .i64 n) ∧ w'.cell? ⟨w.heap.size, 2, none⟩ = some (.string t) ∧ w'.cell? ⟨w.heap.size, 3, none⟩ = some (.slice A l c) ∧ w'.cell? ⟨w.heap.size + 1, 0, none⟩ = some (.int .i64 1) ∧ w'.cell? ⟨w.heap.size + 1, 1, none⟩ = some (.int .i64 n') ∧ w'.cell? ⟨w.heap.size + 1, 2, none⟩ = some (.string t') ∧ w'.cell? ⟨w.heap.size + 1, 3, none⟩ = some (.slice A' l' c')) (exact ⟨x0, x1, x2, x3, y0, y1, y2, y3⟩) (first | (go_at_call 77; refine (HTr.out _ _ _ _ _ _ _).mono ?_; rintro e w1 ⟨rfl, hb⟩; have HU := Lib.hid (HU.out.next hb); clear hb; obtain ⟨x0, x1, x2, x3, y0, y1, y2, y3⟩ := HU.out.cells) | (go_at_call 112; refine (HTs.out _ _ _).mono ?_; rintro e w1 ⟨rfl, rfl⟩))
  go_wp2_with fail
  go_ret2
  exact ⟨rfl, HU.out.1⟩
set_option maxRecDepth 100000 in
set_option maxHeartbeats 2000000 in
theorem rorder_2_1 : Calls Tryz.prog 76 #[.agg #[.int .i64 2, .int .i64 n, .string t, .slice A l c], .agg #[.int .i64 1, .int .i64 n', .string t', .slice A' l' c']] w fun e w' => e = .returned (.tuple #[.int .i64 (orderP 2 n t 1 n' t'), .int .i64 0]) ∧ Below w.heap.size w w' := by
  have hE : orderP 2 n t 1 n' t' = truthsI (truthK 2 n t l) (truthK 1 n' t' l') := by
    unfold orderP
    rw [if_pos (by first | decide | exact .inl rfl | exact .inr rfl)]
    rw [truthK_plain (k := 2) (l := l) (by omega), truthK_plain (k := 1) (l := l') (by omega)]
  rw [hE]
  clear hE
  have HU := Lib.hid (Two.made w #[.int .i64 2, .int .i64 n, .string t, .slice A l c] #[.int .i64 1, .int .i64 n', .string t', .slice A' l' c'])
  have HP := Lib.hid rplain_yes
  have HTr := Lib.hid (fun n t A l c w k => rtruth_any n t A l c w k)
  have HTs := Lib.hid rtruths_any
  have HN := Lib.hid rnumeric_det
  have HTx := Lib.hid rtext_any
  have HC := Lib.hid rtexts_any
  have HM := Lib.hid rnums_any
  go_enter Tryz.func76, Tryz.ntmps76
  go_wp2_with (first | (go_at_call 75; refine (HP.out _ _ _ _ _ _ _ (by omega) (by omega)).mono ?_; rintro e w1 ⟨rfl, hb⟩; have HU := Lib.hid (HU.out.next hb); clear hb; obtain ⟨x0, x1, x2, x3, y0, y1, y2, y3⟩ := HU.out.cells) | (go_at_call 105; refine (HN.out _ (by assumption) _).mono ?_; rintro e w1 ⟨rfl, rfl⟩) | (go_at_call 115; refine (HTx.out _ _ _ _ _ _ _ (by decide) (by assumption)).mono ?_; rintro e w1 ⟨rfl, hb⟩; have HU := Lib.hid (HU.out.next hb); clear hb; obtain ⟨x0, x1, x2, x3, y0, y1, y2, y3⟩ := HU.out.cells) | (go_at_call 113; refine (HC.out _ _ _).mono ?_; rintro e w1 ⟨rfl, rfl⟩) | (go_at_call 114; refine (HM.out _ _ _).mono ?_; rintro e w1 ⟨rfl, rfl⟩))
  have HU := Lib.hid HU.out.drew
  go_region_held3 (fun w' => w'.cell? ⟨w.heap.size, 0, none⟩ = some (.int .i64 2) ∧ w'.cell? ⟨w.heap.size, 1, none⟩ = some (.int .i64 n) ∧ w'.cell? ⟨w.heap.size, 2, none⟩ = some (.string t) ∧ w'.cell? ⟨w.heap.size, 3, none⟩ = some (.slice A l c) ∧ w'.cell? ⟨w.heap.size + 1, 0, none⟩ = some (.int .i64 1) ∧ w'.cell? ⟨w.heap.size + 1, 1, none⟩ = some (.int .i64 n') ∧ w'.cell? ⟨w.heap.size + 1, 2, none⟩ = some (.string t') ∧ w'.cell? ⟨w.heap.size + 1, 3, none⟩ = some (.slice A' l' c')) (exact ⟨x0, x1, x2, x3, y0, y1, y2, y3⟩) (first | (go_at_call 77; refine (HTr.out _ _ _ _ _ _ _).mono ?_; rintro e w1 ⟨rfl, hb⟩; have HU := Lib.hid (HU.out.next hb); clear hb; obtain ⟨x0, x1, x2, x3, y0, y1, y2, y3⟩ := HU.out.cells) | (go_at_call 112; refine (HTs.out _ _ _).mono ?_; rintro e w1 ⟨rfl, rfl⟩))
  go_wp2_with fail
  go_ret2
  exact ⟨rfl, HU.out.1⟩
set_option maxRecDepth 100000 in
set_option maxHeartbeats 2000000 in
theorem rorder_3_1 : Calls Tryz.prog 76 #[.agg #[.int .i64 3, .int .i64 n, .string t, .slice A l c], .agg #[.int .i64 1, .int .i64 n', .string t', .slice A' l' c']] w fun e w' => e = .returned (.tuple #[.int .i64 (orderP 3 n t 1 n' t'), .int .i64 0]) ∧ Below w.heap.size w w' := by
  have hE : orderP 3 n t 1 n' t' = truthsI (truthK 3 n t l) (truthK 1 n' t' l') := by
    unfold orderP
    rw [if_pos (by first | decide | exact .inl rfl | exact .inr rfl)]
    rw [truthK_plain (k := 3) (l := l) (by omega), truthK_plain (k := 1) (l := l') (by omega)]
  rw [hE]
  clear hE
  have HU := Lib.hid (Two.made w #[.int .i64 3, .int .i64 n, .string t, .slice A l c] #[.int .i64 1, .int .i64 n', .string t', .slice A' l' c'])
  have HP := Lib.hid rplain_yes
  have HTr := Lib.hid (fun n t A l c w k => rtruth_any n t A l c w k)
  have HTs := Lib.hid rtruths_any
  have HN := Lib.hid rnumeric_det
  have HTx := Lib.hid rtext_any
  have HC := Lib.hid rtexts_any
  have HM := Lib.hid rnums_any
  go_enter Tryz.func76, Tryz.ntmps76
  go_wp2_with (first | (go_at_call 75; refine (HP.out _ _ _ _ _ _ _ (by omega) (by omega)).mono ?_; rintro e w1 ⟨rfl, hb⟩; have HU := Lib.hid (HU.out.next hb); clear hb; obtain ⟨x0, x1, x2, x3, y0, y1, y2, y3⟩ := HU.out.cells) | (go_at_call 105; refine (HN.out _ (by assumption) _).mono ?_; rintro e w1 ⟨rfl, rfl⟩) | (go_at_call 115; refine (HTx.out _ _ _ _ _ _ _ (by decide) (by assumption)).mono ?_; rintro e w1 ⟨rfl, hb⟩; have HU := Lib.hid (HU.out.next hb); clear hb; obtain ⟨x0, x1, x2, x3, y0, y1, y2, y3⟩ := HU.out.cells) | (go_at_call 113; refine (HC.out _ _ _).mono ?_; rintro e w1 ⟨rfl, rfl⟩) | (go_at_call 114; refine (HM.out _ _ _).mono ?_; rintro e w1 ⟨rfl, rfl⟩))
  have HU := Lib.hid HU.out.drew
  go_region_held3 (fun w' => w'.cell? ⟨w.heap.size, 0, none⟩ = some (.int .i64 3) ∧ w'.cell? ⟨w.heap.size, 1, none⟩ = some (.int .i64 n) ∧ w'.cell? ⟨w.heap.size, 2, none⟩ = some (.string t) ∧ w'.cell? ⟨w.heap.size, 3, none⟩ = some (.slice A l c) ∧ w'.cell? ⟨w.heap.size + 1, 0, none⟩ = some (.int .i64 1) ∧ w'.cell? ⟨w.heap.size + 1, 1, none⟩ = some (.int .i64 n') ∧ w'.cell? ⟨w.heap.size + 1, 2, none⟩ = some (.string t') ∧ w'.cell? ⟨w.heap.size + 1, 3, none⟩ = some (.slice A' l' c')) (exact ⟨x0, x1, x2, x3, y0, y1, y2, y3⟩) (first | (go_at_call 77; refine (HTr.out _ _ _ _ _ _ _).mono ?_; rintro e w1 ⟨rfl, hb⟩; have HU := Lib.hid (HU.out.next hb); clear hb; obtain ⟨x0, x1, x2, x3, y0, y1, y2, y3⟩ := HU.out.cells) | (go_at_call 112; refine (HTs.out _ _ _).mono ?_; rintro e w1 ⟨rfl, rfl⟩))
  go_wp2_with fail
  go_ret2
  exact ⟨rfl, HU.out.1⟩
set_option maxRecDepth 100000 in
set_option maxHeartbeats 2000000 in
theorem rorder_0_0 : Calls Tryz.prog 76 #[.agg #[.int .i64 0, .int .i64 n, .string t, .slice A l c], .agg #[.int .i64 0, .int .i64 n', .string t', .slice A' l' c']] w fun e w' => e = .returned (.tuple #[.int .i64 (orderP 0 n t 0 n' t'), .int .i64 0]) ∧ Below w.heap.size w w' := by
  have hE : orderP 0 n t 0 n' t' = truthsI (truthK 0 n t l) (truthK 0 n' t' l') := by
    unfold orderP
    rw [if_neg (by decide), if_neg (by decide), if_neg (by decide), if_pos (by decide)]
    rw [truthK_plain (k := 0) (l := l) (by omega), truthK_plain (k := 0) (l := l') (by omega)]
  rw [hE]
  clear hE
  have HU := Lib.hid (Two.made w #[.int .i64 0, .int .i64 n, .string t, .slice A l c] #[.int .i64 0, .int .i64 n', .string t', .slice A' l' c'])
  have HP := Lib.hid rplain_yes
  have HTr := Lib.hid (fun n t A l c w k => rtruth_any n t A l c w k)
  have HTs := Lib.hid rtruths_any
  have HN := Lib.hid rnumeric_det
  have HTx := Lib.hid rtext_any
  have HC := Lib.hid rtexts_any
  have HM := Lib.hid rnums_any
  go_enter Tryz.func76, Tryz.ntmps76
  go_wp2_with (first | (go_at_call 75; refine (HP.out _ _ _ _ _ _ _ (by omega) (by omega)).mono ?_; rintro e w1 ⟨rfl, hb⟩; have HU := Lib.hid (HU.out.next hb); clear hb; obtain ⟨x0, x1, x2, x3, y0, y1, y2, y3⟩ := HU.out.cells) | (go_at_call 105; refine (HN.out _ (by assumption) _).mono ?_; rintro e w1 ⟨rfl, rfl⟩) | (go_at_call 115; refine (HTx.out _ _ _ _ _ _ _ (by decide) (by assumption)).mono ?_; rintro e w1 ⟨rfl, hb⟩; have HU := Lib.hid (HU.out.next hb); clear hb; obtain ⟨x0, x1, x2, x3, y0, y1, y2, y3⟩ := HU.out.cells) | (go_at_call 113; refine (HC.out _ _ _).mono ?_; rintro e w1 ⟨rfl, rfl⟩) | (go_at_call 114; refine (HM.out _ _ _).mono ?_; rintro e w1 ⟨rfl, rfl⟩))
  have HU := Lib.hid HU.out.drew
  go_region_held3 (fun w' => w'.cell? ⟨w.heap.size, 0, none⟩ = some (.int .i64 0) ∧ w'.cell? ⟨w.heap.size, 1, none⟩ = some (.int .i64 n) ∧ w'.cell? ⟨w.heap.size, 2, none⟩ = some (.string t) ∧ w'.cell? ⟨w.heap.size, 3, none⟩ = some (.slice A l c) ∧ w'.cell? ⟨w.heap.size + 1, 0, none⟩ = some (.int .i64 0) ∧ w'.cell? ⟨w.heap.size + 1, 1, none⟩ = some (.int .i64 n') ∧ w'.cell? ⟨w.heap.size + 1, 2, none⟩ = some (.string t') ∧ w'.cell? ⟨w.heap.size + 1, 3, none⟩ = some (.slice A' l' c')) (exact ⟨x0, x1, x2, x3, y0, y1, y2, y3⟩) (first | (go_at_call 77; refine (HTr.out _ _ _ _ _ _ _).mono ?_; rintro e w1 ⟨rfl, hb⟩; have HU := Lib.hid (HU.out.next hb); clear hb; obtain ⟨x0, x1, x2, x3, y0, y1, y2, y3⟩ := HU.out.cells) | (go_at_call 112; refine (HTs.out _ _ _).mono ?_; rintro e w1 ⟨rfl, rfl⟩))
  go_wp2_with fail
  go_ret2
  exact ⟨rfl, HU.out.1⟩
set_option maxRecDepth 100000 in
set_option maxHeartbeats 2000000 in
theorem rorder_0_2 : Calls Tryz.prog 76 #[.agg #[.int .i64 0, .int .i64 n, .string t, .slice A l c], .agg #[.int .i64 2, .int .i64 n', .string t', .slice A' l' c']] w fun e w' => e = .returned (.tuple #[.int .i64 (orderP 0 n t 2 n' t'), .int .i64 0]) ∧ Below w.heap.size w w' := by
  have hE : orderP 0 n t 2 n' t' = truthsI (truthK 0 n t l) (truthK 2 n' t' l') := by
    unfold orderP
    rw [if_neg (by decide), if_neg (by decide), if_neg (by decide), if_pos (by decide)]
    rw [truthK_plain (k := 0) (l := l) (by omega), truthK_plain (k := 2) (l := l') (by omega)]
  rw [hE]
  clear hE
  have HU := Lib.hid (Two.made w #[.int .i64 0, .int .i64 n, .string t, .slice A l c] #[.int .i64 2, .int .i64 n', .string t', .slice A' l' c'])
  have HP := Lib.hid rplain_yes
  have HTr := Lib.hid (fun n t A l c w k => rtruth_any n t A l c w k)
  have HTs := Lib.hid rtruths_any
  have HN := Lib.hid rnumeric_det
  have HTx := Lib.hid rtext_any
  have HC := Lib.hid rtexts_any
  have HM := Lib.hid rnums_any
  go_enter Tryz.func76, Tryz.ntmps76
  go_wp2_with (first | (go_at_call 75; refine (HP.out _ _ _ _ _ _ _ (by omega) (by omega)).mono ?_; rintro e w1 ⟨rfl, hb⟩; have HU := Lib.hid (HU.out.next hb); clear hb; obtain ⟨x0, x1, x2, x3, y0, y1, y2, y3⟩ := HU.out.cells) | (go_at_call 105; refine (HN.out _ (by assumption) _).mono ?_; rintro e w1 ⟨rfl, rfl⟩) | (go_at_call 115; refine (HTx.out _ _ _ _ _ _ _ (by decide) (by assumption)).mono ?_; rintro e w1 ⟨rfl, hb⟩; have HU := Lib.hid (HU.out.next hb); clear hb; obtain ⟨x0, x1, x2, x3, y0, y1, y2, y3⟩ := HU.out.cells) | (go_at_call 113; refine (HC.out _ _ _).mono ?_; rintro e w1 ⟨rfl, rfl⟩) | (go_at_call 114; refine (HM.out _ _ _).mono ?_; rintro e w1 ⟨rfl, rfl⟩))
  have HU := Lib.hid HU.out.drew
  go_region_held3 (fun w' => w'.cell? ⟨w.heap.size, 0, none⟩ = some (.int .i64 0) ∧ w'.cell? ⟨w.heap.size, 1, none⟩ = some (.int .i64 n) ∧ w'.cell? ⟨w.heap.size, 2, none⟩ = some (.string t) ∧ w'.cell? ⟨w.heap.size, 3, none⟩ = some (.slice A l c) ∧ w'.cell? ⟨w.heap.size + 1, 0, none⟩ = some (.int .i64 2) ∧ w'.cell? ⟨w.heap.size + 1, 1, none⟩ = some (.int .i64 n') ∧ w'.cell? ⟨w.heap.size + 1, 2, none⟩ = some (.string t') ∧ w'.cell? ⟨w.heap.size + 1, 3, none⟩ = some (.slice A' l' c')) (exact ⟨x0, x1, x2, x3, y0, y1, y2, y3⟩) (first | (go_at_call 77; refine (HTr.out _ _ _ _ _ _ _).mono ?_; rintro e w1 ⟨rfl, hb⟩; have HU := Lib.hid (HU.out.next hb); clear hb; obtain ⟨x0, x1, x2, x3, y0, y1, y2, y3⟩ := HU.out.cells) | (go_at_call 112; refine (HTs.out _ _ _).mono ?_; rintro e w1 ⟨rfl, rfl⟩))
  go_wp2_with fail
  go_ret2
  exact ⟨rfl, HU.out.1⟩
set_option maxRecDepth 100000 in
set_option maxHeartbeats 2000000 in
theorem rorder_2_0 : Calls Tryz.prog 76 #[.agg #[.int .i64 2, .int .i64 n, .string t, .slice A l c], .agg #[.int .i64 0, .int .i64 n', .string t', .slice A' l' c']] w fun e w' => e = .returned (.tuple #[.int .i64 (orderP 2 n t 0 n' t'), .int .i64 0]) ∧ Below w.heap.size w w' := by
  have hE : orderP 2 n t 0 n' t' = truthsI (truthK 2 n t l) (truthK 0 n' t' l') := by
    unfold orderP
    rw [if_neg (by decide), if_neg (by decide), if_neg (by decide), if_pos (by decide)]
    rw [truthK_plain (k := 2) (l := l) (by omega), truthK_plain (k := 0) (l := l') (by omega)]
  rw [hE]
  clear hE
  have HU := Lib.hid (Two.made w #[.int .i64 2, .int .i64 n, .string t, .slice A l c] #[.int .i64 0, .int .i64 n', .string t', .slice A' l' c'])
  have HP := Lib.hid rplain_yes
  have HTr := Lib.hid (fun n t A l c w k => rtruth_any n t A l c w k)
  have HTs := Lib.hid rtruths_any
  have HN := Lib.hid rnumeric_det
  have HTx := Lib.hid rtext_any
  have HC := Lib.hid rtexts_any
  have HM := Lib.hid rnums_any
  go_enter Tryz.func76, Tryz.ntmps76
  go_wp2_with (first | (go_at_call 75; refine (HP.out _ _ _ _ _ _ _ (by omega) (by omega)).mono ?_; rintro e w1 ⟨rfl, hb⟩; have HU := Lib.hid (HU.out.next hb); clear hb; obtain ⟨x0, x1, x2, x3, y0, y1, y2, y3⟩ := HU.out.cells) | (go_at_call 105; refine (HN.out _ (by assumption) _).mono ?_; rintro e w1 ⟨rfl, rfl⟩) | (go_at_call 115; refine (HTx.out _ _ _ _ _ _ _ (by decide) (by assumption)).mono ?_; rintro e w1 ⟨rfl, hb⟩; have HU := Lib.hid (HU.out.next hb); clear hb; obtain ⟨x0, x1, x2, x3, y0, y1, y2, y3⟩ := HU.out.cells) | (go_at_call 113; refine (HC.out _ _ _).mono ?_; rintro e w1 ⟨rfl, rfl⟩) | (go_at_call 114; refine (HM.out _ _ _).mono ?_; rintro e w1 ⟨rfl, rfl⟩))
  have HU := Lib.hid HU.out.drew
  go_region_held3 (fun w' => w'.cell? ⟨w.heap.size, 0, none⟩ = some (.int .i64 2) ∧ w'.cell? ⟨w.heap.size, 1, none⟩ = some (.int .i64 n) ∧ w'.cell? ⟨w.heap.size, 2, none⟩ = some (.string t) ∧ w'.cell? ⟨w.heap.size, 3, none⟩ = some (.slice A l c) ∧ w'.cell? ⟨w.heap.size + 1, 0, none⟩ = some (.int .i64 0) ∧ w'.cell? ⟨w.heap.size + 1, 1, none⟩ = some (.int .i64 n') ∧ w'.cell? ⟨w.heap.size + 1, 2, none⟩ = some (.string t') ∧ w'.cell? ⟨w.heap.size + 1, 3, none⟩ = some (.slice A' l' c')) (exact ⟨x0, x1, x2, x3, y0, y1, y2, y3⟩) (first | (go_at_call 77; refine (HTr.out _ _ _ _ _ _ _).mono ?_; rintro e w1 ⟨rfl, hb⟩; have HU := Lib.hid (HU.out.next hb); clear hb; obtain ⟨x0, x1, x2, x3, y0, y1, y2, y3⟩ := HU.out.cells) | (go_at_call 112; refine (HTs.out _ _ _).mono ?_; rintro e w1 ⟨rfl, rfl⟩))
  go_wp2_with fail
  go_ret2
  exact ⟨rfl, HU.out.1⟩
set_option maxRecDepth 100000 in
set_option maxHeartbeats 2000000 in
theorem rorder_0_3 (_h0 : In64 n) (_h0' : In64 n') (_ht : t.size ≤ 281474976710656) (_ht' : t'.size ≤ 281474976710656) : Calls Tryz.prog 76 #[.agg #[.int .i64 0, .int .i64 n, .string t, .slice A l c], .agg #[.int .i64 3, .int .i64 n', .string t', .slice A' l' c']] w fun e w' => e = .returned (.tuple #[.int .i64 (orderP 0 n t 3 n' t'), .int .i64 0]) ∧ Below w.heap.size w w' := by
  have HU := Lib.hid (Two.made w #[.int .i64 0, .int .i64 n, .string t, .slice A l c] #[.int .i64 3, .int .i64 n', .string t', .slice A' l' c'])
  have HP := Lib.hid rplain_yes
  have HTr := Lib.hid (fun n t A l c w k => rtruth_any n t A l c w k)
  have HTs := Lib.hid rtruths_any
  have HN := Lib.hid rnumeric_det
  have HTx := Lib.hid rtext_any
  have HC := Lib.hid rtexts_any
  have HM := Lib.hid rnums_any
  have q1 : (numP 0 n t).isSome = false := rfl
  have hE : orderP 0 n t 3 n' t' = cmpT (textP 0 n t) (textP 3 n' t') := by
    unfold orderP
    rw [if_neg (by decide), if_pos (by decide)]
    rfl
  rw [hE]
  clear hE
  go_enter Tryz.func76, Tryz.ntmps76
  go_wp2_with (first | (go_at_call 75; refine (HP.out _ _ _ _ _ _ _ (by omega) (by omega)).mono ?_; rintro e w1 ⟨rfl, hb⟩; have HU := Lib.hid (HU.out.next hb); clear hb; obtain ⟨x0, x1, x2, x3, y0, y1, y2, y3⟩ := HU.out.cells) | (go_at_call 105; refine (HN.out _ (by assumption) _).mono ?_; rintro e w1 ⟨rfl, rfl⟩) | (go_at_call 115; refine (HTx.out _ _ _ _ _ _ _ (by decide) (by assumption)).mono ?_; rintro e w1 ⟨rfl, hb⟩; have HU := Lib.hid (HU.out.next hb); clear hb; obtain ⟨x0, x1, x2, x3, y0, y1, y2, y3⟩ := HU.out.cells) | (go_at_call 113; refine (HC.out _ _ _).mono ?_; rintro e w1 ⟨rfl, rfl⟩) | (go_at_call 114; refine (HM.out _ _ _).mono ?_; rintro e w1 ⟨rfl, rfl⟩))
  go_ret2
  exact ⟨rfl, HU.out.1⟩
set_option maxRecDepth 100000 in
set_option maxHeartbeats 2000000 in
theorem rorder_3_0 (_h0 : In64 n) (_h0' : In64 n') (_ht : t.size ≤ 281474976710656) (_ht' : t'.size ≤ 281474976710656) : Calls Tryz.prog 76 #[.agg #[.int .i64 3, .int .i64 n, .string t, .slice A l c], .agg #[.int .i64 0, .int .i64 n', .string t', .slice A' l' c']] w fun e w' => e = .returned (.tuple #[.int .i64 (orderP 3 n t 0 n' t'), .int .i64 0]) ∧ Below w.heap.size w w' := by
  have HU := Lib.hid (Two.made w #[.int .i64 3, .int .i64 n, .string t, .slice A l c] #[.int .i64 0, .int .i64 n', .string t', .slice A' l' c'])
  have HP := Lib.hid rplain_yes
  have HTr := Lib.hid (fun n t A l c w k => rtruth_any n t A l c w k)
  have HTs := Lib.hid rtruths_any
  have HN := Lib.hid rnumeric_det
  have HTx := Lib.hid rtext_any
  have HC := Lib.hid rtexts_any
  have HM := Lib.hid rnums_any
  have hE : orderP 3 n t 0 n' t' = cmpT (textP 3 n t) (textP 0 n' t') := by
    unfold orderP
    rw [if_neg (by decide), if_neg (by decide), if_pos (by decide)]
    rfl
  rw [hE]
  clear hE
  go_enter Tryz.func76, Tryz.ntmps76
  go_wp2_with (first | (go_at_call 75; refine (HP.out _ _ _ _ _ _ _ (by omega) (by omega)).mono ?_; rintro e w1 ⟨rfl, hb⟩; have HU := Lib.hid (HU.out.next hb); clear hb; obtain ⟨x0, x1, x2, x3, y0, y1, y2, y3⟩ := HU.out.cells) | (go_at_call 105; refine (HN.out _ (by assumption) _).mono ?_; rintro e w1 ⟨rfl, rfl⟩) | (go_at_call 115; refine (HTx.out _ _ _ _ _ _ _ (by decide) (by assumption)).mono ?_; rintro e w1 ⟨rfl, hb⟩; have HU := Lib.hid (HU.out.next hb); clear hb; obtain ⟨x0, x1, x2, x3, y0, y1, y2, y3⟩ := HU.out.cells) | (go_at_call 113; refine (HC.out _ _ _).mono ?_; rintro e w1 ⟨rfl, rfl⟩) | (go_at_call 114; refine (HM.out _ _ _).mono ?_; rintro e w1 ⟨rfl, rfl⟩))
  go_ret2
  exact ⟨rfl, HU.out.1⟩
set_option maxRecDepth 100000 in
set_option maxHeartbeats 2000000 in
theorem rorder_2_2 (_h0 : In64 n) (_h0' : In64 n') (_ht : t.size ≤ 281474976710656) (_ht' : t'.size ≤ 281474976710656) : Calls Tryz.prog 76 #[.agg #[.int .i64 2, .int .i64 n, .string t, .slice A l c], .agg #[.int .i64 2, .int .i64 n', .string t', .slice A' l' c']] w fun e w' => e = .returned (.tuple #[.int .i64 (orderP 2 n t 2 n' t'), .int .i64 0]) ∧ Below w.heap.size w w' := by
  have HU := Lib.hid (Two.made w #[.int .i64 2, .int .i64 n, .string t, .slice A l c] #[.int .i64 2, .int .i64 n', .string t', .slice A' l' c'])
  have HP := Lib.hid rplain_yes
  have HTr := Lib.hid (fun n t A l c w k => rtruth_any n t A l c w k)
  have HTs := Lib.hid rtruths_any
  have HN := Lib.hid rnumeric_det
  have HTx := Lib.hid rtext_any
  have HC := Lib.hid rtexts_any
  have HM := Lib.hid rnums_any
  have q1 : (numP 2 n t).isSome = true := rfl
  have q2 : (numP 2 n' t').isSome = true := rfl
  have hE : orderP 2 n t 2 n' t' = cmpI (numI 2 n t) (numI 2 n' t') := by
    unfold orderP
    rw [if_neg (by decide), if_neg (by decide), if_neg (by decide), if_neg (by decide)]
    cases e1 : numP 2 n t with
    | none => rw [e1] at q1; cases q1
    | some m =>
      cases e2 : numP 2 n' t' with
      | none => rw [e2] at q2; cases q2
      | some m2 => rw [numI_of (by decide) e1, numI_of (by decide) e2]
  rw [hE]
  clear hE
  go_enter Tryz.func76, Tryz.ntmps76
  go_wp2_with (first | (go_at_call 75; refine (HP.out _ _ _ _ _ _ _ (by omega) (by omega)).mono ?_; rintro e w1 ⟨rfl, hb⟩; have HU := Lib.hid (HU.out.next hb); clear hb; obtain ⟨x0, x1, x2, x3, y0, y1, y2, y3⟩ := HU.out.cells) | (go_at_call 105; refine (HN.out _ (by assumption) _).mono ?_; rintro e w1 ⟨rfl, rfl⟩) | (go_at_call 115; refine (HTx.out _ _ _ _ _ _ _ (by decide) (by assumption)).mono ?_; rintro e w1 ⟨rfl, hb⟩; have HU := Lib.hid (HU.out.next hb); clear hb; obtain ⟨x0, x1, x2, x3, y0, y1, y2, y3⟩ := HU.out.cells) | (go_at_call 113; refine (HC.out _ _ _).mono ?_; rintro e w1 ⟨rfl, rfl⟩) | (go_at_call 114; refine (HM.out _ _ _).mono ?_; rintro e w1 ⟨rfl, rfl⟩))
  go_ret2
  exact ⟨rfl, HU.out.1⟩
set_option maxRecDepth 100000 in
set_option maxHeartbeats 2000000 in
theorem rorder_2_3 (h0 : In64 n) (h0' : In64 n') (_ht : t.size ≤ 281474976710656) (ht' : t'.size ≤ 281474976710656) : Calls Tryz.prog 76 #[.agg #[.int .i64 2, .int .i64 n, .string t, .slice A l c], .agg #[.int .i64 3, .int .i64 n', .string t', .slice A' l' c']] w fun e w' => e = .returned (.tuple #[.int .i64 (orderP 2 n t 3 n' t'), .int .i64 0]) ∧ Below w.heap.size w w' := by
  have HU := Lib.hid (Two.made w #[.int .i64 2, .int .i64 n, .string t, .slice A l c] #[.int .i64 3, .int .i64 n', .string t', .slice A' l' c'])
  have HP := Lib.hid rplain_yes
  have HTr := Lib.hid (fun n t A l c w k => rtruth_any n t A l c w k)
  have HTs := Lib.hid rtruths_any
  have HN := Lib.hid rnumeric_det
  have HTx := Lib.hid rtext_any
  have HC := Lib.hid rtexts_any
  have HM := Lib.hid rnums_any
  have r2 : (numericL t'.data.toList).isSome = (numP 3 n' t').isSome := rfl
  have q1 : (numP 2 n t).isSome = true := rfl
  cases q2 : (numP 3 n' t').isSome with
  | true =>
    have hE : orderP 2 n t 3 n' t' = cmpI (numI 2 n t) (numI 3 n' t') := by
      unfold orderP
      rw [if_neg (by decide), if_neg (by decide), if_neg (by decide), if_neg (by decide)]
      cases e1 : numP 2 n t with
      | none => rw [e1] at q1; cases q1
      | some m =>
        cases e2 : numP 3 n' t' with
        | none => rw [e2] at q2; cases q2
        | some m2 => rw [numI_of (by decide) e1, numI_of (by decide) e2]
    rw [hE]
    clear hE
    go_enter Tryz.func76, Tryz.ntmps76
    go_wp2_with (first | (go_at_call 75; refine (HP.out _ _ _ _ _ _ _ (by omega) (by omega)).mono ?_; rintro e w1 ⟨rfl, hb⟩; have HU := Lib.hid (HU.out.next hb); clear hb; obtain ⟨x0, x1, x2, x3, y0, y1, y2, y3⟩ := HU.out.cells) | (go_at_call 105; refine (HN.out _ (by assumption) _).mono ?_; rintro e w1 ⟨rfl, rfl⟩) | (go_at_call 115; refine (HTx.out _ _ _ _ _ _ _ (by decide) (by assumption)).mono ?_; rintro e w1 ⟨rfl, hb⟩; have HU := Lib.hid (HU.out.next hb); clear hb; obtain ⟨x0, x1, x2, x3, y0, y1, y2, y3⟩ := HU.out.cells) | (go_at_call 113; refine (HC.out _ _ _).mono ?_; rintro e w1 ⟨rfl, rfl⟩) | (go_at_call 114; refine (HM.out _ _ _).mono ?_; rintro e w1 ⟨rfl, rfl⟩))
    go_ret2
    exact ⟨rfl, HU.out.1⟩
  | false =>
    have hE : orderP 2 n t 3 n' t' = cmpT (textP 2 n t) (textP 3 n' t') := by
      unfold orderP
      rw [if_neg (by decide), if_neg (by decide), if_neg (by decide), if_neg (by decide)]
      cases e1 : numP 2 n t with
      | none => rfl
      | some m =>
        cases e2 : numP 3 n' t' with
        | none => rfl
        | some m2 => first | (rw [e1] at q1; cases q1; done) | (rw [e2] at q2; cases q2; done)
    rw [hE]
    clear hE
    go_enter Tryz.func76, Tryz.ntmps76
    go_wp2_with (first | (go_at_call 75; refine (HP.out _ _ _ _ _ _ _ (by omega) (by omega)).mono ?_; rintro e w1 ⟨rfl, hb⟩; have HU := Lib.hid (HU.out.next hb); clear hb; obtain ⟨x0, x1, x2, x3, y0, y1, y2, y3⟩ := HU.out.cells) | (go_at_call 105; refine (HN.out _ (by assumption) _).mono ?_; rintro e w1 ⟨rfl, rfl⟩) | (go_at_call 115; refine (HTx.out _ _ _ _ _ _ _ (by decide) (by assumption)).mono ?_; rintro e w1 ⟨rfl, hb⟩; have HU := Lib.hid (HU.out.next hb); clear hb; obtain ⟨x0, x1, x2, x3, y0, y1, y2, y3⟩ := HU.out.cells) | (go_at_call 113; refine (HC.out _ _ _).mono ?_; rintro e w1 ⟨rfl, rfl⟩) | (go_at_call 114; refine (HM.out _ _ _).mono ?_; rintro e w1 ⟨rfl, rfl⟩))
    go_ret2
    exact ⟨rfl, HU.out.1⟩
set_option maxRecDepth 100000 in
set_option maxHeartbeats 2000000 in
theorem rorder_3_2 (h0 : In64 n) (h0' : In64 n') (ht : t.size ≤ 281474976710656) (_ht' : t'.size ≤ 281474976710656) : Calls Tryz.prog 76 #[.agg #[.int .i64 3, .int .i64 n, .string t, .slice A l c], .agg #[.int .i64 2, .int .i64 n', .string t', .slice A' l' c']] w fun e w' => e = .returned (.tuple #[.int .i64 (orderP 3 n t 2 n' t'), .int .i64 0]) ∧ Below w.heap.size w w' := by
  have HU := Lib.hid (Two.made w #[.int .i64 3, .int .i64 n, .string t, .slice A l c] #[.int .i64 2, .int .i64 n', .string t', .slice A' l' c'])
  have HP := Lib.hid rplain_yes
  have HTr := Lib.hid (fun n t A l c w k => rtruth_any n t A l c w k)
  have HTs := Lib.hid rtruths_any
  have HN := Lib.hid rnumeric_det
  have HTx := Lib.hid rtext_any
  have HC := Lib.hid rtexts_any
  have HM := Lib.hid rnums_any
  have r1 : (numericL t.data.toList).isSome = (numP 3 n t).isSome := rfl
  have q2 : (numP 2 n' t').isSome = true := rfl
  cases q1 : (numP 3 n t).isSome with
  | true =>
    have hE : orderP 3 n t 2 n' t' = cmpI (numI 3 n t) (numI 2 n' t') := by
      unfold orderP
      rw [if_neg (by decide), if_neg (by decide), if_neg (by decide), if_neg (by decide)]
      cases e1 : numP 3 n t with
      | none => rw [e1] at q1; cases q1
      | some m =>
        cases e2 : numP 2 n' t' with
        | none => rw [e2] at q2; cases q2
        | some m2 => rw [numI_of (by decide) e1, numI_of (by decide) e2]
    rw [hE]
    clear hE
    go_enter Tryz.func76, Tryz.ntmps76
    go_wp2_with (first | (go_at_call 75; refine (HP.out _ _ _ _ _ _ _ (by omega) (by omega)).mono ?_; rintro e w1 ⟨rfl, hb⟩; have HU := Lib.hid (HU.out.next hb); clear hb; obtain ⟨x0, x1, x2, x3, y0, y1, y2, y3⟩ := HU.out.cells) | (go_at_call 105; refine (HN.out _ (by assumption) _).mono ?_; rintro e w1 ⟨rfl, rfl⟩) | (go_at_call 115; refine (HTx.out _ _ _ _ _ _ _ (by decide) (by assumption)).mono ?_; rintro e w1 ⟨rfl, hb⟩; have HU := Lib.hid (HU.out.next hb); clear hb; obtain ⟨x0, x1, x2, x3, y0, y1, y2, y3⟩ := HU.out.cells) | (go_at_call 113; refine (HC.out _ _ _).mono ?_; rintro e w1 ⟨rfl, rfl⟩) | (go_at_call 114; refine (HM.out _ _ _).mono ?_; rintro e w1 ⟨rfl, rfl⟩))
    go_ret2
    exact ⟨rfl, HU.out.1⟩
  | false =>
    have hE : orderP 3 n t 2 n' t' = cmpT (textP 3 n t) (textP 2 n' t') := by
      unfold orderP
      rw [if_neg (by decide), if_neg (by decide), if_neg (by decide), if_neg (by decide)]
      cases e1 : numP 3 n t with
      | none => rfl
      | some m =>
        cases e2 : numP 2 n' t' with
        | none => rfl
        | some m2 => first | (rw [e1] at q1; cases q1; done) | (rw [e2] at q2; cases q2; done)
    rw [hE]
    clear hE
    go_enter Tryz.func76, Tryz.ntmps76
    go_wp2_with (first | (go_at_call 75; refine (HP.out _ _ _ _ _ _ _ (by omega) (by omega)).mono ?_; rintro e w1 ⟨rfl, hb⟩; have HU := Lib.hid (HU.out.next hb); clear hb; obtain ⟨x0, x1, x2, x3, y0, y1, y2, y3⟩ := HU.out.cells) | (go_at_call 105; refine (HN.out _ (by assumption) _).mono ?_; rintro e w1 ⟨rfl, rfl⟩) | (go_at_call 115; refine (HTx.out _ _ _ _ _ _ _ (by decide) (by assumption)).mono ?_; rintro e w1 ⟨rfl, hb⟩; have HU := Lib.hid (HU.out.next hb); clear hb; obtain ⟨x0, x1, x2, x3, y0, y1, y2, y3⟩ := HU.out.cells) | (go_at_call 113; refine (HC.out _ _ _).mono ?_; rintro e w1 ⟨rfl, rfl⟩) | (go_at_call 114; refine (HM.out _ _ _).mono ?_; rintro e w1 ⟨rfl, rfl⟩))
    go_ret2
    exact ⟨rfl, HU.out.1⟩
set_option maxRecDepth 100000 in
set_option maxHeartbeats 2000000 in
theorem rorder_3_3 (h0 : In64 n) (h0' : In64 n') (ht : t.size ≤ 281474976710656) (ht' : t'.size ≤ 281474976710656) : Calls Tryz.prog 76 #[.agg #[.int .i64 3, .int .i64 n, .string t, .slice A l c], .agg #[.int .i64 3, .int .i64 n', .string t', .slice A' l' c']] w fun e w' => e = .returned (.tuple #[.int .i64 (orderP 3 n t 3 n' t'), .int .i64 0]) ∧ Below w.heap.size w w' := by
  have HU := Lib.hid (Two.made w #[.int .i64 3, .int .i64 n, .string t, .slice A l c] #[.int .i64 3, .int .i64 n', .string t', .slice A' l' c'])
  have HP := Lib.hid rplain_yes
  have HTr := Lib.hid (fun n t A l c w k => rtruth_any n t A l c w k)
  have HTs := Lib.hid rtruths_any
  have HN := Lib.hid rnumeric_det
  have HTx := Lib.hid rtext_any
  have HC := Lib.hid rtexts_any
  have HM := Lib.hid rnums_any
  have r1 : (numericL t.data.toList).isSome = (numP 3 n t).isSome := rfl
  have r2 : (numericL t'.data.toList).isSome = (numP 3 n' t').isSome := rfl
  cases q1 : (numP 3 n t).isSome with
  | true =>
    cases q2 : (numP 3 n' t').isSome with
    | true =>
      have hE : orderP 3 n t 3 n' t' = cmpI (numI 3 n t) (numI 3 n' t') := by
        unfold orderP
        rw [if_neg (by decide), if_neg (by decide), if_neg (by decide), if_neg (by decide)]
        cases e1 : numP 3 n t with
        | none => rw [e1] at q1; cases q1
        | some m =>
          cases e2 : numP 3 n' t' with
          | none => rw [e2] at q2; cases q2
          | some m2 => rw [numI_of (by decide) e1, numI_of (by decide) e2]
      rw [hE]
      clear hE
      go_enter Tryz.func76, Tryz.ntmps76
      go_wp2_with (first | (go_at_call 75; refine (HP.out _ _ _ _ _ _ _ (by omega) (by omega)).mono ?_; rintro e w1 ⟨rfl, hb⟩; have HU := Lib.hid (HU.out.next hb); clear hb; obtain ⟨x0, x1, x2, x3, y0, y1, y2, y3⟩ := HU.out.cells) | (go_at_call 105; refine (HN.out _ (by assumption) _).mono ?_; rintro e w1 ⟨rfl, rfl⟩) | (go_at_call 115; refine (HTx.out _ _ _ _ _ _ _ (by decide) (by assumption)).mono ?_; rintro e w1 ⟨rfl, hb⟩; have HU := Lib.hid (HU.out.next hb); clear hb; obtain ⟨x0, x1, x2, x3, y0, y1, y2, y3⟩ := HU.out.cells) | (go_at_call 113; refine (HC.out _ _ _).mono ?_; rintro e w1 ⟨rfl, rfl⟩) | (go_at_call 114; refine (HM.out _ _ _).mono ?_; rintro e w1 ⟨rfl, rfl⟩))
      go_ret2
      exact ⟨rfl, HU.out.1⟩
    | false =>
      have hE : orderP 3 n t 3 n' t' = cmpT (textP 3 n t) (textP 3 n' t') := by
        unfold orderP
        rw [if_neg (by decide), if_neg (by decide), if_neg (by decide), if_neg (by decide)]
        cases e1 : numP 3 n t with
        | none => rfl
        | some m =>
          cases e2 : numP 3 n' t' with
          | none => rfl
          | some m2 => first | (rw [e1] at q1; cases q1; done) | (rw [e2] at q2; cases q2; done)
      rw [hE]
      clear hE
      go_enter Tryz.func76, Tryz.ntmps76
      go_wp2_with (first | (go_at_call 75; refine (HP.out _ _ _ _ _ _ _ (by omega) (by omega)).mono ?_; rintro e w1 ⟨rfl, hb⟩; have HU := Lib.hid (HU.out.next hb); clear hb; obtain ⟨x0, x1, x2, x3, y0, y1, y2, y3⟩ := HU.out.cells) | (go_at_call 105; refine (HN.out _ (by assumption) _).mono ?_; rintro e w1 ⟨rfl, rfl⟩) | (go_at_call 115; refine (HTx.out _ _ _ _ _ _ _ (by decide) (by assumption)).mono ?_; rintro e w1 ⟨rfl, hb⟩; have HU := Lib.hid (HU.out.next hb); clear hb; obtain ⟨x0, x1, x2, x3, y0, y1, y2, y3⟩ := HU.out.cells) | (go_at_call 113; refine (HC.out _ _ _).mono ?_; rintro e w1 ⟨rfl, rfl⟩) | (go_at_call 114; refine (HM.out _ _ _).mono ?_; rintro e w1 ⟨rfl, rfl⟩))
      go_ret2
      exact ⟨rfl, HU.out.1⟩
  | false =>
    have hE : orderP 3 n t 3 n' t' = cmpT (textP 3 n t) (textP 3 n' t') := by
      unfold orderP
      rw [if_neg (by decide), if_neg (by decide), if_neg (by decide), if_neg (by decide)]
      cases e1 : numP 3 n t with
      | none => rfl
      | some m =>
        cases e2 : numP 3 n' t' with
        | none => rfl
        | some m2 => first | (rw [e1] at q1; cases q1; done) | (rw [e2] at q2; cases q2; done)
    rw [hE]
    clear hE
    go_enter Tryz.func76, Tryz.ntmps76
    go_wp2_with (first | (go_at_call 75; refine (HP.out _ _ _ _ _ _ _ (by omega) (by omega)).mono ?_; rintro e w1 ⟨rfl, hb⟩; have HU := Lib.hid (HU.out.next hb); clear hb; obtain ⟨x0, x1, x2, x3, y0, y1, y2, y3⟩ := HU.out.cells) | (go_at_call 105; refine (HN.out _ (by assumption) _).mono ?_; rintro e w1 ⟨rfl, rfl⟩) | (go_at_call 115; refine (HTx.out _ _ _ _ _ _ _ (by decide) (by assumption)).mono ?_; rintro e w1 ⟨rfl, hb⟩; have HU := Lib.hid (HU.out.next hb); clear hb; obtain ⟨x0, x1, x2, x3, y0, y1, y2, y3⟩ := HU.out.cells) | (go_at_call 113; refine (HC.out _ _ _).mono ?_; rintro e w1 ⟨rfl, rfl⟩) | (go_at_call 114; refine (HM.out _ _ _).mono ?_; rintro e w1 ⟨rfl, rfl⟩))
    go_ret2
    exact ⟨rfl, HU.out.1⟩
theorem rorder_any (k k' : Int) (k0 : 0 ≤ k) (k3 : k ≤ 3) (k0' : 0 ≤ k') (k3' : k' ≤ 3) (h0 : In64 n) (h0' : In64 n') (ht : t.size ≤ 281474976710656) (ht' : t'.size ≤ 281474976710656) : Calls Tryz.prog 76 #[.agg #[.int .i64 k, .int .i64 n, .string t, .slice A l c], .agg #[.int .i64 k', .int .i64 n', .string t', .slice A' l' c']] w fun e w' => e = .returned (.tuple #[.int .i64 (orderP k n t k' n' t'), .int .i64 0]) ∧ Below w.heap.size w w' := by
  have hk : k = 0 ∨ k = 1 ∨ k = 2 ∨ k = 3 := by omega
  have hk' : k' = 0 ∨ k' = 1 ∨ k' = 2 ∨ k' = 3 := by omega
  have X := rorder_1_x n n' t t' A A' l l' c c' w k' k0' k3'
  rcases hk with rfl | rfl | rfl | rfl
  · rcases hk' with rfl | rfl | rfl | rfl
    · exact rorder_0_0 n n' t t' A A' l l' c c' w
    · exact rorder_0_1 n n' t t' A A' l l' c c' w
    · exact rorder_0_2 n n' t t' A A' l l' c c' w
    · exact rorder_0_3 n n' t t' A A' l l' c c' w h0 h0' ht ht'
  · exact X
  · rcases hk' with rfl | rfl | rfl | rfl
    · exact rorder_2_0 n n' t t' A A' l l' c c' w
    · exact rorder_2_1 n n' t t' A A' l l' c c' w
    · exact rorder_2_2 n n' t t' A A' l l' c c' w h0 h0' ht ht'
    · exact rorder_2_3 n n' t t' A A' l l' c c' w h0 h0' ht ht'
  · rcases hk' with rfl | rfl | rfl | rfl
    · exact rorder_3_0 n n' t t' A A' l l' c c' w h0 h0' ht ht'
    · exact rorder_3_1 n n' t t' A A' l l' c c' w
    · exact rorder_3_2 n n' t t' A A' l l' c c' w h0 h0' ht ht'
    · exact rorder_3_3 n n' t t' A A' l l' c c' w h0 h0' ht ht'
end
end Dp
end Go.Proofs.YthdnflklhhfojaaGreatDoor
