/- conv.Order and the document's at plain values: the walks. -/
import Derived.Test.YthdnflklhhfojaaGreatDoorOrF
import Derived.Deep.RegionHeld3
namespace Go.Proofs.YthdnflklhhfojaaGreatDoor
open Go Go.RowKit
namespace Dp
open Go.Proofs.YthdnflklhhfojaaGreatDoor.Nm (numericL)
/-- Two boxes of values laid by a call: behind them nothing below has turned, and they are what they were. -/
def Two (w wx : World) (cs cs' : Array Value) : Prop := Below w.heap.size w wx ∧ Blk wx w.heap.size 27 cs ∧ Blk wx (w.heap.size + 1) 27 cs'
theorem Two.made (w : World) (cs cs' : Array Value) : Two w ((w.alloc (.cells cs 27)).alloc (.cells cs' 27)) cs cs' := by
  have hw1 : (w.alloc (.cells cs 27)).heap.size = w.heap.size + 1 := by simp
  have hy := Blk.new (w.alloc (.cells cs 27)) 27 cs'
  rw [hw1] at hy
  exact ⟨((Below.refl w.heap.size w).alloc (Nat.le_refl _) _).alloc (by simp) _, blk_below (Blk.new w 27 cs) ((Below.refl _ _).alloc (Nat.le_refl _) _), hy⟩
theorem Two.next {w wx wy : World} {cs cs' : Array Value} (h : Two w wx cs cs') (hb : Below wx.heap.size wx wy) : Two w wy cs cs' := ⟨h.1.trans (hb.mono h.1.size), blk_below h.2.1 hb, blk_below h.2.2 hb⟩
theorem Two.drew {w wx : World} {cs cs' : Array Value} (h : Two w wx cs cs') : Two w wx.drew cs cs' := h.next (drewN' (Below.refl _ _) 1)
theorem Two.cells {w wx : World} {a0 a1 a2 a3 b0 b1 b2 b3 : Value} (h : Two w wx #[a0, a1, a2, a3] #[b0, b1, b2, b3]) :
    wx.cell? ⟨w.heap.size, 0, none⟩ = some a0 ∧ wx.cell? ⟨w.heap.size, 1, none⟩ = some a1 ∧ wx.cell? ⟨w.heap.size, 2, none⟩ = some a2 ∧ wx.cell? ⟨w.heap.size, 3, none⟩ = some a3 ∧
      wx.cell? ⟨w.heap.size + 1, 0, none⟩ = some b0 ∧ wx.cell? ⟨w.heap.size + 1, 1, none⟩ = some b1 ∧ wx.cell? ⟨w.heap.size + 1, 2, none⟩ = some b2 ∧ wx.cell? ⟨w.heap.size + 1, 3, none⟩ = some b3 :=
  ⟨h.2.1.cell 0, h.2.1.cell 1, h.2.1.cell 2, h.2.1.cell 3, h.2.2.cell 0, h.2.2.cell 1, h.2.2.cell 2, h.2.2.cell 3⟩
theorem truthK_plain {k n : Int} {t : ByteArray} {l : Nat} (h : k ≤ 3) : truthK k n t l = truthK k n t 0 := by
  unfold truthK
  split
  · rfl
  · split
    · rfl
    · split
      · rfl
      · rw [if_neg (by omega), if_neg (by omega)]
theorem numI_of {k n : Int} {t : ByteArray} {m : Int} (hk : k = 2 ∨ k = 3) (h : numP k n t = some m) : numI k n t = m := by
  rcases hk with rfl | rfl
  · exact Option.some.inj h
  · have h2 : numericL t.data.toList = some m := h
    show (numericL t.data.toList).getD 0 = m
    rw [h2]
    rfl
theorem cplain_yes (n : Int) (t : ByteArray) (A : Option Addr) (l c : Nat) (w : World) (k : Int) (h0 : 0 ≤ k) (h3 : k ≤ 3) : Calls Tryz.prog 106 #[.agg #[.int .i64 k, .int .i64 n, .string t, .slice A l c]] w fun e w' => e = .returned (.bool true) ∧ Below w.heap.size w w' := by
  refine (cplain_any n t A l c w k).mono ?_
  rintro e w' ⟨rfl, rfl⟩
  exact ⟨by rw [show plainB k = true by simp [plainB]; omega], (Below.refl w.heap.size w).alloc (Nat.le_refl _) _⟩
theorem compare_any (a b : ByteArray) (w : World) : Calls Tryz.prog 111 #[.string a, .string b] w fun e w' => e = .returned (.int .i64 (cmpT a b)) ∧ w = w' := by
  refine (Tryz.strings_Compare a b w).mono ?_
  rintro e w' ⟨rfl, rfl⟩
  exact ⟨rfl, rfl⟩
section
variable (n n' : Int) (t t' : ByteArray) (A A' : Option Addr) (l l' c c' : Nat) (w : World)
set_option maxRecDepth 100000 in
set_option maxHeartbeats 2000000 in
theorem corder_1_x (k' : Int) (k0 : 0 ≤ k') (k3 : k' ≤ 3) : Calls Tryz.prog 71 #[.agg #[.int .i64 1, .int .i64 n, .string t, .slice A l c], .agg #[.int .i64 k', .int .i64 n', .string t', .slice A' l' c']] w fun e w' => e = .returned (.tuple #[.int .i64 (orderP 1 n t k' n' t'), .int .i64 0]) ∧ Below w.heap.size w w' := by
  have hE : orderP 1 n t k' n' t' = truthsI (truthK 1 n t l) (truthK k' n' t' l') := by
    unfold orderP
    rw [if_pos (by first | decide | exact .inl rfl | exact .inr rfl)]
    rw [truthK_plain (k := 1) (l := l) (by omega), truthK_plain (k := k') (l := l') (by omega)]
  rw [hE]
  clear hE
  have HU := Lib.hid (Two.made w #[.int .i64 1, .int .i64 n, .string t, .slice A l c] #[.int .i64 k', .int .i64 n', .string t', .slice A' l' c'])
  have HP := Lib.hid cplain_yes
  have HTr := Lib.hid (fun n t A l c w k => ctruth_any n t A l c w k)
  have HTs := Lib.hid ctruths_any
  have HN := Lib.hid cnum_any
  have HTx := Lib.hid ctext_any
  have HC := Lib.hid compare_any
  have HM := Lib.hid ccmp_any
  go_enter Tryz.func71, Tryz.ntmps71
  go_wp2_with (first | (go_at_call 106; refine (HP.out _ _ _ _ _ _ _ (by omega) (by omega)).mono ?_; rintro e w1 ⟨rfl, hb⟩; have HU := Lib.hid (HU.out.next hb); clear hb; obtain ⟨x0, x1, x2, x3, y0, y1, y2, y3⟩ := HU.out.cells) | (go_at_call 109; refine (HN.out _ _ _ _ _ _ _ (by decide) (by assumption) (HL.out.below HU.out.1)).mono ?_; rintro e w1 ⟨rfl, hb⟩; have HU := Lib.hid (HU.out.next hb); clear hb; obtain ⟨x0, x1, x2, x3, y0, y1, y2, y3⟩ := HU.out.cells) | (go_at_call 92; refine (HTx.out _ _ _ _ _ _ _ (by decide) (by assumption) (HL.out.below HU.out.1)).mono ?_; rintro e w1 ⟨rfl, hb⟩; have HU := Lib.hid (HU.out.next hb); clear hb; obtain ⟨x0, x1, x2, x3, y0, y1, y2, y3⟩ := HU.out.cells) | (go_at_call 111; refine (HC.out _ _ _).mono ?_; rintro e w1 ⟨rfl, rfl⟩) | (go_at_call 110; refine (HM.out _ _ _).mono ?_; rintro e w1 ⟨rfl, rfl⟩))
  have HU := Lib.hid HU.out.drew
  go_region_held3 (fun w' => w'.cell? ⟨w.heap.size, 0, none⟩ = some (.int .i64 1) ∧ w'.cell? ⟨w.heap.size, 1, none⟩ = some (.int .i64 n) ∧ w'.cell? ⟨w.heap.size, 2, none⟩ = some (.string t) ∧ w'.cell? ⟨w.heap.size, 3, none⟩ = some (.slice A l c) ∧ w'.cell? ⟨w.heap.size + 1, 0, none⟩ = some (.int .i64 k') ∧ w'.cell? ⟨w.heap.size + 1, 1, none⟩ = some (.int .i64 n') ∧ w'.cell? ⟨w.heap.size + 1, 2, none⟩ = some (.string t') ∧ w'.cell? ⟨w.heap.size + 1, 3, none⟩ = some (.slice A' l' c')) (exact ⟨x0, x1, x2, x3, y0, y1, y2, y3⟩) (first | (go_at_call 108; refine (HTr.out _ _ _ _ _ _ _).mono ?_; rintro e w1 ⟨rfl, hb⟩; have HU := Lib.hid (HU.out.next hb); clear hb; obtain ⟨x0, x1, x2, x3, y0, y1, y2, y3⟩ := HU.out.cells) | (go_at_call 107; refine (HTs.out _ _ _).mono ?_; rintro e w1 ⟨rfl, rfl⟩))
  go_wp2_with fail
  go_ret2
  exact ⟨rfl, HU.out.1⟩
set_option maxRecDepth 100000 in
set_option maxHeartbeats 2000000 in
theorem corder_0_1 : Calls Tryz.prog 71 #[.agg #[.int .i64 0, .int .i64 n, .string t, .slice A l c], .agg #[.int .i64 1, .int .i64 n', .string t', .slice A' l' c']] w fun e w' => e = .returned (.tuple #[.int .i64 (orderP 0 n t 1 n' t'), .int .i64 0]) ∧ Below w.heap.size w w' := by
  have hE : orderP 0 n t 1 n' t' = truthsI (truthK 0 n t l) (truthK 1 n' t' l') := by
    unfold orderP
    rw [if_pos (by first | decide | exact .inl rfl | exact .inr rfl)]
    rw [truthK_plain (k := 0) (l := l) (by omega), truthK_plain (k := 1) (l := l') (by omega)]
  rw [hE]
  clear hE
  have HU := Lib.hid (Two.made w #[.int .i64 0, .int .i64 n, .string t, .slice A l c] #[.int .i64 1, .int .i64 n', .string t', .slice A' l' c'])
  have HP := Lib.hid cplain_yes
  have HTr := Lib.hid (fun n t A l c w k => ctruth_any n t A l c w k)
  have HTs := Lib.hid ctruths_any
  have HN := Lib.hid cnum_any
  have HTx := Lib.hid ctext_any
  have HC := Lib.hid compare_any
  have HM := Lib.hid ccmp_any
  go_enter Tryz.func71, Tryz.ntmps71
  go_wp2_with (first | (go_at_call 106; refine (HP.out _ _ _ _ _ _ _ (by omega) (by omega)).mono ?_; rintro e w1 ⟨rfl, hb⟩; have HU := Lib.hid (HU.out.next hb); clear hb; obtain ⟨x0, x1, x2, x3, y0, y1, y2, y3⟩ := HU.out.cells) | (go_at_call 109; refine (HN.out _ _ _ _ _ _ _ (by decide) (by assumption) (HL.out.below HU.out.1)).mono ?_; rintro e w1 ⟨rfl, hb⟩; have HU := Lib.hid (HU.out.next hb); clear hb; obtain ⟨x0, x1, x2, x3, y0, y1, y2, y3⟩ := HU.out.cells) | (go_at_call 92; refine (HTx.out _ _ _ _ _ _ _ (by decide) (by assumption) (HL.out.below HU.out.1)).mono ?_; rintro e w1 ⟨rfl, hb⟩; have HU := Lib.hid (HU.out.next hb); clear hb; obtain ⟨x0, x1, x2, x3, y0, y1, y2, y3⟩ := HU.out.cells) | (go_at_call 111; refine (HC.out _ _ _).mono ?_; rintro e w1 ⟨rfl, rfl⟩) | (go_at_call 110; refine (HM.out _ _ _).mono ?_; rintro e w1 ⟨rfl, rfl⟩))
  have HU := Lib.hid HU.out.drew
  go_region_held3 (fun w' => w'.cell? ⟨w.heap.size, 0, none⟩ = some (.int .i64 0) ∧ w'.cell? ⟨w.heap.size, 1, none⟩ = some (.int .i64 n) ∧ w'.cell? ⟨w.heap.size, 2, none⟩ = some (.string t) ∧ w'.cell? ⟨w.heap.size, 3, none⟩ = some (.slice A l c) ∧ w'.cell? ⟨w.heap.size + 1, 0, none⟩ = some (.int .i64 1) ∧ w'.cell? ⟨w.heap.size + 1, 1, none⟩ = some (.int .i64 n') ∧ w'.cell? ⟨w.heap.size + 1, 2, none⟩ = some (.string t') ∧ w'.cell? ⟨w.heap.size + 1, 3, none⟩ = some (.slice A' l' c')) (exact ⟨x0, x1, x2, x3, y0, y1, y2, y3⟩) (first | (go_at_call 108; refine (HTr.out _ _ _ _ _ _ _).mono ?_; rintro e w1 ⟨rfl, hb⟩; have HU := Lib.hid (HU.out.next hb); clear hb; obtain ⟨x0, x1, x2, x3, y0, y1, y2, y3⟩ := HU.out.cells) | (go_at_call 107; refine (HTs.out _ _ _).mono ?_; rintro e w1 ⟨rfl, rfl⟩))
  go_wp2_with fail
  go_ret2
  exact ⟨rfl, HU.out.1⟩
set_option maxRecDepth 100000 in
set_option maxHeartbeats 2000000 in
theorem corder_2_1 : Calls Tryz.prog 71 #[.agg #[.int .i64 2, .int .i64 n, .string t, .slice A l c], .agg #[.int .i64 1, .int .i64 n', .string t', .slice A' l' c']] w fun e w' => e = .returned (.tuple #[.int .i64 (orderP 2 n t 1 n' t'), .int .i64 0]) ∧ Below w.heap.size w w' := by
  have hE : orderP 2 n t 1 n' t' = truthsI (truthK 2 n t l) (truthK 1 n' t' l') := by
    unfold orderP
    rw [if_pos (by first | decide | exact .inl rfl | exact .inr rfl)]
    rw [truthK_plain (k := 2) (l := l) (by omega), truthK_plain (k := 1) (l := l') (by omega)]
  rw [hE]
  clear hE
  have HU := Lib.hid (Two.made w #[.int .i64 2, .int .i64 n, .string t, .slice A l c] #[.int .i64 1, .int .i64 n', .string t', .slice A' l' c'])
  have HP := Lib.hid cplain_yes
  have HTr := Lib.hid (fun n t A l c w k => ctruth_any n t A l c w k)
  have HTs := Lib.hid ctruths_any
  have HN := Lib.hid cnum_any
  have HTx := Lib.hid ctext_any
  have HC := Lib.hid compare_any
  have HM := Lib.hid ccmp_any
  go_enter Tryz.func71, Tryz.ntmps71
  go_wp2_with (first | (go_at_call 106; refine (HP.out _ _ _ _ _ _ _ (by omega) (by omega)).mono ?_; rintro e w1 ⟨rfl, hb⟩; have HU := Lib.hid (HU.out.next hb); clear hb; obtain ⟨x0, x1, x2, x3, y0, y1, y2, y3⟩ := HU.out.cells) | (go_at_call 109; refine (HN.out _ _ _ _ _ _ _ (by decide) (by assumption) (HL.out.below HU.out.1)).mono ?_; rintro e w1 ⟨rfl, hb⟩; have HU := Lib.hid (HU.out.next hb); clear hb; obtain ⟨x0, x1, x2, x3, y0, y1, y2, y3⟩ := HU.out.cells) | (go_at_call 92; refine (HTx.out _ _ _ _ _ _ _ (by decide) (by assumption) (HL.out.below HU.out.1)).mono ?_; rintro e w1 ⟨rfl, hb⟩; have HU := Lib.hid (HU.out.next hb); clear hb; obtain ⟨x0, x1, x2, x3, y0, y1, y2, y3⟩ := HU.out.cells) | (go_at_call 111; refine (HC.out _ _ _).mono ?_; rintro e w1 ⟨rfl, rfl⟩) | (go_at_call 110; refine (HM.out _ _ _).mono ?_; rintro e w1 ⟨rfl, rfl⟩))
  have HU := Lib.hid HU.out.drew
  go_region_held3 (fun w' => w'.cell? ⟨w.heap.size, 0, none⟩ = some (.int .i64 2) ∧ w'.cell? ⟨w.heap.size, 1, none⟩ = some (.int .i64 n) ∧ w'.cell? ⟨w.heap.size, 2, none⟩ = some (.string t) ∧ w'.cell? ⟨w.heap.size, 3, none⟩ = some (.slice A l c) ∧ w'.cell? ⟨w.heap.size + 1, 0, none⟩ = some (.int .i64 1) ∧ w'.cell? ⟨w.heap.size + 1, 1, none⟩ = some (.int .i64 n') ∧ w'.cell? ⟨w.heap.size + 1, 2, none⟩ = some (.string t') ∧ w'.cell? ⟨w.heap.size + 1, 3, none⟩ = some (.slice A' l' c')) (exact ⟨x0, x1, x2, x3, y0, y1, y2, y3⟩) (first | (go_at_call 108; refine (HTr.out _ _ _ _ _ _ _).mono ?_; rintro e w1 ⟨rfl, hb⟩; have HU := Lib.hid (HU.out.next hb); clear hb; obtain ⟨x0, x1, x2, x3, y0, y1, y2, y3⟩ := HU.out.cells) | (go_at_call 107; refine (HTs.out _ _ _).mono ?_; rintro e w1 ⟨rfl, rfl⟩))
  go_wp2_with fail
  go_ret2
  exact ⟨rfl, HU.out.1⟩
set_option maxRecDepth 100000 in
set_option maxHeartbeats 2000000 in
theorem corder_3_1 : Calls Tryz.prog 71 #[.agg #[.int .i64 3, .int .i64 n, .string t, .slice A l c], .agg #[.int .i64 1, .int .i64 n', .string t', .slice A' l' c']] w fun e w' => e = .returned (.tuple #[.int .i64 (orderP 3 n t 1 n' t'), .int .i64 0]) ∧ Below w.heap.size w w' := by
  have hE : orderP 3 n t 1 n' t' = truthsI (truthK 3 n t l) (truthK 1 n' t' l') := by
    unfold orderP
    rw [if_pos (by first | decide | exact .inl rfl | exact .inr rfl)]
    rw [truthK_plain (k := 3) (l := l) (by omega), truthK_plain (k := 1) (l := l') (by omega)]
  rw [hE]
  clear hE
  have HU := Lib.hid (Two.made w #[.int .i64 3, .int .i64 n, .string t, .slice A l c] #[.int .i64 1, .int .i64 n', .string t', .slice A' l' c'])
  have HP := Lib.hid cplain_yes
  have HTr := Lib.hid (fun n t A l c w k => ctruth_any n t A l c w k)
  have HTs := Lib.hid ctruths_any
  have HN := Lib.hid cnum_any
  have HTx := Lib.hid ctext_any
  have HC := Lib.hid compare_any
  have HM := Lib.hid ccmp_any
  go_enter Tryz.func71, Tryz.ntmps71
  go_wp2_with (first | (go_at_call 106; refine (HP.out _ _ _ _ _ _ _ (by omega) (by omega)).mono ?_; rintro e w1 ⟨rfl, hb⟩; have HU := Lib.hid (HU.out.next hb); clear hb; obtain ⟨x0, x1, x2, x3, y0, y1, y2, y3⟩ := HU.out.cells) | (go_at_call 109; refine (HN.out _ _ _ _ _ _ _ (by decide) (by assumption) (HL.out.below HU.out.1)).mono ?_; rintro e w1 ⟨rfl, hb⟩; have HU := Lib.hid (HU.out.next hb); clear hb; obtain ⟨x0, x1, x2, x3, y0, y1, y2, y3⟩ := HU.out.cells) | (go_at_call 92; refine (HTx.out _ _ _ _ _ _ _ (by decide) (by assumption) (HL.out.below HU.out.1)).mono ?_; rintro e w1 ⟨rfl, hb⟩; have HU := Lib.hid (HU.out.next hb); clear hb; obtain ⟨x0, x1, x2, x3, y0, y1, y2, y3⟩ := HU.out.cells) | (go_at_call 111; refine (HC.out _ _ _).mono ?_; rintro e w1 ⟨rfl, rfl⟩) | (go_at_call 110; refine (HM.out _ _ _).mono ?_; rintro e w1 ⟨rfl, rfl⟩))
  have HU := Lib.hid HU.out.drew
  go_region_held3 (fun w' => w'.cell? ⟨w.heap.size, 0, none⟩ = some (.int .i64 3) ∧ w'.cell? ⟨w.heap.size, 1, none⟩ = some (.int .i64 n) ∧ w'.cell? ⟨w.heap.size, 2, none⟩ = some (.string t) ∧ w'.cell? ⟨w.heap.size, 3, none⟩ = some (.slice A l c) ∧ w'.cell? ⟨w.heap.size + 1, 0, none⟩ = some (.int .i64 1) ∧ w'.cell? ⟨w.heap.size + 1, 1, none⟩ = some (.int .i64 n') ∧ w'.cell? ⟨w.heap.size + 1, 2, none⟩ = some (.string t') ∧ w'.cell? ⟨w.heap.size + 1, 3, none⟩ = some (.slice A' l' c')) (exact ⟨x0, x1, x2, x3, y0, y1, y2, y3⟩) (first | (go_at_call 108; refine (HTr.out _ _ _ _ _ _ _).mono ?_; rintro e w1 ⟨rfl, hb⟩; have HU := Lib.hid (HU.out.next hb); clear hb; obtain ⟨x0, x1, x2, x3, y0, y1, y2, y3⟩ := HU.out.cells) | (go_at_call 107; refine (HTs.out _ _ _).mono ?_; rintro e w1 ⟨rfl, rfl⟩))
  go_wp2_with fail
  go_ret2
  exact ⟨rfl, HU.out.1⟩
set_option maxRecDepth 100000 in
set_option maxHeartbeats 2000000 in
theorem corder_0_0 : Calls Tryz.prog 71 #[.agg #[.int .i64 0, .int .i64 n, .string t, .slice A l c], .agg #[.int .i64 0, .int .i64 n', .string t', .slice A' l' c']] w fun e w' => e = .returned (.tuple #[.int .i64 (orderP 0 n t 0 n' t'), .int .i64 0]) ∧ Below w.heap.size w w' := by
  have hE : orderP 0 n t 0 n' t' = truthsI (truthK 0 n t l) (truthK 0 n' t' l') := by
    unfold orderP
    rw [if_neg (by decide), if_neg (by decide), if_neg (by decide), if_pos (by decide)]
    rw [truthK_plain (k := 0) (l := l) (by omega), truthK_plain (k := 0) (l := l') (by omega)]
  rw [hE]
  clear hE
  have HU := Lib.hid (Two.made w #[.int .i64 0, .int .i64 n, .string t, .slice A l c] #[.int .i64 0, .int .i64 n', .string t', .slice A' l' c'])
  have HP := Lib.hid cplain_yes
  have HTr := Lib.hid (fun n t A l c w k => ctruth_any n t A l c w k)
  have HTs := Lib.hid ctruths_any
  have HN := Lib.hid cnum_any
  have HTx := Lib.hid ctext_any
  have HC := Lib.hid compare_any
  have HM := Lib.hid ccmp_any
  go_enter Tryz.func71, Tryz.ntmps71
  go_wp2_with (first | (go_at_call 106; refine (HP.out _ _ _ _ _ _ _ (by omega) (by omega)).mono ?_; rintro e w1 ⟨rfl, hb⟩; have HU := Lib.hid (HU.out.next hb); clear hb; obtain ⟨x0, x1, x2, x3, y0, y1, y2, y3⟩ := HU.out.cells) | (go_at_call 109; refine (HN.out _ _ _ _ _ _ _ (by decide) (by assumption) (HL.out.below HU.out.1)).mono ?_; rintro e w1 ⟨rfl, hb⟩; have HU := Lib.hid (HU.out.next hb); clear hb; obtain ⟨x0, x1, x2, x3, y0, y1, y2, y3⟩ := HU.out.cells) | (go_at_call 92; refine (HTx.out _ _ _ _ _ _ _ (by decide) (by assumption) (HL.out.below HU.out.1)).mono ?_; rintro e w1 ⟨rfl, hb⟩; have HU := Lib.hid (HU.out.next hb); clear hb; obtain ⟨x0, x1, x2, x3, y0, y1, y2, y3⟩ := HU.out.cells) | (go_at_call 111; refine (HC.out _ _ _).mono ?_; rintro e w1 ⟨rfl, rfl⟩) | (go_at_call 110; refine (HM.out _ _ _).mono ?_; rintro e w1 ⟨rfl, rfl⟩))
  have HU := Lib.hid HU.out.drew
  go_region_held3 (fun w' => w'.cell? ⟨w.heap.size, 0, none⟩ = some (.int .i64 0) ∧ w'.cell? ⟨w.heap.size, 1, none⟩ = some (.int .i64 n) ∧ w'.cell? ⟨w.heap.size, 2, none⟩ = some (.string t) ∧ w'.cell? ⟨w.heap.size, 3, none⟩ = some (.slice A l c) ∧ w'.cell? ⟨w.heap.size + 1, 0, none⟩ = some (.int .i64 0) ∧ w'.cell? ⟨w.heap.size + 1, 1, none⟩ = some (.int .i64 n') ∧ w'.cell? ⟨w.heap.size + 1, 2, none⟩ = some (.string t') ∧ w'.cell? ⟨w.heap.size + 1, 3, none⟩ = some (.slice A' l' c')) (exact ⟨x0, x1, x2, x3, y0, y1, y2, y3⟩) (first | (go_at_call 108; refine (HTr.out _ _ _ _ _ _ _).mono ?_; rintro e w1 ⟨rfl, hb⟩; have HU := Lib.hid (HU.out.next hb); clear hb; obtain ⟨x0, x1, x2, x3, y0, y1, y2, y3⟩ := HU.out.cells) | (go_at_call 107; refine (HTs.out _ _ _).mono ?_; rintro e w1 ⟨rfl, rfl⟩))
  go_wp2_with fail
  go_ret2
  exact ⟨rfl, HU.out.1⟩
set_option maxRecDepth 100000 in
set_option maxHeartbeats 2000000 in
theorem corder_0_2 : Calls Tryz.prog 71 #[.agg #[.int .i64 0, .int .i64 n, .string t, .slice A l c], .agg #[.int .i64 2, .int .i64 n', .string t', .slice A' l' c']] w fun e w' => e = .returned (.tuple #[.int .i64 (orderP 0 n t 2 n' t'), .int .i64 0]) ∧ Below w.heap.size w w' := by
  have hE : orderP 0 n t 2 n' t' = truthsI (truthK 0 n t l) (truthK 2 n' t' l') := by
    unfold orderP
    rw [if_neg (by decide), if_neg (by decide), if_neg (by decide), if_pos (by decide)]
    rw [truthK_plain (k := 0) (l := l) (by omega), truthK_plain (k := 2) (l := l') (by omega)]
  rw [hE]
  clear hE
  have HU := Lib.hid (Two.made w #[.int .i64 0, .int .i64 n, .string t, .slice A l c] #[.int .i64 2, .int .i64 n', .string t', .slice A' l' c'])
  have HP := Lib.hid cplain_yes
  have HTr := Lib.hid (fun n t A l c w k => ctruth_any n t A l c w k)
  have HTs := Lib.hid ctruths_any
  have HN := Lib.hid cnum_any
  have HTx := Lib.hid ctext_any
  have HC := Lib.hid compare_any
  have HM := Lib.hid ccmp_any
  go_enter Tryz.func71, Tryz.ntmps71
  go_wp2_with (first | (go_at_call 106; refine (HP.out _ _ _ _ _ _ _ (by omega) (by omega)).mono ?_; rintro e w1 ⟨rfl, hb⟩; have HU := Lib.hid (HU.out.next hb); clear hb; obtain ⟨x0, x1, x2, x3, y0, y1, y2, y3⟩ := HU.out.cells) | (go_at_call 109; refine (HN.out _ _ _ _ _ _ _ (by decide) (by assumption) (HL.out.below HU.out.1)).mono ?_; rintro e w1 ⟨rfl, hb⟩; have HU := Lib.hid (HU.out.next hb); clear hb; obtain ⟨x0, x1, x2, x3, y0, y1, y2, y3⟩ := HU.out.cells) | (go_at_call 92; refine (HTx.out _ _ _ _ _ _ _ (by decide) (by assumption) (HL.out.below HU.out.1)).mono ?_; rintro e w1 ⟨rfl, hb⟩; have HU := Lib.hid (HU.out.next hb); clear hb; obtain ⟨x0, x1, x2, x3, y0, y1, y2, y3⟩ := HU.out.cells) | (go_at_call 111; refine (HC.out _ _ _).mono ?_; rintro e w1 ⟨rfl, rfl⟩) | (go_at_call 110; refine (HM.out _ _ _).mono ?_; rintro e w1 ⟨rfl, rfl⟩))
  have HU := Lib.hid HU.out.drew
  go_region_held3 (fun w' => w'.cell? ⟨w.heap.size, 0, none⟩ = some (.int .i64 0) ∧ w'.cell? ⟨w.heap.size, 1, none⟩ = some (.int .i64 n) ∧ w'.cell? ⟨w.heap.size, 2, none⟩ = some (.string t) ∧ w'.cell? ⟨w.heap.size, 3, none⟩ = some (.slice A l c) ∧ w'.cell? ⟨w.heap.size + 1, 0, none⟩ = some (.int .i64 2) ∧ w'.cell? ⟨w.heap.size + 1, 1, none⟩ = some (.int .i64 n') ∧ w'.cell? ⟨w.heap.size + 1, 2, none⟩ = some (.string t') ∧ w'.cell? ⟨w.heap.size + 1, 3, none⟩ = some (.slice A' l' c')) (exact ⟨x0, x1, x2, x3, y0, y1, y2, y3⟩) (first | (go_at_call 108; refine (HTr.out _ _ _ _ _ _ _).mono ?_; rintro e w1 ⟨rfl, hb⟩; have HU := Lib.hid (HU.out.next hb); clear hb; obtain ⟨x0, x1, x2, x3, y0, y1, y2, y3⟩ := HU.out.cells) | (go_at_call 107; refine (HTs.out _ _ _).mono ?_; rintro e w1 ⟨rfl, rfl⟩))
  go_wp2_with fail
  go_ret2
  exact ⟨rfl, HU.out.1⟩
set_option maxRecDepth 100000 in
set_option maxHeartbeats 2000000 in
theorem corder_2_0 : Calls Tryz.prog 71 #[.agg #[.int .i64 2, .int .i64 n, .string t, .slice A l c], .agg #[.int .i64 0, .int .i64 n', .string t', .slice A' l' c']] w fun e w' => e = .returned (.tuple #[.int .i64 (orderP 2 n t 0 n' t'), .int .i64 0]) ∧ Below w.heap.size w w' := by
  have hE : orderP 2 n t 0 n' t' = truthsI (truthK 2 n t l) (truthK 0 n' t' l') := by
    unfold orderP
    rw [if_neg (by decide), if_neg (by decide), if_neg (by decide), if_pos (by decide)]
    rw [truthK_plain (k := 2) (l := l) (by omega), truthK_plain (k := 0) (l := l') (by omega)]
  rw [hE]
  clear hE
  have HU := Lib.hid (Two.made w #[.int .i64 2, .int .i64 n, .string t, .slice A l c] #[.int .i64 0, .int .i64 n', .string t', .slice A' l' c'])
  have HP := Lib.hid cplain_yes
  have HTr := Lib.hid (fun n t A l c w k => ctruth_any n t A l c w k)
  have HTs := Lib.hid ctruths_any
  have HN := Lib.hid cnum_any
  have HTx := Lib.hid ctext_any
  have HC := Lib.hid compare_any
  have HM := Lib.hid ccmp_any
  go_enter Tryz.func71, Tryz.ntmps71
  go_wp2_with (first | (go_at_call 106; refine (HP.out _ _ _ _ _ _ _ (by omega) (by omega)).mono ?_; rintro e w1 ⟨rfl, hb⟩; have HU := Lib.hid (HU.out.next hb); clear hb; obtain ⟨x0, x1, x2, x3, y0, y1, y2, y3⟩ := HU.out.cells) | (go_at_call 109; refine (HN.out _ _ _ _ _ _ _ (by decide) (by assumption) (HL.out.below HU.out.1)).mono ?_; rintro e w1 ⟨rfl, hb⟩; have HU := Lib.hid (HU.out.next hb); clear hb; obtain ⟨x0, x1, x2, x3, y0, y1, y2, y3⟩ := HU.out.cells) | (go_at_call 92; refine (HTx.out _ _ _ _ _ _ _ (by decide) (by assumption) (HL.out.below HU.out.1)).mono ?_; rintro e w1 ⟨rfl, hb⟩; have HU := Lib.hid (HU.out.next hb); clear hb; obtain ⟨x0, x1, x2, x3, y0, y1, y2, y3⟩ := HU.out.cells) | (go_at_call 111; refine (HC.out _ _ _).mono ?_; rintro e w1 ⟨rfl, rfl⟩) | (go_at_call 110; refine (HM.out _ _ _).mono ?_; rintro e w1 ⟨rfl, rfl⟩))
  have HU := Lib.hid HU.out.drew
  go_region_held3 (fun w' => w'.cell? ⟨w.heap.size, 0, none⟩ = some (.int .i64 2) ∧ w'.cell? ⟨w.heap.size, 1, none⟩ = some (.int .i64 n) ∧ w'.cell? ⟨w.heap.size, 2, none⟩ = some (.string t) ∧ w'.cell? ⟨w.heap.size, 3, none⟩ = some (.slice A l c) ∧ w'.cell? ⟨w.heap.size + 1, 0, none⟩ = some (.int .i64 0) ∧ w'.cell? ⟨w.heap.size + 1, 1, none⟩ = some (.int .i64 n') ∧ w'.cell? ⟨w.heap.size + 1, 2, none⟩ = some (.string t') ∧ w'.cell? ⟨w.heap.size + 1, 3, none⟩ = some (.slice A' l' c')) (exact ⟨x0, x1, x2, x3, y0, y1, y2, y3⟩) (first | (go_at_call 108; refine (HTr.out _ _ _ _ _ _ _).mono ?_; rintro e w1 ⟨rfl, hb⟩; have HU := Lib.hid (HU.out.next hb); clear hb; obtain ⟨x0, x1, x2, x3, y0, y1, y2, y3⟩ := HU.out.cells) | (go_at_call 107; refine (HTs.out _ _ _).mono ?_; rintro e w1 ⟨rfl, rfl⟩))
  go_wp2_with fail
  go_ret2
  exact ⟨rfl, HU.out.1⟩
set_option maxRecDepth 100000 in
set_option maxHeartbeats 2000000 in
theorem corder_0_3 (h0 : In64 n) (h0' : In64 n') (ht : t.size ≤ 281474976710656) (ht' : t'.size ≤ 281474976710656) (hL : LibS w) : Calls Tryz.prog 71 #[.agg #[.int .i64 0, .int .i64 n, .string t, .slice A l c], .agg #[.int .i64 3, .int .i64 n', .string t', .slice A' l' c']] w fun e w' => e = .returned (.tuple #[.int .i64 (orderP 0 n t 3 n' t'), .int .i64 0]) ∧ Below w.heap.size w w' := by
  have HL := Lib.hid hL
  clear hL
  have HU := Lib.hid (Two.made w #[.int .i64 0, .int .i64 n, .string t, .slice A l c] #[.int .i64 3, .int .i64 n', .string t', .slice A' l' c'])
  have HP := Lib.hid cplain_yes
  have HTr := Lib.hid (fun n t A l c w k => ctruth_any n t A l c w k)
  have HTs := Lib.hid ctruths_any
  have HN := Lib.hid cnum_any
  have HTx := Lib.hid ctext_any
  have HC := Lib.hid compare_any
  have HM := Lib.hid ccmp_any
  have q1 : (numP 0 n t).isSome = false := rfl
  have hE : orderP 0 n t 3 n' t' = cmpT (textP 0 n t) (textP 3 n' t') := by
    unfold orderP
    rw [if_neg (by decide), if_pos (by decide)]
    rfl
  rw [hE]
  clear hE
  go_enter Tryz.func71, Tryz.ntmps71
  go_wp2_with (first | (go_at_call 106; refine (HP.out _ _ _ _ _ _ _ (by omega) (by omega)).mono ?_; rintro e w1 ⟨rfl, hb⟩; have HU := Lib.hid (HU.out.next hb); clear hb; obtain ⟨x0, x1, x2, x3, y0, y1, y2, y3⟩ := HU.out.cells) | (go_at_call 109; refine (HN.out _ _ _ _ _ _ _ (by decide) (by assumption) (HL.out.below HU.out.1)).mono ?_; rintro e w1 ⟨rfl, hb⟩; have HU := Lib.hid (HU.out.next hb); clear hb; obtain ⟨x0, x1, x2, x3, y0, y1, y2, y3⟩ := HU.out.cells) | (go_at_call 92; refine (HTx.out _ _ _ _ _ _ _ (by decide) (by assumption) (HL.out.below HU.out.1)).mono ?_; rintro e w1 ⟨rfl, hb⟩; have HU := Lib.hid (HU.out.next hb); clear hb; obtain ⟨x0, x1, x2, x3, y0, y1, y2, y3⟩ := HU.out.cells) | (go_at_call 111; refine (HC.out _ _ _).mono ?_; rintro e w1 ⟨rfl, rfl⟩) | (go_at_call 110; refine (HM.out _ _ _).mono ?_; rintro e w1 ⟨rfl, rfl⟩))
  go_ret2
  exact ⟨rfl, HU.out.1⟩
set_option maxRecDepth 100000 in
set_option maxHeartbeats 2000000 in
theorem corder_3_0 (h0 : In64 n) (h0' : In64 n') (ht : t.size ≤ 281474976710656) (ht' : t'.size ≤ 281474976710656) (hL : LibS w) : Calls Tryz.prog 71 #[.agg #[.int .i64 3, .int .i64 n, .string t, .slice A l c], .agg #[.int .i64 0, .int .i64 n', .string t', .slice A' l' c']] w fun e w' => e = .returned (.tuple #[.int .i64 (orderP 3 n t 0 n' t'), .int .i64 0]) ∧ Below w.heap.size w w' := by
  have HL := Lib.hid hL
  clear hL
  have HU := Lib.hid (Two.made w #[.int .i64 3, .int .i64 n, .string t, .slice A l c] #[.int .i64 0, .int .i64 n', .string t', .slice A' l' c'])
  have HP := Lib.hid cplain_yes
  have HTr := Lib.hid (fun n t A l c w k => ctruth_any n t A l c w k)
  have HTs := Lib.hid ctruths_any
  have HN := Lib.hid cnum_any
  have HTx := Lib.hid ctext_any
  have HC := Lib.hid compare_any
  have HM := Lib.hid ccmp_any
  have q2 : (numP 0 n' t').isSome = false := rfl
  cases q1 : (numP 3 n t).isSome with
  | false =>
    have hE : orderP 3 n t 0 n' t' = cmpT (textP 3 n t) (textP 0 n' t') := by
      unfold orderP
      rw [if_neg (by decide), if_neg (by decide), if_pos (by decide)]
      rfl
    rw [hE]
    clear hE
    go_enter Tryz.func71, Tryz.ntmps71
    go_wp2_with (first | (go_at_call 106; refine (HP.out _ _ _ _ _ _ _ (by omega) (by omega)).mono ?_; rintro e w1 ⟨rfl, hb⟩; have HU := Lib.hid (HU.out.next hb); clear hb; obtain ⟨x0, x1, x2, x3, y0, y1, y2, y3⟩ := HU.out.cells) | (go_at_call 109; refine (HN.out _ _ _ _ _ _ _ (by decide) (by assumption) (HL.out.below HU.out.1)).mono ?_; rintro e w1 ⟨rfl, hb⟩; have HU := Lib.hid (HU.out.next hb); clear hb; obtain ⟨x0, x1, x2, x3, y0, y1, y2, y3⟩ := HU.out.cells) | (go_at_call 92; refine (HTx.out _ _ _ _ _ _ _ (by decide) (by assumption) (HL.out.below HU.out.1)).mono ?_; rintro e w1 ⟨rfl, hb⟩; have HU := Lib.hid (HU.out.next hb); clear hb; obtain ⟨x0, x1, x2, x3, y0, y1, y2, y3⟩ := HU.out.cells) | (go_at_call 111; refine (HC.out _ _ _).mono ?_; rintro e w1 ⟨rfl, rfl⟩) | (go_at_call 110; refine (HM.out _ _ _).mono ?_; rintro e w1 ⟨rfl, rfl⟩))
    go_ret2
    exact ⟨rfl, HU.out.1⟩
  | true =>
    have hE : orderP 3 n t 0 n' t' = cmpT (textP 3 n t) (textP 0 n' t') := by
      unfold orderP
      rw [if_neg (by decide), if_neg (by decide), if_pos (by decide)]
      rfl
    rw [hE]
    clear hE
    go_enter Tryz.func71, Tryz.ntmps71
    go_wp2_with (first | (go_at_call 106; refine (HP.out _ _ _ _ _ _ _ (by omega) (by omega)).mono ?_; rintro e w1 ⟨rfl, hb⟩; have HU := Lib.hid (HU.out.next hb); clear hb; obtain ⟨x0, x1, x2, x3, y0, y1, y2, y3⟩ := HU.out.cells) | (go_at_call 109; refine (HN.out _ _ _ _ _ _ _ (by decide) (by assumption) (HL.out.below HU.out.1)).mono ?_; rintro e w1 ⟨rfl, hb⟩; have HU := Lib.hid (HU.out.next hb); clear hb; obtain ⟨x0, x1, x2, x3, y0, y1, y2, y3⟩ := HU.out.cells) | (go_at_call 92; refine (HTx.out _ _ _ _ _ _ _ (by decide) (by assumption) (HL.out.below HU.out.1)).mono ?_; rintro e w1 ⟨rfl, hb⟩; have HU := Lib.hid (HU.out.next hb); clear hb; obtain ⟨x0, x1, x2, x3, y0, y1, y2, y3⟩ := HU.out.cells) | (go_at_call 111; refine (HC.out _ _ _).mono ?_; rintro e w1 ⟨rfl, rfl⟩) | (go_at_call 110; refine (HM.out _ _ _).mono ?_; rintro e w1 ⟨rfl, rfl⟩))
    go_ret2
    exact ⟨rfl, HU.out.1⟩
set_option maxRecDepth 100000 in
set_option maxHeartbeats 2000000 in
theorem corder_2_2 (_h0 : In64 n) (_h0' : In64 n') (ht : t.size ≤ 281474976710656) (ht' : t'.size ≤ 281474976710656) (hL : LibS w) : Calls Tryz.prog 71 #[.agg #[.int .i64 2, .int .i64 n, .string t, .slice A l c], .agg #[.int .i64 2, .int .i64 n', .string t', .slice A' l' c']] w fun e w' => e = .returned (.tuple #[.int .i64 (orderP 2 n t 2 n' t'), .int .i64 0]) ∧ Below w.heap.size w w' := by
  have HL := Lib.hid hL
  clear hL
  have HU := Lib.hid (Two.made w #[.int .i64 2, .int .i64 n, .string t, .slice A l c] #[.int .i64 2, .int .i64 n', .string t', .slice A' l' c'])
  have HP := Lib.hid cplain_yes
  have HTr := Lib.hid (fun n t A l c w k => ctruth_any n t A l c w k)
  have HTs := Lib.hid ctruths_any
  have HN := Lib.hid cnum_any
  have HTx := Lib.hid ctext_any
  have HC := Lib.hid compare_any
  have HM := Lib.hid ccmp_any
  have q1 : (numP 2 n t).isSome = true := rfl
  have q2 : (numP 2 n' t').isSome = true := rfl
  have hE : orderP 2 n t 2 n' t' = cmpI (numI 2 n t) (numI 2 n' t') := by
    unfold orderP
    rw [if_neg (by decide), if_neg (by decide), if_neg (by decide), if_neg (by decide)]
    cases e1 : numP 2 n t with
    | none => rw [e1] at q1; cases q1
    | some m =>
      cases e2 : numP 2 n' t' with
      | none => rw [e2] at q2; cases q2
      | some m2 => rw [numI_of (by decide) e1, numI_of (by decide) e2]
  rw [hE]
  clear hE
  go_enter Tryz.func71, Tryz.ntmps71
  go_wp2_with (first | (go_at_call 106; refine (HP.out _ _ _ _ _ _ _ (by omega) (by omega)).mono ?_; rintro e w1 ⟨rfl, hb⟩; have HU := Lib.hid (HU.out.next hb); clear hb; obtain ⟨x0, x1, x2, x3, y0, y1, y2, y3⟩ := HU.out.cells) | (go_at_call 109; refine (HN.out _ _ _ _ _ _ _ (by decide) (by assumption) (HL.out.below HU.out.1)).mono ?_; rintro e w1 ⟨rfl, hb⟩; have HU := Lib.hid (HU.out.next hb); clear hb; obtain ⟨x0, x1, x2, x3, y0, y1, y2, y3⟩ := HU.out.cells) | (go_at_call 92; refine (HTx.out _ _ _ _ _ _ _ (by decide) (by assumption) (HL.out.below HU.out.1)).mono ?_; rintro e w1 ⟨rfl, hb⟩; have HU := Lib.hid (HU.out.next hb); clear hb; obtain ⟨x0, x1, x2, x3, y0, y1, y2, y3⟩ := HU.out.cells) | (go_at_call 111; refine (HC.out _ _ _).mono ?_; rintro e w1 ⟨rfl, rfl⟩) | (go_at_call 110; refine (HM.out _ _ _).mono ?_; rintro e w1 ⟨rfl, rfl⟩))
  go_ret2
  exact ⟨rfl, HU.out.1⟩
set_option maxRecDepth 100000 in
set_option maxHeartbeats 2000000 in
theorem corder_2_3 (h0 : In64 n) (h0' : In64 n') (ht : t.size ≤ 281474976710656) (ht' : t'.size ≤ 281474976710656) (hL : LibS w) : Calls Tryz.prog 71 #[.agg #[.int .i64 2, .int .i64 n, .string t, .slice A l c], .agg #[.int .i64 3, .int .i64 n', .string t', .slice A' l' c']] w fun e w' => e = .returned (.tuple #[.int .i64 (orderP 2 n t 3 n' t'), .int .i64 0]) ∧ Below w.heap.size w w' := by
  have HL := Lib.hid hL
  clear hL
  have HU := Lib.hid (Two.made w #[.int .i64 2, .int .i64 n, .string t, .slice A l c] #[.int .i64 3, .int .i64 n', .string t', .slice A' l' c'])
  have HP := Lib.hid cplain_yes
  have HTr := Lib.hid (fun n t A l c w k => ctruth_any n t A l c w k)
  have HTs := Lib.hid ctruths_any
  have HN := Lib.hid cnum_any
  have HTx := Lib.hid ctext_any
  have HC := Lib.hid compare_any
  have HM := Lib.hid ccmp_any
  have q1 : (numP 2 n t).isSome = true := rfl
  cases q2 : (numP 3 n' t').isSome with
  | true =>
    have hE : orderP 2 n t 3 n' t' = cmpI (numI 2 n t) (numI 3 n' t') := by
      unfold orderP
      rw [if_neg (by decide), if_neg (by decide), if_neg (by decide), if_neg (by decide)]
      cases e1 : numP 2 n t with
      | none => rw [e1] at q1; cases q1
      | some m =>
        cases e2 : numP 3 n' t' with
        | none => rw [e2] at q2; cases q2
        | some m2 => rw [numI_of (by decide) e1, numI_of (by decide) e2]
    rw [hE]
    clear hE
    go_enter Tryz.func71, Tryz.ntmps71
    go_wp2_with (first | (go_at_call 106; refine (HP.out _ _ _ _ _ _ _ (by omega) (by omega)).mono ?_; rintro e w1 ⟨rfl, hb⟩; have HU := Lib.hid (HU.out.next hb); clear hb; obtain ⟨x0, x1, x2, x3, y0, y1, y2, y3⟩ := HU.out.cells) | (go_at_call 109; refine (HN.out _ _ _ _ _ _ _ (by decide) (by assumption) (HL.out.below HU.out.1)).mono ?_; rintro e w1 ⟨rfl, hb⟩; have HU := Lib.hid (HU.out.next hb); clear hb; obtain ⟨x0, x1, x2, x3, y0, y1, y2, y3⟩ := HU.out.cells) | (go_at_call 92; refine (HTx.out _ _ _ _ _ _ _ (by decide) (by assumption) (HL.out.below HU.out.1)).mono ?_; rintro e w1 ⟨rfl, hb⟩; have HU := Lib.hid (HU.out.next hb); clear hb; obtain ⟨x0, x1, x2, x3, y0, y1, y2, y3⟩ := HU.out.cells) | (go_at_call 111; refine (HC.out _ _ _).mono ?_; rintro e w1 ⟨rfl, rfl⟩) | (go_at_call 110; refine (HM.out _ _ _).mono ?_; rintro e w1 ⟨rfl, rfl⟩))
    go_ret2
    exact ⟨rfl, HU.out.1⟩
  | false =>
    have hE : orderP 2 n t 3 n' t' = cmpT (textP 2 n t) (textP 3 n' t') := by
      unfold orderP
      rw [if_neg (by decide), if_neg (by decide), if_neg (by decide), if_neg (by decide)]
      cases e1 : numP 2 n t with
      | none => rfl
      | some m =>
        cases e2 : numP 3 n' t' with
        | none => rfl
        | some m2 => first | (rw [e1] at q1; cases q1; done) | (rw [e2] at q2; cases q2; done)
    rw [hE]
    clear hE
    go_enter Tryz.func71, Tryz.ntmps71
    go_wp2_with (first | (go_at_call 106; refine (HP.out _ _ _ _ _ _ _ (by omega) (by omega)).mono ?_; rintro e w1 ⟨rfl, hb⟩; have HU := Lib.hid (HU.out.next hb); clear hb; obtain ⟨x0, x1, x2, x3, y0, y1, y2, y3⟩ := HU.out.cells) | (go_at_call 109; refine (HN.out _ _ _ _ _ _ _ (by decide) (by assumption) (HL.out.below HU.out.1)).mono ?_; rintro e w1 ⟨rfl, hb⟩; have HU := Lib.hid (HU.out.next hb); clear hb; obtain ⟨x0, x1, x2, x3, y0, y1, y2, y3⟩ := HU.out.cells) | (go_at_call 92; refine (HTx.out _ _ _ _ _ _ _ (by decide) (by assumption) (HL.out.below HU.out.1)).mono ?_; rintro e w1 ⟨rfl, hb⟩; have HU := Lib.hid (HU.out.next hb); clear hb; obtain ⟨x0, x1, x2, x3, y0, y1, y2, y3⟩ := HU.out.cells) | (go_at_call 111; refine (HC.out _ _ _).mono ?_; rintro e w1 ⟨rfl, rfl⟩) | (go_at_call 110; refine (HM.out _ _ _).mono ?_; rintro e w1 ⟨rfl, rfl⟩))
    go_ret2
    exact ⟨rfl, HU.out.1⟩
set_option maxRecDepth 100000 in
set_option maxHeartbeats 2000000 in
theorem corder_3_2 (h0 : In64 n) (h0' : In64 n') (ht : t.size ≤ 281474976710656) (ht' : t'.size ≤ 281474976710656) (hL : LibS w) : Calls Tryz.prog 71 #[.agg #[.int .i64 3, .int .i64 n, .string t, .slice A l c], .agg #[.int .i64 2, .int .i64 n', .string t', .slice A' l' c']] w fun e w' => e = .returned (.tuple #[.int .i64 (orderP 3 n t 2 n' t'), .int .i64 0]) ∧ Below w.heap.size w w' := by
  have HL := Lib.hid hL
  clear hL
  have HU := Lib.hid (Two.made w #[.int .i64 3, .int .i64 n, .string t, .slice A l c] #[.int .i64 2, .int .i64 n', .string t', .slice A' l' c'])
  have HP := Lib.hid cplain_yes
  have HTr := Lib.hid (fun n t A l c w k => ctruth_any n t A l c w k)
  have HTs := Lib.hid ctruths_any
  have HN := Lib.hid cnum_any
  have HTx := Lib.hid ctext_any
  have HC := Lib.hid compare_any
  have HM := Lib.hid ccmp_any
  have q2 : (numP 2 n' t').isSome = true := rfl
  cases q1 : (numP 3 n t).isSome with
  | true =>
    have hE : orderP 3 n t 2 n' t' = cmpI (numI 3 n t) (numI 2 n' t') := by
      unfold orderP
      rw [if_neg (by decide), if_neg (by decide), if_neg (by decide), if_neg (by decide)]
      cases e1 : numP 3 n t with
      | none => rw [e1] at q1; cases q1
      | some m =>
        cases e2 : numP 2 n' t' with
        | none => rw [e2] at q2; cases q2
        | some m2 => rw [numI_of (by decide) e1, numI_of (by decide) e2]
    rw [hE]
    clear hE
    go_enter Tryz.func71, Tryz.ntmps71
    go_wp2_with (first | (go_at_call 106; refine (HP.out _ _ _ _ _ _ _ (by omega) (by omega)).mono ?_; rintro e w1 ⟨rfl, hb⟩; have HU := Lib.hid (HU.out.next hb); clear hb; obtain ⟨x0, x1, x2, x3, y0, y1, y2, y3⟩ := HU.out.cells) | (go_at_call 109; refine (HN.out _ _ _ _ _ _ _ (by decide) (by assumption) (HL.out.below HU.out.1)).mono ?_; rintro e w1 ⟨rfl, hb⟩; have HU := Lib.hid (HU.out.next hb); clear hb; obtain ⟨x0, x1, x2, x3, y0, y1, y2, y3⟩ := HU.out.cells) | (go_at_call 92; refine (HTx.out _ _ _ _ _ _ _ (by decide) (by assumption) (HL.out.below HU.out.1)).mono ?_; rintro e w1 ⟨rfl, hb⟩; have HU := Lib.hid (HU.out.next hb); clear hb; obtain ⟨x0, x1, x2, x3, y0, y1, y2, y3⟩ := HU.out.cells) | (go_at_call 111; refine (HC.out _ _ _).mono ?_; rintro e w1 ⟨rfl, rfl⟩) | (go_at_call 110; refine (HM.out _ _ _).mono ?_; rintro e w1 ⟨rfl, rfl⟩))
    go_ret2
    exact ⟨rfl, HU.out.1⟩
  | false =>
    have hE : orderP 3 n t 2 n' t' = cmpT (textP 3 n t) (textP 2 n' t') := by
      unfold orderP
      rw [if_neg (by decide), if_neg (by decide), if_neg (by decide), if_neg (by decide)]
      cases e1 : numP 3 n t with
      | none => rfl
      | some m =>
        cases e2 : numP 2 n' t' with
        | none => rfl
        | some m2 => first | (rw [e1] at q1; cases q1; done) | (rw [e2] at q2; cases q2; done)
    rw [hE]
    clear hE
    go_enter Tryz.func71, Tryz.ntmps71
    go_wp2_with (first | (go_at_call 106; refine (HP.out _ _ _ _ _ _ _ (by omega) (by omega)).mono ?_; rintro e w1 ⟨rfl, hb⟩; have HU := Lib.hid (HU.out.next hb); clear hb; obtain ⟨x0, x1, x2, x3, y0, y1, y2, y3⟩ := HU.out.cells) | (go_at_call 109; refine (HN.out _ _ _ _ _ _ _ (by decide) (by assumption) (HL.out.below HU.out.1)).mono ?_; rintro e w1 ⟨rfl, hb⟩; have HU := Lib.hid (HU.out.next hb); clear hb; obtain ⟨x0, x1, x2, x3, y0, y1, y2, y3⟩ := HU.out.cells) | (go_at_call 92; refine (HTx.out _ _ _ _ _ _ _ (by decide) (by assumption) (HL.out.below HU.out.1)).mono ?_; rintro e w1 ⟨rfl, hb⟩; have HU := Lib.hid (HU.out.next hb); clear hb; obtain ⟨x0, x1, x2, x3, y0, y1, y2, y3⟩ := HU.out.cells) | (go_at_call 111; refine (HC.out _ _ _).mono ?_; rintro e w1 ⟨rfl, rfl⟩) | (go_at_call 110; refine (HM.out _ _ _).mono ?_; rintro e w1 ⟨rfl, rfl⟩))
    go_ret2
    exact ⟨rfl, HU.out.1⟩
set_option maxRecDepth 100000 in
set_option maxHeartbeats 2000000 in
theorem corder_3_3 (h0 : In64 n) (h0' : In64 n') (ht : t.size ≤ 281474976710656) (ht' : t'.size ≤ 281474976710656) (hL : LibS w) : Calls Tryz.prog 71 #[.agg #[.int .i64 3, .int .i64 n, .string t, .slice A l c], .agg #[.int .i64 3, .int .i64 n', .string t', .slice A' l' c']] w fun e w' => e = .returned (.tuple #[.int .i64 (orderP 3 n t 3 n' t'), .int .i64 0]) ∧ Below w.heap.size w w' := by
  have HL := Lib.hid hL
  clear hL
  have HU := Lib.hid (Two.made w #[.int .i64 3, .int .i64 n, .string t, .slice A l c] #[.int .i64 3, .int .i64 n', .string t', .slice A' l' c'])
  have HP := Lib.hid cplain_yes
  have HTr := Lib.hid (fun n t A l c w k => ctruth_any n t A l c w k)
  have HTs := Lib.hid ctruths_any
  have HN := Lib.hid cnum_any
  have HTx := Lib.hid ctext_any
  have HC := Lib.hid compare_any
  have HM := Lib.hid ccmp_any
  cases q1 : (numP 3 n t).isSome with
  | true =>
    cases q2 : (numP 3 n' t').isSome with
    | true =>
      have hE : orderP 3 n t 3 n' t' = cmpI (numI 3 n t) (numI 3 n' t') := by
        unfold orderP
        rw [if_neg (by decide), if_neg (by decide), if_neg (by decide), if_neg (by decide)]
        cases e1 : numP 3 n t with
        | none => rw [e1] at q1; cases q1
        | some m =>
          cases e2 : numP 3 n' t' with
          | none => rw [e2] at q2; cases q2
          | some m2 => rw [numI_of (by decide) e1, numI_of (by decide) e2]
      rw [hE]
      clear hE
      go_enter Tryz.func71, Tryz.ntmps71
      go_wp2_with (first | (go_at_call 106; refine (HP.out _ _ _ _ _ _ _ (by omega) (by omega)).mono ?_; rintro e w1 ⟨rfl, hb⟩; have HU := Lib.hid (HU.out.next hb); clear hb; obtain ⟨x0, x1, x2, x3, y0, y1, y2, y3⟩ := HU.out.cells) | (go_at_call 109; refine (HN.out _ _ _ _ _ _ _ (by decide) (by assumption) (HL.out.below HU.out.1)).mono ?_; rintro e w1 ⟨rfl, hb⟩; have HU := Lib.hid (HU.out.next hb); clear hb; obtain ⟨x0, x1, x2, x3, y0, y1, y2, y3⟩ := HU.out.cells) | (go_at_call 92; refine (HTx.out _ _ _ _ _ _ _ (by decide) (by assumption) (HL.out.below HU.out.1)).mono ?_; rintro e w1 ⟨rfl, hb⟩; have HU := Lib.hid (HU.out.next hb); clear hb; obtain ⟨x0, x1, x2, x3, y0, y1, y2, y3⟩ := HU.out.cells) | (go_at_call 111; refine (HC.out _ _ _).mono ?_; rintro e w1 ⟨rfl, rfl⟩) | (go_at_call 110; refine (HM.out _ _ _).mono ?_; rintro e w1 ⟨rfl, rfl⟩))
      go_ret2
      exact ⟨rfl, HU.out.1⟩
    | false =>
      have hE : orderP 3 n t 3 n' t' = cmpT (textP 3 n t) (textP 3 n' t') := by
        unfold orderP
        rw [if_neg (by decide), if_neg (by decide), if_neg (by decide), if_neg (by decide)]
        cases e1 : numP 3 n t with
        | none => rfl
        | some m =>
          cases e2 : numP 3 n' t' with
          | none => rfl
          | some m2 => first | (rw [e1] at q1; cases q1; done) | (rw [e2] at q2; cases q2; done)
      rw [hE]
      clear hE
      go_enter Tryz.func71, Tryz.ntmps71
      go_wp2_with (first | (go_at_call 106; refine (HP.out _ _ _ _ _ _ _ (by omega) (by omega)).mono ?_; rintro e w1 ⟨rfl, hb⟩; have HU := Lib.hid (HU.out.next hb); clear hb; obtain ⟨x0, x1, x2, x3, y0, y1, y2, y3⟩ := HU.out.cells) | (go_at_call 109; refine (HN.out _ _ _ _ _ _ _ (by decide) (by assumption) (HL.out.below HU.out.1)).mono ?_; rintro e w1 ⟨rfl, hb⟩; have HU := Lib.hid (HU.out.next hb); clear hb; obtain ⟨x0, x1, x2, x3, y0, y1, y2, y3⟩ := HU.out.cells) | (go_at_call 92; refine (HTx.out _ _ _ _ _ _ _ (by decide) (by assumption) (HL.out.below HU.out.1)).mono ?_; rintro e w1 ⟨rfl, hb⟩; have HU := Lib.hid (HU.out.next hb); clear hb; obtain ⟨x0, x1, x2, x3, y0, y1, y2, y3⟩ := HU.out.cells) | (go_at_call 111; refine (HC.out _ _ _).mono ?_; rintro e w1 ⟨rfl, rfl⟩) | (go_at_call 110; refine (HM.out _ _ _).mono ?_; rintro e w1 ⟨rfl, rfl⟩))
      go_ret2
      exact ⟨rfl, HU.out.1⟩
  | false =>
    have hE : orderP 3 n t 3 n' t' = cmpT (textP 3 n t) (textP 3 n' t') := by
      unfold orderP
      rw [if_neg (by decide), if_neg (by decide), if_neg (by decide), if_neg (by decide)]
      cases e1 : numP 3 n t with
      | none => rfl
      | some m =>
        cases e2 : numP 3 n' t' with
        | none => rfl
        | some m2 => first | (rw [e1] at q1; cases q1; done) | (rw [e2] at q2; cases q2; done)
    rw [hE]
    clear hE
    go_enter Tryz.func71, Tryz.ntmps71
    go_wp2_with (first | (go_at_call 106; refine (HP.out _ _ _ _ _ _ _ (by omega) (by omega)).mono ?_; rintro e w1 ⟨rfl, hb⟩; have HU := Lib.hid (HU.out.next hb); clear hb; obtain ⟨x0, x1, x2, x3, y0, y1, y2, y3⟩ := HU.out.cells) | (go_at_call 109; refine (HN.out _ _ _ _ _ _ _ (by decide) (by assumption) (HL.out.below HU.out.1)).mono ?_; rintro e w1 ⟨rfl, hb⟩; have HU := Lib.hid (HU.out.next hb); clear hb; obtain ⟨x0, x1, x2, x3, y0, y1, y2, y3⟩ := HU.out.cells) | (go_at_call 92; refine (HTx.out _ _ _ _ _ _ _ (by decide) (by assumption) (HL.out.below HU.out.1)).mono ?_; rintro e w1 ⟨rfl, hb⟩; have HU := Lib.hid (HU.out.next hb); clear hb; obtain ⟨x0, x1, x2, x3, y0, y1, y2, y3⟩ := HU.out.cells) | (go_at_call 111; refine (HC.out _ _ _).mono ?_; rintro e w1 ⟨rfl, rfl⟩) | (go_at_call 110; refine (HM.out _ _ _).mono ?_; rintro e w1 ⟨rfl, rfl⟩))
    go_ret2
    exact ⟨rfl, HU.out.1⟩
theorem corder_any (k k' : Int) (k0 : 0 ≤ k) (k3 : k ≤ 3) (k0' : 0 ≤ k') (k3' : k' ≤ 3) (h0 : In64 n) (h0' : In64 n') (ht : t.size ≤ 281474976710656) (ht' : t'.size ≤ 281474976710656) (hL : LibS w) : Calls Tryz.prog 71 #[.agg #[.int .i64 k, .int .i64 n, .string t, .slice A l c], .agg #[.int .i64 k', .int .i64 n', .string t', .slice A' l' c']] w fun e w' => e = .returned (.tuple #[.int .i64 (orderP k n t k' n' t'), .int .i64 0]) ∧ Below w.heap.size w w' := by
  have hk : k = 0 ∨ k = 1 ∨ k = 2 ∨ k = 3 := by omega
  have hk' : k' = 0 ∨ k' = 1 ∨ k' = 2 ∨ k' = 3 := by omega
  have X := corder_1_x n n' t t' A A' l l' c c' w k' k0' k3'
  rcases hk with rfl | rfl | rfl | rfl
  · rcases hk' with rfl | rfl | rfl | rfl
    · exact corder_0_0 n n' t t' A A' l l' c c' w
    · exact corder_0_1 n n' t t' A A' l l' c c' w
    · exact corder_0_2 n n' t t' A A' l l' c c' w
    · exact corder_0_3 n n' t t' A A' l l' c c' w h0 h0' ht ht' hL
  · exact X
  · rcases hk' with rfl | rfl | rfl | rfl
    · exact corder_2_0 n n' t t' A A' l l' c c' w
    · exact corder_2_1 n n' t t' A A' l l' c c' w
    · exact corder_2_2 n n' t t' A A' l l' c c' w h0 h0' ht ht' hL
    · exact corder_2_3 n n' t t' A A' l l' c c' w h0 h0' ht ht' hL
  · rcases hk' with rfl | rfl | rfl | rfl
    · exact corder_3_0 n n' t t' A A' l l' c c' w h0 h0' ht ht' hL
    · exact corder_3_1 n n' t t' A A' l l' c c' w
    · exact corder_3_2 n n' t t' A A' l l' c c' w h0 h0' ht ht' hL
    · exact corder_3_3 n n' t t' A A' l l' c c' w h0 h0' ht ht' hL
end
end Dp
end Go.Proofs.YthdnflklhhfojaaGreatDoor
