/- deep.Order of two numbers. -/
import Derived.Test.YtopmodahdmnpjaaGreatDoorZAsF
import Derived.Test.YtopmodahdmnpjaaGreatDoorZMyJQ
namespace Go.Proofs.YtopmodahdmnpjaaGreatDoor
open Go Go.RowKit
namespace Dp
def Two (w wx : World) (cs cs' : Array Value) : Prop := Below w.heap.size w wx ∧ Blk wx w.heap.size 24 cs ∧ Blk wx (w.heap.size + 1) 24 cs'
theorem Two.made (w : World) (cs cs' : Array Value) : Two w ((w.alloc (.cells cs 24)).alloc (.cells cs' 24)) cs cs' := by
  have hw1 : (w.alloc (.cells cs 24)).heap.size = w.heap.size + 1 := by simp
  have hy := Blk.new (w.alloc (.cells cs 24)) 24 cs'
  rw [hw1] at hy
  exact ⟨((Below.refl w.heap.size w).alloc (Nat.le_refl _) _).alloc (by simp) _, blk_below (Blk.new w 24 cs) ((Below.refl _ _).alloc (Nat.le_refl _) _), hy⟩
theorem Two.next {w wx wy : World} {cs cs' : Array Value} (h : Two w wx cs cs') (hb : Below wx.heap.size wx wy) : Two w wy cs cs' := ⟨h.1.trans (hb.mono h.1.size), blk_below h.2.1 hb, blk_below h.2.2 hb⟩
theorem Two.drew {w wx : World} {cs cs' : Array Value} (h : Two w wx cs cs') : Two w wx.drew cs cs' := h.next (drewN' (Below.refl _ _) 1)
theorem Two.cells {w wx : World} {a0 a1 a2 a3 b0 b1 b2 b3 : Value} (h : Two w wx #[a0, a1, a2, a3] #[b0, b1, b2, b3]) :
    wx.cell? ⟨w.heap.size, 0, none⟩ = some a0 ∧ wx.cell? ⟨w.heap.size, 1, none⟩ = some a1 ∧ wx.cell? ⟨w.heap.size, 2, none⟩ = some a2 ∧ wx.cell? ⟨w.heap.size, 3, none⟩ = some a3 ∧
      wx.cell? ⟨w.heap.size + 1, 0, none⟩ = some b0 ∧ wx.cell? ⟨w.heap.size + 1, 1, none⟩ = some b1 ∧ wx.cell? ⟨w.heap.size + 1, 2, none⟩ = some b2 ∧ wx.cell? ⟨w.heap.size + 1, 3, none⟩ = some b3 :=
  ⟨h.2.1.cell 0, h.2.1.cell 1, h.2.1.cell 2, h.2.1.cell 3, h.2.2.cell 0, h.2.2.cell 1, h.2.2.cell 2, h.2.2.cell 3⟩
/-- What cmp.Compare gives. -/
def cmpI (m n : Int) : Int := if m < n then -1 else if n < m then 1 else 0
section
variable (n m : Int) (t t' : ByteArray) (A A' : Option Addr) (l l' c c' : Nat) (w : World)
set_option maxRecDepth 100000 in
theorem dplain_i : Calls Tryz.prog 196 #[.agg #[.int .i64 2, .int .i64 n, .string t, .slice A l c]] w fun e w' => e = .returned (.bool true) ∧ w' = w.alloc (.cells #[.int .i64 2, .int .i64 n, .string t, .slice A l c] 24) := by
  go_enter Tryz.func196, Tryz.ntmps196
  go_wp2_with fail
  go_ret
  exact ⟨rfl, rfl⟩
set_option maxRecDepth 100000 in
theorem cplain_i : Calls Tryz.prog 236 #[.agg #[.int .i64 2, .int .i64 n, .string t, .slice A l c]] w fun e w' => e = .returned (.bool true) ∧ w' = w.alloc (.cells #[.int .i64 2, .int .i64 n, .string t, .slice A l c] 24) := by
  go_enter Tryz.func236, Tryz.ntmps236
  go_wp2_with fail
  go_ret
  exact ⟨rfl, rfl⟩
theorem dplain_i' : Calls Tryz.prog 196 #[.agg #[.int .i64 2, .int .i64 n, .string t, .slice A l c]] w fun e w' => e = .returned (.bool true) ∧ Below w.heap.size w w' := by
  refine (dplain_i n t A l c w).mono ?_
  rintro e w' ⟨rfl, rfl⟩
  exact ⟨rfl, (Below.refl w.heap.size w).alloc (Nat.le_refl _) _⟩
theorem cplain_i' : Calls Tryz.prog 236 #[.agg #[.int .i64 2, .int .i64 n, .string t, .slice A l c]] w fun e w' => e = .returned (.bool true) ∧ Below w.heap.size w w' := by
  refine (cplain_i n t A l c w).mono ?_
  rintro e w' ⟨rfl, rfl⟩
  exact ⟨rfl, (Below.refl w.heap.size w).alloc (Nat.le_refl _) _⟩
set_option maxRecDepth 100000 in
theorem numeric_i : Calls Tryz.prog 238 #[.agg #[.int .i64 2, .int .i64 n, .string t, .slice A l c]] w fun e w' => e = .returned (.tuple #[.int .i64 n, .bool true]) ∧ Below w.heap.size w w' := by
  have HB0 := Lib.hid ((Below.refl w.heap.size w).alloc (Nat.le_refl _) (.cells #[.int .i64 2, .int .i64 n, .string t, .slice A l c] 24))
  go_enter Tryz.func238, Tryz.ntmps238
  go_wp2_with fail
  go_quiet (fail)
  go_wp2_with fail
  go_ret2
  exact ⟨rfl, drewN' HB0.out _⟩
set_option maxRecDepth 100000 in
theorem nan_i : Calls Tryz.prog 273 #[.int .i64 n] w fun e w' => e = .returned (.bool false) ∧ w' = w := by
  go_enter Tryz.func273, Tryz.ntmps273
  go_wp2_with fail
  go_ret
  exact ⟨by simp, rfl⟩
set_option maxRecDepth 100000 in
set_option maxHeartbeats 4000000 in
theorem cmp_i : Calls Tryz.prog 239 #[.int .i64 n, .int .i64 m] w fun e w' => e = .returned (.int .i64 (cmpI n m)) ∧ Below w.heap.size w w' := by
  unfold cmpI
  by_cases h1 : n < m
  · rw [if_pos h1]
    have h2 : ¬ m < n := by omega
    have h3 : ¬ n = m := by omega
    go_enter Tryz.func239, Tryz.ntmps239
    go_wp2_with (go_at_call 273; refine (nan_i _ _).mono ?_; rintro e w' ⟨rfl, rfl⟩)
    go_ret
    exact ⟨rfl, Below.refl _ _⟩
  · rw [if_neg h1]
    by_cases h2 : m < n
    · rw [if_pos h2]
      have h3 : ¬ n = m := by omega
      go_enter Tryz.func239, Tryz.ntmps239
      go_wp2_with (go_at_call 273; refine (nan_i _ _).mono ?_; rintro e w' ⟨rfl, rfl⟩)
      go_ret
      exact ⟨rfl, Below.refl _ _⟩
    · rw [if_neg h2]
      have h3 : n = m := by omega
      subst h3
      go_enter Tryz.func239, Tryz.ntmps239
      go_wp2_with (go_at_call 273; refine (nan_i _ _).mono ?_; rintro e w' ⟨rfl, rfl⟩)
      go_ret
      exact ⟨rfl, Below.refl _ _⟩
set_option maxRecDepth 100000 in
set_option maxHeartbeats 4000000 in
theorem corder_i : Calls Tryz.prog 198 #[.agg #[.int .i64 2, .int .i64 n, .string t, .slice A l c], .agg #[.int .i64 2, .int .i64 m, .string t', .slice A' l' c']] w fun e w' => e = .returned (.tuple #[.int .i64 (cmpI n m), .int .i64 0]) ∧ Below w.heap.size w w' := by
  have HU := Lib.hid (Two.made w #[.int .i64 2, .int .i64 n, .string t, .slice A l c] #[.int .i64 2, .int .i64 m, .string t', .slice A' l' c'])
  have HP := Lib.hid cplain_i'
  have HN := Lib.hid numeric_i
  have HM := Lib.hid cmp_i
  generalize hr : cmpI n m = r at *
  go_enter Tryz.func198, Tryz.ntmps198
  go_wp2_with (first | (go_at_call 236; refine (HP.out _ _ _ _ _ _).mono ?_; rintro e w1 ⟨rfl, hb⟩; have HU := Lib.hid (HU.out.next hb); clear hb; obtain ⟨x0, x1, x2, x3, y0, y1, y2, y3⟩ := HU.out.cells) | (go_at_call 238; refine (HN.out _ _ _ _ _ _).mono ?_; rintro e w1 ⟨rfl, hb⟩; have HU := Lib.hid (HU.out.next hb); clear hb; obtain ⟨x0, x1, x2, x3, y0, y1, y2, y3⟩ := HU.out.cells) | (go_at_call 239; refine (HM.out _ _ _).mono ?_; rintro e w1 ⟨rfl, hb⟩; have HU := Lib.hid (HU.out.next hb); clear hb))
  go_ret2
  exact ⟨rfl, HU.out.1⟩
set_option maxRecDepth 100000 in
set_option maxHeartbeats 4000000 in
theorem dorder_i : Calls Tryz.prog 154 #[.agg #[.int .i64 2, .int .i64 n, .string t, .slice A l c], .agg #[.int .i64 2, .int .i64 m, .string t', .slice A' l' c']] w fun e w' => e = .returned (.int .i64 (cmpI n m)) ∧ Below w.heap.size w w' := by
  have HU := Lib.hid (Two.made w #[.int .i64 2, .int .i64 n, .string t, .slice A l c] #[.int .i64 2, .int .i64 m, .string t', .slice A' l' c'])
  have HP := Lib.hid dplain_i'
  have HO := Lib.hid (fun w => corder_i n m t t' A A' l l' c c' w)
  generalize hr : cmpI n m = r at *
  go_enter Tryz.func154, Tryz.ntmps154
  go_wp2_with (first | (go_at_call 196; refine (HP.out _ _ _ _ _ _).mono ?_; rintro e w1 ⟨rfl, hb⟩; have HU := Lib.hid (HU.out.next hb); clear hb; obtain ⟨x0, x1, x2, x3, y0, y1, y2, y3⟩ := HU.out.cells) | (go_at_call 198; refine (HO.out _).mono ?_; rintro e w1 ⟨rfl, hb⟩; have HU := Lib.hid (HU.out.next hb); clear hb))
  go_ret
  exact ⟨rfl, HU.out.1⟩
end
theorem right_i (n : Int) : rightB (.mk 2 n ⟨#[]⟩ []) = true := by
  have h1 : fewB (.mk 2 n ⟨#[]⟩ []) = true := few_yes (by rw [leftV, leftL]; simp)
  have h2 : mayV (.mk 2 n ⟨#[]⟩ []) 0 = true := by
    rw [mayV, if_neg (by decide)]
    simp [flatB]
    rfl
  unfold rightB
  rw [h1, h2]
  rfl
section
variable {w : World} {B : Nat}
set_option maxRecDepth 100000 in
set_option maxHeartbeats 4000000 in
theorem dOrder_i (hBw : B ≤ w.heap.size) (hLib : ∀ w', Below B w w' → LibS w') {n m : Int} {A A' : Option Addr} {c c' : Nat} (h : VAt w B (.mk 2 n ⟨#[]⟩ []) (.agg #[.int .i64 2, .int .i64 n, .string ⟨#[]⟩, .slice A 0 c])) (hf : Fit (.mk 2 n ⟨#[]⟩ [])) (h' : VAt w B (.mk 2 m ⟨#[]⟩ []) (.agg #[.int .i64 2, .int .i64 m, .string ⟨#[]⟩, .slice A' 0 c'])) (hf' : Fit (.mk 2 m ⟨#[]⟩ [])) (w' : World) (hb : Below B w w') :
    Calls Tryz.prog 121 #[.agg #[.int .i64 2, .int .i64 n, .string ⟨#[]⟩, .slice A 0 c], .agg #[.int .i64 2, .int .i64 m, .string ⟨#[]⟩, .slice A' 0 c']] w' fun e w'' => e = .returned (.tuple #[.int .i64 (cmpI n m), .int .i64 0]) ∧ Below w'.heap.size w' w'' := by
  have HU := Lib.hid (Two.made w' #[.int .i64 2, .int .i64 n, .string ⟨#[]⟩, .slice A 0 c] #[.int .i64 2, .int .i64 m, .string ⟨#[]⟩, .slice A' 0 c'])
  have HR := Lib.hid (fun wx (hz : Below w'.heap.size w' wx) => right_any hBw hLib h hf wx (hb.trans (hz.mono (Nat.le_trans hBw hb.size))))
  have HR2 := Lib.hid (fun wx (hz : Below w'.heap.size w' wx) => right_any hBw hLib h' hf' wx (hb.trans (hz.mono (Nat.le_trans hBw hb.size))))
  rw [right_i] at HR HR2
  have HO := Lib.hid (fun w => dorder_i n m ⟨#[]⟩ ⟨#[]⟩ A A' 0 0 c c' w)
  generalize cmpI n m = r at *
  clear h h' hf hf' hb hBw hLib
  go_enter Tryz.func121, Tryz.ntmps121
  go_wp2_with (first | (go_at_call 14; refine (HR.out _ HU.out.1).mono ?_; rintro e w1 ⟨rfl, hb⟩; have HU := Lib.hid (HU.out.next hb); clear hb; obtain ⟨x0, x1, x2, x3, y0, y1, y2, y3⟩ := HU.out.cells) | (go_at_call 14; refine (HR2.out _ HU.out.1).mono ?_; rintro e w1 ⟨rfl, hb⟩; have HU := Lib.hid (HU.out.next hb); clear hb; obtain ⟨x0, x1, x2, x3, y0, y1, y2, y3⟩ := HU.out.cells) | (go_at_call 154; refine (HO.out _).mono ?_; rintro e w1 ⟨rfl, hb⟩; have HU := Lib.hid (HU.out.next hb); clear hb))
  go_ret2
  exact ⟨rfl, HU.out.1⟩
end
end Dp
end Go.Proofs.YtopmodahdmnpjaaGreatDoor
