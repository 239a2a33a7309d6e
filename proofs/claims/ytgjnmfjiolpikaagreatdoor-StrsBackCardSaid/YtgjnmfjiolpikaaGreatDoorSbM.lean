/- StrsBack: the walk of the law. -/
import Derived.Test.YtgjnmfjiolpikaaGreatDoorSbL
import Derived.Test.YtgjnmfjiolpikaaGreatDoorDpRb
namespace Go.Proofs.YtgjnmfjiolpikaaGreatDoor
open Go Go.RowKit
set_option maxRecDepth 100000
namespace Sb
open Dp
open Go.Ev (mkS)
theorem blk_lo {w w' : World} {g : Nat} {t : TypeId} {cs : Array Value} (h : Blk w g t cs) (hb : Below w.heap.size w w') : Blk w' g t cs := h.keeps (Keeps.of_below (S := fun _ => False) hb) id
theorem vin_up {w w' : World} {g : Nat} {G : GV} {x : Value} (h : VIn w (fun b => b < g) G x) (hg : g ≤ w.heap.size) (hb : Below w.heap.size w w') : VAt w' w'.heap.size G x :=
  (h.keep (S' := fun b => b < w'.heap.size) (fun b hb' => Nat.lt_of_lt_of_le hb' (Nat.le_trans hg hb.size)) fun p hp => hb.cell (Nat.lt_of_lt_of_le hp hg)).at_ (fun b _ h => h) (fun b h => h)
theorem rtext_in (args : Array Value) (w : World) : (callFunc 6 args).run Tryz.prog w = .ok (.enter 6 args) w := enters_of Tryz.func6 (by kernel_rfl) rfl args w
theorem call_in (args : Array Value) (w : World) : (callFunc 5 args).run Tryz.prog w = .ok (.enter 5 args) w := enters_of Tryz.func5 (by kernel_rfl) rfl args w
theorem c_vx {f : FuncId} {args : Array Value} {w : World} {u : ByteArray} (h : Calls Tryz.prog f args w fun e w' => ∃ A c, e = .returned (.tuple #[.agg #[.int .i64 3, .int .i64 0, .string u, .slice A 0 c], .int .i64 0]) ∧ Below w.heap.size w w') : Calls Tryz.prog f args w fun e w' => ∃ v, e = .returned v ∧ ∃ A c, v = .tuple #[.agg #[.int .i64 3, .int .i64 0, .string u, .slice A 0 c], .int .i64 0] ∧ Below w.heap.size w w' :=
  h.mono (by rintro e w' ⟨A, c, rfl, h⟩; exact ⟨_, rfl, A, c, rfl, h⟩)
theorem right_parts (s t : ByteArray) (hs : 1 ≤ s.size) (ht : t.size ≤ 16384) (hfew : (partsB s t).length ≤ 2048) : rightB (rowG (partsB s t)) = true ∧ Fit (rowG (partsB s t)) := by
  obtain ⟨hp1, hp2⟩ := parts_len s t hs
  have hmem : ∀ x ∈ partsB s t, x.size ≤ 16384 := fun x hx => by
    have h1 := sum_mem _ x hx
    have h2 := sum_le s t (Lib.countB t s)
    have h3 : sumS (partsB s t) ≤ t.size := h2
    omega
  exact ⟨right_row _ hfew fun x hx => by have := hmem x hx; omega, fit_row _ (by omega) fun x hx => by have := hmem x hx; omega⟩
theorem sback_big (s t : ByteArray) (hbig : 16384 < s.size ∨ 16384 < t.size) (hs : s.size ≤ 9223372036854775807) (ht : t.size ≤ 9223372036854775807) (m : Int) (w : World) (hL : LibA m w) :
    Calls Tryz.prog 3 #[.string s, .string t] w fun e w' => e = .returned (.bool true) ∧ Below w.heap.size w w' := by
  have HL := Lib.hid hL
  clear hL
  by_cases h1 : 16384 < s.size
  · have hI : (16384 : Int) < (s.size : Int) := by omega
    clear hbig
    go_enter Tryz.func3, Tryz.ntmps3
    go_wp2_with fail
    refine (alive_any m _ HL.out).mono ?_
    rintro e w1 ⟨rfl, hb1⟩
    have HB1 := Lib.hid hb1
    clear hb1
    go_wp2_with fail
    refine (alive_any m _ (HL.out.below HB1.out)).mono ?_
    rintro e w2 ⟨rfl, hb2⟩
    have HB2 := Lib.hid (HB1.out.trans (hb2.mono HB1.out.size))
    clear hb2
    go_wp2_with fail
    go_ret
    exact ⟨rfl, HB2.out⟩
  · have hI : ¬ ((16384 : Int) < (s.size : Int)) := by omega
    have hI2 : (16384 : Int) < (t.size : Int) := by omega
    clear hbig
    go_enter Tryz.func3, Tryz.ntmps3
    go_wp2_with fail
    refine (alive_any m _ HL.out).mono ?_
    rintro e w1 ⟨rfl, hb1⟩
    have HB1 := Lib.hid hb1
    clear hb1
    go_wp2_with fail
    refine (alive_any m _ (HL.out.below HB1.out)).mono ?_
    rintro e w2 ⟨rfl, hb2⟩
    have HB2 := Lib.hid (HB1.out.trans (hb2.mono HB1.out.size))
    clear hb2
    go_wp2_with fail
    go_ret
    exact ⟨rfl, HB2.out⟩
set_option maxHeartbeats 8000000 in
theorem sback_one (s t : ByteArray) (hs1 : 1 ≤ s.size) (hs : s.size ≤ 16384) (ht : t.size ≤ 16384) (m : Int) (w : World) (hL : LibA m w) (hLS : LibS w) :
    Calls Tryz.prog 3 #[.string s, .string t] w fun e w' => e = .returned (.bool true) ∧ Below w.heap.size w w' := by
  have HL := Lib.hid hL
  have HLS := Lib.hid hLS
  clear hL hLS
  have hI : ¬ ((16384 : Int) < (s.size : Int)) := by omega
  have hI2 : ¬ ((16384 : Int) < (t.size : Int)) := by omega
  have hne : s.toList.isEmpty = false := by
    cases h : s.toList with
    | nil =>
      exfalso
      rw [ByteArray.toList_eq] at h
      have h3 : s.size = s.data.toList.length := by simp
      rw [h] at h3
      have h4 : s.size = 0 := h3
      omega
    | cons a b => rfl
  go_enter Tryz.func3, Tryz.ntmps3
  go_wp2_with fail
  refine (alive_any m _ HL.out).mono ?_
  rintro e w1 ⟨rfl, hb1⟩
  have HB1 := Lib.hid hb1
  clear hb1
  go_wp2_with fail
  refine (rtext_any s _).mono ?_
  rintro e w2 ⟨rfl, hb2⟩
  have HB2 := Lib.hid (HB1.out.trans (hb2.mono HB1.out.size))
  clear hb2 HB1
  go_wp2_with fail
  refine (rtext_any t _).mono ?_
  rintro e w3 ⟨rfl, hb3⟩
  have HB3 := Lib.hid (HB2.out.trans (hb3.mono HB2.out.size))
  clear hb3 HB2
  go_wp2_with fail
  have HB4 := Lib.hid (HB3.out.alloc HB3.out.size (.cells #[.int .i64 3, .int .i64 0, .string s, .slice none 0 0, .int .i64 3, .int .i64 0, .string t, .slice none 0 0] 25))
  refine (call_expl s t hs1 ht 0 0 none none 0 0 0 0 m _ (HL.out.below HB4.out) w3.heap.size 2 (argsA2 w3 3 0 3 0 s t none none 0 0 0 0)).mono ?_
  rintro e w5 ⟨hb5, ⟨hfew, A, c, rfl, hv5⟩ | rfl⟩
  · have HB5 := Lib.hid (HB4.out.trans (hb5.mono HB4.out.size))
    have HV5 : Hid (VIn w5 (fun b => b < w5.heap.size) (rowG (partsB s t)) (.agg #[.int .i64 4, .int .i64 (partsB s t).length, .string ⟨#[]⟩, .slice A (partsB s t).length c])) := hv5.keep (fun b h => h.2) fun _ _ => rfl
    have HF := Lib.hid hfew
    clear hb5 hv5 HB4 HB3 hfew
    go_upto_region 9 with fail
    have HX6 := Lib.hid (Blk.new w5 25 #[.int .i64 4, .int .i64 (partsB s t).length, .string ⟨#[]⟩, .slice A (partsB s t).length c])
    have HB6 := Lib.hid (HB5.out.alloc HB5.out.size (.cells #[.int .i64 4, .int .i64 (partsB s t).length, .string ⟨#[]⟩, .slice A (partsB s t).length c] 25))
    have HV6 : Hid (VIn (w5.alloc (.cells #[.int .i64 4, .int .i64 (partsB s t).length, .string ⟨#[]⟩, .slice A (partsB s t).length c] 25)) (fun b => b < w5.heap.size) (rowG (partsB s t)) (.agg #[.int .i64 4, .int .i64 (partsB s t).length, .string ⟨#[]⟩, .slice A (partsB s t).length c])) := HV5.out.keep (fun _ h => h) fun q hq => World.cell?_alloc_lt w5 _ q hq
    generalize w5.alloc (.cells #[.int .i64 4, .int .i64 (partsB s t).length, .string ⟨#[]⟩, .slice A (partsB s t).length c] 25) = w6 at *
    have hg5 : w5.heap.size < w6.heap.size := HX6.out.lt
    clear HB5 HV5
    generalize w5.heap.size = g5 at *
    have x0 : w6.cell? ⟨g5, 0, none⟩ = some (.int .i64 4) := HX6.out.cell 0
    have x1 : w6.cell? ⟨g5, 1, none⟩ = some (.int .i64 (partsB s t).length) := HX6.out.cell 1
    have x2 : w6.cell? ⟨g5, 2, none⟩ = some (.string ⟨#[]⟩) := HX6.out.cell 2
    have x3 : w6.cell? ⟨g5, 3, none⟩ = some (.slice A (partsB s t).length c) := HX6.out.cell 3
    go_cut [7, 8] (fun x7 x8 wx => ∃ (g7 : Nat) (A7 : Option Addr) (c7 : Nat), x7 = .pointer (some ⟨g7, 0, none⟩) ∧ x8 = .int .i64 0 ∧ Hid (Blk wx g7 25 #[.int .i64 3, .int .i64 0, .string t, .slice A7 0 c7]) ∧ Hid (Below w6.heap.size w6 wx))
    case first =>
      have hgz6 : (w6.alloc (.cells #[.int .i64 0, .int .i64 0, .string ⟨#[]⟩, .slice none 0 0] 25)).heap.size = w6.heap.size + 1 := by simp
      have HZ6 := Lib.hid (Blk.new w6 25 #[.int .i64 0, .int .i64 0, .string ⟨#[]⟩, .slice none 0 0])
      have x0d := Lib.cell?_alloc_marked (W := w6.drew) (.cells #[.int .i64 0, .int .i64 0, .string ⟨#[]⟩, .slice none 0 0] 25) (show w6.drew.cell? ⟨g5, 0, none⟩ = _ from x0)
      have x1d := Lib.cell?_alloc_marked (W := w6.drew) (.cells #[.int .i64 0, .int .i64 0, .string ⟨#[]⟩, .slice none 0 0] 25) (show w6.drew.cell? ⟨g5, 1, none⟩ = _ from x1)
      have x2d := Lib.cell?_alloc_marked (W := w6.drew) (.cells #[.int .i64 0, .int .i64 0, .string ⟨#[]⟩, .slice none 0 0] 25) (show w6.drew.cell? ⟨g5, 2, none⟩ = _ from x2)
      have x3d := Lib.cell?_alloc_marked (W := w6.drew) (.cells #[.int .i64 0, .int .i64 0, .string ⟨#[]⟩, .slice none 0 0] 25) (show w6.drew.cell? ⟨g5, 3, none⟩ = _ from x3)
      go_region_law (first
        | (refine step_callP rfl 6 _ _ rfl #[.string s] (by simp [Act.eval, Act.put]) (rtext_in _ _) _ (c_v (rtext_any s w6.drew)) ?_; rintro v w7 ⟨rfl, hb7⟩; have HB7 := Lib.hid (Below.mk (w' := w7) hb7.os hb7.tape hb7.output hb7.size hb7.block : Below w6.heap.size w6 w7); have x0 := (HB7.out.cell (p := ⟨g5, 0, none⟩) hg5).trans x0; have x1 := (HB7.out.cell (p := ⟨g5, 1, none⟩) hg5).trans x1; have x2 := (HB7.out.cell (p := ⟨g5, 2, none⟩) hg5).trans x2; have x3 := (HB7.out.cell (p := ⟨g5, 3, none⟩) hg5).trans x3; have x0d := Lib.cell?_alloc_marked (.cells #[.int .i64 0, .int .i64 0, .string ⟨#[]⟩, .slice none 0 0] 25) x0; have x1d := Lib.cell?_alloc_marked (.cells #[.int .i64 0, .int .i64 0, .string ⟨#[]⟩, .slice none 0 0] 25) x1; have x2d := Lib.cell?_alloc_marked (.cells #[.int .i64 0, .int .i64 0, .string ⟨#[]⟩, .slice none 0 0] 25) x2; have x3d := Lib.cell?_alloc_marked (.cells #[.int .i64 0, .int .i64 0, .string ⟨#[]⟩, .slice none 0 0] 25) x3; clear HZ6)
        | (refine step_callP rfl 6 _ _ rfl #[.string s] (by simp [Act.eval, Act.put]) (rtext_in _ _) _ (c_v (rtext_any s (w6.alloc (.cells #[.int .i64 0, .int .i64 0, .string ⟨#[]⟩, .slice none 0 0] 25)).drew)) ?_; rintro v w7 ⟨rfl, hb7⟩; have hb7' : Below (w6.alloc (.cells #[.int .i64 0, .int .i64 0, .string ⟨#[]⟩, .slice none 0 0] 25)).heap.size (w6.alloc (.cells #[.int .i64 0, .int .i64 0, .string ⟨#[]⟩, .slice none 0 0] 25)) w7 := Below.mk (w' := w7) hb7.os hb7.tape hb7.output hb7.size hb7.block; have HZ7 := Lib.hid (blk_lo HZ6.out hb7'); have HB7 := Lib.hid (((Below.refl w6.heap.size w6).alloc (Nat.le_refl _) (.cells #[.int .i64 0, .int .i64 0, .string ⟨#[]⟩, .slice none 0 0] 25)).trans (hb7'.mono (by rw [hgz6]; omega))); have x0 := (HB7.out.cell (p := ⟨g5, 0, none⟩) hg5).trans x0; have x1 := (HB7.out.cell (p := ⟨g5, 1, none⟩) hg5).trans x1; have x2 := (HB7.out.cell (p := ⟨g5, 2, none⟩) hg5).trans x2; have x3 := (HB7.out.cell (p := ⟨g5, 3, none⟩) hg5).trans x3; clear HZ6 hb7 hb7')
        | (have HZ8 := HZ7.out.alloc (.cells #[.int .i64 3, .int .i64 0, .string s, .slice none 0 0, .int .i64 4, .int .i64 (partsB s t).length, .string ⟨#[]⟩, .slice A (partsB s t).length c] 25); have HB8 := Lib.hid (HB7.out.alloc HB7.out.size (.cells #[.int .i64 3, .int .i64 0, .string s, .slice none 0 0, .int .i64 4, .int .i64 (partsB s t).length, .string ⟨#[]⟩, .slice A (partsB s t).length c] 25)); have HB9 := Lib.hid (HB6.out.trans (HB8.out.mono HB6.out.size)); have HC9 := Lib.hid (call_impl s t hs1 ht HF.out 0 none A 0 0 c m _ (HL.out.below HB9.out) (HLS.out.below HB9.out) w7.heap.size 2 (vin_up HV6.out (Nat.le_of_lt hg5) HB8.out) (argsA2 w7 3 0 4 (partsB s t).length s ⟨#[]⟩ none A 0 0 (partsB s t).length c)); refine step_callP rfl 5 _ _ rfl #[.string ⟨#[105, 109, 112, 108, 111, 100, 101]⟩, .slice (some ⟨w7.heap.size, 0, none⟩) 2 2] (by simp [Act.eval, Act.put]) (call_in _ _) _ (c_vx HC9.out) ?_; rintro v w10 ⟨A10, c10, rfl, hb10⟩; have HB10 := Lib.hid (HB8.out.trans (hb10.mono HB8.out.size)); have HZ10 := Lib.hid (blk_lo HZ8 hb10); have hle : w6.heap.size ≤ w6.heap.size := Nat.le_refl _; have z0 := HZ10.out.frozen 0; have z1 := HZ10.out.frozen 1; have z2 := HZ10.out.frozen 2; have z3 := HZ10.out.frozen 3; have v0 := HZ10.out.cell 0; have v1 := HZ10.out.cell 1; have v2 := HZ10.out.cell 2; have v3 := HZ10.out.cell 3; clear hb10 HZ8)
        | (have HB8 := Lib.hid (HB7.out.alloc HB7.out.size (.cells #[.int .i64 3, .int .i64 0, .string s, .slice none 0 0, .int .i64 4, .int .i64 (partsB s t).length, .string ⟨#[]⟩, .slice A (partsB s t).length c] 25)); have HB9 := Lib.hid (HB6.out.trans (HB8.out.mono HB6.out.size)); have HC9 := Lib.hid (call_impl s t hs1 ht HF.out 0 none A 0 0 c m _ (HL.out.below HB9.out) (HLS.out.below HB9.out) w7.heap.size 2 (vin_up HV6.out (Nat.le_of_lt hg5) HB8.out) (argsA2 w7 3 0 4 (partsB s t).length s ⟨#[]⟩ none A 0 0 (partsB s t).length c)); refine step_callP rfl 5 _ _ rfl #[.string ⟨#[105, 109, 112, 108, 111, 100, 101]⟩, .slice (some ⟨w7.heap.size, 0, none⟩) 2 2] (by simp [Act.eval, Act.put]) (call_in _ _) _ (c_vx HC9.out) ?_; rintro v w10 ⟨A10, c10, rfl, hb10⟩; have HB10 := Lib.hid (HB8.out.trans (hb10.mono HB8.out.size)); clear hb10)
        | (have hz7 : (w7.alloc (.cells #[.int .i64 3, .int .i64 0, .string s, .slice none 0 0, .int .i64 4, .int .i64 (partsB s t).length, .string ⟨#[]⟩, .slice A (partsB s t).length c] 25)).heap.size = w7.heap.size + 1 := by simp
           have HB8 := Lib.hid ((HB7.out.alloc HB7.out.size (.cells #[.int .i64 3, .int .i64 0, .string s, .slice none 0 0, .int .i64 4, .int .i64 (partsB s t).length, .string ⟨#[]⟩, .slice A (partsB s t).length c] 25)).alloc (by rw [hz7]; have := HB7.out.size; omega) (.cells #[.int .i64 0, .int .i64 0, .string ⟨#[]⟩, .slice none 0 0] 25)); have HB9 := Lib.hid (HB6.out.trans (HB8.out.mono HB6.out.size)); have hA9 := (argsA2 w7 3 0 4 (partsB s t).length s ⟨#[]⟩ none A 0 0 (partsB s t).length c).below ((Below.refl _ _).alloc (Nat.le_refl _) (.cells #[.int .i64 0, .int .i64 0, .string ⟨#[]⟩, .slice none 0 0] 25)) (Nat.le_refl _); have HC9 := Lib.hid (call_impl s t hs1 ht HF.out 0 none A 0 0 c m _ (HL.out.below HB9.out) (HLS.out.below HB9.out) w7.heap.size 2 (vin_up HV6.out (Nat.le_of_lt hg5) HB8.out) hA9); have HZ8 := Blk.new (w7.alloc (.cells #[.int .i64 3, .int .i64 0, .string s, .slice none 0 0, .int .i64 4, .int .i64 (partsB s t).length, .string ⟨#[]⟩, .slice A (partsB s t).length c] 25)) 25 #[.int .i64 0, .int .i64 0, .string ⟨#[]⟩, .slice none 0 0]; refine step_callP rfl 5 _ _ rfl #[.string ⟨#[105, 109, 112, 108, 111, 100, 101]⟩, .slice (some ⟨w7.heap.size, 0, none⟩) 2 2] (by simp [Act.eval, Act.put]) (call_in _ _) _ (c_vx HC9.out) ?_; rintro v w10 ⟨A10, c10, rfl, hb10⟩; rw [hz7] at HZ8; have HB10 := Lib.hid (HB8.out.trans (hb10.mono HB8.out.size)); have HZ10 := Lib.hid (blk_lo HZ8 hb10); have hle : w6.heap.size ≤ w7.heap.size + 1 := Nat.le_succ_of_le HB7.out.size; have z0 := HZ10.out.frozen 0; have z1 := HZ10.out.frozen 1; have z2 := HZ10.out.frozen 2; have z3 := HZ10.out.frozen 3; have v0 := HZ10.out.cell 0; have v1 := HZ10.out.cell 1; have v2 := HZ10.out.cell 2; have v3 := HZ10.out.cell 3; clear hb10 HZ8 hA9 hz7)
        | (have hz7 : (w7.alloc (.cells #[.int .i64 0, .int .i64 0, .string ⟨#[]⟩, .slice none 0 0] 25)).heap.size = w7.heap.size + 1 := by simp
           have HB8 := Lib.hid ((HB7.out.alloc HB7.out.size (.cells #[.int .i64 0, .int .i64 0, .string ⟨#[]⟩, .slice none 0 0] 25)).alloc (by rw [hz7]; have := HB7.out.size; omega) (.cells #[.int .i64 3, .int .i64 0, .string s, .slice none 0 0, .int .i64 4, .int .i64 (partsB s t).length, .string ⟨#[]⟩, .slice A (partsB s t).length c] 25)); have HB9 := Lib.hid (HB6.out.trans (HB8.out.mono HB6.out.size)); have hA9 := argsA2 (w7.alloc (.cells #[.int .i64 0, .int .i64 0, .string ⟨#[]⟩, .slice none 0 0] 25)) 3 0 4 (partsB s t).length s ⟨#[]⟩ none A 0 0 (partsB s t).length c; rw [hz7] at hA9; have HC9 := Lib.hid (call_impl s t hs1 ht HF.out 0 none A 0 0 c m _ (HL.out.below HB9.out) (HLS.out.below HB9.out) (w7.heap.size + 1) 2 (vin_up HV6.out (Nat.le_of_lt hg5) HB8.out) hA9); have HZ8 := (Blk.new w7 25 #[.int .i64 0, .int .i64 0, .string ⟨#[]⟩, .slice none 0 0]).alloc (.cells #[.int .i64 3, .int .i64 0, .string s, .slice none 0 0, .int .i64 4, .int .i64 (partsB s t).length, .string ⟨#[]⟩, .slice A (partsB s t).length c] 25); refine step_callP rfl 5 _ _ rfl #[.string ⟨#[105, 109, 112, 108, 111, 100, 101]⟩, .slice (some ⟨w7.heap.size + 1, 0, none⟩) 2 2] (by simp [Act.eval, Act.put]) (call_in _ _) _ (c_vx HC9.out) ?_; rintro v w10 ⟨A10, c10, rfl, hb10⟩; have HB10 := Lib.hid (HB8.out.trans (hb10.mono HB8.out.size)); have HZ10 := Lib.hid (blk_lo HZ8 hb10); have hle : w6.heap.size ≤ w7.heap.size := HB7.out.size; have z0 := HZ10.out.frozen 0; have z1 := HZ10.out.frozen 1; have z2 := HZ10.out.frozen 2; have z3 := HZ10.out.frozen 3; have v0 := HZ10.out.cell 0; have v1 := HZ10.out.cell 1; have v2 := HZ10.out.cell 2; have v3 := HZ10.out.cell 3; clear hb10 HZ8 hA9 hz7))
      all_goals
        go_wp2_with fail
        go_meet
        first
          | exact ⟨_, A10, c10, rfl, rfl, (((HZ10.out.set_ 0 _).set_ 1 _).set_ 2 _).set_ 3 _, (((HB10.out.setCell (p := ⟨_, 0, none⟩) hle _).setCell (p := ⟨_, 1, none⟩) hle _).setCell (p := ⟨_, 2, none⟩) hle _).setCell (p := ⟨_, 3, none⟩) hle _⟩
          | exact ⟨w10.heap.size, A10, c10, rfl, rfl, Blk.new _ _ _, HB10.out.alloc HB10.out.size _⟩
    case rest =>
      obtain ⟨g7, A7, c7, rfl, rfl, HY, hbx⟩ := hcut
      rename World => w11
      have HB11 := Lib.hid (HB6.out.trans (hbx.out.mono HB6.out.size))
      have HX11 := Lib.hid (blk_lo HX6.out hbx.out)
      have HV11 := Lib.hid (vin_up HV6.out (Nat.le_of_lt hg5) hbx.out)
      have x0 : w11.cell? ⟨g5, 0, none⟩ = some (.int .i64 4) := HX11.out.cell 0
      have x1 : w11.cell? ⟨g5, 1, none⟩ = some (.int .i64 (partsB s t).length) := HX11.out.cell 1
      have x2 : w11.cell? ⟨g5, 2, none⟩ = some (.string ⟨#[]⟩) := HX11.out.cell 2
      have x3 : w11.cell? ⟨g5, 3, none⟩ = some (.slice A (partsB s t).length c) := HX11.out.cell 3
      have HRt : Hid (∀ wz, Below w11.heap.size w11 wz → Calls Tryz.prog 7 #[.agg #[.int .i64 4, .int .i64 (partsB s t).length, .string ⟨#[]⟩, .slice A (partsB s t).length c]] wz fun e w' => e = .returned (.bool true) ∧ Below wz.heap.size wz w') := fun wz hb => by
        obtain ⟨r1, r2⟩ := right_parts s t hs1 ht HF.out
        have h := rright_any (Nat.le_refl _) HV11.out r2 wz hb
        rw [r1] at h
        exact h
      clear HB6 HX6 HV6 hbx
      go_upto_region 12 with (go_at_call 7; refine (HRt.out _ (Below.refl _ _)).mono ?_; rintro e w12 ⟨rfl, hb12⟩; have HB12 := Lib.hid (HB11.out.trans (hb12.mono HB11.out.size)); have y2 : w12.cell? ⟨g7, 2, none⟩ = some (.string t) := (blk_lo HY.out hb12).cell 2; clear hb12)
      clear x0 x1 x2 x3 HX11 HV11 HRt HB11 HY HF
      go_wp2_with fail
      refine (rtext_any t _).mono ?_
      rintro e w20 ⟨rfl, hb20⟩
      have HB20 := Lib.hid (HB12.out.trans (hb20.mono HB12.out.size))
      clear hb20 HB12
      go_wp2_with fail
      have HB21 := Lib.hid (HB20.out.alloc HB20.out.size (.cells #[.int .i64 3, .int .i64 0, .string t, .slice none 0 0] 25))
      refine (call_bin t ht 0 none 0 0 m _ (HL.out.below HB21.out) w20.heap.size 1 (argsA1 w20 3 0 t none 0 0)).mono ?_
      rintro e w22 ⟨A22, c22, rfl, hb22⟩
      have HB22 := Lib.hid (HB21.out.trans (hb22.mono HB21.out.size))
      clear hb22 HB21 HB20
      go_upto_region 13 with fail
      have HA23 := Lib.hid (Blk.new w22 25 #[.int .i64 3, .int .i64 0, .string (hexB t.data.toList), .slice A22 0 c22])
      have HB23 := Lib.hid (HB22.out.alloc HB22.out.size (.cells #[.int .i64 3, .int .i64 0, .string (hexB t.data.toList), .slice A22 0 c22] 25))
      generalize w22.alloc (.cells #[.int .i64 3, .int .i64 0, .string (hexB t.data.toList), .slice A22 0 c22] 25) = w23 at *
      have a0 : w23.cell? ⟨w22.heap.size, 0, none⟩ = some (.int .i64 3) := HA23.out.cell 0
      have a1 : w23.cell? ⟨w22.heap.size, 1, none⟩ = some (.int .i64 0) := HA23.out.cell 1
      have a2 : w23.cell? ⟨w22.heap.size, 2, none⟩ = some (.string (hexB t.data.toList)) := HA23.out.cell 2
      have a3 : w23.cell? ⟨w22.heap.size, 3, none⟩ = some (.slice A22 0 c22) := HA23.out.cell 3
      clear HB22
      go_wp2_with fail
      clear a0 a1 a2 a3 HA23
      have HB24 := Lib.hid (HB23.out.alloc HB23.out.size (.cells #[.int .i64 3, .int .i64 0, .string (hexB t.data.toList), .slice A22 0 c22] 25))
      have HC24 := call_hexb t.data.toList (by rw [show t.data.toList.length = t.size by simp]; exact ht) 0 A22 0 c22 m _ (HL.out.below HB24.out) w23.heap.size 1 (argsA1 w23 3 0 (hexB t.data.toList) A22 0 c22)
      rw [show (⟨t.data.toList.toArray⟩ : ByteArray) = t from rfl] at HC24
      refine HC24.mono ?_
      clear HC24
      rintro e w25 ⟨A25, c25, rfl, hb25⟩
      have HB25 := Lib.hid (HB24.out.trans (hb25.mono HB24.out.size))
      clear hb25 HB24 HB23
      go_upto_region 14 with fail
      have HBb := Lib.hid (Blk.new w25 25 #[.int .i64 3, .int .i64 0, .string t, .slice A25 0 c25])
      have HB26 := Lib.hid (HB25.out.alloc HB25.out.size (.cells #[.int .i64 3, .int .i64 0, .string t, .slice A25 0 c25] 25))
      generalize w25.alloc (.cells #[.int .i64 3, .int .i64 0, .string t, .slice A25 0 c25] 25) = w26 at *
      generalize w25.heap.size = gb at *
      clear HB25
      go_wp2_with fail
      refine (rtext_any t _).mono ?_
      rintro e w27 ⟨rfl, hb27⟩
      have HB27 := Lib.hid (HB26.out.trans (hb27.mono HB26.out.size))
      have HBb7 := Lib.hid (blk_lo HBb.out hb27)
      clear hb27 HB26 HBb
      go_wp2_with fail
      have HB28 := Lib.hid (HB27.out.alloc HB27.out.size (.cells #[.int .i64 3, .int .i64 0, .string t, .slice none 0 0] 25))
      have HBb8 := Lib.hid (HBb7.out.alloc (.cells #[.int .i64 3, .int .i64 0, .string t, .slice none 0 0] 25))
      refine (call_rev t ht 0 none 0 0 m _ (HL.out.below HB28.out) w27.heap.size 1 (argsA1 w27 3 0 t none 0 0)).mono ?_
      rintro e w29 ⟨A29, c29, rfl, hb29⟩
      have HB29 := Lib.hid (HB28.out.trans (hb29.mono HB28.out.size))
      have HBb9 := Lib.hid (blk_lo HBb8.out hb29)
      clear hb29 HB28 HB27 HBb8 HBb7
      go_upto_region 15 with fail
      have HC30 := Lib.hid (Blk.new w29 25 #[.int .i64 3, .int .i64 0, .string (revB t), .slice A29 0 c29])
      have HB30 := Lib.hid (HB29.out.alloc HB29.out.size (.cells #[.int .i64 3, .int .i64 0, .string (revB t), .slice A29 0 c29] 25))
      have HBb9n := Lib.hid (HBb9.out.alloc (.cells #[.int .i64 3, .int .i64 0, .string (revB t), .slice A29 0 c29] 25))
      clear HBb9
      have HBb9 := HBb9n
      clear HBb9n
      generalize w29.alloc (.cells #[.int .i64 3, .int .i64 0, .string (revB t), .slice A29 0 c29] 25) = w30 at *
      have k0 : w30.cell? ⟨w29.heap.size, 0, none⟩ = some (.int .i64 3) := HC30.out.cell 0
      have k1 : w30.cell? ⟨w29.heap.size, 1, none⟩ = some (.int .i64 0) := HC30.out.cell 1
      have k2 : w30.cell? ⟨w29.heap.size, 2, none⟩ = some (.string (revB t)) := HC30.out.cell 2
      have k3 : w30.cell? ⟨w29.heap.size, 3, none⟩ = some (.slice A29 0 c29) := HC30.out.cell 3
      clear HB29
      go_wp2_with fail
      clear k0 k1 k2 k3 HC30
      have HB31 := Lib.hid (HB30.out.alloc HB30.out.size (.cells #[.int .i64 3, .int .i64 0, .string (revB t), .slice A29 0 c29] 25))
      have HBb1 := Lib.hid (HBb9.out.alloc (.cells #[.int .i64 3, .int .i64 0, .string (revB t), .slice A29 0 c29] 25))
      have HC31 := call_rev (revB t) (by rw [revB_size]; exact ht) 0 A29 0 c29 m _ (HL.out.below HB31.out) w30.heap.size 1 (argsA1 w30 3 0 (revB t) A29 0 c29)
      rw [revB_twice] at HC31
      refine HC31.mono ?_
      clear HC31
      rintro e w32 ⟨A32, c32, rfl, hb32⟩
      have HB32 := Lib.hid (HB31.out.trans (hb32.mono HB31.out.size))
      have HBb2 := Lib.hid (blk_lo HBb1.out hb32)
      clear hb32 HB31 HB30 HBb1 HBb9
      go_upto_region 16 with fail
      have HD33 := Lib.hid (Blk.new w32 25 #[.int .i64 3, .int .i64 0, .string t, .slice A32 0 c32])
      have HB33 := Lib.hid (HB32.out.alloc HB32.out.size (.cells #[.int .i64 3, .int .i64 0, .string t, .slice A32 0 c32] 25))
      have HBb2n := Lib.hid (HBb2.out.alloc (.cells #[.int .i64 3, .int .i64 0, .string t, .slice A32 0 c32] 25))
      clear HBb2
      have HBb2 := HBb2n
      clear HBb2n
      generalize w32.alloc (.cells #[.int .i64 3, .int .i64 0, .string t, .slice A32 0 c32] 25) = w33 at *
      have p0 : w33.cell? ⟨gb, 0, none⟩ = some (.int .i64 3) := HBb2.out.cell 0
      have p2 : w33.cell? ⟨gb, 2, none⟩ = some (.string t) := HBb2.out.cell 2
      have q2 : w33.cell? ⟨w32.heap.size, 2, none⟩ = some (.string t) := HD33.out.cell 2
      clear HB32 HD33 HBb2
      go_wp2_with fail
      go_ret
      exact ⟨rfl, HB33.out⟩
  · have HB5 := Lib.hid (HB4.out.trans (hb5.mono HB4.out.size))
    clear hb5 HB4 HB3
    go_wp2_with fail
    go_ret
    exact ⟨rfl, HB5.out.alloc HB5.out.size _⟩
set_option maxHeartbeats 8000000 in
theorem sback_zero (t : ByteArray) (ht : t.size ≤ 16384) (m : Int) (w : World) (hL : LibA m w) :
    Calls Tryz.prog 3 #[.string ⟨#[]⟩, .string t] w fun e w' => e = .returned (.bool true) ∧ Below w.heap.size w w' := by
  have HL := Lib.hid hL
  clear hL
  have hI2 : ¬ ((16384 : Int) < (t.size : Int)) := by omega
  go_enter Tryz.func3, Tryz.ntmps3
  go_wp2_with fail
  refine (alive_any m _ HL.out).mono ?_
  rintro e w1 ⟨rfl, hb1⟩
  have HB1 := Lib.hid hb1
  clear hb1
  go_wp2_with fail
  refine (rtext_any ⟨#[]⟩ _).mono ?_
  rintro e w2 ⟨rfl, hb2⟩
  have HB2 := Lib.hid (HB1.out.trans (hb2.mono HB1.out.size))
  clear hb2 HB1
  go_wp2_with fail
  refine (rtext_any t _).mono ?_
  rintro e w3 ⟨rfl, hb3⟩
  have HB3 := Lib.hid (HB2.out.trans (hb3.mono HB2.out.size))
  clear hb3 HB2
  go_wp2_with fail
  have HB4 := Lib.hid (HB3.out.alloc HB3.out.size (.cells #[.int .i64 3, .int .i64 0, .string ⟨#[]⟩, .slice none 0 0, .int .i64 3, .int .i64 0, .string t, .slice none 0 0] 25))
  refine (call_expl0 t 0 0 none none 0 0 0 0 m _ (HL.out.below HB4.out) w3.heap.size 2 (argsA2 w3 3 0 3 0 ⟨#[]⟩ t none none 0 0 0 0)).mono ?_
  rintro e w5 ⟨rfl, hb5⟩
  have HB5 := Lib.hid (HB4.out.trans (hb5.mono HB4.out.size))
  clear hb5 HB4 HB3
  go_upto_region 12 with fail
  have HB12 := Lib.hid (HB5.out.alloc HB5.out.size (.cells #[.int .i64 0, .int .i64 0, .string ⟨#[]⟩, .slice none 0 0] 25))
  clear HB5
  generalize w5.alloc (.cells #[.int .i64 0, .int .i64 0, .string ⟨#[]⟩, .slice none 0 0] 25) = w12 at *
  go_wp2_with fail
  refine (rtext_any t _).mono ?_
  rintro e w20 ⟨rfl, hb20⟩
  have HB20 := Lib.hid (HB12.out.trans (hb20.mono HB12.out.size))
  clear hb20 HB12
  go_wp2_with fail
  have HB21 := Lib.hid (HB20.out.alloc HB20.out.size (.cells #[.int .i64 3, .int .i64 0, .string t, .slice none 0 0] 25))
  refine (call_bin t ht 0 none 0 0 m _ (HL.out.below HB21.out) w20.heap.size 1 (argsA1 w20 3 0 t none 0 0)).mono ?_
  rintro e w22 ⟨A22, c22, rfl, hb22⟩
  have HB22 := Lib.hid (HB21.out.trans (hb22.mono HB21.out.size))
  clear hb22 HB21 HB20
  go_upto_region 13 with fail
  have HA23 := Lib.hid (Blk.new w22 25 #[.int .i64 3, .int .i64 0, .string (hexB t.data.toList), .slice A22 0 c22])
  have HB23 := Lib.hid (HB22.out.alloc HB22.out.size (.cells #[.int .i64 3, .int .i64 0, .string (hexB t.data.toList), .slice A22 0 c22] 25))
  generalize w22.alloc (.cells #[.int .i64 3, .int .i64 0, .string (hexB t.data.toList), .slice A22 0 c22] 25) = w23 at *
  have a0 : w23.cell? ⟨w22.heap.size, 0, none⟩ = some (.int .i64 3) := HA23.out.cell 0
  have a1 : w23.cell? ⟨w22.heap.size, 1, none⟩ = some (.int .i64 0) := HA23.out.cell 1
  have a2 : w23.cell? ⟨w22.heap.size, 2, none⟩ = some (.string (hexB t.data.toList)) := HA23.out.cell 2
  have a3 : w23.cell? ⟨w22.heap.size, 3, none⟩ = some (.slice A22 0 c22) := HA23.out.cell 3
  clear HB22
  go_wp2_with fail
  clear a0 a1 a2 a3 HA23
  have HB24 := Lib.hid (HB23.out.alloc HB23.out.size (.cells #[.int .i64 3, .int .i64 0, .string (hexB t.data.toList), .slice A22 0 c22] 25))
  have HC24 := call_hexb t.data.toList (by rw [show t.data.toList.length = t.size by simp]; exact ht) 0 A22 0 c22 m _ (HL.out.below HB24.out) w23.heap.size 1 (argsA1 w23 3 0 (hexB t.data.toList) A22 0 c22)
  rw [show (⟨t.data.toList.toArray⟩ : ByteArray) = t from rfl] at HC24
  refine HC24.mono ?_
  clear HC24
  rintro e w25 ⟨A25, c25, rfl, hb25⟩
  have HB25 := Lib.hid (HB24.out.trans (hb25.mono HB24.out.size))
  clear hb25 HB24 HB23
  go_upto_region 14 with fail
  have HBb := Lib.hid (Blk.new w25 25 #[.int .i64 3, .int .i64 0, .string t, .slice A25 0 c25])
  have HB26 := Lib.hid (HB25.out.alloc HB25.out.size (.cells #[.int .i64 3, .int .i64 0, .string t, .slice A25 0 c25] 25))
  generalize w25.alloc (.cells #[.int .i64 3, .int .i64 0, .string t, .slice A25 0 c25] 25) = w26 at *
  generalize w25.heap.size = gb at *
  clear HB25
  go_wp2_with fail
  refine (rtext_any t _).mono ?_
  rintro e w27 ⟨rfl, hb27⟩
  have HB27 := Lib.hid (HB26.out.trans (hb27.mono HB26.out.size))
  have HBb7 := Lib.hid (blk_lo HBb.out hb27)
  clear hb27 HB26 HBb
  go_wp2_with fail
  have HB28 := Lib.hid (HB27.out.alloc HB27.out.size (.cells #[.int .i64 3, .int .i64 0, .string t, .slice none 0 0] 25))
  have HBb8 := Lib.hid (HBb7.out.alloc (.cells #[.int .i64 3, .int .i64 0, .string t, .slice none 0 0] 25))
  refine (call_rev t ht 0 none 0 0 m _ (HL.out.below HB28.out) w27.heap.size 1 (argsA1 w27 3 0 t none 0 0)).mono ?_
  rintro e w29 ⟨A29, c29, rfl, hb29⟩
  have HB29 := Lib.hid (HB28.out.trans (hb29.mono HB28.out.size))
  have HBb9 := Lib.hid (blk_lo HBb8.out hb29)
  clear hb29 HB28 HB27 HBb8 HBb7
  go_upto_region 15 with fail
  have HC30 := Lib.hid (Blk.new w29 25 #[.int .i64 3, .int .i64 0, .string (revB t), .slice A29 0 c29])
  have HB30 := Lib.hid (HB29.out.alloc HB29.out.size (.cells #[.int .i64 3, .int .i64 0, .string (revB t), .slice A29 0 c29] 25))
  have HBb9n := Lib.hid (HBb9.out.alloc (.cells #[.int .i64 3, .int .i64 0, .string (revB t), .slice A29 0 c29] 25))
  clear HBb9
  have HBb9 := HBb9n
  clear HBb9n
  generalize w29.alloc (.cells #[.int .i64 3, .int .i64 0, .string (revB t), .slice A29 0 c29] 25) = w30 at *
  have k0 : w30.cell? ⟨w29.heap.size, 0, none⟩ = some (.int .i64 3) := HC30.out.cell 0
  have k1 : w30.cell? ⟨w29.heap.size, 1, none⟩ = some (.int .i64 0) := HC30.out.cell 1
  have k2 : w30.cell? ⟨w29.heap.size, 2, none⟩ = some (.string (revB t)) := HC30.out.cell 2
  have k3 : w30.cell? ⟨w29.heap.size, 3, none⟩ = some (.slice A29 0 c29) := HC30.out.cell 3
  clear HB29
  go_wp2_with fail
  clear k0 k1 k2 k3 HC30
  have HB31 := Lib.hid (HB30.out.alloc HB30.out.size (.cells #[.int .i64 3, .int .i64 0, .string (revB t), .slice A29 0 c29] 25))
  have HBb1 := Lib.hid (HBb9.out.alloc (.cells #[.int .i64 3, .int .i64 0, .string (revB t), .slice A29 0 c29] 25))
  have HC31 := call_rev (revB t) (by rw [revB_size]; exact ht) 0 A29 0 c29 m _ (HL.out.below HB31.out) w30.heap.size 1 (argsA1 w30 3 0 (revB t) A29 0 c29)
  rw [revB_twice] at HC31
  refine HC31.mono ?_
  clear HC31
  rintro e w32 ⟨A32, c32, rfl, hb32⟩
  have HB32 := Lib.hid (HB31.out.trans (hb32.mono HB31.out.size))
  have HBb2 := Lib.hid (blk_lo HBb1.out hb32)
  clear hb32 HB31 HB30 HBb1 HBb9
  go_upto_region 16 with fail
  have HD33 := Lib.hid (Blk.new w32 25 #[.int .i64 3, .int .i64 0, .string t, .slice A32 0 c32])
  have HB33 := Lib.hid (HB32.out.alloc HB32.out.size (.cells #[.int .i64 3, .int .i64 0, .string t, .slice A32 0 c32] 25))
  have HBb2n := Lib.hid (HBb2.out.alloc (.cells #[.int .i64 3, .int .i64 0, .string t, .slice A32 0 c32] 25))
  clear HBb2
  have HBb2 := HBb2n
  clear HBb2n
  generalize w32.alloc (.cells #[.int .i64 3, .int .i64 0, .string t, .slice A32 0 c32] 25) = w33 at *
  have p0 : w33.cell? ⟨gb, 0, none⟩ = some (.int .i64 3) := HBb2.out.cell 0
  have p2 : w33.cell? ⟨gb, 2, none⟩ = some (.string t) := HBb2.out.cell 2
  have q2 : w33.cell? ⟨w32.heap.size, 2, none⟩ = some (.string t) := HD33.out.cell 2
  clear HB32 HD33 HBb2
  go_wp2_with fail
  go_ret
  exact ⟨rfl, HB33.out⟩
theorem sback_any (s t : ByteArray) (hs : s.size ≤ 9223372036854775807) (ht : t.size ≤ 9223372036854775807) (m : Int) (w : World) (hL : LibA m w) (hLS : LibS w) :
    Calls Tryz.prog 3 #[.string s, .string t] w fun e w' => e = .returned (.bool true) ∧ Below w.heap.size w w' := by
  by_cases h1 : 16384 < s.size ∨ 16384 < t.size
  · exact sback_big s t h1 hs ht m w hL
  · by_cases h0 : s.size = 0
    · obtain rfl : s = ⟨#[]⟩ := by
        apply ByteArray.ext
        exact Array.eq_empty_of_size_eq_zero h0
      exact sback_zero t (by omega) m w hL
    · exact sback_one s t (by omega) (by omega) (by omega) m w hL hLS
end Sb
end Go.Proofs.YtgjnmfjiolpikaaGreatDoor
