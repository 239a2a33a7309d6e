/- list.Norm at any key: the walk. -/
import Derived.Test.YtgjnmfjiolpikaaGreatDoorMxL
import Derived.Test.YtgjnmfjiolpikaaGreatDoorNmP
import Derived.Deep.RegionHeld3
import Derived.Sort.Grow
namespace Go.Proofs.YtgjnmfjiolpikaaGreatDoor
open Go Go.RowKit
namespace Nm
/-- A key in its one form: whether it is a text, its number, its text. -/
def normG (b : Bool) (i : Int) (s : ByteArray) : Bool × Int × ByteArray :=
  if b then match Lib.atoiAll s.data.toList with | .ok n => if Lib.itoa n = s.data.toList then (false, n, ⟨#[]⟩) else (true, 0, s) | _ => (true, 0, s) else (false, i, ⟨#[]⟩)
def keyV (k : Bool × Int × ByteArray) : Value := .agg #[.bool k.1, .int .i64 k.2.1, .string k.2.2]
theorem below_grow (w : World) (q : Nat) (os : Array Obj) : Below w.heap.size w (Sort.grow (w.drewN q) os) :=
  ⟨rfl, rfl, rfl, by first | (simp [Sort.grow]; done) | (simp [Sort.grow]; omega), fun i hi => by
    show ((w.drewN q).heap ++ os)[i]? = _
    rw [Array.getElem?_append_left (by show i < w.heap.size; omega)]
    rfl⟩
theorem itoa_any (n : Int) (h0 : -9223372036854775808 ≤ n) (h1 : n ≤ 9223372036854775807) (w : World) (hL : LibS w) : Calls Tryz.prog 152 #[.int .i64 n] w fun e w' => e = .returned (.string ⟨(Lib.itoa n).toArray⟩) ∧ Below w.heap.size w w' := by
  refine (Tryz.strconv_Itoa n h0 h1 w hL.pow).mono ?_
  rintro e w' ⟨rfl, k, os, rfl⟩
  exact ⟨rfl, below_grow w k os⟩
theorem atoi_ok (s : ByteArray) (hz : s.size ≤ 281474976710656) (v : Int) (h : Lib.atoiAll s.data.toList = .ok v) (w : World) : Calls Tryz.prog 208 #[.string s] w fun e w' => e = .returned (.tuple #[.int .i64 v, .nilIface]) ∧ Below w.heap.size w w' := by
  refine (Tryz.strconv_Atoi_ok s (by omega) v h w).mono ?_
  rintro e w' ⟨rfl, rfl | ⟨t, rfl⟩⟩
  · exact ⟨rfl, Below.refl _ _⟩
  · exact ⟨rfl, Joins.below_bytesWorld _ _ _ _ (Nat.le_refl _)⟩
theorem atoi_no (s : ByteArray) (hz : s.size ≤ 281474976710656) (h : ∀ v, Lib.atoiAll s.data.toList ≠ .ok v) (w : World) (hL : LibS w) : Calls Tryz.prog 208 #[.string s] w fun e w' => (∃ n t N, e = .returned (.tuple #[.int .i64 n, .iface t (.pointer (some ⟨N, 0, none⟩))])) ∧ Below w.heap.size w w' := by
  obtain ⟨tp, p, hv⟩ := hL.syn
  obtain ⟨tq, q, hu⟩ := hL.rng
  cases ha : Lib.atoiAll s.data.toList with
  | ok v => exact absurd ha (h v)
  | range =>
    refine (Tryz.strconv_Atoi_range_var s hz ha tq q w hu).mono ?_
    rintro e w' ⟨N, rfl, -, -, hb⟩
    exact ⟨⟨_, _, _, rfl⟩, hb⟩
  | _ =>
    refine (Tryz.strconv_Atoi_syntax_var s hz ha tp p w hv).mono ?_
    rintro e w' ⟨N, rfl, -, -, hb⟩
    exact ⟨⟨_, _, _, rfl⟩, hb⟩
section
variable (i : Int) (s : ByteArray) (w : World)
set_option maxRecDepth 100000 in
theorem norm_int : Calls Tryz.prog 186 #[.agg #[.bool false, .int .i64 i, .string s]] w fun e w' => e = .returned (.agg #[.bool false, .int .i64 i, .string ⟨#[]⟩]) ∧ Below w.heap.size w w' := by
  have HB0 := Lib.hid (((Below.refl w.heap.size w).alloc (Nat.le_refl _) (.cells #[.bool false, .int .i64 i, .string s] 44)).alloc (by simp) (.cells #[.bool false, .int .i64 0, .string ⟨#[]⟩] 44))
  go_enter Tryz.func186, Tryz.ntmps186
  go_wp2_with fail
  refine bodyPost_ret (v := .agg #[.bool false, .int .i64 i, .string ⟨#[]⟩]) ?_ rfl ?_
  · simp [results, Tryz.results186, go_sem]
  exact ⟨rfl, ((Below.refl w.heap.size w).alloc (Nat.le_refl _) _).alloc (by simp) _⟩
set_option maxRecDepth 100000 in
theorem norm_no (hz : s.size ≤ 281474976710656) (h : ∀ v, Lib.atoiAll s.data.toList ≠ .ok v) (hL : LibS w) : Calls Tryz.prog 186 #[.agg #[.bool true, .int .i64 i, .string s]] w fun e w' => e = .returned (.agg #[.bool true, .int .i64 0, .string s]) ∧ Below w.heap.size w w' := by
  have HB0 := Lib.hid (((Below.refl w.heap.size w).alloc (Nat.le_refl _) (.cells #[.bool true, .int .i64 i, .string s] 44)).alloc (by simp) (.cells #[.bool false, .int .i64 0, .string ⟨#[]⟩] 44))
  have HK := Lib.hid ((Blk.new w 44 #[.bool true, .int .i64 i, .string s]).alloc (.cells #[.bool false, .int .i64 0, .string ⟨#[]⟩] 44))
  have HR0 : Blk ((w.alloc (.cells #[.bool true, .int .i64 i, .string s] 44)).alloc (.cells #[.bool false, .int .i64 0, .string ⟨#[]⟩] 44)) (w.heap.size + 1) 44 #[.bool false, .int .i64 0, .string ⟨#[]⟩] := by
    have := Blk.new (w.alloc (.cells #[.bool true, .int .i64 i, .string s] 44)) 44 #[.bool false, .int .i64 0, .string ⟨#[]⟩]
    simpa using this
  have HR := Lib.hid HR0
  have HA := Lib.hid (fun w hL => atoi_no s hz h w hL)
  clear HR0 h
  go_enter Tryz.func186, Tryz.ntmps186
  go_wp2_with fail
  generalize (w.alloc (.cells #[.bool true, .int .i64 i, .string s] 44)).alloc (.cells #[.bool false, .int .i64 0, .string ⟨#[]⟩] 44) = w2 at *
  refine (HA.out w2 (hL.below HB0.out)).mono ?_
  rintro e w3 ⟨⟨n, t, N, rfl⟩, hb3⟩
  have HB3 := Lib.hid (HB0.out.trans (hb3.mono HB0.out.size))
  have HK3 := Lib.hid (HK.out.keeps (Keeps.of_below (S := fun _ => False) hb3) id)
  have HR3 := Lib.hid (HR.out.keeps (Keeps.of_below (S := fun _ => False) hb3) id)
  have k0 : w3.cell? ⟨w.heap.size, 0, none⟩ = some (.bool true) := HK3.out.cell 0
  have k1 : w3.cell? ⟨w.heap.size, 1, none⟩ = some (.int .i64 i) := HK3.out.cell 1
  have k2 : w3.cell? ⟨w.heap.size, 2, none⟩ = some (.string s) := HK3.out.cell 2
  have r0 : w3.cell? ⟨w.heap.size + 1, 0, none⟩ = some (.bool false) := HR3.out.cell 0
  have r1 : w3.cell? ⟨w.heap.size + 1, 1, none⟩ = some (.int .i64 0) := HR3.out.cell 1
  have r2 : w3.cell? ⟨w.heap.size + 1, 2, none⟩ = some (.string ⟨#[]⟩) := HR3.out.cell 2
  have z0 := HR3.out.frozen 0
  have z1 := HR3.out.frozen 1
  have z2 := HR3.out.frozen 2
  clear hb3 HB0 HK HR HA
  go_wp2_with fail
  go_quiet (fail)
  go_wp2_with fail
  have HR7 := ((HR3.out.drewN nq).set_ 0 (.bool true)).set_ 1 (.int .i64 0) |>.set_ 2 (.string s)
  have hb7 : ∀ v0 v1 v2, Below w.heap.size w ((((w3.drewN nq).setCell ⟨w.heap.size + 1, 0, none⟩ v0).setCell ⟨w.heap.size + 1, 1, none⟩ v1).setCell ⟨w.heap.size + 1, 2, none⟩ v2) := fun v0 v1 v2 =>
    ((((⟨HB3.out.os, HB3.out.tape, HB3.out.output, HB3.out.size, HB3.out.block⟩ : Below w.heap.size w (w3.drewN nq)).setCell (p := ⟨w.heap.size + 1, 0, none⟩) (by simp) v0).setCell (p := ⟨w.heap.size + 1, 1, none⟩) (by simp) v1).setCell (p := ⟨w.heap.size + 1, 2, none⟩) (by simp) v2)
  have HB7 := hb7 (.bool true) (.int .i64 0) (.string s)
  clear hb7
  generalize (((w3.drewN nq).setCell ⟨w.heap.size + 1, 0, none⟩ (.bool true)).setCell ⟨w.heap.size + 1, 1, none⟩ (.int .i64 0)).setCell ⟨w.heap.size + 1, 2, none⟩ (.string s) = w7 at *
  have e0 : w7.cell? ⟨w.heap.size + 1, 0, none⟩ = some (.bool true) := HR7.cell 0
  have e1 : w7.cell? ⟨w.heap.size + 1, 1, none⟩ = some (.int .i64 0) := HR7.cell 1
  have e2 : w7.cell? ⟨w.heap.size + 1, 2, none⟩ = some (.string s) := HR7.cell 2
  refine bodyPost_ret (v := .agg #[.bool true, .int .i64 0, .string s]) (by simp [results, Tryz.results186, go_sem, e0, e1, e2]) rfl ?_
  exact ⟨rfl, HB7⟩
set_option maxRecDepth 100000 in
theorem norm_num (hz : s.size ≤ 281474976710656) (v : Int) (h : Lib.atoiAll s.data.toList = .ok v) (he : Lib.itoa v = s.data.toList) (hL : LibS w) : Calls Tryz.prog 186 #[.agg #[.bool true, .int .i64 i, .string s]] w fun e w' => e = .returned (.agg #[.bool false, .int .i64 v, .string ⟨#[]⟩]) ∧ Below w.heap.size w w' := by
  have HB0 := Lib.hid (((Below.refl w.heap.size w).alloc (Nat.le_refl _) (.cells #[.bool true, .int .i64 i, .string s] 44)).alloc (by simp) (.cells #[.bool false, .int .i64 0, .string ⟨#[]⟩] 44))
  have HK := Lib.hid ((Blk.new w 44 #[.bool true, .int .i64 i, .string s]).alloc (.cells #[.bool false, .int .i64 0, .string ⟨#[]⟩] 44))
  have HR0 : Blk ((w.alloc (.cells #[.bool true, .int .i64 i, .string s] 44)).alloc (.cells #[.bool false, .int .i64 0, .string ⟨#[]⟩] 44)) (w.heap.size + 1) 44 #[.bool false, .int .i64 0, .string ⟨#[]⟩] := by
    have := Blk.new (w.alloc (.cells #[.bool true, .int .i64 i, .string s] 44)) 44 #[.bool false, .int .i64 0, .string ⟨#[]⟩]
    simpa using this
  have HR := Lib.hid HR0
  have HA := Lib.hid (fun w => atoi_ok s hz v h w)
  have hbd := Lib.atoiAll_bounds h
  have HI := Lib.hid (fun w hL => itoa_any v hbd.1 hbd.2 w hL)
  have HLB := Lib.hid (fun (w' : World) (hb : Below w.heap.size w w') => hL.below hb)
  have hq : (Lib.itoa v == s.toList) = true := by
    rw [ByteArray.toList_eq]
    simpa using he
  clear HR0 h he hL hbd
  go_enter Tryz.func186, Tryz.ntmps186
  go_wp2_with fail
  generalize (w.alloc (.cells #[.bool true, .int .i64 i, .string s] 44)).alloc (.cells #[.bool false, .int .i64 0, .string ⟨#[]⟩] 44) = w2 at *
  refine (HA.out w2).mono ?_
  rintro e w3 ⟨rfl, hb3⟩
  have HB3 := Lib.hid (HB0.out.trans (hb3.mono HB0.out.size))
  have HK3 := Lib.hid (HK.out.keeps (Keeps.of_below (S := fun _ => False) hb3) id)
  have HR3 := Lib.hid (HR.out.keeps (Keeps.of_below (S := fun _ => False) hb3) id)
  have k0 : w3.cell? ⟨w.heap.size, 0, none⟩ = some (.bool true) := HK3.out.cell 0
  have k1 : w3.cell? ⟨w.heap.size, 1, none⟩ = some (.int .i64 i) := HK3.out.cell 1
  have k2 : w3.cell? ⟨w.heap.size, 2, none⟩ = some (.string s) := HK3.out.cell 2
  have r0 : w3.cell? ⟨w.heap.size + 1, 0, none⟩ = some (.bool false) := HR3.out.cell 0
  have r1 : w3.cell? ⟨w.heap.size + 1, 1, none⟩ = some (.int .i64 0) := HR3.out.cell 1
  have r2 : w3.cell? ⟨w.heap.size + 1, 2, none⟩ = some (.string ⟨#[]⟩) := HR3.out.cell 2
  have z0 := HR3.out.frozen 0
  have z1 := HR3.out.frozen 1
  have z2 := HR3.out.frozen 2
  clear hb3 HB0 HK HR HA
  go_wp2_with fail
  go_region_held3 (fun w' => w'.cell? ⟨w.heap.size, 2, none⟩ = some (.string s)) (first | exact k2 | exact k3)
    (first | (go_at_call 152; refine (HI.out w3.drew (HLB.out _ HB3.out.drew)).mono ?_; rintro e w4 ⟨rfl, hb4⟩; have HB4 := Lib.hid (HB3.out.drew.trans (hb4.mono HB3.out.size)); have HK4 := Lib.hid ((HK3.out.drewN 1).keeps (Keeps.of_below (S := fun _ => False) hb4) id); have HR4 := Lib.hid ((HR3.out.drewN 1).keeps (Keeps.of_below (S := fun _ => False) hb4) id); have k3 := HK4.out.cell 2; have z3 := HR4.out.frozen 0; have z4 := HR4.out.frozen 1; have z5 := HR4.out.frozen 2; have r3 := HR4.out.cell 0; have r4 := HR4.out.cell 1; have r5 := HR4.out.cell 2; clear hb4))
  go_wp2_with fail
  have HB7 := Lib.hid (((HB4.out.setCell (p := ⟨w.heap.size + 1, 0, none⟩) (by simp) (.bool false)).setCell (p := ⟨w.heap.size + 1, 1, none⟩) (by simp) (.int .i64 v)).setCell (p := ⟨w.heap.size + 1, 2, none⟩) (by simp) (.string ⟨#[]⟩))
  have HR7 := Lib.hid (((HR4.out.set_ 0 (.bool false)).set_ 1 (.int .i64 v)).set_ 2 (.string ⟨#[]⟩))
  generalize ((w4.setCell ⟨w.heap.size + 1, 0, none⟩ (.bool false)).setCell ⟨w.heap.size + 1, 1, none⟩ (.int .i64 v)).setCell ⟨w.heap.size + 1, 2, none⟩ (.string ⟨#[]⟩) = w7 at *
  have e0 : w7.cell? ⟨w.heap.size + 1, 0, none⟩ = some (.bool false) := HR7.out.cell 0
  have e1 : w7.cell? ⟨w.heap.size + 1, 1, none⟩ = some (.int .i64 v) := HR7.out.cell 1
  have e2 : w7.cell? ⟨w.heap.size + 1, 2, none⟩ = some (.string ⟨#[]⟩) := HR7.out.cell 2
  refine bodyPost_ret (v := .agg #[.bool false, .int .i64 v, .string ⟨#[]⟩]) (by simp [results, Tryz.results186, go_sem, e0, e1, e2]) rfl ?_
  exact ⟨rfl, HB7.out⟩
set_option maxRecDepth 100000 in
theorem norm_text (hz : s.size ≤ 281474976710656) (v : Int) (h : Lib.atoiAll s.data.toList = .ok v) (he : ¬ Lib.itoa v = s.data.toList) (hL : LibS w) : Calls Tryz.prog 186 #[.agg #[.bool true, .int .i64 i, .string s]] w fun e w' => e = .returned (.agg #[.bool true, .int .i64 0, .string s]) ∧ Below w.heap.size w w' := by
  have HB0 := Lib.hid (((Below.refl w.heap.size w).alloc (Nat.le_refl _) (.cells #[.bool true, .int .i64 i, .string s] 44)).alloc (by simp) (.cells #[.bool false, .int .i64 0, .string ⟨#[]⟩] 44))
  have HK := Lib.hid ((Blk.new w 44 #[.bool true, .int .i64 i, .string s]).alloc (.cells #[.bool false, .int .i64 0, .string ⟨#[]⟩] 44))
  have HR0 : Blk ((w.alloc (.cells #[.bool true, .int .i64 i, .string s] 44)).alloc (.cells #[.bool false, .int .i64 0, .string ⟨#[]⟩] 44)) (w.heap.size + 1) 44 #[.bool false, .int .i64 0, .string ⟨#[]⟩] := by
    have := Blk.new (w.alloc (.cells #[.bool true, .int .i64 i, .string s] 44)) 44 #[.bool false, .int .i64 0, .string ⟨#[]⟩]
    simpa using this
  have HR := Lib.hid HR0
  have HA := Lib.hid (fun w => atoi_ok s hz v h w)
  have hbd := Lib.atoiAll_bounds h
  have HI := Lib.hid (fun w hL => itoa_any v hbd.1 hbd.2 w hL)
  have HLB := Lib.hid (fun (w' : World) (hb : Below w.heap.size w w') => hL.below hb)
  have hq : (Lib.itoa v == s.toList) = false := by
    rw [ByteArray.toList_eq]
    simpa using he
  clear HR0 h he hL hbd
  go_enter Tryz.func186, Tryz.ntmps186
  go_wp2_with fail
  generalize (w.alloc (.cells #[.bool true, .int .i64 i, .string s] 44)).alloc (.cells #[.bool false, .int .i64 0, .string ⟨#[]⟩] 44) = w2 at *
  refine (HA.out w2).mono ?_
  rintro e w3 ⟨rfl, hb3⟩
  have HB3 := Lib.hid (HB0.out.trans (hb3.mono HB0.out.size))
  have HK3 := Lib.hid (HK.out.keeps (Keeps.of_below (S := fun _ => False) hb3) id)
  have HR3 := Lib.hid (HR.out.keeps (Keeps.of_below (S := fun _ => False) hb3) id)
  have k0 : w3.cell? ⟨w.heap.size, 0, none⟩ = some (.bool true) := HK3.out.cell 0
  have k1 : w3.cell? ⟨w.heap.size, 1, none⟩ = some (.int .i64 i) := HK3.out.cell 1
  have k2 : w3.cell? ⟨w.heap.size, 2, none⟩ = some (.string s) := HK3.out.cell 2
  have r0 : w3.cell? ⟨w.heap.size + 1, 0, none⟩ = some (.bool false) := HR3.out.cell 0
  have r1 : w3.cell? ⟨w.heap.size + 1, 1, none⟩ = some (.int .i64 0) := HR3.out.cell 1
  have r2 : w3.cell? ⟨w.heap.size + 1, 2, none⟩ = some (.string ⟨#[]⟩) := HR3.out.cell 2
  have z0 := HR3.out.frozen 0
  have z1 := HR3.out.frozen 1
  have z2 := HR3.out.frozen 2
  clear hb3 HB0 HK HR HA
  go_wp2_with fail
  go_region_held3 (fun w' => w'.cell? ⟨w.heap.size, 2, none⟩ = some (.string s)) (first | exact k2 | exact k3)
    (first | (go_at_call 152; refine (HI.out w3.drew (HLB.out _ HB3.out.drew)).mono ?_; rintro e w4 ⟨rfl, hb4⟩; have HB4 := Lib.hid (HB3.out.drew.trans (hb4.mono HB3.out.size)); have HK4 := Lib.hid ((HK3.out.drewN 1).keeps (Keeps.of_below (S := fun _ => False) hb4) id); have HR4 := Lib.hid ((HR3.out.drewN 1).keeps (Keeps.of_below (S := fun _ => False) hb4) id); have k3 := HK4.out.cell 2; have z3 := HR4.out.frozen 0; have z4 := HR4.out.frozen 1; have z5 := HR4.out.frozen 2; have r3 := HR4.out.cell 0; have r4 := HR4.out.cell 1; have r5 := HR4.out.cell 2; clear hb4))
  go_wp2_with fail
  have HB7 := Lib.hid (((HB4.out.setCell (p := ⟨w.heap.size + 1, 0, none⟩) (by simp) (.bool true)).setCell (p := ⟨w.heap.size + 1, 1, none⟩) (by simp) (.int .i64 0)).setCell (p := ⟨w.heap.size + 1, 2, none⟩) (by simp) (.string s))
  have HR7 := Lib.hid (((HR4.out.set_ 0 (.bool true)).set_ 1 (.int .i64 0)).set_ 2 (.string s))
  generalize ((w4.setCell ⟨w.heap.size + 1, 0, none⟩ (.bool true)).setCell ⟨w.heap.size + 1, 1, none⟩ (.int .i64 0)).setCell ⟨w.heap.size + 1, 2, none⟩ (.string s) = w7 at *
  have e0 : w7.cell? ⟨w.heap.size + 1, 0, none⟩ = some (.bool true) := HR7.out.cell 0
  have e1 : w7.cell? ⟨w.heap.size + 1, 1, none⟩ = some (.int .i64 0) := HR7.out.cell 1
  have e2 : w7.cell? ⟨w.heap.size + 1, 2, none⟩ = some (.string s) := HR7.out.cell 2
  refine bodyPost_ret (v := .agg #[.bool true, .int .i64 0, .string s]) (by simp [results, Tryz.results186, go_sem, e0, e1, e2]) rfl ?_
  exact ⟨rfl, HB7.out⟩
theorem norm_any (b : Bool) (hz : s.size ≤ 281474976710656) (hL : LibS w) : Calls Tryz.prog 186 #[.agg #[.bool b, .int .i64 i, .string s]] w fun e w' => e = .returned (keyV (normG b i s)) ∧ Below w.heap.size w w' := by
  cases b with
  | false => exact norm_int i s w
  | true =>
    by_cases h : ∃ v, Lib.atoiAll s.data.toList = .ok v
    · obtain ⟨v, h⟩ := h
      by_cases he : Lib.itoa v = s.data.toList
      · have e : normG true i s = (false, v, ⟨#[]⟩) := by simp [normG, h, he]
        rw [e]
        exact norm_num i s w hz v h he hL
      · have e : normG true i s = (true, 0, s) := by simp [normG, h, he]
        rw [e]
        exact norm_text i s w hz v h he hL
    · have h' : ∀ v, Lib.atoiAll s.data.toList ≠ .ok v := fun v e => h ⟨v, e⟩
      have e : normG true i s = (true, 0, s) := by
        unfold normG
        rw [if_pos rfl]
        split
        · rename_i n hn; exact absurd hn (h' n)
        · rfl
      rw [e]
      exact norm_no i s w hz h' hL
end
end Nm
end Go.Proofs.YtgjnmfjiolpikaaGreatDoor
