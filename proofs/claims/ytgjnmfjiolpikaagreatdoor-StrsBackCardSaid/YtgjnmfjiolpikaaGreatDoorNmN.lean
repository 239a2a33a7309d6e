/- The document's Numeric, Norm, Find: the walks. -/
import Derived.Test.YtgjnmfjiolpikaaGreatDoorNmD
import Derived.Test.YtgjnmfjiolpikaaGreatDoorMyAa
namespace Go.Proofs.YtgjnmfjiolpikaaGreatDoor
open Go Go.RowKit
namespace Nm
set_option maxRecDepth 100000 in
theorem numeric_ok (s : ByteArray) (hs : s.size ≤ 9223372036854775807) (n : Int) (h : numericL s.data.toList = some n) (w : World) : Calls Tryz.prog 116 #[.string s] w fun e w' => e = .returned (.tuple #[.int .i64 n, .bool true]) ∧ w = w' := by
  have hb : beginL s.data.toList = some (n, []) := by
    unfold numericL at h
    split at h
    · rename_i n' he
      cases h
      exact he
    · cases h
  have HB := Lib.hid (fun w => begin_any s hs w)
  have e : beginT s = .tuple #[.int .i64 n, .int .i64 (s.size : Int), .bool true] := by unfold beginT; rw [hb]; simp
  rw [e] at HB
  clear h hb e
  go_enter Tryz.func116, Tryz.ntmps116
  go_wp2_with (go_at_call 151; refine (HB.out _).mono ?_; rintro e w1 ⟨rfl, rfl⟩)
  go_ret2
  exact ⟨rfl, rfl⟩
set_option maxRecDepth 100000 in
theorem numeric_no (s : ByteArray) (hs : s.size ≤ 9223372036854775807) (h : numericL s.data.toList = none) (w : World) : Calls Tryz.prog 116 #[.string s] w fun e w' => e = .returned (.tuple #[.int .i64 0, .bool false]) ∧ w = w' := by
  have HB := Lib.hid (fun w => begin_any s hs w)
  cases hb : beginL s.data.toList with
  | none =>
    have e : beginT s = .tuple #[.int .i64 0, .int .i64 0, .bool false] := by unfold beginT; rw [hb]
    rw [e] at HB
    clear h hb e
    go_enter Tryz.func116, Tryz.ntmps116
    go_wp2_with (go_at_call 151; refine (HB.out _).mono ?_; rintro e w1 ⟨rfl, rfl⟩)
    go_ret2
    exact ⟨rfl, rfl⟩
  | some p =>
    obtain ⟨n, r⟩ := p
    have hr : r ≠ [] := fun e => by
      subst e
      unfold numericL at h
      rw [hb] at h
      cases h
    have hr0 : 0 < r.length := List.length_pos_iff.2 hr
    have e : beginT s = .tuple #[.int .i64 n, .int .i64 ((s.size : Int) - (r.length : Int)), .bool true] := by unfold beginT; rw [hb]
    rw [e] at HB
    have hd : (s.size : Int) - (r.length : Int) < (s.size : Int) := by omega
    clear h hb e hr
    generalize r.length = q at *
    go_enter Tryz.func116, Tryz.ntmps116
    go_wp2_with (go_at_call 151; refine (HB.out _).mono ?_; rintro e w1 ⟨rfl, rfl⟩)
    go_ret2
    exact ⟨rfl, rfl⟩
section
variable (i : Int) (s : ByteArray) (w : World)
set_option maxRecDepth 100000 in
theorem rnorm_int : Calls Tryz.prog 74 #[.agg #[.bool false, .int .i64 i, .string s]] w fun e w' => e = .returned (.agg #[.bool false, .int .i64 i, .string ⟨#[]⟩]) ∧ Below w.heap.size w w' := by
  have HB0 := Lib.hid (((Below.refl w.heap.size w).alloc (Nat.le_refl _) (.cells #[.bool false, .int .i64 i, .string s] 44)).alloc (by simp) (.cells #[.bool false, .int .i64 0, .string ⟨#[]⟩] 44))
  go_enter Tryz.func74, Tryz.ntmps74
  go_wp2_with fail
  refine bodyPost_ret (v := .agg #[.bool false, .int .i64 i, .string ⟨#[]⟩]) ?_ rfl ?_
  · simp [results, Tryz.results74, go_sem]
  exact ⟨rfl, ((Below.refl w.heap.size w).alloc (Nat.le_refl _) _).alloc (by simp) _⟩
set_option maxRecDepth 100000 in
theorem rnorm_no (hz : s.size ≤ 281474976710656) (h : numericL s.data.toList = none) : Calls Tryz.prog 74 #[.agg #[.bool true, .int .i64 i, .string s]] w fun e w' => e = .returned (.agg #[.bool true, .int .i64 0, .string s]) ∧ Below w.heap.size w w' := by
  have HB0 := Lib.hid (((Below.refl w.heap.size w).alloc (Nat.le_refl _) (.cells #[.bool true, .int .i64 i, .string s] 44)).alloc (by simp) (.cells #[.bool false, .int .i64 0, .string ⟨#[]⟩] 44))
  have HK := Lib.hid ((Blk.new w 44 #[.bool true, .int .i64 i, .string s]).alloc (.cells #[.bool false, .int .i64 0, .string ⟨#[]⟩] 44))
  have HR0 : Blk ((w.alloc (.cells #[.bool true, .int .i64 i, .string s] 44)).alloc (.cells #[.bool false, .int .i64 0, .string ⟨#[]⟩] 44)) (w.heap.size + 1) 44 #[.bool false, .int .i64 0, .string ⟨#[]⟩] := by
    have := Blk.new (w.alloc (.cells #[.bool true, .int .i64 i, .string s] 44)) 44 #[.bool false, .int .i64 0, .string ⟨#[]⟩]
    simpa using this
  have HR := Lib.hid HR0
  have HA := Lib.hid (fun w => numeric_no s (by omega) h w)
  clear HR0 h
  go_enter Tryz.func74, Tryz.ntmps74
  go_wp2_with fail
  generalize (w.alloc (.cells #[.bool true, .int .i64 i, .string s] 44)).alloc (.cells #[.bool false, .int .i64 0, .string ⟨#[]⟩] 44) = w2 at *
  refine (HA.out w2).mono ?_
  rintro e w3 ⟨rfl, rfl⟩
  have hb3 := Below.refl w2.heap.size w2
  have HB3 := Lib.hid (HB0.out.trans (hb3.mono HB0.out.size))
  have HK3 := Lib.hid (HK.out.keeps (Keeps.of_below (S := fun _ => False) hb3) id)
  have HR3 := Lib.hid (HR.out.keeps (Keeps.of_below (S := fun _ => False) hb3) id)
  have k0 : w2.cell? ⟨w.heap.size, 0, none⟩ = some (.bool true) := HK3.out.cell 0
  have k1 : w2.cell? ⟨w.heap.size, 1, none⟩ = some (.int .i64 i) := HK3.out.cell 1
  have k2 : w2.cell? ⟨w.heap.size, 2, none⟩ = some (.string s) := HK3.out.cell 2
  have r0 : w2.cell? ⟨w.heap.size + 1, 0, none⟩ = some (.bool false) := HR3.out.cell 0
  have r1 : w2.cell? ⟨w.heap.size + 1, 1, none⟩ = some (.int .i64 0) := HR3.out.cell 1
  have r2 : w2.cell? ⟨w.heap.size + 1, 2, none⟩ = some (.string ⟨#[]⟩) := HR3.out.cell 2
  have z0 := HR3.out.frozen 0
  have z1 := HR3.out.frozen 1
  have z2 := HR3.out.frozen 2
  clear hb3 HB0 HK HR HA
  go_wp2_with fail
  go_quiet (fail)
  go_wp2_with fail
  have HR7 := ((HR3.out.drewN nq).set_ 0 (.bool true)).set_ 1 (.int .i64 0) |>.set_ 2 (.string s)
  have hb7 : ∀ v0 v1 v2, Below w.heap.size w ((((w2.drewN nq).setCell ⟨w.heap.size + 1, 0, none⟩ v0).setCell ⟨w.heap.size + 1, 1, none⟩ v1).setCell ⟨w.heap.size + 1, 2, none⟩ v2) := fun v0 v1 v2 =>
    ((((⟨HB3.out.os, HB3.out.tape, HB3.out.output, HB3.out.size, HB3.out.block⟩ : Below w.heap.size w (w2.drewN nq)).setCell (p := ⟨w.heap.size + 1, 0, none⟩) (by simp) v0).setCell (p := ⟨w.heap.size + 1, 1, none⟩) (by simp) v1).setCell (p := ⟨w.heap.size + 1, 2, none⟩) (by simp) v2)
  have HB7 := hb7 (.bool true) (.int .i64 0) (.string s)
  clear hb7
  generalize (((w2.drewN nq).setCell ⟨w.heap.size + 1, 0, none⟩ (.bool true)).setCell ⟨w.heap.size + 1, 1, none⟩ (.int .i64 0)).setCell ⟨w.heap.size + 1, 2, none⟩ (.string s) = w7 at *
  have e0 : w7.cell? ⟨w.heap.size + 1, 0, none⟩ = some (.bool true) := HR7.cell 0
  have e1 : w7.cell? ⟨w.heap.size + 1, 1, none⟩ = some (.int .i64 0) := HR7.cell 1
  have e2 : w7.cell? ⟨w.heap.size + 1, 2, none⟩ = some (.string s) := HR7.cell 2
  refine bodyPost_ret (v := .agg #[.bool true, .int .i64 0, .string s]) (by simp [results, Tryz.results74, go_sem, e0, e1, e2]) rfl ?_
  exact ⟨rfl, HB7⟩
set_option maxRecDepth 100000 in
theorem rnorm_num (hz : s.size ≤ 281474976710656) (v : Int) (h : numericL s.data.toList = some v) (he : Lib.itoa v = s.data.toList) : Calls Tryz.prog 74 #[.agg #[.bool true, .int .i64 i, .string s]] w fun e w' => e = .returned (.agg #[.bool false, .int .i64 v, .string ⟨#[]⟩]) ∧ Below w.heap.size w w' := by
  have HB0 := Lib.hid (((Below.refl w.heap.size w).alloc (Nat.le_refl _) (.cells #[.bool true, .int .i64 i, .string s] 44)).alloc (by simp) (.cells #[.bool false, .int .i64 0, .string ⟨#[]⟩] 44))
  have HK := Lib.hid ((Blk.new w 44 #[.bool true, .int .i64 i, .string s]).alloc (.cells #[.bool false, .int .i64 0, .string ⟨#[]⟩] 44))
  have HR0 : Blk ((w.alloc (.cells #[.bool true, .int .i64 i, .string s] 44)).alloc (.cells #[.bool false, .int .i64 0, .string ⟨#[]⟩] 44)) (w.heap.size + 1) 44 #[.bool false, .int .i64 0, .string ⟨#[]⟩] := by
    have := Blk.new (w.alloc (.cells #[.bool true, .int .i64 i, .string s] 44)) 44 #[.bool false, .int .i64 0, .string ⟨#[]⟩]
    simpa using this
  have HR := Lib.hid HR0
  have HA := Lib.hid (fun w => numeric_ok s (by omega) v h w)
  have hbd := numericL_bounds h
  have HI := Lib.hid (fun w => rdigits_any v hbd.1 hbd.2 w)
  have hq : (Lib.itoa v == s.toList) = true := by
    rw [ByteArray.toList_eq]
    simpa using he
  clear HR0 h he hbd
  go_enter Tryz.func74, Tryz.ntmps74
  go_wp2_with fail
  generalize (w.alloc (.cells #[.bool true, .int .i64 i, .string s] 44)).alloc (.cells #[.bool false, .int .i64 0, .string ⟨#[]⟩] 44) = w2 at *
  refine (HA.out w2).mono ?_
  rintro e w3 ⟨rfl, rfl⟩
  have hb3 := Below.refl w2.heap.size w2
  have HB3 := Lib.hid (HB0.out.trans (hb3.mono HB0.out.size))
  have HK3 := Lib.hid (HK.out.keeps (Keeps.of_below (S := fun _ => False) hb3) id)
  have HR3 := Lib.hid (HR.out.keeps (Keeps.of_below (S := fun _ => False) hb3) id)
  have k0 : w2.cell? ⟨w.heap.size, 0, none⟩ = some (.bool true) := HK3.out.cell 0
  have k1 : w2.cell? ⟨w.heap.size, 1, none⟩ = some (.int .i64 i) := HK3.out.cell 1
  have k2 : w2.cell? ⟨w.heap.size, 2, none⟩ = some (.string s) := HK3.out.cell 2
  have r0 : w2.cell? ⟨w.heap.size + 1, 0, none⟩ = some (.bool false) := HR3.out.cell 0
  have r1 : w2.cell? ⟨w.heap.size + 1, 1, none⟩ = some (.int .i64 0) := HR3.out.cell 1
  have r2 : w2.cell? ⟨w.heap.size + 1, 2, none⟩ = some (.string ⟨#[]⟩) := HR3.out.cell 2
  have z0 := HR3.out.frozen 0
  have z1 := HR3.out.frozen 1
  have z2 := HR3.out.frozen 2
  clear hb3 HB0 HK HR HA
  go_wp2_with fail
  go_region_held3 (fun w' => w'.cell? ⟨w.heap.size, 2, none⟩ = some (.string s)) (first | exact k2 | exact k3)
    (first | (go_at_call 117; refine (HI.out w2.drew).mono ?_; rintro e w4 ⟨rfl, hb4⟩; have HB4 := Lib.hid (HB3.out.drew.trans (hb4.mono HB3.out.size)); have HK4 := Lib.hid ((HK3.out.drewN 1).keeps (Keeps.of_below (S := fun _ => False) hb4) id); have HR4 := Lib.hid ((HR3.out.drewN 1).keeps (Keeps.of_below (S := fun _ => False) hb4) id); have k3 := HK4.out.cell 2; have z3 := HR4.out.frozen 0; have z4 := HR4.out.frozen 1; have z5 := HR4.out.frozen 2; have r3 := HR4.out.cell 0; have r4 := HR4.out.cell 1; have r5 := HR4.out.cell 2; clear hb4))
  go_wp2_with fail
  have HB7 := Lib.hid (((HB4.out.setCell (p := ⟨w.heap.size + 1, 0, none⟩) (by simp) (.bool false)).setCell (p := ⟨w.heap.size + 1, 1, none⟩) (by simp) (.int .i64 v)).setCell (p := ⟨w.heap.size + 1, 2, none⟩) (by simp) (.string ⟨#[]⟩))
  have HR7 := Lib.hid (((HR4.out.set_ 0 (.bool false)).set_ 1 (.int .i64 v)).set_ 2 (.string ⟨#[]⟩))
  generalize ((w4.setCell ⟨w.heap.size + 1, 0, none⟩ (.bool false)).setCell ⟨w.heap.size + 1, 1, none⟩ (.int .i64 v)).setCell ⟨w.heap.size + 1, 2, none⟩ (.string ⟨#[]⟩) = w7 at *
  have e0 : w7.cell? ⟨w.heap.size + 1, 0, none⟩ = some (.bool false) := HR7.out.cell 0
  have e1 : w7.cell? ⟨w.heap.size + 1, 1, none⟩ = some (.int .i64 v) := HR7.out.cell 1
  have e2 : w7.cell? ⟨w.heap.size + 1, 2, none⟩ = some (.string ⟨#[]⟩) := HR7.out.cell 2
  refine bodyPost_ret (v := .agg #[.bool false, .int .i64 v, .string ⟨#[]⟩]) (by simp [results, Tryz.results74, go_sem, e0, e1, e2]) rfl ?_
  exact ⟨rfl, HB7.out⟩
set_option maxRecDepth 100000 in
theorem rnorm_text (hz : s.size ≤ 281474976710656) (v : Int) (h : numericL s.data.toList = some v) (he : ¬ Lib.itoa v = s.data.toList) : Calls Tryz.prog 74 #[.agg #[.bool true, .int .i64 i, .string s]] w fun e w' => e = .returned (.agg #[.bool true, .int .i64 0, .string s]) ∧ Below w.heap.size w w' := by
  have HB0 := Lib.hid (((Below.refl w.heap.size w).alloc (Nat.le_refl _) (.cells #[.bool true, .int .i64 i, .string s] 44)).alloc (by simp) (.cells #[.bool false, .int .i64 0, .string ⟨#[]⟩] 44))
  have HK := Lib.hid ((Blk.new w 44 #[.bool true, .int .i64 i, .string s]).alloc (.cells #[.bool false, .int .i64 0, .string ⟨#[]⟩] 44))
  have HR0 : Blk ((w.alloc (.cells #[.bool true, .int .i64 i, .string s] 44)).alloc (.cells #[.bool false, .int .i64 0, .string ⟨#[]⟩] 44)) (w.heap.size + 1) 44 #[.bool false, .int .i64 0, .string ⟨#[]⟩] := by
    have := Blk.new (w.alloc (.cells #[.bool true, .int .i64 i, .string s] 44)) 44 #[.bool false, .int .i64 0, .string ⟨#[]⟩]
    simpa using this
  have HR := Lib.hid HR0
  have HA := Lib.hid (fun w => numeric_ok s (by omega) v h w)
  have hbd := numericL_bounds h
  have HI := Lib.hid (fun w => rdigits_any v hbd.1 hbd.2 w)
  have hq : (Lib.itoa v == s.toList) = false := by
    rw [ByteArray.toList_eq]
    simpa using he
  clear HR0 h he hbd
  go_enter Tryz.func74, Tryz.ntmps74
  go_wp2_with fail
  generalize (w.alloc (.cells #[.bool true, .int .i64 i, .string s] 44)).alloc (.cells #[.bool false, .int .i64 0, .string ⟨#[]⟩] 44) = w2 at *
  refine (HA.out w2).mono ?_
  rintro e w3 ⟨rfl, rfl⟩
  have hb3 := Below.refl w2.heap.size w2
  have HB3 := Lib.hid (HB0.out.trans (hb3.mono HB0.out.size))
  have HK3 := Lib.hid (HK.out.keeps (Keeps.of_below (S := fun _ => False) hb3) id)
  have HR3 := Lib.hid (HR.out.keeps (Keeps.of_below (S := fun _ => False) hb3) id)
  have k0 : w2.cell? ⟨w.heap.size, 0, none⟩ = some (.bool true) := HK3.out.cell 0
  have k1 : w2.cell? ⟨w.heap.size, 1, none⟩ = some (.int .i64 i) := HK3.out.cell 1
  have k2 : w2.cell? ⟨w.heap.size, 2, none⟩ = some (.string s) := HK3.out.cell 2
  have r0 : w2.cell? ⟨w.heap.size + 1, 0, none⟩ = some (.bool false) := HR3.out.cell 0
  have r1 : w2.cell? ⟨w.heap.size + 1, 1, none⟩ = some (.int .i64 0) := HR3.out.cell 1
  have r2 : w2.cell? ⟨w.heap.size + 1, 2, none⟩ = some (.string ⟨#[]⟩) := HR3.out.cell 2
  have z0 := HR3.out.frozen 0
  have z1 := HR3.out.frozen 1
  have z2 := HR3.out.frozen 2
  clear hb3 HB0 HK HR HA
  go_wp2_with fail
  go_region_held3 (fun w' => w'.cell? ⟨w.heap.size, 2, none⟩ = some (.string s)) (first | exact k2 | exact k3)
    (first | (go_at_call 117; refine (HI.out w2.drew).mono ?_; rintro e w4 ⟨rfl, hb4⟩; have HB4 := Lib.hid (HB3.out.drew.trans (hb4.mono HB3.out.size)); have HK4 := Lib.hid ((HK3.out.drewN 1).keeps (Keeps.of_below (S := fun _ => False) hb4) id); have HR4 := Lib.hid ((HR3.out.drewN 1).keeps (Keeps.of_below (S := fun _ => False) hb4) id); have k3 := HK4.out.cell 2; have z3 := HR4.out.frozen 0; have z4 := HR4.out.frozen 1; have z5 := HR4.out.frozen 2; have r3 := HR4.out.cell 0; have r4 := HR4.out.cell 1; have r5 := HR4.out.cell 2; clear hb4))
  go_wp2_with fail
  have HB7 := Lib.hid (((HB4.out.setCell (p := ⟨w.heap.size + 1, 0, none⟩) (by simp) (.bool true)).setCell (p := ⟨w.heap.size + 1, 1, none⟩) (by simp) (.int .i64 0)).setCell (p := ⟨w.heap.size + 1, 2, none⟩) (by simp) (.string s))
  have HR7 := Lib.hid (((HR4.out.set_ 0 (.bool true)).set_ 1 (.int .i64 0)).set_ 2 (.string s))
  generalize ((w4.setCell ⟨w.heap.size + 1, 0, none⟩ (.bool true)).setCell ⟨w.heap.size + 1, 1, none⟩ (.int .i64 0)).setCell ⟨w.heap.size + 1, 2, none⟩ (.string s) = w7 at *
  have e0 : w7.cell? ⟨w.heap.size + 1, 0, none⟩ = some (.bool true) := HR7.out.cell 0
  have e1 : w7.cell? ⟨w.heap.size + 1, 1, none⟩ = some (.int .i64 0) := HR7.out.cell 1
  have e2 : w7.cell? ⟨w.heap.size + 1, 2, none⟩ = some (.string s) := HR7.out.cell 2
  refine bodyPost_ret (v := .agg #[.bool true, .int .i64 0, .string s]) (by simp [results, Tryz.results74, go_sem, e0, e1, e2]) rfl ?_
  exact ⟨rfl, HB7.out⟩
theorem normG_of (b : Bool) (i : Int) (s : ByteArray) : normG b i s = ((normR b i s.data.toList).1, (normR b i s.data.toList).2.1, ⟨(normR b i s.data.toList).2.2.toArray⟩) := by
  rw [norm_eq]
  unfold normG normK
  cases b
  · rfl
  · simp only [if_true]
    split
    · rename_i n hn
      split <;> simp_all
    · simp_all
theorem rnorm_any (b : Bool) (hz : s.size ≤ 281474976710656) : Calls Tryz.prog 74 #[.agg #[.bool b, .int .i64 i, .string s]] w fun e w' => e = .returned (keyV (normG b i s)) ∧ Below w.heap.size w w' := by
  rw [normG_of]
  cases b with
  | false => exact rnorm_int i s w
  | true =>
    unfold normR
    rw [if_pos rfl]
    cases h : numericL s.data.toList with
    | some v =>
      by_cases he : Lib.itoa v = s.data.toList
      · simp only [if_pos he]
        exact rnorm_num i s w hz v h he
      · simp only [if_neg he]
        exact rnorm_text i s w hz v h he
    | none => exact rnorm_no i s w hz h
end
end Nm
end Go.Proofs.YtgjnmfjiolpikaaGreatDoor
