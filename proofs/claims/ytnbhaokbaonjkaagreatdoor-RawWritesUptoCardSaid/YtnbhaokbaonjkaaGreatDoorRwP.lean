/- raw: the reader's body, and Parse: the walks. -/
import Derived.Test.YtnbhaokbaonjkaaGreatDoorRwH
import Derived.Sort.Grow
namespace Go.Proofs.YtnbhaokbaonjkaaGreatDoor
open Go Go.RowKit
namespace Rw
theorem grow_below (w : World) (q : Nat) (os : Array Obj) : Below w.heap.size w (Sort.grow (w.drewN q) os) :=
  ⟨rfl, rfl, rfl, by first | (simp [Sort.grow]; done) | (simp [Sort.grow]; omega), fun i hi => by
    show ((w.drewN q).heap ++ os)[i]? = _
    rw [Array.getElem?_append_left (by show i < w.heap.size; omega)]
    rfl⟩
theorem itoaX (n : Nat) (hn : n ≤ 1000000) (w : World) (hp : Lib.TabIs Tryz.prog w "internal/strconv.uint64pow10" .u64 Lib.pow10Tab) : Calls Tryz.prog 71 #[.int .i64 (n : Int)] w fun e w' => e = .returned (.string (bytes (Lib.itoa n))) ∧ Below w.heap.size w w' := by
  refine (Tryz.strconv_Itoa (n : Int) (by omega) (by omega) w hp).mono ?_
  rintro e w' ⟨rfl, k, os, rfl⟩
  exact ⟨rfl, grow_below w k os⟩
section
variable (s m p y b : ByteArray) (why fat : Int) (g base : Nat)
theorem list_beq (x y : Bytes) : ((bytes x).toList == (bytes y).toList) = decide (x = y) := by
  rw [Lib.toList_data, Lib.toList_data, bytes_list, bytes_list, Bool.eq_iff_iff]
  simp
set_option maxRecDepth 100000 in
set_option maxHeartbeats 4000000 in
theorem body_any (a : Nat) (many : ByteArray) (v : Value) (ln : Int) (lno : Option (Nat × Bytes)) (hl : List (Bytes × Bytes)) (w : World) (h : HS s base w g a m p y v b why fat ln many hl) (hln : LnIs ln many lno) (hs : s.size ≤ 1000000) (ha : a ≤ s.size) (_hbw : base ≤ w.heap.size) (hp : ∀ w', KB base g w w' → Lib.TabIs Tryz.prog w' "internal/strconv.uint64pow10" .u64 Lib.pow10Tab) :
    Calls Tryz.prog 35 #[.pointer (some ⟨g, 0, none⟩)] w fun e w' => KB base g w w' ∧ ((lenOk lno (s.data.toList.drop a) = true ∧ e = .returned (.bool true) ∧ HS s base w' g a m p y v (bytes (s.data.toList.drop a)) why fat ln many hl) ∨
      (lenOk lno (s.data.toList.drop a) = false ∧ e = .returned (.bool false) ∧ ∃ why' fat', why' ≠ 0 ∧ HS s base w' g a m p y v (bytes (s.data.toList.drop a)) why' fat' ln many hl)) := by
  have HH := Lib.hid h
  have hx := (extract_piece s a s.size).trans (congrArg bytes (piece_end s a))
  have hq0 : (0 : Int) ≤ (a : Int) := by omega
  have hq1 : (a : Int) ≤ (s.size : Int) := by omega
  have c0 : w.cell? ⟨g, 0, none⟩ = some (.string s) := h.rd.cell 0
  have c1 : w.cell? ⟨g, 1, none⟩ = some (.int .i64 (a : Int)) := h.rd.cell 1
  have c6 : w.cell? ⟨g, 6, none⟩ = some (.string b) := h.rd.cell 6
  have z6 := h.rd.frozen 6
  clear h
  go_enter Tryz.func35, Tryz.ntmps35
  go_wp2_with fail
  go_region_law (fail)
  all_goals
    have HR1 := Lib.hid ((HH.out.rd.set_ 6 (.string (bytes (s.data.toList.drop a)))).drew)
    have HK1 := Lib.hid (((Keeps.refl (· = g) w).setCell (p := ⟨g, 6, none⟩) (.inl rfl) (.string (bytes (s.data.toList.drop a)))).drew)
    have HH1 := Lib.hid (HH.out.step HK1.out HR1.out)
    have HB1 := Lib.hid (HK1.out.mono (S' := fun i => i = g ∨ base ≤ i) (fun i _ hi => .inl hi))
    have HN : Hid ((s.data.toList.drop a).length ≤ 1000000) := by
      show _ ≤ _
      rw [List.length_drop, ← Lib.size_eq]; omega
    obtain ⟨X, HX⟩ : ∃ X, Hid (bytes (s.data.toList.drop a) = X) := ⟨_, rfl⟩
    have hXs : X.size = (s.data.toList.drop a).length := by rw [← HX.out, bytes_size]
    rw [HX.out] at HH1 HB1 ⊢
    clear HR1 HK1
    generalize (w.setCell ⟨g, 6, none⟩ (.string X)).drew = w1 at *
    clear c0 c1 c6 z6 hx hq0 hq1
    have c9 : w1.cell? ⟨g, 9, none⟩ = some (.int .i64 ln) := HH1.out.rd.cell 9
    cases lno with
    | none =>
      have hl1 : ln = -1 := hln
      subst hl1
      go_wp2_with fail
      go_quiet (fail)
      go_wp2_with fail
      go_ret
      exact ⟨HB1.out.drewN _, .inl ⟨rfl, rfl, by rw [HX.out]; exact HH1.out.drewN _⟩⟩
    | some fx =>
      obtain ⟨f0, x0⟩ := fx
      obtain ⟨hl1, hmy⟩ := hln
      subst hl1 hmy
      have hf0 : (0 : Int) ≤ (f0 : Int) := by omega
      have c10 : w1.cell? ⟨g, 10, none⟩ = some (.string (bytes x0)) := HH1.out.rd.cell 10
      have c6 : w1.cell? ⟨g, 6, none⟩ = some (.string X) := HH1.out.rd.cell 6
      have HIt := Lib.hid (fun w' hb => itoaX (s.data.toList.drop a).length HN.out w' (hp w' hb))
      rw [← hXs] at HIt
      have HXs := Lib.hid hXs
      clear hXs
      go_wp2_with fail
      go_region_held3 (fun w' => w'.cell? ⟨g, 10, none⟩ = some (.string (bytes x0)) ∧ w'.cell? ⟨g, 6, none⟩ = some (.string X) ∧ w'.cell? ⟨g, 9, none⟩ = some (.int .i64 (f0 : Int))) (first | exact ⟨c10, c6, c9⟩ | exact ⟨d10, d6, d9⟩)
        (first
          | (go_at_call 71; refine (HIt.out w1.drew HB1.out.drew).mono ?_; rintro e w2 ⟨rfl, hb2⟩; have HB2 := Lib.hid hb2; have d10 := (hb2.cell (p := ⟨g, 10, none⟩) HH1.out.rd.lt).trans c10; have d6 := (hb2.cell (p := ⟨g, 6, none⟩) HH1.out.rd.lt).trans c6; have d9 := (hb2.cell (p := ⟨g, 9, none⟩) HH1.out.rd.lt).trans c9; clear hb2))
      have HB3 : Hid (KB base g w w2) := HB1.out.trans (Keeps.of_below (show Below w1.heap.size w1 w2 from ⟨HB2.out.os, HB2.out.tape, HB2.out.output, HB2.out.size, HB2.out.block⟩))
      have HH2 := Lib.hid (HH1.out.below (show Below w1.heap.size w1 w2 from ⟨HB2.out.os, HB2.out.tape, HB2.out.output, HB2.out.size, HB2.out.block⟩))
      have HOk : Hid (lenOk (some (f0, x0)) (s.data.toList.drop a) = ((bytes x0).toList == (bytes (Lib.itoa (X.size : Int))).toList)) := by
        show _ = _
        rw [list_beq, HXs.out]
        rfl
      have e7 : w2.cell? ⟨g, 7, none⟩ = some (.int .i64 why) := HH2.out.rd.cell 7
      have e8 : w2.cell? ⟨g, 8, none⟩ = some (.int .i64 fat) := HH2.out.rd.cell 8
      have z7 := HH2.out.rd.frozen 7
      have z8 := HH2.out.rd.frozen 8
      clear HB2 d10 d6 c10 c6 c9
      cases hcmp : ((bytes x0).toList == (bytes (Lib.itoa (X.size : Int))).toList) with
      | true =>
        go_wp2_with fail
        go_ret
        exact ⟨HB3.out, .inl ⟨HOk.out.trans hcmp, rfl, by rw [HX.out]; exact HH2.out⟩⟩
      | false =>
        go_wp2_with fail
        go_ret
        have hk4 : Keeps (· = g) w2 ((w2.setCell ⟨g, 7, none⟩ (.int .i64 11)).setCell ⟨g, 8, none⟩ (.int .i64 (f0 : Int))) := ((Keeps.refl (· = g) w2).setCell (p := ⟨g, 7, none⟩) (.inl rfl) (.int .i64 11)).setCell (p := ⟨g, 8, none⟩) (.inl rfl) (.int .i64 (f0 : Int))
        exact ⟨HB3.out.trans (hk4.mono (S' := fun i => i = g ∨ base ≤ i) (fun i _ hi => .inl hi)), .inr ⟨HOk.out.trans hcmp, rfl, _, _, (by decide : (11 : Int) ≠ 0), by rw [HX.out]; exact HH2.out.step hk4 ((HH2.out.rd.set_ 7 (.int .i64 11)).set_ 8 (.int .i64 (f0 : Int)))⟩⟩
end
end Rw
end Go.Proofs.YtnbhaokbaonjkaaGreatDoor
