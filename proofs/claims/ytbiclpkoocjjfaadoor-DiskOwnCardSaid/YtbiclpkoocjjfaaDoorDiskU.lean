/- The reference's disk: the contracts of Write, Remove, Fault, Read. -/
import Derived.Test.YtbiclpkoocjjfaaDoorDiskT
import Derived.Deep.QuietTactic
import Derived.BigQuiet
namespace Go.Proofs.YtbiclpkoocjjfaaDoor
open Go.RowKit

theorem Moves.trans_below {w w1 : World} {v v' : Value} (hb : Below w.heap.size w w1) (h : Moves w1 v v') : Moves w v v' := h.imp id (fun ⟨g, hg, hl⟩ => ⟨g, hg, Nat.le_trans hb.size hl⟩)

theorem Moves.may {w : World} {v : Value} {g n c b : Nat} (h : Moves w v (.slice (some ⟨g, 0, none⟩) n c)) : ROwn b v g ∨ w.heap.size ≤ g := by
  rcases h with h | ⟨g', h, hl⟩
  · exact .inl (.inr h.symm)
  · obtain rfl : g = g' := by simpa [Value.ownBlock] using h
    exact .inr hl

section
variable (b base : Nat) (v : Value) (L : List Ent) (W R : Int) (p : ByteArray) (w : World) (h : RefAt w b base v L W R) (hp : p.size ≤ maxLen) (hbase : base ≤ w.heap.size) (hn : (L.length + 1) * 48 ≤ 140737488355328)
include h hp hbase hn

/-! ### Fault -/
set_option maxRecDepth 100000 in
theorem rfault_any (x : Int) : Calls Tryd.prog 31 #[.pointer (some ⟨b, 0, none⟩), .string p, .int .i64 x] w (RPost w b base v (rfaultL L p x) W R (.int .i64 (faultI p x))) := by
  have HR := Lib.hid h
  have HP := Lib.hid (rpath_any p hp w)
  clear h
  cases hb : pathB p with
  | false =>
    have e1 : faultI p x = 1 := faultI_bad hb
    have e2 : rfaultL L p x = L := if_neg (by rw [e1]; decide)
    rw [e1, e2]
    rw [hb] at HP
    go_enter Tryd.func31, Tryd.ntmps31
    go_wp2_with (go_at_call 20; refine HP.out.mono ?_; rintro e w1 ⟨rfl, hb1⟩)
    go_ret
    exact ⟨rfl, v, HR.out.below hb1, Keeps.of_below hb1, .inl rfl⟩
  | true =>
    rw [hb] at HP
    by_cases hx : x < 0
    · have e1 : faultI p x = 1 := by unfold faultI; rw [if_neg (by rw [hb]; decide), if_pos hx]
      have e2 : rfaultL L p x = L := if_neg (by rw [e1]; decide)
      rw [e1, e2]
      go_enter Tryd.func31, Tryd.ntmps31
      go_wp2_with (go_at_call 20; refine HP.out.mono ?_; rintro e w1 ⟨rfl, hb1⟩)
      go_ret
      exact ⟨rfl, v, HR.out.below hb1, Keeps.of_below hb1, .inl rfl⟩
    · have e1 : faultI p x = 0 := faultI_ok hb (by omega)
      have e2 : rfaultL L p x = (atL L p).set (findE L p) { entOf L p with faults := x } := if_pos e1
      rw [e1, e2]
      clear hb e1 e2
      have hx' : 0 ≤ x := by omega
      go_enter Tryd.func31, Tryd.ntmps31
      go_wp2_with (go_at_call 20; refine HP.out.mono ?_; rintro e w1 ⟨rfl, hb1⟩)
      refine (at_any b base v L W R p w1 (HR.out.below hb1) (Nat.le_trans hbase hb1.size) hn).mono ?_
      rintro e w2 hat
      obtain ⟨g, cap, rfl, hr2, hk2, hm2, q1, q2, q3, q4, hne⟩ := at_cells hat
      have q4' := q4 (findE L p * 4 + 3)
      have HF : Hid (RPost w b base v ((atL L p).set (findE L p) { entOf L p with faults := x }) W R (.int .i64 0) (.returned (.int .i64 0)) (w2.setCell ⟨g, findE L p * 4 + 3, none⟩ (.int .i64 x))) :=
        ⟨rfl, _, hr2.field (findE L p) 3 (by decide) (find_lt L p) { entOf L p with faults := x } _ rfl,
          (Keeps.of_below hb1).trans (hk2.setCell (p := ⟨g, findE L p * 4 + 3, none⟩) hm2.may _), hm2.trans_below hb1⟩
      clear hat hr2 hk2 hm2 q1 q2 q4 hne
      generalize findE L p = k at *
      go_wp2
      go_ret
      exact HF.out

/-! ### Remove -/
set_option maxRecDepth 100000 in
theorem rremove_any : Calls Tryd.prog 30 #[.pointer (some ⟨b, 0, none⟩), .string p] w (RPost w b base v (rremoveL L p) W R (.int .i64 (rremoveI L p))) := by
  have HR := Lib.hid h
  have HP := Lib.hid (rpath_any p hp w)
  clear h
  cases hb : pathB p with
  | false =>
    have e1 : rremoveI L p = 1 := if_pos hb
    have e2 : rremoveL L p = L := if_pos hb
    rw [e1, e2]
    rw [hb] at HP
    go_enter Tryd.func30, Tryd.ntmps30
    go_wp2_with (go_at_call 20; refine HP.out.mono ?_; rintro e w1 ⟨rfl, hb1⟩)
    go_ret
    exact ⟨rfl, v, HR.out.below hb1, Keeps.of_below hb1, .inl rfl⟩
  | true =>
    rw [hb] at HP
    have hb' : ¬ pathB p = false := by rw [hb]; decide
    by_cases hx : (entOf L p).stamp = 0
    · have e1 : rremoveI L p = 6 := by unfold rremoveI; rw [if_neg hb', if_pos hx]
      have e2 : rremoveL L p = atL L p := by unfold rremoveL; rw [if_neg hb', if_pos hx]
      rw [e1, e2]
      clear hb hb' e1 e2
      go_enter Tryd.func30, Tryd.ntmps30
      go_wp2_with (go_at_call 20; refine HP.out.mono ?_; rintro e w1 ⟨rfl, hb1⟩)
      refine (at_any b base v L W R p w1 (HR.out.below hb1) (Nat.le_trans hbase hb1.size) hn).mono ?_
      rintro e w2 hat
      obtain ⟨g, cap, rfl, hr2, hk2, hm2, q1, q2, q3, q4, hne⟩ := at_cells hat
      rw [hx] at q2
      have HF : Hid (RPost w b base v (atL L p) W R (.int .i64 6) (.returned (.int .i64 6)) w2) := ⟨rfl, _, hr2, (Keeps.of_below hb1).trans hk2, hm2.trans_below hb1⟩
      clear hat hr2 hk2 hm2 q1 q3 q4 hne hx
      generalize findE L p = k at *
      go_wp2
      go_ret
      exact HF.out
    · have e1 : rremoveI L p = 0 := by unfold rremoveI; rw [if_neg hb', if_neg hx]
      have e2 : rremoveL L p = (atL L p).set (findE L p) { entOf L p with text := ⟨#[]⟩, stamp := 0 } := by unfold rremoveL; rw [if_neg hb', if_neg hx]
      rw [e1, e2]
      clear hb hb' e1 e2
      go_enter Tryd.func30, Tryd.ntmps30
      go_wp2_with (go_at_call 20; refine HP.out.mono ?_; rintro e w1 ⟨rfl, hb1⟩)
      refine (at_any b base v L W R p w1 (HR.out.below hb1) (Nat.le_trans hbase hb1.size) hn).mono ?_
      rintro e w2 hat
      obtain ⟨g, cap, rfl, hr2, hk2, hm2, q1, q2, q3, q4, hne⟩ := at_cells hat
      have f1 := q4 (findE L p * 4 + 1)
      have f2 := q4 (findE L p * 4 + 2)
      have r1 := hr2.field (findE L p) 1 (by decide) (find_lt L p) { entOf L p with text := ⟨#[]⟩ } (.string ⟨#[]⟩) rfl
      have r2 := r1.field (findE L p) 2 (by decide) (by rw [List.length_set]; exact find_lt L p) { entOf L p with text := ⟨#[]⟩, stamp := 0 } (.int .i64 0) (by rw [List.getD_eq_getElem?_getD, List.getElem?_set_self (find_lt L p)]; rfl)
      rw [List.set_set] at r2
      have HF : Hid (RPost w b base v ((atL L p).set (findE L p) { entOf L p with text := ⟨#[]⟩, stamp := 0 }) W R (.int .i64 0) (.returned (.int .i64 0)) ((w2.setCell ⟨g, findE L p * 4 + 1, none⟩ (.string ⟨#[]⟩)).setCell ⟨g, findE L p * 4 + 2, none⟩ (.int .i64 0))) :=
        ⟨rfl, _, r2, (Keeps.of_below hb1).trans ((hk2.setCell (p := ⟨g, findE L p * 4 + 1, none⟩) hm2.may _).setCell (p := ⟨g, findE L p * 4 + 2, none⟩) hm2.may _), hm2.trans_below hb1⟩
      clear hat hr2 hk2 hm2 q3 q4 hne r1 r2
      have hx' : ((entOf L p).stamp == 0) = false := by simpa using hx
      clear hx
      generalize findE L p = k at *
      generalize (entOf L p).stamp = st at *
      go_wp2
      go_ret
      exact HF.out

/-! ### Read -/
set_option maxRecDepth 100000 in
set_option maxHeartbeats 400000 in
theorem rread_any (hR0 : 0 ≤ R) (hR : R ≤ 4611686018427387904) (hfl : (entOf L p).faults ≤ 9223372036854775807) :
    Calls Tryd.prog 32 #[.pointer (some ⟨b, 0, none⟩), .string p] w (RPost w b base v (rreadL L p) W (readK p R) (.tuple #[.string (rreadS L p), .int .i64 (rreadN L p), .int .i64 (rreadI L p)])) := by
  have HR := Lib.hid h
  have HP := Lib.hid (rpath_any p hp w)
  clear h
  unfold rreadS rreadN readK
  cases hb : pathB p with
  | false =>
    have e1 : rreadI L p = 1 := if_pos hb
    have e2 : rreadL L p = L := if_pos hb
    rw [e1, e2, if_pos rfl]
    rw [hb] at HP
    go_enter Tryd.func32, Tryd.ntmps32
    go_wp2_with (go_at_call 20; refine HP.out.mono ?_; rintro e w1 ⟨rfl, hb1⟩)
    go_ret3
    exact ⟨rfl, v, HR.out.below hb1, Keeps.of_below hb1, .inl rfl⟩
  | true =>
    rw [hb] at HP
    have hb' : ¬ pathB p = false := by rw [hb]; decide
    rw [if_neg (by decide)]
    by_cases hf : 0 < (entOf L p).faults
    · have e1 : rreadI L p = 18 := by unfold rreadI; rw [if_neg hb', if_pos hf]
      have e2 : rreadL L p = (atL L p).set (findE L p) { entOf L p with faults := (entOf L p).faults - 1 } := by unfold rreadL; rw [if_neg hb', if_pos hf]
      rw [e1, e2]
      clear hb hb' e1 e2
      go_enter Tryd.func32, Tryd.ntmps32
      go_wp2_with (go_at_call 20; refine HP.out.mono ?_; rintro e w1 ⟨rfl, hb1⟩; have d2 : w1.cell? ⟨b, 2, none⟩ = some (.int .i64 R) := (HR.out.below hb1).blk.cell 2; have f2 := (HR.out.below hb1).blk.frozen 2)
      refine (at_any b base v L W (R + 1) p _ ((HR.out.below hb1).reads (R + 1)) (Nat.le_trans hbase (by simpa [World.setCell] using hb1.size)) hn).mono ?_
      rintro e w2 hat
      obtain ⟨g, cap, rfl, hr2, hk2, hm2, q1, q2, q3, q4, hne⟩ := at_cells hat
      have f3 := q4 (findE L p * 4 + 3)
      have hs : w.heap.size ≤ (w1.setCell ⟨b, 2, none⟩ (.int .i64 (R + 1))).heap.size := by simpa [World.setCell] using hb1.size
      have HF : Hid (RPost w b base v ((atL L p).set (findE L p) { entOf L p with faults := (entOf L p).faults - 1 }) W (R + 1) (.tuple #[.string ⟨#[]⟩, .int .i64 0, .int .i64 18]) (.returned (.tuple #[.string ⟨#[]⟩, .int .i64 0, .int .i64 18])) (w2.setCell ⟨g, findE L p * 4 + 3, none⟩ (.int .i64 ((entOf L p).faults - 1)))) :=
        ⟨rfl, _, hr2.field (findE L p) 3 (by decide) (find_lt L p) { entOf L p with faults := (entOf L p).faults - 1 } _ rfl,
          ((Keeps.of_below hb1).setCell (p := ⟨b, 2, none⟩) (.inl (.inl rfl)) _).trans (hk2.setCell (p := ⟨g, findE L p * 4 + 3, none⟩) hm2.may _), hm2.imp id (fun ⟨g', h1, h2⟩ => ⟨g', h1, Nat.le_trans hs h2⟩)⟩
      clear hat hr2 hk2 hm2 q1 q2 q4 hne d2 f2 hs
      generalize findE L p = k at *
      generalize (entOf L p).faults = fl at *
      go_wp2
      go_ret3
      exact HF.out
    · have hf' : (entOf L p).faults ≤ 0 := by omega
      have e2 : rreadL L p = atL L p := by unfold rreadL; rw [if_neg hb', if_neg hf]
      rw [e2]
      by_cases hx : (entOf L p).stamp = 0
      · have e1 : rreadI L p = 6 := by unfold rreadI; rw [if_neg hb', if_neg hf, if_pos hx]
        rw [e1]
        clear hb hb' e1 e2 hf
        go_enter Tryd.func32, Tryd.ntmps32
        go_wp2_with (go_at_call 20; refine HP.out.mono ?_; rintro e w1 ⟨rfl, hb1⟩; have d2 : w1.cell? ⟨b, 2, none⟩ = some (.int .i64 R) := (HR.out.below hb1).blk.cell 2; have f2 := (HR.out.below hb1).blk.frozen 2)
        refine (at_any b base v L W (R + 1) p _ ((HR.out.below hb1).reads (R + 1)) (Nat.le_trans hbase (by simpa [World.setCell] using hb1.size)) hn).mono ?_
        rintro e w2 hat
        obtain ⟨g, cap, rfl, hr2, hk2, hm2, q1, q2, q3, q4, hne⟩ := at_cells hat
        rw [hx] at q2
        have hs : w.heap.size ≤ (w1.setCell ⟨b, 2, none⟩ (.int .i64 (R + 1))).heap.size := by simpa [World.setCell] using hb1.size
        have HF : Hid (RPost w b base v (atL L p) W (R + 1) (.tuple #[.string ⟨#[]⟩, .int .i64 0, .int .i64 6]) (.returned (.tuple #[.string ⟨#[]⟩, .int .i64 0, .int .i64 6])) w2) :=
          ⟨rfl, _, hr2, ((Keeps.of_below hb1).setCell (p := ⟨b, 2, none⟩) (.inl (.inl rfl)) _).trans hk2, hm2.imp id (fun ⟨g', h1, h2⟩ => ⟨g', h1, Nat.le_trans hs h2⟩)⟩
        clear hat hr2 hk2 hm2 q1 q4 hne d2 f2 hs hx
        generalize findE L p = k at *
        generalize (entOf L p).faults = fl at *
        go_wp2
        go_ret3
        exact HF.out
      · have e1 : rreadI L p = 0 := by unfold rreadI; rw [if_neg hb', if_neg hf, if_neg hx]
        rw [e1]
        clear hb hb' e1 e2 hf
        go_enter Tryd.func32, Tryd.ntmps32
        go_wp2_with (go_at_call 20; refine HP.out.mono ?_; rintro e w1 ⟨rfl, hb1⟩; have d2 : w1.cell? ⟨b, 2, none⟩ = some (.int .i64 R) := (HR.out.below hb1).blk.cell 2; have f2 := (HR.out.below hb1).blk.frozen 2)
        refine (at_any b base v L W (R + 1) p _ ((HR.out.below hb1).reads (R + 1)) (Nat.le_trans hbase (by simpa [World.setCell] using hb1.size)) hn).mono ?_
        rintro e w2 hat
        obtain ⟨g, cap, rfl, hr2, hk2, hm2, q1, q2, q3, q4, hne⟩ := at_cells hat
        have hs : w.heap.size ≤ (w1.setCell ⟨b, 2, none⟩ (.int .i64 (R + 1))).heap.size := by simpa [World.setCell] using hb1.size
        have HF : ∀ n, Hid (RPost w b base v (atL L p) W (R + 1) (.tuple #[.string (entOf L p).text, .int .i64 (entOf L p).stamp, .int .i64 0]) (.returned (.tuple #[.string (entOf L p).text, .int .i64 (entOf L p).stamp, .int .i64 0])) (w2.drewN n)) := fun n =>
          ⟨rfl, _, hr2.drewN n, (((Keeps.of_below hb1).setCell (p := ⟨b, 2, none⟩) (.inl (.inl rfl)) _).trans hk2).drewN n, hm2.imp id (fun ⟨g', h1, h2⟩ => ⟨g', h1, Nat.le_trans hs h2⟩)⟩
        clear hat hr2 hk2 hm2 q4 hne d2 f2 hs
        have hx' : ((entOf L p).stamp == 0) = false := by simpa using hx
        clear hx
        generalize findE L p = k at *
        generalize (entOf L p).faults = fl at *
        generalize (entOf L p).stamp = st at *
        generalize (entOf L p).text = tx at *
        have HF2 := Lib.hid HF; clear HF
        go_wp2
        go_quiet (fail)
        go_wp2
        go_ret3
        exact (HF2.out _).out

/-! ### Write -/
set_option maxRecDepth 100000 in
set_option maxHeartbeats 400000 in
theorem rwrite_any (x : ByteArray) (hx0 : x.size ≤ maxLen) (hW0 : 0 ≤ W) (hW : W ≤ 4611686018427387904) :
    Calls Tryd.prog 29 #[.pointer (some ⟨b, 0, none⟩), .string p, .string x] w (RPost w b base v (rwriteL L p x W) (rwriteW L p x W) R (.int .i64 (rwriteI L p x))) := by
  have HR := Lib.hid h
  have HP := Lib.hid (rpath_any p hp w)
  clear h
  unfold rwriteL rwriteW
  cases hb : pathB p with
  | false =>
    have e1 : rwriteI L p x = 1 := if_pos hb
    rw [e1, if_pos rfl, if_neg (by decide)]
    rw [hb] at HP
    go_enter Tryd.func29, Tryd.ntmps29
    go_wp2_with (go_at_call 20; refine HP.out.mono ?_; rintro e w1 ⟨rfl, hb1⟩)
    go_ret
    exact ⟨rfl, v, HR.out.below hb1, Keeps.of_below hb1, .inl rfl⟩
  | true =>
    rw [hb] at HP
    have hb' : ¬ pathB p = false := by rw [hb]; decide
    rw [if_neg (by decide)]
    by_cases hl : 65536 < x.size
    · have e1 : rwriteI L p x = 2 := by unfold rwriteI; rw [if_neg hb', if_pos hl]
      rw [e1, if_pos hl, if_neg (by decide)]
      have hl' : (65536 : Int) < x.size := by omega
      go_enter Tryd.func29, Tryd.ntmps29
      go_wp2_with (go_at_call 20; refine HP.out.mono ?_; rintro e w1 ⟨rfl, hb1⟩)
      go_ret
      exact ⟨rfl, v, HR.out.below hb1, Keeps.of_below hb1, .inl rfl⟩
    · rw [if_neg hl]
      have hl' : (x.size : Int) ≤ 65536 := by omega
      have hal := atL_len L p
      by_cases hs : (entOf L p).stamp = 0
      · by_cases hm : 256 ≤ manyL (atL L p)
        · have e1 : rwriteI L p x = 3 := by unfold rwriteI; rw [if_neg hb', if_neg hl, if_pos ⟨hs, hm⟩]
          rw [e1, if_neg (by decide), if_neg (by decide)]
          clear hb hb' e1
          go_enter Tryd.func29, Tryd.ntmps29
          go_wp2_with (go_at_call 20; refine HP.out.mono ?_; rintro e w1 ⟨rfl, hb1⟩)
          refine (at_any b base v L W R p w1 (HR.out.below hb1) (Nat.le_trans hbase hb1.size) hn).mono ?_
          rintro e w2 hat
          obtain ⟨g, cap, rfl, hr2, hk2, hm2, q1, q2, q3, q4, hne⟩ := at_cells hat
          have Hr2 := Lib.hid hr2
          rw [hs] at q2
          have HF : Hid (RPost w b base v (atL L p) W R (.int .i64 3) (.returned (.int .i64 3)) w2) := ⟨rfl, _, hr2, (Keeps.of_below hb1).trans hk2, hm2.trans_below hb1⟩
          have hm' : (256 : Int) ≤ (manyL (atL L p) : Int) := by omega
          have HL : Hid ((atL L p).length ≤ 4398046511104) := by show _ ≤ _; omega
          clear hat hr2 hk2 hm2 q1 q3 q4 hne hs hm hal
          generalize findE L p = k at *
          generalize atL L p = L2 at *
          go_wp2_with (go_at_call 47; refine (many_any b base _ L2 W R _ Hr2.out HL.out).mono ?_; rintro e w3 ⟨rfl, rfl⟩)
          go_ret
          exact HF.out
        · have e1 : rwriteI L p x = 0 := by unfold rwriteI; rw [if_neg hb', if_neg hl, if_neg (fun h => hm h.2)]
          rw [e1, if_pos rfl, if_pos rfl]
          clear hb hb' e1
          go_enter Tryd.func29, Tryd.ntmps29
          go_wp2_with (go_at_call 20; refine HP.out.mono ?_; rintro e w1 ⟨rfl, hb1⟩)
          refine (at_any b base v L W R p w1 (HR.out.below hb1) (Nat.le_trans hbase hb1.size) hn).mono ?_
          rintro e w2 hat
          obtain ⟨g, cap, rfl, hr2, hk2, hm2, q1, q2, q3, q4, hne⟩ := at_cells hat
          have d1 : w2.cell? ⟨b, 1, none⟩ = some (.int .i64 W) := hr2.blk.cell 1
          have fb := hr2.blk.frozen 1
          have f1 := q4 (findE L p * 4 + 1)
          have f2 := q4 (findE L p * 4 + 2)
          have r0 := hr2.writes (W + 1)
          have r1 := r0.field (findE L p) 1 (by decide) (find_lt L p) { entOf L p with text := x } (.string x) rfl
          have r2 := r1.field (findE L p) 2 (by decide) (by rw [List.length_set]; exact find_lt L p) { entOf L p with text := x, stamp := W + 1 } (.int .i64 (W + 1)) (by rw [List.getD_eq_getElem?_getD, List.getElem?_set_self (find_lt L p)]; rfl)
          rw [List.set_set] at r2
          have HF : Hid (RPost w b base v ((atL L p).set (findE L p) { entOf L p with text := x, stamp := W + 1 }) (W + 1) R (.int .i64 0) (.returned (.int .i64 0)) (((w2.setCell ⟨b, 1, none⟩ (.int .i64 (W + 1))).setCell ⟨g, findE L p * 4 + 1, none⟩ (.string x)).setCell ⟨g, findE L p * 4 + 2, none⟩ (.int .i64 (W + 1)))) :=
            ⟨rfl, _, r2, (Keeps.of_below hb1).trans (((hk2.setCell (p := ⟨b, 1, none⟩) (.inl (.inl rfl)) _).setCell (p := ⟨g, findE L p * 4 + 1, none⟩) hm2.may _).setCell (p := ⟨g, findE L p * 4 + 2, none⟩) hm2.may _), hm2.trans_below hb1⟩
          have Hr2 := Lib.hid hr2
          rw [hs] at q2
          have hm' : (manyL (atL L p) : Int) < 256 := by omega
          have HL : Hid ((atL L p).length ≤ 4398046511104) := by show _ ≤ _; omega
          have hne' : ¬ b = g := fun e => hne e.symm
          clear hat hr2 hk2 hm2 q3 q4 hs hm hal r0 r1 r2
          generalize findE L p = k at *
          generalize (atL L p).set k { entOf L p with text := x, stamp := W + 1 } = L3 at *
          generalize atL L p = L2 at *
          generalize (entOf L p).text = tx at *
          go_wp2_with (go_at_call 47; refine (many_any b base _ L2 W R _ Hr2.out HL.out).mono ?_; rintro e w3 ⟨rfl, rfl⟩)
          go_ret
          exact HF.out
      · have e1 : rwriteI L p x = 0 := by unfold rwriteI; rw [if_neg hb', if_neg hl, if_neg (fun h => hs h.1)]
        rw [e1, if_pos rfl, if_pos rfl]
        clear hb hb' e1
        go_enter Tryd.func29, Tryd.ntmps29
        go_wp2_with (go_at_call 20; refine HP.out.mono ?_; rintro e w1 ⟨rfl, hb1⟩)
        refine (at_any b base v L W R p w1 (HR.out.below hb1) (Nat.le_trans hbase hb1.size) hn).mono ?_
        rintro e w2 hat
        obtain ⟨g, cap, rfl, hr2, hk2, hm2, q1, q2, q3, q4, hne⟩ := at_cells hat
        have d1 : w2.cell? ⟨b, 1, none⟩ = some (.int .i64 W) := hr2.blk.cell 1
        have fb := hr2.blk.frozen 1
        have f1 := q4 (findE L p * 4 + 1)
        have f2 := q4 (findE L p * 4 + 2)
        have r0 := hr2.writes (W + 1)
        have r1 := r0.field (findE L p) 1 (by decide) (find_lt L p) { entOf L p with text := x } (.string x) rfl
        have r2 := r1.field (findE L p) 2 (by decide) (by rw [List.length_set]; exact find_lt L p) { entOf L p with text := x, stamp := W + 1 } (.int .i64 (W + 1)) (by rw [List.getD_eq_getElem?_getD, List.getElem?_set_self (find_lt L p)]; rfl)
        rw [List.set_set] at r2
        have HF : Hid (RPost w b base v ((atL L p).set (findE L p) { entOf L p with text := x, stamp := W + 1 }) (W + 1) R (.int .i64 0) (.returned (.int .i64 0)) (((w2.setCell ⟨b, 1, none⟩ (.int .i64 (W + 1))).setCell ⟨g, findE L p * 4 + 1, none⟩ (.string x)).setCell ⟨g, findE L p * 4 + 2, none⟩ (.int .i64 (W + 1)))) :=
          ⟨rfl, _, r2, (Keeps.of_below hb1).trans (((hk2.setCell (p := ⟨b, 1, none⟩) (.inl (.inl rfl)) _).setCell (p := ⟨g, findE L p * 4 + 1, none⟩) hm2.may _).setCell (p := ⟨g, findE L p * 4 + 2, none⟩) hm2.may _), hm2.trans_below hb1⟩
        have Hr2 := Lib.hid hr2
        have hs' : ((entOf L p).stamp == 0) = false := by simpa using hs
        have hne' : ¬ b = g := fun e => hne e.symm
        clear hat hr2 hk2 hm2 q3 q4 hs hal r0 r1 r2
        generalize findE L p = k at *
        generalize (atL L p).set k { entOf L p with text := x, stamp := W + 1 } = L3 at *
        generalize (entOf L p).stamp = st at *
        generalize (entOf L p).text = tx at *
        go_wp2_with fail
        go_ret
        exact HF.out
end
end Go.Proofs.YtbiclpkoocjjfaaDoor
