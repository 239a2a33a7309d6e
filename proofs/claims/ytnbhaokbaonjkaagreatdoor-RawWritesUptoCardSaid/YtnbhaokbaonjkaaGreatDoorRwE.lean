/- raw: two lists of heads, two requests, are held against each other: the walks. -/
import Derived.Test.YtnbhaokbaonjkaaGreatDoorRwQ
import Derived.Laws.StructEq
import Derived.Laws.EntriesVeiled
namespace Go.Proofs.YtnbhaokbaonjkaaGreatDoor
open Go Go.RowKit
namespace Rw
theorem ba_eq (a b : ByteArray) : (a.toList == b.toList) = decide (a = b) := by
  rw [Lib.toList_data, Lib.toList_data, Bool.eq_iff_iff, beq_iff_eq, decide_eq_true_iff]
  constructor
  · intro h; exact ByteArray.ext (Array.toList_inj.1 h)
  · rintro rfl; rfl
theorem drop_same {us vs : List (ByteArray × ByteArray)} {k : Nat} (h1 : k < us.length) (h2 : k < vs.length) : decide (us.drop k = vs.drop k) = ((us.getD k default).1.toList == (vs.getD k default).1.toList && (us.getD k default).2.toList == (vs.getD k default).2.toList && decide (us.drop (k + 1) = vs.drop (k + 1))) := by
  rw [List.drop_eq_getElem_cons h1, List.drop_eq_getElem_cons h2, show us.getD k default = us[k] by simp [h1], show vs.getD k default = vs[k] by simp [h2], ba_eq, ba_eq, Bool.eq_iff_iff]
  simp only [decide_eq_true_iff, Bool.and_eq_true, List.cons.injEq]
  constructor
  · rintro ⟨h, h'⟩; exact ⟨⟨by rw [h], by rw [h]⟩, h'⟩
  · rintro ⟨⟨h, h'⟩, h''⟩; exact ⟨Prod.ext h h', h''⟩
section
variable (A A2 : Option Addr) (c c2 : Nat) (us vs : List (ByteArray × ByteArray)) (w : World)
set_option maxRecDepth 100000 in
set_option maxHeartbeats 4000000 in
theorem equal_any (hA : PairsAt w w.heap.size A us) (hB : PairsAt w w.heap.size A2 vs) (hn : us.length ≤ 1000000000) (hn2 : vs.length ≤ 1000000000) :
    Calls Tryz.prog 28 #[.slice A us.length c, .slice A2 vs.length c2] w fun e w' => e = .returned (.bool (decide (us = vs))) ∧ Below w.heap.size w w' := by
  have HA := Lib.hid hA; have HB := Lib.hid hB
  clear hA hB
  obtain ⟨M, HM⟩ : ∃ z, Hid (decide (us = vs) = z) := ⟨_, rfl⟩
  rw [HM.out]
  by_cases hl : us.length = vs.length
  · have hlb : ((us.length : Int) == (vs.length : Int)) = true := by simp [hl]
    have HL := Lib.hid hl
    clear hl
    go_enter Tryz.func28, Tryz.ntmps28
    go_wp2_with fail
    go_loopw [13] (fun x wx => ∃ k : Nat, k ≤ us.length ∧ x = .int .i64 k ∧ Hid (Below w.heap.size w wx) ∧ Hid (decide (us.drop k = vs.drop k) = M)) (fun x _ => us.length - (ixOf x).toNat)
    case atStart => exact ⟨0, Nat.zero_le _, rfl, Below.refl _ _, Lib.hid (by simpa using HM.out)⟩
    case round =>
      obtain ⟨k, hk, rfl, HBe, HR⟩ := hrel
      by_cases hlt : k < us.length
      · have hlt2 : k < vs.length := by rw [← HL.out]; exact hlt
        have hI : (k : Int) < (us.length : Int) := by omega
        have hI2 : (k : Int) < (vs.length : Int) := by omega
        have hI0 : (0 : Int) ≤ (k : Int) := by omega
        obtain ⟨b1, o1, rfl, hb1, hc1⟩ := HA.out (by omega)
        obtain ⟨b2, o2, rfl, hb2, hc2⟩ := HB.out (by omega)
        have p1 := (HBe.out.cell (p := ⟨b1, o1 + k * 2, none⟩) hb1).trans (hc1 k hlt).1
        have p2 := (HBe.out.cell (p := ⟨b1, o1 + k * 2 + 1, none⟩) hb1).trans (hc1 k hlt).2
        have p3 := (HBe.out.cell (p := ⟨b2, o2 + k * 2, none⟩) hb2).trans (hc2 k hlt2).1
        have p4 := (HBe.out.cell (p := ⟨b2, o2 + k * 2 + 1, none⟩) hb2).trans (hc2 k hlt2).2
        have HS := Lib.hid (drop_same hlt hlt2)
        clear hc1 hc2 HA HB
        generalize us.getD k default = u at *
        generalize vs.getD k default = v at *
        obtain ⟨u1, u2⟩ := u
        obtain ⟨v1, v2⟩ := v
        dsimp only at p1 p2 p3 p4 HS
        by_cases e1 : u1.toList = v1.toList
        · by_cases e2 : u2.toList = v2.toList
          · have HR2 : Hid (decide (us.drop (k + 1) = vs.drop (k + 1)) = M) := by
              show _ = _
              rw [← HR.out, HS.out, beq_iff_eq.2 e1, beq_iff_eq.2 e2]; rfl
            clear HS HR
            go_wp2_with fail
            go_quiet (fail)
            go_wp2_with fail
            go_roundw
            case rel => exact ⟨k + 1, by omega, by go_num, ⟨HBe.out.os, HBe.out.tape, HBe.out.output, HBe.out.size, HBe.out.block⟩, HR2.out⟩
            case measure => simp [ixOf] <;> omega
          · have hM : M = false := by rw [← HR.out, HS.out, beq_iff_eq.2 e1, beq_eq_false_iff_ne.2 e2]; rfl
            subst hM
            clear HS HR HM
            go_wp2_with fail
            go_quiet (fail)
            go_wp2_with fail
            go_ret
            exact ⟨rfl, HBe.out.os, HBe.out.tape, HBe.out.output, HBe.out.size, HBe.out.block⟩
        · have hM : M = false := by rw [← HR.out, HS.out, beq_eq_false_iff_ne.2 e1]; rfl
          subst hM
          clear HS HR HM
          go_wp2_with fail
          go_quiet (fail)
          go_wp2_with fail
          go_ret
          exact ⟨rfl, HBe.out.os, HBe.out.tape, HBe.out.output, HBe.out.size, HBe.out.block⟩
      · have hI : ¬ ((k : Int) < (us.length : Int)) := by omega
        have hM : M = true := by
          rw [← HR.out, List.drop_eq_nil_of_le (by omega), List.drop_eq_nil_of_le (by have := HL.out; omega)]; rfl
        subst hM
        clear HR HM
        go_wp2_with fail
        go_ret
        exact ⟨rfl, HBe.out⟩
  · have hlb : ((us.length : Int) == (vs.length : Int)) = false := by simp; omega
    have hM : M = false := by rw [← HM.out]; exact decide_eq_false (fun e => hl (by rw [e]))
    subst hM
    clear HM hl
    go_enter Tryz.func28, Tryz.ntmps28
    go_wp2_with fail
    go_ret
    exact ⟨rfl, Below.refl _ _⟩
end
/-- Two requests are the same. -/
def sameQ (m1 p1 y1 b1 m2 p2 y2 b2 : ByteArray) (us vs : List (ByteArray × ByteArray)) : Bool := (m1.toList == m2.toList) && ((p1.toList == p2.toList) && ((y1.toList == y2.toList) && ((b1.toList == b2.toList) && decide (us = vs))))
section
variable (m1 p1 y1 b1 m2 p2 y2 b2 : ByteArray) (A A2 : Option Addr) (c c2 : Nat) (us vs : List (ByteArray × ByteArray)) (w : World)
set_option maxRecDepth 100000 in
set_option maxHeartbeats 4000000 in
theorem rsame10 (hA : PairsAt w w.heap.size A us) (hB : PairsAt w w.heap.size A2 vs) (hn : us.length ≤ 1000000000) (hn2 : vs.length ≤ 1000000000) :
    Calls Tryz.prog 14 #[.agg #[.string m1, .string p1, .string y1, .slice A us.length c, .string b1], .agg #[.string m2, .string p2, .string y2, .slice A2 vs.length c2, .string b2]] w fun e w' => e = .returned (.bool (sameQ m1 p1 y1 b1 m2 p2 y2 b2 us vs)) ∧ Below w.heap.size w w' := by
  have HA := Lib.hid hA; have HB := Lib.hid hB
  clear hA hB
  obtain ⟨M, HM⟩ : ∃ z, Hid (sameQ m1 p1 y1 b1 m2 p2 y2 b2 us vs = z) := ⟨_, rfl⟩
  rw [HM.out]
  have HB0 := Lib.hid (((Below.refl w.heap.size w).alloc (Nat.le_refl _) (.cells #[.string m1, .string p1, .string y1, .slice A us.length c, .string b1] 39)).alloc (by simp) (.cells #[.string m2, .string p2, .string y2, .slice A2 vs.length c2, .string b2] 39))
  have HX0 := Lib.hid ((Blk.new w 39 #[.string m1, .string p1, .string y1, .slice A us.length c, .string b1]).alloc (.cells #[.string m2, .string p2, .string y2, .slice A2 vs.length c2, .string b2] 39))
  have hy := Blk.new (w.alloc (.cells #[.string m1, .string p1, .string y1, .slice A us.length c, .string b1] 39)) 39 #[.string m2, .string p2, .string y2, .slice A2 vs.length c2, .string b2]
  rw [show (w.alloc (.cells #[.string m1, .string p1, .string y1, .slice A us.length c, .string b1] 39)).heap.size = w.heap.size + 1 by simp] at hy
  have HY0 := Lib.hid hy
  clear hy
  cases e0 : (m1.toList == m2.toList) with
  | false =>
    have hM : M = false := by rw [← HM.out]; unfold sameQ; rw [e0]; simp
    subst hM
    clear HM
    go_enter Tryz.func14, Tryz.ntmps14
    go_wp2_with fail
    go_ret
    exact ⟨rfl, HB0.out⟩
  | true =>
    cases e1 : (p1.toList == p2.toList) with
    | false =>
      have hM : M = false := by rw [← HM.out]; unfold sameQ; rw [e0, e1]; simp
      subst hM
      clear HM
      go_enter Tryz.func14, Tryz.ntmps14
      go_wp2_with fail
      go_ret
      exact ⟨rfl, HB0.out⟩
    | true =>
      cases e2 : (y1.toList == y2.toList) with
      | false =>
        have hM : M = false := by rw [← HM.out]; unfold sameQ; rw [e0, e1, e2]; simp
        subst hM
        clear HM
        go_enter Tryz.func14, Tryz.ntmps14
        go_wp2_with fail
        go_ret
        exact ⟨rfl, HB0.out⟩
      | true =>
        cases e3 : (b1.toList == b2.toList) with
        | false =>
          have hM : M = false := by rw [← HM.out]; unfold sameQ; rw [e0, e1, e2, e3]; simp
          subst hM
          clear HM
          go_enter Tryz.func14, Tryz.ntmps14
          go_wp2_with fail
          go_ret
          exact ⟨rfl, HB0.out⟩
        | true =>
          by_cases hl : us.length = vs.length
          · have hlb : ((us.length : Int) == (vs.length : Int)) = true := by simp [hl]
            have HL := Lib.hid hl
            have HM2 : Hid (decide (us = vs) = M) := by
              show _ = _
              rw [← HM.out]; unfold sameQ; rw [e0, e1, e2, e3]; rfl
            clear hl HM
            go_enter Tryz.func14, Tryz.ntmps14
            go_wp2_with fail
            go_loopw [5] (fun x wx => ∃ k : Nat, k ≤ us.length ∧ x = .int .i64 k ∧ Hid (Below w.heap.size w wx) ∧ Hid (Blk wx w.heap.size 39 #[.string m1, .string p1, .string y1, .slice A us.length c, .string b1]) ∧ Hid (Blk wx (w.heap.size + 1) 39 #[.string m2, .string p2, .string y2, .slice A2 vs.length c2, .string b2]) ∧ Hid (decide (us.drop k = vs.drop k) = M)) (fun x _ => us.length - (ixOf x).toNat)
            case atStart => exact ⟨0, Nat.zero_le _, rfl, HB0, HX0, HY0, Lib.hid (by simpa using HM2.out)⟩
            case round =>
              obtain ⟨k, hk, rfl, HBe, HX, HY, HR⟩ := hrel
              have x3 : wr.cell? ⟨w.heap.size, 3, none⟩ = some (.slice A us.length c) := HX.out.cell 3
              have y3 : wr.cell? ⟨w.heap.size + 1, 3, none⟩ = some (.slice A2 vs.length c2) := HY.out.cell 3
              by_cases hlt : k < us.length
              · have hlt2 : k < vs.length := by rw [← HL.out]; exact hlt
                have hI : (k : Int) < (us.length : Int) := by omega
                have hI2 : (k : Int) < (vs.length : Int) := by omega
                have hI0 : (0 : Int) ≤ (k : Int) := by omega
                obtain ⟨g1, o1, rfl, hg1, hc1⟩ := HA.out (by omega)
                obtain ⟨g2, o2, rfl, hg2, hc2⟩ := HB.out (by omega)
                have q1 := (HBe.out.cell (p := ⟨g1, o1 + k * 2, none⟩) hg1).trans (hc1 k hlt).1
                have q2 := (HBe.out.cell (p := ⟨g1, o1 + k * 2 + 1, none⟩) hg1).trans (hc1 k hlt).2
                have q3 := (HBe.out.cell (p := ⟨g2, o2 + k * 2, none⟩) hg2).trans (hc2 k hlt2).1
                have q4 := (HBe.out.cell (p := ⟨g2, o2 + k * 2 + 1, none⟩) hg2).trans (hc2 k hlt2).2
                have HS := Lib.hid (drop_same hlt hlt2)
                clear hc1 hc2 HA HB HB0 HX0 HY0 HM2
                generalize us.getD k default = u at *
                generalize vs.getD k default = v at *
                obtain ⟨u1, u2⟩ := u
                obtain ⟨v1, v2⟩ := v
                dsimp only at q1 q2 q3 q4 HS
                by_cases f1 : u1.toList = v1.toList
                · by_cases f2 : u2.toList = v2.toList
                  · have HR2 : Hid (decide (us.drop (k + 1) = vs.drop (k + 1)) = M) := by
                      show _ = _
                      rw [← HR.out, HS.out, beq_iff_eq.2 f1, beq_iff_eq.2 f2]; rfl
                    clear HS HR
                    go_wp2_with fail
                    go_quiet (fail)
                    go_wp2_with fail
                    go_roundw
                    case rel => exact ⟨k + 1, by omega, by go_num, ⟨HBe.out.os, HBe.out.tape, HBe.out.output, HBe.out.size, HBe.out.block⟩, HX.out.drewN _, HY.out.drewN _, HR2.out⟩
                    case measure => simp [ixOf] <;> omega
                  · have hM : M = false := by rw [← HR.out, HS.out, beq_iff_eq.2 f1, beq_eq_false_iff_ne.2 f2]; rfl
                    subst hM
                    clear HS HR
                    go_wp2_with fail
                    go_quiet (fail)
                    go_wp2_with fail
                    go_ret
                    exact ⟨rfl, HBe.out.os, HBe.out.tape, HBe.out.output, HBe.out.size, HBe.out.block⟩
                · have hM : M = false := by rw [← HR.out, HS.out, beq_eq_false_iff_ne.2 f1]; rfl
                  subst hM
                  clear HS HR
                  go_wp2_with fail
                  go_quiet (fail)
                  go_wp2_with fail
                  go_ret
                  exact ⟨rfl, HBe.out.os, HBe.out.tape, HBe.out.output, HBe.out.size, HBe.out.block⟩
              · have hI : ¬ ((k : Int) < (us.length : Int)) := by omega
                have hM : M = true := by
                  rw [← HR.out, List.drop_eq_nil_of_le (by omega), List.drop_eq_nil_of_le (by have := HL.out; omega)]; rfl
                subst hM
                clear HR HM2
                go_wp2_with fail
                go_ret
                exact ⟨rfl, HBe.out⟩
          · have hlb : ((us.length : Int) == (vs.length : Int)) = false := by simp; omega
            have hM : M = false := by
              rw [← HM.out]; unfold sameQ
              rw [decide_eq_false (fun e : us = vs => hl (by rw [e]))]; simp
            subst hM
            clear HM hl
            go_enter Tryz.func14, Tryz.ntmps14
            go_wp2_with fail
            go_ret
            exact ⟨rfl, HB0.out⟩
end
end Rw
end Go.Proofs.YtnbhaokbaonjkaaGreatDoor
