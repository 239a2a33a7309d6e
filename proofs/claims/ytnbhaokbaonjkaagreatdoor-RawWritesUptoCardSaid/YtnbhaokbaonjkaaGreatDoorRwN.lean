/- raw: the reader's line: the walk. -/
import Derived.Test.YtnbhaokbaonjkaaGreatDoorRwL
import Derived.StillTailTactics
namespace Go.Proofs.YtnbhaokbaonjkaaGreatDoor
open Go.RowKit
namespace Rw
/-- A Go call as a step law for go_region_law. -/
theorem step_callP {P : Program} {ops : Array Oper} {o : Oper} {a : Act} {w : World} {K : Act → World → Prop} {Q : Exit → Act → World → Prop} {E : Prop} (hgd : o.guard = none) (f : FuncId) (xs : Array Operand) (ats : Array TypeId)
    (ho : o.op = .call { callee := .value (.func f), args := xs, argTypes := ats }) (args : Array Value) (hargs : #[] ++ xs.map a.eval ++ #[] = args)
    (eg : (callFunc f args).run P w = .ok (.enter f args) w) (R : Value → World → Prop) (hc : Calls P f args w fun e w' => ∃ v, e = .returned v ∧ R v w')
    (h : ∀ v w', R v w' → K (a.put o.dst v) w') : if Region.wanted o (yielded ops a.tmps) = true then Oper.wp P o a w K Q else E := by
  have hw : Region.wanted o (yielded ops a.tmps) = true := by simp [Region.wanted, hgd]
  rw [if_pos hw]
  obtain ⟨dst, op, ty, pos, after, guard⟩ := o
  simp only at ho hgd
  subst ho hgd
  unfold Oper.wp
  rw [execOp_call_go, hargs, eg, Oper.upon_enter]
  refine hc.mono ?_
  rintro e w' ⟨v, rfl, hR⟩
  exact h v w' hR
section
variable (s m p y b many : ByteArray) (v : Value) (why fat ln : Int) (g : Nat)
theorem whileX (fid : Nat) (P : UInt8 → Bool) (hP : Kind fid P) (a mo : Nat) (w : World) (h : RdAt w g s a m p y v b why fat ln many) (hs : s.size ≤ 1000000) (hm : mo ≤ 1000000) (ha : a ≤ s.size) :
    Calls Tryz.prog 61 #[.pointer (some ⟨g, 0, none⟩), .int .i64 (mo : Int), .func (.func fid) #[] #[]] w fun e w' => ∃ X z, Hid (X = bytes (piece s.data.toList a z)) ∧ Hid (z = whileN s.data.toList P mo a) ∧ a ≤ z ∧ z ≤ s.size ∧ e = .returned (.string X) ∧ Keeps (· = g) w w' ∧ RdAt w' g s z m p y v b why fat ln many := by
  refine (while_any s m p y b many v why fat ln g fid P hP a mo w h hs hm ha).mono ?_
  rintro e w' ⟨h1, h2, h3⟩
  refine ⟨_, _, rfl, rfl, while_ge .., ?_, h1, h2, h3⟩
  have := while_le P mo (show a ≤ s.data.toList.length by rw [← Lib.size_eq]; exact ha)
  rw [← Lib.size_eq] at this
  exact this
theorem no_bytes (l : Bytes) : ((bytes l).toList == (⟨#[]⟩ : ByteArray).toList) = decide (l = []) := by
  rw [Lib.toList_data, Lib.toList_data, bytes_list, Bool.eq_iff_iff]
  simp
theorem piece_empty {l : Bytes} {a z : Nat} (hz : z ≤ l.length) (haz : a ≤ z) : (bytes (piece l a z)).toList.isEmpty = decide (z = a) := by
  rw [Lib.toList_data, bytes_list, Bool.eq_iff_iff, List.isEmpty_iff_length_eq_zero, decide_eq_true_iff]
  unfold piece
  rw [List.length_take, List.length_drop]
  omega
theorem must_le' {s t : Bytes} {n a b : Nat} (ha : a ≤ n) (hn : s.length ≤ n) (h : mustN s t a = some b) : b ≤ n := by
  obtain ⟨h1, h2⟩ := must_le h
  rcases h2 with h2 | rfl
  · omega
  · simp only [List.length_nil] at h1; omega
theorem cutX (l : Bytes) (mx : Int) (hl : l.length ≤ 1000000) (w : World) (hm : w.cell? ⟨0, 0, none⟩ = some (.int .i64 mx)) :
    Calls Tryz.prog 66 #[.string (bytes l), .string ⟨#[63]⟩] w fun e w' => ∃ v, e = .returned v ∧ ∃ P Q b, Hid (P = bytes (cutQ l).1) ∧ Hid (Q = bytes (cutQ l).2) ∧ v = .tuple #[.string P, .string Q, .bool b] ∧ ∃ n, w' = w.drewN n :=
  (cutL_any l mx hl w hm).mono fun _ _ ⟨⟨b, h1⟩, h2⟩ => ⟨_, h1, _, _, b, rfl, rfl, rfl, h2⟩
theorem cut_in (args : Array Value) (w : World) : (callFunc 66 args).run Tryz.prog w = .ok (.enter 66 args) w := enters_of Tryz.func66 (by kernel_rfl) rfl args w
/-- What the line leaves. -/
def LineP (w : World) (r : Option (Bytes × Bytes × Bytes × Nat)) (e : Ending) (w' : World) : Prop :=
  Keeps (· = g) w w' ∧ ((∃ m' p' y' z, r = some (m', p', y', z) ∧ z ≤ s.size ∧ e = .returned (.bool true) ∧ RdAt w' g s z (bytes m') (bytes p') (bytes y') v b why fat ln many) ∨
    (r = none ∧ e = .returned (.bool false) ∧ ∃ a' m' p' y' why' fat', why' ≠ 0 ∧ RdAt w' g s a' m' p' y' v b why' fat' ln many))
set_option maxRecDepth 100000 in
set_option maxHeartbeats 4000000 in
theorem line_any (w : World) (h : RdAt w g s 0 m p y v b why fat ln many) (hs : s.size ≤ 1000000) (mx : Int) (hmx : w.cell? ⟨0, 0, none⟩ = some (.int .i64 mx)) (hg : g ≠ 0) :
    Calls Tryz.prog 33 #[.pointer (some ⟨g, 0, none⟩)] w (LineP s b many v why fat ln g w (lineN s.data.toList)) := by
  have H := Lib.hid h
  have c0 : w.cell? ⟨g, 0, none⟩ = some (.string s) := h.cell 0
  have HW := Lib.hid (fun m a mo w h hm ha => whileX s m p y b many v why fat ln g _ _ kind_capital a mo w h hs hm ha)
  clear h
  obtain ⟨R, HR⟩ : ∃ z, Hid (lineN s.data.toList = z) := ⟨_, rfl⟩
  rw [HR.out]
  go_enter Tryz.func33, Tryz.ntmps33
  have HMu := Lib.hid (fun m p y t a w h ht ha => must_any s m p y b many v why fat ln g t a w h hs ht ha)
  have HFa := Lib.hid (fun m p y a w h => fail_any s m p y b many v why fat ln g a w h)
  have HSh := Lib.hid (fun m a mo w h hm ha => whileX s m p y b many v why fat ln g _ _ kind_shown a mo w h hs hm ha)
  go_wp2_with fail
  refine (HW.out _ 0 16 _ H.out (by decide) (Nat.zero_le _)).mono ?_
  rintro e w1 ⟨X1, a1, HX1, Ha1, -, hle1, rfl, hk1, hr1⟩
  have z2 := hr1.frozen 2
  have c2 : w1.cell? ⟨g, 2, none⟩ = some (.string m) := hr1.cell 2
  have hlL : s.size = s.data.toList.length := Lib.size_eq s
  have HE : Hid (X1.toList.isEmpty = decide (a1 = 0)) := by
    show _ = _
    rw [HX1.out]
    exact piece_empty (by omega) (Nat.zero_le _)
  have HSz := Lib.hid (Lib.size_eq s)
  have hLe : Hid (s.data.toList.length ≤ s.size) := Nat.le_of_eq hlL.symm
  clear hlL
  have HB1 := Lib.hid (hr1.set_ 2 (.string X1))
  have HK1 := Lib.hid (hk1.setCell (p := ⟨g, 2, none⟩) (.inl rfl) (.string X1))
  clear hr1 hk1 c0 H
  by_cases h0 : a1 = 0
  · have hM : R = none := by rw [← HR.out]; simp [lineN, ← Ha1.out, h0]
    subst hM
    have he := HE.out
    rw [decide_eq_true h0] at he
    clear h0 HR HE Ha1
    go_wp2_with fail
    refine (HFa.out _ _ _ _ _ HB1.out).mono ?_
    rintro e w2 ⟨rfl, hk2, why2, hw2, hr2⟩
    go_wp2_with fail
    go_ret
    exact ⟨HK1.out.trans hk2, .inr ⟨rfl, rfl, _, _, _, _, _, _, hw2, hr2⟩⟩
  · have he := HE.out
    rw [decide_eq_false h0] at he
    clear HE
    go_wp2_with fail
    generalize w1.setCell ⟨g, 2, none⟩ (.string X1) = w2 at *
    refine (HMu.out _ _ _ _ _ _ HB1.out (by decide) hle1).mono ?_
    rintro e w3 ⟨hk3, hor⟩
    have HK3 := Lib.hid (HK1.out.trans hk3)
    clear hk3 HK1 HB1
    rcases hor with ⟨a3, hm3, rfl, hr3⟩ | ⟨hm3, rfl, a3, why3, hw3, hr3⟩
    · have ha3 : a3 ≤ s.size := must_le' hle1 hLe.out hm3
      have c1 : w3.cell? ⟨g, 1, none⟩ = some (.int .i64 (a3 : Int)) := hr3.cell 1
      go_wp2_with fail
      refine (HMu.out _ _ _ _ _ _ hr3 (by decide) ha3).mono ?_
      rintro e w4 ⟨hk4, hor⟩
      have HK4 := Lib.hid (HK3.out.trans hk4)
      clear hk4 hr3 HK3 c1
      rcases hor with ⟨a4, hm4, rfl, hr4⟩ | ⟨hm4, rfl, a4, why4, hw4, hr4⟩
      · have ha4 : a4 ≤ s.size := must_le' ha3 hLe.out hm4
        have ha34 : a3 ≤ a4 := by have := (must_le hm4).1; omega
        have c0 : w4.cell? ⟨g, 0, none⟩ = some (.string s) := hr4.cell 0
        have hs2 : s.size ≤ 9223372036854775807 := by omega
        go_wp2_with fail
        refine (HSh.out _ a4 s.size _ hr4 (by omega) ha4).mono ?_
        rintro e w5 ⟨X5, a5, HX5, Ha5, hge5, hle5, rfl, hk5, hr5⟩
        have HK5 := Lib.hid (HK4.out.trans hk5)
        have hmx5 := (HK5.out.cell (p := ⟨0, 0, none⟩) (World.block_lt_of_cell? w _ hmx) (fun e => hg e.symm)).trans hmx
        clear hk5 hr4 HK4 c0
        have c0 : w5.cell? ⟨g, 0, none⟩ = some (.string s) := hr5.cell 0
        have c1 : w5.cell? ⟨g, 1, none⟩ = some (.int .i64 (a5 : Int)) := hr5.cell 1
        have c3 : w5.cell? ⟨g, 3, none⟩ = some (.string p) := hr5.cell 3
        have c4 : w5.cell? ⟨g, 4, none⟩ = some (.string y) := hr5.cell 4
        have z3 := hr5.frozen 3
        have z4 := hr5.frozen 4
        go_wp2_with fail
        have HXc := Lib.hid (extract_piece s a3 a5)
        have HLen : Hid ((piece s.data.toList a3 a5).length ≤ 1000000) := by
          show _ ≤ _
          have := hLe.out
          unfold piece
          rw [List.length_take, List.length_drop]
          omega
        have HCu := Lib.hid (fun w hm => cutX (piece s.data.toList a3 a5) mx HLen.out w hm)
        rw [← HXc.out] at HCu
        have hq0 : (0 : Int) ≤ (a3 : Int) := by omega
        have hq1 : (a3 : Int) ≤ (a5 : Int) := by omega
        have hq2 : (a5 : Int) ≤ (s.size : Int) := by omega
        go_region_law ((refine step_callP rfl 66 _ _ rfl #[.string (s.extract a3 a5), .string ⟨#[63]⟩] (by simp [Act.eval, Act.put]) (cut_in _ _) _ (HCu.out _ (by exact hmx5)) ?_; rintro e w6 ⟨P6, Q6, b6, HP6, HQ6, rfl, n6, rfl⟩))
        all_goals
          have HB6 := Lib.hid (((hr5.drewN (1 + n6)).set_ 3 (.string P6)).set_ 4 (.string Q6))
          have HK6 := Lib.hid (((HK5.out.drewN (1 + n6)).setCell (p := ⟨g, 3, none⟩) (.inl rfl) (.string P6)).setCell (p := ⟨g, 4, none⟩) (.inl rfl) (.string Q6))
          generalize ((w5.drewN (1 + n6)).setCell ⟨g, 3, none⟩ (.string P6)).setCell ⟨g, 4, none⟩ (.string Q6) = w6 at *
          clear c0 c1 c2 c3 c4 z2 z3 z4 HCu HXc hmx5 hr5 HK5
          go_wp2_with fail
          refine (HMu.out _ _ _ _ _ _ HB6.out (by decide) hle5).mono ?_
          rintro e w7 ⟨hk7, hor⟩
          have HK7 := Lib.hid (HK6.out.trans hk7)
          rcases hor with ⟨a7, hm7, rfl, hr7⟩ | ⟨hm7, rfl, a7, why7, hw7, hr7⟩
          · have hM : R = some (piece s.data.toList 0 a1, (cutQ (piece s.data.toList a3 a5)).1, (cutQ (piece s.data.toList a3 a5)).2, a7) := by
              rw [← HR.out]
              simp [lineN, ← Ha1.out, h0, show mustN s.data.toList [32] a1 = _ from hm3, show mustN s.data.toList [47] a3 = _ from hm4, ← HSz.out, ← Ha5.out, show mustN s.data.toList versL a5 = _ from hm7]
            subst hM
            have ha7 := must_le' hle5 hLe.out hm7
            go_wp2_with fail
            go_ret
            refine ⟨HK7.out, .inl ⟨_, _, _, _, rfl, ha7, rfl, ?_⟩⟩
            rw [← HX1.out, ← HP6.out, ← HQ6.out]
            exact hr7
          · have hM : R = none := by
              rw [← HR.out]
              simp [lineN, ← Ha1.out, h0, show mustN s.data.toList [32] a1 = _ from hm3, show mustN s.data.toList [47] a3 = _ from hm4, ← HSz.out, ← Ha5.out, show mustN s.data.toList versL a5 = _ from hm7]
            subst hM
            go_wp2_with fail
            go_ret
            exact ⟨HK7.out, .inr ⟨rfl, rfl, _, _, _, _, _, _, hw7, hr7⟩⟩
      · have hM : R = none := by rw [← HR.out]; simp [lineN, ← Ha1.out, h0, show mustN s.data.toList [32] a1 = _ from hm3, show mustN s.data.toList [47] a3 = _ from hm4]
        subst hM
        go_wp2_with fail
        go_ret
        exact ⟨HK4.out, .inr ⟨rfl, rfl, _, _, _, _, _, _, hw4, hr4⟩⟩
    · have hM : R = none := by rw [← HR.out]; simp [lineN, ← Ha1.out, h0, show mustN s.data.toList [32] a1 = _ from hm3]
      subst hM
      go_wp2_with fail
      go_ret
      exact ⟨HK3.out, .inr ⟨rfl, rfl, _, _, _, _, _, _, hw3, hr3⟩⟩
end
end Rw
end Go.Proofs.YtnbhaokbaonjkaaGreatDoor
