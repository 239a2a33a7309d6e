/- word.Tokens at a file without a tag. -/
import Derived.Test.YteajmgkdiioflaaGreatDoorPlA
import Derived.Test.YteajmgkdiioflaaGreatDoorApps
namespace Go.Proofs.YteajmgkdiioflaaGreatDoor
open Go.RowKit

set_option maxRecDepth 100000 in
set_option maxHeartbeats 2000000 in
theorem tokens_none (s : ByteArray) (hz : s.size = 0) (m : Int) (w : World) (hL : Lib2 m w) :
    Calls Tryz.prog 7 #[.string s] w fun e w' => e = .returned (.tuple #[.slice none 0 0, .agg #[.int .i64 0, .int .i64 0]]) ∧ Below w.heap.size w w' := by
  have HL := Lib.hid (hL.below ((Below.refl w.heap.size w).alloc (Nat.le_refl _) (.cells #[.int .i64 0, .int .i64 0] 25)))
  have HC := Lib.hid (cut_any s (by omega) m _ HL.out)
  have hE : cut3 s.data.toList = [] := by
    have : s.data.toList = [] := List.eq_nil_of_length_eq_zero (by have := Lib.size_eq s; omega)
    rw [this, cut_plain [] (fun i => by simp [Lib.hasPrefix])]
    rfl
  rw [hE] at HC
  clear hE hL
  go_enter Tryz.func7, Tryz.ntmps7
  go_wp2_with fail
  refine HC.out.mono ?_
  rintro e w1 ⟨v, rfl, hp, hb1⟩
  obtain ⟨A, cap, rfl, _⟩ := hp.shape
  have hz1 := hb1.size
  have HB := Lib.hid ((Below.refl w.heap.size w).alloc (Nat.le_refl _) (.cells #[.int .i64 0, .int .i64 0] 25))
  have HB2 := Lib.hid (HB.out.trans (hb1.mono HB.out.size))
  have HB3 := Lib.hid (HB2.out.alloc HB2.out.size (.cells #[.string ⟨#[]⟩, .int .i64 0, .slice none 0 0, .int .i64 0, .int .i64 0, .int .i64 0, .int .i64 0] 41))
  have hF : Blk w1 w.heap.size 25 #[.int .i64 0, .int .i64 0] := (Blk.new w _ _).keeps (Keeps.of_below (S := fun _ => False) hb1) id
  have HF := Lib.hid (hF.alloc (.cells #[.string ⟨#[]⟩, .int .i64 0, .slice none 0 0, .int .i64 0, .int .i64 0, .int .i64 0, .int .i64 0] 41))
  have HR := Lib.hid (Blk.new w1 41 #[.string ⟨#[]⟩, .int .i64 0, .slice none 0 0, .int .i64 0, .int .i64 0, .int .i64 0, .int .i64 0])
  clear hb1 hp HB HB2 hF
  go_wp2_with fail
  go_loopg [23] 1 (fun g r wx => wx = w1.alloc (.cells #[.string ⟨#[]⟩, .int .i64 0, .slice none 0 0, .int .i64 0, .int .i64 0, .int .i64 0, .int .i64 0] 41) ∧ r = .int .i64 0)
  case atStart => exact ⟨rfl, rfl⟩
  case round =>
    obtain ⟨rfl, rfl⟩ := hrel
    generalize hw2 : w1.alloc (.cells #[.string ⟨#[]⟩, .int .i64 0, .slice none 0 0, .int .i64 0, .int .i64 0, .int .i64 0, .int .i64 0] 41) = w2 at *
    have f0 : w2.cell? ⟨w.heap.size, 0, none⟩ = some (.int .i64 0) := HF.out.cell 0
    have f1 : w2.cell? ⟨w.heap.size, 1, none⟩ = some (.int .i64 0) := HF.out.cell 1
    have z0 := HF.out.frozen 0
    have z1 := HF.out.frozen 1
    have r2 : w2.cell? ⟨w1.heap.size, 2, none⟩ = some (.slice none 0 0) := HR.out.cell 2
    clear hw2
    go_wp2_with fail
    refine bodyPost_ret (v := .tuple #[.slice none 0 0, .agg #[.int .i64 0, .int .i64 0]]) (by simp [results, Tryz.results7, go_sem, f0, f1]) rfl ?_
    first | exact ⟨rfl, HB3.out⟩ | exact ⟨rfl, (HB3.out.setCell (Nat.le_refl _) _).setCell (Nat.le_refl _) _⟩

theorem tok_info : (Tryz.prog.info? 31).map (fun i => (i.zero, i.size, i.bytes)) = some (some (.agg #[.int .i64 0, .string ⟨#[]⟩, .int .i64 0, .slice none 0 0, .int .i64 0, .int .i64 0]), 6, 72) := by kernel_rfl
/-- The one token of a plain file. -/
def tokCells (s : ByteArray) (k : Int) : List Value := [.int .i64 k, .string s, .int .i64 0, .slice none 0 0, .int .i64 0, .int .i64 1]
/-- A Go call as a step law for go_region_law. -/
theorem step_callP {P : Program} {ops : Array Oper} {o : Oper} {a : Act} {w : World} {K : Act → World → Prop} {Q : Exit → Act → World → Prop} {E : Prop} (hgd : o.guard = none) (f : FuncId) (xs : Array Operand) (ats : Array TypeId)
    (ho : o.op = .call { callee := .value (.func f), args := xs, argTypes := ats }) (args : Array Value) (hargs : #[] ++ xs.map a.eval ++ #[] = args)
    (eg : (callFunc f args).run P w = .ok (.enter f args) w) (R : Value → World → Prop) (hc : Calls P f args w fun e w' => ∃ v, e = .returned v ∧ R v w')
    (h : ∀ v w', R v w' → K (a.put o.dst v) w') : if Region.wanted o (yielded ops a.tmps) = true then Oper.wp P o a w K Q else E := by
  have hw : Region.wanted o (yielded ops a.tmps) = true := by simp [Region.wanted, hgd]
  rw [if_pos hw]
  obtain ⟨dst, op, ty, pos, after, guard⟩ := o
  simp only at ho hgd
  subst ho hgd
  unfold Oper.wp
  rw [execOp_call_go, hargs, eg, Oper.upon_enter]
  refine hc.mono ?_
  rintro e w' ⟨v, rfl, hR⟩
  exact h v w' hR
theorem count_in (args : Array Value) (w : World) : (callFunc 34 args).run Tryz.prog w = .ok (.enter 34 args) w := enters_of Tryz.func34 (by kernel_rfl) rfl args w
theorem count_v (s : ByteArray) (w : World) : Calls Tryz.prog 34 #[.string s, .string ⟨#[10]⟩] w fun e w' => ∃ v, e = .returned v ∧ v = .int .i64 (Lib.countByte s.data.toList 10 : Nat) ∧ w = w' :=
  (callsSym (Tryz.strings_Count_one s 10 w)).mono (by rintro e w' ⟨rfl, rfl⟩; exact ⟨_, rfl, rfl, rfl⟩)
theorem tok_one (x : ByteArray) (k : Int) : ∀ u ∈ tokCells x k, u.oneCell' = true := by
  intro u hu
  simp [tokCells] at hu
  rcases hu with rfl | rfl | rfl | rfl | rfl | rfl <;> rfl
theorem tok_readsB {w : World} {B g : Nat} {x : ByteArray} {k : Int} (h : Blk w g 31 (tokCells x k).toArray) (hg : g < B) : Reads w B 6 (some ⟨g, 0, none⟩) 1 (tokCells x k) := by
  refine ⟨rfl, fun _ => ⟨_, rfl, hg, fun j u hu => ?_⟩⟩
  have e : (⟨g, 0, none⟩ : Addr).add j = ⟨g, j, none⟩ := by unfold Addr.add; split <;> simp_all
  rw [e, h.cell j]
  simpa using hu
theorem tok_reads (w5 : World) (x : ByteArray) (k : Int) : Reads (w5.drew.alloc (.cells (tokCells x k).toArray 31)) (w5.heap.size + 1) 6 (some ⟨w5.heap.size, 0, none⟩) 1 (tokCells x k) :=
  tok_readsB (Blk.new w5.drew _ _) (Nat.lt_succ_self _)
set_option maxRecDepth 100000 in
set_option maxHeartbeats 800000 in
/-- The reader's first token, at byte 0. -/
theorem add_first (s x : ByteArray) (k : Int) (b : Nat) (w : World) (hB : Blk w b 41 #[.string s, .int .i64 0, .slice none 0 0, .int .i64 0, .int .i64 0, .int .i64 0, .int .i64 0]) :
    Calls Tryz.prog 15 #[.pointer (some ⟨b, 0, none⟩), .agg #[.int .i64 k, .string x, .int .i64 0, .slice none 0 0, .int .i64 0, .int .i64 0], .int .i64 0] w fun e w' =>
      e = .returned (.bool true) ∧ ∃ v, w'.ownsRow w.heap.size 31 6 v 1 (tokCells x k) ∧ w'.cell? ⟨b, 2, none⟩ = some v ∧ Keeps (fun i => i = b) w w' := by
  have HC := Lib.hid (fun w => callsSym (Tryz.strings_Count_one (s.extract 0 0) 10 w))
  have hB2 := hB.alloc (.cells #[.int .i64 k, .string x, .int .i64 0, .slice none 0 0, .int .i64 0, .int .i64 0] 31)
  have HT := Lib.hid (Blk.new w 31 #[.int .i64 k, .string x, .int .i64 0, .slice none 0 0, .int .i64 0, .int .i64 0])
  have hK := (Keeps.refl (fun i => i = b) w).alloc (.cells #[.int .i64 k, .string x, .int .i64 0, .slice none 0 0, .int .i64 0, .int .i64 0] 31)
  have hlt := hB.lt
  obtain ⟨i0, hi0, hz0, hz1, hz2⟩ := info_parts tok_info
  have HI := Lib.hid (And.intro hi0 (And.intro hz0 (And.intro hz1 hz2))); clear hi0 hz0 hz1 hz2
  go_enter Tryz.func15, Tryz.ntmps15
  go_upto_region 1 with (fail)
  generalize hw2 : w.alloc (.cells #[.int .i64 k, .string x, .int .i64 0, .slice none 0 0, .int .i64 0, .int .i64 0] 31) = w2 at *
  have c0 : w2.cell? ⟨b, 0, none⟩ = some (.string s) := hB2.cell 0
  have c2 : w2.cell? ⟨b, 2, none⟩ = some (.slice none 0 0) := hB2.cell 2
  have c5 : w2.cell? ⟨b, 5, none⟩ = some (.int .i64 0) := hB2.cell 5
  have c6 : w2.cell? ⟨b, 6, none⟩ = some (.int .i64 0) := hB2.cell 6
  have f2 := hB2.frozen 2
  have f5 := hB2.frozen 5
  have f6 := hB2.frozen 6
  clear hw2
  have hx0 : s.extract 0 0 = ⟨#[]⟩ := by apply ByteArray.ext; simp
  have hcnt : (Lib.countByte (s.extract 0 0).data.toList 10) = 0 := by rw [hx0]; rfl
  go_cut [] (fun wx => wx = w2.drew.setCell ⟨b, 6, none⟩ (.int .i64 0))
  case first =>
    go_region_law (first
      | (refine step_callP rfl 34 _ _ rfl #[.string (s.extract 0 0), .string ⟨#[10]⟩] (by simp [Act.eval, Act.put]) (count_in _ _) _ (count_v _ _) ?_; rintro v w3 ⟨rfl, rfl⟩; rw [hcnt]))
    all_goals
      go_wp2_with fail
      go_meet
      exact rfl
  case rest =>
    obtain rfl := hcut
    have hB3 : Blk (w2.drew.setCell ⟨b, 6, none⟩ (.int .i64 0)) b 41 #[.string s, .int .i64 0, .slice none 0 0, .int .i64 0, .int .i64 0, .int .i64 0, .int .i64 0] := hB2.drew.set_ 6 _
    have hT3 : Blk (w2.drew.setCell ⟨b, 6, none⟩ (.int .i64 0)) w.heap.size 31 #[.int .i64 k, .string x, .int .i64 0, .slice none 0 0, .int .i64 0, .int .i64 0] := HT.out.drew.far (p := ⟨b, 6, none⟩) (by simp; omega) _
    have hK3 := hK.drew.setCell (p := ⟨b, 6, none⟩) (.inl rfl) (.int .i64 0)
    generalize w2.drew.setCell ⟨b, 6, none⟩ (.int .i64 0) = w3 at *
    clear hB2 HT hK c0 c2 c5 c6 f2 f5 f6 hB HC hx0 hcnt
    have c2 : w3.cell? ⟨b, 2, none⟩ = some (.slice none 0 0) := hB3.cell 2
    have c5 : w3.cell? ⟨b, 5, none⟩ = some (.int .i64 0) := hB3.cell 5
    have c6 : w3.cell? ⟨b, 6, none⟩ = some (.int .i64 0) := hB3.cell 6
    have f2 := hB3.frozen 2
    have f5 := hB3.frozen 5
    go_upto_region 3 with (fail)
    have hB4 : Blk (w3.setCell ⟨b, 5, none⟩ (.int .i64 0)) b 41 #[.string s, .int .i64 0, .slice none 0 0, .int .i64 0, .int .i64 0, .int .i64 0, .int .i64 0] := hB3.set_ 5 _
    have hT4 : Blk (w3.setCell ⟨b, 5, none⟩ (.int .i64 0)) w.heap.size 31 #[.int .i64 k, .string x, .int .i64 0, .slice none 0 0, .int .i64 0, .int .i64 0] := hT3.far (p := ⟨b, 5, none⟩) (by simp; omega) _
    have hK4 := hK3.setCell (p := ⟨b, 5, none⟩) (.inl rfl) (.int .i64 0)
    generalize w3.setCell ⟨b, 5, none⟩ (.int .i64 0) = w4 at *
    clear hB3 hT3 hK3 c2 c5 c6 f2 f5
    have c2 : w4.cell? ⟨b, 2, none⟩ = some (.slice none 0 0) := hB4.cell 2
    have c6 : w4.cell? ⟨b, 6, none⟩ = some (.int .i64 0) := hB4.cell 6
    have f2 := hB4.frozen 2
    have g4 := hT4.frozen 4
    have g5 := hT4.frozen 5
    have d4 : w4.cell? ⟨w.heap.size, 4, none⟩ = some (.int .i64 0) := hT4.cell 4
    have d5 : w4.cell? ⟨w.heap.size, 5, none⟩ = some (.int .i64 0) := hT4.cell 5
    go_cut [] (fun wx => wx = (w4.drew.setCell ⟨w.heap.size, 4, none⟩ (.int .i64 0)).setCell ⟨w.heap.size, 5, none⟩ (.int .i64 1))
    case first =>
      go_region_law (fail)
      all_goals
        go_wp2_with fail
        go_meet
        exact rfl
    case rest =>
      obtain rfl := hcut
      go_upto_region 4 with (fail)
      have hB5 : Blk ((w4.drew.setCell ⟨w.heap.size, 4, none⟩ (.int .i64 0)).setCell ⟨w.heap.size, 5, none⟩ (.int .i64 1)) b 41 #[.string s, .int .i64 0, .slice none 0 0, .int .i64 0, .int .i64 0, .int .i64 0, .int .i64 0] := (hB4.drew.far (p := ⟨w.heap.size, 4, none⟩) (by simp; omega) _).far (p := ⟨w.heap.size, 5, none⟩) (by simp; omega) _
      have hT5 : Blk ((w4.drew.setCell ⟨w.heap.size, 4, none⟩ (.int .i64 0)).setCell ⟨w.heap.size, 5, none⟩ (.int .i64 1)) w.heap.size 31 #[.int .i64 k, .string x, .int .i64 0, .slice none 0 0, .int .i64 0, .int .i64 1] := (hT4.drew.set_ 4 _).set_ 5 _
      have hK5 := (hK4.drew.setCell (p := ⟨w.heap.size, 4, none⟩) (.inr (Nat.le_refl _)) (.int .i64 0)).setCell (p := ⟨w.heap.size, 5, none⟩) (.inr (Nat.le_refl _)) (.int .i64 1)
      generalize (w4.drew.setCell ⟨w.heap.size, 4, none⟩ (.int .i64 0)).setCell ⟨w.heap.size, 5, none⟩ (.int .i64 1) = w5 at *
      clear hB4 hT4 hK4 c2 c6 f2 g4 g5 d4 d5
      have c2 : w5.cell? ⟨b, 2, none⟩ = some (.slice none 0 0) := hB5.cell 2
      have f2 := hB5.frozen 2
      have d0 : w5.cell? ⟨w.heap.size, 0, none⟩ = some (.int .i64 k) := hT5.cell 0
      have d1 : w5.cell? ⟨w.heap.size, 1, none⟩ = some (.string x) := hT5.cell 1
      have d2 : w5.cell? ⟨w.heap.size, 2, none⟩ = some (.int .i64 0) := hT5.cell 2
      have d3 : w5.cell? ⟨w.heap.size, 3, none⟩ = some (.slice none 0 0) := hT5.cell 3
      have d4 : w5.cell? ⟨w.heap.size, 4, none⟩ = some (.int .i64 0) := hT5.cell 4
      have d5 : w5.cell? ⟨w.heap.size, 5, none⟩ = some (.int .i64 1) := hT5.cell 5
      have c2a : (w5.alloc (.cells #[.int .i64 k, .string x, .int .i64 0, .slice none 0 0, .int .i64 0, .int .i64 1] 31)).cell? ⟨b, 2, none⟩ = some (.slice none 0 0) := (hB5.alloc (.cells #[.int .i64 k, .string x, .int .i64 0, .slice none 0 0, .int .i64 0, .int .i64 1] 31)).cell 2
      go_cut [] (fun wx => ∃ v, wx.ownsRow w.heap.size 31 6 v 1 (tokCells x k) ∧ wx.cell? ⟨b, 2, none⟩ = some v ∧ Keeps (fun i => i = b) w wx)
      case first =>
        go_region_law (first
          | (refine step_append_any _ rfl (.tmp 41) (.tmp 43) _ rfl w.heap.size 31 i0 _ 6 72 Tryz.underlying22 HI.out.1 HI.out.2.1 HI.out.2.2.1 HI.out.2.2.2 rfl (by decide) (.slice none 0 0) 0 [] ?_ (World.ownsRow_nil _ _ _ _) (w5.heap.size + 1) (some ⟨w5.heap.size, 0, none⟩) 1 1 (tokCells x k) ?_ ?_ ?_ ?_ ?_ ?_ ?_
             · rfl
             · rfl
             · exact tok_reads w5 x k
             · exact tok_one x k
             · unfold maxLen; omega
             · omega
             · have := hK5.size; simp at this ⊢ <;> omega
             intro v' w6 hown hgr _
             have hBx := (hB5.drew.alloc (.cells (tokCells x k).toArray 31)).grown hgr (by simp [Value.ownBlock])
             have hKx := (hK5.drew.alloc (.cells (tokCells x k).toArray 31)).trans (Keeps.of_grown hgr (fun g hg => by cases hg))
             obtain ⟨g6, cap6, rfl, hg6, hlt6⟩ := hown.form (by omega)
             have b2 : w6.cell? ⟨b, 2, none⟩ = some (.slice none 0 0) := hBx.cell 2
             have bf2 := hBx.frozen 2))
        all_goals
          go_wp2_with fail
          go_meet
          have hown' := ownsRow_setCell_below hown (a := ⟨b, 2, none⟩) hlt (.slice (some ⟨g6, 0, none⟩) 1 cap6)
          have hBy := hBx.set_ 2 (.slice (some ⟨g6, 0, none⟩) 1 cap6)
          have hKy := hKx.setCell (p := ⟨b, 2, none⟩) (.inl rfl) (.slice (some ⟨g6, 0, none⟩) 1 cap6)
          exact ⟨_, hown', hBy.cell 2, hKy⟩
      case rest =>
        obtain ⟨v, h1, h2, h3⟩ := hcut
        go_wp2_with fail
        go_ret
        exact ⟨rfl, v, h1, h2, h3⟩
end Go.Proofs.YteajmgkdiioflaaGreatDoor
