/- strs: an argument's text; strrev's function; a function of one text: the walks. -/
import Derived.Test.YtgjnmfjiolpikaaGreatDoorSbC
import Derived.Test.YtgjnmfjiolpikaaGreatDoorSbF
import Derived.Test.YtgjnmfjiolpikaaGreatDoorSbG
import Derived.Test.YtgjnmfjiolpikaaGreatDoorFnC
namespace Go.Proofs.YtgjnmfjiolpikaaGreatDoor
open Go Go.RowKit
set_option maxRecDepth 100000
namespace Sb
open Dp
theorem conv_textA (n : Int) (t : ByteArray) (A : Option Addr) (l c : Nat) (w : World) : Calls Tryz.prog 76 #[.agg #[.int .i64 3, .int .i64 n, .string t, .slice A l c]] w fun e w' => e = .returned (.tuple #[.string t, .int .i64 0]) ∧ Below w.heap.size w w' := by
  have B := (Below.refl w.heap.size w).alloc (Nat.le_refl _) (.cells #[.int .i64 3, .int .i64 n, .string t, .slice A l c] 25)
  go_enter Tryz.func76, Tryz.ntmps76
  go_wp2_with fail
  go_ret2
  exact ⟨rfl, B⟩
theorem sA (vs : List AV) (i : Nat) (n : Int) (t : ByteArray) (A : Option Addr) (l c : Nat) (hi : i < vs.length) (hv : vs.getD i default = (3, n, t, A, l, c)) (g cap : Nat) (w : World) (hA : ArgsA w g vs) :
    Calls Tryz.prog 16 #[.slice (some ⟨g, 0, none⟩) vs.length cap, .int .i64 i] w fun e w' => e = .returned (.string t) ∧ Below w.heap.size w w' := by
  obtain ⟨a0, a1, a2, a3⟩ := hA.2 i hi
  rw [hv] at a0 a1 a2 a3
  dsimp only at a0 a1 a2 a3
  have hI : (i : Int) < (vs.length : Int) := by omega
  have HC := Lib.hid (fun w => conv_textA n t A l c w)
  clear hv
  go_enter Tryz.func16, Tryz.ntmps16
  go_wp2_with (go_at_call 76; refine (HC.out _).mono ?_; rintro e w1 ⟨rfl, hb1⟩)
  go_ret
  exact ⟨rfl, hb1⟩
def revB (t : ByteArray) : ByteArray := ⟨t.data.toList.reverse.toArray⟩
theorem revB_twice (t : ByteArray) : revB (revB t) = t := by
  apply ByteArray.ext
  rw [← Array.toList_inj]
  simp [revB]
theorem revB_size (t : ByteArray) : (revB t).size = t.size := by
  show (t.data.toList.reverse.toArray).size = t.data.size
  simp
set_option maxHeartbeats 4000000 in
theorem rev_fn (t : ByteArray) (ht : t.size ≤ 1000000) (w : World) : Calls Tryz.prog 30 #[.string t] w fun e w' => e = .returned (.string (revB t)) ∧ Below w.heap.size w w' := by
  have hcv := run_bytes_of_string (P := Tryz.prog) w 9 56 5 t Tryz.underlying9 Tryz.underlying56 Tryz.underlying5
  have HS0 := Lib.hid (small_start w t)
  have hlen : t.data.toList.length = t.size := by simp
  go_enter Tryz.func30, Tryz.ntmps30
  go_upto_region 2 with fail
  obtain ⟨ic, hic⟩ : ∃ z, grownCap w t.size 0 5 = z := ⟨_, rfl⟩
  rw [hic] at HS0 ⊢
  generalize (w.alloc (.cells (bytesRow t ic) 5 ((bytesRow t ic).size, (bytesRow t ic).size + 1))).drew = wi at *
  have HR := Lib.hid (reverse_any w t.data.toList ic (by omega) wi HS0.out)
  rw [hlen] at HR
  clear hcv hic
  go_wp2_with (go_at_call 31; refine HR.out.mono ?_; rintro e w2 ⟨rfl, hs2⟩; have HS2 := Lib.hid hs2; clear hs2; refine Hid.out ?_)
  refine Lib.hid ?_
  have hcb := fun cap => run_convert_bytes_back (P := Tryz.prog) w2 56 9 5 ⟨w.heap.size, 0, none⟩ cap t.data.toList.reverse Tryz.underlying56 Tryz.underlying5 Tryz.underlying9 (fun j hj => by
    have h1 := (HS2.out.cell j hj).1
    rw [show (⟨w.heap.size, 0, none⟩ : Addr).add j = ⟨w.heap.size, j, none⟩ by unfold Addr.add; split <;> simp_all]
    exact h1)
  rw [List.length_reverse, hlen] at hcb
  go_wp2_with fail
  go_ret
  exact ⟨rfl, HS2.out.low⟩
theorem s_in (args : Array Value) (w : World) : (callFunc 16 args).run Tryz.prog w = .ok (.enter 16 args) w := enters_of Tryz.func16 (by kernel_rfl) rfl args w
theorem text_in (args : Array Value) (w : World) : (callFunc 52 args).run Tryz.prog w = .ok (.enter 52 args) w := enters_of Tryz.func52 (by kernel_rfl) rfl args w
theorem c_v {f : FuncId} {args : Array Value} {w : World} {x : Value} (h : Calls Tryz.prog f args w fun e w' => e = .returned x ∧ Below w.heap.size w w') : Calls Tryz.prog f args w fun e w' => ∃ v, e = .returned v ∧ v = x ∧ Below w.heap.size w w' :=
  h.mono (by rintro e w' ⟨rfl, h⟩; exact ⟨_, rfl, rfl, h⟩)
/-- A call of a function value as a step law. -/
theorem step_callD {P : Program} {ops : Array Oper} {o : Oper} {a : Act} {w : World} {K : Act → World → Prop} {Q : Exit → Act → World → Prop} {E : Prop} (hgd : o.guard = none) (x : Operand) (f : FuncId) (xs : Array Operand) (ats : Array TypeId)
    (ho : o.op = .call { callee := .value x, args := xs, argTypes := ats }) (hx : a.eval x = .func (.func f) #[] #[]) (args : Array Value) (hargs : xs.map a.eval = args)
    (eg : (callFunc f args).run P w = .ok (.enter f args) w) (R : Value → World → Prop) (hc : Calls P f args w fun e w' => ∃ v, e = .returned v ∧ R v w')
    (h : ∀ v w', R v w' → K (a.put o.dst v) w') : if Region.wanted o (yielded ops a.tmps) = true then Oper.wp P o a w K Q else E := by
  have hw : Region.wanted o (yielded ops a.tmps) = true := by simp [Region.wanted, hgd]
  rw [if_pos hw]
  obtain ⟨dst, op, ty, pos, after, guard⟩ := o
  simp only at ho hgd
  subst ho hgd
  unfold Oper.wp
  have he : (execOp a.eval { dst, op := .call { callee := .value x, args := xs, argTypes := ats }, type := ty, pos, after, guard := none }).run P w = .ok (.enter f args) w := by
    rw [← eg, ← hargs]
    simp [execOp, resolve, invoke, hx, Deferred.ofValue]
  rw [he, Oper.upon_enter]
  refine hc.mono ?_
  rintro e w' ⟨v, rfl, hR⟩
  exact h v w' hR
theorem ans_text (w' : World) (S : Nat → Prop) (u : ByteArray) : VIn w' S (.mk 3 0 u []) (ansV 3 0 u none 0 0) := VIn.mk 3 0 u [] none 0 0 0 (fun _ => .nilIface) (Nat.zero_le _) (Nat.zero_le _) (fun h => absurd h (Nat.lt_irrefl 0)) (fun i it h => by simp at h) (fun i it h => by simp at h)
set_option maxHeartbeats 4000000 in
/-- A function of one text to a text. -/
theorem of_do (fid : FuncId) (n : Int) (t u : ByteArray) (Aa : Option Addr) (la ca : Nat) (hin : ∀ args w, (callFunc fid args).run Tryz.prog w = .ok (.enter fid args) w) (g cap c : Nat) (w : World) (hA : ArgsA w g [(3, n, t, Aa, la, ca)]) (hc : w.cell? ⟨c, 0, none⟩ = some (.func (.func fid) #[] #[]))
    (hf : ∀ wz, Below w.heap.size w wz → Calls Tryz.prog fid #[.string t] wz fun e w' => e = .returned (.string u) ∧ Below wz.heap.size wz w') :
    Calls Tryz.prog 77 #[.slice (some ⟨g, 0, none⟩) 1 cap, .pointer (some ⟨c, 0, none⟩)] w fun e w' => e = .returned (.tuple #[.agg #[.int .i64 3, .int .i64 0, .string u, .slice none 0 0], .int .i64 0]) ∧ Below w.heap.size w w' := by
  have HS := Lib.hid (fun w hA => sA [(3, n, t, Aa, la, ca)] 0 n t Aa la ca (by simp) rfl g cap w hA)
  have HF := Lib.hid hf
  have HT := Lib.hid (fun w => text_any u w)
  have HZ0 := Lib.hid (Blk.new w 25 #[.int .i64 0, .int .i64 0, .string ⟨#[]⟩, .slice none 0 0])
  have HB0 := Lib.hid ((Below.refl w.heap.size w).alloc (Nat.le_refl _) (.cells #[.int .i64 0, .int .i64 0, .string ⟨#[]⟩, .slice none 0 0] 25))
  have HA0 := Lib.hid (hA.below HB0.out (Nat.le_refl _))
  have hcl : c < w.heap.size := World.block_lt_of_cell? w _ hc
  have hc0 := (HB0.out.cell (p := ⟨c, 0, none⟩) hcl).trans hc
  have hsz : (w.alloc (.cells #[.int .i64 0, .int .i64 0, .string ⟨#[]⟩, .slice none 0 0] 25)).heap.size = w.heap.size + 1 := by simp
  have hcl0 : c < (w.alloc (.cells #[.int .i64 0, .int .i64 0, .string ⟨#[]⟩, .slice none 0 0] 25)).heap.size := by omega
  clear hA hc hf hsz
  go_enter Tryz.func77, Tryz.ntmps77
  go_wp2_with fail
  generalize w.alloc (.cells #[.int .i64 0, .int .i64 0, .string ⟨#[]⟩, .slice none 0 0] 25) = w0 at *
  go_cut [4] (fun x wx => x = .int .i64 0 ∧ Blk wx w.heap.size 25 #[.int .i64 3, .int .i64 0, .string u, .slice none 0 0] ∧ Below w.heap.size w wx)
  case first =>
    go_region_law (first
      | (refine step_callP rfl 16 _ _ rfl #[.slice (some ⟨g, 0, none⟩) 1 cap, .int .i64 0] (by simp [Act.eval, Act.put]) (s_in _ _) _ (c_v (HS.out w0.drew HA0.out)) ?_; rintro v w1 ⟨rfl, hb1⟩; have HB1 := Lib.hid (Below.mk (w' := w1) hb1.os hb1.tape hb1.output hb1.size hb1.block : Below w0.heap.size w0 w1); have hc1 := (HB1.out.cell (p := ⟨c, 0, none⟩) hcl0).trans hc0)
      | (refine step_callD rfl (.tmp 5) fid _ _ rfl (by simp [Act.eval, Act.put]) #[.string t] (by simp [Act.eval, Act.put]) (hin _ _) _ (c_v (HF.out _ (HB0.out.trans (HB1.out.mono HB0.out.size)))) ?_; rintro v w3 ⟨rfl, hb3⟩; have HB3 := Lib.hid hb3)
      | (refine step_callP rfl 52 _ _ rfl #[.string u] (by simp [Act.eval, Act.put]) (text_in _ _) _ (c_v (HT.out _)) ?_; rintro v w4 ⟨rfl, hb4⟩; have HZ4 := Lib.hid (((HZ0.out.keeps (Keeps.of_below (S := fun _ => False) HB1.out) id).keeps (Keeps.of_below (S := fun _ => False) HB3.out) id).keeps (Keeps.of_below (S := fun _ => False) hb4) id); have HB4 := Lib.hid (((HB0.out.trans (HB1.out.mono HB0.out.size)).trans (HB3.out.mono (Nat.le_trans HB0.out.size HB1.out.size))).trans (hb4.mono (Nat.le_trans (Nat.le_trans HB0.out.size HB1.out.size) HB3.out.size))); have q0 : w4.cell? ⟨w.heap.size, 0, none⟩ = some (.int .i64 0) := HZ4.out.cell 0; have q1 : w4.cell? ⟨w.heap.size, 1, none⟩ = some (.int .i64 0) := HZ4.out.cell 1; have q2 : w4.cell? ⟨w.heap.size, 2, none⟩ = some (.string ⟨#[]⟩) := HZ4.out.cell 2; have q3 : w4.cell? ⟨w.heap.size, 3, none⟩ = some (.slice none 0 0) := HZ4.out.cell 3; have z0 := HZ4.out.frozen 0; have z1 := HZ4.out.frozen 1; have z2 := HZ4.out.frozen 2; have z3 := HZ4.out.frozen 3))
    all_goals
      go_wp2_with fail
      go_meet
      exact ⟨rfl, (((HZ4.out.set_ 0 _).set_ 1 _).set_ 2 _).set_ 3 _, (((HB4.out.setCell (p := ⟨w.heap.size, 0, none⟩) (Nat.le_refl _) _).setCell (p := ⟨w.heap.size, 1, none⟩) (Nat.le_refl _) _).setCell (p := ⟨w.heap.size, 2, none⟩) (Nat.le_refl _) _).setCell (p := ⟨w.heap.size, 3, none⟩) (Nat.le_refl _) _⟩
  case rest =>
    obtain ⟨rfl, HV7, HB7⟩ := hcut
    rename World => w7
    have e0 : w7.cell? ⟨w.heap.size, 0, none⟩ = some (.int .i64 3) := HV7.cell 0
    have e1 : w7.cell? ⟨w.heap.size, 1, none⟩ = some (.int .i64 0) := HV7.cell 1
    have e2 : w7.cell? ⟨w.heap.size, 2, none⟩ = some (.string u) := HV7.cell 2
    have e3 : w7.cell? ⟨w.heap.size, 3, none⟩ = some (.slice none 0 0) := HV7.cell 3
    go_wp2_with fail
    refine bodyPost_ret (v := .tuple #[.agg #[.int .i64 3, .int .i64 0, .string u, .slice none 0 0], .int .i64 0]) (by simp [results, Tryz.results77, go_sem, e0, e1, e2, e3]) rfl ?_
    exact ⟨rfl, HB7⟩
end Sb
end Go.Proofs.YtgjnmfjiolpikaaGreatDoor
