/- strs.Call, by its table. -/
import Derived.Test.YtjojfnhdegiebaaGreatDoorFnA
import Derived.Test.YtjojfnhdegiebaaGreatDoorWords
import Derived.Laws.EntriesVeiled
namespace Go.Proofs.YtjojfnhdegiebaaGreatDoor
open Go.RowKit
/-- A lookup whose run is known. -/
theorem wpList_lookup_run {P : Program} (w : World) {ops : Array Oper} {rest : List Oper} {o : Oper} {a : Act} {Q : Exit → Act → World → Prop} (hg : o.guard = none) (m x : Operand) (t : TypeId) (ok : Bool) (hop : o.op = Op.lookup t m x ok)
    (y : Value) (hrun : (Instr.lookup t (a.eval m) (a.eval x) ok).run P w = .ok y w) (hK : wpList P ops Q rest (a.put o.dst y) w) : wpList P ops Q (o :: rest) a w := by
  refine wpList_plain hg fun K' hK' => ?_
  unfold Oper.wp
  simp [execOp, hop, hrun, Result.andThen]
  exact hK' _ _ hK

theorem look_run {w : World} {b : Nat} {es : Array MapEntry} {clock i : Nat} {nm : ByteArray} {v : Value} (hb : w.heap[b]? = some (.map es clock)) (h : Instr.findNow .string (.string nm) es.toList 0 = some (some (i, v))) :
    (Instr.lookup 42 (.map (some b)) (.string nm) true).run Tryz.prog w = .ok (.tuple #[v, .bool true]) w := by
  have hgo := Ev.run_getObj (P := Tryz.prog) hb (fun a e f => by simp)
  unfold Instr.lookup
  simp [run_underlying Tryz.underlying42, hgo, Ev.run_checkKey' (P := Tryz.prog) Tryz.underlying9 rfl, Ev.run_findKey' (P := Tryz.prog) Tryz.underlying9 h]
/-- Plain values as arguments: kind, number, text. -/
abbrev PV := Int × Int × ByteArray
/-- The arguments of a call. -/
def ArgsAt (w : World) (g : Nat) (vs : List PV) : Prop := g < w.heap.size ∧ ∀ i, i < vs.length → w.cell? ⟨g, i * 4, none⟩ = some (.int .i64 (vs.getD i default).1) ∧ w.cell? ⟨g, i * 4 + 1, none⟩ = some (.int .i64 (vs.getD i default).2.1) ∧
  w.cell? ⟨g, i * 4 + 2, none⟩ = some (.string (vs.getD i default).2.2) ∧ w.cell? ⟨g, i * 4 + 3, none⟩ = some (.slice none 0 0)
theorem ArgsAt.below {w w' : World} {g : Nat} {vs : List PV} (h : ArgsAt w g vs) {B : Nat} (hb : Below B w w') (hB : w.heap.size ≤ B) : ArgsAt w' g vs :=
  ⟨Nat.lt_of_lt_of_le h.1 hb.size, fun i hi => by
    obtain ⟨a, b, c, d⟩ := h.2 i hi
    have hg : g < B := Nat.lt_of_lt_of_le h.1 hB
    exact ⟨(hb.cell (p := ⟨g, _, none⟩) hg).trans a, (hb.cell (p := ⟨g, _, none⟩) hg).trans b, (hb.cell (p := ⟨g, _, none⟩) hg).trans c, (hb.cell (p := ⟨g, _, none⟩) hg).trans d⟩⟩
set_option maxRecDepth 100000 in
theorem taken_si (c : Int) (hc : c = 115 ∨ c = 105) (k n : Int) (t : ByteArray) (h0 : 0 ≤ k) (h1 : k ≤ 3) (w : World) : Calls Tryz.prog 16 #[.int .u8 c, .agg #[.int .i64 k, .int .i64 n, .string t, .slice none 0 0]] w fun e w' => e = .returned (.bool true) ∧ Below w.heap.size w w' := by
  have B := (Below.refl w.heap.size w).alloc (Nat.le_refl _) (.cells #[.int .i64 k, .int .i64 n, .string t, .slice none 0 0] 25)
  rcases hc with rfl | rfl
  · go_enter Tryz.func16, Tryz.ntmps16
    go_wp2_with fail
    go_ret
    exact ⟨rfl, B⟩
  · go_enter Tryz.func16, Tryz.ntmps16
    go_wp2_with fail
    go_ret
    exact ⟨rfl, B⟩
/-- A Go call as a step law for go_region_law. -/
theorem step_callP {P : Program} {ops : Array Oper} {o : Oper} {a : Act} {w : World} {K : Act → World → Prop} {Q : Exit → Act → World → Prop} {E : Prop} (hgd : o.guard = none) (f : FuncId) (xs : Array Operand) (ats : Array TypeId)
    (ho : o.op = .call { callee := .value (.func f), args := xs, argTypes := ats }) (args : Array Value) (hargs : #[] ++ xs.map a.eval ++ #[] = args)
    (eg : (callFunc f args).run P w = .ok (.enter f args) w) (R : Value → World → Prop) (hc : Calls P f args w fun e w' => ∃ v, e = .returned v ∧ R v w')
    (h : ∀ v w', R v w' → K (a.put o.dst v) w') : if Region.wanted o (yielded ops a.tmps) = true then Oper.wp P o a w K Q else E := by
  have hw : Region.wanted o (yielded ops a.tmps) = true := by simp [Region.wanted, hgd]
  rw [if_pos hw]
  obtain ⟨dst, op, ty, pos, after, guard⟩ := o
  simp only at ho hgd
  subst ho hgd
  unfold Oper.wp
  rw [execOp_call_go, hargs, eg, Oper.upon_enter]
  refine hc.mono ?_
  rintro e w' ⟨v, rfl, hR⟩
  exact h v w' hR
theorem taken_in (args : Array Value) (w : World) : (callFunc 16 args).run Tryz.prog w = .ok (.enter 16 args) w := enters_of Tryz.func16 (by kernel_rfl) rfl args w
theorem taken_v (c : Int) (hc : c = 115 ∨ c = 105) (k n : Int) (t : ByteArray) (h0 : 0 ≤ k) (h1 : k ≤ 3) (w : World) : Calls Tryz.prog 16 #[.int .u8 c, .agg #[.int .i64 k, .int .i64 n, .string t, .slice none 0 0]] w fun e w' => ∃ v, e = .returned v ∧ v = .bool true ∧ Below w.heap.size w w' :=
  (taken_si c hc k n t h0 h1 w).mono (by rintro e w' ⟨rfl, h⟩; exact ⟨_, rfl, rfl, h⟩)
set_option maxRecDepth 100000 in
set_option maxHeartbeats 1000000 in
theorem call_any (nm tk : ByteArray) (must : Nat) (many : Bool) (fid : FuncId) (Cap : World → Array Value → Prop) (vs : List PV) (rk rn : Int) (rt : ByteArray) (m : Int) (w : World) (hL : LibS m w) (g cap : Nat)
    (hent : ∀ w' b, FnAt w' b → ∃ es clock i ca, w'.heap[b]? = some (.map es clock) ∧ Instr.findNow .string (.string nm) es.toList 0 = some (some (i, .agg #[.string tk, .int .i64 must, .bool many, .func (.func fid) #[] ca])) ∧ Cap w' ca)
    (hcap : ∀ w' w'' ca, Cap w' ca → Below w'.heap.size w' w'' → Cap w'' ca)
    (hn : must ≤ vs.length) (hm : vs.length ≤ tk.size) (htz : tk.size ≤ 1000) (hk : ∀ i, i < vs.length → 0 ≤ (vs.getD i default).1 ∧ (vs.getD i default).1 ≤ 3)
    (htk : ∀ i (h : i < tk.size), tk[i] = 115 ∨ tk[i] = 105) (hA : ArgsAt w g vs) (hrt : rt.size ≤ 65536)
    (hin : ∀ args w, (callFunc fid args).run Tryz.prog w = .ok (.enter fid args) w)
    (hdo : ∀ w' ca, LibS m w' → ArgsAt w' g vs → Cap w' ca → Calls Tryz.prog fid (#[.slice (some ⟨g, 0, none⟩) vs.length cap] ++ ca) w' fun e w'' => e = .returned (.tuple #[.agg #[.int .i64 rk, .int .i64 rn, .string rt, .slice none 0 0], .int .i64 0]) ∧ Below w'.heap.size w' w'') :
    Calls Tryz.prog 8 #[.string nm, .slice (some ⟨g, 0, none⟩) vs.length cap] w fun e w' => e = .returned (.tuple #[.agg #[.int .i64 rk, .int .i64 rn, .string rt, .slice none 0 0], .int .i64 0]) ∧ Below w.heap.size w w' := by
  have H := Lib.hid (fn_any (w.alloc (.cells #[.int .i64 0, .int .i64 0, .string ⟨#[]⟩, .slice none 0 0] 25)) (hL.below ((Below.refl w.heap.size w).alloc (Nat.le_refl _) _)))
  go_enter Tryz.func8, Tryz.ntmps8
  go_wp2_with fail
  refine H.out.mono ?_
  rintro e w1 ⟨b, rfl, hfn, hb1⟩
  obtain ⟨es, clock, i0, ca, hmp, hfd, hcp⟩ := hent w1 b hfn
  have hlook := Lib.hid (look_run hmp hfd)
  have hno1 : ¬ ((vs.length : Int) < (must : Int)) := by omega
  have hno2 : ¬ ((tk.size : Int) < (vs.length : Int)) := by omega
  have hno3 : ¬ (vs.length < must) := by omega
  have hno4 : ¬ (tk.size < vs.length) := by omega
  have HN := Lib.hid (Blk.new w1 40 #[.string ⟨#[]⟩, .int .i64 0, .bool false, .nilFunc])
  have z0 := HN.out.frozen 0
  have z1 := HN.out.frozen 1
  have z2 := HN.out.frozen 2
  have z3 := HN.out.frozen 3
  have n0 : (w1.alloc (.cells #[.string ⟨#[]⟩, .int .i64 0, .bool false, .nilFunc] 40)).cell? ⟨w1.heap.size, 0, none⟩ = some (.string ⟨#[]⟩) := HN.out.cell 0
  have n1 : (w1.alloc (.cells #[.string ⟨#[]⟩, .int .i64 0, .bool false, .nilFunc] 40)).cell? ⟨w1.heap.size, 1, none⟩ = some (.int .i64 0) := HN.out.cell 1
  have n2 : (w1.alloc (.cells #[.string ⟨#[]⟩, .int .i64 0, .bool false, .nilFunc] 40)).cell? ⟨w1.heap.size, 2, none⟩ = some (.bool false) := HN.out.cell 2
  have n3 : (w1.alloc (.cells #[.string ⟨#[]⟩, .int .i64 0, .bool false, .nilFunc] 40)).cell? ⟨w1.heap.size, 3, none⟩ = some .nilFunc := HN.out.cell 3
  have HN2 := Lib.hid (Blk.new w1 40 #[.string tk, .int .i64 must, .bool many, .nilFunc])
  have y3 : (w1.alloc (.cells #[.string tk, .int .i64 must, .bool many, .nilFunc] 40)).cell? ⟨w1.heap.size, 3, none⟩ = some .nilFunc := HN2.out.cell 3
  have x3 := HN2.out.frozen 3
  have hlook2 := Lib.hid (look_run (w := w1.alloc (.cells #[.string ⟨#[]⟩, .int .i64 0, .bool false, .nilFunc] 40)) ((Below.heap_alloc w1 _ b (by have := (Array.getElem?_eq_some_iff.1 hmp).1; exact this)).trans hmp) hfd)
  go_wp2_with (at_lookup; first | refine wpList_lookup_run _ rfl _ _ _ true rfl _ hlook.out ?_ | refine wpList_lookup_run _ rfl _ _ _ true rfl _ hlook2.out ?_)
  have hV0 : Blk w1 w.heap.size 25 #[.int .i64 0, .int .i64 0, .string ⟨#[]⟩, .slice none 0 0] := (Blk.new w _ _).keeps (Keeps.of_below (S := fun _ => False) hb1) id
  have HV1 := Lib.hid (hV0.alloc (.cells #[.string tk, .int .i64 must, .bool many, .func (.func fid) #[] ca] 40))
  have HF1 := Lib.hid (Blk.new w1 40 #[.string tk, .int .i64 must, .bool many, .func (.func fid) #[] ca])
  have hb0 := (Below.refl w.heap.size w).alloc (Nat.le_refl _) (.cells #[.int .i64 0, .int .i64 0, .string ⟨#[]⟩, .slice none 0 0] 25)
  have hb2 := (hb0.trans (hb1.mono hb0.size))
  have HB1 := Lib.hid (hb2.alloc hb2.size (.cells #[.string tk, .int .i64 must, .bool many, .func (.func fid) #[] ca] 40))
  have HC1 := Lib.hid (hcap _ _ _ hcp ((Below.refl w1.heap.size w1).alloc (Nat.le_refl _) (.cells #[.string tk, .int .i64 must, .bool many, .func (.func fid) #[] ca] 40)))
  have hlt1 : w.heap.size < w1.heap.size := hV0.lt
  clear HN HN2 z0 z1 z2 z3 n0 n1 n2 n3 y3 x3 hlook hlook2 hV0 hb0 hb2 hcp hfd hmp hfn hb1 H hent
  have HA := Lib.hid hA
  have HK := Lib.hid hk
  have HT := Lib.hid htk
  have HD := Lib.hid hdo
  have HCP := Lib.hid hcap
  have HL := Lib.hid hL
  clear hA hk htk hdo hcap hL
  go_loopg [51] vs.length (fun gk r wx => ∃ i : Nat, i + gk = vs.length ∧ r = .int .i64 i ∧ Hid (Below w.heap.size w wx) ∧ Hid (Blk wx w1.heap.size 40 #[.string tk, .int .i64 must, .bool many, .func (.func fid) #[] ca]) ∧
    Hid (Blk wx w.heap.size 25 #[.int .i64 0, .int .i64 0, .string ⟨#[]⟩, .slice none 0 0]) ∧ Hid (Cap wx ca))
  case atStart => exact ⟨0, by omega, rfl, HB1, HF1, HV1, HC1⟩
  case round =>
    clear HB1 HF1 HV1 HC1
    obtain ⟨i, hig, rfl, HB, HF, HV, HC⟩ := hrel
    by_cases hlt : i < vs.length
    · obtain ⟨a0, a1, a2, a3⟩ := (HA.out.below HB.out (Nat.le_refl _)).2 i hlt
      obtain ⟨k0, k1⟩ := HK.out i hlt
      have hti : i < tk.size := by omega
      have hc := HT.out i hti
      have hcc : ((tk[i].toNat : Int)) = 115 ∨ (tk[i].toNat : Int) = 105 := by rcases hc with h | h <;> rw [h] <;> simp
      have hI : (i : Int) < (vs.length : Int) := by omega
      have hmin : min (i : Int) ((tk.size : Int) - 1) = (i : Int) := by omega
      have hw1 : IntKind.i64.wrap ((tk.size : Int) - 1) = (tk.size : Int) - 1 := IntWalk.i64_in _ (by omega)
      generalize vs.getD i default = v at *
      obtain ⟨vk, vn, vt⟩ := v
      dsimp only at a0 a1 a2 a3 k0 k1
      have HN := Lib.hid (Blk.new wr 25 #[.int .i64 0, .int .i64 0, .string ⟨#[]⟩, .slice none 0 0])
      have z0 := HN.out.frozen 0
      have z1 := HN.out.frozen 1
      have z2 := HN.out.frozen 2
      have z3 := HN.out.frozen 3
      go_wp2_with fail
      have HN2 := Lib.hid (Blk.new wr 25 #[.int .i64 vk, .int .i64 vn, .string vt, .slice none 0 0])
      have HF2 := Lib.hid (HF.out.alloc (.cells #[.int .i64 vk, .int .i64 vn, .string vt, .slice none 0 0] 25))
      have HV2 := Lib.hid (HV.out.alloc (.cells #[.int .i64 vk, .int .i64 vn, .string vt, .slice none 0 0] 25))
      have HB2 := Lib.hid (HB.out.alloc HB.out.size (.cells #[.int .i64 vk, .int .i64 vn, .string vt, .slice none 0 0] 25))
      have HC2 := Lib.hid (HCP.out _ _ _ HC.out ((Below.refl wr.heap.size wr).alloc (Nat.le_refl _) (.cells #[.int .i64 vk, .int .i64 vn, .string vt, .slice none 0 0] 25)))
      generalize wr.alloc (.cells #[.int .i64 vk, .int .i64 vn, .string vt, .slice none 0 0] 25) = w3 at *
      clear HN z0 z1 z2 z3 a0 a1 a2 a3
      have b0 : w3.cell? ⟨wr.heap.size, 0, none⟩ = some (.int .i64 vk) := HN2.out.cell 0
      have b1 : w3.cell? ⟨wr.heap.size, 1, none⟩ = some (.int .i64 vn) := HN2.out.cell 1
      have b2 : w3.cell? ⟨wr.heap.size, 2, none⟩ = some (.string vt) := HN2.out.cell 2
      have b3 : w3.cell? ⟨wr.heap.size, 3, none⟩ = some (.slice none 0 0) := HN2.out.cell 3
      have f0 : w3.cell? ⟨w1.heap.size, 0, none⟩ = some (.string tk) := HF2.out.cell 0
      go_cut [67] (fun r wx => r = .bool false ∧ Below w3.heap.size w3 wx)
      case first =>
        go_region_law (first
          | (refine step_callP rfl 16 _ _ rfl #[.int .u8 tk[i].toNat, .agg #[.int .i64 vk, .int .i64 vn, .string vt, .slice none 0 0]] (by simp [Act.eval, Act.put]) (taken_in _ _) _ (taken_v _ hcc vk vn vt k0 k1 _) ?_; rintro v w4 ⟨rfl, hb4⟩))
        all_goals
          go_wp2_with fail
          simp only [Act.put, List.getElem_toArray, List.getElem_cons_succ, List.getElem_cons_zero, List.setIfInBounds_toArray, List.set_cons_succ, List.set_cons_zero]
          go_meet
          exact ⟨rfl, ⟨hb4.os, hb4.tape, hb4.output, hb4.size, hb4.block⟩⟩
      case rest =>
        obtain ⟨rfl, hb4⟩ := hcut
        go_wp2_with fail
        go_roundg (gk - 1)
        case rel => exact ⟨i + 1, by omega, by go_num, HB2.out.trans (hb4.mono HB2.out.size), HF2.out.keeps (Keeps.of_below (S := fun _ => False) hb4) id, HV2.out.keeps (Keeps.of_below (S := fun _ => False) hb4) id, HCP.out _ _ _ HC2.out hb4⟩
        case measure => omega
    · have hI : ¬ ((i : Int) < (vs.length : Int)) := by omega
      have f3 : wr.cell? ⟨w1.heap.size, 3, none⟩ = some (.func (.func fid) #[] ca) := HF.out.cell 3
      have v0 : wr.cell? ⟨w.heap.size, 0, none⟩ = some (.int .i64 0) := HV.out.cell 0
      have v1 : wr.cell? ⟨w.heap.size, 1, none⟩ = some (.int .i64 0) := HV.out.cell 1
      have v2 : wr.cell? ⟨w.heap.size, 2, none⟩ = some (.string ⟨#[]⟩) := HV.out.cell 2
      have v3 : wr.cell? ⟨w.heap.size, 3, none⟩ = some (.slice none 0 0) := HV.out.cell 3
      have HD2 := Lib.hid (HD.out wr ca (HL.out.below HB.out) (HA.out.below HB.out (Nat.le_refl _)) HC.out)
      have hin2 := hin (#[.slice (some ⟨g, 0, none⟩) vs.length cap] ++ ca) wr
      go_wp2_with fail
      refine HD2.out.mono ?_
      rintro e w5 ⟨rfl, hb5⟩
      have HB5 := Lib.hid (HB.out.trans (hb5.mono HB.out.size))
      have HV5 := Lib.hid (HV.out.keeps (Keeps.of_below (S := fun _ => False) hb5) id)
      clear f3 v0 v1 v2 v3 hb5 HD2 hin2
      have v0 : w5.cell? ⟨w.heap.size, 0, none⟩ = some (.int .i64 0) := HV5.out.cell 0
      have v1 : w5.cell? ⟨w.heap.size, 1, none⟩ = some (.int .i64 0) := HV5.out.cell 1
      have v2 : w5.cell? ⟨w.heap.size, 2, none⟩ = some (.string ⟨#[]⟩) := HV5.out.cell 2
      have v3 : w5.cell? ⟨w.heap.size, 3, none⟩ = some (.slice none 0 0) := HV5.out.cell 3
      go_wp2_with fail
      have HR6 := Lib.hid (Blk.new w5 25 #[.int .i64 rk, .int .i64 rn, .string rt, .slice none 0 0])
      have HV6 := Lib.hid (HV5.out.alloc (.cells #[.int .i64 rk, .int .i64 rn, .string rt, .slice none 0 0] 25))
      have HB6 := Lib.hid (HB5.out.alloc HB5.out.size (.cells #[.int .i64 rk, .int .i64 rn, .string rt, .slice none 0 0] 25))
      generalize w5.alloc (.cells #[.int .i64 rk, .int .i64 rn, .string rt, .slice none 0 0] 25) = w6 at *
      clear v0 v1 v2 v3 HV5 HB5
      have hrtI : ¬ ((65536 : Int) < (rt.size : Int)) := by omega
      go_loopg [12, 85] 1 (fun n q r wx => w6 = wx ∧ q = .int .i64 rt.size ∧ r = .int .i64 0)
      case atStart => exact ⟨rfl, rfl, rfl⟩
      case round =>
        obtain ⟨rfl, rfl, rfl⟩ := hrel
        have v0 : w6.cell? ⟨w.heap.size, 0, none⟩ = some (.int .i64 0) := HV6.out.cell 0
        have v1 : w6.cell? ⟨w.heap.size, 1, none⟩ = some (.int .i64 0) := HV6.out.cell 1
        have v2 : w6.cell? ⟨w.heap.size, 2, none⟩ = some (.string ⟨#[]⟩) := HV6.out.cell 2
        have v3 : w6.cell? ⟨w.heap.size, 3, none⟩ = some (.slice none 0 0) := HV6.out.cell 3
        have z0 := HV6.out.frozen 0
        have z1 := HV6.out.frozen 1
        have z2 := HV6.out.frozen 2
        have z3 := HV6.out.frozen 3
        have r0 : w6.cell? ⟨w5.heap.size, 0, none⟩ = some (.int .i64 rk) := HR6.out.cell 0
        have r1 : w6.cell? ⟨w5.heap.size, 1, none⟩ = some (.int .i64 rn) := HR6.out.cell 1
        have r2 : w6.cell? ⟨w5.heap.size, 2, none⟩ = some (.string rt) := HR6.out.cell 2
        have r3 : w6.cell? ⟨w5.heap.size, 3, none⟩ = some (.slice none 0 0) := HR6.out.cell 3
        go_wp2_with fail
        have HV7 := (((HV6.out.set_ 0 (.int .i64 rk)).set_ 1 (.int .i64 rn)).set_ 2 (.string rt)).set_ 3 (.slice none 0 0)
        have HB7 := (((HB6.out.setCell (p := ⟨w.heap.size, 0, none⟩) (Nat.le_refl _) (.int .i64 rk)).setCell (p := ⟨w.heap.size, 1, none⟩) (Nat.le_refl _) (.int .i64 rn)).setCell (p := ⟨w.heap.size, 2, none⟩) (Nat.le_refl _) (.string rt)).setCell (p := ⟨w.heap.size, 3, none⟩) (Nat.le_refl _) (.slice none 0 0)
        generalize (((w6.setCell ⟨w.heap.size, 0, none⟩ (.int .i64 rk)).setCell ⟨w.heap.size, 1, none⟩ (.int .i64 rn)).setCell ⟨w.heap.size, 2, none⟩ (.string rt)).setCell ⟨w.heap.size, 3, none⟩ (.slice none 0 0) = w7 at *
        have e0 : w7.cell? ⟨w.heap.size, 0, none⟩ = some (.int .i64 rk) := HV7.cell 0
        have e1 : w7.cell? ⟨w.heap.size, 1, none⟩ = some (.int .i64 rn) := HV7.cell 1
        have e2 : w7.cell? ⟨w.heap.size, 2, none⟩ = some (.string rt) := HV7.cell 2
        have e3 : w7.cell? ⟨w.heap.size, 3, none⟩ = some (.slice none 0 0) := HV7.cell 3
        refine bodyPost_ret (v := .tuple #[.agg #[.int .i64 rk, .int .i64 rn, .string rt, .slice none 0 0], .int .i64 0]) (by simp [results, Tryz.results8, go_sem, e0, e1, e2, e3]) rfl ?_
        exact ⟨rfl, HB7⟩
end Go.Proofs.YtjojfnhdegiebaaGreatDoor
