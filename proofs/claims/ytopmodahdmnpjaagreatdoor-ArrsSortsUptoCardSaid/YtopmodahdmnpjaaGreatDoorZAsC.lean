/- arrs.Call at any arguments, with an answer that is a list that may be: the walk. -/
import Derived.Test.YtopmodahdmnpjaaGreatDoorZArB
import Derived.Test.YtopmodahdmnpjaaGreatDoorZAsW
import Derived.Test.YtopmodahdmnpjaaGreatDoorZAppsQ
namespace Go.Proofs.YtopmodahdmnpjaaGreatDoor
open Go Go.RowKit
namespace As
open Dp
/-- A Go call as a step law for go_region_law. -/
theorem step_callP {P : Program} {ops : Array Oper} {o : Oper} {a : Act} {w : World} {K : Act → World → Prop} {Q : Exit → Act → World → Prop} {E : Prop} (hgd : o.guard = none) (f : FuncId) (xs : Array Operand) (ats : Array TypeId)
    (ho : o.op = .call { callee := .value (.func f), args := xs, argTypes := ats }) (args : Array Value) (hargs : #[] ++ xs.map a.eval ++ #[] = args)
    (eg : (callFunc f args).run P w = .ok (.enter f args) w) (R : Value → World → Prop) (hc : Calls P f args w fun e w' => ∃ v, e = .returned v ∧ R v w')
    (h : ∀ v w', R v w' → K (a.put o.dst v) w') : if Region.wanted o (yielded ops a.tmps) = true then Oper.wp P o a w K Q else E := by
  have hw : Region.wanted o (yielded ops a.tmps) = true := by simp [Region.wanted, hgd]
  rw [if_pos hw]
  obtain ⟨dst, op, ty, pos, after, guard⟩ := o
  simp only at ho hgd
  subst ho hgd
  unfold Oper.wp
  rw [execOp_call_go, hargs, eg, Oper.upon_enter]
  refine hc.mono ?_
  rintro e w' ⟨v, rfl, hR⟩
  exact h v w' hR
theorem taken_in (args : Array Value) (w : World) : (callFunc 13 args).run Tryz.prog w = .ok (.enter 13 args) w := enter_of Tryz.func13 (by kernel_rfl) rfl args w
/-- A value as an argument: kind, number, text, items. -/
abbrev AV := Int × Int × ByteArray × Option Addr × Nat × Nat
def avV (v : AV) : Value := .agg #[.int .i64 v.1, .int .i64 v.2.1, .string v.2.2.1, .slice v.2.2.2.1 v.2.2.2.2.1 v.2.2.2.2.2]
/-- The arguments of a call. -/
def ArgsA (w : World) (g : Nat) (vs : List AV) : Prop := g < w.heap.size ∧ ∀ i, i < vs.length → w.cell? ⟨g, i * 4, none⟩ = some (.int .i64 (vs.getD i default).1) ∧ w.cell? ⟨g, i * 4 + 1, none⟩ = some (.int .i64 (vs.getD i default).2.1) ∧
  w.cell? ⟨g, i * 4 + 2, none⟩ = some (.string (vs.getD i default).2.2.1) ∧ w.cell? ⟨g, i * 4 + 3, none⟩ = some (.slice (vs.getD i default).2.2.2.1 (vs.getD i default).2.2.2.2.1 (vs.getD i default).2.2.2.2.2)
theorem ArgsA.below {w w' : World} {g : Nat} {vs : List AV} (h : ArgsA w g vs) {B : Nat} (hb : Below B w w') (hB : w.heap.size ≤ B) : ArgsA w' g vs :=
  ⟨Nat.lt_of_lt_of_le h.1 hb.size, fun i hi => by
    obtain ⟨a, b, c, d⟩ := h.2 i hi
    have hg : g < B := Nat.lt_of_lt_of_le h.1 hB
    exact ⟨(hb.cell (p := ⟨g, _, none⟩) hg).trans a, (hb.cell (p := ⟨g, _, none⟩) hg).trans b, (hb.cell (p := ⟨g, _, none⟩) hg).trans c, (hb.cell (p := ⟨g, _, none⟩) hg).trans d⟩⟩
theorem taken_w {xs : Array Value} {w : World} (h : Calls Tryz.prog 13 xs w fun e w' => e = .returned (.bool true) ∧ Below w.heap.size w w') : Calls Tryz.prog 13 xs w fun e w' => ∃ v, e = .returned v ∧ v = .bool true ∧ Below w.heap.size w w' :=
  h.mono (by rintro e w' ⟨rfl, h⟩; exact ⟨_, rfl, rfl, h⟩)
def zeroV : Value := .agg #[.int .i64 0, .int .i64 0, .string ⟨#[]⟩, .slice none 0 0]
def ansV (rk rn : Int) (rt : ByteArray) (A : Option Addr) (l c : Nat) : Value := .agg #[.int .i64 rk, .int .i64 rn, .string rt, .slice A l c]
set_option maxRecDepth 100000 in
theorem wrong_any (er : Int) (w : World) : Calls Tryz.prog 12 #[.int .i64 er] w fun e w' => e = .returned (.tuple #[.agg #[.int .i64 0, .int .i64 0, .string ⟨#[]⟩, .slice none 0 0], .int .i64 er]) ∧ Below w.heap.size w w' := by
  have B := (Below.refl w.heap.size w).alloc (Nat.le_refl _) (.cells #[.int .i64 0, .int .i64 0, .string ⟨#[]⟩, .slice none 0 0] 24)
  have HN := Blk.new w 24 #[.int .i64 0, .int .i64 0, .string ⟨#[]⟩, .slice none 0 0]
  go_enter Tryz.func12, Tryz.ntmps12
  go_wp2_with fail
  generalize w.alloc (.cells #[.int .i64 0, .int .i64 0, .string ⟨#[]⟩, .slice none 0 0] 24) = w1 at *
  have e0 : w1.cell? ⟨w.heap.size, 0, none⟩ = _ := HN.cell 0
  have e1 : w1.cell? ⟨w.heap.size, 1, none⟩ = _ := HN.cell 1
  have e2 : w1.cell? ⟨w.heap.size, 2, none⟩ = _ := HN.cell 2
  have e3 : w1.cell? ⟨w.heap.size, 3, none⟩ = _ := HN.cell 3
  simp at e0 e1 e2 e3
  refine bodyPost_ret (v := .tuple #[.agg #[.int .i64 0, .int .i64 0, .string ⟨#[]⟩, .slice none 0 0], .int .i64 er]) (by simp [results, Tryz.results12, go_sem, e0, e1, e2, e3]) rfl ?_
  exact ⟨rfl, B⟩
set_option maxRecDepth 100000 in
set_option maxHeartbeats 8000000 in
theorem call_list (Good : GV → Prop) (hGood : ∀ g, Good g → Fit g ∧ Sml g ∧ rightB g = true) (nm tk : ByteArray) (must : Nat) (many : Bool) (fid : FuncId) (Cap : World → Array Value → Prop) (vs : List AV) (m : Int) (w : World) (hL : LibA m w) (hLS : ∀ wz, Below w.heap.size w wz → LibS wz) (g cap : Nat)
    (hent : ∀ w' b, FnAt w' b → ∃ es clock i ca, w'.heap[b]? = some (.map es clock) ∧ Instr.findNow .string (.string nm) es.toList 0 = some (some (i, .agg #[.string tk, .int .i64 must, .bool many, .func (.func fid) #[] ca])) ∧ Cap w' ca)
    (hcap : ∀ w' w'' ca, Cap w' ca → Below w'.heap.size w' w'' → Cap w'' ca)
    (hn : must ≤ vs.length) (hm : vs.length ≤ tk.size) (htz : tk.size ≤ 1000)
    (htk : ∀ i (h : i < tk.size), i < vs.length → ∀ wz, Below w.heap.size w wz → Calls Tryz.prog 13 #[.int .u8 tk[i].toNat, avV (vs.getD i default)] wz fun e w' => e = .returned (.bool true) ∧ Below wz.heap.size wz w')
    (hA : ArgsA w g vs)
    (hin : ∀ args w, (callFunc fid args).run Tryz.prog w = .ok (.enter fid args) w)
    (hdo : ∀ w' ca, LibA m w' → Below w.heap.size w w' → Cap w' ca → Calls Tryz.prog fid (#[.slice (some ⟨g, 0, none⟩) vs.length cap] ++ ca) w' fun e w'' => ∃ A c rn rl, e = .returned (.tuple #[ansV 4 rn ⟨#[]⟩ A rl.length c, .int .i64 0]) ∧ VAt w'' w''.heap.size (.mk 4 rn ⟨#[]⟩ rl) (ansV 4 rn ⟨#[]⟩ A rl.length c) ∧ Good (.mk 4 rn ⟨#[]⟩ rl) ∧ Below w'.heap.size w' w'') :
    Calls Tryz.prog 5 #[.string nm, .slice (some ⟨g, 0, none⟩) vs.length cap] w fun e w' => Below w.heap.size w w' ∧
      ∃ A c rn rl, e = .returned (.tuple #[ansV 4 rn ⟨#[]⟩ A rl.length c, .int .i64 0]) ∧ VIn w' (fun b => w.heap.size ≤ b ∧ b < w'.heap.size) (.mk 4 rn ⟨#[]⟩ rl) (ansV 4 rn ⟨#[]⟩ A rl.length c) ∧ Good (.mk 4 rn ⟨#[]⟩ rl) := by
  have H := Lib.hid (fn_any (w.alloc (.cells #[.int .i64 0, .int .i64 0, .string ⟨#[]⟩, .slice none 0 0] 24)) (hL.below ((Below.refl w.heap.size w).alloc (Nat.le_refl _) _)))
  go_enter Tryz.func5, Tryz.ntmps5
  go_wp2_with fail
  refine H.out.mono ?_
  rintro e w1 ⟨b, rfl, hfn, hb1⟩
  obtain ⟨es, clock, i0, ca, hmp, hfd, hcp⟩ := hent w1 b hfn
  have hlook := Lib.hid (look_run hmp hfd)
  have hno1 : ¬ ((vs.length : Int) < (must : Int)) := by omega
  have hno2 : ¬ ((tk.size : Int) < (vs.length : Int)) := by omega
  have hno3 : ¬ (vs.length < must) := by omega
  have hno4 : ¬ (tk.size < vs.length) := by omega
  have HN := Lib.hid (Blk.new w1 43 #[.string ⟨#[]⟩, .int .i64 0, .bool false, .nilFunc])
  have z0 := HN.out.frozen 0
  have z1 := HN.out.frozen 1
  have z2 := HN.out.frozen 2
  have z3 := HN.out.frozen 3
  have n0 : (w1.alloc (.cells #[.string ⟨#[]⟩, .int .i64 0, .bool false, .nilFunc] 43)).cell? ⟨w1.heap.size, 0, none⟩ = some (.string ⟨#[]⟩) := HN.out.cell 0
  have n1 : (w1.alloc (.cells #[.string ⟨#[]⟩, .int .i64 0, .bool false, .nilFunc] 43)).cell? ⟨w1.heap.size, 1, none⟩ = some (.int .i64 0) := HN.out.cell 1
  have n2 : (w1.alloc (.cells #[.string ⟨#[]⟩, .int .i64 0, .bool false, .nilFunc] 43)).cell? ⟨w1.heap.size, 2, none⟩ = some (.bool false) := HN.out.cell 2
  have n3 : (w1.alloc (.cells #[.string ⟨#[]⟩, .int .i64 0, .bool false, .nilFunc] 43)).cell? ⟨w1.heap.size, 3, none⟩ = some .nilFunc := HN.out.cell 3
  have HN2 := Lib.hid (Blk.new w1 43 #[.string tk, .int .i64 must, .bool many, .nilFunc])
  have y3 : (w1.alloc (.cells #[.string tk, .int .i64 must, .bool many, .nilFunc] 43)).cell? ⟨w1.heap.size, 3, none⟩ = some .nilFunc := HN2.out.cell 3
  have x3 := HN2.out.frozen 3
  have hlook2 := Lib.hid (look_run (w := w1.alloc (.cells #[.string ⟨#[]⟩, .int .i64 0, .bool false, .nilFunc] 43)) ((Below.heap_alloc w1 _ b (by have := (Array.getElem?_eq_some_iff.1 hmp).1; exact this)).trans hmp) hfd)
  go_wp2_with (at_lookup; first | refine wpList_lookup_run _ rfl _ _ _ true rfl _ hlook.out ?_ | refine wpList_lookup_run _ rfl _ _ _ true rfl _ hlook2.out ?_)
  have hV0 : Blk w1 w.heap.size 24 #[.int .i64 0, .int .i64 0, .string ⟨#[]⟩, .slice none 0 0] := (Blk.new w _ _).keeps (Keeps.of_below (S := fun _ => False) hb1) id
  have HV1 := Lib.hid (hV0.alloc (.cells #[.string tk, .int .i64 must, .bool many, .func (.func fid) #[] ca] 43))
  have HF1 := Lib.hid (Blk.new w1 43 #[.string tk, .int .i64 must, .bool many, .func (.func fid) #[] ca])
  have hb0 := (Below.refl w.heap.size w).alloc (Nat.le_refl _) (.cells #[.int .i64 0, .int .i64 0, .string ⟨#[]⟩, .slice none 0 0] 24)
  have hb2 := (hb0.trans (hb1.mono hb0.size))
  have HB1 := Lib.hid (hb2.alloc hb2.size (.cells #[.string tk, .int .i64 must, .bool many, .func (.func fid) #[] ca] 43))
  have HC1 := Lib.hid (hcap _ _ _ hcp ((Below.refl w1.heap.size w1).alloc (Nat.le_refl _) (.cells #[.string tk, .int .i64 must, .bool many, .func (.func fid) #[] ca] 43)))
  have hlt1 : w.heap.size < w1.heap.size := hV0.lt
  clear HN HN2 z0 z1 z2 z3 n0 n1 n2 n3 y3 x3 hlook hlook2 hV0 hb0 hb2 hcp hfd hmp hfn hb1 H hent
  have HA := Lib.hid hA
  have HT := Lib.hid htk
  have HD := Lib.hid hdo
  have HCP := Lib.hid hcap
  have HL := Lib.hid hL
  have HLS := Lib.hid hLS
  clear hA htk hdo hcap hL hLS
  go_loopg [48] vs.length (fun gk r wx => ∃ i : Nat, i + gk = vs.length ∧ r = .int .i64 i ∧ Hid (Below w.heap.size w wx) ∧ Hid (Blk wx w1.heap.size 43 #[.string tk, .int .i64 must, .bool many, .func (.func fid) #[] ca]) ∧
    Hid (Blk wx w.heap.size 24 #[.int .i64 0, .int .i64 0, .string ⟨#[]⟩, .slice none 0 0]) ∧ Hid (Cap wx ca))
  case atStart => exact ⟨0, by omega, rfl, HB1, HF1, HV1, HC1⟩
  case round =>
    clear HB1 HF1 HV1 HC1
    obtain ⟨i, hig, rfl, HB, HF, HV, HC⟩ := hrel
    by_cases hlt : i < vs.length
    · obtain ⟨a0, a1, a2, a3⟩ := (HA.out.below HB.out (Nat.le_refl _)).2 i hlt
      have hTkc := HT.out i (by omega) hlt
      have hti : i < tk.size := by omega
      have hI : (i : Int) < (vs.length : Int) := by omega
      have hmin : min (i : Int) ((tk.size : Int) - 1) = (i : Int) := by omega
      have hw1 : IntKind.i64.wrap ((tk.size : Int) - 1) = (tk.size : Int) - 1 := IntWalk.i64_in _ (by omega)
      generalize vs.getD i default = v at *
      obtain ⟨vk, vn, vt, va, vl, vc⟩ := v
      dsimp only [avV] at a0 a1 a2 a3 hTkc
      have HTk := Lib.hid hTkc
      clear hTkc
      have HN := Lib.hid (Blk.new wr 24 #[.int .i64 0, .int .i64 0, .string ⟨#[]⟩, .slice none 0 0])
      have z0 := HN.out.frozen 0
      have z1 := HN.out.frozen 1
      have z2 := HN.out.frozen 2
      have z3 := HN.out.frozen 3
      go_wp2_with fail
      have HN2 := Lib.hid (Blk.new wr 24 #[.int .i64 vk, .int .i64 vn, .string vt, .slice va vl vc])
      have HF2 := Lib.hid (HF.out.alloc (.cells #[.int .i64 vk, .int .i64 vn, .string vt, .slice va vl vc] 24))
      have HV2 := Lib.hid (HV.out.alloc (.cells #[.int .i64 vk, .int .i64 vn, .string vt, .slice va vl vc] 24))
      have HB2 := Lib.hid (HB.out.alloc HB.out.size (.cells #[.int .i64 vk, .int .i64 vn, .string vt, .slice va vl vc] 24))
      have HC2 := Lib.hid (HCP.out _ _ _ HC.out ((Below.refl wr.heap.size wr).alloc (Nat.le_refl _) (.cells #[.int .i64 vk, .int .i64 vn, .string vt, .slice va vl vc] 24)))
      generalize wr.alloc (.cells #[.int .i64 vk, .int .i64 vn, .string vt, .slice va vl vc] 24) = w3 at *
      clear HN z0 z1 z2 z3 a0 a1 a2 a3
      have b0 : w3.cell? ⟨wr.heap.size, 0, none⟩ = some (.int .i64 vk) := HN2.out.cell 0
      have b1 : w3.cell? ⟨wr.heap.size, 1, none⟩ = some (.int .i64 vn) := HN2.out.cell 1
      have b2 : w3.cell? ⟨wr.heap.size, 2, none⟩ = some (.string vt) := HN2.out.cell 2
      have b3 : w3.cell? ⟨wr.heap.size, 3, none⟩ = some (.slice va vl vc) := HN2.out.cell 3
      have f0 : w3.cell? ⟨w1.heap.size, 0, none⟩ = some (.string tk) := HF2.out.cell 0
      go_cut [64] (fun r wx => r = .bool false ∧ Below w3.heap.size w3 wx)
      case first =>
        go_region_law (first
          | (refine step_callP rfl 13 _ _ rfl #[.int .u8 tk[i].toNat, .agg #[.int .i64 vk, .int .i64 vn, .string vt, .slice va vl vc]] (by simp [Act.eval, Act.put]) (taken_in _ _) _ (taken_w (HTk.out _ HB2.out.drew)) ?_; rintro v w4 ⟨rfl, hb4⟩))
        all_goals
          go_wp2_with fail
          simp only [Act.put, List.getElem_toArray, List.getElem_cons_succ, List.getElem_cons_zero, List.setIfInBounds_toArray, List.set_cons_succ, List.set_cons_zero]
          go_meet
          exact ⟨rfl, ⟨hb4.os, hb4.tape, hb4.output, hb4.size, hb4.block⟩⟩
      case rest =>
        obtain ⟨rfl, hb4⟩ := hcut
        go_wp2_with fail
        go_roundg (gk - 1)
        case rel => exact ⟨i + 1, by omega, by go_num, HB2.out.trans (hb4.mono HB2.out.size), HF2.out.keeps (Keeps.of_below (S := fun _ => False) hb4) id, HV2.out.keeps (Keeps.of_below (S := fun _ => False) hb4) id, HCP.out _ _ _ HC2.out hb4⟩
        case measure => omega
    · have hI : ¬ ((i : Int) < (vs.length : Int)) := by omega
      have f3 : wr.cell? ⟨w1.heap.size, 3, none⟩ = some (.func (.func fid) #[] ca) := HF.out.cell 3
      have v0 : wr.cell? ⟨w.heap.size, 0, none⟩ = some (.int .i64 0) := HV.out.cell 0
      have v1 : wr.cell? ⟨w.heap.size, 1, none⟩ = some (.int .i64 0) := HV.out.cell 1
      have v2 : wr.cell? ⟨w.heap.size, 2, none⟩ = some (.string ⟨#[]⟩) := HV.out.cell 2
      have v3 : wr.cell? ⟨w.heap.size, 3, none⟩ = some (.slice none 0 0) := HV.out.cell 3
      have HD2 := Lib.hid (HD.out wr ca (HL.out.below HB.out) HB.out HC.out)
      have hin2 := hin (#[.slice (some ⟨g, 0, none⟩) vs.length cap] ++ ca) wr
      go_wp2_with fail
      refine HD2.out.mono ?_
      rintro e w5 ⟨A, c, rn, rl, rfl, hvat, hgd, hb5⟩
      have HB5 := Lib.hid (HB.out.trans (hb5.mono HB.out.size))
      have HV5 := Lib.hid (HV.out.keeps (Keeps.of_below (S := fun _ => False) hb5) id)
      have hlt5 : w.heap.size < w5.heap.size := HV5.out.lt
      obtain ⟨hfit, hsml, hrg⟩ := hGood _ hgd
      have HGd := Lib.hid hgd
      have HRt := Lib.hid (fun wz hz => right_any (w := w5) (B := w5.heap.size) (Nat.le_refl _) (fun w' hz => HLS.out w' (HB5.out.trans (hz.mono HB5.out.size))) hvat hfit wz hz)
      rw [hrg] at HRt
      have HCo := Lib.hid (fun wz hz => copied_any (w := w5) (B := w5.heap.size) (Nat.le_refl _) hvat hsml wz hz)
      clear f3 v0 v1 v2 v3 hb5 HD2 hin2 hvat hgd hfit hsml hrg
      unfold ansV at *
      have HU6 := Lib.hid (Blk.new w5 24 #[.int .i64 4, .int .i64 rn, .string ⟨#[]⟩, .slice A rl.length c])
      have HV6 := Lib.hid (HV5.out.alloc (.cells #[.int .i64 4, .int .i64 rn, .string ⟨#[]⟩, .slice A rl.length c] 24))
      have HX6 := Lib.hid ((Below.refl w5.heap.size w5).alloc (Nat.le_refl _) (.cells #[.int .i64 4, .int .i64 rn, .string ⟨#[]⟩, .slice A rl.length c] 24))
      clear HA HT HD HCP HL HB HV HC HF
      go_wp2_with (first
        | (go_at_call 14; refine (HRt.out _ HX6.out).mono ?_; rintro e w7 ⟨rfl, hb7⟩; have HX7 := Lib.hid (HX6.out.trans (hb7.mono HX6.out.size)); have HU7 := Lib.hid (HU6.out.keeps (Keeps.of_below (S := fun _ => False) hb7) id); have HV7 := Lib.hid (HV6.out.keeps (Keeps.of_below (S := fun _ => False) hb7) id); clear hb7; have u0 : w7.cell? ⟨w5.heap.size, 0, none⟩ = some (.int .i64 4) := HU7.out.cell 0; have u1 : w7.cell? ⟨w5.heap.size, 1, none⟩ = some (.int .i64 rn) := HU7.out.cell 1; have u2 : w7.cell? ⟨w5.heap.size, 2, none⟩ = some (.string ⟨#[]⟩) := HU7.out.cell 2; have u3 : w7.cell? ⟨w5.heap.size, 3, none⟩ = some (.slice A rl.length c) := HU7.out.cell 3)
        | (go_at_call 15; refine (HCo.out _ HX7.out).mono ?_; rintro e w8 ⟨y, rfl, hvin, hb8⟩; obtain ⟨A8, c8, rfl⟩ := hvin.form; have HVin := Lib.hid hvin; have HX8 := Lib.hid (HX7.out.trans (hb8.mono HX7.out.size)); have HS8 := Lib.hid hb8.size; have HV8 := Lib.hid (HV7.out.keeps (Keeps.of_below (S := fun _ => False) hb8) id); clear hb8 hvin; have z0 := HV8.out.frozen 0; have z1 := HV8.out.frozen 1; have z2 := HV8.out.frozen 2; have z3 := HV8.out.frozen 3; have v0 := HV8.out.cell 0; have v1 := HV8.out.cell 1; have v2 := HV8.out.cell 2; have v3 := HV8.out.cell 3))
      have hs7 := HX7.out.size
      have hs8 := HS8.out
      have HV9 := (((HV8.out.set_ 0 (.int .i64 4)).set_ 1 (.int .i64 rn)).set_ 2 (.string ⟨#[]⟩)).set_ 3 (.slice A8 rl.length c8)
      have hb80 := HB5.out.trans (HX8.out.mono HB5.out.size)
      have HB9 := (((hb80.setCell (p := ⟨w.heap.size, 0, none⟩) (Nat.le_refl _) (.int .i64 4)).setCell (p := ⟨w.heap.size, 1, none⟩) (Nat.le_refl _) (.int .i64 rn)).setCell (p := ⟨w.heap.size, 2, none⟩) (Nat.le_refl _) (.string ⟨#[]⟩)).setCell (p := ⟨w.heap.size, 3, none⟩) (Nat.le_refl _) (.slice A8 rl.length c8)
      have HW9 : VIn ((((w8.setCell ⟨w.heap.size, 0, none⟩ (.int .i64 4)).setCell ⟨w.heap.size, 1, none⟩ (.int .i64 rn)).setCell ⟨w.heap.size, 2, none⟩ (.string ⟨#[]⟩)).setCell ⟨w.heap.size, 3, none⟩ (.slice A8 rl.length c8)) (fun b => w.heap.size ≤ b ∧ b < ((((w8.setCell ⟨w.heap.size, 0, none⟩ (.int .i64 4)).setCell ⟨w.heap.size, 1, none⟩ (.int .i64 rn)).setCell ⟨w.heap.size, 2, none⟩ (.string ⟨#[]⟩)).setCell ⟨w.heap.size, 3, none⟩ (.slice A8 rl.length c8)).heap.size) (.mk 4 rn ⟨#[]⟩ rl) (.agg #[.int .i64 4, .int .i64 rn, .string ⟨#[]⟩, .slice A8 rl.length c8]) := HVin.out.keep (fun b h => ⟨by have := h.1; omega, by have := h.2; simp [World.setCell]; omega⟩) fun q hq => by
        have hne : ∀ o : Nat, (⟨w.heap.size, o, none⟩ : Addr) ≠ q := fun o e => by
          subst e
          have := hq.1
          simp only at this
          omega
        rw [World.cell?_setCell_other _ _ _ _ (hne 3), World.cell?_setCell_other _ _ _ _ (hne 2), World.cell?_setCell_other _ _ _ _ (hne 1), World.cell?_setCell_other _ _ _ _ (hne 0)]
      generalize ((((w8.setCell ⟨w.heap.size, 0, none⟩ (.int .i64 4)).setCell ⟨w.heap.size, 1, none⟩ (.int .i64 rn)).setCell ⟨w.heap.size, 2, none⟩ (.string ⟨#[]⟩)).setCell ⟨w.heap.size, 3, none⟩ (.slice A8 rl.length c8)) = w9 at *
      have e0 : w9.cell? ⟨w.heap.size, 0, none⟩ = some (.int .i64 4) := HV9.cell 0
      have e1 : w9.cell? ⟨w.heap.size, 1, none⟩ = some (.int .i64 rn) := HV9.cell 1
      have e2 : w9.cell? ⟨w.heap.size, 2, none⟩ = some (.string ⟨#[]⟩) := HV9.cell 2
      have e3 : w9.cell? ⟨w.heap.size, 3, none⟩ = some (.slice A8 rl.length c8) := HV9.cell 3
      refine bodyPost_ret (v := .tuple #[.agg #[.int .i64 4, .int .i64 rn, .string ⟨#[]⟩, .slice A8 rl.length c8], .int .i64 0]) (by simp [results, Tryz.results5, go_sem, e0, e1, e2, e3]) rfl ?_
      exact ⟨HB9, A8, c8, rn, rl, rfl, HW9, HGd.out⟩
end As
end Go.Proofs.YtopmodahdmnpjaaGreatDoor
