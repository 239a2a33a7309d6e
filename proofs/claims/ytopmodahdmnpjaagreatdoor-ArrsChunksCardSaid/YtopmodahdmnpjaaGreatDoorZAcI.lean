/- arrs.Call at any arguments, whatever the end: the walk. -/
import Derived.Test.YtopmodahdmnpjaaGreatDoorZArL
import Derived.Test.YtopmodahdmnpjaaGreatDoorZAcAQ
import Derived.Test.YtopmodahdmnpjaaGreatDoorZMyJQ
import Derived.Test.YtopmodahdmnpjaaGreatDoorZAppsQ
namespace Go.Proofs.YtopmodahdmnpjaaGreatDoor
open Go Go.RowKit
namespace As
open Dp
theorem taken_in (args : Array Value) (w : World) : (callFunc 13 args).run Tryz.prog w = .ok (.enter 13 args) w := enter_ofD Tryz.func13 (by kernel_rfl) rfl args w
/-- A value as an argument: kind, number, text, items. -/
abbrev AV := Int × Int × ByteArray × Option Addr × Nat × Nat
def avV (v : AV) : Value := .agg #[.int .i64 v.1, .int .i64 v.2.1, .string v.2.2.1, .slice v.2.2.2.1 v.2.2.2.2.1 v.2.2.2.2.2]
/-- The arguments of a call. -/
def ArgsA (w : World) (g : Nat) (vs : List AV) : Prop := g < w.heap.size ∧ ∀ i, i < vs.length → w.cell? ⟨g, i * 4, none⟩ = some (.int .i64 (vs.getD i default).1) ∧ w.cell? ⟨g, i * 4 + 1, none⟩ = some (.int .i64 (vs.getD i default).2.1) ∧
  w.cell? ⟨g, i * 4 + 2, none⟩ = some (.string (vs.getD i default).2.2.1) ∧ w.cell? ⟨g, i * 4 + 3, none⟩ = some (.slice (vs.getD i default).2.2.2.1 (vs.getD i default).2.2.2.2.1 (vs.getD i default).2.2.2.2.2)
theorem ArgsA.below {w w' : World} {g : Nat} {vs : List AV} (h : ArgsA w g vs) {B : Nat} (hb : Below B w w') (hB : w.heap.size ≤ B) : ArgsA w' g vs :=
  ⟨Nat.lt_of_lt_of_le h.1 hb.size, fun i hi => by
    obtain ⟨a, b, c, d⟩ := h.2 i hi
    have hg : g < B := Nat.lt_of_lt_of_le h.1 hB
    exact ⟨(hb.cell (p := ⟨g, _, none⟩) hg).trans a, (hb.cell (p := ⟨g, _, none⟩) hg).trans b, (hb.cell (p := ⟨g, _, none⟩) hg).trans c, (hb.cell (p := ⟨g, _, none⟩) hg).trans d⟩⟩
theorem taken_w {xs : Array Value} {w : World} {tv : Bool} (h : Calls Tryz.prog 13 xs w fun e w' => e = .returned (.bool tv) ∧ Below w.heap.size w w') : Calls Tryz.prog 13 xs w fun e w' => ∃ v, e = .returned v ∧ v = .bool tv ∧ Below w.heap.size w w' :=
  h.mono (by rintro e w' ⟨rfl, h⟩; exact ⟨_, rfl, rfl, h⟩)
def zeroV : Value := .agg #[.int .i64 0, .int .i64 0, .string ⟨#[]⟩, .slice none 0 0]
def ansV (rk rn : Int) (rt : ByteArray) (A : Option Addr) (l c : Nat) : Value := .agg #[.int .i64 rk, .int .i64 rn, .string rt, .slice A l c]
set_option maxRecDepth 100000 in
theorem wrong_any (er : Int) (w : World) : Calls Tryz.prog 12 #[.int .i64 er] w fun e w' => e = .returned (.tuple #[.agg #[.int .i64 0, .int .i64 0, .string ⟨#[]⟩, .slice none 0 0], .int .i64 er]) ∧ Below w.heap.size w w' := by
  have B := (Below.refl w.heap.size w).alloc (Nat.le_refl _) (.cells #[.int .i64 0, .int .i64 0, .string ⟨#[]⟩, .slice none 0 0] 24)
  have HN := Blk.new w 24 #[.int .i64 0, .int .i64 0, .string ⟨#[]⟩, .slice none 0 0]
  go_enter Tryz.func12, Tryz.ntmps12
  go_wp2_with fail
  generalize w.alloc (.cells #[.int .i64 0, .int .i64 0, .string ⟨#[]⟩, .slice none 0 0] 24) = w1 at *
  have e0 : w1.cell? ⟨w.heap.size, 0, none⟩ = _ := HN.cell 0
  have e1 : w1.cell? ⟨w.heap.size, 1, none⟩ = _ := HN.cell 1
  have e2 : w1.cell? ⟨w.heap.size, 2, none⟩ = _ := HN.cell 2
  have e3 : w1.cell? ⟨w.heap.size, 3, none⟩ = _ := HN.cell 3
  simp at e0 e1 e2 e3
  refine bodyPost_ret (v := .tuple #[.agg #[.int .i64 0, .int .i64 0, .string ⟨#[]⟩, .slice none 0 0], .int .i64 er]) (by simp [results, Tryz.results12, go_sem, e0, e1, e2, e3]) rfl ?_
  exact ⟨rfl, B⟩
set_option maxRecDepth 100000 in
set_option maxHeartbeats 8000000 in
theorem call_gen (Good : GV → Prop) (hGood : ∀ g, Good g → Fit g ∧ Sml g) (Er : Int → Prop) (hEr : ∀ er, Er er → er ≠ 0) (nm tk : ByteArray) (must : Nat) (many : Bool) (fid : FuncId) (vs : List AV) (tb : Nat → Bool) (m : Int) (w : World) (hL : LibA m w) (hLS : ∀ wz, Below w.heap.size w wz → LibS wz) (g cap : Nat)
    (hent : ∀ w' b, FnAt w' b → ∃ es clock i, w'.heap[b]? = some (.map es clock) ∧ Instr.findNow .string (.string nm) es.toList 0 = some (some (i, .agg #[.string tk, .int .i64 must, .bool many, .func (.func fid) #[] #[]])))
    (hn : must ≤ vs.length) (hm : vs.length ≤ tk.size ∨ many = true) (htz0 : 1 ≤ tk.size) (htz : tk.size ≤ 1000) (hvl : vs.length ≤ 1000)
    (htk : ∀ i, i < vs.length → ∀ k (h : k < tk.size), k = min i (tk.size - 1) → ∀ wz, Below w.heap.size w wz → Calls Tryz.prog 13 #[.int .u8 tk[k].toNat, avV (vs.getD i default)] wz fun e w' => e = .returned (.bool (tb i)) ∧ Below wz.heap.size wz w')
    (hA : ArgsA w g vs)
    (hin : ∀ args w, (callFunc fid args).run Tryz.prog w = .ok (.enter fid args) w)
    (hdo : (∀ i, i < vs.length → tb i = true) → ∀ w', LibA m w' → Below w.heap.size w w' → Calls Tryz.prog fid #[.slice (some ⟨g, 0, none⟩) vs.length cap] w' fun e w'' => Below w'.heap.size w' w'' ∧ ((∃ er, Er er ∧ e = .returned (.tuple #[.agg #[.int .i64 0, .int .i64 0, .string ⟨#[]⟩, .slice none 0 0], .int .i64 er])) ∨
      ∃ A c rn rl, e = .returned (.tuple #[ansV 4 rn ⟨#[]⟩ A rl.length c, .int .i64 0]) ∧ VAt w'' w''.heap.size (.mk 4 rn ⟨#[]⟩ rl) (ansV 4 rn ⟨#[]⟩ A rl.length c) ∧ Good (.mk 4 rn ⟨#[]⟩ rl))) :
    Calls Tryz.prog 5 #[.string nm, .slice (some ⟨g, 0, none⟩) vs.length cap] w fun e w' => Below w.heap.size w w' ∧
      (((∃ i, i < vs.length ∧ tb i = false) ∧ e = .returned (.tuple #[.agg #[.int .i64 0, .int .i64 0, .string ⟨#[]⟩, .slice none 0 0], .int .i64 15])) ∨
       ((∀ i, i < vs.length → tb i = true) ∧ ((∃ er, Er er ∧ e = .returned (.tuple #[.agg #[.int .i64 0, .int .i64 0, .string ⟨#[]⟩, .slice none 0 0], .int .i64 er])) ∨
        (∃ rn rl, Good (.mk 4 rn ⟨#[]⟩ rl) ∧ rightB (.mk 4 rn ⟨#[]⟩ rl) = false ∧ e = .returned (.tuple #[.agg #[.int .i64 0, .int .i64 0, .string ⟨#[]⟩, .slice none 0 0], .int .i64 1])) ∨
        ∃ A c rn rl, Good (.mk 4 rn ⟨#[]⟩ rl) ∧ rightB (.mk 4 rn ⟨#[]⟩ rl) = true ∧ e = .returned (.tuple #[ansV 4 rn ⟨#[]⟩ A rl.length c, .int .i64 0]) ∧ VIn w' (fun b => w.heap.size ≤ b ∧ b < w'.heap.size) (.mk 4 rn ⟨#[]⟩ rl) (ansV 4 rn ⟨#[]⟩ A rl.length c)))) := by
  have H := Lib.hid (fn_any (w.alloc (.cells #[.int .i64 0, .int .i64 0, .string ⟨#[]⟩, .slice none 0 0] 24)) (hL.below ((Below.refl w.heap.size w).alloc (Nat.le_refl _) _)))
  go_enter Tryz.func5, Tryz.ntmps5
  go_wp2_with fail
  refine H.out.mono ?_
  rintro e w1 ⟨b, rfl, hfn, hb1⟩
  obtain ⟨es, clock, i0, hmp, hfd⟩ := hent w1 b hfn
  have hlook := Lib.hid (look_run hmp hfd)
  have hno1 : ¬ ((vs.length : Int) < (must : Int)) := by omega
  have hno3 : ¬ (vs.length < must) := by omega
  have HN := Lib.hid (Blk.new w1 43 #[.string ⟨#[]⟩, .int .i64 0, .bool false, .nilFunc])
  have z0 := HN.out.frozen 0
  have z1 := HN.out.frozen 1
  have z2 := HN.out.frozen 2
  have z3 := HN.out.frozen 3
  have n0 : (w1.alloc (.cells #[.string ⟨#[]⟩, .int .i64 0, .bool false, .nilFunc] 43)).cell? ⟨w1.heap.size, 0, none⟩ = some (.string ⟨#[]⟩) := HN.out.cell 0
  have n1 : (w1.alloc (.cells #[.string ⟨#[]⟩, .int .i64 0, .bool false, .nilFunc] 43)).cell? ⟨w1.heap.size, 1, none⟩ = some (.int .i64 0) := HN.out.cell 1
  have n2 : (w1.alloc (.cells #[.string ⟨#[]⟩, .int .i64 0, .bool false, .nilFunc] 43)).cell? ⟨w1.heap.size, 2, none⟩ = some (.bool false) := HN.out.cell 2
  have n3 : (w1.alloc (.cells #[.string ⟨#[]⟩, .int .i64 0, .bool false, .nilFunc] 43)).cell? ⟨w1.heap.size, 3, none⟩ = some .nilFunc := HN.out.cell 3
  have HN2 := Lib.hid (Blk.new w1 43 #[.string tk, .int .i64 must, .bool many, .nilFunc])
  have y3 : (w1.alloc (.cells #[.string tk, .int .i64 must, .bool many, .nilFunc] 43)).cell? ⟨w1.heap.size, 3, none⟩ = some .nilFunc := HN2.out.cell 3
  have x3 := HN2.out.frozen 3
  have hlook2 := Lib.hid (look_run (w := w1.alloc (.cells #[.string ⟨#[]⟩, .int .i64 0, .bool false, .nilFunc] 43)) ((Below.heap_alloc w1 _ b (by have := (Array.getElem?_eq_some_iff.1 hmp).1; exact this)).trans hmp) hfd)
  go_upto_region 4 with (at_lookup; first | refine wpList_lookup_run _ rfl _ _ _ true rfl _ hlook.out ?_ | refine wpList_lookup_run _ rfl _ _ _ true rfl _ hlook2.out ?_)
  have hV0 : Blk w1 w.heap.size 24 #[.int .i64 0, .int .i64 0, .string ⟨#[]⟩, .slice none 0 0] := (Blk.new w _ _).keeps (Keeps.of_below (S := fun _ => False) hb1) id
  have HV1 := Lib.hid (hV0.alloc (.cells #[.string tk, .int .i64 must, .bool many, .func (.func fid) #[] #[]] 43))
  have HF1 := Lib.hid (Blk.new w1 43 #[.string tk, .int .i64 must, .bool many, .func (.func fid) #[] #[]])
  have hb0 := (Below.refl w.heap.size w).alloc (Nat.le_refl _) (.cells #[.int .i64 0, .int .i64 0, .string ⟨#[]⟩, .slice none 0 0] 24)
  have hb2 := (hb0.trans (hb1.mono hb0.size))
  have HB1 := Lib.hid (hb2.alloc hb2.size (.cells #[.string tk, .int .i64 must, .bool many, .func (.func fid) #[] #[]] 43))
  have hlt1 : w.heap.size < w1.heap.size := hV0.lt
  clear HN HN2 z0 z1 z2 z3 n0 n1 n2 n3 y3 x3 hlook hlook2 hV0 hb0 hb2 hfd hmp hfn hb1 H hent
  have HA := Lib.hid hA
  have HT := Lib.hid htk
  have HD := Lib.hid hdo
  have HL := Lib.hid hL
  have HLS := Lib.hid hLS
  clear hA htk hdo hL hLS
  go_cut [24] (fun r wx => r = .bool false ∧ wx = (w1.alloc (.cells #[.string tk, .int .i64 must, .bool many, .func (.func fid) #[] #[]] 43)))
  case first =>
    have f0 := HF1.out.cell 0
    have f1 := HF1.out.cell 1
    have f2 := HF1.out.cell 2
    rcases hm with hm | rfl
    · have hno2 : ¬ ((tk.size : Int) < (vs.length : Int)) := by omega
      have hno4 : ¬ (tk.size < vs.length) := by omega
      go_wp2_with fail
      go_meet
      exact ⟨rfl, rfl⟩
    · by_cases hgt : tk.size < vs.length
      · have hgt2 : (tk.size : Int) < (vs.length : Int) := by omega
        go_wp2_with fail
        go_meet
        exact ⟨rfl, rfl⟩
      · have hgt2 : ¬ (tk.size : Int) < (vs.length : Int) := by omega
        go_wp2_with fail
        go_meet
        exact ⟨rfl, rfl⟩
  case rest =>
  obtain ⟨rfl, rfl⟩ := hcut
  go_wp2_with fail
  go_loopg [48] vs.length (fun gk r wx => ∃ i : Nat, i + gk = vs.length ∧ r = .int .i64 i ∧ Hid (Below w.heap.size w wx) ∧ Hid (Blk wx w1.heap.size 43 #[.string tk, .int .i64 must, .bool many, .func (.func fid) #[] #[]]) ∧
    Hid (Blk wx w.heap.size 24 #[.int .i64 0, .int .i64 0, .string ⟨#[]⟩, .slice none 0 0]) ∧ Hid (∀ j, j < i → tb j = true))
  case atStart => exact ⟨0, by omega, rfl, HB1, HF1, HV1, fun j h => absurd h (Nat.not_lt_zero j)⟩
  case round =>
    clear HB1 HF1 HV1
    obtain ⟨i, hig, rfl, HB, HF, HV, HTb⟩ := hrel
    by_cases hlt : i < vs.length
    · obtain ⟨a0, a1, a2, a3⟩ := (HA.out.below HB.out (Nat.le_refl _)).2 i hlt
      obtain ⟨k, hk⟩ : ∃ k, k = min i (tk.size - 1) := ⟨_, rfl⟩
      have hti : k < tk.size := by omega
      have hTkc := HT.out i hlt k hti hk
      have hI : (i : Int) < (vs.length : Int) := by omega
      have hmin : min (i : Int) ((tk.size : Int) - 1) = (k : Int) := by omega
      have hkI : (k : Int) < (tk.size : Int) := by omega
      have hw1 : IntKind.i64.wrap ((tk.size : Int) - 1) = (tk.size : Int) - 1 := IntWalk.i64_in _ (by omega)
      obtain ⟨tv, htv⟩ : ∃ tv, tb i = tv := ⟨_, rfl⟩
      rw [htv] at hTkc
      clear hk
      generalize vs.getD i default = v at *
      obtain ⟨vk, vn, vt, va, vl, vc⟩ := v
      dsimp only [avV] at a0 a1 a2 a3 hTkc
      have HTk := Lib.hid hTkc
      clear hTkc
      have HN := Lib.hid (Blk.new wr 24 #[.int .i64 0, .int .i64 0, .string ⟨#[]⟩, .slice none 0 0])
      have z0 := HN.out.frozen 0
      have z1 := HN.out.frozen 1
      have z2 := HN.out.frozen 2
      have z3 := HN.out.frozen 3
      go_wp2_with fail
      have HN2 := Lib.hid (Blk.new wr 24 #[.int .i64 vk, .int .i64 vn, .string vt, .slice va vl vc])
      have HF2 := Lib.hid (HF.out.alloc (.cells #[.int .i64 vk, .int .i64 vn, .string vt, .slice va vl vc] 24))
      have HV2 := Lib.hid (HV.out.alloc (.cells #[.int .i64 vk, .int .i64 vn, .string vt, .slice va vl vc] 24))
      have HB2 := Lib.hid (HB.out.alloc HB.out.size (.cells #[.int .i64 vk, .int .i64 vn, .string vt, .slice va vl vc] 24))
      generalize wr.alloc (.cells #[.int .i64 vk, .int .i64 vn, .string vt, .slice va vl vc] 24) = w3 at *
      clear HN z0 z1 z2 z3 a0 a1 a2 a3
      have b0 : w3.cell? ⟨wr.heap.size, 0, none⟩ = some (.int .i64 vk) := HN2.out.cell 0
      have b1 : w3.cell? ⟨wr.heap.size, 1, none⟩ = some (.int .i64 vn) := HN2.out.cell 1
      have b2 : w3.cell? ⟨wr.heap.size, 2, none⟩ = some (.string vt) := HN2.out.cell 2
      have b3 : w3.cell? ⟨wr.heap.size, 3, none⟩ = some (.slice va vl vc) := HN2.out.cell 3
      have f0 : w3.cell? ⟨w1.heap.size, 0, none⟩ = some (.string tk) := HF2.out.cell 0
      go_cut [64] (fun r wx => r = .bool (!tv) ∧ Below w3.heap.size w3 wx)
      case first =>
        go_region_law (first
          | (refine step_callD rfl 13 _ _ rfl #[.int .u8 tk[k].toNat, .agg #[.int .i64 vk, .int .i64 vn, .string vt, .slice va vl vc]] (by simp [Act.eval, Act.put]) (taken_in _ _) _ (taken_w (HTk.out _ HB2.out.drew)) ?_; rintro v w4 ⟨rfl, hb4⟩))
        all_goals
          go_wp2_with fail
          simp only [Act.put, List.getElem_toArray, List.getElem_cons_succ, List.getElem_cons_zero, List.setIfInBounds_toArray, List.set_cons_succ, List.set_cons_zero]
          go_meet
          exact ⟨rfl, ⟨hb4.os, hb4.tape, hb4.output, hb4.size, hb4.block⟩⟩
      case rest =>
        obtain ⟨rfl, hb4⟩ := hcut
        have HBc := Lib.hid (HB2.out.trans (hb4.mono HB2.out.size))
        have HFc := Lib.hid (HF2.out.keeps (Keeps.of_below (S := fun _ => False) hb4) id)
        have HVc := Lib.hid (HV2.out.keeps (Keeps.of_below (S := fun _ => False) hb4) id)
        cases tv with
        | true =>
          go_wp2_with fail
          go_roundg (gk - 1)
          case rel => exact ⟨i + 1, by omega, by go_num, HBc, HFc, HVc, fun j hj => by
            by_cases e : j = i
            · subst e
              exact htv
            · exact HTb.out j (by omega)⟩
          case measure => omega
        | false =>
          go_wp2_with (go_at_call 12; refine (wrong_any _ _).mono ?_; rintro e w8 ⟨rfl, hb8⟩; have HV8 := Lib.hid (HVc.out.keeps (Keeps.of_below (S := fun _ => False) hb8) id); have HB8 := Lib.hid (HBc.out.trans (hb8.mono HBc.out.size)); clear hb8; have q0 := HV8.out.frozen 0; have q1 := HV8.out.frozen 1; have q2 := HV8.out.frozen 2; have q3 := HV8.out.frozen 3; have r0 := HV8.out.cell 0; have r1 := HV8.out.cell 1; have r2 := HV8.out.cell 2; have r3 := HV8.out.cell 3)
          have HV9 := (((HV8.out.set_ 0 (.int .i64 0)).set_ 1 (.int .i64 0)).set_ 2 (.string ⟨#[]⟩)).set_ 3 (.slice none 0 0)
          have HB9 := (((HB8.out.setCell (p := ⟨w.heap.size, 0, none⟩) (Nat.le_refl _) (.int .i64 0)).setCell (p := ⟨w.heap.size, 1, none⟩) (Nat.le_refl _) (.int .i64 0)).setCell (p := ⟨w.heap.size, 2, none⟩) (Nat.le_refl _) (.string ⟨#[]⟩)).setCell (p := ⟨w.heap.size, 3, none⟩) (Nat.le_refl _) (.slice none 0 0)
          generalize ((((w8.setCell ⟨w.heap.size, 0, none⟩ (.int .i64 0)).setCell ⟨w.heap.size, 1, none⟩ (.int .i64 0)).setCell ⟨w.heap.size, 2, none⟩ (.string ⟨#[]⟩)).setCell ⟨w.heap.size, 3, none⟩ (.slice none 0 0)) = w9 at *
          have e0 : w9.cell? ⟨w.heap.size, 0, none⟩ = some (.int .i64 0) := HV9.cell 0
          have e1 : w9.cell? ⟨w.heap.size, 1, none⟩ = some (.int .i64 0) := HV9.cell 1
          have e2 : w9.cell? ⟨w.heap.size, 2, none⟩ = some (.string ⟨#[]⟩) := HV9.cell 2
          have e3 : w9.cell? ⟨w.heap.size, 3, none⟩ = some (.slice none 0 0) := HV9.cell 3
          refine bodyPost_ret (v := .tuple #[.agg #[.int .i64 0, .int .i64 0, .string ⟨#[]⟩, .slice none 0 0], .int .i64 15]) (by simp [results, Tryz.results5, go_sem, e0, e1, e2, e3]) rfl ?_
          exact ⟨HB9, .inl ⟨⟨i, hlt, htv⟩, rfl⟩⟩
    · have hI : ¬ ((i : Int) < (vs.length : Int)) := by omega
      have HAll : Hid (∀ i, i < vs.length → tb i = true) := fun j hj => HTb.out j (by omega)
      have f3 : wr.cell? ⟨w1.heap.size, 3, none⟩ = some (.func (.func fid) #[] #[]) := HF.out.cell 3
      have v0 : wr.cell? ⟨w.heap.size, 0, none⟩ = some (.int .i64 0) := HV.out.cell 0
      have v1 : wr.cell? ⟨w.heap.size, 1, none⟩ = some (.int .i64 0) := HV.out.cell 1
      have v2 : wr.cell? ⟨w.heap.size, 2, none⟩ = some (.string ⟨#[]⟩) := HV.out.cell 2
      have v3 : wr.cell? ⟨w.heap.size, 3, none⟩ = some (.slice none 0 0) := HV.out.cell 3
      have HD2 := Lib.hid (HD.out HAll.out wr (HL.out.below HB.out) HB.out)
      have hin2 := hin #[.slice (some ⟨g, 0, none⟩) vs.length cap] wr
      go_wp2_with fail
      refine HD2.out.mono ?_
      rintro e w5 ⟨hb5, hres⟩
      have HB5 := Lib.hid (HB.out.trans (hb5.mono HB.out.size))
      have HV5 := Lib.hid (HV.out.keeps (Keeps.of_below (S := fun _ => False) hb5) id)
      have hlt5 : w.heap.size < w5.heap.size := HV5.out.lt
      rcases hres with ⟨er, her, rfl⟩ | ⟨A, c, rn, rl, rfl, hvat, hgd⟩
      · have hne := hEr er her
        have HV6 := Lib.hid (HV5.out.alloc (.cells #[.int .i64 0, .int .i64 0, .string ⟨#[]⟩, .slice none 0 0] 24))
        have HB6 := Lib.hid (HB5.out.alloc HB5.out.size (.cells #[.int .i64 0, .int .i64 0, .string ⟨#[]⟩, .slice none 0 0] 24))
        clear f3 v0 v1 v2 v3 hb5 HD2 hin2
        go_wp2_with (go_at_call 12; refine (wrong_any _ _).mono ?_; rintro e w8 ⟨rfl, hb8⟩; have HV8 := Lib.hid (HV6.out.keeps (Keeps.of_below (S := fun _ => False) hb8) id); have HB8 := Lib.hid (HB6.out.trans (hb8.mono HB6.out.size)); clear hb8; have q0 := HV8.out.frozen 0; have q1 := HV8.out.frozen 1; have q2 := HV8.out.frozen 2; have q3 := HV8.out.frozen 3; have r0 := HV8.out.cell 0; have r1 := HV8.out.cell 1; have r2 := HV8.out.cell 2; have r3 := HV8.out.cell 3)
        have HV9 := (((HV8.out.set_ 0 (.int .i64 0)).set_ 1 (.int .i64 0)).set_ 2 (.string ⟨#[]⟩)).set_ 3 (.slice none 0 0)
        have HB9 := (((HB8.out.setCell (p := ⟨w.heap.size, 0, none⟩) (Nat.le_refl _) (.int .i64 0)).setCell (p := ⟨w.heap.size, 1, none⟩) (Nat.le_refl _) (.int .i64 0)).setCell (p := ⟨w.heap.size, 2, none⟩) (Nat.le_refl _) (.string ⟨#[]⟩)).setCell (p := ⟨w.heap.size, 3, none⟩) (Nat.le_refl _) (.slice none 0 0)
        generalize ((((w8.setCell ⟨w.heap.size, 0, none⟩ (.int .i64 0)).setCell ⟨w.heap.size, 1, none⟩ (.int .i64 0)).setCell ⟨w.heap.size, 2, none⟩ (.string ⟨#[]⟩)).setCell ⟨w.heap.size, 3, none⟩ (.slice none 0 0)) = w9 at *
        have e0 : w9.cell? ⟨w.heap.size, 0, none⟩ = some (.int .i64 0) := HV9.cell 0
        have e1 : w9.cell? ⟨w.heap.size, 1, none⟩ = some (.int .i64 0) := HV9.cell 1
        have e2 : w9.cell? ⟨w.heap.size, 2, none⟩ = some (.string ⟨#[]⟩) := HV9.cell 2
        have e3 : w9.cell? ⟨w.heap.size, 3, none⟩ = some (.slice none 0 0) := HV9.cell 3
        refine bodyPost_ret (v := .tuple #[.agg #[.int .i64 0, .int .i64 0, .string ⟨#[]⟩, .slice none 0 0], .int .i64 er]) (by simp [results, Tryz.results5, go_sem, e0, e1, e2, e3]) rfl ?_
        exact ⟨HB9, .inr ⟨HAll.out, .inl ⟨er, her, rfl⟩⟩⟩
      obtain ⟨hfit, hsml⟩ := hGood _ hgd
      obtain ⟨rb, hrb⟩ : ∃ rb, rightB (.mk 4 rn ⟨#[]⟩ rl) = rb := ⟨_, rfl⟩
      have HGd := Lib.hid hgd
      have HRt := Lib.hid (fun wz hz => right_any (w := w5) (B := w5.heap.size) (Nat.le_refl _) (fun w' hz => HLS.out w' (HB5.out.trans (hz.mono HB5.out.size))) hvat hfit wz hz)
      rw [hrb] at HRt
      have HCo := Lib.hid (fun wz hz => copied_any (w := w5) (B := w5.heap.size) (Nat.le_refl _) hvat hsml wz hz)
      clear f3 v0 v1 v2 v3 hb5 HD2 hin2 hvat hgd hfit hsml
      unfold ansV at *
      have HU6 := Lib.hid (Blk.new w5 24 #[.int .i64 4, .int .i64 rn, .string ⟨#[]⟩, .slice A rl.length c])
      have HV6 := Lib.hid (HV5.out.alloc (.cells #[.int .i64 4, .int .i64 rn, .string ⟨#[]⟩, .slice A rl.length c] 24))
      have HX6 := Lib.hid ((Below.refl w5.heap.size w5).alloc (Nat.le_refl _) (.cells #[.int .i64 4, .int .i64 rn, .string ⟨#[]⟩, .slice A rl.length c] 24))
      clear HA HT HD HL HB HV HF
      cases rb with
      | true =>
        go_wp2_with (first
          | (go_at_call 14; refine (HRt.out _ HX6.out).mono ?_; rintro e w7 ⟨rfl, hb7⟩; have HX7 := Lib.hid (HX6.out.trans (hb7.mono HX6.out.size)); have HU7 := Lib.hid (HU6.out.keeps (Keeps.of_below (S := fun _ => False) hb7) id); have HV7 := Lib.hid (HV6.out.keeps (Keeps.of_below (S := fun _ => False) hb7) id); clear hb7; have u0 : w7.cell? ⟨w5.heap.size, 0, none⟩ = some (.int .i64 4) := HU7.out.cell 0; have u1 : w7.cell? ⟨w5.heap.size, 1, none⟩ = some (.int .i64 rn) := HU7.out.cell 1; have u2 : w7.cell? ⟨w5.heap.size, 2, none⟩ = some (.string ⟨#[]⟩) := HU7.out.cell 2; have u3 : w7.cell? ⟨w5.heap.size, 3, none⟩ = some (.slice A rl.length c) := HU7.out.cell 3)
          | (go_at_call 15; refine (HCo.out _ HX7.out).mono ?_; rintro e w8 ⟨y, rfl, hvin, hb8⟩; obtain ⟨A8, c8, rfl⟩ := hvin.form; have HVin := Lib.hid hvin; have HX8 := Lib.hid (HX7.out.trans (hb8.mono HX7.out.size)); have HS8 := Lib.hid hb8.size; have HV8 := Lib.hid (HV7.out.keeps (Keeps.of_below (S := fun _ => False) hb8) id); clear hb8 hvin; have z0 := HV8.out.frozen 0; have z1 := HV8.out.frozen 1; have z2 := HV8.out.frozen 2; have z3 := HV8.out.frozen 3; have v0 := HV8.out.cell 0; have v1 := HV8.out.cell 1; have v2 := HV8.out.cell 2; have v3 := HV8.out.cell 3))
        have hs7 := HX7.out.size
        have hs8 := HS8.out
        have HV9 := (((HV8.out.set_ 0 (.int .i64 4)).set_ 1 (.int .i64 rn)).set_ 2 (.string ⟨#[]⟩)).set_ 3 (.slice A8 rl.length c8)
        have hb80 := HB5.out.trans (HX8.out.mono HB5.out.size)
        have HB9 := (((hb80.setCell (p := ⟨w.heap.size, 0, none⟩) (Nat.le_refl _) (.int .i64 4)).setCell (p := ⟨w.heap.size, 1, none⟩) (Nat.le_refl _) (.int .i64 rn)).setCell (p := ⟨w.heap.size, 2, none⟩) (Nat.le_refl _) (.string ⟨#[]⟩)).setCell (p := ⟨w.heap.size, 3, none⟩) (Nat.le_refl _) (.slice A8 rl.length c8)
        have HW9 : VIn ((((w8.setCell ⟨w.heap.size, 0, none⟩ (.int .i64 4)).setCell ⟨w.heap.size, 1, none⟩ (.int .i64 rn)).setCell ⟨w.heap.size, 2, none⟩ (.string ⟨#[]⟩)).setCell ⟨w.heap.size, 3, none⟩ (.slice A8 rl.length c8)) (fun b => w.heap.size ≤ b ∧ b < ((((w8.setCell ⟨w.heap.size, 0, none⟩ (.int .i64 4)).setCell ⟨w.heap.size, 1, none⟩ (.int .i64 rn)).setCell ⟨w.heap.size, 2, none⟩ (.string ⟨#[]⟩)).setCell ⟨w.heap.size, 3, none⟩ (.slice A8 rl.length c8)).heap.size) (.mk 4 rn ⟨#[]⟩ rl) (.agg #[.int .i64 4, .int .i64 rn, .string ⟨#[]⟩, .slice A8 rl.length c8]) := HVin.out.keep (fun b h => ⟨by have := h.1; omega, by have := h.2; simp [World.setCell]; omega⟩) fun q hq => by
          have hne : ∀ o : Nat, (⟨w.heap.size, o, none⟩ : Addr) ≠ q := fun o e => by
            subst e
            have := hq.1
            simp only at this
            omega
          rw [World.cell?_setCell_other _ _ _ _ (hne 3), World.cell?_setCell_other _ _ _ _ (hne 2), World.cell?_setCell_other _ _ _ _ (hne 1), World.cell?_setCell_other _ _ _ _ (hne 0)]
        generalize ((((w8.setCell ⟨w.heap.size, 0, none⟩ (.int .i64 4)).setCell ⟨w.heap.size, 1, none⟩ (.int .i64 rn)).setCell ⟨w.heap.size, 2, none⟩ (.string ⟨#[]⟩)).setCell ⟨w.heap.size, 3, none⟩ (.slice A8 rl.length c8)) = w9 at *
        have e0 : w9.cell? ⟨w.heap.size, 0, none⟩ = some (.int .i64 4) := HV9.cell 0
        have e1 : w9.cell? ⟨w.heap.size, 1, none⟩ = some (.int .i64 rn) := HV9.cell 1
        have e2 : w9.cell? ⟨w.heap.size, 2, none⟩ = some (.string ⟨#[]⟩) := HV9.cell 2
        have e3 : w9.cell? ⟨w.heap.size, 3, none⟩ = some (.slice A8 rl.length c8) := HV9.cell 3
        refine bodyPost_ret (v := .tuple #[.agg #[.int .i64 4, .int .i64 rn, .string ⟨#[]⟩, .slice A8 rl.length c8], .int .i64 0]) (by simp [results, Tryz.results5, go_sem, e0, e1, e2, e3]) rfl ?_
        exact ⟨HB9, .inr ⟨HAll.out, .inr (.inr ⟨A8, c8, rn, rl, HGd.out, hrb, rfl, HW9⟩)⟩⟩
      | false =>
        go_wp2_with (first
          | (go_at_call 14; refine (HRt.out _ HX6.out).mono ?_; rintro e w7 ⟨rfl, hb7⟩; have HX7 := Lib.hid (HX6.out.trans (hb7.mono HX6.out.size)); have HU7 := Lib.hid (HU6.out.keeps (Keeps.of_below (S := fun _ => False) hb7) id); have HV7 := Lib.hid (HV6.out.keeps (Keeps.of_below (S := fun _ => False) hb7) id); clear hb7; have u0 : w7.cell? ⟨w5.heap.size, 0, none⟩ = some (.int .i64 4) := HU7.out.cell 0; have u1 : w7.cell? ⟨w5.heap.size, 1, none⟩ = some (.int .i64 rn) := HU7.out.cell 1; have u2 : w7.cell? ⟨w5.heap.size, 2, none⟩ = some (.string ⟨#[]⟩) := HU7.out.cell 2; have u3 : w7.cell? ⟨w5.heap.size, 3, none⟩ = some (.slice A rl.length c) := HU7.out.cell 3)
          | (have HB7 := Lib.hid (HB5.out.trans (HX7.out.mono HB5.out.size)); go_at_call 12; refine (wrong_any _ _).mono ?_; rintro e w8 ⟨rfl, hb8⟩; have HV8 := Lib.hid (HV7.out.keeps (Keeps.of_below (S := fun _ => False) hb8) id); have HB8 := Lib.hid (HB7.out.trans (hb8.mono HB7.out.size)); clear hb8; have q0 := HV8.out.frozen 0; have q1 := HV8.out.frozen 1; have q2 := HV8.out.frozen 2; have q3 := HV8.out.frozen 3; have r0 := HV8.out.cell 0; have r1 := HV8.out.cell 1; have r2 := HV8.out.cell 2; have r3 := HV8.out.cell 3))
        have HV9 := (((HV8.out.set_ 0 (.int .i64 0)).set_ 1 (.int .i64 0)).set_ 2 (.string ⟨#[]⟩)).set_ 3 (.slice none 0 0)
        have HB9 := (((HB8.out.setCell (p := ⟨w.heap.size, 0, none⟩) (Nat.le_refl _) (.int .i64 0)).setCell (p := ⟨w.heap.size, 1, none⟩) (Nat.le_refl _) (.int .i64 0)).setCell (p := ⟨w.heap.size, 2, none⟩) (Nat.le_refl _) (.string ⟨#[]⟩)).setCell (p := ⟨w.heap.size, 3, none⟩) (Nat.le_refl _) (.slice none 0 0)
        generalize ((((w8.setCell ⟨w.heap.size, 0, none⟩ (.int .i64 0)).setCell ⟨w.heap.size, 1, none⟩ (.int .i64 0)).setCell ⟨w.heap.size, 2, none⟩ (.string ⟨#[]⟩)).setCell ⟨w.heap.size, 3, none⟩ (.slice none 0 0)) = w9 at *
        have e0 : w9.cell? ⟨w.heap.size, 0, none⟩ = some (.int .i64 0) := HV9.cell 0
        have e1 : w9.cell? ⟨w.heap.size, 1, none⟩ = some (.int .i64 0) := HV9.cell 1
        have e2 : w9.cell? ⟨w.heap.size, 2, none⟩ = some (.string ⟨#[]⟩) := HV9.cell 2
        have e3 : w9.cell? ⟨w.heap.size, 3, none⟩ = some (.slice none 0 0) := HV9.cell 3
        refine bodyPost_ret (v := .tuple #[.agg #[.int .i64 0, .int .i64 0, .string ⟨#[]⟩, .slice none 0 0], .int .i64 1]) (by simp [results, Tryz.results5, go_sem, e0, e1, e2, e3]) rfl ?_
        exact ⟨HB9, .inr ⟨HAll.out, .inr (.inl ⟨rn, rl, HGd.out, hrb, rfl⟩)⟩⟩
end As
end Go.Proofs.YtopmodahdmnpjaaGreatDoor
