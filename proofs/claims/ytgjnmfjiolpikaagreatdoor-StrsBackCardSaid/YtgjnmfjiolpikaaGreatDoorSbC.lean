/- strs.Call at any arguments, with any answer: the walk. -/
import Derived.Test.YtgjnmfjiolpikaaGreatDoorFnB
import Derived.Test.YtgjnmfjiolpikaaGreatDoorSbP
import Derived.Test.YtgjnmfjiolpikaaGreatDoorDoBa
namespace Go.Proofs.YtgjnmfjiolpikaaGreatDoor
open Go Go.RowKit
namespace Sb
open Dp
/-- A value as an argument: kind, number, text, items. -/
abbrev AV := Int × Int × ByteArray × Option Addr × Nat × Nat
def avV (v : AV) : Value := .agg #[.int .i64 v.1, .int .i64 v.2.1, .string v.2.2.1, .slice v.2.2.2.1 v.2.2.2.2.1 v.2.2.2.2.2]
/-- The arguments of a call. -/
def ArgsA (w : World) (g : Nat) (vs : List AV) : Prop := g < w.heap.size ∧ ∀ i, i < vs.length → w.cell? ⟨g, i * 4, none⟩ = some (.int .i64 (vs.getD i default).1) ∧ w.cell? ⟨g, i * 4 + 1, none⟩ = some (.int .i64 (vs.getD i default).2.1) ∧
  w.cell? ⟨g, i * 4 + 2, none⟩ = some (.string (vs.getD i default).2.2.1) ∧ w.cell? ⟨g, i * 4 + 3, none⟩ = some (.slice (vs.getD i default).2.2.2.1 (vs.getD i default).2.2.2.2.1 (vs.getD i default).2.2.2.2.2)
theorem ArgsA.below {w w' : World} {g : Nat} {vs : List AV} (h : ArgsA w g vs) {B : Nat} (hb : Below B w w') (hB : w.heap.size ≤ B) : ArgsA w' g vs :=
  ⟨Nat.lt_of_lt_of_le h.1 hb.size, fun i hi => by
    obtain ⟨a, b, c, d⟩ := h.2 i hi
    have hg : g < B := Nat.lt_of_lt_of_le h.1 hB
    exact ⟨(hb.cell (p := ⟨g, _, none⟩) hg).trans a, (hb.cell (p := ⟨g, _, none⟩) hg).trans b, (hb.cell (p := ⟨g, _, none⟩) hg).trans c, (hb.cell (p := ⟨g, _, none⟩) hg).trans d⟩⟩
theorem taken_w {xs : Array Value} {w : World} (h : Calls Tryz.prog 11 xs w fun e w' => e = .returned (.bool true) ∧ Below w.heap.size w w') : Calls Tryz.prog 11 xs w fun e w' => ∃ v, e = .returned v ∧ v = .bool true ∧ Below w.heap.size w w' :=
  h.mono (by rintro e w' ⟨rfl, h⟩; exact ⟨_, rfl, rfl, h⟩)
def zeroV : Value := .agg #[.int .i64 0, .int .i64 0, .string ⟨#[]⟩, .slice none 0 0]
def ansV (rk rn : Int) (rt : ByteArray) (A : Option Addr) (l c : Nat) : Value := .agg #[.int .i64 rk, .int .i64 rn, .string rt, .slice A l c]
set_option maxRecDepth 100000 in
theorem wrong_any (er : Int) (w : World) : Calls Tryz.prog 10 #[.int .i64 er] w fun e w' => e = .returned (.tuple #[.agg #[.int .i64 0, .int .i64 0, .string ⟨#[]⟩, .slice none 0 0], .int .i64 er]) ∧ Below w.heap.size w w' := by
  have B := (Below.refl w.heap.size w).alloc (Nat.le_refl _) (.cells #[.int .i64 0, .int .i64 0, .string ⟨#[]⟩, .slice none 0 0] 25)
  have HN := Blk.new w 25 #[.int .i64 0, .int .i64 0, .string ⟨#[]⟩, .slice none 0 0]
  go_enter Tryz.func10, Tryz.ntmps10
  go_wp2_with fail
  generalize w.alloc (.cells #[.int .i64 0, .int .i64 0, .string ⟨#[]⟩, .slice none 0 0] 25) = w1 at *
  have e0 : w1.cell? ⟨w.heap.size, 0, none⟩ = _ := HN.cell 0
  have e1 : w1.cell? ⟨w.heap.size, 1, none⟩ = _ := HN.cell 1
  have e2 : w1.cell? ⟨w.heap.size, 2, none⟩ = _ := HN.cell 2
  have e3 : w1.cell? ⟨w.heap.size, 3, none⟩ = _ := HN.cell 3
  simp at e0 e1 e2 e3
  refine bodyPost_ret (v := .tuple #[.agg #[.int .i64 0, .int .i64 0, .string ⟨#[]⟩, .slice none 0 0], .int .i64 er]) (by simp [results, Tryz.results10, go_sem, e0, e1, e2, e3]) rfl ?_
  exact ⟨rfl, B⟩
set_option maxRecDepth 100000 in
set_option maxHeartbeats 8000000 in
theorem call_gen (nm tk : ByteArray) (must : Nat) (many : Bool) (fid : FuncId) (Cap : World → Array Value → Prop) (vs : List AV) (rk rn : Int) (rt : ByteArray) (rl : List GI) (er : Int) (m : Int) (w : World) (hL : LibA m w) (g cap : Nat)
    (hent : ∀ w' b, FnAt w' b → ∃ es clock i ca, w'.heap[b]? = some (.map es clock) ∧ Instr.findNow .string (.string nm) es.toList 0 = some (some (i, .agg #[.string tk, .int .i64 must, .bool many, .func (.func fid) #[] ca])) ∧ Cap w' ca)
    (hcap : ∀ w' w'' ca, Cap w' ca → Below w'.heap.size w' w'' → Cap w'' ca)
    (hn : must ≤ vs.length) (hm : vs.length ≤ tk.size) (htz : tk.size ≤ 1000)
    (htk : ∀ i (h : i < tk.size), i < vs.length → ∀ wz, Below w.heap.size w wz → Calls Tryz.prog 11 #[.int .u8 tk[i].toNat, avV (vs.getD i default)] wz fun e w' => e = .returned (.bool true) ∧ Below wz.heap.size wz w')
    (hA : ArgsA w g vs) (hrt : rt.size + sizesL rl ≤ 65536) (hrl : rl.length ≤ 1000000)
    (hin : ∀ args w, (callFunc fid args).run Tryz.prog w = .ok (.enter fid args) w)
    (hdo : ∀ w' ca, LibA m w' → Below w.heap.size w w' → Cap w' ca → Calls Tryz.prog fid (#[.slice (some ⟨g, 0, none⟩) vs.length cap] ++ ca) w' fun e w'' => ∃ A c, e = .returned (.tuple #[ansV rk rn rt A rl.length c, .int .i64 er]) ∧ VIn w'' (fun b => w'.heap.size ≤ b ∧ b < w''.heap.size) (.mk rk rn rt rl) (ansV rk rn rt A rl.length c) ∧ Below w'.heap.size w' w'') :
    Calls Tryz.prog 5 #[.string nm, .slice (some ⟨g, 0, none⟩) vs.length cap] w fun e w' => Below w.heap.size w w' ∧
      ((er = 0 ∧ rl.length ≤ 2048 ∧ ∃ A c, e = .returned (.tuple #[ansV rk rn rt A rl.length c, .int .i64 0]) ∧ VIn w' (fun b => w.heap.size ≤ b ∧ b < w'.heap.size) (.mk rk rn rt rl) (ansV rk rn rt A rl.length c)) ∨
       (er ≠ 0 ∧ e = .returned (.tuple #[zeroV, .int .i64 er])) ∨ (er = 0 ∧ 2048 < rl.length ∧ e = .returned (.tuple #[zeroV, .int .i64 8]))) := by
  have H := Lib.hid (fn_any (w.alloc (.cells #[.int .i64 0, .int .i64 0, .string ⟨#[]⟩, .slice none 0 0] 25)) (hL.below ((Below.refl w.heap.size w).alloc (Nat.le_refl _) _)))
  go_enter Tryz.func5, Tryz.ntmps5
  go_wp2_with fail
  refine H.out.mono ?_
  rintro e w1 ⟨b, rfl, hfn, hb1⟩
  obtain ⟨es, clock, i0, ca, hmp, hfd, hcp⟩ := hent w1 b hfn
  have hlook := Lib.hid (look_run hmp hfd)
  have hno1 : ¬ ((vs.length : Int) < (must : Int)) := by omega
  have hno2 : ¬ ((tk.size : Int) < (vs.length : Int)) := by omega
  have hno3 : ¬ (vs.length < must) := by omega
  have hno4 : ¬ (tk.size < vs.length) := by omega
  have HN := Lib.hid (Blk.new w1 36 #[.string ⟨#[]⟩, .int .i64 0, .bool false, .nilFunc])
  have z0 := HN.out.frozen 0
  have z1 := HN.out.frozen 1
  have z2 := HN.out.frozen 2
  have z3 := HN.out.frozen 3
  have n0 : (w1.alloc (.cells #[.string ⟨#[]⟩, .int .i64 0, .bool false, .nilFunc] 36)).cell? ⟨w1.heap.size, 0, none⟩ = some (.string ⟨#[]⟩) := HN.out.cell 0
  have n1 : (w1.alloc (.cells #[.string ⟨#[]⟩, .int .i64 0, .bool false, .nilFunc] 36)).cell? ⟨w1.heap.size, 1, none⟩ = some (.int .i64 0) := HN.out.cell 1
  have n2 : (w1.alloc (.cells #[.string ⟨#[]⟩, .int .i64 0, .bool false, .nilFunc] 36)).cell? ⟨w1.heap.size, 2, none⟩ = some (.bool false) := HN.out.cell 2
  have n3 : (w1.alloc (.cells #[.string ⟨#[]⟩, .int .i64 0, .bool false, .nilFunc] 36)).cell? ⟨w1.heap.size, 3, none⟩ = some .nilFunc := HN.out.cell 3
  have HN2 := Lib.hid (Blk.new w1 36 #[.string tk, .int .i64 must, .bool many, .nilFunc])
  have y3 : (w1.alloc (.cells #[.string tk, .int .i64 must, .bool many, .nilFunc] 36)).cell? ⟨w1.heap.size, 3, none⟩ = some .nilFunc := HN2.out.cell 3
  have x3 := HN2.out.frozen 3
  have hlook2 := Lib.hid (look_run (w := w1.alloc (.cells #[.string ⟨#[]⟩, .int .i64 0, .bool false, .nilFunc] 36)) ((Below.heap_alloc w1 _ b (by have := (Array.getElem?_eq_some_iff.1 hmp).1; exact this)).trans hmp) hfd)
  go_wp2_with (at_lookup; first | refine wpList_lookup_run _ rfl _ _ _ true rfl _ hlook.out ?_ | refine wpList_lookup_run _ rfl _ _ _ true rfl _ hlook2.out ?_)
  have hV0 : Blk w1 w.heap.size 25 #[.int .i64 0, .int .i64 0, .string ⟨#[]⟩, .slice none 0 0] := (Blk.new w _ _).keeps (Keeps.of_below (S := fun _ => False) hb1) id
  have HV1 := Lib.hid (hV0.alloc (.cells #[.string tk, .int .i64 must, .bool many, .func (.func fid) #[] ca] 36))
  have HF1 := Lib.hid (Blk.new w1 36 #[.string tk, .int .i64 must, .bool many, .func (.func fid) #[] ca])
  have hb0 := (Below.refl w.heap.size w).alloc (Nat.le_refl _) (.cells #[.int .i64 0, .int .i64 0, .string ⟨#[]⟩, .slice none 0 0] 25)
  have hb2 := (hb0.trans (hb1.mono hb0.size))
  have HB1 := Lib.hid (hb2.alloc hb2.size (.cells #[.string tk, .int .i64 must, .bool many, .func (.func fid) #[] ca] 36))
  have HC1 := Lib.hid (hcap _ _ _ hcp ((Below.refl w1.heap.size w1).alloc (Nat.le_refl _) (.cells #[.string tk, .int .i64 must, .bool many, .func (.func fid) #[] ca] 36)))
  have hlt1 : w.heap.size < w1.heap.size := hV0.lt
  clear HN HN2 z0 z1 z2 z3 n0 n1 n2 n3 y3 x3 hlook hlook2 hV0 hb0 hb2 hcp hfd hmp hfn hb1 H hent
  have HA := Lib.hid hA
  have HT := Lib.hid htk
  have HD := Lib.hid hdo
  have HCP := Lib.hid hcap
  have HL := Lib.hid hL
  clear hA htk hdo hcap hL
  go_loopg [51] vs.length (fun gk r wx => ∃ i : Nat, i + gk = vs.length ∧ r = .int .i64 i ∧ Hid (Below w.heap.size w wx) ∧ Hid (Blk wx w1.heap.size 36 #[.string tk, .int .i64 must, .bool many, .func (.func fid) #[] ca]) ∧
    Hid (Blk wx w.heap.size 25 #[.int .i64 0, .int .i64 0, .string ⟨#[]⟩, .slice none 0 0]) ∧ Hid (Cap wx ca))
  case atStart => exact ⟨0, by omega, rfl, HB1, HF1, HV1, HC1⟩
  case round =>
    clear HB1 HF1 HV1 HC1
    obtain ⟨i, hig, rfl, HB, HF, HV, HC⟩ := hrel
    by_cases hlt : i < vs.length
    · obtain ⟨a0, a1, a2, a3⟩ := (HA.out.below HB.out (Nat.le_refl _)).2 i hlt
      have hTkc := HT.out i (by omega) hlt
      have hti : i < tk.size := by omega
      have hI : (i : Int) < (vs.length : Int) := by omega
      have hmin : min (i : Int) ((tk.size : Int) - 1) = (i : Int) := by omega
      have hw1 : IntKind.i64.wrap ((tk.size : Int) - 1) = (tk.size : Int) - 1 := IntWalk.i64_in _ (by omega)
      generalize vs.getD i default = v at *
      obtain ⟨vk, vn, vt, va, vl, vc⟩ := v
      dsimp only [avV] at a0 a1 a2 a3 hTkc
      have HTk := Lib.hid hTkc
      clear hTkc
      have HN := Lib.hid (Blk.new wr 25 #[.int .i64 0, .int .i64 0, .string ⟨#[]⟩, .slice none 0 0])
      have z0 := HN.out.frozen 0
      have z1 := HN.out.frozen 1
      have z2 := HN.out.frozen 2
      have z3 := HN.out.frozen 3
      go_wp2_with fail
      have HN2 := Lib.hid (Blk.new wr 25 #[.int .i64 vk, .int .i64 vn, .string vt, .slice va vl vc])
      have HF2 := Lib.hid (HF.out.alloc (.cells #[.int .i64 vk, .int .i64 vn, .string vt, .slice va vl vc] 25))
      have HV2 := Lib.hid (HV.out.alloc (.cells #[.int .i64 vk, .int .i64 vn, .string vt, .slice va vl vc] 25))
      have HB2 := Lib.hid (HB.out.alloc HB.out.size (.cells #[.int .i64 vk, .int .i64 vn, .string vt, .slice va vl vc] 25))
      have HC2 := Lib.hid (HCP.out _ _ _ HC.out ((Below.refl wr.heap.size wr).alloc (Nat.le_refl _) (.cells #[.int .i64 vk, .int .i64 vn, .string vt, .slice va vl vc] 25)))
      generalize wr.alloc (.cells #[.int .i64 vk, .int .i64 vn, .string vt, .slice va vl vc] 25) = w3 at *
      clear HN z0 z1 z2 z3 a0 a1 a2 a3
      have b0 : w3.cell? ⟨wr.heap.size, 0, none⟩ = some (.int .i64 vk) := HN2.out.cell 0
      have b1 : w3.cell? ⟨wr.heap.size, 1, none⟩ = some (.int .i64 vn) := HN2.out.cell 1
      have b2 : w3.cell? ⟨wr.heap.size, 2, none⟩ = some (.string vt) := HN2.out.cell 2
      have b3 : w3.cell? ⟨wr.heap.size, 3, none⟩ = some (.slice va vl vc) := HN2.out.cell 3
      have f0 : w3.cell? ⟨w1.heap.size, 0, none⟩ = some (.string tk) := HF2.out.cell 0
      go_cut [67] (fun r wx => r = .bool false ∧ Below w3.heap.size w3 wx)
      case first =>
        go_region_law (first
          | (refine step_callP rfl 11 _ _ rfl #[.int .u8 tk[i].toNat, .agg #[.int .i64 vk, .int .i64 vn, .string vt, .slice va vl vc]] (by simp [Act.eval, Act.put]) (taken_in _ _) _ (taken_w (HTk.out _ HB2.out.drew)) ?_; rintro v w4 ⟨rfl, hb4⟩))
        all_goals
          go_wp2_with fail
          simp only [Act.put, List.getElem_toArray, List.getElem_cons_succ, List.getElem_cons_zero, List.setIfInBounds_toArray, List.set_cons_succ, List.set_cons_zero]
          go_meet
          exact ⟨rfl, ⟨hb4.os, hb4.tape, hb4.output, hb4.size, hb4.block⟩⟩
      case rest =>
        obtain ⟨rfl, hb4⟩ := hcut
        go_wp2_with fail
        go_roundg (gk - 1)
        case rel => exact ⟨i + 1, by omega, by go_num, HB2.out.trans (hb4.mono HB2.out.size), HF2.out.keeps (Keeps.of_below (S := fun _ => False) hb4) id, HV2.out.keeps (Keeps.of_below (S := fun _ => False) hb4) id, HCP.out _ _ _ HC2.out hb4⟩
        case measure => omega
    · have hI : ¬ ((i : Int) < (vs.length : Int)) := by omega
      have f3 : wr.cell? ⟨w1.heap.size, 3, none⟩ = some (.func (.func fid) #[] ca) := HF.out.cell 3
      have v0 : wr.cell? ⟨w.heap.size, 0, none⟩ = some (.int .i64 0) := HV.out.cell 0
      have v1 : wr.cell? ⟨w.heap.size, 1, none⟩ = some (.int .i64 0) := HV.out.cell 1
      have v2 : wr.cell? ⟨w.heap.size, 2, none⟩ = some (.string ⟨#[]⟩) := HV.out.cell 2
      have v3 : wr.cell? ⟨w.heap.size, 3, none⟩ = some (.slice none 0 0) := HV.out.cell 3
      have HD2 := Lib.hid (HD.out wr ca (HL.out.below HB.out) HB.out HC.out)
      have hin2 := hin (#[.slice (some ⟨g, 0, none⟩) vs.length cap] ++ ca) wr
      go_wp2_with fail
      refine HD2.out.mono ?_
      rintro e w5 ⟨A, c, rfl, hvin, hb5⟩
      have HB5 := Lib.hid (HB.out.trans (hb5.mono HB.out.size))
      have HV5 := Lib.hid (HV.out.keeps (Keeps.of_below (S := fun _ => False) hb5) id)
      have HW5 : Hid (VIn w5 (fun b => w.heap.size < b ∧ b < w5.heap.size) (.mk rk rn rt rl) (ansV rk rn rt A rl.length c)) := hvin.keep (fun b hb => by have := HV.out.lt; omega) fun _ _ => rfl
      clear f3 v0 v1 v2 v3 hb5 HD2 hin2 hvin
      have HU6 := Lib.hid (Blk.new w5 25 #[.int .i64 rk, .int .i64 rn, .string rt, .slice A rl.length c])
      have HV6 := Lib.hid (HV5.out.alloc (.cells #[.int .i64 rk, .int .i64 rn, .string rt, .slice A rl.length c] 25))
      have HB6 := Lib.hid (HB5.out.alloc HB5.out.size (.cells #[.int .i64 rk, .int .i64 rn, .string rt, .slice A rl.length c] 25))
      have HW6 : Hid (VIn (w5.alloc (.cells #[.int .i64 rk, .int .i64 rn, .string rt, .slice A rl.length c] 25)) (fun b => w.heap.size < b ∧ b < w5.heap.size) (.mk rk rn rt rl) (ansV rk rn rt A rl.length c)) := HW5.out.keep (fun _ h => h) fun q hq => World.cell?_alloc_lt w5 _ q hq.2
      have v0 := HV5.out.cell 0
      have v1 := HV5.out.cell 1
      have v2 := HV5.out.cell 2
      have v3 := HV5.out.cell 3
      have hlt5 : w.heap.size < w5.heap.size := HV5.out.lt
      unfold ansV at *
      clear HW5 HV5 HB5
      go_wp2_with fail
      have hsz6 : (w5.alloc (.cells #[.int .i64 rk, .int .i64 rn, .string rt, .slice A rl.length c] 25)).heap.size = w5.heap.size + 1 := by simp
      generalize w5.alloc (.cells #[.int .i64 rk, .int .i64 rn, .string rt, .slice A rl.length c] 25) = w6 at *
      clear v0 v1 v2 v3
      have hval : VAt w6 w6.heap.size (.mk rk rn rt rl) (.agg #[.int .i64 rk, .int .i64 rn, .string rt, .slice A rl.length c]) := HW6.out.at_ (fun b h _ => h) (fun b h => by have := h.2; omega)
      have HSum := Lib.hid (fun (j : Nat) (it : GI) (h : rl[j]? = some it) => sizes_take rl j it h)
      have HSle := Lib.hid (sizes_le rl)
      have hj0 : sizesL (rl.take 0) = 0 := by rw [List.take_zero]; rfl
      have HJ0 := Lib.hid hj0
      cases hval with
      | mk _ _ _ _ _ _ vb voff VC hvc hvn hvA hvi hvv =>
      have HvA := Lib.hid hvA
      have HvI := Lib.hid hvi
      have HvV := Lib.hid hvv
      clear hvA hvi hvv hj0 hvn HA HT HD HCP HL HB HV HC
      go_loopw [12, 85] (fun x12 x85 wx => ∃ j : Nat, j ≤ rl.length ∧ x85 = .int .i64 j ∧ x12 = .int .i64 ((rt.size + sizesL (rl.take j) : Nat) : Int) ∧ Hid (Below w6.heap.size w6 wx)) (fun _ xi _ => rl.length - (match xi with | .int _ q => q | _ => 0).toNat)
      case atStart => exact ⟨0, Nat.zero_le _, rfl, by rw [HJ0.out]; rfl, Lib.hid (Below.refl _ _)⟩
      case round =>
        obtain ⟨j, hj, rfl, rfl, HBx⟩ := hrel
        rename World => wq
        have hle := HSle.out j
        by_cases hjl : j < rl.length
        · obtain ⟨it, hit⟩ : ∃ it, rl[j]? = some it := ⟨_, List.getElem?_eq_getElem hjl⟩
          obtain ⟨rfl, hbB⟩ := HvA.out (by omega)
          obtain ⟨a0, a1, a2, u0, u1, u2, u3, e, a3, a4, a5, a6⟩ := (HvI.out j it hit).below HBx.out hbB
          have hform := HvV.out j it hit
          rw [e] at hform
          obtain ⟨ib, ii, is, iv⟩ := it
          obtain ⟨k1, n1, t1, l1⟩ := iv
          simp only [GI.val, GI.isText, GI.int, GI.text] at hform a0 a1 a2
          obtain ⟨rfl, rfl, rfl, A1, e1, rfl⟩ := vat_form2 hform
          have hS1 := HSum.out j _ hit
          have hS2 := HSle.out (j + 1)
          simp only [GI.val, textG] at hS1
          have HS1 := Lib.hid hS1
          have hsum1 : sizesL (rl.take j) + t1.size ≤ sizesL rl := by omega
          have hwq := HBx.out.size
          have HBy := Lib.hid (HBx.out.alloc hwq (.cells #[.bool ib, .int .i64 ii, .string is, .int .i64 k1, .int .i64 n1, .string t1, .slice A1 l1.length e1] 46))
          have hjlI : (j : Int) < (rl.length : Int) := by omega
          clear hform e HvI HvV HvA hS1 hS2 HSum HSle hle HJ0
          generalize sizesL (rl.take j) = sj at *
          have hw12 : IntKind.i64.wrap (((rt.size + sj : Nat) : Int) + (t1.size : Int)) = ((rt.size + sj : Nat) : Int) + (t1.size : Int) := IntWalk.i64_in _ (by omega)
          have hw13 : IntKind.i64.wrap ((rt.size : Int) + (sj : Int) + (t1.size : Int)) = (rt.size : Int) + (sj : Int) + (t1.size : Int) := IntWalk.i64_in _ (by omega)
          go_wp2_with fail
          go_roundw
          case rel => exact ⟨j + 1, by omega, by go_num, by rw [HS1.out]; go_num, HBy⟩
          case measure => simp <;> omega
        · obtain rfl : j = rl.length := by omega
          have hfull : sizesL (rl.take rl.length) = sizesL rl := by rw [List.take_length]
          rw [hfull]
          have hbig : ¬ ((65536 : Int) < ((rt.size + sizesL rl : Nat) : Int)) := by omega
          have hbig2 : decide ((65536 : Int) < ((rt.size + sizesL rl : Nat) : Int)) = false := decide_eq_false hbig
          have HBz := Lib.hid (HB6.out.trans (HBx.out.mono HB6.out.size))
          have HVz := Lib.hid (HV6.out.keeps (Keeps.of_below (S := fun _ => False) HBx.out) id)
          have HUz := Lib.hid (HU6.out.keeps (Keeps.of_below (S := fun _ => False) HBx.out) id)
          have HWz : Hid (VIn wq (fun b => w.heap.size < b ∧ b < w5.heap.size) (.mk rk rn rt rl) (.agg #[.int .i64 rk, .int .i64 rn, .string rt, .slice A rl.length c])) := HW6.out.keep (fun _ h => h) fun q hq => HBx.out.cell (by have := hq.2; omega)
          have hwq := HBx.out.size
          clear HvI HvV HvA HSum HSle hle HJ0 hfull HB6 HV6 HU6 HW6 HBx
          generalize hss : rt.size + sizesL rl = ss at *
          have z0 := HVz.out.frozen 0
          have z1 := HVz.out.frozen 1
          have z2 := HVz.out.frozen 2
          have z3 := HVz.out.frozen 3
          have v0 : wq.cell? ⟨w.heap.size, 0, none⟩ = some (.int .i64 0) := HVz.out.cell 0
          have v1 : wq.cell? ⟨w.heap.size, 1, none⟩ = some (.int .i64 0) := HVz.out.cell 1
          have v2 : wq.cell? ⟨w.heap.size, 2, none⟩ = some (.string ⟨#[]⟩) := HVz.out.cell 2
          have v3 : wq.cell? ⟨w.heap.size, 3, none⟩ = some (.slice none 0 0) := HVz.out.cell 3
          have u0 : wq.cell? ⟨w5.heap.size, 0, none⟩ = some (.int .i64 rk) := HUz.out.cell 0
          have u1 : wq.cell? ⟨w5.heap.size, 1, none⟩ = some (.int .i64 rn) := HUz.out.cell 1
          have u2 : wq.cell? ⟨w5.heap.size, 2, none⟩ = some (.string rt) := HUz.out.cell 2
          have u3 : wq.cell? ⟨w5.heap.size, 3, none⟩ = some (.slice A rl.length c) := HUz.out.cell 3
          by_cases her : er = 0
          · subst her
            by_cases hmany : 2048 < rl.length
            · have d1 : decide ((2048 : Int) < (rl.length : Int)) = true := decide_eq_true (by omega)
              clear u0 u1 u2 v0 v1 v2 v3 z0 z1 z2 z3
              go_wp2_with (go_at_call 10; refine (wrong_any 8 _).mono ?_; rintro e w7 ⟨rfl, hb7⟩; have HB7 := Lib.hid (HBz.out.trans (hb7.mono HBz.out.size)); have HV7 := Lib.hid (HVz.out.keeps (Keeps.of_below (S := fun _ => False) hb7) id); clear hb7; have z0 := HV7.out.frozen 0; have z1 := HV7.out.frozen 1; have z2 := HV7.out.frozen 2; have z3 := HV7.out.frozen 3; have v0 := HV7.out.cell 0; have v1 := HV7.out.cell 1; have v2 := HV7.out.cell 2; have v3 := HV7.out.cell 3)
              have HV8 := (((HV7.out.set_ 0 (.int .i64 0)).set_ 1 (.int .i64 0)).set_ 2 (.string ⟨#[]⟩)).set_ 3 (.slice none 0 0)
              have HB8 := (((HB7.out.setCell (p := ⟨w.heap.size, 0, none⟩) (Nat.le_refl _) (.int .i64 0)).setCell (p := ⟨w.heap.size, 1, none⟩) (Nat.le_refl _) (.int .i64 0)).setCell (p := ⟨w.heap.size, 2, none⟩) (Nat.le_refl _) (.string ⟨#[]⟩)).setCell (p := ⟨w.heap.size, 3, none⟩) (Nat.le_refl _) (.slice none 0 0)
              generalize ((((w7.setCell ⟨w.heap.size, 0, none⟩ (.int .i64 0)).setCell ⟨w.heap.size, 1, none⟩ (.int .i64 0)).setCell ⟨w.heap.size, 2, none⟩ (.string ⟨#[]⟩)).setCell ⟨w.heap.size, 3, none⟩ (.slice none 0 0)) = w8 at *
              have e0 : w8.cell? ⟨w.heap.size, 0, none⟩ = some (.int .i64 0) := HV8.cell 0
              have e1 : w8.cell? ⟨w.heap.size, 1, none⟩ = some (.int .i64 0) := HV8.cell 1
              have e2 : w8.cell? ⟨w.heap.size, 2, none⟩ = some (.string ⟨#[]⟩) := HV8.cell 2
              have e3 : w8.cell? ⟨w.heap.size, 3, none⟩ = some (.slice none 0 0) := HV8.cell 3
              refine bodyPost_ret (v := .tuple #[.agg #[.int .i64 0, .int .i64 0, .string ⟨#[]⟩, .slice none 0 0], .int .i64 8]) (by simp [results, Tryz.results5, go_sem, e0, e1, e2, e3]) rfl ?_
              refine ⟨HB8, ?_⟩
              first | exact .inr rfl | exact .inr (.inr ⟨rfl, by omega, rfl⟩)
            · have d1 : decide ((2048 : Int) < (rl.length : Int)) = false := decide_eq_false (by omega)
              go_wp2_with fail
              have HV8 := (((HVz.out.set_ 0 (.int .i64 rk)).set_ 1 (.int .i64 rn)).set_ 2 (.string rt)).set_ 3 (.slice A rl.length c)
              have HB8 := (((HBz.out.setCell (p := ⟨w.heap.size, 0, none⟩) (Nat.le_refl _) (.int .i64 rk)).setCell (p := ⟨w.heap.size, 1, none⟩) (Nat.le_refl _) (.int .i64 rn)).setCell (p := ⟨w.heap.size, 2, none⟩) (Nat.le_refl _) (.string rt)).setCell (p := ⟨w.heap.size, 3, none⟩) (Nat.le_refl _) (.slice A rl.length c)
              have HW8 : VIn ((((wq.setCell ⟨w.heap.size, 0, none⟩ (.int .i64 rk)).setCell ⟨w.heap.size, 1, none⟩ (.int .i64 rn)).setCell ⟨w.heap.size, 2, none⟩ (.string rt)).setCell ⟨w.heap.size, 3, none⟩ (.slice A rl.length c)) (fun b => w.heap.size ≤ b ∧ b < ((((wq.setCell ⟨w.heap.size, 0, none⟩ (.int .i64 rk)).setCell ⟨w.heap.size, 1, none⟩ (.int .i64 rn)).setCell ⟨w.heap.size, 2, none⟩ (.string rt)).setCell ⟨w.heap.size, 3, none⟩ (.slice A rl.length c)).heap.size) (.mk rk rn rt rl) (.agg #[.int .i64 rk, .int .i64 rn, .string rt, .slice A rl.length c]) := HWz.out.keep (fun b h => ⟨Nat.le_of_lt h.1, by simp [World.setCell]; omega⟩) fun q hq => by
                have hne : ∀ o : Nat, (⟨w.heap.size, o, none⟩ : Addr) ≠ q := fun o e => by
                  subst e
                  exact Nat.lt_irrefl _ hq.1
                rw [World.cell?_setCell_other _ _ _ _ (hne 3), World.cell?_setCell_other _ _ _ _ (hne 2), World.cell?_setCell_other _ _ _ _ (hne 1), World.cell?_setCell_other _ _ _ _ (hne 0)]
              generalize ((((wq.setCell ⟨w.heap.size, 0, none⟩ (.int .i64 rk)).setCell ⟨w.heap.size, 1, none⟩ (.int .i64 rn)).setCell ⟨w.heap.size, 2, none⟩ (.string rt)).setCell ⟨w.heap.size, 3, none⟩ (.slice A rl.length c)) = w8 at *
              have e0 : w8.cell? ⟨w.heap.size, 0, none⟩ = some (.int .i64 rk) := HV8.cell 0
              have e1 : w8.cell? ⟨w.heap.size, 1, none⟩ = some (.int .i64 rn) := HV8.cell 1
              have e2 : w8.cell? ⟨w.heap.size, 2, none⟩ = some (.string rt) := HV8.cell 2
              have e3 : w8.cell? ⟨w.heap.size, 3, none⟩ = some (.slice A rl.length c) := HV8.cell 3
              refine bodyPost_ret (v := .tuple #[.agg #[.int .i64 rk, .int .i64 rn, .string rt, .slice A rl.length c], .int .i64 0]) (by simp [results, Tryz.results5, go_sem, e0, e1, e2, e3]) rfl ?_
              refine ⟨HB8, ?_⟩
              first | exact ⟨by omega, A, c, rfl, HW8⟩ | exact .inl ⟨rfl, by omega, A, c, rfl, HW8⟩
          · have e0 : (er == 0) = false := by rw [beq_eq_false_iff_ne]; exact her
            clear u0 u1 u2 u3 v0 v1 v2 v3 z0 z1 z2 z3 HWz HUz
            go_wp2_with (go_at_call 10; refine (wrong_any er _).mono ?_; rintro e w7 ⟨rfl, hb7⟩; have HB7 := Lib.hid (HBz.out.trans (hb7.mono HBz.out.size)); have HV7 := Lib.hid (HVz.out.keeps (Keeps.of_below (S := fun _ => False) hb7) id); clear hb7; have z0 := HV7.out.frozen 0; have z1 := HV7.out.frozen 1; have z2 := HV7.out.frozen 2; have z3 := HV7.out.frozen 3; have v0 := HV7.out.cell 0; have v1 := HV7.out.cell 1; have v2 := HV7.out.cell 2; have v3 := HV7.out.cell 3)
            have HV8 := (((HV7.out.set_ 0 (.int .i64 0)).set_ 1 (.int .i64 0)).set_ 2 (.string ⟨#[]⟩)).set_ 3 (.slice none 0 0)
            have HB8 := (((HB7.out.setCell (p := ⟨w.heap.size, 0, none⟩) (Nat.le_refl _) (.int .i64 0)).setCell (p := ⟨w.heap.size, 1, none⟩) (Nat.le_refl _) (.int .i64 0)).setCell (p := ⟨w.heap.size, 2, none⟩) (Nat.le_refl _) (.string ⟨#[]⟩)).setCell (p := ⟨w.heap.size, 3, none⟩) (Nat.le_refl _) (.slice none 0 0)
            generalize ((((w7.setCell ⟨w.heap.size, 0, none⟩ (.int .i64 0)).setCell ⟨w.heap.size, 1, none⟩ (.int .i64 0)).setCell ⟨w.heap.size, 2, none⟩ (.string ⟨#[]⟩)).setCell ⟨w.heap.size, 3, none⟩ (.slice none 0 0)) = w8 at *
            have e0 : w8.cell? ⟨w.heap.size, 0, none⟩ = some (.int .i64 0) := HV8.cell 0
            have e1 : w8.cell? ⟨w.heap.size, 1, none⟩ = some (.int .i64 0) := HV8.cell 1
            have e2 : w8.cell? ⟨w.heap.size, 2, none⟩ = some (.string ⟨#[]⟩) := HV8.cell 2
            have e3 : w8.cell? ⟨w.heap.size, 3, none⟩ = some (.slice none 0 0) := HV8.cell 3
            refine bodyPost_ret (v := .tuple #[.agg #[.int .i64 0, .int .i64 0, .string ⟨#[]⟩, .slice none 0 0], .int .i64 er]) (by simp [results, Tryz.results5, go_sem, e0, e1, e2, e3]) rfl ?_
            refine ⟨HB8, ?_⟩
            exact .inr (.inl ⟨her, rfl⟩)
end Sb
end Go.Proofs.YtgjnmfjiolpikaaGreatDoor
