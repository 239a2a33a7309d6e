/- DeepTold returns true for every input of at most 1048576 values and letters, and its arguments read behind the call as before: the row, then the card. The condition is the given statement's own. -/
import Derived.Test.YthdnflklhhfojaaGreatDoorOpenM
import Derived.Test.YthdnflklhhfojaaGreatDoorOpenD
import Derived.Test.YthdnflklhhfojaaGreatDoorSwT
import Derived.Test.YthdnflklhhfojaaGreatDoorDeepToldK
namespace Go.Proofs.YthdnflklhhfojaaGreatDoor
open Go.ChangeShapes Go.WideShapes Go.ChangeAt Go.RowKit Go.Deep
open Go.Joins Sw
theorem bulk_in {H : Type} : ∀ {es : List (DataW H)} {k : Nat} {d : DataW H}, es[k]? = some d → Rows.uptoBulk d ≤ Rows.uptoBulkAll es
  | d0 :: es, 0, d, h => by
    simp only [List.getElem?_cons_zero, Option.some.injEq] at h
    subst h
    simp only [Rows.uptoBulkAll]
    omega
  | d0 :: es, k + 1, d, h => by
    simp only [List.getElem?_cons_succ] at h
    have := bulk_in h
    simp only [Rows.uptoBulkAll]
    omega
  | [], _, _, h => by simp at h
section
variable {H : Type} {enc : TypeId × Value → H} {W : World}
set_option maxRecDepth 100000 in
theorem open_key_u {fuel : Nat} {d0 d1 d2 : Value} {x : DataW H × List MemPlace} (h : DataW.trod enc Tryz.prog W 0 (fun _ => true) true fuel 63 [d0, d1, d2] = some x) (hu : Rows.uptoBulk x.1 ≤ 1048576) : ∃ (b : Bool) (i : Int) (s : ByteArray), d0 = .bool b ∧ d1 = .int .i64 i ∧ d2 = .string s ∧ In64 i ∧ s.size ≤ 1048576 := by
  obtain ⟨xs, n0, rfl, rfl, -, hxl, hf⟩ := DataW.trod_struct Tryz.underlying63 h
  have hxl3 : xs.length = 3 := hxl
  obtain ⟨y0, y1, y2, rfl⟩ : ∃ y0 y1 y2, xs = [y0, y1, y2] := by
    match xs, hxl3 with
    | [y0, y1, y2], _ => exact ⟨_, _, _, rfl⟩
  have t0 : DataW.trod enc Tryz.prog W 0 (fun _ => true) true n0 4 (([d0, d1, d2].drop 0).take (Tryz.prog.cellsOf 4)) = some y0 := hf 0 _ rfl
  have t1 : DataW.trod enc Tryz.prog W 0 (fun _ => true) true n0 3 (([d0, d1, d2].drop 1).take (Tryz.prog.cellsOf 3)) = some y1 := hf 1 _ rfl
  have t2 : DataW.trod enc Tryz.prog W 0 (fun _ => true) true n0 9 (([d0, d1, d2].drop 2).take (Tryz.prog.cellsOf 9)) = some y2 := hf 2 _ rfl
  rw [cells_bool] at t0
  rw [cells_int] at t1
  rw [cells_str] at t2
  obtain ⟨b, e0, -⟩ := DataW.trod_bool Tryz.underlying4 t0
  obtain ⟨i, e1, -, wi⟩ := DataW.trod_int Tryz.underlying3 t1
  obtain ⟨s, e2, rfl, -⟩ := DataW.trod_string Tryz.underlying9 t2
  simp at e0 e1 e2
  have hs : s.size ≤ 1048576 := by
    have z := Lib.size_eq s
    simp [Rows.uptoBulk, Rows.uptoBulkAll] at hu
    omega
  exact ⟨b, i, s, e0, e1, e2, wf64 wi, hs⟩
set_option maxRecDepth 100000 in
theorem open_gv_u : ∀ (fuel : Nat) {cs : List Value} {x : DataW H × List MemPlace}, DataW.trod enc Tryz.prog W 0 (fun _ => true) true fuel 27 cs = some x → Rows.uptoBulk x.1 ≤ 1048576 → ∃ g, VAt W W.heap.size g (.agg cs.toArray) ∧ Fit g ∧ Short g := by
  intro fuel
  induction fuel using Nat.strongRecOn with
  | ind fuel ih =>
  intro cs x h hu
  obtain ⟨xs, n0, rfl, rfl, hlen, hxl, hf⟩ := DataW.trod_struct Tryz.underlying27 h
  have hlen4 : cs.length = 4 := hlen.trans cells_val
  have hxl4 : xs.length = 4 := hxl
  obtain ⟨c0, c1, c2, c3, rfl⟩ : ∃ c0 c1 c2 c3, cs = [c0, c1, c2, c3] := by
    match cs, hlen4 with
    | [c0, c1, c2, c3], _ => exact ⟨_, _, _, _, rfl⟩
  obtain ⟨y0, y1, y2, y3, rfl⟩ : ∃ y0 y1 y2 y3, xs = [y0, y1, y2, y3] := by
    match xs, hxl4 with
    | [y0, y1, y2, y3], _ => exact ⟨_, _, _, _, rfl⟩
  have t0 : DataW.trod enc Tryz.prog W 0 (fun _ => true) true n0 3 (([c0, c1, c2, c3].drop 0).take (Tryz.prog.cellsOf 3)) = some y0 := hf 0 _ rfl
  have t1 : DataW.trod enc Tryz.prog W 0 (fun _ => true) true n0 3 (([c0, c1, c2, c3].drop 1).take (Tryz.prog.cellsOf 3)) = some y1 := hf 1 _ rfl
  have t2 : DataW.trod enc Tryz.prog W 0 (fun _ => true) true n0 9 (([c0, c1, c2, c3].drop 2).take (Tryz.prog.cellsOf 9)) = some y2 := hf 2 _ rfl
  have t3 : DataW.trod enc Tryz.prog W 0 (fun _ => true) true n0 25 (([c0, c1, c2, c3].drop 3).take (Tryz.prog.cellsOf 25)) = some y3 := hf 3 _ rfl
  rw [cells_int] at t0 t1
  rw [cells_str] at t2
  rw [cells_sl] at t3
  obtain ⟨k, e0, -, wk⟩ := DataW.trod_int Tryz.underlying3 t0
  obtain ⟨n, e1, -, wn⟩ := DataW.trod_int Tryz.underlying3 t1
  obtain ⟨t, e2, rfl, -⟩ := DataW.trod_string Tryz.underlying9 t2
  simp at e0 e1 e2
  subst e0 e1 e2
  have hs : t.size ≤ 1048576 := by
    have z := Lib.size_eq t
    simp [Rows.uptoBulk, Rows.uptoBulkAll] at hu
    omega
  have hs9 : t.size ≤ 140737488351232 := by omega
  rcases DataW.trod_slice Tryz.underlying25 t3 with ⟨e3, -⟩ | ⟨a, len, cap, elems, rest, n1, rfl, e3, rfl, -, hl, hm, hel, hi, -, -⟩
  · simp at e3
    subst e3
    exact ⟨.mk k n t [], VAt.mk k n t [] none 0 0 0 (fun _ => .nilIface) (Nat.zero_le _) (Nat.zero_le _) (fun h => absurd h (by decide)) (fun i it h => by simp at h) (fun i it h => by simp at h), Fit.mk k n t [] (wf64 wk) (wf64 wn) hs9 (fun i it h => by simp at h) (fun i it h => by simp at h), Short.mk k n t [] (wf64 wn) hs (fun i it h => by simp at h) (fun i it h => by simp at h)⟩
  · simp at e3
    subst e3
    have hex : ∀ i, i < len → ∃ p : GI × Value, ItemAt W a.block (a.off + i * 7) p.1 p.2 ∧ VAt W W.heap.size p.1.val p.2 ∧ (i = 0 → a.spot = none) ∧ (In64 p.1.int ∧ p.1.text.size ≤ 1048576) ∧ Fit p.1.val ∧ Short p.1.val := by
      intro i hil
      have h1 := hi i hil
      rw [List.getElem?_eq_getElem (by omega), Option.bind_eq_some_iff] at h1
      obtain ⟨cs', hc, ht⟩ := h1
      generalize hzz : elems[i]'(by omega) = zz at ht
      rw [cells_item] at hc
      obtain ⟨-, hcl, hat⟩ := World.cells?_some hc
      obtain ⟨d0, d1, d2, d3, d4, d5, d6, rfl⟩ : ∃ d0 d1 d2 d3 d4 d5 d6, cs' = [d0, d1, d2, d3, d4, d5, d6] := by
        match cs', hcl with
        | [d0, d1, d2, d3, d4, d5, d6], _ => exact ⟨_, _, _, _, _, _, _, rfl⟩

      obtain ⟨zs, n2, rfl, rfl, -, hzl, hg⟩ := DataW.trod_struct Tryz.underlying65 ht
      have hzl2 : zs.length = 2 := hzl
      obtain ⟨z0, z1, rfl⟩ : ∃ z0 z1, zs = [z0, z1] := by
        match zs, hzl2 with
        | [z0, z1], _ => exact ⟨_, _, rfl⟩

      have u0 : DataW.trod enc Tryz.prog W 0 (fun _ => true) true n2 63 (([d0, d1, d2, d3, d4, d5, d6].drop 0).take (Tryz.prog.cellsOf 63)) = some z0 := hg 0 _ rfl
      have u1 : DataW.trod enc Tryz.prog W 0 (fun _ => true) true n2 27 (([d0, d1, d2, d3, d4, d5, d6].drop 3).take (Tryz.prog.cellsOf 27)) = some z1 := hg 1 _ rfl
      rw [cells_key] at u0
      rw [cells_val] at u1
      have hz : Rows.uptoBulk z0.1 + Rows.uptoBulk z1.1 ≤ 1048576 := by
        have hin := bulk_in (es := elems.map (·.1)) (k := i) (d := .agg [z0.1, z1.1]) (by
          rw [List.getElem?_map, List.getElem?_eq_getElem (by omega)]
          exact congrArg some (congrArg Prod.fst hzz))
        simp only [List.map_cons, List.map_nil, Rows.uptoBulk, Rows.uptoBulkAll] at hu hin
        omega
      obtain ⟨b, j, s, rfl, rfl, rfl, hj, hs'⟩ := open_key_u u0 (by omega)
      obtain ⟨g, hg', hfit⟩ := ih n2 (by omega) u1 (by omega)
      have hsp : i = 0 → a.spot = none := by
        intro h0
        subst h0
        have h9 := World.cell?_spot ((hat 0 (by omega)).trans rfl)
        simpa [Addr.add] using h9
      have hcell : ∀ m, m < 7 → W.cell? ⟨a.block, a.off + i * 7 + m, none⟩ = [.bool b, .int .i64 j, .string s, d3, d4, d5, d6][m]? := by
        intro m hm7
        have h9 := hat m hm7
        rw [List.getElem?_eq_getElem (by simpa using hm7)] at h9 ⊢
        exact cell_plain h9
      exact ⟨(.mk b j s g, .agg #[d3, d4, d5, d6]), ⟨hcell 0 (by omega), hcell 1 (by omega), hcell 2 (by omega), d3, d4, d5, d6, rfl, hcell 3 (by omega), hcell 4 (by omega), hcell 5 (by omega), hcell 6 (by omega)⟩, hg', hsp, ⟨hj, hs'⟩, hfit⟩
    obtain ⟨F, hF⟩ := choose_lt hex
    have hL : ((List.range len).map fun i => (F i).1).length = len := by simp
    refine ⟨.mk k n t ((List.range len).map fun i => (F i).1), ?_, Fit.mk k n t _ (wf64 wk) (wf64 wn) hs9 (fun i it h => ?_) (fun i it h => ?_), Short.mk k n t _ (wf64 wn) hs (fun i it h => ?_) (fun i it h => ?_)⟩
    rotate_left
    · have hil : i < len := by have := (List.getElem?_eq_some_iff.1 h).1; omega
      have e : it = (F i).1 := by simpa [hil] using h.symm
      subst e
      exact ⟨(hF i hil).2.2.2.1.1, by have := (hF i hil).2.2.2.1.2; omega⟩
    · have hil : i < len := by have := (List.getElem?_eq_some_iff.1 h).1; omega
      have e : it = (F i).1 := by simpa [hil] using h.symm
      subst e
      exact (hF i hil).2.2.2.2.1
    · have hil : i < len := by have := (List.getElem?_eq_some_iff.1 h).1; omega
      have e : it = (F i).1 := by simpa [hil] using h.symm
      subst e
      exact (hF i hil).2.2.2.1
    · have hil : i < len := by have := (List.getElem?_eq_some_iff.1 h).1; omega
      have e : it = (F i).1 := by simpa [hil] using h.symm
      subst e
      exact (hF i hil).2.2.2.2.2
    have key := VAt.mk (w := W) (B := W.heap.size) k n t ((List.range len).map fun i => (F i).1) (some a) cap a.block a.off (fun i => (F i).2) (by rw [hL]; exact hl) (by rw [hL]; exact Nat.le_trans (Nat.le_trans hl hm) (by decide)) ?_ ?_ ?_
    · rw [hL] at key
      exact key
    · intro hpos
      rw [hL] at hpos
      have h0 := (hF 0 hpos).1.1
      have h1 := cell_lt h0
      refine ⟨?_, h1⟩
      obtain ⟨ab, ao, sp⟩ := a
      have := (hF 0 hpos).2.2.1 rfl
      simp only at this
      subst this
      rfl
    · intro i it h
      have hil : i < len := by have := (List.getElem?_eq_some_iff.1 h).1; omega
      have e : it = (F i).1 := by simpa [hil] using h.symm
      subst e
      exact (hF i hil).1
    · intro i it h
      have hil : i < len := by have := (List.getElem?_eq_some_iff.1 h).1; omega
      have e : it = (F i).1 := by simpa [hil] using h.symm
      subst e
      exact (hF i hil).2.1
set_option maxRecDepth 100000 in
/-- A value of small bulk as an argument, opened. -/
theorem open_value_u {base : Nat} {v : Value} {d : DataW H} {p : List MemPlace} (hv : Value.okWide Tryz.prog W .any base 27 v) (h : DataW.Trod enc Tryz.prog W 0 (fun _ => true) true 27 v d p) (hu : Rows.uptoBulk d ≤ 1048576) : ∃ g, VAt W W.heap.size g v ∧ Fit g ∧ Short g := by
  obtain ⟨cs, rfl, hsz⟩ := okWide_struct Tryz.underlying27 hv
  obtain ⟨fuel, h⟩ := h
  obtain ⟨g, hg, hf⟩ := open_gv_u fuel (cs := cs.toList) h hu
  exact ⟨g, by simpa using hg, hf⟩
end
namespace dtold

set_option maxRecDepth 100000 in
theorem contract (H : Type) (enc : TypeId × Value → H) (W : World) (base : Nat) (args : Array Value) (ds gs : List (DataW H)) (before : List MemPlace)
    (hval : ∀ (j : Nat) t v, Tryz.f8.params[j]? = some t → args[j]? = some v → Value.okWide Tryz.prog W .any base t v)
    (hW : DataW.Whole enc Tryz.prog Tryz.f8.params.toList Rows.deepToldSpec.vars false W args.toList ds gs before)
    (hk : Rows.uptoSmall H (ds ++ gs) = true)
    (hsz : (DataW.weightsEach Tryz.prog (Tryz.f8.params.toList ++ (Rows.OpenSpec.upto Rows.deepToldSpec).bare.plain.varTypes Tryz.prog) (ds ++ gs)).all (· ≤ reachBytes) = true) (hL : laidMetH Tryz.prog Rows.deepToldUptoRow.laid W) (_hsh : W.ShapedOpen Tryz.prog) :
    Calls Tryz.prog 8 args W fun e W' => ∃ v, e = .returned v ∧ Rows.deepToldSpec.post enc Tryz.prog Tryz.f8 false true false false W args v W' := by
  have hW' := hW
  obtain ⟨p, q, hA0, hV, rfl, hfz, hnd⟩ := hW
  have hA : DataW.TrodAll enc Tryz.prog W 0 (fun _ => true) true Tryz.f8.params.toList args.toList ds p := hA0
  rw [Tryz.params8] at hA hval hsz
  obtain ⟨v0, vs0, d0, ds0, p0, q0, hargs, rfl, rfl, h0, r0⟩ := trodAll_cons hA
  obtain ⟨v1, vs1, d1, ds1, p1, q1, rfl, rfl, rfl, h1, r1⟩ := trodAll_cons r0
  obtain ⟨rfl, rfl, rfl⟩ := trodAll_nil r1
  obtain rfl : args = #[v0, v1] := by cases args; simp_all
  obtain ⟨rfl, rfl⟩ := trodVars_none hV
  have hu0 : Rows.uptoBulk d0 ≤ 1048576 := by
    have hu := of_decide_eq_true hk
    simp only [List.cons_append, List.nil_append, Rows.uptoBulkAll] at hu
    omega
  obtain ⟨g0, hg0, hf0, hs0⟩ := open_value_u (hval 0 _ v0 rfl rfl) h0 hu0
  have hu1 : Rows.uptoBulk d1 ≤ 1048576 := by
    have hu := of_decide_eq_true hk
    simp only [List.cons_append, List.nil_append, Rows.uptoBulkAll] at hu
    omega
  obtain ⟨g1, hg1, hf1, hs1⟩ := open_value_u (hval 1 _ v1 rfl rfl) h1 hu1
  have hL' : laidMetH Tryz.prog Rows.deepSamesRow.laid W := hL
  have hL2 := lib_of_laid hL'
  refine (deepTold_any hg0 hf0 hs0 hg1 hf1 hs1 hL2).mono fun e W' ⟨he, hbl⟩ => ?_
  subst he
  refine ⟨_, rfl, post_true hW' rfl (fun _ => ⟨rfl, rfl, rfl⟩) rfl ?_ hbl⟩
  rw [Tryz.params8]
  intro t ht
  have ht' : t = 27 ∨ t = 27 := by simpa using ht
  rcases ht' with rfl | rfl <;> exact ⟨by kernel_rfl, of_decide_eq_true (by kernel_rfl)⟩

theorem reads (os : Os) {H : Type} (enc : TypeId × Value → H) : ∃ places, DataW.whole enc Tryz.prog ((laidWorld os).forCall (fun _ _ => 0) ⟨#[], #[.agg #[.int .i64 0, .int .i64 0, .string ⟨#[]⟩, .slice none 0 0], .agg #[.int .i64 0, .int .i64 0, .string ⟨#[]⟩, .slice none 0 0]], []⟩).memory Tryz.f8.params.toList Rows.deepToldSpec.vars false (#[.agg #[.int .i64 0, .int .i64 0, .string ⟨#[]⟩, .slice none 0 0], .agg #[.int .i64 0, .int .i64 0, .string ⟨#[]⟩, .slice none 0 0]] : Array Value).toList 8 = some ([.agg [.lit (.int .i64 0), .lit (.int .i64 0), .lit (.string []), .nil], .agg [.lit (.int .i64 0), .lit (.int .i64 0), .lit (.string []), .nil]], [], places) :=
  ⟨[], by kernel_rfl⟩

set_option maxRecDepth 100000 in
theorem lifted (os : Os) (started : os.Started) (H : Type) (enc : TypeId × Value → H) (F : Stop.Interp) :
    ReturnsInHanded {} Tryz.checked os 8 .any ((Rows.OpenSpec.upto Rows.deepToldSpec).preRow enc Tryz.prog Tryz.f8 Rows.deepToldUptoRow.domain false Rows.deepToldUptoRow.laid) (((Rows.OpenSpec.upto Rows.deepToldSpec).at F).post enc Tryz.prog Tryz.f8 false true false false) := by
  obtain ⟨places, hx⟩ := reads os enc
  refine returnsInHanded_of_row (C := Tryz.checked) (s := Rows.OpenSpec.upto Rows.deepToldSpec) own started (by kernel_rfl) Tryz.func8
    (witness_row_atRef (enc := enc) (C := Tryz.checked) false (laidWorld os) #[.agg #[.int .i64 0, .int .i64 0, .string ⟨#[]⟩, .slice none 0 0], .agg #[.int .i64 0, .int .i64 0, .string ⟨#[]⟩, .slice none 0 0]] rfl (by kernel_rfl) (by kernel_rfl) (by kernel_rfl)
      (OpenSpec.preRow_of_cond 8 hx (by kernel_rfl) (fun k hk => by cases hk; kernel_rfl) (by kernel_rfl) (laid_met os _))) ?_
  intro W base args ds gs before hval hW _ hcond hsz hL hsh _
  exact contract H enc W base args ds gs before hval hW (hcond _ rfl) hsz hL hsh

theorem said : Rows.DeepToldUptoSaid :=
  OpenClaim.holds_of_cond 8 Tryz.f8 rfl rfl rfl rfl rfl rfl rfl ⟨rfl, rfl, rfl, rfl, rfl⟩ rfl rfl rfl rfl rfl (by kernel_rfl) Tryz.func8 closed
    (of_decide_eq_true (by kernel_rfl)) (by unfold Func.isWrapper; first | (rw [if_pos (by decide +kernel)]; kernel_rfl) | (rw [if_neg (by decide +kernel)]; exact ⟨rfl, rfl⟩))
    (fun os started H enc _ F => by rw [OpenClaim.pre_eq_preRow]; exact lifted os started H enc F)

theorem plain (f : FuncId) (fn : Func) (hf : Tryz.pinned.checked.prog.funcNamed Rows.deepToldUptoRow.func = some f) (hfn : Tryz.pinned.checked.prog.funcs[f]? = some fn) :
    true = Tryz.pinned.checked.prog.looks [] ∧ ∀ (j : Nat) t, fn.params[j]? = some t → Tryz.pinned.checked.prog.wantsStandIn t = false := by
  obtain rfl : f = 8 := Option.some.inj ((show Tryz.prog.funcNamed Rows.deepToldUptoRow.func = some 8 by kernel_rfl).symm.trans hf) |>.symm
  obtain rfl : fn = Tryz.f8 := (Option.some.inj (Tryz.func8.symm.trans hfn)).symm
  refine ⟨by kernel_rfl, fun j t ht => ?_⟩
  rw [Tryz.params8] at ht
  have ht' : t = 27 ∨ t = 27 := by simpa using Array.mem_of_getElem? ht
  rcases ht' with rfl | rfl
  · exact (show Tryz.prog.wantsStandIn 27 = false by kernel_rfl)
  · exact (show Tryz.prog.wantsStandIn 27 = false by kernel_rfl)

theorem card : Rows.DeepToldUptoCardSaid :=
  Claim7.holds_tied_plain_at .later [] _ _ _ _ said (fun _ h => by cases h) (by kernel_rfl) (fun _ h => by cases h) deepToldUpto_row_tie rfl ⟨rfl, rfl⟩ (by kernel_rfl) rfl plain (by kernel_rfl)
end dtold
#print axioms dtold.card
end Go.Proofs.YthdnflklhhfojaaGreatDoor
