/- A value as an argument, opened: its bounds, its lists' lengths. -/
import Derived.Test.YtopmodahdmnpjaaGreatDoorZDpBlQ
import Derived.Test.YtopmodahdmnpjaaGreatDoorZAppsQ
import Derived.Test.YtopmodahdmnpjaaGreatDoorZRow
import Derived.Lib.SmallJoins
import Derived.SizedLaws
namespace Go.Proofs.YtopmodahdmnpjaaGreatDoor
open Go.Joins Go.ChangeShapes Go.WideShapes Go.ChangeAt Go.RowKit Go.Deep Dp
instance : Inhabited GI := ⟨.mk false 0 ⟨#[]⟩ (.mk 0 0 ⟨#[]⟩ [])⟩
theorem wf64 {n : Int} (h : (Lit.int .i64 n).wf = true) : In64 n := by simp [Lit.wf, IntKind.min, IntKind.max, IntKind.signed, IntKind.bits] at h; unfold In64; omega
theorem weightsAll_in {H : Type} {P : Program} {e : TypeId} : ∀ {es : List (DataW H)} {k : Nat} {d : DataW H}, es[k]? = some d → ∀ n ∈ d.weights P e, n ∈ DataW.weightsAll P e es
  | d0 :: es, 0, d, h, n, hn => by
    simp only [List.getElem?_cons_zero, Option.some.injEq] at h
    subst h
    simp only [DataW.weightsAll, List.mem_append]
    exact .inl hn
  | d0 :: es, k + 1, d, h, n, hn => by
    simp only [List.getElem?_cons_succ] at h
    simp only [DataW.weightsAll, List.mem_append]
    exact .inr (weightsAll_in h n hn)
  | [], _, _, h, _, _ => by simp at h
theorem cells_int : Tryz.prog.cellsOf 3 = 1 := by kernel_rfl
theorem cells_str : Tryz.prog.cellsOf 9 = 1 := by kernel_rfl
theorem cells_bool : Tryz.prog.cellsOf 4 = 1 := by kernel_rfl
theorem cells_sl : Tryz.prog.cellsOf 22 = 1 := by kernel_rfl
theorem cells_key : Tryz.prog.cellsOf 32 = 3 := by kernel_rfl
theorem cells_val : Tryz.prog.cellsOf 24 = 4 := by kernel_rfl
theorem cells_item : Tryz.prog.cellsOf 34 = 7 := by kernel_rfl
theorem cell_plain {W : World} {a : Addr} {p m : Nat} {v : Value} (h : W.cell? ((a.add p).add m) = some v) : W.cell? ⟨a.block, a.off + p + m, none⟩ = some v := by
  have hs := World.cell?_spot h
  have e : (a.add p).add m = ⟨a.block, a.off + p + m, none⟩ := by
    obtain ⟨ab, ao, sp⟩ := a
    unfold Addr.add at *
    by_cases hp : p = 0 <;> by_cases hm : m = 0 <;> simp_all
  rw [← e]
  exact h
section
variable {H : Type} {enc : TypeId × Value → H} {W : World}
set_option maxRecDepth 100000 in
theorem open_key {fuel : Nat} {d0 d1 d2 : Value} {x : DataW H × List MemPlace} (h : DataW.trod enc Tryz.prog W 0 (fun _ => true) true fuel 32 [d0, d1, d2] = some x) (hw : ∀ n ∈ x.1.weights Tryz.prog 32, n ≤ reachBytes) : ∃ (b : Bool) (i : Int) (s : ByteArray), d0 = .bool b ∧ d1 = .int .i64 i ∧ d2 = .string s ∧ In64 i ∧ s.size ≤ 140737488351232 := by
  obtain ⟨xs, n0, rfl, rfl, -, hxl, hf⟩ := DataW.trod_struct Tryz.underlying32 h
  have hxl3 : xs.length = 3 := hxl
  obtain ⟨y0, y1, y2, rfl⟩ : ∃ y0 y1 y2, xs = [y0, y1, y2] := by
    match xs, hxl3 with
    | [y0, y1, y2], _ => exact ⟨_, _, _, rfl⟩
  have t0 : DataW.trod enc Tryz.prog W 0 (fun _ => true) true n0 4 (([d0, d1, d2].drop 0).take (Tryz.prog.cellsOf 4)) = some y0 := hf 0 _ rfl
  have t1 : DataW.trod enc Tryz.prog W 0 (fun _ => true) true n0 3 (([d0, d1, d2].drop 1).take (Tryz.prog.cellsOf 3)) = some y1 := hf 1 _ rfl
  have t2 : DataW.trod enc Tryz.prog W 0 (fun _ => true) true n0 9 (([d0, d1, d2].drop 2).take (Tryz.prog.cellsOf 9)) = some y2 := hf 2 _ rfl
  rw [cells_bool] at t0
  rw [cells_int] at t1
  rw [cells_str] at t2
  obtain ⟨b, e0, -⟩ := DataW.trod_bool Tryz.underlying4 t0
  obtain ⟨i, e1, -, wi⟩ := DataW.trod_int Tryz.underlying3 t1
  obtain ⟨s, e2, rfl, -⟩ := DataW.trod_string Tryz.underlying9 t2
  simp at e0 e1 e2
  have hs := hw s.size (by simp [DataW.weights, DataW.weightsEach, Tryz.underlying32])
  exact ⟨b, i, s, e0, e1, e2, wf64 wi, hs⟩
theorem bytes_item : Tryz.prog.bytesOf 34 = 88 := by kernel_rfl
/-- What an opened list of items is. -/
def ListIs (W : World) (v : Value) : Prop := ∃ (l : List GI) (A : Option Addr) (c b off : Nat) (C : Nat → Value), v = .slice A l.length c ∧ l.length ≤ c ∧ l.length ≤ 9223372036854775807 ∧ (0 < l.length → A = some ⟨b, off, none⟩ ∧ b < W.heap.size)
  ∧ (∀ i it, l[i]? = some it → ItemAt W b (off + i * 7) it (C i)) ∧ (∀ i it, l[i]? = some it → VAt W W.heap.size it.val (C i)) ∧ (∀ (i : Nat) (it : GI), l[i]? = some it → In64 it.int ∧ it.text.size ≤ 140737488351232)
  ∧ (∀ (i : Nat) (it : GI), l[i]? = some it → Fit it.val) ∧ (∀ (i : Nat) (it : GI), l[i]? = some it → Sml it.val) ∧ l.length * 88 ≤ 140737488351232
set_option maxRecDepth 100000 in
theorem open_list (n0 : Nat) (ih : ∀ fuel, fuel < n0 → ∀ {cs : List Value} {x : DataW H × List MemPlace}, DataW.trod enc Tryz.prog W 0 (fun _ => true) true fuel 24 cs = some x → (∀ n ∈ x.1.weights Tryz.prog 24, n ≤ reachBytes) → ∃ g, VAt W W.heap.size g (.agg cs.toArray) ∧ Fit g ∧ Sml g)
    {c3 : Value} {y3 : DataW H × List MemPlace} (t3 : DataW.trod enc Tryz.prog W 0 (fun _ => true) true n0 22 [c3] = some y3) (hw : ∀ n ∈ y3.1.weights Tryz.prog 22, n ≤ reachBytes) : ListIs W c3 := by
  rcases DataW.trod_slice Tryz.underlying22 t3 with ⟨e3, -⟩ | ⟨a, len, cap, elems, rest, n1, rfl, e3, rfl, -, hl, hm, hel, hi, -, -⟩
  · simp at e3
    subst e3
    exact ⟨[], none, 0, 0, 0, fun _ => .nilIface, rfl, Nat.zero_le _, Nat.zero_le _, fun h => absurd h (by decide), fun i it h => by simp at h, fun i it h => by simp at h, fun i it h => by simp at h, fun i it h => by simp at h, fun i it h => by simp at h, Nat.zero_le _⟩
  · simp at e3
    subst e3
    have hlen : len * 88 ≤ 140737488351232 := by
      have h1 := hw ((elems.map (·.1)).length + (rest.map (·.1)).length |>.mul 88) (by
        simp only [DataW.weights, Tryz.underlying22, bytes_item]
        exact List.mem_cons_self ..)
      have h2 : (elems.length + rest.length) * 88 ≤ reachBytes := by simpa using h1
      have h3 : reachBytes = 140737488351232 := rfl
      omega
    have hex : ∀ i, i < len → ∃ p : GI × Value, ItemAt W a.block (a.off + i * 7) p.1 p.2 ∧ VAt W W.heap.size p.1.val p.2 ∧ (i = 0 → a.spot = none) ∧ (In64 p.1.int ∧ p.1.text.size ≤ 140737488351232) ∧ Fit p.1.val ∧ Sml p.1.val := by
      intro i hil
      have h1 := hi i hil
      rw [List.getElem?_eq_getElem (by omega), Option.bind_eq_some_iff] at h1
      obtain ⟨cs', hc, ht⟩ := h1
      generalize hzz : elems[i]'(by omega) = zz at ht
      rw [cells_item] at hc
      obtain ⟨-, hcl, hat⟩ := World.cells?_some hc
      obtain ⟨d0, d1, d2, d3, d4, d5, d6, rfl⟩ : ∃ d0 d1 d2 d3 d4 d5 d6, cs' = [d0, d1, d2, d3, d4, d5, d6] := by
        match cs', hcl with
        | [d0, d1, d2, d3, d4, d5, d6], _ => exact ⟨_, _, _, _, _, _, _, rfl⟩

      obtain ⟨zs, n2, rfl, rfl, -, hzl, hg⟩ := DataW.trod_struct Tryz.underlying34 ht
      have hzl2 : zs.length = 2 := hzl
      obtain ⟨z0, z1, rfl⟩ : ∃ z0 z1, zs = [z0, z1] := by
        match zs, hzl2 with
        | [z0, z1], _ => exact ⟨_, _, rfl⟩

      have u0 : DataW.trod enc Tryz.prog W 0 (fun _ => true) true n2 32 (([d0, d1, d2, d3, d4, d5, d6].drop 0).take (Tryz.prog.cellsOf 32)) = some z0 := hg 0 _ rfl
      have u1 : DataW.trod enc Tryz.prog W 0 (fun _ => true) true n2 24 (([d0, d1, d2, d3, d4, d5, d6].drop 3).take (Tryz.prog.cellsOf 24)) = some z1 := hg 1 _ rfl
      rw [cells_key] at u0
      rw [cells_val] at u1
      have hz : ∀ n ∈ DataW.weights Tryz.prog 34 (.agg [z0.1, z1.1]), n ≤ reachBytes := by
        intro m hm'
        refine hw m ?_
        simp only [DataW.weights, Tryz.underlying22]
        refine List.mem_cons_of_mem _ (List.mem_append_left _ (weightsAll_in (k := i) (d := .agg [z0.1, z1.1]) ?_ m hm'))
        rw [List.getElem?_map, List.getElem?_eq_getElem (by omega)]
        exact congrArg some (congrArg Prod.fst hzz)
      obtain ⟨b, j, s, rfl, rfl, rfl, hj, hs'⟩ := open_key u0 fun m hm' => hz m (by
        simp only [DataW.weights, Tryz.underlying34]
        exact DataW.weights_mem_each (j := 0) (t := 32) (d := z0.1) rfl rfl m hm')
      obtain ⟨g, hg', hfit, hsml⟩ := ih n2 (by omega) u1 fun m hm' => hz m (by
        simp only [DataW.weights, Tryz.underlying34]
        exact DataW.weights_mem_each (j := 1) (t := 24) (d := z1.1) rfl rfl m hm')
      have hsp : i = 0 → a.spot = none := by
        intro h0
        subst h0
        have h9 := World.cell?_spot ((hat 0 (by omega)).trans rfl)
        simpa [Addr.add] using h9
      have hcell : ∀ m, m < 7 → W.cell? ⟨a.block, a.off + i * 7 + m, none⟩ = [.bool b, .int .i64 j, .string s, d3, d4, d5, d6][m]? := by
        intro m hm7
        have h9 := hat m hm7
        rw [List.getElem?_eq_getElem (by simpa using hm7)] at h9 ⊢
        exact cell_plain h9
      exact ⟨(.mk b j s g, .agg #[d3, d4, d5, d6]), ⟨hcell 0 (by omega), hcell 1 (by omega), hcell 2 (by omega), d3, d4, d5, d6, rfl, hcell 3 (by omega), hcell 4 (by omega), hcell 5 (by omega), hcell 6 (by omega)⟩, hg', hsp, ⟨hj, hs'⟩, hfit, hsml⟩
    obtain ⟨F, hF⟩ := choose_lt hex
    have hL : ((List.range len).map fun i => (F i).1).length = len := by simp
    have hat : ∀ (i : Nat) (it : GI), ((List.range len).map fun i => (F i).1)[i]? = some it → i < len ∧ it = (F i).1 := fun i it h => by
      have hil : i < len := by have := (List.getElem?_eq_some_iff.1 h).1; omega
      exact ⟨hil, by simpa [hil] using h.symm⟩
    refine ⟨(List.range len).map fun i => (F i).1, some a, cap, a.block, a.off, fun i => (F i).2, by rw [hL], by rw [hL]; exact hl, by rw [hL]; exact Nat.le_trans (Nat.le_trans hl hm) (by decide), fun hpos => ?_, fun i it h => ?_, fun i it h => ?_, fun i it h => ?_, fun i it h => ?_, fun i it h => ?_, by rw [hL]; exact hlen⟩
    · rw [hL] at hpos
      have h0 := (hF 0 hpos).1.1
      have h1 := cell_lt h0
      refine ⟨?_, h1⟩
      obtain ⟨ab, ao, sp⟩ := a
      have := (hF 0 hpos).2.2.1 rfl
      simp only at this
      subst this
      rfl
    all_goals obtain ⟨hil, rfl⟩ := hat i it h
    · exact (hF i hil).1
    · exact (hF i hil).2.1
    · exact (hF i hil).2.2.2.1
    · exact (hF i hil).2.2.2.2.1
    · exact (hF i hil).2.2.2.2.2
set_option maxRecDepth 100000 in
theorem open_gv_s : ∀ (fuel : Nat) {cs : List Value} {x : DataW H × List MemPlace}, DataW.trod enc Tryz.prog W 0 (fun _ => true) true fuel 24 cs = some x → (∀ n ∈ x.1.weights Tryz.prog 24, n ≤ reachBytes) → ∃ g, VAt W W.heap.size g (.agg cs.toArray) ∧ Fit g ∧ Sml g := by
  intro fuel
  induction fuel using Nat.strongRecOn with
  | ind fuel ih =>
  intro cs x h hw
  obtain ⟨xs, n0, rfl, rfl, hlen, hxl, hf⟩ := DataW.trod_struct Tryz.underlying24 h
  have hlen4 : cs.length = 4 := hlen.trans cells_val
  have hxl4 : xs.length = 4 := hxl
  obtain ⟨c0, c1, c2, c3, rfl⟩ : ∃ c0 c1 c2 c3, cs = [c0, c1, c2, c3] := by
    match cs, hlen4 with
    | [c0, c1, c2, c3], _ => exact ⟨_, _, _, _, rfl⟩
  obtain ⟨y0, y1, y2, y3, rfl⟩ : ∃ y0 y1 y2 y3, xs = [y0, y1, y2, y3] := by
    match xs, hxl4 with
    | [y0, y1, y2, y3], _ => exact ⟨_, _, _, _, rfl⟩
  have t0 : DataW.trod enc Tryz.prog W 0 (fun _ => true) true n0 3 (([c0, c1, c2, c3].drop 0).take (Tryz.prog.cellsOf 3)) = some y0 := hf 0 _ rfl
  have t1 : DataW.trod enc Tryz.prog W 0 (fun _ => true) true n0 3 (([c0, c1, c2, c3].drop 1).take (Tryz.prog.cellsOf 3)) = some y1 := hf 1 _ rfl
  have t2 : DataW.trod enc Tryz.prog W 0 (fun _ => true) true n0 9 (([c0, c1, c2, c3].drop 2).take (Tryz.prog.cellsOf 9)) = some y2 := hf 2 _ rfl
  have t3 : DataW.trod enc Tryz.prog W 0 (fun _ => true) true n0 22 (([c0, c1, c2, c3].drop 3).take (Tryz.prog.cellsOf 22)) = some y3 := hf 3 _ rfl
  rw [cells_int] at t0 t1
  rw [cells_str] at t2
  rw [cells_sl] at t3
  obtain ⟨k, e0, -, wk⟩ := DataW.trod_int Tryz.underlying3 t0
  obtain ⟨n, e1, -, wn⟩ := DataW.trod_int Tryz.underlying3 t1
  obtain ⟨t, e2, rfl, -⟩ := DataW.trod_string Tryz.underlying9 t2
  simp at e0 e1 e2
  subst e0 e1 e2
  have hs := hw t.size (by simp [DataW.weights, DataW.weightsEach, Tryz.underlying24])
  obtain ⟨l, A, c, b, off, C, rfl, hc, hn64, hA, hi, hv, hkb, hft, hsm, hlen⟩ := open_list n0 (fun fuel hf => ih fuel (by omega)) t3 (fun m hm' => hw m (by
    simp only [List.map_cons, List.map_nil, DataW.weights, Tryz.underlying24]
    exact DataW.weights_mem_each (j := 3) (t := 22) (d := y3.1) rfl rfl m hm'))
  exact ⟨.mk k n t l, VAt.mk k n t l A c b off C hc hn64 hA hi hv, Fit.mk k n t l (wf64 wk) (wf64 wn) hs hkb hft, Sml.mk k n t l hlen hsm⟩
set_option maxRecDepth 100000 in
theorem open_value_s {base : Nat} {v : Value} {d : DataW H} {p : List MemPlace} (hv : Value.okWide Tryz.prog W .any base 24 v) (h : DataW.Trod enc Tryz.prog W 0 (fun _ => true) true 24 v d p) (hw : ∀ n ∈ d.weights Tryz.prog 24, n ≤ reachBytes) : ∃ g, VAt W W.heap.size g v ∧ Fit g ∧ Sml g := by
  obtain ⟨cs, rfl, hsz⟩ := okWide_struct Tryz.underlying24 hv
  obtain ⟨fuel, h⟩ := h
  obtain ⟨g, hg, hf⟩ := open_gv_s fuel (cs := cs.toList) h hw
  exact ⟨g, by simpa using hg, hf⟩
end
end Go.Proofs.YtopmodahdmnpjaaGreatDoor
