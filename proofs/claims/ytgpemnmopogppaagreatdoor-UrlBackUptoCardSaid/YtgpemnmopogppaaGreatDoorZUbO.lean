/- A value as an argument, opened, where what it reads is of small bulk. -/
import Derived.Test.YtgpemnmopogppaaGreatDoorZUbB
import Derived.Test.YtgpemnmopogppaaGreatDoorZRow
import Derived.Lib.SmallJoins
import Derived.SizedLaws
namespace Go.Proofs.YtgpemnmopogppaaGreatDoor
open Go.Joins Go.ChangeShapes Go.WideShapes Go.ChangeAt Go.RowKit Go.Deep Dp
instance : Inhabited GI := ⟨.mk false 0 ⟨#[]⟩ (.mk 0 0 ⟨#[]⟩ [])⟩
theorem wf64 {n : Int} (h : (Lit.int .i64 n).wf = true) : In64 n := by simp [Lit.wf, IntKind.min, IntKind.max, IntKind.signed, IntKind.bits] at h; unfold In64; omega
theorem cells_int : Tryz.prog.cellsOf 3 = 1 := by kernel_rfl
theorem cells_str : Tryz.prog.cellsOf 9 = 1 := by kernel_rfl
theorem cells_bool : Tryz.prog.cellsOf 4 = 1 := by kernel_rfl
theorem cells_sl : Tryz.prog.cellsOf 23 = 1 := by kernel_rfl
theorem cells_key : Tryz.prog.cellsOf 37 = 3 := by kernel_rfl
theorem cells_val : Tryz.prog.cellsOf 25 = 4 := by kernel_rfl
theorem cells_item : Tryz.prog.cellsOf 39 = 7 := by kernel_rfl
theorem cell_plain {W : World} {a : Addr} {p m : Nat} {v : Value} (h : W.cell? ((a.add p).add m) = some v) : W.cell? ⟨a.block, a.off + p + m, none⟩ = some v := by
  have hs := World.cell?_spot h
  have e : (a.add p).add m = ⟨a.block, a.off + p + m, none⟩ := by
    obtain ⟨ab, ao, sp⟩ := a
    unfold Addr.add at *
    by_cases hp : p = 0 <;> by_cases hm : m = 0 <;> simp_all
  rw [← e]
  exact h
theorem bulk_sum {H : Type} : ∀ (es : List (DataW H)) (l : List GI), l.length = es.length → (∀ (i : Nat) (it : GI) (d : DataW H), l[i]? = some it → es[i]? = some d → it.text.size + Ub.bulkV it.val ≤ Rows.uptoBulk d) → Ub.bulkI l ≤ Rows.uptoBulkAll es
  | [], [], _, _ => by simp [Ub.bulkI]
  | [], _ :: _, h, _ => by simp at h
  | _ :: _, [], h, _ => by simp at h
  | d :: es, .mk b i s v :: l, h, hh => by
    have h1 := hh 0 _ d rfl rfl
    have h2 := bulk_sum es l (by simpa using h) fun i it d hi hd => hh (i + 1) it d (by simpa using hi) (by simpa using hd)
    rw [Ub.bulkI]
    simp only [Rows.uptoBulkAll]
    have h3 : s.size + Ub.bulkV v ≤ Rows.uptoBulk d := h1
    omega
theorem bulk_in {H : Type} : ∀ {es : List (DataW H)} {k : Nat} {d : DataW H}, es[k]? = some d → Rows.uptoBulk d ≤ Rows.uptoBulkAll es
  | d0 :: es, 0, d, h => by
    simp only [List.getElem?_cons_zero, Option.some.injEq] at h
    subst h
    simp only [Rows.uptoBulkAll]
    omega
  | d0 :: es, k + 1, d, h => by
    simp only [List.getElem?_cons_succ] at h
    have := bulk_in h
    simp only [Rows.uptoBulkAll]
    omega
  | [], _, _, h => by simp at h
section
variable {H : Type} {enc : TypeId × Value → H} {W : World}
set_option maxRecDepth 100000 in
theorem open_key_b {fuel : Nat} {d0 d1 d2 : Value} {x : DataW H × List MemPlace} (h : DataW.trod enc Tryz.prog W 0 (fun _ => true) true fuel 37 [d0, d1, d2] = some x) : ∃ (b : Bool) (i : Int) (s : ByteArray), d0 = .bool b ∧ d1 = .int .i64 i ∧ d2 = .string s ∧ In64 i ∧ s.size ≤ Rows.uptoBulk x.1 := by
  obtain ⟨xs, n0, rfl, rfl, -, hxl, hf⟩ := DataW.trod_struct Tryz.underlying37 h
  have hxl3 : xs.length = 3 := hxl
  obtain ⟨y0, y1, y2, rfl⟩ : ∃ y0 y1 y2, xs = [y0, y1, y2] := by
    match xs, hxl3 with
    | [y0, y1, y2], _ => exact ⟨_, _, _, rfl⟩
  have t0 : DataW.trod enc Tryz.prog W 0 (fun _ => true) true n0 4 (([d0, d1, d2].drop 0).take (Tryz.prog.cellsOf 4)) = some y0 := hf 0 _ rfl
  have t1 : DataW.trod enc Tryz.prog W 0 (fun _ => true) true n0 3 (([d0, d1, d2].drop 1).take (Tryz.prog.cellsOf 3)) = some y1 := hf 1 _ rfl
  have t2 : DataW.trod enc Tryz.prog W 0 (fun _ => true) true n0 9 (([d0, d1, d2].drop 2).take (Tryz.prog.cellsOf 9)) = some y2 := hf 2 _ rfl
  rw [cells_bool] at t0
  rw [cells_int] at t1
  rw [cells_str] at t2
  obtain ⟨b, e0, -⟩ := DataW.trod_bool Tryz.underlying4 t0
  obtain ⟨i, e1, -, wi⟩ := DataW.trod_int Tryz.underlying3 t1
  obtain ⟨s, e2, rfl, -⟩ := DataW.trod_string Tryz.underlying9 t2
  simp at e0 e1 e2
  have hs : s.size ≤ Rows.uptoBulk (DataW.agg [y0.1, y1.1, (DataW.lit (.string s.data.toList))] : DataW H) := by
    have z := Lib.size_eq s
    simp only [Rows.uptoBulk, Rows.uptoBulkAll]
    omega
  exact ⟨b, i, s, e0, e1, e2, wf64 wi, hs⟩
set_option maxRecDepth 100000 in
theorem open_gv_b : ∀ (fuel : Nat) {cs : List Value} {x : DataW H × List MemPlace}, DataW.trod enc Tryz.prog W 0 (fun _ => true) true fuel 25 cs = some x → Rows.uptoBulk x.1 ≤ 1048576 → ∃ g, VAt W W.heap.size g (.agg cs.toArray) ∧ Fit g ∧ Ub.bulkV g ≤ Rows.uptoBulk x.1 := by
  intro fuel
  induction fuel using Nat.strongRecOn with
  | ind fuel ih =>
  intro cs x h hu
  obtain ⟨xs, n0, rfl, rfl, hlen, hxl, hf⟩ := DataW.trod_struct Tryz.underlying25 h
  have hlen4 : cs.length = 4 := hlen.trans cells_val
  have hxl4 : xs.length = 4 := hxl
  obtain ⟨c0, c1, c2, c3, rfl⟩ : ∃ c0 c1 c2 c3, cs = [c0, c1, c2, c3] := by
    match cs, hlen4 with
    | [c0, c1, c2, c3], _ => exact ⟨_, _, _, _, rfl⟩
  obtain ⟨y0, y1, y2, y3, rfl⟩ : ∃ y0 y1 y2 y3, xs = [y0, y1, y2, y3] := by
    match xs, hxl4 with
    | [y0, y1, y2, y3], _ => exact ⟨_, _, _, _, rfl⟩
  have t0 : DataW.trod enc Tryz.prog W 0 (fun _ => true) true n0 3 (([c0, c1, c2, c3].drop 0).take (Tryz.prog.cellsOf 3)) = some y0 := hf 0 _ rfl
  have t1 : DataW.trod enc Tryz.prog W 0 (fun _ => true) true n0 3 (([c0, c1, c2, c3].drop 1).take (Tryz.prog.cellsOf 3)) = some y1 := hf 1 _ rfl
  have t2 : DataW.trod enc Tryz.prog W 0 (fun _ => true) true n0 9 (([c0, c1, c2, c3].drop 2).take (Tryz.prog.cellsOf 9)) = some y2 := hf 2 _ rfl
  have t3 : DataW.trod enc Tryz.prog W 0 (fun _ => true) true n0 23 (([c0, c1, c2, c3].drop 3).take (Tryz.prog.cellsOf 23)) = some y3 := hf 3 _ rfl
  rw [cells_int] at t0 t1
  rw [cells_str] at t2
  rw [cells_sl] at t3
  obtain ⟨k, e0, -, wk⟩ := DataW.trod_int Tryz.underlying3 t0
  obtain ⟨n, e1, -, wn⟩ := DataW.trod_int Tryz.underlying3 t1
  obtain ⟨t, e2, rfl, -⟩ := DataW.trod_string Tryz.underlying9 t2
  simp at e0 e1 e2
  subst e0 e1 e2
  have hs : t.size ≤ 1048576 := by
    have z := Lib.size_eq t
    simp [Rows.uptoBulk, Rows.uptoBulkAll] at hu
    omega
  have hs9 : t.size ≤ 140737488351232 := by omega
  rcases DataW.trod_slice Tryz.underlying23 t3 with ⟨e3, -⟩ | ⟨a, len, cap, elems, rest, n1, rfl, e3, rfl, -, hl, hm, hel, hi, -, -⟩
  · simp at e3
    subst e3
    exact ⟨.mk k n t [], VAt.mk k n t [] none 0 0 0 (fun _ => .nilIface) (Nat.zero_le _) (Nat.zero_le _) (fun h => absurd h (by decide)) (fun i it h => by simp at h) (fun i it h => by simp at h), Fit.mk k n t [] (wf64 wk) (wf64 wn) hs9 (fun i it h => by simp at h) (fun i it h => by simp at h), by
      have z := Lib.size_eq t
      simp only [Ub.bulkV, Ub.bulkI, List.map_cons, List.map_nil, Rows.uptoBulk, Rows.uptoBulkAll]
      omega⟩
  · simp at e3
    subst e3
    have hex : ∀ i, i < len → ∃ p : GI × Value, ItemAt W a.block (a.off + i * 7) p.1 p.2 ∧ VAt W W.heap.size p.1.val p.2 ∧ (i = 0 → a.spot = none) ∧ (In64 p.1.int ∧ p.1.text.size ≤ 1048576) ∧ Fit p.1.val ∧ ∀ d, (elems.map (·.1))[i]? = some d → p.1.text.size + Ub.bulkV p.1.val ≤ Rows.uptoBulk d := by
      intro i hil
      have h1 := hi i hil
      rw [List.getElem?_eq_getElem (by omega), Option.bind_eq_some_iff] at h1
      obtain ⟨cs', hc, ht⟩ := h1
      generalize hzz : elems[i]'(by omega) = zz at ht
      rw [cells_item] at hc
      obtain ⟨-, hcl, hat⟩ := World.cells?_some hc
      obtain ⟨d0, d1, d2, d3, d4, d5, d6, rfl⟩ : ∃ d0 d1 d2 d3 d4 d5 d6, cs' = [d0, d1, d2, d3, d4, d5, d6] := by
        match cs', hcl with
        | [d0, d1, d2, d3, d4, d5, d6], _ => exact ⟨_, _, _, _, _, _, _, rfl⟩

      obtain ⟨zs, n2, rfl, rfl, -, hzl, hg⟩ := DataW.trod_struct Tryz.underlying39 ht
      have hzl2 : zs.length = 2 := hzl
      obtain ⟨z0, z1, rfl⟩ : ∃ z0 z1, zs = [z0, z1] := by
        match zs, hzl2 with
        | [z0, z1], _ => exact ⟨_, _, rfl⟩

      have u0 : DataW.trod enc Tryz.prog W 0 (fun _ => true) true n2 37 (([d0, d1, d2, d3, d4, d5, d6].drop 0).take (Tryz.prog.cellsOf 37)) = some z0 := hg 0 _ rfl
      have u1 : DataW.trod enc Tryz.prog W 0 (fun _ => true) true n2 25 (([d0, d1, d2, d3, d4, d5, d6].drop 3).take (Tryz.prog.cellsOf 25)) = some z1 := hg 1 _ rfl
      rw [cells_key] at u0
      rw [cells_val] at u1
      have hin0 : (elems.map (·.1))[i]? = some (.agg [z0.1, z1.1]) := by
        rw [List.getElem?_map, List.getElem?_eq_getElem (by omega)]
        exact congrArg some (congrArg Prod.fst hzz)
      have hz : Rows.uptoBulk z0.1 + Rows.uptoBulk z1.1 ≤ 1048576 := by
        have hin := bulk_in hin0
        simp only [List.map_cons, List.map_nil, Rows.uptoBulk, Rows.uptoBulkAll] at hu hin
        omega
      obtain ⟨b, j, s, rfl, rfl, rfl, hj, hs'⟩ := open_key_b u0
      obtain ⟨g, hg', hfit, hbk⟩ := ih n2 (by omega) u1 (by omega)
      have hsp : i = 0 → a.spot = none := by
        intro h0
        subst h0
        have h9 := World.cell?_spot ((hat 0 (by omega)).trans rfl)
        simpa [Addr.add] using h9
      have hcell : ∀ m, m < 7 → W.cell? ⟨a.block, a.off + i * 7 + m, none⟩ = [.bool b, .int .i64 j, .string s, d3, d4, d5, d6][m]? := by
        intro m hm7
        have h9 := hat m hm7
        rw [List.getElem?_eq_getElem (by simpa using hm7)] at h9 ⊢
        exact cell_plain h9
      exact ⟨(.mk b j s g, .agg #[d3, d4, d5, d6]), ⟨hcell 0 (by omega), hcell 1 (by omega), hcell 2 (by omega), d3, d4, d5, d6, rfl, hcell 3 (by omega), hcell 4 (by omega), hcell 5 (by omega), hcell 6 (by omega)⟩, hg', hsp, ⟨hj, by show s.size ≤ _; omega⟩, hfit, fun d hd => by
        rw [hin0] at hd
        obtain rfl := Option.some.inj hd
        simp only [Rows.uptoBulk, Rows.uptoBulkAll]
        show s.size + Ub.bulkV g ≤ _
        omega⟩
    obtain ⟨F, hF⟩ := choose_lt hex
    have hL : ((List.range len).map fun i => (F i).1).length = len := by simp
    refine ⟨.mk k n t ((List.range len).map fun i => (F i).1), ?_, Fit.mk k n t _ (wf64 wk) (wf64 wn) hs9 (fun i it h => ?_) (fun i it h => ?_), ?_⟩
    rotate_left
    · have hil : i < len := by have := (List.getElem?_eq_some_iff.1 h).1; omega
      have e : it = (F i).1 := by simpa [hil] using h.symm
      subst e
      exact ⟨(hF i hil).2.2.2.1.1, by have := (hF i hil).2.2.2.1.2; omega⟩
    · have hil : i < len := by have := (List.getElem?_eq_some_iff.1 h).1; omega
      have e : it = (F i).1 := by simpa [hil] using h.symm
      subst e
      exact (hF i hil).2.2.2.2.1
    · have hsum := bulk_sum (elems.map (·.1)) ((List.range len).map fun i => (F i).1) (by simp [hel]) fun i it d h hd => by
        have hil : i < len := by have := (List.getElem?_eq_some_iff.1 h).1; omega
        have e : it = (F i).1 := by simpa [hil] using h.symm
        subst e
        exact (hF i hil).2.2.2.2.2 d hd
      have z := Lib.size_eq t
      rw [Ub.bulkV]
      simp only [List.map_cons, List.map_nil, Rows.uptoBulk, Rows.uptoBulkAll]
      omega
    have key := VAt.mk (w := W) (B := W.heap.size) k n t ((List.range len).map fun i => (F i).1) (some a) cap a.block a.off (fun i => (F i).2) (by rw [hL]; exact hl) (by rw [hL]; exact Nat.le_trans (Nat.le_trans hl hm) (by decide)) ?_ ?_ ?_
    · rw [hL] at key
      exact key
    · intro hpos
      rw [hL] at hpos
      have h0 := (hF 0 hpos).1.1
      have h1 := cell_lt h0
      refine ⟨?_, h1⟩
      obtain ⟨ab, ao, sp⟩ := a
      have := (hF 0 hpos).2.2.1 rfl
      simp only at this
      subst this
      rfl
    · intro i it h
      have hil : i < len := by have := (List.getElem?_eq_some_iff.1 h).1; omega
      have e : it = (F i).1 := by simpa [hil] using h.symm
      subst e
      exact (hF i hil).1
    · intro i it h
      have hil : i < len := by have := (List.getElem?_eq_some_iff.1 h).1; omega
      have e : it = (F i).1 := by simpa [hil] using h.symm
      subst e
      exact (hF i hil).2.1
set_option maxRecDepth 100000 in
/-- A value of small bulk as an argument, opened. -/
theorem open_value_b {base : Nat} {v : Value} {d : DataW H} {p : List MemPlace} (hv : Value.okWide Tryz.prog W .any base 25 v) (h : DataW.Trod enc Tryz.prog W 0 (fun _ => true) true 25 v d p) (hu : Rows.uptoBulk d ≤ 1048576) : ∃ g, VAt W W.heap.size g v ∧ Fit g ∧ Ub.bulkV g ≤ 1048576 := by
  obtain ⟨cs, rfl, hsz⟩ := okWide_struct Tryz.underlying25 hv
  obtain ⟨fuel, h⟩ := h
  obtain ⟨g, hg, hf⟩ := open_gv_b fuel (cs := cs.toList) h hu
  exact ⟨g, by simpa using hg, hf.1, Nat.le_trans hf.2 hu⟩
end
end Go.Proofs.YtgpemnmopogppaaGreatDoor
