/- arrs.sorted of a row of numbers: what the walk needs. -/
import Derived.Test.YtopmodahdmnpjaaGreatDoorZAsS
import Derived.Test.YtopmodahdmnpjaaGreatDoorZAsPQ
namespace Go.Proofs.YtopmodahdmnpjaaGreatDoor
open Go Go.RowKit
namespace Dp
open Go.Proofs.YtopmodahdmnpjaaGreatDoor.As (Ord Fits SortOf insAt numI numI_get numI_len)
/-- A number, as it lies in an item. -/
def NIt (q : PI) : Prop := q.k = 2 ∧ q.t = ⟨#[]⟩ ∧ q.l = [] ∧ In64 q.n
theorem vat_num (w : World) (B : Nat) (n : Int) (A : Option Addr) (c : Nat) : VAt w B (.mk 2 n ⟨#[]⟩ []) (.agg #[.int .i64 2, .int .i64 n, .string ⟨#[]⟩, .slice A 0 c]) :=
  .mk 2 n ⟨#[]⟩ [] A c 0 0 (fun _ => .int .i64 0) (Nat.zero_le _) (by simp) (fun h => by simp at h) (fun i it h => by simp at h) (fun i it h => by simp at h)
theorem item_row {w : World} {base g c n b : Nat} {t : TypeId} {ps : List PI} {q : PI} (ho : w.ownsRow base t 7 (.slice (some ⟨g, 0, none⟩) n c) n (rowC ps)) (hn : ps.length = n) (hq : ps[b]? = some q) (r : Nat) (hr : r < 7) : w.cell? ⟨g, b * 7 + r, none⟩ = q.cells[r]? := by
  obtain ⟨cur, _, hg, _, _, hs, ht⟩ := own_row ho
  have hb := (List.getElem?_eq_some_iff.1 hq).1
  have h := rowC_get ps b q hq r hr
  rw [← ht, List.getElem?_take, if_pos (by omega)] at h
  rw [cell_of_row w g _ cur t (0, 0) hg, ← h]
  simp
theorem below_grown {B : Nat} {w w' : World} {row : Option Nat} (hg : w.grownBy w' row) (hB : B ≤ w.heap.size) (hrow : ∀ k, row = some k → B ≤ k) : Below B w w' :=
  ⟨hg.os, hg.tape, hg.output, hg.size, fun k hk => hg.block k (Nat.lt_of_lt_of_le hk hB) (fun e => by have := hrow k e.symm; omega)⟩
theorem ins_len {ps : List PI} {j i : Nat} {x : PI} (h : ps.length = j) (hi : i ≤ j) : (ps.take i ++ x :: ps.drop i).length = j + 1 := by
  simp only [List.length_append, List.length_take, List.length_cons, List.length_drop, h]
  omega
theorem ins_own {w : World} {base : Nat} {sv : Value} {ps : List PI} {j i : Nat} {x : PI} {t : TypeId} (ho : w.ownsRow base t 7 sv (ps.length + 1) (rowC (ps.take i ++ x :: ps.drop i))) (h : ps.length = j) (hi : i ≤ j) : w.ownsRow base t 7 sv (ps.take i ++ x :: ps.drop i).length (rowC (ps.take i ++ x :: ps.drop i)) := by
  rw [ins_len h hi, ← h]
  exact ho
theorem ins_sort {bk : Bool} {ns : List Int} {j i : Nat} {ps : List PI} {x : PI} (h : SortOf bk (ns.take j) (ps.map PI.n)) (hf : Fits bk (ps.map PI.n) x.n i) (hx : ns[j]? = some x.n) : SortOf bk (ns.take (j + 1)) ((ps.take i ++ x :: ps.drop i).map PI.n) := by
  have h2 := h.next hf
  have e : ns.take (j + 1) = ns.take j ++ [x.n] := by rw [List.take_add_one, hx]; rfl
  have e2 : (ps.take i ++ x :: ps.drop i).map PI.n = insAt (ps.map PI.n) i x.n := by
    unfold insAt
    simp [List.map_take, List.map_drop]
  rw [e, e2]
  exact h2
theorem ins_nit {ps : List PI} {i : Nat} {x : PI} (h : ∀ q ∈ ps, NIt q) (hx : NIt x) : ∀ q ∈ ps.take i ++ x :: ps.drop i, NIt q := fun q hq => by
  rcases List.mem_append.1 hq with hq | hq
  · exact h q (List.mem_of_mem_take hq)
  · rcases List.mem_cons.1 hq with rfl | hq
    · exact hx
    · exact h q (List.mem_of_mem_drop hq)
theorem ord_yes {bk : Bool} {n m r : Int} (h : Ord bk n m) (hc : (r = -1 ∧ n < m) ∨ (r = 0 ∧ n = m) ∨ (r = 1 ∧ m < n)) : (bk = false ∧ r ≤ 0) ∨ (bk = true ∧ r = 0) ∨ (bk = true ∧ r = 1) := by
  unfold As.Ord at h
  cases bk <;> simp at h ⊢ <;> omega
theorem ord_no {bk : Bool} {n m r : Int} (h : ¬ Ord bk n m) (hc : (r = -1 ∧ n < m) ∨ (r = 0 ∧ n = m) ∨ (r = 1 ∧ m < n)) : (bk = false ∧ r = 1) ∨ (bk = true ∧ r = -1) := by
  unfold As.Ord at h
  cases bk <;> simp at h ⊢ <;> omega
theorem sml_i {n : Int} : Sml (.mk 2 n ⟨#[]⟩ []) := .mk 2 n ⟨#[]⟩ [] (by decide) (fun i it h => by simp at h)
theorem renum_num : ∀ (ps : List PI) (k : Nat), (∀ q ∈ ps, NIt q) → renum (ps.map PI.it) k = numI (ps.map PI.n) k
  | [], _, _ => rfl
  | q :: r, k, h => by
    obtain ⟨q1, q2, q3, _⟩ := h q (List.mem_cons_self ..)
    rw [List.map_cons, List.map_cons, renum, numI, renum_num r (k + 1) (fun q hq => h q (List.mem_cons_of_mem _ hq))]
    show GI.mk false k ⟨#[]⟩ q.gv :: _ = _
    unfold PI.gv
    rw [q1, q2, q3]
theorem nit_of_num {ps : List PI} {vs : List Int} (h : ps.map PI.it = numI vs 0) (hv : ∀ x ∈ vs, In64 x) : ∀ q ∈ ps, NIt q := fun q hq => by
  obtain ⟨i, hi⟩ := List.mem_iff_getElem?.1 hq
  have h1 : (ps.map PI.it)[i]? = some q.it := by rw [List.getElem?_map, hi]; rfl
  rw [h] at h1
  have hl := (List.getElem?_eq_some_iff.1 h1).1
  rw [numI_len] at hl
  rw [numI_get vs 0 i _ (List.getElem?_eq_getElem hl)] at h1
  injection h1 with h1
  unfold PI.it PI.gv at h1
  injection h1 with _ _ _ h1
  injection h1 with e1 e2 e3 e4
  exact ⟨e1.symm, e3.symm, e4.symm, e2 ▸ hv _ (List.getElem_mem hl)⟩
theorem enter_of {P : Program} {f : FuncId} {fn : Func} {c : Code} (hf : P.funcs[f]? = some fn) (hname : (fn.name == "runtime.NumGoroutine") = false) (hb : fn.body = some c) (args : Array Value) (w : World) : (callFunc f args).run P w = .ok (.enter f args) w := by
  have h1 : fn.name ≠ "runtime.NumGoroutine" := by simpa using hname
  simp [callFunc, hf, h1, hb]
theorem fit_i {n : Int} (h : In64 n) : Fit (.mk 2 n ⟨#[]⟩ []) :=
  .mk 2 n ⟨#[]⟩ [] ⟨by decide, by decide⟩ h (by decide) (fun i it h => by simp at h) (fun i it h => by simp at h)
theorem cmpI_cases (n m : Int) : (cmpI n m = -1 ∧ n < m) ∨ (cmpI n m = 0 ∧ n = m) ∨ (cmpI n m = 1 ∧ m < n) := by
  unfold cmpI
  split
  · exact .inl ⟨rfl, by assumption⟩
  · split
    · exact .inr (.inr ⟨rfl, by assumption⟩)
    · exact .inr (.inl ⟨rfl, by omega⟩)
set_option maxRecDepth 100000 in
set_option maxHeartbeats 1000000 in
theorem sorted_every {wr : World} {base : Nat} (hLib : ∀ w', Below wr.heap.size wr w' → LibS w') {ps : List PI} {sv : Value} {m : Nat} (hm : ps.length = m) (hm2 : m ≤ 2048) (hO : wr.ownsRow base 34 7 sv ps.length (rowC ps)) (hN : ∀ q ∈ ps, NIt q) (kb : Nat) (hk : wr.cell? ⟨kb, 0, none⟩ = some (.bool false)) (hkb : kb < wr.heap.size) :
    Calls Tryz.prog 85 #[sv, .func (.func 123) #[] #[.pointer (some ⟨kb, 0, none⟩)]] wr fun e w2 => ∃ sv2 ps2, e = .returned (.tuple #[.agg #[.int .i64 4, .int .i64 m, .string ⟨#[]⟩, sv2], .int .i64 0]) ∧ ps2.map PI.it = numI (ps.map PI.n) 0 ∧ w2.ownsRow wr.heap.size 34 7 sv2 ps2.length (rowC ps2) ∧ (∀ q ∈ ps2, NIt q) ∧ Below wr.heap.size wr w2 := by
  subst hm
  have hml : (ps.map PI.it).length = ps.length := List.length_map _
  obtain ⟨Ao, co, rfl⟩ := own_form0 hO
  have hfm : Ao = none ∧ ps.length = 0 ∨ ∃ g, Ao = some ⟨g, 0, none⟩ ∧ g < wr.heap.size := by
    rcases hO.2 with ⟨e, h0⟩ | ⟨g, cap, cur, e, _, hg, _⟩
    · injection e with e _ _
      exact .inl ⟨e, h0⟩
    · injection e with e _ _
      exact .inr ⟨g, e, (Array.getElem?_eq_some_iff.1 hg).1⟩
  obtain ⟨g, hg⟩ : ∃ g, 0 < ps.length → Ao = some ⟨g, 0, none⟩ ∧ g < wr.heap.size := by
    rcases hfm with ⟨_, h⟩ | ⟨g, h⟩
    · exact ⟨0, fun hh => by omega⟩
    · exact ⟨g, fun _ => h⟩
  have hget : ∀ (i : Nat) (it : GI), (ps.map PI.it)[i]? = some it → ∃ q, ps[i]? = some q ∧ it = q.it ∧ NIt q := fun i it h => by
    rw [List.getElem?_map] at h
    cases hq : ps[i]? with
    | none => rw [hq] at h; cases h
    | some q =>
      rw [hq] at h
      injection h with h
      exact ⟨q, rfl, h.symm, hN q (List.mem_of_getElem? hq)⟩
  obtain ⟨C, hC⟩ : ∃ C : Nat → Value, ∀ i q, ps[i]? = some q → C i = q.val := ⟨fun i => match ps[i]? with | some q => q.val | none => .int .i64 0, fun i q h => by simp only [h]⟩
  have h1 : ∀ i it, (ps.map PI.it)[i]? = some it → ItemAt wr g (0 + i * 7) it (C i) := fun i it h => by
    obtain ⟨q, hq, rfl, hn⟩ := hget i it h
    have hi := (List.getElem?_eq_some_iff.1 hq).1
    obtain ⟨e, _⟩ := hg (by omega)
    rw [e] at hO
    have hr := item_row hO rfl hq
    rw [hC i q hq, Nat.zero_add]
    exact ⟨hr 0 (by decide), hr 1 (by decide), hr 2 (by decide), _, _, _, _, rfl, hr 3 (by decide), hr 4 (by decide), hr 5 (by decide), hr 6 (by decide)⟩
  have h2 : ∀ i it, (ps.map PI.it)[i]? = some it → VAt wr wr.heap.size it.val (C i) := fun i it h => by
    obtain ⟨q, hq, rfl, q1, q2, q3, _⟩ := hget i it h
    rw [hC i q hq]
    obtain ⟨qb, qi, qs, qk, qn, qt, ql, qA, qc⟩ := q
    simp only at q1 q2 q3
    subst q1 q2 q3
    exact vat_num _ _ _ _ _
  have h3 : ∀ (i : Nat) (it : GI), (ps.map PI.it)[i]? = some it → Fit it.val ∧ Sml it.val := fun i it h => by
    obtain ⟨q, hq, rfl, q1, q2, q3, q4⟩ := hget i it h
    obtain ⟨qb, qi, qs, qk, qn, qt, ql, qA, qc⟩ := q
    simp only at q1 q2 q3 q4
    subst q1 q2 q3
    exact ⟨fit_i q4, sml_i⟩
  have hen : ∀ args w, (callFunc 123 args).run Tryz.prog w = .ok (.enter 123 args) w := fun args w => by
    have hb : ∃ c, (Tryz.prog.funcs[(123 : FuncId)]?).bind (fun fn => fn.body) = some c := by
      rw [Tryz.func123]
      exact ⟨_, rfl⟩
    rw [Tryz.func123] at hb
    obtain ⟨c, hb⟩ := hb
    exact enter_of Tryz.func123 (by kernel_rfl) hb args w
  have hcl := clos_sorted hLib kb hk hkb
  have hev := every_app (w := wr) (B := wr.heap.size) (Nat.le_refl _) (ps.map PI.it) Ao co g 0 C (fun h => hg (by omega)) h1 h2 (fun i it h => (h3 i it h).1) (fun i it h => (h3 i it h).2) (by omega) 123 #[.pointer (some ⟨kb, 0, none⟩)] hcl hen wr (Below.refl _ _)
  rw [hml] at hev
  refine hev.mono ?_
  rintro e w2 ⟨sv2, ps2, he, hr, ho, _, hb⟩
  rw [renum_num ps 0 hN] at hr
  exact ⟨sv2, ps2, he, hr, ho, nit_of_num hr (fun x hx => by
    obtain ⟨q, hq, rfl⟩ := List.mem_map.1 hx
    exact (hN q hq).2.2.2), hb⟩
end Dp
end Go.Proofs.YtopmodahdmnpjaaGreatDoor
