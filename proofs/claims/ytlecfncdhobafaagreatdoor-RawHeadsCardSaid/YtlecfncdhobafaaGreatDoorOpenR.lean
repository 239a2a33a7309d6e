/- A request as an argument, opened. (open_agg5 is the guide's block, extra-structs.md.) -/
import Derived.Test.YtlecfncdhobafaaGreatDoorOpenM
import Derived.Test.YtlecfncdhobafaaGreatDoorRhD
import Derived.Lib.SmallJoins
namespace Go.Proofs.YtlecfncdhobafaaGreatDoor
open Go.Joins Go.ChangeShapes Go.WideShapes Go.ChangeAt Go.RowKit Go.Deep
section
variable {H : Type} {enc : TypeId × Value → H} {P : Program} {w : World} {base : Nat} {spare : Nat → Bool} {held : Bool}
theorem open_agg5 {r : Reach} {b0 : Nat} {t : TypeId} {f0 f1 f2 f3 f4 : Field} {v : Value} {d : DataW H} {p : List MemPlace} (hs : P.underlying t = some (.struct #[f0, f1, f2, f3, f4])) (hone : oneCellFields P #[f0, f1, f2, f3, f4] = true) (hC : P.cellsOf t = 5)
    (hv : Value.okWide P w r b0 t v) (h : DataW.Trod enc P w base spare held t v d p) :
    ∃ (v0 v1 v2 v3 v4 : Value) (y0 y1 y2 y3 y4 : DataW H × List MemPlace) (n : Nat), v = .agg #[v0, v1, v2, v3, v4] ∧ d = .agg [y0.1, y1.1, y2.1, y3.1, y4.1] ∧ p = y0.2 ++ (y1.2 ++ (y2.2 ++ (y3.2 ++ y4.2))) ∧
      DataW.trod enc P w base spare held n f0.type [v0] = some y0 ∧ DataW.trod enc P w base spare held n f1.type [v1] = some y1 ∧ DataW.trod enc P w base spare held n f2.type [v2] = some y2 ∧ DataW.trod enc P w base spare held n f3.type [v3] = some y3 ∧ DataW.trod enc P w base spare held n f4.type [v4] = some y4 := by
  obtain ⟨cs, rfl, hsz⟩ := okWide_struct hs hv
  obtain ⟨l⟩ := cs
  match l, hsz.trans hC with
  | [c0, c1, c2, c3, c4], _ =>
    obtain ⟨fuel, hf⟩ := h
    obtain ⟨xs, n, _, hx, _, hlen, hg⟩ := DataW.trod_struct hs hf
    obtain ⟨o0, k0⟩ := hone_of hone 0 f0 rfl
    obtain ⟨o1, k1⟩ := hone_of hone 1 f1 rfl
    obtain ⟨o2, k2⟩ := hone_of hone 2 f2 rfl
    obtain ⟨o3, k3⟩ := hone_of hone 3 f3 rfl
    obtain ⟨o4, k4⟩ := hone_of hone 4 f4 rfl
    match xs, hlen with
    | [y0, y1, y2, y3, y4], _ =>
      simp only [Prod.mk.injEq] at hx
      exact ⟨c0, c1, c2, c3, c4, y0, y1, y2, y3, y4, n, rfl, by simpa using hx.1, by simpa using hx.2, by simpa [Value.cells, o0, k0] using hg 0 f0 rfl, by simpa [Value.cells, o1, k1] using hg 1 f1 rfl, by simpa [Value.cells, o2, k2] using hg 2 f2 rfl, by simpa [Value.cells, o3, k3] using hg 3 f3 rfl, by simpa [Value.cells, o4, k4] using hg 4 f4 rfl⟩
end
set_option maxRecDepth 100000 in
/-- A slice of pairs in a field, opened. -/
theorem open_pairs_at {H : Type} {enc : TypeId × Value → H} {W : World} {n : Nat} {v : Value} {y : DataW H × List MemPlace} (hf : DataW.trod enc Tryz.prog W 0 (fun _ => true) true n 31 [v] = some y) :
    ∃ (A : Option Addr) (l : List (ByteArray × ByteArray)) (c : Nat), v = .slice A l.length c ∧ PairsAt W W.heap.size A l ∧ l.length ≤ maxLen ∧ ∀ k, (l.getD k default).1.size ≤ maxLen := by
  have hdef : ∀ k, (([] : List (ByteArray × ByteArray)).getD k default).1.size ≤ maxLen := fun k => Nat.zero_le _
  rcases open_slice_fields Tryz.underlying31 Tryz.underlying67 (by kernel_rfl) (by kernel_rfl) hf with ⟨hcs, _⟩ | ⟨a, len', cap', m, D, Pl, hcs, _, hl, hm, hmm, hx, hi⟩
  · simp at hcs
    subst hcs
    exact ⟨none, [], 0, rfl, fun h => absurd h (by decide), Nat.zero_le _, hdef⟩
  · simp at hcs
    subst hcs
    have hmc : m = cap' := by rw [hmm]; rfl
    subst hmc
    have hex : ∀ i, i < m → ∃ x : ByteArray × ByteArray, W.cell? (a.add (i * 2 + 0)) = some (.string x.1) ∧ W.cell? (a.add (i * 2 + 1)) = some (.string x.2) ∧ x.1.size ≤ maxLen := by
      intro i hi'
      obtain ⟨ys, n, hD, _, hyl, hf'⟩ := hi i hi'
      obtain ⟨v0, y0, c0, g0, t0⟩ := hf' 0 _ rfl
      obtain ⟨v1, y1, c1, g1, t1⟩ := hf' 1 _ rfl
      obtain ⟨s0, e0, r0, w0⟩ := DataW.trod_string Tryz.underlying9 t0
      obtain ⟨s1, e1, r1, w1⟩ := DataW.trod_string Tryz.underlying9 t1
      simp only [List.cons.injEq, and_true] at e0 e1
      subst e0 e1
      exact ⟨⟨s0, s1⟩, c0, c1, w0⟩
    obtain ⟨X, hX⟩ := choose_lt hex
    refine ⟨some a, (List.range len').map X, m, by simp, ?_, by simp; omega, ?_⟩
    · intro hpos
      have hlen : 0 < len' := by simpa using hpos
      obtain ⟨ab, ao, spot⟩ := a
      have hspot : spot = none := by simpa [Addr.add] using World.cell?_spot (hX 0 (by omega)).1
      subst hspot
      refine ⟨ab, ao, rfl, by have := cell_lt (hX 0 (by omega)).1; simpa [Addr.add] using this, fun k hk => ?_⟩
      have hk' : k < len' := by simpa using hk
      have e : ((List.range len').map X).getD k default = X k := by simp [hk']
      rw [e]
      obtain ⟨c0, c1, _⟩ := hX k (by omega)
      rw [add_plain] at c0 c1
      exact ⟨c0, by rw [Nat.add_assoc]; exact c1⟩
    · intro k
      by_cases hk : k < len'
      · have e : ((List.range len').map X).getD k default = X k := by simp [hk]
        rw [e]
        exact (hX k (by omega)).2.2
      · have e : ((List.range len').map X).getD k default = default := by simp [hk]
        rw [e]; exact hdef 0
set_option maxRecDepth 100000 in
/-- A request, opened. -/
theorem open_req {H : Type} {enc : TypeId × Value → H} {W : World} {base : Nat} {v : Value} {d : DataW H} {p : List MemPlace} (hv : Value.okWide Tryz.prog W .any base 33 v)
    (h : DataW.Trod enc Tryz.prog W 0 (fun _ => true) true 33 v d p) :
    ∃ (m q y b : ByteArray) (A : Option Addr) (l : List (ByteArray × ByteArray)) (c : Nat), v = .agg #[.string m, .string q, .string y, .slice A l.length c, .string b] ∧ PairsAt W W.heap.size A l ∧ l.length ≤ maxLen ∧ ∀ k, (l.getD k default).1.size ≤ maxLen := by
  obtain ⟨v0, v1, v2, v3, v4, y0, y1, y2, y3, y4, n, rfl, _, _, t0, t1, t2, t3, t4⟩ := open_agg5 Tryz.underlying33 (by kernel_rfl) (by kernel_rfl) hv h
  obtain ⟨s0, e0, _, _⟩ := DataW.trod_string Tryz.underlying9 t0
  obtain ⟨s1, e1, _, _⟩ := DataW.trod_string Tryz.underlying9 t1
  obtain ⟨s2, e2, _, _⟩ := DataW.trod_string Tryz.underlying9 t2
  obtain ⟨A, l, c, rfl, hA, hl, hz⟩ := open_pairs_at t3
  obtain ⟨s4, e4, _, _⟩ := DataW.trod_string Tryz.underlying9 t4
  simp only [List.cons.injEq, and_true] at e0 e1 e2 e4
  subst e0 e1 e2 e4
  exact ⟨s0, s1, s2, s4, A, l, c, rfl, hA, hl, hz⟩
end Go.Proofs.YtlecfncdhobafaaGreatDoor
