/- The arguments of this seat's statements, opened: a slice of acts, a slice of files. -/
import Derived.Test.YtbiclpkoocjjfaaDoorRow
import Derived.Test.YtbiclpkoocjjfaaDoorDiskG
namespace Go.Proofs.YtbiclpkoocjjfaaDoor
open Go.ChangeShapes Go.WideShapes Go.ChangeAt Go.RowKit Go.Deep

set_option maxRecDepth 100000 in
/-- A slice of acts, opened. -/
theorem open_acts {H : Type} {enc : TypeId × Value → H} {W : World} {base : Nat} {v : Value} {d : DataW H} {p : List MemPlace} (hv : Value.okWide Tryd.prog W .any base 22 v)
    (h : DataW.Trod enc Tryd.prog W 0 (fun _ => true) true 22 v d p) :
    ∃ (A : Option Addr) (l : List ActV) (c : Nat), v = .slice A l.length c ∧ ActsAt W W.heap.size A l ∧ (l.length = 0 ∨ ∃ es sp, d = .slice es sp ∧ l.length = es.length) ∧
      (∀ k, (l.getD k default).path.size ≤ maxLen ∧ (l.getD k default).text.size ≤ maxLen) ∧ ∀ k, -9223372036854775808 ≤ (l.getD k default).num ∧ (l.getD k default).num ≤ 9223372036854775807 ∧ -9223372036854775808 ≤ (l.getD k default).kind ∧ (l.getD k default).kind ≤ 9223372036854775807 := by
  obtain ⟨a0, len, cap, rfl⟩ := okWide_slice Tryd.underlying22 hv
  obtain ⟨fuel, hf⟩ := h
  have hdef : ∀ k, (([] : List ActV).getD k default).path.size ≤ maxLen ∧ (([] : List ActV).getD k default).text.size ≤ maxLen := fun k => ⟨Nat.zero_le _, Nat.zero_le _⟩
  have hdef2 : ∀ k, -9223372036854775808 ≤ (([] : List ActV).getD k default).num ∧ (([] : List ActV).getD k default).num ≤ 9223372036854775807 ∧ -9223372036854775808 ≤ (([] : List ActV).getD k default).kind ∧ (([] : List ActV).getD k default).kind ≤ 9223372036854775807 :=
    fun k => by rw [show ([] : List ActV).getD k default = default from rfl]; exact ⟨by decide, by decide, by decide, by decide⟩
  rcases open_slice_fields Tryd.underlying22 Tryd.underlying30 (by kernel_rfl) (by kernel_rfl) hf with ⟨hcs, _⟩ | ⟨a, len', cap', m, D, Pl, hcs, _, hl, hm, hmm, hx, hi⟩
  · simp [Value.cells] at hcs
    obtain ⟨rfl, rfl, rfl⟩ := hcs
    exact ⟨none, [], 0, rfl, fun h => absurd h (by decide), .inl rfl, hdef, hdef2⟩
  · simp [Value.cells] at hcs
    obtain ⟨rfl, rfl, rfl⟩ := hcs
    have hmc : m = cap := by rw [hmm]; rfl
    subst hmc
    have hex : ∀ i, i < m → ∃ x : ActV, W.cell? (a.add (i * 4 + 0)) = some (.int .i64 x.kind) ∧ W.cell? (a.add (i * 4 + 1)) = some (.string x.path) ∧ W.cell? (a.add (i * 4 + 2)) = some (.string x.text) ∧ W.cell? (a.add (i * 4 + 3)) = some (.int .i64 x.num) ∧
        x.path.size ≤ maxLen ∧ x.text.size ≤ maxLen ∧ -9223372036854775808 ≤ x.num ∧ x.num ≤ 9223372036854775807 ∧ -9223372036854775808 ≤ x.kind ∧ x.kind ≤ 9223372036854775807 := by
      intro i hi'
      obtain ⟨ys, n, _, _, _, hf'⟩ := hi i hi'
      obtain ⟨v0, y0, c0, _, t0⟩ := hf' 0 _ rfl
      obtain ⟨v1, y1, c1, _, t1⟩ := hf' 1 _ rfl
      obtain ⟨v2, y2, c2, _, t2⟩ := hf' 2 _ rfl
      obtain ⟨v3, y3, c3, _, t3⟩ := hf' 3 _ rfl
      obtain ⟨k, e0, _, w0⟩ := DataW.trod_int Tryd.underlying3 t0
      obtain ⟨s1, e1, _, w1⟩ := DataW.trod_string Tryd.underlying9 t1
      obtain ⟨s2, e2, _, w2⟩ := DataW.trod_string Tryd.underlying9 t2
      obtain ⟨n3, e3, _, w3⟩ := DataW.trod_int Tryd.underlying3 t3
      simp only [List.cons.injEq, and_true] at e0 e1 e2 e3
      subst e0 e1 e2 e3
      have b0 : -9223372036854775808 ≤ k ∧ k ≤ 9223372036854775807 := by simp [Lit.wf, IntKind.min, IntKind.max, IntKind.signed, IntKind.bits] at w0; omega
      have b3 : -9223372036854775808 ≤ n3 ∧ n3 ≤ 9223372036854775807 := by simp [Lit.wf, IntKind.min, IntKind.max, IntKind.signed, IntKind.bits] at w3; omega
      exact ⟨⟨k, s1, s2, n3⟩, c0, c1, c2, c3, w1, w2, b3.1, b3.2, b0.1, b0.2⟩
    obtain ⟨X, hX⟩ := choose_lt hex
    refine ⟨some a, (List.range len).map X, m, by simp, ?_, .inr ⟨_, _, congrArg Prod.fst hx, by simp⟩, ?_, ?_⟩
    · intro hpos
      have hlen : 0 < len := by simpa using hpos
      obtain ⟨ab, ao, spot⟩ := a
      have hspot : spot = none := by simpa [Addr.add] using World.cell?_spot (hX 0 (by omega)).1
      subst hspot
      refine ⟨ab, ao, rfl, by have := cell_lt (hX 0 (by omega)).1; simpa [Addr.add] using this, fun k hk => ?_⟩
      have hk' : k < len := by simpa using hk
      have e : ((List.range len).map X).getD k default = X k := by simp [hk']
      rw [e]
      obtain ⟨c0, c1, c2, c3, _⟩ := hX k (by omega)
      rw [add_plain] at c0 c1 c2 c3
      exact ⟨c0, by rw [Nat.add_assoc]; exact c1, by rw [Nat.add_assoc]; exact c2, by rw [Nat.add_assoc]; exact c3⟩
    · intro k
      by_cases hk : k < len
      · have e : ((List.range len).map X).getD k default = X k := by simp [hk]
        rw [e]
        obtain ⟨_, _, _, _, h1, h2, _⟩ := hX k (by omega)
        exact ⟨h1, h2⟩
      · have e : ((List.range len).map X).getD k default = default := by simp [hk]
        rw [e]; exact hdef 0
    · intro k
      by_cases hk : k < len
      · have e : ((List.range len).map X).getD k default = X k := by simp [hk]
        rw [e]
        obtain ⟨_, _, _, _, _, _, h3⟩ := hX k (by omega)
        exact h3
      · have e : ((List.range len).map X).getD k default = default := by simp [hk]
        rw [e]; exact hdef2 0


set_option maxRecDepth 100000 in
/-- A slice of files, opened. -/
theorem open_files {H : Type} {enc : TypeId × Value → H} {W : World} {base : Nat} {v : Value} {d : DataW H} {p : List MemPlace} (hv : Value.okWide Tryd.prog W .any base 40 v)
    (h : DataW.Trod enc Tryd.prog W 0 (fun _ => true) true 40 v d p) :
    ∃ (A : Option Addr) (l : List (ByteArray × ByteArray)) (c : Nat), v = .slice A l.length c ∧ FilesAt W W.heap.size A l ∧ (l.length = 0 ∨ ∃ es sp, d = .slice es sp ∧ l.length = es.length ∧ ∀ k, k < l.length → es[k]? = some (.agg [.lit (.string (l.getD k default).1.data.toList), .lit (.string (l.getD k default).2.data.toList)])) ∧
      (∀ k, (l.getD k default).1.size ≤ maxLen ∧ (l.getD k default).2.size ≤ maxLen) := by
  obtain ⟨a0, len, cap, rfl⟩ := okWide_slice Tryd.underlying40 hv
  obtain ⟨fuel, hf⟩ := h
  have hdef : ∀ k, (([] : List (ByteArray × ByteArray)).getD k default).1.size ≤ maxLen ∧ (([] : List (ByteArray × ByteArray)).getD k default).2.size ≤ maxLen := fun k => ⟨Nat.zero_le _, Nat.zero_le _⟩
  rcases open_slice_fields Tryd.underlying40 Tryd.underlying53 (by kernel_rfl) (by kernel_rfl) hf with ⟨hcs, _⟩ | ⟨a, len', cap', m, D, Pl, hcs, _, hl, hm, hmm, hx, hi⟩
  · simp [Value.cells] at hcs
    obtain ⟨rfl, rfl, rfl⟩ := hcs
    exact ⟨none, [], 0, rfl, fun h => absurd h (by decide), .inl rfl, hdef⟩
  · simp [Value.cells] at hcs
    obtain ⟨rfl, rfl, rfl⟩ := hcs
    have hmc : m = cap := by rw [hmm]; rfl
    subst hmc
    have hex : ∀ i, i < m → ∃ x : ByteArray × ByteArray, W.cell? (a.add (i * 2 + 0)) = some (.string x.1) ∧ W.cell? (a.add (i * 2 + 1)) = some (.string x.2) ∧ x.1.size ≤ maxLen ∧ x.2.size ≤ maxLen ∧ D i = .agg [.lit (.string x.1.data.toList), .lit (.string x.2.data.toList)] := by
      intro i hi'
      obtain ⟨ys, n, hD, _, hyl, hf'⟩ := hi i hi'
      obtain ⟨v0, y0, c0, g0, t0⟩ := hf' 0 _ rfl
      obtain ⟨v1, y1, c1, g1, t1⟩ := hf' 1 _ rfl
      obtain ⟨s0, e0, r0, w0⟩ := DataW.trod_string Tryd.underlying9 t0
      obtain ⟨s1, e1, r1, w1⟩ := DataW.trod_string Tryd.underlying9 t1
      simp only [List.cons.injEq, and_true] at e0 e1
      subst e0 e1 r0 r1
      refine ⟨⟨s0, s1⟩, c0, c1, w0, w1, ?_⟩
      have hl2 : ys.length = 2 := hyl
      match ys, hl2 with
      | [z0, z1], _ =>
        simp at g0 g1
        subst g0 g1
        exact hD
    obtain ⟨X, hX⟩ := choose_lt hex
    refine ⟨some a, (List.range len).map X, m, by simp, ?_, .inr ⟨_, _, congrArg Prod.fst hx, by simp, fun k hk => ?_⟩, ?_⟩
    · intro hpos
      have hlen : 0 < len := by simpa using hpos
      obtain ⟨ab, ao, spot⟩ := a
      have hspot : spot = none := by simpa [Addr.add] using World.cell?_spot (hX 0 (by omega)).1
      subst hspot
      refine ⟨ab, ao, rfl, by have := cell_lt (hX 0 (by omega)).1; simpa [Addr.add] using this, fun k hk => ?_⟩
      have hk' : k < len := by simpa using hk
      have e : ((List.range len).map X).getD k default = X k := by simp [hk']
      rw [e]
      obtain ⟨c0, c1, _⟩ := hX k (by omega)
      rw [add_plain] at c0 c1
      exact ⟨c0, by rw [Nat.add_assoc]; exact c1⟩
    · have hk' : k < len := by simpa using hk
      have e : ((List.range len).map X).getD k default = X k := by simp [hk']
      rw [e, ← (hX k (by omega)).2.2.2.2]
      simp [hk']
    · intro k
      by_cases hk : k < len
      · have e : ((List.range len).map X).getD k default = X k := by simp [hk]
        rw [e]
        obtain ⟨_, _, h1, h2, _⟩ := hX k (by omega)
        exact ⟨h1, h2⟩
      · have e : ((List.range len).map X).getD k default = default := by simp [hk]
        rw [e]; exact hdef 0

theorem bytesAct : Tryd.prog.bytesOf 30 = 48 := by kernel_rfl
theorem bytesFile : Tryd.prog.bytesOf 53 = 32 := by kernel_rfl

/-- A world for the witness: the settled one, the two tables holding what their initialisers lay. -/
noncomputable def laidWorld (os : Os) : World := layAt (layAt (World.holding Tryd.prog os ⟨#[], #[], []⟩) 2 Rows.laid_unicode_utf8_acceptRanges) 1 Rows.laid_unicode_utf8_first

end Go.Proofs.YtbiclpkoocjjfaaDoor
