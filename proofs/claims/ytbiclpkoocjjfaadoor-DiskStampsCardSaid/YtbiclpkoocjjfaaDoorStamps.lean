/- DiskStamps returns true for every input: the row, then the card. -/
import Derived.Test.YtbiclpkoocjjfaaDoorRow
import Derived.Test.YtbiclpkoocjjfaaDoorDiskG
namespace Go.Proofs.YtbiclpkoocjjfaaDoor
open Go.ChangeShapes Go.WideShapes Go.ChangeAt Go.RowKit Go.Deep

set_option maxRecDepth 100000 in
/-- A slice of acts, opened. -/
theorem open_acts {H : Type} {enc : TypeId × Value → H} {W : World} {base : Nat} {v : Value} {d : DataW H} {p : List MemPlace} (hv : Value.okWide Tryd.prog W .any base 22 v)
    (h : DataW.Trod enc Tryd.prog W 0 (fun _ => true) true 22 v d p) :
    ∃ (A : Option Addr) (l : List ActV) (c : Nat), v = .slice A l.length c ∧ ActsAt W W.heap.size A l ∧ (l.length = 0 ∨ ∃ es sp, d = .slice es sp ∧ l.length = es.length) ∧
      (∀ k, (l.getD k default).path.size ≤ maxLen ∧ (l.getD k default).text.size ≤ maxLen) ∧ ∀ k, -9223372036854775808 ≤ (l.getD k default).num ∧ (l.getD k default).num ≤ 9223372036854775807 ∧ -9223372036854775808 ≤ (l.getD k default).kind ∧ (l.getD k default).kind ≤ 9223372036854775807 := by
  obtain ⟨a0, len, cap, rfl⟩ := okWide_slice Tryd.underlying22 hv
  obtain ⟨fuel, hf⟩ := h
  have hdef : ∀ k, (([] : List ActV).getD k default).path.size ≤ maxLen ∧ (([] : List ActV).getD k default).text.size ≤ maxLen := fun k => ⟨Nat.zero_le _, Nat.zero_le _⟩
  have hdef2 : ∀ k, -9223372036854775808 ≤ (([] : List ActV).getD k default).num ∧ (([] : List ActV).getD k default).num ≤ 9223372036854775807 ∧ -9223372036854775808 ≤ (([] : List ActV).getD k default).kind ∧ (([] : List ActV).getD k default).kind ≤ 9223372036854775807 :=
    fun k => by rw [show ([] : List ActV).getD k default = default from rfl]; exact ⟨by decide, by decide, by decide, by decide⟩
  rcases open_slice_fields Tryd.underlying22 Tryd.underlying30 (by kernel_rfl) (by kernel_rfl) hf with ⟨hcs, _⟩ | ⟨a, len', cap', m, D, Pl, hcs, _, hl, hm, hmm, hx, hi⟩
  · simp [Value.cells] at hcs
    obtain ⟨rfl, rfl, rfl⟩ := hcs
    exact ⟨none, [], 0, rfl, fun h => absurd h (by decide), .inl rfl, hdef, hdef2⟩
  · simp [Value.cells] at hcs
    obtain ⟨rfl, rfl, rfl⟩ := hcs
    have hmc : m = cap := by rw [hmm]; rfl
    subst hmc
    have hex : ∀ i, i < m → ∃ x : ActV, W.cell? (a.add (i * 4 + 0)) = some (.int .i64 x.kind) ∧ W.cell? (a.add (i * 4 + 1)) = some (.string x.path) ∧ W.cell? (a.add (i * 4 + 2)) = some (.string x.text) ∧ W.cell? (a.add (i * 4 + 3)) = some (.int .i64 x.num) ∧
        x.path.size ≤ maxLen ∧ x.text.size ≤ maxLen ∧ -9223372036854775808 ≤ x.num ∧ x.num ≤ 9223372036854775807 ∧ -9223372036854775808 ≤ x.kind ∧ x.kind ≤ 9223372036854775807 := by
      intro i hi'
      obtain ⟨ys, n, _, _, _, hf'⟩ := hi i hi'
      obtain ⟨v0, y0, c0, _, t0⟩ := hf' 0 _ rfl
      obtain ⟨v1, y1, c1, _, t1⟩ := hf' 1 _ rfl
      obtain ⟨v2, y2, c2, _, t2⟩ := hf' 2 _ rfl
      obtain ⟨v3, y3, c3, _, t3⟩ := hf' 3 _ rfl
      obtain ⟨k, e0, _, w0⟩ := DataW.trod_int Tryd.underlying3 t0
      obtain ⟨s1, e1, _, w1⟩ := DataW.trod_string Tryd.underlying9 t1
      obtain ⟨s2, e2, _, w2⟩ := DataW.trod_string Tryd.underlying9 t2
      obtain ⟨n3, e3, _, w3⟩ := DataW.trod_int Tryd.underlying3 t3
      simp only [List.cons.injEq, and_true] at e0 e1 e2 e3
      subst e0 e1 e2 e3
      have b0 : -9223372036854775808 ≤ k ∧ k ≤ 9223372036854775807 := by simp [Lit.wf, IntKind.min, IntKind.max, IntKind.signed, IntKind.bits] at w0; omega
      have b3 : -9223372036854775808 ≤ n3 ∧ n3 ≤ 9223372036854775807 := by simp [Lit.wf, IntKind.min, IntKind.max, IntKind.signed, IntKind.bits] at w3; omega
      exact ⟨⟨k, s1, s2, n3⟩, c0, c1, c2, c3, w1, w2, b3.1, b3.2, b0.1, b0.2⟩
    obtain ⟨X, hX⟩ := choose_lt hex
    refine ⟨some a, (List.range len).map X, m, by simp, ?_, .inr ⟨_, _, congrArg Prod.fst hx, by simp⟩, ?_, ?_⟩
    · intro hpos
      have hlen : 0 < len := by simpa using hpos
      obtain ⟨ab, ao, spot⟩ := a
      have hspot : spot = none := by simpa [Addr.add] using World.cell?_spot (hX 0 (by omega)).1
      subst hspot
      refine ⟨ab, ao, rfl, by have := cell_lt (hX 0 (by omega)).1; simpa [Addr.add] using this, fun k hk => ?_⟩
      have hk' : k < len := by simpa using hk
      have e : ((List.range len).map X).getD k default = X k := by simp [hk']
      rw [e]
      obtain ⟨c0, c1, c2, c3, _⟩ := hX k (by omega)
      rw [add_plain] at c0 c1 c2 c3
      exact ⟨c0, by rw [Nat.add_assoc]; exact c1, by rw [Nat.add_assoc]; exact c2, by rw [Nat.add_assoc]; exact c3⟩
    · intro k
      by_cases hk : k < len
      · have e : ((List.range len).map X).getD k default = X k := by simp [hk]
        rw [e]
        obtain ⟨_, _, _, _, h1, h2, _⟩ := hX k (by omega)
        exact ⟨h1, h2⟩
      · have e : ((List.range len).map X).getD k default = default := by simp [hk]
        rw [e]; exact hdef 0
    · intro k
      by_cases hk : k < len
      · have e : ((List.range len).map X).getD k default = X k := by simp [hk]
        rw [e]
        obtain ⟨_, _, _, _, _, _, h3⟩ := hX k (by omega)
        exact h3
      · have e : ((List.range len).map X).getD k default = default := by simp [hk]
        rw [e]; exact hdef2 0

theorem bytesAct : Tryd.prog.bytesOf 30 = 48 := by kernel_rfl

set_option maxRecDepth 100000 in
theorem stamps_contract (H : Type) (enc : TypeId × Value → H) (W : World) (base : Nat) (args : Array Value) (ds gs : List (DataW H)) (before : List MemPlace)
    (hval : ∀ (j : Nat) t v, Tryd.f3.params[j]? = some t → args[j]? = some v → Value.okWide Tryd.prog W .any base t v)
    (hW : DataW.Whole enc Tryd.prog Tryd.f3.params.toList Rows.diskStampsSpec.vars false W args.toList ds gs before)
    (hsz : (DataW.weightsEach Tryd.prog (Tryd.f3.params.toList ++ (OpenSpec.ofChange Rows.diskStampsSpec).bare.plain.varTypes Tryd.prog) (ds ++ gs)).all (· ≤ reachBytes) = true) (hsh : W.ShapedOpen Tryd.prog) :
    Calls Tryd.prog 3 args W fun e W' => ∃ v, e = .returned v ∧ Rows.diskStampsSpec.post enc Tryd.prog Tryd.f3 false true false false W args v W' := by
  have hW' := hW
  obtain ⟨p, q, hA0, hV, rfl, hfz, hnd⟩ := hW
  have hA : DataW.TrodAll enc Tryd.prog W 0 (fun _ => true) true Tryd.f3.params.toList args.toList ds p := hA0
  rw [Tryd.params3] at hA hval hsz
  obtain ⟨v0, vs0, d0, ds0, p0, q0, hargs, rfl, rfl, h0, r0⟩ := trodAll_cons hA
  obtain ⟨rfl, rfl, rfl⟩ := trodAll_nil r0
  obtain rfl : args = #[v0] := by cases args; simp_all
  obtain ⟨rfl, rfl⟩ := trodVars_none hV
  obtain ⟨A, l, c, rfl, hAt, hlen, hs, hb⟩ := open_acts (hval 0 _ v0 rfl rfl) h0
  obtain ⟨m, hm⟩ := maxLen_cell hsh
  have hn : l.length * 48 ≤ 140737488351232 := by
    rcases hlen with h | ⟨es, sp, rfl, h⟩
    · omega
    · have := sized_slice hsz (j := 0) (t := 22) (e := 30) rfl rfl Tryd.underlying22
      rw [bytesAct] at this
      simp only [reachBytes] at this
      omega
  refine (stamps_any A c l W m (by have := cell_lt hm; simp at this; omega) hm hAt hn hs hb).mono fun e W' ⟨he, hbl⟩ => ?_
  subst he
  refine ⟨_, rfl, post_true hW' rfl (fun _ => ⟨rfl, rfl, rfl⟩) rfl ?_ hbl⟩
  rw [Tryd.params3]
  intro t ht
  obtain rfl : t = 22 := by simpa using ht
  exact ⟨by kernel_rfl, of_decide_eq_true (by kernel_rfl)⟩

/-- A world for the witness: the settled one, the two tables holding what their initialisers lay. -/
noncomputable def laidWorld (os : Os) : World := layAt (layAt (World.holding Tryd.prog os ⟨#[], #[], []⟩) 2 Rows.laid_unicode_utf8_acceptRanges) 1 Rows.laid_unicode_utf8_first

namespace stamps
theorem laid_met (os : Os) : laidMet Tryd.prog Rows.diskStampsRow.laid ((laidWorld os).forCall (fun _ _ => 0) ⟨#[], #[.slice none 0 0], []⟩).memory :=
  laidMet_of_run' 8 (by kernel_rfl) (by kernel_rfl)
theorem reads (os : Os) {H : Type} (enc : TypeId × Value → H) : ∃ places, DataW.whole enc Tryd.prog ((laidWorld os).forCall (fun _ _ => 0) ⟨#[], #[.slice none 0 0], []⟩).memory Tryd.f3.params.toList Rows.diskStampsSpec.vars false #[Value.slice none 0 0].toList 8 = some ([.nil], [], places) :=
  ⟨[], by kernel_rfl⟩

set_option maxRecDepth 100000 in
theorem lifted (os : Os) (started : os.Started) (H : Type) (enc : TypeId × Value → H) (F : Stop.Interp) :
    ReturnsInHanded {} Tryd.checked os 3 .any ((OpenSpec.ofChange Rows.diskStampsSpec).preRow enc Tryd.prog Tryd.f3 Rows.diskStampsRow.domain false Rows.diskStampsRow.laid) (((OpenSpec.ofChange Rows.diskStampsSpec).at F).post enc Tryd.prog Tryd.f3 false true false false) := by
  obtain ⟨places, hx⟩ := reads os enc
  refine returnsInHanded_of_row (C := Tryd.checked) (s := OpenSpec.ofChange Rows.diskStampsSpec) own started (by kernel_rfl) Tryd.func3
    (witness_row_at (enc := enc) (C := Tryd.checked) false (laidWorld os) #[.slice none 0 0] rfl (by kernel_rfl) (by kernel_rfl) (by kernel_rfl)
      (OpenSpec.preRow_of_cond 8 hx (by kernel_rfl) (fun k hk => by cases hk) (by kernel_rfl) (laid_met os))) ?_
  intro W base args ds gs before hval hW _ _ hsz _ hsh _
  exact stamps_contract H enc W base args ds gs before hval hW hsz hsh

theorem said : Rows.DiskStampsSaid :=
  OpenClaim.holds_of_cond 3 Tryd.f3 rfl rfl rfl rfl rfl rfl rfl ⟨rfl, rfl, rfl, rfl, rfl⟩ rfl rfl rfl rfl rfl (by kernel_rfl) Tryd.func3 (by kernel_rfl)
    (of_decide_eq_true (by kernel_rfl)) (by unfold Func.isWrapper; first | (rw [if_pos (by decide +kernel)]; kernel_rfl) | (rw [if_neg (by decide +kernel)]; exact ⟨rfl, rfl⟩))
    (fun os started H enc _ F => by rw [OpenClaim.pre_eq_preRow]; exact lifted os started H enc F)

theorem plain (f : FuncId) (fn : Func) (hf : Tryd.pinned.checked.prog.funcNamed Rows.diskStampsRow.func = some f) (hfn : Tryd.pinned.checked.prog.funcs[f]? = some fn) :
    false = Tryd.pinned.checked.prog.looks [] ∧ ∀ (j : Nat) t, fn.params[j]? = some t → Tryd.pinned.checked.prog.wantsStandIn t = false := by
  obtain rfl : f = 3 := Option.some.inj ((show Tryd.prog.funcNamed Rows.diskStampsRow.func = some 3 by kernel_rfl).symm.trans hf) |>.symm
  obtain rfl : fn = Tryd.f3 := (Option.some.inj (Tryd.func3.symm.trans hfn)).symm
  refine ⟨by kernel_rfl, fun j t ht => ?_⟩
  rw [Tryd.params3] at ht
  obtain rfl : t = 22 := by simpa using Array.mem_of_getElem? ht
  exact (show Tryd.prog.wantsStandIn 22 = false by kernel_rfl)

theorem card : Rows.DiskStampsCardSaid :=
  Claim7.holds_tied_plain_at .later [] _ _ _ _ said (fun _ h => by cases h) (by kernel_rfl) (fun _ h => by cases h) diskStamps_row_tie rfl ⟨rfl, rfl⟩ (by kernel_rfl) rfl plain (by kernel_rfl)
end stamps
#print axioms stamps.card
end Go.Proofs.YtbiclpkoocjjfaaDoor
