/- The world that shows that the rows of this seat may be asked. -/
import Derived.Test.YtgpemnmopogppaaGreatDoorZRow
import Derived.Test.YtgpemnmopogppaaGreatDoorZWordsQ
import Derived.Deep.DeepWitnessRowRef
import Derived.Lib.LaidIn
import Derived.Lib.LaidU8
import Derived.PinnedBridge
import Derived.Lib.LaidTab
import Derived.Stop.LaidErr
import Derived.Test.YtgpemnmopogppaaGreatDoorZRhAQ
import Derived.Lib.SmallJoins
namespace Go.Proofs.YtgpemnmopogppaaGreatDoor
open Go.ChangeShapes Go.WideShapes Go.ChangeAt Go.RowKit Go.Deep Go.Lib

noncomputable def putAt (w : World) (g : Nat) (cs : Array Value) : World :=
  { w with heap := w.heap.modify g fun | .cells _ t fr => .cells cs t fr | o => o }
noncomputable abbrev N0 : Nat := (World.settled Tryz.prog default).heap.size
/-- A world for the witness: the settled one, two blocks more, the variables holding what their initialisers lay. -/
noncomputable def laidWorld (os : Os) : World :=
  let N := (World.settled Tryz.prog os).heap.size
  let w0 := World.holding Tryz.prog os ⟨#[.cells #[.string ⟨#[118, 97, 108, 117, 101, 32, 111, 117, 116, 32, 111, 102, 32, 114, 97, 110, 103, 101]⟩] 272, .cells #[.string ⟨#[105, 110, 118, 97, 108, 105, 100, 32, 115, 121, 110, 116, 97, 120]⟩] 272], #[], []⟩
  let w1 := layAt (layAt w0 2 Rows.laid_unicode_utf8_acceptRanges) 1 Rows.laid_unicode_utf8_first
  let w2 := layAt (layAt (layAt w1 6 Rows.laid_math_bits_deBruijn32tab) 7 Rows.laid_math_bits_deBruijn64tab) 3 Rows.laid_internal_strconv_uint64pow10
  let w5 := putAt w2 5 #[.iface 270 (.pointer (some ⟨N, 0, none⟩))]
  putAt w5 4 #[.iface 270 (.pointer (some ⟨N + 1, 0, none⟩))]

theorem piece0 (os : Os) (args : Array Value) : LaidIn Tryz.prog ((laidWorld os).forCall (fun _ _ => 0) ⟨#[], args, []⟩).memory [("math/bits.deBruijn32tab", Rows.laid_math_bits_deBruijn32tab), ("math/bits.deBruijn64tab", Rows.laid_math_bits_deBruijn64tab), ("internal/strconv.uint64pow10", Rows.laid_internal_strconv_uint64pow10), ("unicode/utf8.acceptRanges", Rows.laid_unicode_utf8_acceptRanges), ("strconv.ErrRange", Rows.laid_strconv_ErrRange), ("strconv.ErrSyntax", Rows.laid_strconv_ErrSyntax)] [6, 7, 3, 2, 5, N0, 4, N0 + 1] :=
  LaidIn.of_run [6, 7, 3, 2, 5, N0, 4, N0 + 1] 8 (by kernel_rfl) (by kernel_rfl) (by kernel_rfl) (by kernel_rfl)
theorem piece2 (os : Os) (args : Array Value) : LaidIn Tryz.prog ((laidWorld os).forCall (fun _ _ => 0) ⟨#[], args, []⟩).memory [("unicode/utf8.first", Rows.laid_unicode_utf8_first)] [1] :=
  LaidIn.of_run [1] 8 (by kernel_rfl) (by kernel_rfl) (by kernel_rfl) (by kernel_rfl)
theorem laid_met (os : Os) (args : Array Value) : laidMet Tryz.prog Rows.urlOrderRow.laid ((laidWorld os).forCall (fun _ _ => 0) ⟨#[], args, []⟩).memory :=
  ((piece0 os args).append (piece2 os args) (by kernel_rfl)).met
theorem met_tail {P : Program} {x : String × DataW Unit} {r : List (String × DataW Unit)} {w : World} (h : laidMet P (x :: r) w) : laidMet P r w := by
  obtain ⟨ps, ⟨g, t, cs, fuel, p, q, _, _, _, _, hr, rfl⟩, hnd, hfit⟩ := h
  exact ⟨q, hr, (List.nodup_append.1 hnd).2.1, fun b off hp => hfit b off (List.mem_append_right _ hp)⟩
theorem star : "*" ++ "errors.errorString" = "*errors.errorString" := by decide
theorem error_row (u : TypeId) (h : Tryz.prog.typeName? 3 u = some "*errors.errorString") : u = 270 :=
  typeName_ptr_named (nm := "errors.errorString") (by rw [star]; kernel_rfl) (by kernel_rfl) (by decide) u (by rw [star]; exact h)
theorem pow_data : (Rows.laid_internal_strconv_uint64pow10 : DataW Unit) = tabData .u64 pow10Tab := by kernel_rfl
theorem lib_of_laid {W : World} (h : laidMetH Tryz.prog Rows.urlOrderRow.laid W) : LibS W := by
  have h0 : laidMet Tryz.prog Rows.urlOrderRow.laid W := h
  have h5 := met_tail (met_tail (met_tail (met_tail (met_tail h0))))
  obtain ⟨a0, s0, hv0, -, -, -⟩ := laid_sentinel (g := 4) h5 (by kernel_rfl) (ti := 75) (by kernel_rfl) Tryz.underlying75 error_row Tryz.underlying270 Tryz.underlying272 rfl rfl Tryz.underlying9 (by kernel_rfl) (by kernel_rfl)
  have h4 := met_tail (met_tail (met_tail (met_tail h0)))
  obtain ⟨a1, s1, hv1, -, -, -⟩ := laid_sentinel (g := 5) h4 (by kernel_rfl) (ti := 75) (by kernel_rfl) Tryz.underlying75 error_row Tryz.underlying270 Tryz.underlying272 rfl rfl Tryz.underlying9 (by kernel_rfl) (by kernel_rfl)
  have h2 : laidMet Tryz.prog (("internal/strconv.uint64pow10", Rows.laid_internal_strconv_uint64pow10) :: _) W := met_tail (met_tail h0)
  rw [pow_data] at h2
  have hp := tabIs_of_head (g := 3) (by kernel_rfl) (by kernel_rfl) (t := 235) (e := 204) (n := 20) (by kernel_rfl) (by kernel_rfl) (by kernel_rfl) (by kernel_rfl) h2
  exact ⟨⟨_, _, hv0⟩, ⟨_, _, hv1⟩, hp⟩
end Go.Proofs.YtgpemnmopogppaaGreatDoor
/- A request as an argument of small bulk, opened: its bounds. -/
namespace Go.Proofs.YtgpemnmopogppaaGreatDoor
open Go Go.Joins Go.ChangeShapes Go.WideShapes Go.ChangeAt Go.RowKit Go.Deep
namespace Rl
section
variable {H : Type} {enc : TypeId × Value → H} {P : Program} {w : World} {base : Nat} {spare : Nat → Bool} {held : Bool}
theorem open_agg5 {r : Reach} {b0 : Nat} {t : TypeId} {f0 f1 f2 f3 f4 : Field} {v : Value} {d : DataW H} {p : List MemPlace} (hs : P.underlying t = some (.struct #[f0, f1, f2, f3, f4])) (hone : oneCellFields P #[f0, f1, f2, f3, f4] = true) (hC : P.cellsOf t = 5)
    (hv : Value.okWide P w r b0 t v) (h : DataW.Trod enc P w base spare held t v d p) :
    ∃ (v0 v1 v2 v3 v4 : Value) (y0 y1 y2 y3 y4 : DataW H × List MemPlace) (n : Nat), v = .agg #[v0, v1, v2, v3, v4] ∧ d = .agg [y0.1, y1.1, y2.1, y3.1, y4.1] ∧ p = y0.2 ++ (y1.2 ++ (y2.2 ++ (y3.2 ++ y4.2))) ∧
      DataW.trod enc P w base spare held n f0.type [v0] = some y0 ∧ DataW.trod enc P w base spare held n f1.type [v1] = some y1 ∧ DataW.trod enc P w base spare held n f2.type [v2] = some y2 ∧ DataW.trod enc P w base spare held n f3.type [v3] = some y3 ∧ DataW.trod enc P w base spare held n f4.type [v4] = some y4 := by
  obtain ⟨cs, rfl, hsz⟩ := okWide_struct hs hv
  obtain ⟨l⟩ := cs
  match l, hsz.trans hC with
  | [c0, c1, c2, c3, c4], _ =>
    obtain ⟨fuel, hf⟩ := h
    obtain ⟨xs, n, _, hx, _, hlen, hg⟩ := DataW.trod_struct hs hf
    obtain ⟨o0, k0⟩ := hone_of hone 0 f0 rfl
    obtain ⟨o1, k1⟩ := hone_of hone 1 f1 rfl
    obtain ⟨o2, k2⟩ := hone_of hone 2 f2 rfl
    obtain ⟨o3, k3⟩ := hone_of hone 3 f3 rfl
    obtain ⟨o4, k4⟩ := hone_of hone 4 f4 rfl
    match xs, hlen with
    | [y0, y1, y2, y3, y4], _ =>
      simp only [Prod.mk.injEq] at hx
      exact ⟨c0, c1, c2, c3, c4, y0, y1, y2, y3, y4, n, rfl, by simpa using hx.1, by simpa using hx.2, by simpa [Value.cells, o0, k0] using hg 0 f0 rfl, by simpa [Value.cells, o1, k1] using hg 1 f1 rfl, by simpa [Value.cells, o2, k2] using hg 2 f2 rfl, by simpa [Value.cells, o3, k3] using hg 3 f3 rfl, by simpa [Value.cells, o4, k4] using hg 4 f4 rfl⟩
end
theorem cells_s : Tryz.prog.cellsOf 9 = 1 := by kernel_rfl
theorem cells_pair : Tryz.prog.cellsOf 48 = 2 := by kernel_rfl
theorem cell_flat {W : World} {a : Addr} {p m : Nat} {v : Value} (h : W.cell? ((a.add p).add m) = some v) : W.cell? ⟨a.block, a.off + p + m, none⟩ = some v := by
  have hs := World.cell?_spot h
  have e : (a.add p).add m = ⟨a.block, a.off + p + m, none⟩ := by
    obtain ⟨ab, ao, sp⟩ := a
    unfold Addr.add at hs ⊢
    split at hs <;> split at hs <;> split <;> simp_all
  rw [← e]
  exact h
/-- A pair as data. -/
def pd {H : Type} (u : ByteArray × ByteArray) : DataW H := .agg [.lit (.string u.1.data.toList), .lit (.string u.2.data.toList)]
theorem bulk_pairs {H : Type} : ∀ l : List (ByteArray × ByteArray), (∀ k, (l.getD k default).1.size ≤ Rows.uptoBulkAll (l.map (pd (H := H))) ∧ (l.getD k default).2.size ≤ Rows.uptoBulkAll (l.map (pd (H := H)))) ∧ l.length ≤ Rows.uptoBulkAll (l.map (pd (H := H)))
  | [] => ⟨fun k => ⟨Nat.le_of_eq (by rfl), Nat.le_of_eq (by rfl)⟩, by simp [Rows.uptoBulkAll]⟩
  | u :: l => by
    obtain ⟨h1, h2⟩ := bulk_pairs (H := H) l
    have z1 := Lib.size_eq u.1
    have z2 := Lib.size_eq u.2
    have e : Rows.uptoBulkAll ((u :: l).map (pd (H := H))) = Rows.uptoBulk (pd (H := H) u) + Rows.uptoBulkAll (l.map (pd (H := H))) := by rw [List.map_cons]; rfl
    have e2 : u.1.size + u.2.size + 1 ≤ Rows.uptoBulk (pd (H := H) u) := by
      simp only [pd, Rows.uptoBulk, Rows.uptoBulkAll]
      omega
    rw [e]
    refine ⟨fun k => ?_, by rw [List.length_cons]; omega⟩
    cases k with
    | zero => exact ⟨by show u.1.size ≤ _; omega, by show u.2.size ≤ _; omega⟩
    | succ k =>
      have := h1 k
      exact ⟨by show (l.getD k default).1.size ≤ _; omega, by show (l.getD k default).2.size ≤ _; omega⟩
section
variable {H : Type} {enc : TypeId × Value → H} {W : World}
set_option maxRecDepth 100000 in
theorem open_pairs_u {n : Nat} {v : Value} {y : DataW H × List MemPlace} (hf : DataW.trod enc Tryz.prog W 0 (fun _ => true) true n 41 [v] = some y) :
    ∃ (A : Option Addr) (l : List (ByteArray × ByteArray)) (c : Nat), v = .slice A l.length c ∧ PairsAt W W.heap.size A l ∧ (∀ k, (l.getD k default).1.size ≤ Rows.uptoBulk y.1 ∧ (l.getD k default).2.size ≤ Rows.uptoBulk y.1) ∧ l.length ≤ Rows.uptoBulk y.1 := by
  rcases DataW.trod_slice Tryz.underlying41 hf with ⟨e3, rfl⟩ | ⟨a, len, cap, elems, rest, n1, rfl, e3, rfl, -, hl, hm, hel, hi, -, -⟩
  · simp at e3
    subst e3
    exact ⟨none, [], 0, rfl, fun h => absurd h (by decide), fun k => ⟨Nat.le_trans (Nat.le_of_eq (by rfl)) (Nat.zero_le _), Nat.le_trans (Nat.le_of_eq (by rfl)) (Nat.zero_le _)⟩, by simp⟩
  · simp at e3
    subst e3
    have hex : ∀ i, i < len → ∃ u : ByteArray × ByteArray, W.cell? ⟨a.block, a.off + i * 2, none⟩ = some (.string u.1) ∧ W.cell? ⟨a.block, a.off + i * 2 + 1, none⟩ = some (.string u.2) ∧ (i = 0 → a.spot = none) ∧ (elems[i]?).map (·.1) = some (pd u) := by
      intro i hil
      have h1 := hi i hil
      rw [List.getElem?_eq_getElem (by omega), Option.bind_eq_some_iff] at h1
      obtain ⟨cs', hc, ht⟩ := h1
      rw [cells_pair] at hc
      obtain ⟨-, hcl, hat⟩ := World.cells?_some hc
      obtain ⟨d0, d1, rfl⟩ : ∃ d0 d1, cs' = [d0, d1] := by
        match cs', hcl with
        | [d0, d1], _ => exact ⟨_, _, rfl⟩
      obtain ⟨zs, n2, rfl, hz, -, hzl, hg⟩ := DataW.trod_struct Tryz.underlying48 ht
      have hzl2 : zs.length = 2 := hzl
      obtain ⟨z0, z1, rfl⟩ : ∃ z0 z1, zs = [z0, z1] := by
        match zs, hzl2 with
        | [z0, z1], _ => exact ⟨_, _, rfl⟩
      have u0 : DataW.trod enc Tryz.prog W 0 (fun _ => true) true n2 9 (([d0, d1].drop 0).take (Tryz.prog.cellsOf 9)) = some z0 := hg 0 _ rfl
      have u1 : DataW.trod enc Tryz.prog W 0 (fun _ => true) true n2 9 (([d0, d1].drop 1).take (Tryz.prog.cellsOf 9)) = some z1 := hg 1 _ rfl
      rw [cells_s] at u0 u1
      obtain ⟨s0, e0, rfl, -⟩ := DataW.trod_string Tryz.underlying9 u0
      obtain ⟨s1, e1, rfl, -⟩ := DataW.trod_string Tryz.underlying9 u1
      simp at e0 e1
      subst e0 e1
      have hsp : i = 0 → a.spot = none := by
        intro h0
        subst h0
        have h9 := World.cell?_spot ((hat 0 (by omega)).trans rfl)
        simpa [Addr.add] using h9
      have c0 := hat 0 (by omega)
      have c1 := hat 1 (by omega)
      refine ⟨(s0, s1), cell_flat (m := 0) (by simpa using c0), cell_flat (m := 1) (by simpa using c1), hsp, ?_⟩
      rw [List.getElem?_eq_getElem (by omega)]
      show some _ = _
      rw [hz]
      rfl
    obtain ⟨X, hX⟩ := choose_lt hex
    have hmap : elems.map (·.1) = ((List.range len).map X).map (pd (H := H)) := by
      apply List.ext_getElem?
      intro i
      by_cases hil : i < len
      · have := (hX i hil).2.2.2
        rw [List.getElem?_map]
        rw [this]
        simp [hil]
      · rw [List.getElem?_eq_none (by simp; omega), List.getElem?_eq_none (by simp; omega)]
    obtain ⟨b1, b2⟩ := bulk_pairs (H := H) ((List.range len).map X)
    rw [← hmap] at b1 b2
    refine ⟨some a, (List.range len).map X, cap, by simp, ?_, ?_, ?_⟩
    · intro hpos
      have hlen : 0 < len := by simpa using hpos
      obtain ⟨ab, ao, spot⟩ := a
      have hspot : spot = none := (hX 0 hlen).2.2.1 rfl
      subst hspot
      refine ⟨ab, ao, rfl, by have := cell_lt (hX 0 hlen).1; simpa using this, fun k hk => ?_⟩
      have hk' : k < len := by simpa using hk
      have e : ((List.range len).map X).getD k default = X k := by simp [hk']
      rw [e]
      exact ⟨(hX k hk').1, (hX k hk').2.1⟩
    · intro k
      have := b1 k
      simp only [Rows.uptoBulk]
      omega
    · simp only [Rows.uptoBulk]; omega
set_option maxRecDepth 100000 in
/-- A request of small bulk, opened. -/
theorem open_req_u {base : Nat} {v : Value} {d : DataW H} {p : List MemPlace} (hv : Value.okWide Tryz.prog W .any base 43 v)
    (h : DataW.Trod enc Tryz.prog W 0 (fun _ => true) true 43 v d p) (hu : Rows.uptoBulk d ≤ 1048576) :
    ∃ (m q y b : ByteArray) (A : Option Addr) (l : List (ByteArray × ByteArray)) (c : Nat), v = .agg #[.string m, .string q, .string y, .slice A l.length c, .string b] ∧ PairsAt W W.heap.size A l ∧ l.length ≤ 1048576 ∧ (∀ k, (l.getD k default).1.size ≤ 1048576 ∧ (l.getD k default).2.size ≤ 1048576) ∧ m.size ≤ 1048576 ∧ q.size ≤ 1048576 ∧ y.size ≤ 1048576 ∧ b.size ≤ 1048576 := by
  obtain ⟨v0, v1, v2, v3, v4, y0, y1, y2, y3, y4, n, rfl, rfl, _, t0, t1, t2, t3, t4⟩ := open_agg5 Tryz.underlying43 (by kernel_rfl) (by kernel_rfl) hv h
  obtain ⟨s0, e0, rfl, _⟩ := DataW.trod_string Tryz.underlying9 t0
  obtain ⟨s1, e1, rfl, _⟩ := DataW.trod_string Tryz.underlying9 t1
  obtain ⟨s2, e2, rfl, _⟩ := DataW.trod_string Tryz.underlying9 t2
  obtain ⟨A, l, c, rfl, hA, hl, hn⟩ := open_pairs_u t3
  obtain ⟨s4, e4, rfl, _⟩ := DataW.trod_string Tryz.underlying9 t4
  simp only [List.cons.injEq, and_true] at e0 e1 e2 e4
  subst e0 e1 e2 e4
  have z0 := Lib.size_eq s0
  have z1 := Lib.size_eq s1
  have z2 := Lib.size_eq s2
  have z4 := Lib.size_eq s4
  simp only [Rows.uptoBulk, Rows.uptoBulkAll] at hu
  exact ⟨s0, s1, s2, s4, A, l, c, rfl, hA, by omega, fun k => by have := hl k; omega, by omega, by omega, by omega, by omega⟩
end
end Rl
end Go.Proofs.YtgpemnmopogppaaGreatDoor
