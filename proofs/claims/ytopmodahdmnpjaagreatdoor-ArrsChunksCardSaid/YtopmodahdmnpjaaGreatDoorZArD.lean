/- Seat as: the closed call 'alive', run by the evaluator; arrs.functions: what the table of functions holds. -/
import Derived.Test.YtopmodahdmnpjaaGreatDoorZEnv
import Derived.Lib.SmallJoins
import Derived.Lib.Hide
import Derived.ProofKit
import Derived.Lib.LaidTab
import Derived.Handy
namespace Go.Proofs.YtopmodahdmnpjaaGreatDoor
open Go Go.Ev Go.RowKit
set_option maxRecDepth 1000000
/-- Nothing is asked of the world. -/
def LibA (_ : Int) (_ : World) : Prop := True
theorem LibA.below {m : Int} {w w' : World} (_ : LibA m w) (_ : Below w.heap.size w w') : LibA m w' := trivial
noncomputable def envB : Env := mkEnv ftr ttr ptr noPrm noMemo []
theorem envB_ok [Base] {m : Int} (_ : LibA m Base.w0) : EnvOK envB Tryz.prog := mkEnv_ok ftr_all ftr_names ttr_all ptr_all (mixed_of Tryz.checked) noPrm_ok noMemo_ok rfl
theorem alive_run : okRes (.bool true) (call envB 60000 8 [] ⟨0, .e⟩) = true := by kernel_rfl
theorem alive_any (m : Int) (w : World) (hL : LibA m w) : Calls Tryz.prog 8 #[] w fun e w' => e = .returned (.bool true) ∧ Below w.heap.size w w' := by
  letI : Base := ⟨w⟩
  have h := alive_run
  cases hc : call envB 60000 8 [] ⟨0, .e⟩ with
  | none => rw [hc] at h; cases h
  | some p =>
    obtain ⟨v, st⟩ := p
    rw [hc] at h
    obtain ⟨rfl, _⟩ := flatEq_sound (show flatEq (.bool true) v = true from h)
    refine (call_sound (envB_ok hL) hc #[] w (Below.refl _ _) .nil).mono ?_
    rintro e w' ⟨φ, x, rfl, hv, hb⟩
    cases hv
    exact ⟨rfl, hb⟩
/-- A call run by the evaluator, and what the heap holds behind it. -/
theorem call_rep [Base] {E : Env} {P : Program} (hE : EnvOK E P) {n : Nat} {f : FuncId} {args : List V} {next : Nat} {v : V} {st' : St} (h : call E n f args ⟨next, .e⟩ = some (v, st')) (xs : Array Value) (w : World) (hw : Below Base.w0.heap.size Base.w0 w) (ha : VRs (fun _ => none) args xs.toList) :
    Calls P f xs w fun e w' => ∃ φ x, e = .returned x ∧ VR φ v x ∧ Rep φ st' w' ∧ Below w.heap.size w w' := by
  intro cs0
  have hR : Rep (fun _ => none) ⟨next, .e⟩ w :=
    { low := ⟨hw, by intro _ _ _ e; cases e⟩
      dom := by intro _ _ e; cases e
      lt := by intro _ _ _ e; cases e
      inj := by intro _ _ _ _ _ e; cases e
      uniq := by intro _ _ _ _ _ e; cases e
      root := by intro _ _ _ _ e; cases e
      cells := by intro _ _ _ _ _ _ _ _ _ e; cases e
      maps := by intro _ _ _ _ _ e; cases e
      objs := by intro _ _ _ _ e; cases e }
  obtain ⟨φ', x, w', fr', h1, h2, h3, h4, h5, h6⟩ := enterK_sound (dfr := false) (frs := []) (cs0 := cs0) hE (run_sound hE n) h ha hR .nil
  exact ⟨.returned x, w', fr', ⟨φ', x, rfl, h4, h3, h2.below⟩, h1, h6, h5⟩

/-- The entry under a name. -/
noncomputable def entV (tk : List Nat) (must : Nat) (many : Bool) (fid : Nat) (caps : List V) : V := .agg [.str tk, .int .i64 (.ofNat must), .bool many, .fn (.func fid) [] caps]
noncomputable def lookOk (es : List (V × V × Nat)) (nm : List Nat) (v : V) : Bool := match findV envB .string (.str nm) es 0 with
  | some (some (_, u)) => sameV 20 u v
  | _ => false
noncomputable def fnRun : R := call envB 5000 11 [] ⟨0, .e⟩
noncomputable def esOk (es : List (V × V × Nat)) : Bool :=
  lookOk es [97, 114, 114, 97, 121, 95, 99, 104, 117, 110, 107] (entV [97, 105, 114] 2 false 40 []) && lookOk es [97, 114, 114, 97, 121, 95, 109, 101, 114, 103, 101] (entV [97] 1 true 24 []) && lookOk es [97, 114, 114, 97, 121, 95, 118, 97, 108, 117, 101, 115] (entV [97] 1 false 23 [])
noncomputable def shapeOk : R → Bool
  | some (.map 0, ⟨nx, blks⟩) => match blks.get 0 with
    | some (.map es _) => esOk es
    | _ => false
  | _ => false
theorem fn_ok : shapeOk fnRun = true := by kernel_rfl

/-- What the table holds under a name. -/
def Finds (es : Array MapEntry) (nm : List Nat) (v : Value) : Prop := ∃ i, Instr.findNow .string (.string (mkS nm)) es.toList 0 = some (some (i, v))
def entW (tk : List Nat) (must : Nat) (many : Bool) (fid : Nat) (caps : Array Value) : Value := .agg #[.string (mkS tk), .int .i64 must, .bool many, .func (.func fid) #[] caps]
/-- The table of functions lies in block b. -/
def FnAt (w : World) (b : Nat) : Prop := ∃ es clock, w.heap[b]? = some (.map es clock) ∧
  Finds es [97, 114, 114, 97, 121, 95, 99, 104, 117, 110, 107] (entW [97, 105, 114] 2 false 40 #[]) ∧ Finds es [97, 114, 114, 97, 121, 95, 109, 101, 114, 103, 101] (entW [97] 1 true 24 #[]) ∧ Finds es [97, 114, 114, 97, 121, 95, 118, 97, 108, 117, 101, 115] (entW [97] 1 false 23 #[])
theorem fn_inv {φ : Phi} {f : Fn} {a c : List V} {x : Value} (h : VR φ (.fn f a c) x) : ∃ a' c' : Array Value, x = .func f a' c' ∧ VRs φ a a'.toList ∧ VRs φ c c'.toList := by
  cases h with
  | fn _ _ _ a' c' h1 h2 h3 h4 => exact ⟨a', c', rfl, ⟨by simpa using h1, fun i v x p q => h2 i v x p (by simpa using q)⟩, ⟨by simpa using h3, fun i v x p q => h4 i v x p (by simpa using q)⟩⟩
theorem arr_nil {φ : Phi} {a : Array Value} (h : VRs φ [] a.toList) : a = #[] := by
  have := h.inv_nil
  cases a; simpa using this
theorem ent_sound {φ : Phi} {tk : List Nat} {must : Nat} {many : Bool} {fid : Nat} {caps : List V} {x : Value} (h : VR φ (entV tk must many fid caps) x) : ∃ ca : Array Value, x = entW tk must many fid ca ∧ VRs φ caps ca.toList := by
  obtain ⟨xs, rfl, hA⟩ := h.inv_agg
  clear h
  obtain ⟨x0, l0, e0, h0, h⟩ := hA.inv
  clear hA
  obtain ⟨x1, l1, rfl, h1, h⟩ := h.inv
  obtain ⟨x2, l2, rfl, h2, h⟩ := h.inv
  obtain ⟨x3, l3, rfl, h3, h⟩ := h.inv
  rw [h.inv_nil] at e0
  cases h0
  cases h1
  cases h2
  obtain ⟨a', c', rfl, q1, q2⟩ := fn_inv h3
  rw [arr_nil q1] at e0
  refine ⟨c', ?_, q2⟩
  unfold entW
  congr 1
  cases xs; simpa using e0
theorem look_of {es : List (V × V × Nat)} {nm : List Nat} {v : V} (h : lookOk es nm v = true) : ∃ i, findV envB .string (.str nm) es 0 = some (some (i, v)) := by
  unfold lookOk at h
  split at h
  · rename_i i u heq
    obtain ⟨rfl, _⟩ := sameV_sound 20 u v h
    exact ⟨i, heq⟩
  · cases h
theorem finds_of {φ : Phi} {es : List (V × V × Nat)} {es' : Array MapEntry} (he : EntriesOK φ es es') {nm : List Nat} (hn : ∀ c ∈ nm, c < 256) {i : Nat} {v : V} (h : findV envB .string (.str nm) es 0 = some (some (i, v))) : ∃ v', VR φ v v' ∧ Finds es' nm v' := by
  obtain ⟨o', h1, h2⟩ := findNow_sound (φ := φ) (E := envB) (d := .string) (k := .str nm) (x := .string (mkS nm)) (fun k' y b hy hb => sameNow_str (.str nm hn) hy hb) es es'.toList 0 _ (by simpa using he.1) (fun j kk v b e p q => he.2 j kk v b e p (by simpa using q)) h
  rcases h2 with ⟨h2, _⟩ | ⟨j, v1, v', e1, e2, hv, _⟩
  · cases h2
  · cases e1
    exact ⟨v', hv, ⟨0 + j, by rw [h1, e2]⟩⟩
theorem fn_any {m : Int} (w : World) (hL : LibA m w) : Calls Tryz.prog 11 #[] w fun e w' => ∃ b, e = .returned (.map (some b)) ∧ FnAt w' b ∧ Below w.heap.size w w' := by
  letI : Base := ⟨w⟩
  have h := fn_ok
  cases hc : fnRun with
  | none => rw [hc] at h; cases h
  | some p =>
    obtain ⟨v, nx, blks⟩ := p
    rw [hc] at h
    unfold shapeOk at h
    split at h
    · rename_i nx' blks' heq
      cases heq
      split at h
      · rename_i es clock hb
        refine (call_rep (envB_ok hL) hc #[] w (Below.refl _ _) .nil).mono ?_
        rintro e w' ⟨φ, x, rfl, hv, hR, hbl⟩
        cases hv with
        | map _ b κ hφ =>
        obtain ⟨es', hm, he⟩ := hR.maps 0 b κ es clock hφ hb
        simp only [esOk, Bool.and_eq_true] at h
        obtain ⟨⟨g1, g2⟩, g3⟩ := h
        refine ⟨b, rfl, ⟨es', clock, hm, ?_, ?_, ?_⟩, hbl⟩
        · obtain ⟨i, q⟩ := look_of g1
          obtain ⟨v', q1, q2⟩ := finds_of he (by decide) q
          obtain ⟨ca, rfl, q3⟩ := ent_sound q1
          rw [arr_nil q3] at q2
          exact q2
        · obtain ⟨i, q⟩ := look_of g2
          obtain ⟨v', q1, q2⟩ := finds_of he (by decide) q
          obtain ⟨ca, rfl, q3⟩ := ent_sound q1
          rw [arr_nil q3] at q2
          exact q2
        · obtain ⟨i, q⟩ := look_of g3
          obtain ⟨v', q1, q2⟩ := finds_of he (by decide) q
          obtain ⟨ca, rfl, q3⟩ := ent_sound q1
          rw [arr_nil q3] at q2
          exact q2
      · cases h
    · cases h
end Go.Proofs.YtopmodahdmnpjaaGreatDoor
