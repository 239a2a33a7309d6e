/- Seat 16: the closed call 'alive', run by the evaluator; arrs.functions: what the table of functions holds. -/
import Derived.Test.YtgnfmcjfoheccaaGreatDoorEnv
import Derived.Lib.SmallJoins
import Derived.Lib.Hide
import Derived.ProofKit
import Derived.Lib.LaidTab
import Derived.Handy
namespace Go.Proofs.YtgnfmcjfoheccaaGreatDoor
open Go Go.Ev Go.RowKit
set_option maxRecDepth 1000000
/-- Nothing is asked of the world. -/
def LibS (_ : Int) (_ : World) : Prop := True
theorem LibS.below {m : Int} {w w' : World} (_ : LibS m w) (_ : Below w.heap.size w w') : LibS m w' := trivial
noncomputable def envB : Env := mkEnv ftr ttr ptr noPrm noMemo []
theorem envB_ok [Base] {m : Int} (_ : LibS m Base.w0) : EnvOK envB Tryz.prog := mkEnv_ok ftr_all ftr_names ttr_all ptr_all (mixed_of Tryz.checked) noPrm_ok noMemo_ok rfl
theorem alive_run : okRes (.bool true) (call envB 60000 9 [] ⟨0, .e⟩) = true := by kernel_rfl
theorem alive_any (m : Int) (w : World) (hL : LibS m w) : Calls Tryz.prog 9 #[] w fun e w' => e = .returned (.bool true) ∧ Below w.heap.size w w' := by
  letI : Base := ⟨w⟩
  have h := alive_run
  cases hc : call envB 60000 9 [] ⟨0, .e⟩ with
  | none => rw [hc] at h; cases h
  | some p =>
    obtain ⟨v, st⟩ := p
    rw [hc] at h
    obtain ⟨rfl, _⟩ := flatEq_sound (show flatEq (.bool true) v = true from h)
    refine (call_sound (envB_ok hL) hc #[] w (Below.refl _ _) .nil).mono ?_
    rintro e w' ⟨φ, x, rfl, hv, hb⟩
    cases hv
    exact ⟨rfl, hb⟩
/-- A call run by the evaluator, and what the heap holds behind it. -/
theorem call_rep [Base] {E : Env} {P : Program} (hE : EnvOK E P) {n : Nat} {f : FuncId} {args : List V} {next : Nat} {v : V} {st' : St} (h : call E n f args ⟨next, .e⟩ = some (v, st')) (xs : Array Value) (w : World) (hw : Below Base.w0.heap.size Base.w0 w) (ha : VRs (fun _ => none) args xs.toList) :
    Calls P f xs w fun e w' => ∃ φ x, e = .returned x ∧ VR φ v x ∧ Rep φ st' w' ∧ Below w.heap.size w w' := by
  intro cs0
  have hR : Rep (fun _ => none) ⟨next, .e⟩ w :=
    { low := ⟨hw, by intro _ _ _ e; cases e⟩
      dom := by intro _ _ e; cases e
      lt := by intro _ _ _ e; cases e
      inj := by intro _ _ _ _ _ e; cases e
      uniq := by intro _ _ _ _ _ e; cases e
      root := by intro _ _ _ _ e; cases e
      cells := by intro _ _ _ _ _ _ _ _ _ e; cases e
      maps := by intro _ _ _ _ _ e; cases e
      objs := by intro _ _ _ _ e; cases e }
  obtain ⟨φ', x, w', fr', h1, h2, h3, h4, h5, h6⟩ := enterK_sound (dfr := false) (frs := []) (cs0 := cs0) hE (run_sound hE n) h ha hR .nil
  exact ⟨.returned x, w', fr', ⟨φ', x, rfl, h4, h3, h2.below⟩, h1, h6, h5⟩

noncomputable def goodEnt : V → Bool
  | .agg [.str _, .int .i64 (.ofNat (_ + 1)), .bool _, .fn _ _ _] => true
  | _ => false
noncomputable def lookGood (es : List (V × V × Nat)) (nm : List Nat) : Bool := match findV envB .string (.str nm) es 0 with
  | some (some (_, u)) => goodEnt u
  | _ => false
noncomputable def keysOk : List (List Nat) → List (V × V × Nat) → Bool
  | [], [] => true
  | nm :: l, (.str k, _, _) :: es => cond (strEq nm k) (keysOk l es) false
  | _, _ => false
/-- The functions' names, in the order in which they are laid. -/
def names : List (List Nat) := [[99, 111, 117, 110, 116], [97, 114, 114, 97, 121, 95, 107, 101, 121, 115], [97, 114, 114, 97, 121, 95, 118, 97, 108, 117, 101, 115], [97, 114, 114, 97, 121, 95, 109, 101, 114, 103, 101], [97, 114, 114, 97, 121, 95, 99, 111, 109, 98, 105, 110, 101], [97, 114, 114, 97, 121, 95, 102, 108, 105, 112], [97, 114, 114, 97, 121, 95, 114, 101, 118, 101, 114, 115, 101], [97, 114, 114, 97, 121, 95, 115, 108, 105, 99, 101], [97, 114, 114, 97, 121, 95, 107, 101, 121, 95, 101, 120, 105, 115, 116, 115], [105, 110, 95, 97, 114, 114, 97, 121], [97, 114, 114, 97, 121, 95, 115, 101, 97, 114, 99, 104], [97, 114, 114, 97, 121, 95, 115, 117, 109], [97, 114, 114, 97, 121, 95, 112, 114, 111, 100, 117, 99, 116], [97, 114, 114, 97, 121, 95, 117, 110, 105, 113, 117, 101], [97, 114, 114, 97, 121, 95, 102, 105, 108, 108], [97, 114, 114, 97, 121, 95, 102, 105, 108, 108, 95, 107, 101, 121, 115], [114, 97, 110, 103, 101], [97, 114, 114, 97, 121, 95, 99, 104, 117, 110, 107], [97, 114, 114, 97, 121, 95, 112, 97, 100], [97, 114, 114, 97, 121, 95, 100, 105, 102, 102], [97, 114, 114, 97, 121, 95, 105, 110, 116, 101, 114, 115, 101, 99, 116], [97, 114, 114, 97, 121, 95, 100, 105, 102, 102, 95, 107, 101, 121], [97, 114, 114, 97, 121, 95, 105, 110, 116, 101, 114, 115, 101, 99, 116, 95, 107, 101, 121], [97, 114, 114, 97, 121, 95, 99, 111, 108, 117, 109, 110], [97, 114, 114, 97, 121, 95, 99, 111, 117, 110, 116, 95, 118, 97, 108, 117, 101, 115], [97, 114, 114, 97, 121, 95, 107, 101, 121, 95, 102, 105, 114, 115, 116], [97, 114, 114, 97, 121, 95, 107, 101, 121, 95, 108, 97, 115, 116], [115, 111, 114, 116], [114, 115, 111, 114, 116], [97, 115, 111, 114, 116], [107, 115, 111, 114, 116], [103, 101, 116, 116, 121, 112, 101], [105, 115, 95, 110, 117, 108, 108], [105, 115, 95, 98, 111, 111, 108], [105, 115, 95, 105, 110, 116], [105, 115, 95, 115, 116, 114, 105, 110, 103], [105, 115, 95, 97, 114, 114, 97, 121], [105, 115, 95, 111, 98, 106, 101, 99, 116], [105, 115, 95, 110, 117, 109, 101, 114, 105, 99], [105, 110, 116, 118, 97, 108], [115, 116, 114, 118, 97, 108], [98, 111, 111, 108, 118, 97, 108], [118, 97, 114, 95, 101, 120, 112, 111, 114, 116], [106, 115, 111, 110, 95, 101, 110, 99, 111, 100, 101], [106, 115, 111, 110, 95, 100, 101, 99, 111, 100, 101], [104, 116, 116, 112, 95, 98, 117, 105, 108, 100, 95, 113, 117, 101, 114, 121], [112, 97, 114, 115, 101, 95, 115, 116, 114]]
noncomputable def fnRun : R := call envB 5000 14 [] ⟨0, .e⟩
noncomputable def shapeOk : R → Bool
  | some (.map 0, ⟨nx, blks⟩) => match blks.get 0 with
    | some (.map es _) => names.all (lookGood es) && keysOk names es
    | _ => false
  | _ => false
theorem fn_ok : shapeOk fnRun = true := by kernel_rfl

/-- What the table holds under a name. -/
def Finds (es : Array MapEntry) (nm : List Nat) (v : Value) : Prop := ∃ i, Instr.findNow .string (.string (mkS nm)) es.toList 0 = some (some (i, v))
/-- The table of functions lies in block b. -/
def FnAt (w : World) (b : Nat) : Prop := ∃ es clock, w.heap[b]? = some (.map es clock) ∧
  (∀ nm ∈ names, ∃ tk k many f fi ca, Finds es nm (.agg #[.string tk, .int .i64 ((k : Nat) + 1), .bool many, .func f fi ca]))

theorem names_256 : ∀ nm ∈ names, ∀ c ∈ nm, c < 256 := by decide
theorem fn_inv {φ : Phi} {f : Fn} {a c : List V} {x : Value} (h : VR φ (.fn f a c) x) : ∃ a' c' : Array Value, x = .func f a' c' ∧ VRs φ a a'.toList ∧ VRs φ c c'.toList := by
  cases h with
  | fn _ _ _ a' c' h1 h2 h3 h4 => exact ⟨a', c', rfl, ⟨by simpa using h1, fun i v x p q => h2 i v x p (by simpa using q)⟩, ⟨by simpa using h3, fun i v x p q => h4 i v x p (by simpa using q)⟩⟩
theorem arr_nil {φ : Phi} {a : Array Value} (h : VRs φ [] a.toList) : a = #[] := by
  have := h.inv_nil
  cases a; simpa using this
theorem good_of {es : List (V × V × Nat)} {nm : List Nat} (h : lookGood es nm = true) : ∃ i tk k many f fi ca, findV envB .string (.str nm) es 0 = some (some (i, .agg [.str tk, .int .i64 (.ofNat (k + 1)), .bool many, .fn f fi ca])) := by
  unfold lookGood at h
  split at h
  · rename_i i u heq
    unfold goodEnt at h
    split at h
    · exact ⟨i, _, _, _, _, _, _, heq⟩
    · cases h
  · cases h
theorem finds_of {φ : Phi} {es : List (V × V × Nat)} {es' : Array MapEntry} (he : EntriesOK φ es es') {nm : List Nat} (hn : ∀ c ∈ nm, c < 256) {i : Nat} {v : V} (h : findV envB .string (.str nm) es 0 = some (some (i, v))) : ∃ v', VR φ v v' ∧ Finds es' nm v' := by
  obtain ⟨o', h1, h2⟩ := findNow_sound (φ := φ) (E := envB) (d := .string) (k := .str nm) (x := .string (mkS nm)) (fun k' y b hy hb => sameNow_str (.str nm hn) hy hb) es es'.toList 0 _ (by simpa using he.1) (fun j kk v b e p q => he.2 j kk v b e p (by simpa using q)) h
  rcases h2 with ⟨h2, _⟩ | ⟨j, v1, v', e1, e2, hv, _⟩
  · cases h2
  · cases e1
    exact ⟨v', hv, ⟨0 + j, by rw [h1, e2]⟩⟩
theorem keys_of {φ : Phi} : ∀ (nms : List (List Nat)) (es : List (V × V × Nat)) (es' : List MapEntry), es'.length = es.length → (∀ (i : Nat) k v b e, es[i]? = some (k, v, b) → es'[i]? = some e → VR φ k e.key) → keysOk nms es = true → es'.map (·.key) = nms.map fun nm => .string (mkS nm) := by
  intro nms
  induction nms with
  | nil =>
    intro es es' hl _ h
    cases es with
    | nil => cases es' with
      | nil => rfl
      | cons e l => simp at hl
    | cons e l => cases h
  | cons nm nms ih =>
    intro es es' hl he h
    cases es with
    | nil => cases h
    | cons e es =>
      obtain ⟨k, v, b⟩ := e
      cases k <;> first | (cases h; done) | skip
      rename_i k
      obtain ⟨h1, h2⟩ := condT (show cond (strEq nm k) (keysOk nms es) false = true from h)
      obtain rfl := strEq_same h1
      cases es' with
      | nil => simp at hl
      | cons e' es' =>
        have hk := he 0 _ _ _ e' rfl rfl
        have := ih es es' (by simpa using hl) (fun i k v b e p q => he (i + 1) k v b e (by simpa using p) (by simpa using q)) h2
        rw [List.map_cons, List.map_cons, this]
        generalize e'.key = ke at hk
        cases hk
        rfl

theorem fn_any {m : Int} (w : World) (hL : LibS m w) : Calls Tryz.prog 14 #[] w fun e w' => ∃ b, e = .returned (.map (some b)) ∧ FnAt w' b ∧ Below w.heap.size w w' := by
  letI : Base := ⟨w⟩
  have h := fn_ok
  cases hc : fnRun with
  | none => rw [hc] at h; cases h
  | some p =>
    obtain ⟨v, nx, blks⟩ := p
    rw [hc] at h
    unfold shapeOk at h
    split at h
    · rename_i nx' blks' heq
      cases heq
      split at h
      · rename_i es clock hb
        simp only [Bool.and_eq_true] at h
        obtain ⟨g5, g6⟩ := h
        refine (call_rep (envB_ok hL) hc #[] w (Below.refl _ _) .nil).mono ?_
        rintro e w' ⟨φ, x, rfl, hv, hR, hbl⟩
        cases hv with
        | map _ b κ hφ =>
        obtain ⟨es', hm, he⟩ := hR.maps 0 b κ es clock hφ hb
        refine ⟨b, rfl, ⟨es', clock, hm, ?_⟩, hbl⟩
        intro nm hnm
        obtain ⟨i, tk, k, many, f, fi, ca, q⟩ := good_of (List.all_eq_true.1 g5 nm hnm)
        obtain ⟨v', q1, q2⟩ := finds_of he (names_256 nm hnm) q
        obtain ⟨xs, rfl, hA⟩ := q1.inv_agg
        clear q1
        obtain ⟨x0, l0, e0, h0, q1⟩ := hA.inv
        clear hA
        obtain ⟨x1, l1, rfl, h1, q1⟩ := q1.inv
        obtain ⟨x2, l2, rfl, h2, q1⟩ := q1.inv
        obtain ⟨x3, l3, rfl, h3, q1⟩ := q1.inv
        rw [q1.inv_nil] at e0
        cases h0
        cases h1
        cases h2
        obtain ⟨a', c', rfl, q1, q2⟩ := fn_inv h3
        obtain rfl : xs = #[.string (mkS tk), .int .i64 ((k : Nat) + 1), .bool many, .func f a' c'] := by cases xs; simpa using e0
        exact ⟨_, k, many, f, a', c', ‹Finds es' nm _›⟩
      · cases h
    · cases h
end Go.Proofs.YtgnfmcjfoheccaaGreatDoor
