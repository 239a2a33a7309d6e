/- strs.functions: what the table of functions holds. -/
import Derived.Test.YtjojfnhdegiebaaGreatDoorAliveS
namespace Go.Proofs.YtjojfnhdegiebaaGreatDoor
open Go Go.Ev Go.RowKit
set_option maxRecDepth 1000000

/-- A call run by the evaluator, and what the heap holds behind it. -/
theorem call_rep [Base] {E : Env} {P : Program} (hE : EnvOK E P) {n : Nat} {f : FuncId} {args : List V} {next : Nat} {v : V} {st' : St} (h : call E n f args ⟨next, .e⟩ = some (v, st')) (xs : Array Value) (w : World) (hw : Below Base.w0.heap.size Base.w0 w) (ha : VRs (fun _ => none) args xs.toList) :
    Calls P f xs w fun e w' => ∃ φ x, e = .returned x ∧ VR φ v x ∧ Rep φ st' w' ∧ Below w.heap.size w w' := by
  intro cs0
  have hR : Rep (fun _ => none) ⟨next, .e⟩ w :=
    { low := ⟨hw, by intro _ _ _ e; cases e⟩
      dom := by intro _ _ e; cases e
      lt := by intro _ _ _ e; cases e
      inj := by intro _ _ _ _ _ e; cases e
      uniq := by intro _ _ _ _ _ e; cases e
      root := by intro _ _ _ _ e; cases e
      cells := by intro _ _ _ _ _ _ _ _ _ e; cases e
      maps := by intro _ _ _ _ _ e; cases e
      objs := by intro _ _ _ _ e; cases e }
  obtain ⟨φ', x, w', fr', h1, h2, h3, h4, h5, h6⟩ := enterK_sound (dfr := false) (frs := []) (cs0 := cs0) hE (run_sound hE n) h ha hR .nil
  exact ⟨.returned x, w', fr', ⟨φ', x, rfl, h4, h3, h2.below⟩, h1, h6, h5⟩

/-- The entry under a name. -/
noncomputable def entV (tk : List Nat) (must : Nat) (many : Bool) (fid : Nat) (caps : List V) : V := .agg [.str tk, .int .i64 (.ofNat must), .bool many, .fn (.func fid) [] caps]
noncomputable def lookOk (es : List (V × V × Nat)) (nm : List Nat) (v : V) : Bool := match findV .string (.str nm) es 0 with
  | some (some (_, u)) => sameV 20 u v
  | _ => false
noncomputable def goodEnt : V → Bool
  | .agg [.str _, .int .i64 (.ofNat (_ + 1)), .bool _, .fn _ _ _] => true
  | _ => false
noncomputable def lookGood (es : List (V × V × Nat)) (nm : List Nat) : Bool := match findV .string (.str nm) es 0 with
  | some (some (_, u)) => goodEnt u
  | _ => false
noncomputable def keysOk : List (List Nat) → List (V × V × Nat) → Bool
  | [], [] => true
  | nm :: l, (.str k, _, _) :: es => cond (strEq nm k) (keysOk l es) false
  | _, _ => false
/-- The functions' names, in the order in which they are laid. -/
def names : List (List Nat) := [[115, 116, 114, 108, 101, 110], [115, 116, 114, 116, 111, 117, 112, 112, 101, 114], [115, 116, 114, 116, 111, 108, 111, 119, 101, 114], [117, 99, 102, 105, 114, 115, 116], [108, 99, 102, 105, 114, 115, 116], [117, 99, 119, 111, 114, 100, 115], [115, 116, 114, 114, 101, 118], [116, 114, 105, 109], [108, 116, 114, 105, 109], [114, 116, 114, 105, 109], [115, 117, 98, 115, 116, 114], [115, 116, 114, 112, 111, 115], [115, 116, 114, 114, 112, 111, 115], [115, 116, 114, 95, 99, 111, 110, 116, 97, 105, 110, 115], [115, 116, 114, 95, 115, 116, 97, 114, 116, 115, 95, 119, 105, 116, 104], [115, 116, 114, 95, 101, 110, 100, 115, 95, 119, 105, 116, 104], [115, 117, 98, 115, 116, 114, 95, 99, 111, 117, 110, 116], [115, 116, 114, 95, 114, 101, 112, 101, 97, 116], [115, 116, 114, 95, 112, 97, 100], [115, 116, 114, 95, 114, 101, 112, 108, 97, 99, 101], [115, 116, 114, 116, 114], [101, 120, 112, 108, 111, 100, 101], [105, 109, 112, 108, 111, 100, 101], [115, 116, 114, 95, 115, 112, 108, 105, 116], [115, 116, 114, 99, 109, 112], [111, 114, 100], [99, 104, 114], [98, 105, 110, 50, 104, 101, 120], [104, 101, 120, 50, 98, 105, 110], [110, 108, 50, 98, 114], [104, 116, 109, 108, 115, 112, 101, 99, 105, 97, 108, 99, 104, 97, 114, 115], [97, 100, 100, 115, 108, 97, 115, 104, 101, 115], [117, 114, 108, 101, 110, 99, 111, 100, 101], [117, 114, 108, 100, 101, 99, 111, 100, 101], [115, 112, 114, 105, 110, 116, 102], [105, 110, 116, 100, 105, 118], [97, 98, 115], [109, 97, 120], [109, 105, 110], [100, 101, 99, 104, 101, 120], [104, 101, 120, 100, 101, 99]]
noncomputable def fnRun : R := call envB 5000 14 [] ⟨0, .e⟩
noncomputable def cellOk (st : St) : Bool := match cellAt st 22 0 with
  | some v => sameV 20 v (.fn (.func 44) [] [])
  | none => false
/-- What is asked of the entries. -/
noncomputable def esOk (es : List (V × V × Nat)) : Bool :=
  lookOk es [115, 117, 98, 115, 116, 114] (entV [115, 105, 105] 2 false 40 []) && lookOk es [115, 116, 114, 112, 111, 115] (entV [115, 115, 105] 2 false 41 []) && lookOk es [115, 116, 114, 108, 101, 110] (entV [115] 1 false 21 []) && lookOk es [115, 116, 114, 95, 99, 111, 110, 116, 97, 105, 110, 115] (entV [115, 115] 2 false 92 [.ptr 22 0]) && names.all (lookGood es) && keysOk names es
noncomputable def shapeOk : R → Bool
  | some (.map 0, ⟨nx, blks⟩) => match blks.get 0 with
    | some (.map es _) => cond (esOk es) (cellOk ⟨nx, blks⟩) false
    | _ => false
  | _ => false
theorem fn_ok : shapeOk fnRun = true := by kernel_rfl

/-- What the table holds under a name. -/
def Finds (es : Array MapEntry) (nm : List Nat) (v : Value) : Prop := ∃ i, Instr.findNow .string (.string (mkS nm)) es.toList 0 = some (some (i, v))
def entW (tk : List Nat) (must : Nat) (many : Bool) (fid : Nat) (caps : Array Value) : Value := .agg #[.string (mkS tk), .int .i64 must, .bool many, .func (.func fid) #[] caps]
/-- The table of functions lies in block b. -/
def FnAt (w : World) (b : Nat) : Prop := ∃ es clock, w.heap[b]? = some (.map es clock) ∧
  Finds es [115, 117, 98, 115, 116, 114] (entW [115, 105, 105] 2 false 40 #[]) ∧ Finds es [115, 116, 114, 112, 111, 115] (entW [115, 115, 105] 2 false 41 #[]) ∧ Finds es [115, 116, 114, 108, 101, 110] (entW [115] 1 false 21 #[]) ∧
  (∃ g, Finds es [115, 116, 114, 95, 99, 111, 110, 116, 97, 105, 110, 115] (entW [115, 115] 2 false 92 #[.pointer (some ⟨g, 0, none⟩)]) ∧ w.cell? ⟨g, 0, none⟩ = some (.func (.func 44) #[] #[])) ∧
  (∀ nm ∈ names, ∃ tk k many f fi ca, Finds es nm (.agg #[.string tk, .int .i64 ((k : Nat) + 1), .bool many, .func f fi ca])) ∧
  es.toList.map (·.key) = names.map fun nm => .string (mkS nm)

theorem names_256 : ∀ nm ∈ names, ∀ c ∈ nm, c < 256 := by decide
theorem fn_inv {φ : Phi} {f : Fn} {a c : List V} {x : Value} (h : VR φ (.fn f a c) x) : ∃ a' c' : Array Value, x = .func f a' c' ∧ VRs φ a a'.toList ∧ VRs φ c c'.toList := by
  cases h with
  | fn _ _ _ a' c' h1 h2 h3 h4 => exact ⟨a', c', rfl, ⟨by simpa using h1, fun i v x p q => h2 i v x p (by simpa using q)⟩, ⟨by simpa using h3, fun i v x p q => h4 i v x p (by simpa using q)⟩⟩
theorem arr_nil {φ : Phi} {a : Array Value} (h : VRs φ [] a.toList) : a = #[] := by
  have := h.inv_nil
  cases a; simpa using this
theorem ent_sound {φ : Phi} {tk : List Nat} {must : Nat} {many : Bool} {fid : Nat} {caps : List V} {x : Value} (h : VR φ (entV tk must many fid caps) x) : ∃ ca : Array Value, x = entW tk must many fid ca ∧ VRs φ caps ca.toList := by
  obtain ⟨xs, rfl, hA⟩ := h.inv_agg
  clear h
  obtain ⟨x0, l0, e0, h0, h⟩ := hA.inv
  clear hA
  obtain ⟨x1, l1, rfl, h1, h⟩ := h.inv
  obtain ⟨x2, l2, rfl, h2, h⟩ := h.inv
  obtain ⟨x3, l3, rfl, h3, h⟩ := h.inv
  rw [h.inv_nil] at e0
  cases h0
  cases h1
  cases h2
  obtain ⟨a', c', rfl, q1, q2⟩ := fn_inv h3
  rw [arr_nil q1] at e0
  refine ⟨c', ?_, q2⟩
  unfold entW
  congr 1
  cases xs; simpa using e0
theorem look_of {es : List (V × V × Nat)} {nm : List Nat} {v : V} (h : lookOk es nm v = true) : ∃ i, findV .string (.str nm) es 0 = some (some (i, v)) := by
  unfold lookOk at h
  split at h
  · rename_i i u heq
    obtain ⟨rfl, _⟩ := sameV_sound 20 u v h
    exact ⟨i, heq⟩
  · cases h
theorem good_of {es : List (V × V × Nat)} {nm : List Nat} (h : lookGood es nm = true) : ∃ i tk k many f fi ca, findV .string (.str nm) es 0 = some (some (i, .agg [.str tk, .int .i64 (.ofNat (k + 1)), .bool many, .fn f fi ca])) := by
  unfold lookGood at h
  split at h
  · rename_i i u heq
    unfold goodEnt at h
    split at h
    · exact ⟨i, _, _, _, _, _, _, heq⟩
    · cases h
  · cases h
theorem finds_of {φ : Phi} {es : List (V × V × Nat)} {es' : Array MapEntry} (he : EntriesOK φ es es') {nm : List Nat} (hn : ∀ c ∈ nm, c < 256) {i : Nat} {v : V} (h : findV .string (.str nm) es 0 = some (some (i, v))) : ∃ v', VR φ v v' ∧ Finds es' nm v' := by
  obtain ⟨o', h1, h2⟩ := findV_sound (φ := φ) (d := .string) rfl (.str nm hn) es es'.toList 0 _ (by simpa using he.1) (fun j kk v b e p q => he.2 j kk v b e p (by simpa using q)) h
  rcases h2 with ⟨h2, _⟩ | ⟨j, v1, v', e1, e2, hv, _⟩
  · cases h2
  · cases e1
    exact ⟨v', hv, ⟨0 + j, by rw [h1, e2]⟩⟩
theorem keys_of {φ : Phi} : ∀ (nms : List (List Nat)) (es : List (V × V × Nat)) (es' : List MapEntry), es'.length = es.length → (∀ (i : Nat) k v b e, es[i]? = some (k, v, b) → es'[i]? = some e → VR φ k e.key) → keysOk nms es = true → es'.map (·.key) = nms.map fun nm => .string (mkS nm) := by
  intro nms
  induction nms with
  | nil =>
    intro es es' hl _ h
    cases es with
    | nil => cases es' with
      | nil => rfl
      | cons e l => simp at hl
    | cons e l => cases h
  | cons nm nms ih =>
    intro es es' hl he h
    cases es with
    | nil => cases h
    | cons e es =>
      obtain ⟨k, v, b⟩ := e
      cases k <;> first | (cases h; done) | skip
      rename_i k
      obtain ⟨h1, h2⟩ := condT (show cond (strEq nm k) (keysOk nms es) false = true from h)
      obtain rfl := strEq_same h1
      cases es' with
      | nil => simp at hl
      | cons e' es' =>
        have hk := he 0 _ _ _ e' rfl rfl
        have := ih es es' (by simpa using hl) (fun i k v b e p q => he (i + 1) k v b e (by simpa using p) (by simpa using q)) h2
        rw [List.map_cons, List.map_cons, this]
        generalize e'.key = ke at hk
        cases hk
        rfl

theorem fn_any {m : Int} (w : World) (hL : LibS m w) : Calls Tryz.prog 14 #[] w fun e w' => ∃ b, e = .returned (.map (some b)) ∧ FnAt w' b ∧ Below w.heap.size w w' := by
  letI : Base := ⟨w⟩
  have h := fn_ok
  cases hc : fnRun with
  | none => rw [hc] at h; cases h
  | some p =>
    obtain ⟨v, nx, blks⟩ := p
    rw [hc] at h
    unfold shapeOk at h
    split at h
    · rename_i nx' blks' heq
      cases heq
      split at h
      · rename_i es clock hb
        obtain ⟨h1, h2⟩ := condT h
        refine (call_rep (envB_ok hL) hc #[] w (Below.refl _ _) .nil).mono ?_
        rintro e w' ⟨φ, x, rfl, hv, hR, hbl⟩
        cases hv with
        | map _ b κ hφ =>
        obtain ⟨es', hm, he⟩ := hR.maps 0 b κ es clock hφ hb
        simp only [esOk, Bool.and_eq_true] at h1
        obtain ⟨⟨⟨⟨⟨g1, g2⟩, g3⟩, g4⟩, g5⟩, g6⟩ := h1
        refine ⟨b, rfl, ⟨es', clock, hm, ?_, ?_, ?_, ?_, ?_, ?_⟩, hbl⟩
        · obtain ⟨i, q⟩ := look_of g1
          obtain ⟨v', q1, q2⟩ := finds_of he (by decide) q
          obtain ⟨ca, rfl, q3⟩ := ent_sound q1
          rw [arr_nil q3] at q2
          exact q2
        · obtain ⟨i, q⟩ := look_of g2
          obtain ⟨v', q1, q2⟩ := finds_of he (by decide) q
          obtain ⟨ca, rfl, q3⟩ := ent_sound q1
          rw [arr_nil q3] at q2
          exact q2
        · obtain ⟨i, q⟩ := look_of g3
          obtain ⟨v', q1, q2⟩ := finds_of he (by decide) q
          obtain ⟨ca, rfl, q3⟩ := ent_sound q1
          rw [arr_nil q3] at q2
          exact q2
        · obtain ⟨i, q⟩ := look_of g4
          obtain ⟨v', q1, q2⟩ := finds_of he (by decide) q
          obtain ⟨ca, rfl, q3⟩ := ent_sound q1
          obtain ⟨x, xs, e1, hx, hxs⟩ := q3.inv
          rw [hxs.inv_nil] at e1
          cases hx with
          | ptr _ _ g κg hg =>
          obtain rfl : ca = #[.pointer (some ⟨g, 0, none⟩)] := by cases ca; simpa using e1
          refine ⟨g, q2, ?_⟩
          unfold cellOk at h2
          split at h2
          · rename_i u hu
            obtain ⟨rfl, _⟩ := sameV_sound 20 _ _ h2
            obtain ⟨y, y1, y2⟩ := cellAt_sound hR hg hu
            obtain ⟨a', c', rfl, z1, z2⟩ := fn_inv y2
            rw [arr_nil z1, arr_nil z2] at y1
            exact y1
          · cases h2
        · intro nm hnm
          obtain ⟨i, tk, k, many, f, fi, ca, q⟩ := good_of (List.all_eq_true.1 g5 nm hnm)
          obtain ⟨v', q1, q2⟩ := finds_of he (names_256 nm hnm) q
          obtain ⟨xs, rfl, hA⟩ := q1.inv_agg
          clear q1
          obtain ⟨x0, l0, e0, h0, q1⟩ := hA.inv
          clear hA
          obtain ⟨x1, l1, rfl, h1, q1⟩ := q1.inv
          obtain ⟨x2, l2, rfl, h2, q1⟩ := q1.inv
          obtain ⟨x3, l3, rfl, h3, q1⟩ := q1.inv
          rw [q1.inv_nil] at e0
          cases h0
          cases h1
          cases h2
          obtain ⟨a', c', rfl, q1, q2⟩ := fn_inv h3
          obtain rfl : xs = #[.string (mkS tk), .int .i64 ((k : Nat) + 1), .bool many, .func f a' c'] := by cases xs; simpa using e0
          exact ⟨_, k, many, f, a', c', ‹Finds es' nm _›⟩
        · exact keys_of names es es'.toList (by simpa using he.1) (fun i k v b e p q => (he.2 i k v b e p (by simpa using q)).1) g6
      · cases h
    · cases h
end Go.Proofs.YtjojfnhdegiebaaGreatDoor
