/- The evaluator of closed calls: a seat's tables, known values, library functions. -/
import Derived.Test.YtopmodahdmnpjaaGreatDoorZEv5
import Derived.Eval
import Derived.Lib.Bytealg
import Derived.Laws.Externs
import Derived.Lib.Case
import Derived.Lib.IndexMore
import Derived.Lib.Builder
import Derived.Laws.LoneSync
import Derived.Lib.MakeNoZero
import Derived.Lib.Join
namespace Go.Ev
open Go.RowKit

/-- Each entry of a table, at its number, is so. -/
def TrAll {α : Type} (p : Nat → α → Prop) : Tr α → Nat → Nat → Prop
  | .e, _, _ => True
  | .n v l r, b, s => (match v with | some a => p b a | none => True) ∧ TrAll p l (b + s) (s + s) ∧ TrAll p r (b + s + s) (s + s)

theorem TrAll.getF {α : Type} {p : Nat → α → Prop} : ∀ (f : Nat) (t : Tr α) (i b s : Nat), i < f → TrAll p t b s → ∀ a, Tr.getP (pathF f i) t = some a → p (b + s * i) a := by
  intro f
  induction f with
  | zero => intro t i b s h; omega
  | succ f ih =>
    intro t i b s hi ht a h
    cases t with
    | e => rw [Tr.getP_e] at h; cases h
    | n v l r =>
      obtain ⟨h1, h2, h3⟩ := ht
      cases i with
      | zero =>
        obtain rfl : v = some a := h
        exact h1
      | succ k =>
        cases hb : Nat.beq (Nat.mod k 2) 0 with
        | true =>
          have hk : k % 2 = 0 := Nat.eq_of_beq_eq_true hb
          have h' : Tr.getP (pathF f (k / 2)) ((Tr.n v l r).sub (Nat.beq (Nat.mod k 2) 0)) = some a := h
          rw [hb] at h'
          have := ih l (k / 2) _ _ (by omega) h2 a h'
          have e : b + s + (s + s) * (k / 2) = b + s * (k + 1) := by
            have e1 : s * (k + 1) = s * (2 * (k / 2) + 1) := by congr 2; omega
            rw [e1, Nat.mul_add, ← Nat.mul_assoc, Nat.mul_one, Nat.mul_two]; omega
          rw [← e]; exact this
        | false =>
          have hk : k % 2 ≠ 0 := fun e => by
            have : Nat.beq (Nat.mod k 2) 0 = true := by
              show Nat.beq (k % 2) 0 = true
              rw [e]; rfl
            rw [hb] at this; cases this
          have h' : Tr.getP (pathF f (k / 2)) ((Tr.n v l r).sub (Nat.beq (Nat.mod k 2) 0)) = some a := h
          rw [hb] at h'
          have := ih r (k / 2) _ _ (by omega) h3 a h'
          have e : b + s + s + (s + s) * (k / 2) = b + s * (k + 1) := by
            have e1 : s * (k + 1) = s * (2 * (k / 2) + 2) := by congr 1; omega
            rw [e1, Nat.mul_add, ← Nat.mul_assoc, Nat.mul_two]; omega
          rw [← e]; exact this

theorem TrAll.get {α : Type} {p : Nat → α → Prop} {t : Tr α} (h : TrAll p t 0 1) {i : Nat} {a : α} (hg : t.get i = some a) : p i a := by
  have := TrAll.getF (i + 1) t i 0 1 (by omega) h a hg
  simpa using this

noncomputable def trB {α : Type} (q : α → Bool) : Tr α → Bool
  | .e => true
  | .n none l r => (trB q l).and (trB q r)
  | .n (some a) l r => (q a).and ((trB q l).and (trB q r))
theorem trB_all {α : Type} {q : α → Bool} : ∀ (t : Tr α) (b s : Nat), trB q t = true → TrAll (fun _ a => q a = true) t b s := by
  intro t
  induction t with
  | e => intro _ _ _; trivial
  | n v l r ih1 ih2 =>
    intro b s h
    cases v with
    | none =>
      obtain ⟨h1, h2⟩ := Bool.and_eq_true_iff.1 h
      exact ⟨trivial, ih1 _ _ h1, ih2 _ _ h2⟩
    | some a =>
      obtain ⟨h0, h⟩ := Bool.and_eq_true_iff.1 h
      obtain ⟨h1, h2⟩ := Bool.and_eq_true_iff.1 h
      exact ⟨h0, ih1 _ _ h1, ih2 _ _ h2⟩

theorem info_of {P : Program} {t : TypeId} {i : TypeInfo} (h : P.types[t]? = some i) : P.info? t = some i := by
  have hlt : t < P.types.size := by
    rcases Nat.lt_or_ge t P.types.size with h' | h'
    · exact h'
    · rw [Array.getElem?_eq_none h'] at h; cases h
  show (if t < P.types.size then P.types[t]? else _) = some i
  rw [if_pos hlt, h]

/-- A type's words by a table of the types. -/
noncomputable def tyOf (ttr : Tr TypeInfo) (t : Nat) : Option (TypeInfo × TypeDesc) :=
  match ttr.get t with
  | some i => (match i.desc with
    | .named _ u => (match ttr.get u with | some j => some (i, j.desc) | none => none)
    | d => some (i, d))
  | none => none
theorem tyOf_ok {P : Program} {ttr : Tr TypeInfo} (h : TrAll (fun t i => P.types[t]? = some i) ttr 0 1) : ∀ t i d, tyOf ttr t = some (i, d) → P.info? t = some i ∧ P.underlying t = some d := by
  intro t i d e
  unfold tyOf at e
  cases hg : ttr.get t with
  | none => rw [hg] at e; cases e
  | some j =>
    rw [hg] at e
    dsimp only at e
    have h1 := info_of (h.get hg)
    unfold Program.underlying
    rw [h1]
    obtain ⟨desc, str, size, bytes, hp, al, fa, ze, co, ms⟩ := j
    cases desc <;> first | (cases e; exact ⟨rfl, rfl⟩) | skip
    rename_i name u
    dsimp only at e
    cases hu : ttr.get u with
    | none => rw [hu] at e; cases e
    | some j =>
      rw [hu] at e
      cases e
      have h2 := info_of (h.get hu)
      exact ⟨rfl, by show Option.map (fun x => x.desc) (P.info? u) = _; rw [h2]; rfl⟩

theorem funcs_ok {P : Program} {ftr : Tr Func} (h : TrAll (fun f fn => P.funcs[f]? = some fn) ftr 0 1) (h2 : trB (fun fn => !(fn.name == "runtime.NumGoroutine")) ftr = true) :
    ∀ f fn, ftr.get f = some fn → P.funcs[f]? = some fn ∧ (fn.name == "runtime.NumGoroutine") = false :=
  fun _ _ e => ⟨h.get e, by simpa using (trB_all ftr 0 1 h2).get e⟩
theorem plain_of {P : Program} {t : Nat} {fs : Array Field} (h1 : P.eqGuardType P.depth t = false) (h2 : P.stoodInHeld t = false) (h3 : P.underlying t = some (.struct fs)) (h4 : (fs.toList.all fun f => !(f.name == "_")) = true) :
    P.eqGuardType P.depth t = false ∧ P.stoodInHeld t = false ∧ ∀ f ∈ (P.fieldsOf t).toList, f.name ≠ "_" := by
  refine ⟨h1, h2, ?_⟩
  have e : P.fieldsOf t = fs := by unfold Program.fieldsOf; rw [h3]
  rw [e]
  intro f hf hn
  have := List.all_eq_true.1 h4 f hf
  rw [hn] at this
  simp at this
theorem mixed_of (C : Checked) : C.prog.follows .mixedOrders = true := Checked.mixed C
end Go.Ev
namespace Go.Ev
open Go.RowKit
variable [Base]

noncomputable def flatV : V → Bool
  | .bool _ => true
  | .int _ _ => true
  | .str _ => true
  | _ => false
omit [Base] in
theorem flat_VR {φ φ' : Phi} {v : V} {x : Value} (hf : flatV v = true) (h : VR φ v x) : VR φ' v x := by
  cases h <;> first | (cases hf; done) | skip
  · exact .bool _
  · exact .int _ _
  · exact .str _ ‹_›
noncomputable def flatL : List V → Bool
  | [] => true
  | v :: l => cond (flatV v) (flatL l) false
omit [Base] in
theorem flat_VRs {φ φ' : Phi} : ∀ (l : List V) (xs : List Value), flatL l = true → VRs φ l xs → VRs φ' l xs := by
  intro l
  induction l with
  | nil => intro xs _ h; rw [h.inv_nil]; exact .nil
  | cons v l ih =>
    intro xs hf h
    obtain ⟨h1, h2⟩ := condT hf
    obtain ⟨x, ys, rfl, hx, hys⟩ := h.inv
    exact .cons (flat_VR h1 hx) (ih _ h2 hys)

noncomputable def flatEq : V → V → Bool
  | .bool a, .bool b => boolEq a b
  | .int k a, .int k' b => cond (kEq k k') (intEq a b) false
  | .str a, .str b => strEq a b
  | _, _ => false
omit [Base] in
theorem flatEq_sound {a b : V} (h : flatEq a b = true) : a = b ∧ flatV a = true := by
  cases a <;> cases b <;> first | (cases h; done) | skip
  · exact ⟨(sameV_sound 1 (.bool _) (.bool _) (by unfold sameV; exact h)).1, rfl⟩
  · exact ⟨(sameV_sound 1 (.int _ _) (.int _ _) (by unfold sameV; exact h)).1, rfl⟩
  · exact ⟨(sameV_sound 1 (.str _) (.str _) (by unfold sameV; exact h)).1, rfl⟩
noncomputable def flatEqs : List V → List V → Bool
  | [], [] => true
  | a :: l, b :: m => cond (flatEq a b) (flatEqs l m) false
  | _, _ => false
omit [Base] in
theorem flatEqs_sound : ∀ (l m : List V), flatEqs l m = true → l = m ∧ flatL l = true := by
  intro l
  induction l with
  | nil => intro m h; cases m with
    | nil => exact ⟨rfl, rfl⟩
    | cons b m => cases h
  | cons a l ih =>
    intro m h
    cases m with
    | nil => cases h
    | cons b m =>
      obtain ⟨h1, h2⟩ := condT h
      obtain ⟨rfl, h3⟩ := flatEq_sound h1
      obtain ⟨rfl, h4⟩ := ih _ h2
      exact ⟨rfl, by unfold flatL; rw [h3]; exact h4⟩

/-- A table of a function's values. -/
noncomputable def tabP : List (List V × V) → List V → Option V
  | [], _ => none
  | (as, v) :: l, args => cond (flatEqs as args) (some v) (tabP l args)
/-- The table's values are those of the call. -/
noncomputable def okRes (v : V) : R → Bool := @Option.rec (V × St) (fun _ => Bool) false (fun p => flatEq v p.1)
noncomputable def tabOk (E : Env) (n f : Nat) : List (List V × V) → Bool
  | [] => true
  | (as, v) :: l => cond (okRes v (call E n f as ⟨0, .e⟩)) (tabOk E n f l) false

omit [Base] in
theorem tabOk_cons {E : Env} {n f : Nat} {as : List V} {v : V} {l : List (List V × V)} (h1 : okRes v (call E n f as ⟨0, .e⟩) = true) (h2 : tabOk E n f l = true) : tabOk E n f ((as, v) :: l) = true := by
  unfold tabOk
  rw [h1]
  exact h2

section
variable {E : Env} {P : Program}
theorem callFunc_enter (hE : EnvOK E P) {f : FuncId} {fn : Func} (h1 : E.funcs f = some fn) (h2 : fn.body.isSome = true) (xs : Array Value) (w : World) : (callFunc f xs).run P w = .ok (.enter f xs) w := by
  obtain ⟨p1, p2⟩ := hE.funcs f fn h1
  have hn : fn.name ≠ "runtime.NumGoroutine" := by simpa using p2
  obtain ⟨body, h3⟩ := Option.isSome_iff_exists.1 h2
  unfold callFunc
  simp [p1, hn, h3]
theorem tabP_sound (hE : EnvOK E P) {n f : Nat} {args : List V} {v : V} : ∀ (l : List (List V × V)), tabOk E n f l = true → tabP l args = some v →
    ∀ (φ : Phi) (xs : Array Value) (w : World), Below Base.w0.heap.size Base.w0 w → VRs φ args xs.toList → PrimGives P φ w v ((callFunc f xs).run P w) := by
  intro l
  induction l with
  | nil => intro _ h; cases h
  | cons e l ih =>
    obtain ⟨as, u⟩ := e
    intro hk h φ xs w hw ha
    obtain ⟨k1, k2⟩ := condT hk
    have h' : cond (flatEqs as args) (some u) (tabP l args) = some v := h
    cases hs : flatEqs as args with
    | false => rw [hs] at h'; exact ih k2 h' φ xs w hw ha
    | true =>
      rw [hs] at h'
      cases h'
      obtain ⟨rfl, hfl⟩ := flatEqs_sound _ _ hs
      cases hc : call E n f as ⟨0, .e⟩ with
      | none => rw [hc] at k1; cases k1
      | some p =>
        obtain ⟨v', st'⟩ := p
        rw [hc] at k1
        obtain ⟨rfl, hfv⟩ := flatEq_sound (show flatEq v v' = true from k1)
        have hcalls := call_sound hE hc xs w hw (flat_VRs _ _ hfl ha)
        refine .inr ⟨f, xs, ?_, ?_⟩
        · obtain ⟨fn, q1, q2⟩ := obind_some hc
          obtain ⟨body, q3, _⟩ := obind_some q2
          exact callFunc_enter hE q1 (by rw [q3]; rfl) xs w
        · refine hcalls.mono ?_
          rintro e w' ⟨φ', x, rfl, hv, hb⟩
          exact ⟨x, rfl, flat_VR hfv hv, hb⟩
end
end Go.Ev
namespace Go.Ev
open Go.RowKit
variable [Base]

noncomputable def idxB : List Nat → Nat → Nat → Int
  | [], _, _ => .negSucc 0
  | a :: l, i, c => cond (Nat.beq a c) (.ofNat i) (idxB l (Nat.succ i) c)
omit [Base] in
theorem indexByte_low (l : List UInt8) (c : UInt8) : -1 ≤ Lib.indexByte l c := by
  induction l with
  | nil => simp [Lib.indexByte]
  | cons b l ih =>
    unfold Lib.indexByte
    by_cases h1 : (b == c) = true
    · rw [if_pos h1]; omega
    · rw [if_neg h1]
      by_cases h2 : (Lib.indexByte l c == -1) = true
      · rw [if_pos h2]; omega
      · rw [if_neg h2]; omega
omit [Base] in
theorem indexByte_cons (b : UInt8) (l : List UInt8) (c : UInt8) : Lib.indexByte (b :: l) c = if b == c then 0 else if Lib.indexByte l c == -1 then -1 else Lib.indexByte l c + 1 := rfl
omit [Base] in
theorem idxB_eq : ∀ (l : List Nat) (i n : Nat), (∀ b ∈ l, b < 256) → n < 256 → idxB l i n = (if Lib.indexByte (l.map UInt8.ofNat) (UInt8.ofNat n) = -1 then -1 else Lib.indexByte (l.map UInt8.ofNat) (UInt8.ofNat n) + i) := by
  intro l
  induction l with
  | nil => intro i n _ _; simp [idxB, Lib.indexByte]
  | cons a l ih =>
    intro i n hl hn
    have ha : a < 256 := hl a (by simp)
    have h1 : idxB (a :: l) i n = cond (Nat.beq a n) (.ofNat i) (idxB l (Nat.succ i) n) := rfl
    rw [h1, ih _ _ (fun b hb => hl b (by simp [hb])) hn, List.map_cons, indexByte_cons]
    have hlow := indexByte_low (l.map UInt8.ofNat) (UInt8.ofNat n)
    by_cases e : a = n
    · subst e
      simp
    · have e1 : Nat.beq a n = false := by
        cases h : Nat.beq a n with
        | false => rfl
        | true => exact absurd (Nat.eq_of_beq_eq_true h) e
      have e2 : ¬ (UInt8.ofNat a == UInt8.ofNat n) = true := by
        intro h
        have h' : UInt8.ofNat a = UInt8.ofNat n := by simpa using h
        have := congrArg UInt8.toNat h'
        simp at this
        omega
      rw [e1, if_neg e2]
      simp only [cond_false]
      by_cases h2 : Lib.indexByte (l.map UInt8.ofNat) (UInt8.ofNat n) = -1
      · simp [h2]
      · have h3 : ¬ (Lib.indexByte (l.map UInt8.ofNat) (UInt8.ofNat n) == -1) = true := by simpa using h2
        rw [if_neg h2, if_neg h3, if_neg (by omega)]
        push_cast
        omega
omit [Base] in
/-- internal/bytealg.IndexByteString by its law. -/
theorem prim_indexByte {P : Program} {f : FuncId} {fn : Func} (hf : P.funcs[f]? = some fn) (hname : (fn.name == "runtime.NumGoroutine") = false) (hb : fn.body.isNone = true) (hn : Extern.findNext fn = none) (he : Extern.find fn = some Extern.BytealgIndexByte.indexByte)
    {s : List Nat} {n : Nat} (h256 : n < 256) (φ : Phi) (xs : Array Value) (w : World) (ha : VRs φ [.str s, .int .u8 (.ofNat n)] xs.toList) : PrimGives P φ w (.int .i64 (idxB s 0 n)) ((callFunc f xs).run P w) := by
  obtain ⟨x, ys, e1, hx, hys⟩ := ha.inv
  obtain ⟨y, zs, rfl, hy, hzs⟩ := hys.inv
  rw [hzs.inv_nil] at e1
  cases hx with
  | str l hl =>
    cases hy
    obtain rfl : xs = #[.string (mkS s), .int .u8 (.ofNat n)] := by
      cases xs; simpa using e1
    left
    refine ⟨.int .i64 (idxB s 0 n), w, ?_, .int _ _, Below.refl _ w⟩
    rw [run_callFunc_extern hf hname hb hn he]
    have := Lib.run_indexByteString (P := P) (mkS s) (.ofNat n) w
    rw [this]
    simp only [Result.andThen]
    have e : idxB s 0 n = Lib.indexByte (mkS s).data.toList (Int.ofNat n).toNat.toUInt8 := by
      rw [idxB_eq s 0 n hl h256]
      show _ = Lib.indexByte (s.map UInt8.ofNat).toArray.toList (UInt8.ofNat n)
      rw [List.toList_toArray]
      by_cases h : Lib.indexByte (s.map UInt8.ofNat) (UInt8.ofNat n) = -1
      · rw [if_pos h, h]
      · rw [if_neg h]; simp
    rw [e]
end Go.Ev
namespace Go.Ev
open Go.RowKit
variable [Base]
noncomputable def lowB (c : Nat) : Nat := cond (Nat.ble 65 c) (cond (Nat.ble c 90) (Nat.add c 32) c) c
noncomputable def lowL : List Nat → Option (List Nat)
  | [] => some []
  | c :: l => cond (Nat.ble 128 c) none (obind (lowL l) fun k => natK (lowB c) fun c' => some (c' :: k))
omit [Base] in
theorem lowB_eq (c : Nat) (h : c < 128) : UInt8.ofNat (lowB c) = Lib.lowerB (UInt8.ofNat c) ∧ lowB c < 256 := by
  have key : ∀ c : Fin 128, (UInt8.ofNat (cond (Nat.ble 65 c.val) (cond (Nat.ble c.val 90) (Nat.add c.val 32) c.val) c.val) = Lib.lowerB (UInt8.ofNat c.val)) ∧ (cond (Nat.ble 65 c.val) (cond (Nat.ble c.val 90) (Nat.add c.val 32) c.val) c.val) < 256 := by decide
  exact key ⟨c, h⟩
omit [Base] in
theorem lowL_eq : ∀ (l k : List Nat), lowL l = some k → (∀ b ∈ l, b < 128) ∧ (∀ b ∈ k, b < 256) ∧ k.map UInt8.ofNat = Lib.toLowerA (l.map UInt8.ofNat) := by
  intro l
  induction l with
  | nil => intro k h; cases h; exact ⟨by simp, by simp, rfl⟩
  | cons c l ih =>
    intro k h
    obtain ⟨h1, h2⟩ := cond_none (c := Nat.ble 128 c) h
    obtain ⟨k', h3, h4⟩ := obind_some h2
    rw [natK_eq] at h4
    cases h4
    obtain ⟨g1, g2, g3⟩ := ih k' h3
    have hc : c < 128 := by have := ble_false h1; omega
    obtain ⟨e1, e2⟩ := lowB_eq c hc
    refine ⟨?_, ?_, ?_⟩
    · intro b hb
      rcases List.mem_cons.1 hb with rfl | hb
      · exact hc
      · exact g1 b hb
    · intro b hb
      rcases List.mem_cons.1 hb with rfl | hb
      · exact e2
      · exact g2 b hb
    · simp only [List.map_cons, Lib.toLowerA] at g3 ⊢
      rw [e1, g3]

theorem prim_lower {E : Env} {P : Program} (hE : EnvOK E P) {f : FuncId} {fn : Func} (h1 : E.funcs f = some fn) (h2 : fn.body.isSome = true)
    {s k : List Nat} (h : lowL s = some k) (hl : Nat.ble s.length 1000000 = true) (φ : Phi) (xs : Array Value) (w : World)
    (hc : ∀ (s : ByteArray), s.size ≤ 1000000 → (∀ (j : Nat) (b : UInt8), s.data.toList[j]? = some b → b.toNat < 128) → Calls P f #[.string s] w fun e w' => e = .returned (.string ⟨(Lib.toLowerA s.data.toList).toArray⟩) ∧ Below w.heap.size w w')
    (ha : VRs φ [.str s] xs.toList) : PrimGives P φ w (.str k) ((callFunc f xs).run P w) := by
  obtain ⟨x, ys, e1, hx, hys⟩ := ha.inv
  rw [hys.inv_nil] at e1
  cases hx with
  | str l hlt =>
    obtain rfl : xs = #[.string (mkS s)] := by cases xs; simpa using e1
    obtain ⟨g1, g2, g3⟩ := lowL_eq s k h
    right
    refine ⟨f, _, callFunc_enter hE h1 h2 _ w, (hc (mkS s) ?_ ?_).mono ?_⟩
    · have := Nat.le_of_ble_eq_true hl
      show (s.map UInt8.ofNat).toArray.size ≤ _
      simp; omega
    · intro j b hb
      have hb' : (s.map UInt8.ofNat)[j]? = some b := hb
      rw [List.getElem?_map] at hb'
      cases hj : s[j]? with
      | none => rw [hj] at hb'; cases hb'
      | some c =>
        rw [hj] at hb'
        cases hb'
        have := g1 c (List.mem_of_getElem? hj)
        simp; omega
    · rintro e w' ⟨rfl, hb⟩
      refine ⟨_, rfl, ?_, hb⟩
      have : (⟨(Lib.toLowerA (mkS s).data.toList).toArray⟩ : ByteArray) = mkS k := by
        show ByteArray.mk (Lib.toLowerA (s.map UInt8.ofNat).toArray.toList).toArray = ⟨(k.map UInt8.ofNat).toArray⟩
        rw [List.toList_toArray, g3]
      rw [this]
      exact .str k g2
end Go.Ev
namespace Go.Ev
open Go.RowKit
variable [Base]
noncomputable def isIn (ptr : Tr Unit) (t : Nat) : Bool := @Option.rec Unit (fun _ => Bool) false (fun _ => true) (ptr.get t)
noncomputable def inLies : List (TypeId × Nat × TypeId) → TypeId → Nat → TypeId → Bool
  | [], _, _, _ => false
  | (a, b, c) :: l, x, y, z => cond (cond (Nat.beq a x) (cond (Nat.beq b y) (Nat.beq c z) false) false) true (inLies l x y z)
/-- Where variables of a type lie: what is asked of each row. -/
def liesB (P : Program) (l : List (TypeId × Nat × TypeId)) : Bool := l.all fun (a, b, c) => decide (b < P.cellsOf a) && liesAt P P.depth a 1 b c 1
omit [Base] in
theorem inLies_ok {P : Program} : ∀ (l : List (TypeId × Nat × TypeId)), liesB P l = true → ∀ x y z, inLies l x y z = true → y < P.cellsOf x ∧ liesAt P P.depth x 1 y z 1 = true
  | [], _, x, y, z, h => by cases h
  | (a, b, c) :: l, hl, x, y, z, h => by
    simp only [liesB, List.all_cons, Bool.and_eq_true, decide_eq_true_eq] at hl
    have h' : cond (cond (Nat.beq a x) (cond (Nat.beq b y) (Nat.beq c z) false) false) true (inLies l x y z) = true := h
    cases h1 : cond (Nat.beq a x) (cond (Nat.beq b y) (Nat.beq c z) false) false with
    | false => rw [h1] at h'; exact inLies_ok l (by simpa [liesB] using hl.2) x y z h'
    | true =>
      obtain ⟨q1, q2⟩ := condT h1
      obtain ⟨q3, q4⟩ := condT q2
      obtain rfl := Nat.eq_of_beq_eq_true q1
      obtain rfl := Nat.eq_of_beq_eq_true q3
      obtain rfl := Nat.eq_of_beq_eq_true q4
      exact hl.1
noncomputable def noExt (_ : Nat) (_ : List V) (_ : St) : Option (V × St) := none
noncomputable def mkEnvX (ftr : Tr Func) (ttr : Tr TypeInfo) (ptr : Tr Unit) (prm : Nat → List V → Option V) (memo : Nat → List V → St → Option (V × St)) (ext : Nat → List V → St → Option (V × St)) (lies : List (TypeId × Nat × TypeId)) : Env := ⟨ftr.get, tyOf ttr, prm, isIn ptr, memo, ext, inLies lies⟩
noncomputable def mkEnv (ftr : Tr Func) (ttr : Tr TypeInfo) (ptr : Tr Unit) (prm : Nat → List V → Option V) (memo : Nat → List V → St → Option (V × St)) (lies : List (TypeId × Nat × TypeId)) : Env := mkEnvX ftr ttr ptr prm memo noExt lies
noncomputable def noPrm (_ : Nat) (_ : List V) : Option V := none
noncomputable def noMemo (_ : Nat) (_ : List V) (_ : St) : Option (V × St) := none
theorem mkEnvX_ok {P : Program} {ftr : Tr Func} {ttr : Tr TypeInfo} {ptr : Tr Unit} {prm : Nat → List V → Option V} {memo ext : Nat → List V → St → Option (V × St)}
    (h1 : TrAll (fun f fn => P.funcs[f]? = some fn) ftr 0 1) (h2 : trB (fun fn => !(fn.name == "runtime.NumGoroutine")) ftr = true) (h3 : TrAll (fun t i => P.types[t]? = some i) ttr 0 1)
    (h4 : TrAll (fun t _ => P.eqGuardType P.depth t = false ∧ P.stoodInHeld t = false ∧ ∀ f ∈ (P.fieldsOf t).toList, f.name ≠ "_") ptr 0 1) (h5 : P.follows .mixedOrders = true)
    (h6 : ∀ f args v, prm f args = some v → ∀ (φ : Phi) (xs : Array Value) (w : World), Below Base.w0.heap.size Base.w0 w → VRs φ args xs.toList → PrimGives P φ w v ((callFunc f xs).run P w))
    (h7 : ∀ f args st v st', memo f args st = some (v, st') → MemoOK P f args st v st') {lies : List (TypeId × Nat × TypeId)} (h8 : liesB P lies = true) (h9 : ∀ f args st v st', ext f args st = some (v, st') → ExtOK P f args st v st') : EnvOK (mkEnvX ftr ttr ptr prm memo ext lies) P :=
  { funcs := funcs_ok h1 h2
    types := tyOf_ok h3
    prims := h6
    plainS := fun t h => by
      have h' : isIn ptr t = true := h
      unfold isIn at h'
      cases hg : ptr.get t with
      | none => rw [hg] at h'; cases h'
      | some u => exact h4.get hg
    mixed := h5
    memo := h7
    ext := h9
    lies := fun el off u h => inLies_ok lies h8 el off u h }
theorem noExt_ok {P : Program} : ∀ f args st v st', noExt f args st = some (v, st') → ExtOK P f args st v st' := fun _ _ _ _ _ h => by cases h
theorem mkEnv_ok {P : Program} {ftr : Tr Func} {ttr : Tr TypeInfo} {ptr : Tr Unit} {prm : Nat → List V → Option V} {memo : Nat → List V → St → Option (V × St)}
    (h1 : TrAll (fun f fn => P.funcs[f]? = some fn) ftr 0 1) (h2 : trB (fun fn => !(fn.name == "runtime.NumGoroutine")) ftr = true) (h3 : TrAll (fun t i => P.types[t]? = some i) ttr 0 1)
    (h4 : TrAll (fun t _ => P.eqGuardType P.depth t = false ∧ P.stoodInHeld t = false ∧ ∀ f ∈ (P.fieldsOf t).toList, f.name ≠ "_") ptr 0 1) (h5 : P.follows .mixedOrders = true)
    (h6 : ∀ f args v, prm f args = some v → ∀ (φ : Phi) (xs : Array Value) (w : World), Below Base.w0.heap.size Base.w0 w → VRs φ args xs.toList → PrimGives P φ w v ((callFunc f xs).run P w))
    (h7 : ∀ f args st v st', memo f args st = some (v, st') → MemoOK P f args st v st') {lies : List (TypeId × Nat × TypeId)} (h8 : liesB P lies = true) : EnvOK (mkEnv ftr ttr ptr prm memo lies) P :=
  mkEnvX_ok h1 h2 h3 h4 h5 h6 h7 h8 noExt_ok
theorem noPrm_ok {P : Program} : ∀ f args v, noPrm f args = some v → ∀ (φ : Phi) (xs : Array Value) (w : World), Below Base.w0.heap.size Base.w0 w → VRs φ args xs.toList → PrimGives P φ w v ((callFunc f xs).run P w) := fun _ _ _ h => by cases h
theorem noMemo_ok {P : Program} : ∀ f args st v st', noMemo f args st = some (v, st') → MemoOK P f args st v st' := fun _ _ _ _ _ h => by cases h
end Go.Ev
namespace Go.Ev
open Go.RowKit

noncomputable def prefL : List Nat → List Nat → Bool
  | _, [] => true
  | [], _ :: _ => false
  | a :: s, b :: t => cond (Nat.beq a b) (prefL s t) false
noncomputable def contL (t : List Nat) : List Nat → Bool
  | [] => prefL [] t
  | a :: s => cond (prefL (a :: s) t) true (contL t s)
theorem ofNat_beq {a b : Nat} (ha : a < 256) (hb : b < 256) : (UInt8.ofNat a == UInt8.ofNat b) = Nat.beq a b := by
  rw [Bool.eq_iff_iff, beq_iff_eq, Nat.beq_eq]
  constructor
  · intro h
    have := congrArg UInt8.toNat h
    simp at this
    omega
  · intro h; rw [h]
theorem prefL_eq : ∀ (s t : List Nat), (∀ b ∈ s, b < 256) → (∀ b ∈ t, b < 256) → prefL s t = (t.map UInt8.ofNat).isPrefixOf (s.map UInt8.ofNat)
  | s, [], _, _ => by cases s <;> simp [prefL]
  | [], _ :: _, _, _ => by simp [prefL]
  | a :: s, b :: t, hs, ht => by
    simp only [prefL, List.map_cons, List.isPrefixOf]
    rw [prefL_eq s t (fun x hx => hs x (by simp [hx])) (fun x hx => ht x (by simp [hx])), ofNat_beq (ht b (by simp)) (hs a (by simp))]
    have : Nat.beq a b = Nat.beq b a := by rw [Bool.eq_iff_iff, Nat.beq_eq, Nat.beq_eq]; exact eq_comm
    rw [this]
    cases Nat.beq b a <;> rfl
theorem contL_eq (t : List Nat) (ht : ∀ b ∈ t, b < 256) : ∀ (s : List Nat), (∀ b ∈ s, b < 256) → contL t s = Lib.contains (s.map UInt8.ofNat) (t.map UInt8.ofNat)
  | [], hs => by
    simp only [contL, Lib.contains]
    rw [prefL_eq [] t hs ht]
    cases t <;> simp [Lib.index]
  | a :: s, hs => by
    have ih := contL_eq t ht s (fun x hx => hs x (by simp [hx]))
    simp only [contL, Lib.contains, List.map_cons, Lib.index] at ih ⊢
    rw [prefL_eq (a :: s) t hs ht, List.map_cons]
    cases hp : (t.map UInt8.ofNat).isPrefixOf (UInt8.ofNat a :: s.map UInt8.ofNat) with
    | true => simp
    | false =>
      simp only [cond_false, ih, Bool.false_eq_true, if_false]
      have hge := Lib.index_ge (s.map UInt8.ofNat) (t.map UInt8.ofNat)
      by_cases h : Lib.index (s.map UInt8.ofNat) (t.map UInt8.ofNat) = -1
      · simp [h]
      · have : (Lib.index (s.map UInt8.ofNat) (t.map UInt8.ofNat) == -1) = false := by simpa using h
        simp [this]
        omega

section
variable [Base] {E : Env} {P : Program}
omit [Base] in
theorem strs2 {φ : Phi} {s t : List Nat} {xs : Array Value} (ha : VRs φ [.str s, .str t] xs.toList) : xs = #[.string (mkS s), .string (mkS t)] ∧ (∀ b ∈ s, b < 256) ∧ (∀ b ∈ t, b < 256) := by
  obtain ⟨x, ys, e1, hx, hys⟩ := ha.inv
  obtain ⟨y, zs, rfl, hy, hzs⟩ := hys.inv
  rw [hzs.inv_nil] at e1
  cases hx with
  | str l h1 => cases hy with
    | str k h2 => exact ⟨by cases xs; simpa using e1, h1, h2⟩
omit [Base] in
theorem mkS_list (l : List Nat) : (mkS l).data.toList = l.map UInt8.ofNat := by simp [mkS]

/-- strings.Contains by its contract: of a text that is not too long, in a world whose internal/bytealg.MaxLen is a number. -/
theorem prim_contains (hE : EnvOK E P) {f g : Nat} {fn : Func} (h1 : E.funcs f = some fn) (h2 : fn.body.isSome = true) {m : Int} (hm : Base.w0.cell? ⟨g, 0, none⟩ = some (.int .i64 m)) (hg : g < Base.w0.heap.size)
    (hc : ∀ (s sub : ByteArray) (m : Int) (w : World), s.size < 4294967281 → w.cell? ⟨g, 0, none⟩ = some (.int .i64 m) → Calls P f #[.string s, .string sub] w fun e w' => e = .returned (.bool (Lib.contains s.data.toList sub.data.toList)) ∧ w' = w)
    {s t : List Nat} (hl : Nat.ble s.length 1000000 = true) (φ : Phi) (xs : Array Value) (w : World) (hw : Below Base.w0.heap.size Base.w0 w) (ha : VRs φ [.str s, .str t] xs.toList) : PrimGives P φ w (.bool (contL t s)) ((callFunc f xs).run P w) := by
  obtain ⟨rfl, hs, ht⟩ := strs2 ha
  right
  have hlen : (mkS s).size < 4294967281 := by
    have := Nat.le_of_ble_eq_true hl
    rw [mkS_size]; omega
  refine ⟨f, _, callFunc_enter hE h1 h2 _ w, (hc (mkS s) (mkS t) m w hlen ((hw.cell (p := ⟨g, 0, none⟩) hg).trans hm)).mono ?_⟩
  rintro e w' ⟨rfl, rfl⟩
  refine ⟨_, rfl, ?_, Below.refl _ _⟩
  rw [mkS_list, mkS_list, ← contL_eq t ht s hs]
  exact .bool _

noncomputable def cntB : List Nat → Nat → Nat → Nat
  | [], i, _ => i
  | a :: l, i, c => cond (Nat.beq a c) (cntB l (Nat.succ i) c) (cntB l i c)
omit [Base] in
theorem cntB_eq : ∀ (l : List Nat) (i c : Nat), (∀ b ∈ l, b < 256) → c < 256 → cntB l i c = i + Lib.countByte (l.map UInt8.ofNat) (UInt8.ofNat c)
  | [], i, c, _, _ => by simp [cntB, Lib.countByte]
  | a :: l, i, c, hl, hc => by
    have ih := fun i => cntB_eq l i c (fun b hb => hl b (by simp [hb])) hc
    simp only [cntB, Lib.countByte, List.map_cons, List.count_cons] at ih ⊢
    rw [ofNat_beq (hl a (by simp)) hc]
    cases Nat.beq a c
    · simp [ih]
    · simp [ih]; omega
/-- strings.Count of one byte by its contract. -/
theorem prim_count1 (hE : EnvOK E P) {f : Nat} {fn : Func} (h1 : E.funcs f = some fn) (h2 : fn.body.isSome = true)
    (hc : ∀ (s : ByteArray) (c : UInt8) (w : World), Calls P f #[.string s, .string ⟨#[c]⟩] w fun e w' => e = .returned (.int .i64 (Lib.countByte s.data.toList c)) ∧ w' = w)
    {s : List Nat} {c : Nat} (φ : Phi) (xs : Array Value) (w : World) (ha : VRs φ [.str s, .str [c]] xs.toList) : PrimGives P φ w (.int .i64 (.ofNat (cntB s 0 c))) ((callFunc f xs).run P w) := by
  obtain ⟨rfl, hs, ht⟩ := strs2 ha
  right
  refine ⟨f, _, callFunc_enter hE h1 h2 _ w, (hc (mkS s) (UInt8.ofNat c) w).mono ?_⟩
  rintro e w' ⟨rfl, rfl⟩
  refine ⟨_, rfl, ?_, Below.refl _ _⟩
  rw [mkS_list, cntB_eq s 0 c hs (ht c (by simp)), Nat.zero_add]
  exact .int .i64 _

omit [Base] in
/-- internal/abi.NoEscape by its law. -/
theorem prim_noEscape {f : FuncId} {fn : Func} (hf : P.funcs[f]? = some fn) (hname : (fn.name == "runtime.NumGoroutine") = false) (hb : fn.body.isNone = true) (hn : Extern.findNext fn = none) (he : Extern.find fn = some Extern.AbiNoEscape.same)
    {v : V} (φ : Phi) (xs : Array Value) (w : World) (ha : VRs φ [v] xs.toList) : PrimGives P φ w v ((callFunc f xs).run P w) := by
  obtain ⟨x, ys, e1, hx, hys⟩ := ha.inv
  rw [hys.inv_nil] at e1
  obtain rfl : xs = #[x] := by cases xs; simpa using e1
  left
  refine ⟨x, w, ?_, hx, Below.refl _ w⟩
  rw [run_callFunc_extern hf hname hb hn he, Lib.run_noEscape]
  rfl

end
end Go.Ev
namespace Go.Ev
open Go.RowKit
section
variable [Base] {P : Program} {f : FuncId} {fn : Func}

theorem ext_mark0 (hf : P.funcs[f]? = some fn) (hname : (fn.name == "runtime.NumGoroutine") = false) (hb : fn.body.isNone = true) (hn : Extern.findNext fn = none) (m : Mark)
    (he : Extern.find fn = some (fun _ => do mark m; pure Extern.Race.none_)) {args : List V} {st st' : St} {v : V} (h : extV .nothing .i32 args st = some (v, st')) : ExtOK P f args st v st' := by
  cases h
  intro φ w xs ha hR
  refine ⟨φ, .tuple #[], w, ?_, Chg.refl φ w, hR, VRs.tup (xs := #[]) .nil⟩
  rw [run_callFunc_extern hf hname hb hn he]; rfl
omit [Base] in
theorem ptr_one {φ : Phi} {id off : Nat} {vs : List V} {xs : Array Value} (ha : VRs φ (.ptr id off :: vs) xs.toList) : ∃ b κ ys, φ id = some (b, κ) ∧ xs = (Value.pointer (some ⟨b, off, none⟩) :: ys).toArray ∧ VRs φ vs ys := by
  obtain ⟨x, ys, e1, hx, hys⟩ := ha.inv
  cases hx with
  | ptr _ _ b κ hφ => exact ⟨b, κ, ys, hφ, by cases xs; simpa using e1, hys⟩
theorem ext_marked (hf : P.funcs[f]? = some fn) (hname : (fn.name == "runtime.NumGoroutine") = false) (hb : fn.body.isNone = true) (hn : Extern.findNext fn = none) (m : Addr → Mark)
    (he : Extern.find fn = some (Extern.Race.marked m)) {k : IntKind} {args : List V} {st st' : St} {v : V} (h : extV .mark k args st = some (v, st')) : ExtOK P f args st v st' := by
  replace h : atomMark st args = some (v, st') := h
  unfold atomMark at h
  split at h
  · cases h
    intro φ w xs ha hR
    obtain ⟨b, κ, ys, hφ, rfl, hys⟩ := ptr_one ha
    rw [hys.inv_nil]
    exact ⟨φ, .tuple #[], w, run_call_marked hf hname hb hn m he _ w, Chg.refl φ w, hR, VRs.tup (xs := #[]) .nil⟩
  · cases h
omit [Base] in
theorem kEq_same {a b : IntKind} (h : kEq a b = true) : a = b := by cases a <;> cases b <;> first | rfl | cases h
omit [Base] in
theorem isIntV_some {k : IntKind} {K : Int → Option (V × St)} {u : V} {r : V × St} (h : isIntV k K u = some r) : ∃ x, u = .int k x ∧ K x = some r := by
  unfold isIntV at h
  split at h
  · rename_i k' x
    obtain ⟨h1, h2⟩ := cond_some h
    obtain rfl := kEq_same h1
    exact ⟨x, rfl, h2⟩
  · cases h
theorem ext_load (hf : P.funcs[f]? = some fn) (hname : (fn.name == "runtime.NumGoroutine") = false) (hb : fn.body.isNone = true) (hn : Extern.findNext fn = none) (k : IntKind)
    (he : Extern.find fn = some (Extern.Atomic.loadT (.int k))) {args : List V} {st st' : St} {v : V} (h : extV .load k args st = some (v, st')) : ExtOK P f args st v st' := by
  replace h : atomLoad k st args = some (v, st') := h
  unfold atomLoad at h
  split at h
  · obtain ⟨u, h1, h⟩ := obind_some h
    have q := isIntV_some h
    clear h
    obtain ⟨x, rfl, h⟩ := q
    cases h
    intro φ w xs ha hR
    obtain ⟨b, κ, ys, hφ, rfl, hys⟩ := ptr_one ha
    rw [hys.inv_nil]
    obtain ⟨y, hc, hv⟩ := cellAt_sound hR hφ h1
    cases hv
    exact ⟨φ, .int k x, w, run_call_load hf hname hb hn k he hc, Chg.refl φ w, hR, .int k x⟩
  · cases h
/-- A cell that is stored into: it is there, not frozen, and what the store leaves. -/
theorem store_one (P : Program) {φ : Phi} {st st' : St} {w : World} (hR : Rep φ st w) {id off b κ : Nat} {v : V} {x : Value} (hφ : φ id = some (b, κ)) (h : storeAt st id off [v] = some st') (hv : VR φ v x) :
    (∃ u, w.cell? ⟨b, off, none⟩ = some u) ∧ w.frozen? ⟨b, off, none⟩ = false ∧ Chg φ w φ (w.setCell ⟨b, off, none⟩ x) ∧ Rep φ st' (w.setCell ⟨b, off, none⟩ x) := by
  have h0 := h
  obtain ⟨w', hrun, hchg, hrep⟩ := storeAt_sound (P := P) hR hφ h (.cons hv .nil)
  obtain ⟨next, blks⟩ := st
  obtain ⟨⟨r, g⟩, h1, h⟩ := obind_some h
  obtain ⟨bl, h2, h⟩ := obind_some h
  cases bl with
  | cells cs size last x0 =>
    obtain ⟨hc, h⟩ := cond_some h
    cases hb1 : Nat.beq last g with
    | false => rw [hb1] at hc; cases hc
    | true =>
    rw [hb1] at hc
    obtain rfl : last = g := Nat.eq_of_beq_eq_true hb1
    replace hc : cond (Nat.ble (Nat.add off 1) size) (allScal [v]) false = true := hc
    cases hb2 : Nat.ble (Nat.add off 1) size with
    | false => rw [hb2] at hc; cases hc
    | true =>
    have hle : off + 1 ≤ size := Nat.le_of_ble_eq_true hb2
    obtain ⟨hgl, arr, el, lo, hi, hblk, hκ, hfz, hcs⟩ := hR.cells id b κ r last cs size last x0 hφ h1 h2
    have hsz := hcs.size rfl
    have hlt : off < arr.size := by omega
    have hcell : w.cell? ⟨b, off, none⟩ = some arr[off] := by rw [cell_of hblk]; simp [hlt]
    have hfr : w.frozen? ⟨b, off, none⟩ = false := by
      have := hfz.1 off (by omega)
      simp [World.frozen?, hblk]
      omega
    have hw : w' = w.setCell ⟨b, off, none⟩ x := by
      have e := hrun
      have ho : x.oneCell' = true := allScal_one (φ := φ) (vs := [v]) (xs := [x]) (.cons hv .nil) (by rw [hb2] at hc; exact hc) x (List.mem_cons_self ..)
      rw [storeCells] at e
      simp only [Sem.run_bind, add_none, Nat.add_zero, storeCells] at e
      rw [run_store P w _ x .plain ho, hcell] at e
      simp only [hfr, Bool.false_eq_true, if_false, Result.andThen_ok, Sem.run_pure] at e
      cases e
      rfl
    subst hw
    exact ⟨⟨_, hcell⟩, hfr, hchg, hrep⟩
  | _ => cases h
theorem ext_store (hf : P.funcs[f]? = some fn) (hname : (fn.name == "runtime.NumGoroutine") = false) (hb : fn.body.isNone = true) (hn : Extern.findNext fn = none) (k : IntKind)
    (he : Extern.find fn = some Extern.Atomic.storeT) {args : List V} {st st' : St} {v : V} (h : extV .store k args st = some (v, st')) : ExtOK P f args st v st' := by
  replace h : atomStore k st args = some (v, st') := h
  unfold atomStore at h
  split at h
  · have q := isIntV_some h
    clear h
    obtain ⟨y, rfl, h⟩ := q
    obtain ⟨st1, h1, h⟩ := obind_some h
    cases h
    intro φ w xs ha hR
    obtain ⟨b, κ, ys, hφ, rfl, hys⟩ := ptr_one ha
    obtain ⟨x, l, rfl, hx, hl⟩ := hys.inv
    rw [hl.inv_nil]
    cases hx
    obtain ⟨⟨u, hc⟩, hz, hchg, hrep⟩ := store_one P hR hφ h1 (.int k y)
    exact ⟨φ, .tuple #[], _, run_call_store hf hname hb hn he hc hz, hchg, hrep, VRs.tup (xs := #[]) .nil⟩
  · cases h
theorem ext_cas (hf : P.funcs[f]? = some fn) (hname : (fn.name == "runtime.NumGoroutine") = false) (hb : fn.body.isNone = true) (hn : Extern.findNext fn = none) (k : IntKind)
    (he : Extern.find fn = some (Extern.Atomic.casT (.int k))) {args : List V} {st st' : St} {v : V} (h : extV .cas k args st = some (v, st')) : ExtOK P f args st v st' := by
  replace h : atomCas k st args = some (v, st') := h
  unfold atomCas at h
  split at h
  · have q := isIntV_some h
    clear h
    obtain ⟨o, rfl, h⟩ := q
    have q := isIntV_some h
    clear h
    obtain ⟨y, rfl, h⟩ := q
    obtain ⟨u, h1, h⟩ := obind_some h
    have q := isIntV_some h
    clear h
    obtain ⟨x, rfl, h⟩ := q
    cases hq : intEq x o with
    | false => rw [hq] at h; cases h
    | true =>
    rw [hq] at h
    obtain ⟨st1, h2, h⟩ := obind_some h
    cases h
    obtain rfl : x = o := by
      cases x <;> cases o <;> first | (cases hq; done) | (congr 1; exact Nat.eq_of_beq_eq_true hq)
    intro φ w xs ha hR
    obtain ⟨b, κ, ys, hφ, rfl, hys⟩ := ptr_one ha
    obtain ⟨x1, l, rfl, hx, hl⟩ := hys.inv
    obtain ⟨x2, l, rfl, hx2, hl⟩ := hl.inv
    rw [hl.inv_nil]
    cases hx
    cases hx2
    obtain ⟨z, hc, hv⟩ := cellAt_sound hR hφ h1
    cases hv
    obtain ⟨_, hz, hchg, hrep⟩ := store_one P hR hφ h2 (.int k y)
    exact ⟨φ, .bool true, _, run_call_cas_hit hf hname hb hn k he hc hz, hchg, hrep, .bool true⟩
  · cases h
theorem ext_add (hf : P.funcs[f]? = some fn) (hname : (fn.name == "runtime.NumGoroutine") = false) (hb : fn.body.isNone = true) (hn : Extern.findNext fn = none) (k : IntKind)
    (he : Extern.find fn = some (Extern.Atomic.update (Op.intArith .add) k true)) {args : List V} {st st' : St} {v : V} (h : extV .add k args st = some (v, st')) : ExtOK P f args st v st' := by
  replace h : atomAdd k st args = some (v, st') := h
  unfold atomAdd at h
  split at h
  · have q := isIntV_some h
    clear h
    obtain ⟨y, rfl, h⟩ := q
    obtain ⟨u, h1, h⟩ := obind_some h
    have q := isIntV_some h
    clear h
    obtain ⟨x, rfl, h⟩ := q
    obtain ⟨s, h2, h⟩ := obind_some h
    obtain ⟨st1, h3, h⟩ := obind_some h
    cases h
    rw [intAdd_eq] at h2
    intro φ w xs ha hR
    obtain ⟨b, κ, ys, hφ, rfl, hys⟩ := ptr_one ha
    obtain ⟨x1, l, rfl, hx, hl⟩ := hys.inv
    rw [hl.inv_nil]
    cases hx
    obtain ⟨z, hc, hv⟩ := cellAt_sound hR hφ h1
    cases hv
    have hs := wrapK_sound (φ := φ) h2
    obtain ⟨_, hz, hchg, hrep⟩ := store_one P hR hφ h3 hs
    exact ⟨φ, .int k (k.wrap (x + y)), _, run_call_add hf hname hb hn k he hc hz rfl, hchg, hrep, hs⟩
  · cases h
/-- internal/bytealg.MakeNoZero by its law. -/
theorem ext_noZero (hf : P.funcs[f]? = some fn) (hname : (fn.name == "runtime.NumGoroutine") = false) (hb : fn.body.isNone = true) (hn : Extern.findNext fn = none) {ps : Array TypeId} {t e : TypeId}
    (he : Extern.find fn = some (Extern.BytealgMakeNoZero.makeNoZero ps #[t])) (ht : P.underlying t = some (.slice e)) {args : List V} {st st' : St} {v : V} (h : mkNoZ e st args = some (v, st')) : ExtOK P f args st v st' := by
  unfold mkNoZ at h
  split at h
  · rename_i n
    obtain ⟨h1, h⟩ := cond_some h
    obtain ⟨next, blks⟩ := st
    obtain ⟨hg, h⟩ := newBK_some h
    cases h
    have hn6 := Nat.le_of_ble_eq_true h1
    intro φ w xs ha hR
    obtain ⟨x, ys, e1, hx, hys⟩ := ha.inv
    rw [hys.inv_nil] at e1
    cases hx
    obtain rfl : xs = #[.int .i64 (.ofNat n)] := by cases xs; simpa using e1
    obtain ⟨cs, hrun, hle, _⟩ := Lib.run_makeNoZero (P := P) w ps t e ht n (by omega)
    have hd := (chg_drew (φ := φ) w).trans (chg_drew (φ := φ) w.drew)
    obtain ⟨k1, k2⟩ := new_sound (rep_drew (rep_drew hR)) hg (vs := []) (xs := []) .nil cs e 0 0 (fun i y h => by simp at h) (by simp) (fun i _ => by omega) (some e) (fun _ q => by cases q; rfl)
    refine ⟨_, _, _, ?_, hd.trans k1, k2, .slo next 0 n 1 cs.size _ _ Phi.add_self hle (by omega) (by omega)⟩
    rw [run_callFunc_extern hf hname hb hn he]
    have hrun' : (Extern.BytealgMakeNoZero.makeNoZero ps #[t] #[.int .i64 (.ofNat n)]).run P w = .ok (.slice (some ⟨w.heap.size, 0, none⟩) n cs.size) (w.drew.drew.alloc (.cells cs e)) := hrun
    rw [hrun']
    rfl
  · cases h
end
end Go.Ev
namespace Go.Ev
open Go.RowKit
section
variable [Base] {P : Program}
theorem memo_calls {f : FuncId} {args : List V} {st : St} {v : V} (h : ∀ (φ : Phi) (w : World) (xs : Array Value), VRs φ args xs.toList → Rep φ st w → Calls P f xs w fun e w' => ∃ x, e = .returned x ∧ VR φ v x ∧ Below w.heap.size w w') : MemoOK P f args st v st := by
  intro φ w xs cs0 ha hR
  obtain ⟨e, w', fr, ⟨x, rfl, hv, hb⟩, hc, hf, hl⟩ := h φ w xs ha hR cs0
  exact ⟨φ, x, w', fr, hc, Chg.of_below hb, hR.of_below hb, hv, hl, hf⟩
noncomputable def strsOf : List V → Option (List (List Nat))
  | [] => some []
  | .str s :: l => obind (strsOf l) fun r => some (s :: r)
  | _ => none
noncomputable def joinL (sep : List Nat) : List (List Nat) → List Nat
  | [] => []
  | [a] => a
  | a :: l => a ++ (sep ++ joinL sep l)
noncomputable def joinM (st : St) : List V → Option (V × St)
  | [.sl id off len esz _, .str sep] => cond (Nat.beq esz 1) (cond (Nat.ble len 1000000) (obind (cellsAt st id off len) fun cs => obind (strsOf cs) fun l => listK (joinL sep l) fun s => cond (Nat.ble s.length 1000000) (some (.str s, st)) none) none) none
  | _ => none
omit [Base] in
theorem joinL_eq (sep : List Nat) : ∀ l : List (List Nat), (joinL sep l).map UInt8.ofNat = Lib.join (l.map fun s => s.map UInt8.ofNat) (sep.map UInt8.ofNat)
  | [] => rfl
  | [a] => by simp [joinL, Lib.join]
  | a :: b :: l => by
    have ih := joinL_eq sep (b :: l)
    have e : joinL sep (a :: b :: l) = a ++ (sep ++ joinL sep (b :: l)) := rfl
    rw [e, List.map_append, List.map_append, ih]
    simp [Lib.join, List.intercalate, List.intersperse]
omit [Base] in
theorem joinL_256 (sep : List Nat) (hs : ∀ c ∈ sep, c < 256) : ∀ l : List (List Nat), (∀ s ∈ l, ∀ c ∈ s, c < 256) → ∀ c ∈ joinL sep l, c < 256
  | [], _, c, h => by cases h
  | [a], hl, c, h => hl a (by simp) c h
  | a :: b :: l, hl, c, h => by
    have ih := joinL_256 sep hs (b :: l) (fun s h => hl s (by simp at h ⊢; right; exact h))
    have e : joinL sep (a :: b :: l) = a ++ (sep ++ joinL sep (b :: l)) := rfl
    rw [e, List.mem_append, List.mem_append] at h
    rcases h with h | h | h
    · exact hl a (by simp) c h
    · exact hs c h
    · exact ih c h
omit [Base] in
theorem strsOf_some {φ : Phi} : ∀ (cs : List V) (l : List (List Nat)) (xs : List Value), strsOf cs = some l → VRs φ cs xs → xs = l.map (fun s => .string (mkS s)) ∧ ∀ s ∈ l, ∀ c ∈ s, c < 256
  | [], l, xs, h, hv => by cases h; rw [hv.inv_nil]; exact ⟨rfl, by simp⟩
  | v :: cs, l, xs, h, hv => by
    cases v <;> first | (cases h; done) | skip
    rename_i s
    obtain ⟨r, h1, h2⟩ := obind_some (show obind (strsOf cs) (fun r => some (s :: r)) = some l from h)
    cases h2
    obtain ⟨x, ys, rfl, hx, hys⟩ := hv.inv
    obtain ⟨e, hb⟩ := strsOf_some cs r ys h1 hys
    cases hx with
    | str _ hs =>
    refine ⟨by rw [e]; rfl, fun t ht => ?_⟩
    rcases List.mem_cons.1 ht with rfl | ht
    · exact hs
    · exact hb t ht
theorem cells_get {st : St} {w : World} {φ : Phi} (hR : Rep φ st w) {id off n b κ : Nat} {l : List V} (hφ : φ id = some (b, κ)) (h : cellsAt st id off n = some l) :
    ∃ ys : List Value, VRs φ l ys ∧ ∀ (j : Nat) y, ys[j]? = some y → w.cell? ⟨b, off + j, none⟩ = some y := by
  obtain ⟨next, blks⟩ := st
  obtain ⟨⟨r, g⟩, h1, h⟩ := obind_some h
  obtain ⟨bl, h2, h⟩ := obind_some h
  cases bl with
  | cells cs size last x0 =>
    obtain ⟨_, arr, el, lo, hi, hb, _, _, hc⟩ := hR.cells id b κ r g cs size last x0 hφ h1 h2
    rcases cellsIn_sound hc n off l h with ⟨hs, hl⟩ | ⟨rfl, rfl⟩
    · refine ⟨_, hl, fun j y hy => ?_⟩
      rw [List.getElem?_take] at hy
      split at hy
      · rw [List.getElem?_drop, Array.getElem?_toList] at hy
        rw [cell_of hb, hy]
      · cases hy
    · exact ⟨[], .nil, fun j y hy => by simp at hy⟩
  | _ => cases h
/-- strings.Join by its contract. -/
theorem joinM_ok {f : FuncId} (hc : ∀ (bk o c : Nat) (xs : List ByteArray) (sep : ByteArray) (w : World), (∀ (j : Nat) x, xs[j]? = some x → w.cell? ⟨bk, o + j, none⟩ = some (.string x)) → bk < w.heap.size → xs.length ≤ 140737488355328 → xs.length ≤ c →
      (Lib.join (xs.map (·.data.toList)) sep.data.toList).length ≤ 140737488355328 → Calls P f #[.slice (some ⟨bk, o, none⟩) xs.length c, .string sep] w fun e w' => e = .returned (.string ⟨(Lib.join (xs.map (·.data.toList)) sep.data.toList).toArray⟩) ∧ Below w.heap.size w w')
    {args : List V} {st st' : St} {v : V} (h : joinM st args = some (v, st')) : MemoOK P f args st v st' := by
  unfold joinM at h
  split at h
  · rename_i id off len esz cap sep
    have q := cond_some h
    clear h
    obtain ⟨h1, q⟩ := q
    have h1 := Nat.eq_of_beq_eq_true h1
    subst h1
    obtain ⟨h2, h⟩ := cond_some q
    clear q
    have h2 := Nat.le_of_ble_eq_true h2
    obtain ⟨cs, h3, h⟩ := obind_some h
    obtain ⟨l, h4, h⟩ := obind_some h
    rw [listK_eq] at h
    obtain ⟨h5, h⟩ := cond_some h
    have h5 := Nat.le_of_ble_eq_true h5
    cases h
    refine memo_calls fun φ w xs ha hR => ?_
    obtain ⟨x, ys, e1, hx, hys⟩ := ha.inv
    obtain ⟨y, zs, rfl, hy, hzs⟩ := hys.inv
    rw [hzs.inv_nil] at e1
    obtain rfl : xs = #[x, y] := by cases xs; simpa using e1
    cases hy with
    | str _ hsep =>
    have key : ∀ (b κ c : Nat), φ id = some (b, κ) → len ≤ c → x = .slice (some ⟨b, off, none⟩) len c → Calls P f #[x, .string (mkS sep)] w fun e w' => ∃ x, e = .returned x ∧ VR φ (.str (joinL sep l)) x ∧ Below w.heap.size w w' := by
      rintro b κ c hφ hlc rfl
      obtain ⟨ys, g1, g2⟩ := cells_get hR hφ h3
      obtain ⟨e2, hb⟩ := strsOf_some cs l ys h4 g1
      have hlen : l.length = len := by
        obtain ⟨ox, _, o2, o3⟩ := cellsAt_sound (P := P) hR hφ h3
        have q1 := g1.1
        have q2 := o2.1
        rw [e2] at q1
        simp at q1 q2
        omega
      have hj : Lib.join ((l.map mkS).map (·.data.toList)) (mkS sep).data.toList = (joinL sep l).map UInt8.ofNat := by
        rw [joinL_eq, List.map_map]
        have e1 : l.map ((fun x : ByteArray => x.data.toList) ∘ mkS) = l.map fun s => s.map UInt8.ofNat := List.map_congr_left fun s _ => by simp [mkS]
        have e2 : (mkS sep).data.toList = sep.map UInt8.ofNat := by simp [mkS]
        rw [e1, e2]
      have hC := hc b off c (l.map mkS) (mkS sep) w (fun j x hx => by
        rw [List.getElem?_map] at hx
        obtain ⟨s, hs, rfl⟩ := Option.map_eq_some_iff.1 hx
        exact g2 j _ (by rw [e2, List.getElem?_map, hs]; rfl)) (hR.lt id b κ hφ) (by simp; omega) (by simp; omega) (by rw [hj]; simp; omega)
      rw [hj] at hC
      simp only [List.length_map, hlen] at hC
      refine hC.mono ?_
      rintro e w' ⟨rfl, hbl⟩
      exact ⟨_, rfl, .str _ (joinL_256 sep hsep l hb), hbl⟩
    cases hx with
    | slk _ _ _ _ c b κ hφ hl hk => exact key b κ c hφ hl rfl
    | slo _ _ _ _ c b κ hφ hl he hk => exact key b κ c hφ hl rfl
  · cases h
end
end Go.Ev
