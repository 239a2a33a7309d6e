/- The evaluator of closed calls: its machine is sound. -/
import Derived.Test.YtopmodahdmnpjaaGreatDoorZEv4
import Derived.OrdersIn
import Derived.RangeFuncIn
namespace Go.Ev
open Go.RowKit
variable [Base]

section
variable {E : Env} {P : Program} {φ : Phi}

/-! the temporaries -/
def TR (φ : Phi) (tm : Tr V) (tmps : Array Value) : Prop := ∀ i v, tm.get i = some v → ∃ x, tmps[i]? = some x ∧ VR φ v x
omit [Base] in
theorem TR.mono {φ' : Phi} (hle : φ.le φ') {tm : Tr V} {tmps : Array Value} (h : TR φ tm tmps) : TR φ' tm tmps := fun i v e => let ⟨x, a, b⟩ := h i v e; ⟨x, a, b.mono hle⟩
omit [Base] in
theorem TR.op {tm : Tr V} {a : Act} (h : TR φ tm a.tmps) : OpR φ tm a.eval := fun x v e => by
  cases x with
  | tmp t =>
    obtain ⟨y, h1, h2⟩ := h t v e
    simp only [Act.eval]
    rw [Array.getD_eq_getD_getElem?, h1]
    exact h2
  | const c => exact ofV_sound φ 20 c v e
  | global g => cases e
  | func f => cases e; exact .fn _ _ _ _ _ rfl (fun i v x a => by simp at a) rfl (fun i v x a => by simp at a)
omit [Base] in
theorem TR.put {tm : Tr V} {tmps : Array Value} (h : TR φ tm tmps) {d : Nat} (hd : d < tmps.size) {v : V} {x : Value} (hv : VR φ v x) : TR φ (tm.set d v) (tmps.setIfInBounds d x) := fun i u e => by
  rw [Tr.get_set] at e
  by_cases hi : i = d
  · subst hi
    rw [if_pos rfl] at e
    cases e
    exact ⟨x, by simp [hd], hv⟩
  · rw [if_neg hi] at e
    obtain ⟨y, h1, h2⟩ := h i u e
    exact ⟨y, by rw [Array.getElem?_setIfInBounds_ne (fun e => hi e.symm)]; exact h1, h2⟩

omit [Base] in
/-- What finK gives. -/
theorem finK_some {β : Type} {no : β} {nt : Nat} {tm : Tr V} {v : V} {K : Tr V → β} {dst : Option Tmp} {r : β} (h : finK no nt tm v K dst = r) (hno : r ≠ no) :
    ∃ tm', K tm' = r ∧ ∀ (φ : Phi) (a : Act) (x : Value), a.tmps.size = nt → TR φ tm a.tmps → VR φ v x → (a.put dst x).tmps.size = nt ∧ TR φ tm' (a.put dst x).tmps ∧ (a.put dst x).defers = a.defers := by
  cases dst with
  | none => exact ⟨tm, h, fun φ a x hs ht _ => ⟨hs, ht, rfl⟩⟩
  | some d =>
    replace h : cond (Nat.ble nt d) no (tm.setK d v K) = r := h
    cases hb : Nat.ble nt d with
    | true => rw [hb] at h; exact absurd h.symm hno
    | false =>
      rw [hb] at h
      replace h : tm.setK d v K = r := h
      rw [Tr.setK_eq] at h
      have hlt := ble_false hb
      exact ⟨_, h, fun φ a x hs ht hv => ⟨by simp [Act.put, hs], ht.put (by omega) hv, rfl⟩⟩

/-! deferred calls -/
def D1 (φ : Phi) : Df → Deferred → Prop
  | .call f c a, d => ∃ c' a' : Array Value, d = { target := .fn f c', args := a' } ∧ VRs φ c c'.toList ∧ VRs φ a a'.toList
  | .mark id, d => ∃ b κ : Nat, d = { target := .collected b, args := #[] } ∧ φ id = some (b, κ)
omit [Base] in
theorem D1.mono {φ' : Phi} (hle : φ.le φ') {x : Df} {d : Deferred} (h : D1 φ x d) : D1 φ' x d := by
  cases x with
  | call f c a => obtain ⟨c', a', q1, q2, q3⟩ := h; exact ⟨c', a', q1, q2.mono hle, q3.mono hle⟩
  | mark id => obtain ⟨b, κ, q1, q2⟩ := h; exact ⟨b, κ, q1, hle _ _ q2⟩
inductive DfR (φ : Phi) : Dfs → List Deferred → Prop where
  | nil : DfR φ [] []
  | cons {x : Df} {d : Deferred} {ds : Dfs} {ds' : List Deferred} (h : D1 φ x d) (hs : DfR φ ds ds') : DfR φ (x :: ds) (d :: ds')
omit [Base] in
theorem DfR.mono {φ' : Phi} (hle : φ.le φ') {ds : Dfs} {ds' : List Deferred} (h : DfR φ ds ds') : DfR φ' ds ds' := by
  induction h with
  | nil => exact .nil
  | cons h hs ih => exact .cons (h.mono hle) ih
omit [Base] in
theorem DfR.inv_nil {ds' : List Deferred} (h : DfR φ [] ds') : ds' = [] := by cases h; rfl
omit [Base] in
theorem DfR.inv {x : Df} {ds : Dfs} {ds' : List Deferred} (h : DfR φ (x :: ds) ds') : ∃ d l, ds' = d :: l ∧ D1 φ x d ∧ DfR φ ds l := by
  cases h with
  | cons h hs => exact ⟨_, _, rfl, h, hs⟩

/-! one step at an operation -/
variable {ops : Array Oper} {i : Nat} {rest : List Nat} {o : Oper} {b : Frame} {a : Act} {k : List Item} {cs : List Frame} {w w' : World}
omit [Base] in
theorem fin_at (ho : ops[i]? = some o) (v : Value) : (b.atR a (.inRegion ops (i :: rest) :: k)).finish v = b.atR (a.put o.dst v) (.inRegion ops rest :: k) := by rw [Frame.finish_atR, ho]; rfl
omit [Base] in
theorem step_value (ho : ops[i]? = some o) (hw : Region.wanted o (yielded ops a.tmps) = true) {v : Value} (hr : (o.semAt b.roundOf a.eval).run P w = .ok (.value v) w') :
    step P (lone (b.atR a (.inRegion ops (i :: rest) :: k)) cs w) = .next (lone (b.atR (a.put o.dst v) (.inRegion ops rest :: k)) cs w') := by
  refine step_lone_go ?_
  rw [stepGR_op ho hw, ← fin_at ho]
  simp [stepG.apply, hr]
omit [Base] in
theorem step_skipped (ho : ops[i]? = some o) (hw : Region.wanted o (yielded ops a.tmps) = true) (hr : (o.semAt b.roundOf a.eval).run P w = .ok .skip w') :
    step P (lone (b.atR a (.inRegion ops (i :: rest) :: k)) cs w) = .next (lone (b.atR (a.put o.dst undef) (.inRegion ops rest :: k)) cs w') := by
  refine step_lone_go ?_
  rw [stepGR_op ho hw, ← fin_at ho]
  simp [stepG.apply, hr]
omit [Base] in
theorem step_unwanted (ho : ops[i]? = some o) (hw : Region.wanted o (yielded ops a.tmps) = false) :
    step P (lone (b.atR a (.inRegion ops (i :: rest) :: k)) cs w) = .next (lone (b.atR (a.put o.dst undef) (.inRegion ops rest :: k)) cs w) := by
  have := stepR_op_skip (P := P) (b := b) (a := a) (k := k) (cs := cs) (w := w) (ops := ops) (i := i) (rest := rest) (by simp [ho, hw])
  rw [ho] at this
  exact this
omit [Base] in
theorem step_enter (ho : ops[i]? = some o) (hw : Region.wanted o (yielded ops a.tmps) = true) {f : FuncId} {args : Array Value} (hr : (o.semAt b.roundOf a.eval).run P w = .ok (.enter f args) w') :
    step P (lone (b.atR a (.inRegion ops (i :: rest) :: k)) cs w) = .next (lone (Frame.enter P f args .normal) (b.atR a (.inRegion ops (i :: rest) :: k) :: cs) w') := by
  refine step_lone_go ?_
  rw [stepGR_op ho hw]
  simp [stepG.apply, hr, Frame.atR]
omit [Base] in
theorem step_round (ho : ops[i]? = some o) (hw : Region.wanted o (yielded ops a.tmps) = true) {l : Nat} {f : FuncId} {tmps : Array Value} {asg body : Code} (hr : (o.semAt b.roundOf a.eval).run P w = .ok (.round l f tmps asg body) w') :
    step P (lone (b.atR a (.inRegion ops (i :: rest) :: k)) cs w) = .next (lone (Frame.round l f tmps asg body .normal) (b.atR a (.inRegion ops (i :: rest) :: k) :: cs) w') := by
  refine step_lone_go ?_
  rw [stepGR_op ho hw]
  simp [stepG.apply, hr, Frame.atR]
omit [Base] in
theorem step_defer (ho : ops[i]? = some o) (hw : Region.wanted o (yielded ops a.tmps) = true) {d : Deferred} (hr : (o.semAt b.roundOf a.eval).run P w = .ok (.defer d) w') :
    step P (lone (b.atR a (.inRegion ops (i :: rest) :: k)) cs w) = .next (lone (b.atR ({ a with defers := d :: a.defers }.put o.dst undef) (.inRegion ops rest :: k)) cs w') := by
  refine step_lone_go ?_
  have : ({ b.atR a (.inRegion ops (i :: rest) :: k) with defers := d :: a.defers } : Frame).finish undef = b.atR ({ a with defers := d :: a.defers }.put o.dst undef) (.inRegion ops rest :: k) := by
    have := Frame.finish_atR b { a with defers := d :: a.defers } ops i rest k undef
    rw [ho] at this; exact this
  rw [stepGR_op ho hw]
  simp only [stepG.apply, Sem.runT_eq, hr, GStep.bare_after]
  exact congrArg (fun fr => GStep.go { frame := fr, callers := cs, status := .running, dying := none } w') this
omit [Base] in
theorem step_recover (hro : b.roundOf = none) (ho : ops[i]? = some o) (hw : Region.wanted o (yielded ops a.tmps) = true) (hr : (o.semAt b.roundOf a.eval).run P w = .ok .recover w') (ht : tryRecover (b.atR a (.inRegion ops (i :: rest) :: k)) cs = none) :
    step P (lone (b.atR a (.inRegion ops (i :: rest) :: k)) cs w) = .next (lone (b.atR (a.put o.dst .nilIface) (.inRegion ops rest :: k)) cs w') := by
  refine step_lone_go ?_
  rw [stepGR_op ho hw, ← fin_at ho]
  have hro : (b.atR a (.inRegion ops (i :: rest) :: k)).roundOf = none := hro
  simp only [stepG.apply, Sem.runT_eq, hr, GStep.bare_after, hro, ht]
  rfl

omit [Base] in
/-- A call that is taken by a contract. -/
theorem steps_prim {R : Ending → World → Prop} (ho : ops[i]? = some o) (hw : Region.wanted o (yielded ops a.tmps) = true) {f : FuncId} {args : Array Value} (hr : (o.semAt b.roundOf a.eval).run P w = .ok (.enter f args) w)
    (hc : Calls P f args w R) (hR : ∀ e w', R e w' → ∃ x, e = .returned x) : ∃ x w', R (.returned x) w' ∧ Steps P (lone (b.atR a (.inRegion ops (i :: rest) :: k)) cs w) (lone (b.atR (a.put o.dst x) (.inRegion ops rest :: k)) cs w') := by
  obtain ⟨e, w', fr, h1, h2, h3, h4⟩ := hc (b.atR a (.inRegion ops (i :: rest) :: k) :: cs)
  obtain ⟨x, rfl⟩ := hR e w' h1
  refine ⟨x, w', h1, .head (step_enter ho hw hr) (Steps.trans h2 (.one ?_))⟩
  rw [← fin_at ho]
  exact step_leave_returned h4
end
end Go.Ev
namespace Go.Ev
open Go.RowKit
variable [Base]

section
variable {E : Env} {P : Program}

def ItemR : I → Item → Prop
  | .code c, x => x = .code c
  | .blk id, x => x = .inBlock id
  | .lp c, x => x = .inLoop c
  | .sc c, x => x = .inScope c
  | .ops all rest, x => ∃ (ops : Array Oper) (k : Nat), x = .inRegion ops (List.range' k (all.length - k)) ∧ ops.toList = all ∧ rest = all.drop k
  | .out, _ => False
  | .begin, x => x = .beginRound
  | .inRF _ _ _ _, _ => False
inductive TodoR : List I → List Item → Prop where
  | nil : TodoR [] []
  | cons {i : I} {x : Item} {l : List I} {k : List Item} (h : ItemR i x) (hs : TodoR l k) : TodoR (i :: l) (x :: k)

omit [Base] in
theorem exitV_sound {id : Nat} {l : List I} {k : List Item} (h : TodoR l k) : ∀ l', exitV id l = some l' → ∃ k', exitTo id k = some k' ∧ TodoR l' k' := by
  induction h with
  | nil => intro l' e; cases e
  | cons hi hs ih =>
    rename_i i x l k
    intro l' e
    cases i with
    | blk id' =>
      obtain rfl := hi
      simp only [exitV] at e
      simp only [exitTo]
      cases hb : Nat.beq id' id with
      | true =>
        rw [hb] at e
        cases e
        have := Nat.eq_of_beq_eq_true hb
        exact ⟨k, by simp [this], hs⟩
      | false =>
        rw [hb] at e
        have hne : id' ≠ id := fun q => by rw [q, Nat.beq_refl] at hb; cases hb
        obtain ⟨k', g1, g2⟩ := ih l' e
        exact ⟨k', by simp [hne, g1], g2⟩
    | code c => obtain rfl := hi; exact ih l' e
    | lp c => obtain rfl := hi; exact ih l' e
    | sc c => obtain rfl := hi; exact ih l' e
    | ops all rest => obtain ⟨ops, q, rfl, _, _⟩ := hi; exact ih l' e
    | out => exact hi.elim
    | begin => obtain rfl := hi; exact ih l' e
    | inRF => exact hi.elim
omit [Base] in
theorem gotoV_sound {id : Nat} {l : List I} {k : List Item} (h : TodoR l k) : ∀ l', gotoV id l = some l' → ∃ k', gotoIn id k = some k' ∧ TodoR l' k' := by
  induction h with
  | nil => intro l' e; cases e
  | cons hi hs ih =>
    rename_i i x l k
    intro l' e
    cases i with
    | sc body =>
      obtain rfl := hi
      simp only [gotoV] at e
      simp only [gotoIn]
      cases hf : findLabel body id with
      | some r =>
        rw [hf] at e
        cases e
        exact ⟨_, rfl, .cons rfl (.cons rfl hs)⟩
      | none =>
        rw [hf] at e
        exact ih l' e
    | code c => obtain rfl := hi; exact ih l' e
    | lp c => obtain rfl := hi; exact ih l' e
    | blk c => obtain rfl := hi; exact ih l' e
    | ops all rest => obtain ⟨ops, q, rfl, _, _⟩ := hi; exact ih l' e
    | out => exact hi.elim
    | begin => obtain rfl := hi; exact ih l' e
    | inRF => exact hi.elim

def kd (dfr : Bool) : CallKind := if dfr then .deferred else .normal
/-- The loop whose round a frame is. -/
inductive RoR (φ : Phi) : Bool → Option Nat → Option Nat → Prop where
  | none (dfr : Bool) : RoR φ dfr none none
  | some (l b κ : Nat) (h : φ l = some (b, κ)) : RoR φ false (some l) (some b)
omit [Base] in
theorem RoR.mono {φ φ' : Phi} (hle : φ.le φ') {dfr : Bool} {rd ro : Option Nat} (h : RoR φ dfr rd ro) : RoR φ' dfr rd ro := by
  cases h with
  | none => exact .none _
  | some l b κ h => exact .some l b κ (hle _ _ h)
structure RunR (φ : Phi) (fn : FuncId) (nt : Nat) (ds : Dfs) (dfr : Bool) (rd : Option Nat) (tm : Tr V) (b : Frame) (a : Act) : Prop where
  fn : b.fn = fn
  kind : b.kind = kd dfr
  size : a.tmps.size = nt
  tm : TR φ tm a.tmps
  ds : DfR φ ds a.defers
  ro : RoR φ dfr rd b.roundOf
omit [Base] in
theorem RunR.mono {φ φ' : Phi} (hle : φ.le φ') {fn : FuncId} {nt : Nat} {ds : Dfs} {dfr : Bool} {rd : Option Nat} {tm : Tr V} {b : Frame} {a : Act} (h : RunR φ fn nt ds dfr rd tm b a) : RunR φ' fn nt ds dfr rd tm b a :=
  ⟨h.fn, h.kind, h.size, h.tm.mono hle, h.ds.mono hle, h.ro.mono hle⟩
/-- The record of a loop and the frame that goes round in it. -/
structure LMatch (r : Loop) (fn : FuncId) (tmps : Array Value) (ps : List Tmp) (as c : Code) : Prop where
  fn : r.fn = fn
  tmps : r.tmps = tmps
  params : r.params.toList = ps
  assign : r.assign = as
  body : r.body = c
inductive FrR (φ : Phi) (w : World) (fn : FuncId) (nt : Nat) (ds : Dfs) (dfr : Bool) (tm : Tr V) : Option Nat → List I → Frame → Prop where
  | run {rd : Option Nat} {todo : List I} {k : List Item} {b : Frame} {a : Act} (h : RunR φ fn nt ds dfr rd tm b a) (ht : TodoR todo k) : FrR φ w fn nt ds dfr tm rd todo (b.atR a k)
  | out {rest : List I} {k : List Item} {b : Frame} {a : Act} (h : RunR φ fn nt ds dfr none tm b a) : FrR φ w fn nt ds dfr tm none (.out :: rest) { b.atR a k with mode := .returning }
  | loop {rd : Option Nat} {todo : List I} {k : List Item} {b : Frame} {a : Act} {l bl κ : Nat} {ps : List Tmp} {as c : Code} {r : Loop} (h : RunR φ fn nt ds dfr rd tm b a) (ht : TodoR todo k) (hφ : φ l = some (bl, κ))
      (hw : w.heap[bl]? = some (Obj.loop r)) (hm : LMatch r fn a.tmps ps as c) : FrR φ w fn nt ds dfr tm rd (.inRF l ps as c :: todo) (b.atR a (.inRangeFunc bl :: k))
omit [Base] in
theorem FrR.mono {φ φ' : Phi} {w w' : World} (hc : Chg φ w φ' w') {fn : FuncId} {nt : Nat} {ds : Dfs} {dfr : Bool} {rd : Option Nat} {tm : Tr V} {todo : List I} {fr : Frame} (h : FrR φ w fn nt ds dfr tm rd todo fr) : FrR φ' w' fn nt ds dfr tm rd todo fr := by
  cases h with
  | run h ht => exact .run (h.mono hc.le) ht
  | out h => exact .out (h.mono hc.le)
  | loop h ht hφ hw hm =>
    obtain ⟨r', e1, e2⟩ := hc.loops _ _ hw
    exact .loop (h.mono hc.le) ht (hc.le _ _ hφ) e1 ⟨e2.fn.trans hm.fn, e2.tmps.trans hm.tmps, (congrArg Array.toList e2.params).trans hm.params, e2.assign.trans hm.assign, e2.body.trans hm.body⟩
inductive CsR (φ : Phi) (w : World) : Bool → List Fr → List Frame → Prop where
  | nil : CsR φ w false [] []
  | cons (dfr0 : Bool) {fn : FuncId} {nt : Nat} {ds : Dfs} {dfr : Bool} {rd : Option Nat} {tm : Tr V} {todo : List I} {fr : Frame} {cs : List Fr} {frs : List Frame} (h : FrR φ w fn nt ds dfr tm rd todo fr) (hs : CsR φ w dfr cs frs) :
      CsR φ w dfr0 (⟨fn, nt, ds, dfr, rd, tm, todo⟩ :: cs) (fr :: frs)
omit [Base] in
theorem CsR.mono {φ φ' : Phi} {w w' : World} (hc : Chg φ w φ' w') {dfr : Bool} {cs : List Fr} {frs : List Frame} (h : CsR φ w dfr cs frs) : CsR φ' w' dfr cs frs := by
  induction h with
  | nil => exact .nil
  | cons d h hs ih => exact .cons d (h.mono hc) ih
omit [Base] in
theorem CsR.noRecover {φ : Phi} {w : World} {cs : List Fr} {frs cs0 : List Frame} {fr : Frame} {dfr : Bool} (h : CsR φ w dfr cs frs) (hd : dfr = true) (hk : fr.kind = .deferred) : tryRecover fr (frs ++ cs0) = none := by
  cases h with
  | nil => cases hd
  | cons d h hs =>
    rw [List.cons_append]
    unfold tryRecover
    rw [hk]
    cases h with
    | run h ht => rfl
    | out h => rfl
    | loop h ht hφ hw hm => rfl

omit [Base] in
theorem wanted_eq {φ : Phi} {ops : Array Oper} {all : List Oper} (hall : ops.toList = all) {tm : Tr V} {tmps : Array Value} (ht : TR φ tm tmps) {o : Oper} {g : Nat × Bool} (hg : o.guard = some g) {bb : Bool} (h : guardV all tm g = some bb) :
    Region.wanted o (yielded ops tmps) = bb := by
  obtain ⟨j, want⟩ := g
  unfold Region.wanted
  rw [hg]
  simp only [guardV, nth_eq, ← hall, Array.getElem?_toList] at h
  unfold yielded
  cases ho : ops[j]? with
  | none => rw [ho] at h; cases h; simp [ho]
  | some o' =>
    rw [ho] at h
    replace h : guardD tm want o'.dst = some bb := h
    cases hd : o'.dst with
    | none => rw [hd] at h; cases h; simp [ho, hd]
    | some d =>
      rw [hd] at h
      obtain ⟨v, h1, h2⟩ := obind_some h
      obtain ⟨x, h3, h4⟩ := ht d v h1
      simp only [ho, Option.bind_some, hd, h3]
      simp only [Option.some.injEq] at h2
      subst h2
      cases h4 <;> first | rfl | (show _ = boolEq _ _; rw [boolEq_eq]; rename_i bb; cases bb <;> cases want <;> rfl)

omit [Base] in
theorem undef_sound (φ : Phi) : VR φ undefV undef := VRs.tup (xs := #[]) .nil
omit [Base] in
theorem range_cons {k n : Nat} (h : k < n) : List.range' k (n - k) = k :: List.range' (k + 1) (n - (k + 1)) := by
  have : n - k = (n - (k + 1)) + 1 := by omega
  rw [this, List.range'_succ]

variable {ops : Array Oper} {all : List Oper} {fn : FuncId} {nt : Nat} {ds : Dfs} {dfr : Bool} {rd : Option Nat} {b : Frame} {K : List Item} {cs : List Frame}

/-- What the operations of a region leave. -/
def OutR (P : Program) (ops : Array Oper) (all : List Oper) (fn : FuncId) (nt : Nat) (ds : Dfs) (dfr : Bool) (rd : Option Nat) (b : Frame) (K : List Item) (cs : List Frame) (φ : Phi) (w : World) (m : Machine) : Out → Prop
  | .stop => True
  | .done tm' st' => ∃ φ' a' w', Steps P m (lone (b.atR a' (.inRegion ops [] :: K)) cs w') ∧ Chg φ w φ' w' ∧ Rep φ' st' w' ∧ RunR φ' fn nt ds dfr rd tm' b a'
  | .call rest' f args tm' st' => ∃ φ' a' w' k' xs, Steps P m (lone (Frame.enter P f xs .normal) (b.atR a' (.inRegion ops (List.range' k' (all.length - k')) :: K) :: cs) w') ∧ Chg φ w φ' w' ∧ Rep φ' st' w' ∧ RunR φ' fn nt ds dfr rd tm' b a' ∧
      VRs φ' args xs.toList ∧ rest' = all.drop k'
  | .round rest' l args tm' st' => ∃ φ' a' w' k' bl κ, ∃ xs : Array Value, (∀ rec : Loop, w'.heap[bl]? = some (Obj.loop rec) → xs.size = rec.params.size →
        Steps P m (lone (Frame.round bl rec.fn ((rec.params.zip xs).foldl (fun tmps (t, a) => tmps.setIfInBounds t a) rec.tmps) rec.assign rec.body .normal) (b.atR a' (.inRegion ops (List.range' k' (all.length - k')) :: K) :: cs) w')) ∧
      Chg φ w φ' w' ∧ Rep φ' st' w' ∧ RunR φ' fn nt ds dfr rd tm' b a' ∧ VRs φ' args xs.toList ∧ φ' l = some (bl, κ) ∧ rest' = all.drop k'
  | .defer rest' d tm' st' => b.roundOf = none → ∃ φ' a' w' k', Steps P m (lone (b.atR a' (.inRegion ops (List.range' k' (all.length - k')) :: K)) cs w') ∧ Chg φ w φ' w' ∧ Rep φ' st' w' ∧ RunR φ' fn nt (d :: ds) dfr rd tm' b a' ∧ rest' = all.drop k'
theorem OutR.of_steps {φ φ1 : Phi} {w w1 : World} {m m1 : Machine} {out : Out} (hs : Steps P m m1) (hc : Chg φ w φ1 w1) (h : OutR P ops all fn nt ds dfr rd b K cs φ1 w1 m1 out) : OutR P ops all fn nt ds dfr rd b K cs φ w m out := by
  cases out with
  | stop => trivial
  | done tm st => obtain ⟨φ', a', w', h1, h2, h3⟩ := h; exact ⟨φ', a', w', hs.trans h1, hc.trans h2, h3⟩
  | call r f args tm st => obtain ⟨φ', a', w', k', xs, h1, h2, h3⟩ := h; exact ⟨φ', a', w', k', xs, hs.trans h1, hc.trans h2, h3⟩
  | round r l args tm st => obtain ⟨φ', a', w', k', bl, κ, xs, h1, h2, h3⟩ := h; exact ⟨φ', a', w', k', bl, κ, xs, fun rec e1 e2 => hs.trans (h1 rec e1 e2), hc.trans h2, h3⟩
  | defer r d tm st => intro hro; obtain ⟨φ', a', w', k', h1, h2, h3⟩ := h hro; exact ⟨φ', a', w', k', hs.trans h1, hc.trans h2, h3⟩

omit [Base] in
theorem evOp_defer {op : Op} {st : St} {tm : Tr V} {r : Res} (h : evOp op E tm st = some r) (hr : ∀ f c a s, r ≠ .defer f c a s) : ∀ c, op ≠ .defer c := by
  intro c e
  subst e
  obtain ⟨callee, as, ats⟩ := c
  obtain ⟨vs, h1, h2⟩ := obind_some (show obind (operands tm as.toList) (fun args => evDeferC args callee E tm st) = some r from h)
  cases callee <;> first | (cases h2; done) | skip
  obtain ⟨v, h3, h4⟩ := obind_some h2
  cases v <;> first | (cases h4; done) | skip
  rename_i f g first captured
  replace h4 : listK (first ++ vs) (fun all => some (Res.defer g captured all st)) = some r := h4
  rw [listK_eq] at h4
  cases h4
  exact hr _ _ _ _ rfl

theorem opsRun_sound (hE : EnvOK E P) (hall : ops.toList = all) (hrec : dfr = true → ∀ fr : Frame, fr.kind = .deferred → tryRecover fr cs = none) :
    ∀ (rest : List Oper) (k : Nat), rest = all.drop k → ∀ (tm : Tr V) (st : St) (a : Act) (w : World) (φ : Phi), RunR φ fn nt ds dfr rd tm b a → Rep φ st w →
      OutR P ops all fn nt ds dfr rd b K cs φ w (lone (b.atR a (.inRegion ops (List.range' k (all.length - k)) :: K)) cs w) (opsRun E rest all nt dfr tm st) := by
  intro rest
  induction rest with
  | nil =>
    intro k hk tm st a w φ hA hR
    have hlen : all.length - k = 0 := by have := congrArg List.length hk; simp at this; omega
    rw [hlen]
    exact ⟨φ, a, w, Steps.refl P _, Chg.refl φ w, hR, hA⟩
  | cons o rest ih =>
    intro k hk tm st a w φ hA hR
    have hlt : k < all.length := by
      have := congrArg List.length hk; simp at this; omega
    have ho : ops[k]? = some o := by
      have h1 : all[k]? = some o := by
        have := congrArg (fun l => l[0]?) hk
        simpa using this.symm
      rw [← Array.getElem?_toList, hall]; exact h1
    have hk' : rest = all.drop (k + 1) := by
      have := congrArg List.tail hk
      simpa using this
    rw [range_cons hlt]
    -- what follows behind a value
    have next : ∀ (φ1 : Phi) (w1 : World) (st1 : St) (v : V) (x : Value), Steps P (lone (b.atR a (.inRegion ops (k :: List.range' (k + 1) (all.length - (k + 1))) :: K)) cs w) (lone (b.atR (a.put o.dst x) (.inRegion ops (List.range' (k + 1) (all.length - (k + 1))) :: K)) cs w1) →
        Chg φ w φ1 w1 → Rep φ1 st1 w1 → VR φ1 v x →
        OutR P ops all fn nt ds dfr rd b K cs φ w (lone (b.atR a (.inRegion ops (k :: List.range' (k + 1) (all.length - (k + 1))) :: K)) cs w) (finK .stop nt tm v (fun tm' => opsRun E rest all nt dfr tm' st1) o.dst) := by
      intro φ1 w1 st1 v x hs hc hR1 hv
      by_cases hst : finK .stop nt tm v (fun tm' => opsRun E rest all nt dfr tm' st1) o.dst = .stop
      · rw [hst]; trivial
      · obtain ⟨tm', h1, h2⟩ := finK_some rfl hst
        obtain ⟨q1, q2, q3⟩ := h2 φ1 a x hA.size (hA.tm.mono hc.le) hv
        rw [← h1]
        refine OutR.of_steps hs hc (ih (k + 1) hk' tm' st1 (a.put o.dst x) w1 φ1 ⟨hA.fn, hA.kind, q1, q2, by rw [q3]; exact hA.ds.mono hc.le, hA.ro.mono hc.le⟩ hR1)
    -- the operation itself
    have go : Region.wanted o (yielded ops a.tmps) = true → OutR P ops all fn nt ds dfr rd b K cs φ w (lone (b.atR a (.inRegion ops (k :: List.range' (k + 1) (all.length - (k + 1))) :: K)) cs w) (goOp E o rest (opsRun E rest) all nt dfr tm st) := by
      intro hw
      unfold goOp
      cases he : evOp o.op E tm st with
      | none => trivial
      | some r =>
        have hres := evOp_sound (P := P) hE hR hA.tm.op he
        have sem : (∀ f c a s, r ≠ .defer f c a s) → o.semAt b.roundOf a.eval = execOp a.eval o := fun hr => o.semAt_eq _ _ (evOp_defer he hr)
        cases r with
        | val v st1 =>
          have sem := sem (by intros; simp)
          rcases hres with ⟨φ1, x, w1, e1, e2, e3, e4⟩ | ⟨f, xs, e1, e2⟩ <;> rw [← sem] at e1
          · exact next φ1 w1 st1 v x (.one (step_value ho hw e1)) e2 e3 e4
          · obtain ⟨x, w1, ⟨φ1, y, e3, e4, e5, e6⟩, hs⟩ := steps_prim (b := b) (k := K) (cs := cs) (rest := List.range' (k + 1) (all.length - (k + 1))) ho hw e1 e2 (fun e w' ⟨φ', x, h, _⟩ => ⟨x, h⟩)
            cases e3
            exact next φ1 w1 st1 v x hs e4 e5 e6
        | skip st1 =>
          have sem := sem (by intros; simp)
          obtain ⟨φ1, w1, e1, e2, e3⟩ := hres
          rw [← sem] at e1
          exact next φ1 w1 st1 undefV undef (.one (step_skipped ho hw e1)) e2 e3 (undef_sound φ1)
        | enter f args st1 =>
          have sem := sem (by intros; simp)
          obtain ⟨xs, e1, e2, e3⟩ := hres
          rw [← sem] at e1
          exact ⟨φ, a, w, k, xs, by rw [range_cons hlt]; exact .one (step_enter ho hw e1), Chg.refl φ w, e3, hA, e2, hk⟩
        | round l args st1 =>
          have sem := sem (by intros; simp)
          obtain ⟨xs, bl, κ, e0, e2, e3, e1⟩ := hres
          exact ⟨φ, a, w, k, bl, κ, xs, fun rec q1 q2 => by rw [range_cons hlt]; exact .one (step_round ho hw (by rw [sem]; exact e1 rec q1 q2)), Chg.refl φ w, e3, hA, e2, e0, hk⟩
        | defer f captured args st1 =>
          obtain ⟨c', a', e1, e2, e3, e4⟩ := hres
          by_cases hst : finK .stop nt tm undefV (fun tm' => Out.defer rest (.call f captured args) tm' st1) o.dst = .stop
          · show OutR P ops all fn nt ds dfr rd b K cs φ w _ (finK .stop nt tm undefV (fun tm' => Out.defer rest (.call f captured args) tm' st1) o.dst)
            rw [hst]; trivial
          · obtain ⟨tm', h1, h2⟩ := finK_some rfl hst
            show OutR P ops all fn nt ds dfr rd b K cs φ w _ (finK .stop nt tm undefV (fun tm' => Out.defer rest (.call f captured args) tm' st1) o.dst)
            rw [← h1]
            obtain ⟨q1, q2, q3⟩ := h2 φ { a with defers := { target := .fn f c', args := a' } :: a.defers } undef hA.size hA.tm (undef_sound φ)
            exact fun hro => ⟨φ, _, w, k + 1, .one (step_defer ho hw (by rw [hro]; exact e1)), Chg.refl φ w, e4, ⟨hA.fn, hA.kind, q1, q2, by rw [q3]; exact .cons ⟨c', a', rfl, e2, e3⟩ hA.ds, hA.ro⟩, hk'⟩
        | recover st1 =>
          have sem := sem (by intros; simp)
          obtain ⟨e1, e2⟩ := hres
          rw [← sem] at e1
          show OutR P ops all fn nt ds dfr rd b K cs φ w _ (cond dfr (finK .stop nt tm .nili (fun tm' => opsRun E rest all nt dfr tm' st1) o.dst) .stop)
          cases hd : dfr with
          | false => trivial
          | true =>
            have hk2 : (b.atR a (.inRegion ops (k :: List.range' (k + 1) (all.length - (k + 1))) :: K)).kind = .deferred := by
              show b.kind = _
              rw [hA.kind, hd]; rfl
            have hro : b.roundOf = none := by have := hA.ro; rw [hd] at this; generalize b.roundOf = q at this; cases this; rfl
            have := next φ w st1 .nili .nilIface (.one (step_recover hro ho hw e1 (hrec hd _ hk2))) (Chg.refl φ w) e2 .nili
            rw [hd] at this
            exact this
    show OutR P ops all fn nt ds dfr rd b K cs φ w _ (guarded E o rest (opsRun E rest) o.guard all nt dfr tm st)
    cases hg : o.guard with
    | none => exact go (by unfold Region.wanted; rw [hg])
    | some g =>
      show OutR P ops all fn nt ds dfr rd b K cs φ w _ (optOut (guardV all tm g) fun w => cond w (goOp E o rest (opsRun E rest) all nt dfr tm st) (finK .stop nt tm undefV (fun tm' => opsRun E rest all nt dfr tm' st) o.dst))
      cases hw : guardV all tm g with
      | none => trivial
      | some bb =>
        have hwant := wanted_eq hall hA.tm hg hw
        cases bb with
        | true => exact go hwant
        | false => exact next φ w st undefV undef (.one (step_unwanted ho hwant)) (Chg.refl φ w) hR (undef_sound φ)
end
end Go.Ev
namespace Go.Ev
open Go.RowKit
variable [Base]

section
variable {E : Env} {P : Program}

def Uniq (a : V) : Prop := ∀ (φ : Phi) (x y : Value), VR φ a x → VR φ a y → x = y
omit [Base] in
theorem natbeq {a b : Nat} (h : Nat.beq a b = true) : a = b := Nat.eq_of_beq_eq_true h
omit [Base] in
theorem condT {a b : Bool} (h : cond a b false = true) : a = true ∧ b = true := by
  cases a with
  | false => cases h
  | true => exact ⟨rfl, h⟩
omit [Base] in
theorem strEq_id {a b : List Nat} (h : strEq a b = true) : a = b := by
  induction a generalizing b with
  | nil => cases b with
    | nil => rfl
    | cons y b => cases h
  | cons x a ih => cases b with
    | nil => cases h
    | cons y b =>
      obtain ⟨h1, h2⟩ := condT h
      rw [natbeq h1, ih h2]
omit [Base] in
theorem phi_fn {φ : Phi} {id b κ b' κ' : Nat} (h : φ id = some (b, κ)) (k : φ id = some (b', κ')) : b = b' ∧ κ = κ' := by rw [h] at k; cases k; exact ⟨rfl, rfl⟩

omit [Base] in
theorem sameL_sound {f : Nat} (ih : ∀ a b : V, sameV f a b = true → a = b ∧ Uniq a) : ∀ l m : List V, sameV.sameL f l m = true → l = m ∧ ∀ (φ : Phi) (xs ys : List Value), VRs φ l xs → VRs φ l ys → xs = ys := by
  intro l
  induction l with
  | nil => intro m h; cases m with
    | nil => exact ⟨rfl, fun φ xs ys h1 h2 => by rw [h1.inv_nil, h2.inv_nil]⟩
    | cons b m => simp [sameV.sameL] at h
  | cons a l ih2 => intro m h; cases m with
    | nil => simp [sameV.sameL] at h
    | cons b m =>
      rw [sameV.sameL] at h
      obtain ⟨h1, h2⟩ := condT h
      obtain ⟨rfl, q1⟩ := ih a b h1
      obtain ⟨rfl, q2⟩ := ih2 m h2
      refine ⟨rfl, fun φ xs ys h3 h4 => ?_⟩
      obtain ⟨x, xs', rfl, hx, hxs⟩ := h3.inv
      obtain ⟨y, ys', rfl, hy, hys⟩ := h4.inv
      rw [q1 φ x y hx hy, q2 φ xs' ys' hxs hys]

omit [Base] in
theorem arr_eq {a b : Array Value} (h : a.toList = b.toList) : a = b := Array.ext' h
omit [Base] in
theorem sameV_sound : ∀ (f : Nat) (a b : V), sameV f a b = true → a = b ∧ Uniq a := by
  intro f
  induction f with
  | zero => intro a b h; simp [sameV] at h
  | succ f ih =>
    intro a b h
    have hl := sameL_sound ih
    cases a with
    | bool a =>
      cases b <;> first | (simp [sameV] at h; done) | skip
      rw [sameV, boolEq_eq] at h
      exact ⟨by rw [beq_iff_eq.1 h], fun φ x y h1 h2 => by cases h1; cases h2; rfl⟩
    | int k n =>
      cases b <;> first | (simp [sameV] at h; done) | skip
      rw [sameV] at h
      obtain ⟨h1, h2⟩ := condT h
      rw [intEq_eq] at h2
      rw [kEq_eq h1, beq_iff_eq.1 h2]
      exact ⟨rfl, fun φ x y h1 h2 => by cases h1; cases h2; rfl⟩
    | str s =>
      cases b <;> first | (simp [sameV] at h; done) | skip
      rw [sameV] at h
      rw [strEq_id h]
      exact ⟨rfl, fun φ x y h1 h2 => by cases h1; cases h2; rfl⟩
    | nilp =>
      cases b <;> first | (simp [sameV] at h; done) | skip
      exact ⟨rfl, fun φ x y h1 h2 => by cases h1; cases h2; rfl⟩
    | ptr i o =>
      cases b <;> first | (simp [sameV] at h; done) | skip
      rw [sameV] at h
      obtain ⟨h1, h2⟩ := condT h
      rw [natbeq h1, natbeq h2]
      exact ⟨rfl, fun φ x y h1 h2 => by
        cases h1 with | ptr _ _ b κ q1 => cases h2 with | ptr _ _ b' κ' q2 => rw [(phi_fn q1 q2).1]⟩
    | nils =>
      cases b <;> first | (simp [sameV] at h; done) | skip
      exact ⟨rfl, fun φ x y h1 h2 => by cases h1; cases h2; rfl⟩
    | sl i o n e c =>
      cases b <;> first | (simp [sameV] at h; done) | skip
      rename_i i' o' n' e' c'
      cases c with
      | none =>
        cases c' <;> first | (simp [sameV] at h; done) | skip
        rw [sameV] at h
        obtain ⟨h1, h⟩ := condT h
        obtain ⟨h2, h⟩ := condT h
        obtain ⟨h3, h4⟩ := condT h
        rw [natbeq h1, natbeq h2, natbeq h3, natbeq h4]
        exact ⟨rfl, fun φ x y h1 h2 => by
          cases h1 with | slo _ _ _ _ c b κ q1 q2 q3 q4 => cases h2 with | slo _ _ _ _ c' b' κ' p1 p2 p3 p4 =>
            obtain ⟨rfl, rfl⟩ := phi_fn q1 p1
            have : c = c' := by
              have : c * e' = c' * e' := by omega
              exact Nat.eq_of_mul_eq_mul_right q3 this
            rw [this]⟩
      | some c =>
        cases c' <;> first | (simp [sameV] at h; done) | skip
        rw [sameV] at h
        obtain ⟨h1, h⟩ := condT h
        obtain ⟨h2, h⟩ := condT h
        obtain ⟨h3, h⟩ := condT h
        obtain ⟨h4, h5⟩ := condT h
        rw [natbeq h1, natbeq h2, natbeq h3, natbeq h4, natbeq h5]
        exact ⟨rfl, fun φ x y h1 h2 => by
          cases h1 with | slk _ _ _ _ c b κ q1 q2 q3 => cases h2 with | slk _ _ _ _ c' b' κ' p1 p2 p3 => rw [(phi_fn q1 p1).1]⟩
    | esl => cases b <;> simp [sameV] at h
    | nilm =>
      cases b <;> first | (simp [sameV] at h; done) | skip
      exact ⟨rfl, fun φ x y h1 h2 => by cases h1; cases h2; rfl⟩
    | map i =>
      cases b <;> first | (simp [sameV] at h; done) | skip
      rw [sameV] at h
      rw [natbeq h]
      exact ⟨rfl, fun φ x y h1 h2 => by
        cases h1 with | map _ b κ q1 => cases h2 with | map _ b' κ' q2 => rw [(phi_fn q1 q2).1]⟩
    | fn g as cs =>
      cases b <;> first | (simp [sameV] at h; done) | skip
      rename_i g' as' cs'
      cases g <;> first | (simp [sameV] at h; done) | skip
      cases g' <;> first | (simp [sameV] at h; done) | skip
      rw [sameV] at h
      obtain ⟨h1, h⟩ := condT h
      obtain ⟨h2, h3⟩ := condT h
      obtain ⟨rfl, k1⟩ := hl _ _ h2
      obtain ⟨rfl, k2⟩ := hl _ _ h3
      rw [natbeq h1]
      refine ⟨rfl, fun φ x y h1 h2 => ?_⟩
      cases h1 with
      | fn _ _ _ a1 c1 q1 q2 q3 q4 =>
        cases h2 with
        | fn _ _ _ a2 c2 p1 p2 p3 p4 =>
          have e1 := k1 φ a1.toList a2.toList ⟨by simpa using q1, fun i v x p q => q2 i v x p (by simpa using q)⟩ ⟨by simpa using p1, fun i v x p q => p2 i v x p (by simpa using q)⟩
          have e2 := k2 φ c1.toList c2.toList ⟨by simpa using q3, fun i v x p q => q4 i v x p (by simpa using q)⟩ ⟨by simpa using p3, fun i v x p q => p4 i v x p (by simpa using q)⟩
          rw [arr_eq e1, arr_eq e2]
    | nilf =>
      cases b <;> first | (simp [sameV] at h; done) | skip
      exact ⟨rfl, fun φ x y h1 h2 => by cases h1; cases h2; rfl⟩
    | iface t u =>
      cases b <;> first | (simp [sameV] at h; done) | skip
      rw [sameV] at h
      obtain ⟨h1, h2⟩ := condT h
      obtain ⟨rfl, q⟩ := ih _ _ h2
      rw [natbeq h1]
      exact ⟨rfl, fun φ x y h1 h2 => by
        cases h1 with | iface _ _ x1 q1 => cases h2 with | iface _ _ x2 q2 => rw [q φ x1 x2 q1 q2]⟩
    | nili =>
      cases b <;> first | (simp [sameV] at h; done) | skip
      exact ⟨rfl, fun φ x y h1 h2 => by cases h1; cases h2; rfl⟩
    | agg cs =>
      cases b <;> first | (simp [sameV] at h; done) | skip
      rw [sameV] at h
      obtain ⟨rfl, k⟩ := hl _ _ h
      refine ⟨rfl, fun φ x y h1 h2 => ?_⟩
      obtain ⟨a1, rfl, q1⟩ := h1.inv_agg
      obtain ⟨a2, rfl, q2⟩ := h2.inv_agg
      rw [arr_eq (k φ _ _ q1 q2)]
    | tup cs =>
      cases b <;> first | (simp [sameV] at h; done) | skip
      rw [sameV] at h
      obtain ⟨rfl, k⟩ := hl _ _ h
      refine ⟨rfl, fun φ x y h1 h2 => ?_⟩
      obtain ⟨a1, rfl, q1⟩ := h1.inv_tup
      obtain ⟨a2, rfl, q2⟩ := h2.inv_tup
      rw [arr_eq (k φ _ _ q1 q2)]
    | yld i =>
      cases b <;> first | (simp [sameV] at h; done) | skip
      rw [sameV] at h
      rw [natbeq h]
      exact ⟨rfl, fun φ x y h1 h2 => by
        cases h1 with | yld _ b κ q1 => cases h2 with | yld _ b' κ' q2 => rw [(phi_fn q1 q2).1]⟩

omit [Base] in
theorem twinL_sound {f : Nat} (ih : ∀ a b : V, twinV f a b = true → a = b) : ∀ l m : List V, twinV.twinL f l m = true → l = m := by
  intro l
  induction l with
  | nil => intro m h; cases m with
    | nil => rfl
    | cons b m => simp [twinV.twinL] at h
  | cons a l ih2 => intro m h; cases m with
    | nil => simp [twinV.twinL] at h
    | cons b m =>
      rw [twinV.twinL] at h
      obtain ⟨h1, h2⟩ := condT h
      rw [ih a b h1, ih2 m h2]
omit [Base] in
theorem twinV_sound : ∀ (f : Nat) (a b : V), twinV f a b = true → a = b := by
  intro f
  induction f with
  | zero => intro a b h; simp [twinV] at h
  | succ f ih =>
    intro a b h
    cases a with
    | esl => cases b <;> first | rfl | exact (sameV_sound _ _ _ (show sameV (Nat.succ f) _ _ = true from h)).1
    | iface t a => cases b with
      | iface u b =>
        obtain ⟨h1, h2⟩ := condT (show cond (Nat.beq t u) (twinV f a b) false = true from h)
        rw [natbeq h1, ih _ _ h2]
      | _ => exact (sameV_sound _ _ _ (show sameV (Nat.succ f) _ _ = true from h)).1
    | agg a => cases b with
      | agg b => rw [twinL_sound ih a b h]
      | _ => exact (sameV_sound _ _ _ (show sameV (Nat.succ f) _ _ = true from h)).1
    | tup a => cases b with
      | tup b => rw [twinL_sound ih a b h]
      | _ => exact (sameV_sound _ _ _ (show sameV (Nat.succ f) _ _ = true from h)).1
    | _ => exact (sameV_sound _ _ _ (show sameV (Nat.succ f) _ _ = true from h)).1
omit [Base] in
theorem sameTr_sound {α : Type} {f : α → α → Bool} (hf : ∀ a b, f a b = true → a = b) : ∀ s t : Tr α, sameTr f s t = true → s = t := by
  intro s
  induction s with
  | e => intro t h; cases t with
    | e => rfl
    | n v l r => simp [sameTr] at h
  | n v l r ihl ihr => intro t h; cases t with
    | e => simp [sameTr] at h
    | n u l' r' =>
      cases v with
      | none =>
        cases u with
        | none =>
          rw [sameTr] at h
          obtain ⟨h1, h2⟩ := condT h
          rw [ihl _ h1, ihr _ h2]
        | some u => simp [sameTr] at h
      | some v =>
        cases u with
        | none => simp [sameTr] at h
        | some u =>
          rw [sameTr] at h
          obtain ⟨h0, h⟩ := condT h
          obtain ⟨h1, h2⟩ := condT h
          rw [hf _ _ h0, ihl _ h1, ihr _ h2]
omit [Base] in
theorem sameCell_sound (a b : V × Nat) (h : sameCell a b = true) : a = b := by
  obtain ⟨a, s⟩ := a
  obtain ⟨b, t⟩ := b
  obtain ⟨h1, h2⟩ := condT h
  rw [natbeq h1, twinV_sound 20 a b h2]
omit [Base] in
theorem sameEs_sound : ∀ l k : List (V × V × Nat), sameEs l k = true → l = k := by
  intro l
  induction l with
  | nil => intro k h; cases k with
    | nil => rfl
    | cons b k => simp [sameEs] at h
  | cons a l ih => intro k h; cases k with
    | nil => simp [sameEs] at h
    | cons b k =>
      obtain ⟨a1, a2, n⟩ := a
      obtain ⟨b1, b2, m⟩ := b
      rw [sameEs] at h
      obtain ⟨h1, h⟩ := condT h
      obtain ⟨h2, h⟩ := condT h
      obtain ⟨h3, h4⟩ := condT h
      rw [twinV_sound 20 _ _ h1, twinV_sound 20 _ _ h2, natbeq h3, ih k h4]
omit [Base] in
theorem sameO_sound {x y : Option TypeId} (h : sameO x y = true) : x = y := by
  cases x <;> cases y <;> first | rfl | (cases h; done) | (rw [Nat.eq_of_beq_eq_true h])
omit [Base] in
theorem sameLS_sound {a b : LoopSt} (h : sameLS a b = true) : a = b := by cases a <;> cases b <;> first | rfl | cases h
omit [Base] in
theorem sameJ_sound {a b : Option Jmp} (h : sameJ a b = true) : a = b := by
  cases a with
  | none => cases b with
    | none => rfl
    | some b => cases h
  | some a => cases b with
    | none => cases a <;> cases h
    | some b => cases a <;> cases b <;> first | rfl | (cases h; done) | (rw [natbeq h])
omit [Base] in
theorem sameOV_sound (a b : OV) (h : sameOV a b = true) : a = b := by
  cases a <;> cases b <;> first | rfl | (cases h; done) | skip
  · obtain ⟨h1, h2⟩ := condT (show cond (Nat.beq _ _) _ false = true from h)
    rw [natbeq h1, strEq_id h2]
  · obtain ⟨h1, h⟩ := condT (show cond (Nat.beq _ _) _ false = true from h)
    obtain ⟨h2, h⟩ := condT h
    obtain ⟨h3, h4⟩ := condT h
    rw [natbeq h1, natbeq h2, strEq_id h3, natbeq h4]
  · obtain ⟨h1, h2⟩ := condT (show cond (sameLS _ _) _ false = true from h)
    rw [sameLS_sound h1, sameJ_sound h2]
omit [Base] in
theorem sameBlk_sound (a b : Blk) (h : sameBlk a b = true) : a = b := by
  cases a <;> cases b <;> first | (simp [sameBlk] at h; done) | skip
  · rw [sameBlk] at h
    obtain ⟨h1, h⟩ := condT h
    obtain ⟨h2, h⟩ := condT h
    obtain ⟨h4, h3⟩ := condT h
    rw [natbeq h1, natbeq h2, sameO_sound h4, sameTr_sound sameCell_sound _ _ h3]
  · rw [sameBlk] at h
    obtain ⟨h1, h2⟩ := condT h
    rw [natbeq h1, natbeq h2]
  · rw [sameBlk] at h
    obtain ⟨h1, h2⟩ := condT h
    rw [natbeq h1, sameEs_sound _ _ h2]
  · rw [sameBlk] at h
    rw [sameOV_sound _ _ h]
  · rfl
omit [Base] in
theorem sameRes_sound (a b : Tr V × St) (h : sameRes a b = true) : a = b := by
  obtain ⟨tm, n, bl⟩ := a
  obtain ⟨tm', n', bl'⟩ := b
  rw [sameRes] at h
  obtain ⟨h1, h⟩ := condT h
  obtain ⟨h2, h3⟩ := condT h
  rw [natbeq h1, sameTr_sound (twinV_sound 20) _ _ h2, sameTr_sound sameBlk_sound _ _ h3]
end
end Go.Ev
namespace Go.Ev
open Go.RowKit
variable [Base]

section
variable {P : Program} {ops : Array Oper} {Q : Exit → Act → World → Prop} {md : Region.Mode}

/-- Whatever order is picked from here on; behind each operation the condition of what has come up holds. -/
def wpAnyG (P : Program) (md : Region.Mode) (ops : Array Oper) (Q : Exit → Act → World → Prop) (S : Array Bool → World → Prop) : Nat → Array Bool → Act → World → Prop
  | 0, listed, a, w => Region.ready md ops listed = [] ∧ Q .normal a w
  | n + 1, listed, a, w => (Region.ready md ops listed = [] → Q .normal a w) ∧
    ∀ i ∈ Region.ready md ops listed, wpOp P ops Q i (fun a' w' => S (listed.setIfInBounds i true) w' ∧ wpAnyG P md ops Q S n (listed.setIfInBounds i true) a' w') a w
omit [Base] in
theorem wpAny_of_G {S : Array Bool → World → Prop} : ∀ (n : Nat) (listed : Array Bool) (a : Act) (w : World), wpAnyG P md ops Q S n listed a w → wpAny P md ops Q n listed a w
  | 0, _, _, _, h => h
  | n + 1, _, _, _, h => ⟨h.1, fun i hi => wpOp_mono (fun a' w' h' => wpAny_of_G n _ a' w' h'.2) (h.2 i hi)⟩
omit [Base] in
theorem wpAnyG_mono {S S' : Array Bool → World → Prop} (hS : ∀ L w, S' L w → S L w) : ∀ (n : Nat) (listed : Array Bool) (a : Act) (w : World), wpAnyG P md ops Q S' n listed a w → wpAnyG P md ops Q S n listed a w
  | 0, _, _, _, h => h
  | n + 1, _, _, _, h => ⟨h.1, fun i hi => wpOp_mono (fun a' w' h' => ⟨hS _ _ h'.1, wpAnyG_mono hS n _ a' w' h'.2⟩) (h.2 i hi)⟩

/-- Whatever has come up waited for nothing that has not. -/
def Down (md : Region.Mode) (ops : Array Oper) (L : Array Bool) : Prop := ∀ j oj, ops[j]? = some oj → L.getD j false = true → ∀ e ∈ oj.after, Region.binds md e = true → L.getD e.on false = true
omit [Base] in
theorem Down.add {L : Array Bool} (h : Down md ops L) {j : Nat} (hj : j ∈ Region.ready md ops L) : Down md ops (L.setIfInBounds j true) := by
  intro k ok hk hl e he hb
  by_cases hkj : j = k
  · subst hkj
    obtain ⟨_, oj, hoj, hall⟩ := mem_ready.1 hj
    rw [hk] at hoj; cases hoj
    exact getD_set_true (hall e he hb)
  · rw [getD_set_ne false hkj] at hl
    exact getD_set_true (h k ok hk hl e he hb)

omit [Base] in
theorem wpAnyG_first {S : Array Bool → World → Prop} {T : World → Prop} {i : Nat} {oi : Oper} {v : Value} (hi : ops[i]? = some oi) (hsel : ∀ (j : Nat) (o : Oper) cs b, ops[j]? = some o → o.op ≠ .select cs b)
    (hQ : ∀ c a w, Q (.panic c) (a.put oi.dst v) w → Q (.panic c) a w)
    (hST : ∀ L w, Down md ops L → L.getD i true = false → S L w → T w) (hSi : ∀ L w, S (L.setIfInBounds i true) w ↔ S L w) :
    ∀ (fuel : Nat) (listed : Array Bool) (a : Act) (w : World),
      (∀ j oj, ops[j]? = some oj → j ≠ i → listed.getD j true = false → (∀ e ∈ oj.after, Region.binds md e = true → e.on ≠ i) → oi.apart ops oj = true) →
      Down md ops listed → i ∈ Region.ready md ops listed → YieldsIf P ops T oi v a → S listed w →
      wpAnyG P md ops Q S fuel (listed.setIfInBounds i true) (a.put oi.dst v) w → wpAnyG P md ops Q S (fuel + 1) listed a w := by
  intro fuel
  induction fuel with
  | zero =>
    intro listed a w hfree hd hr hy hS H
    refine ⟨fun h => (by rw [h] at hr; cases hr), fun j hj => ?_⟩
    by_cases hji : j = i
    · subst hji
      exact hy.wpOp hi (hST listed w hd (mem_ready.1 hr).1 hS) ⟨(hSi _ _).2 hS, H⟩
    · have := ready_mono hj hji
      rw [H.1] at this
      cases this
  | succ fuel ih =>
    intro listed a w hfree hd hr hy hS H
    refine ⟨fun h => (by rw [h] at hr; cases hr), fun j hj => ?_⟩
    by_cases hji : j = i
    · subst hji
      exact hy.wpOp hi (hST listed w hd (mem_ready.1 hr).1 hS) ⟨(hSi _ _).2 hS, H⟩
    · have h1 := H.2 j (ready_mono hj hji)
      obtain ⟨hjun, oj, hoj, hall⟩ := mem_ready.1 hj
      have hnot : ∀ e ∈ oj.after, Region.binds md e = true → e.on ≠ i := fun e he hb heq => by
        have h1 := hall e he hb
        have h0 := (mem_ready.1 hr).1
        rw [heq] at h1
        rcases Nat.lt_or_ge i listed.size with h' | h'
        · simp [h'] at h0 h1; rw [h0] at h1; cases h1
        · simp [Array.getElem?_eq_none h'] at h1
      have h2 := wpOp_putIf hoj (hfree j oj hoj hji hjun hnot) (fun cs b => hsel i oi cs b hi) (fun cs b => hsel j oj cs b hoj) hQ hy h1
      have hfree' : ∀ k ok, ops[k]? = some ok → k ≠ i → (listed.setIfInBounds j true).getD k true = false →
          (∀ e ∈ ok.after, Region.binds md e = true → e.on ≠ i) → oi.apart ops ok = true := fun k ok hk hki hun hno => by
        refine hfree k ok hk hki ?_ hno
        by_cases hjk : j = k
        · subst hjk; exact hjun
        · rw [getD_set_ne true hjk] at hun; exact hun
      refine wpOp_mono (fun a' w' h3 => ?_) h2
      obtain ⟨hy', hS', hrest⟩ := h3
      have hS'' : S (listed.setIfInBounds j true) w' := (hSi _ _).1 (by rw [Array.setIfInBounds_comm _ _ hji]; exact hS')
      refine ⟨hS'', ih (listed.setIfInBounds j true) a' w' hfree' (hd.add hj) (ready_mono hr (Ne.symm hji)) hy' hS'' ?_⟩
      rw [Array.setIfInBounds_comm _ _ hji]
      exact hrest
omit [Base] in
theorem wpAnyG_done {S : Array Bool → World → Prop} {listed : Array Bool} {a : Act} {w : World} (hr : Region.ready md ops listed = []) (h : Q .normal a w) : ∀ n, wpAnyG P md ops Q S n listed a w
  | 0 => ⟨hr, h⟩
  | _ + 1 => ⟨fun _ => h, by rw [hr]; simp⟩
end
end Go.Ev
namespace Go.Ev
open Go.RowKit
variable [Base]

section
variable {E : Env} {P : Program}

def bot : FuncId → List Fr → FuncId
  | fn, [] => fn
  | _, c :: cs => bot c.fn cs
theorem Ends.of_steps {φ φ1 : Phi} {w w1 : World} {fr fr1 : Frame} {frs frs1 cs0 : List Frame} {v : V} {st' : St} {f : FuncId} (hs : Steps P (lone fr (frs ++ cs0) w) (lone fr1 (frs1 ++ cs0) w1)) (hc : Chg φ w φ1 w1) (h : Ends P φ1 w1 fr1 frs1 cs0 v st' f) : Ends P φ w fr frs cs0 v st' f := by
  obtain ⟨φ', x, w', fr', h1, h2, h3⟩ := h
  exact ⟨φ', x, w', fr', hs.trans h1, hc.trans h2, h3⟩
/-- What is asked of where it goes on. -/
def KOK (P : Program) (K : Kt) : Prop := ∀ (todo : List I) (tm : Tr V) (st : St) (fn : FuncId) (nt : Nat) (ds : Dfs) (dfr : Bool) (rd : Option Nat) (cs : List Fr) (v : V) (st' : St) (φ : Phi) (w : World) (fr : Frame) (frs cs0 : List Frame),
  K todo tm st ⟨fn, nt, ds, dfr, rd, cs⟩ = some (v, st') → FrR φ w fn nt ds dfr tm rd todo fr → CsR φ w dfr cs frs → Rep φ st w → Ends P φ w fr frs cs0 v st' (bot fn cs)

/-! a call is entered -/
noncomputable def setTm : List V → Tr V → Nat → Tr V
  | [], tm, _ => tm
  | v :: l, tm, i => setTm l (tm.set i v) (i + 1)
omit [Base] in
theorem setTmK_eq {β : Type} : ∀ (l : List V) (tm : Tr V) (i : Nat) (K : Tr V → β), setTmK l tm i K = K (setTm l tm i) := by
  intro l
  induction l with
  | nil => intro tm i K; rfl
  | cons v l ih => intro tm i K; show tm.setK i v _ = _; rw [Tr.setK_eq, natK_eq, ih]; rfl
omit [Base] in
theorem get_setTm : ∀ (l : List V) (tm : Tr V) (i j : Nat), (setTm l tm i).get j = if i ≤ j ∧ j < i + l.length then l[j - i]? else tm.get j := by
  intro l
  induction l with
  | nil => intro tm i j; rw [if_neg (by simp)]; rfl
  | cons v l ih =>
    intro tm i j
    show (setTm l (tm.set i v) (i + 1)).get j = _
    rw [ih, Tr.get_set]
    simp only [List.length_cons]
    by_cases h1 : j = i
    · subst h1
      rw [if_neg (by omega), if_pos rfl, if_pos (by omega)]
      simp
    · by_cases h2 : i + 1 ≤ j ∧ j < i + 1 + l.length
      · rw [if_pos h2, if_pos (by omega)]
        have : j - i = (j - (i + 1)) + 1 := by omega
        rw [this, List.getElem?_cons_succ]
      · rw [if_neg h2, if_neg h1, if_neg (by omega)]
theorem enterK_sound (hE : EnvOK E P) {K : Kt} (hK : KOK P K) {f : FuncId} {args : List V} {dfr : Bool} {st : St} {cs : List Fr} {v : V} {st' : St} {φ : Phi} {w : World} {xs : Array Value} {frs cs0 : List Frame}
    (h : enterK E f args dfr st cs K = some (v, st')) (ha : VRs φ args xs.toList) (hR : Rep φ st w) (hc : CsR φ w dfr cs frs) : Ends P φ w (Frame.enter P f xs (kd dfr)) frs cs0 v st' (bot f cs) := by
  obtain ⟨fn, h1, h2⟩ := obind_some h
  obtain ⟨body, h3, h4⟩ := obind_some h2
  rw [natK_eq, setTmK_eq] at h4
  have hf := (hE.funcs f fn h1).1
  have hs : xs.size = args.length := by have := ha.1; simpa using this
  have henter : Frame.enter P f xs (kd dfr) = ({ (default : Frame) with fn := f, kind := kd dfr } : Frame).atR { tmps := xs ++ Array.replicate (fn.ntmps - xs.size) undef, defers := [] } [.code body] := by
    simp [Frame.enter, Frame.atR, hf, h3]
    rfl
  rw [henter]
  refine hK _ _ _ _ _ _ _ _ _ v st' φ w _ frs cs0 h4 (.run ⟨rfl, rfl, ?_, fun i u e => ?_, .nil, .none _⟩ (.cons rfl .nil)) hc hR
  · simp only [Array.size_append, Array.size_replicate, hs]
    cases hb : Nat.ble args.length fn.ntmps with
    | true => have := Nat.le_of_ble_eq_true hb; show args.length + (fn.ntmps - args.length) = fn.ntmps; omega
    | false => have := ble_false hb; show args.length + (fn.ntmps - args.length) = args.length; omega
  · rw [get_setTm] at e
    simp only [Nat.zero_le, Nat.zero_add, true_and, Nat.sub_zero, Tr.get_e] at e
    split at e
    · rename_i hlt
      obtain ⟨x, hx, hv⟩ := ha.get e
      refine ⟨x, ?_, hv⟩
      rw [Array.getElem?_append_left (by omega), ← Array.getElem?_toList]
      exact hx
    · cases e

/-! results -/
theorem resultV_sound (hE : EnvOK E P) {φ : Phi} {st : St} {w : World} {tm : Tr V} {tmps : Array Value} (hR : Rep φ st w) (ht : TR φ tm tmps) {r : ResultVar} {v : V} (h : resultV E st tm r = some v) :
    ∃ x, (match r with | .tmp t => pure (tmps.getD t undef) | .cell a t => do loadVar t (← asAddr (tmps.getD a undef)) : Sem Value).run P w = .ok x w ∧ VR φ v x := by
  cases r with
  | tmp t =>
    obtain ⟨x, h1, h2⟩ := ht t v h
    exact ⟨x, by simp [h1], h2⟩
  | cell a t =>
    obtain ⟨u, h1, h2⟩ := obind_some h
    obtain ⟨⟨i, d⟩, h3, h4⟩ := obind_some h2
    obtain ⟨x, h5, h6⟩ := ht a u h1
    cases h6 <;> first | (cases h4; done) | skip
    rename_i id off b κ hφ
    obtain ⟨y, g1, g2⟩ := evLoad_sound (P := P) hE hR h3 (.ptr id off b κ hφ) h4
    refine ⟨y, ?_, g2⟩
    have e : (loadVar t ⟨b, off, none⟩).run P w = .ok y w := by
      have := g1
      unfold Instr.loadAt Instr.sureAddr at this
      simpa using this
    simp only [Array.getD_eq_getD_getElem?, h5, Option.getD_some, asAddr, Sem.run_bind, Sem.run_pure, Result.andThen_ok, e]
theorem resultsV_sound (hE : EnvOK E P) {φ : Phi} {st : St} {w : World} {tm : Tr V} {tmps : Array Value} (hR : Rep φ st w) (ht : TR φ tm tmps) : ∀ (rs : List ResultVar) (vs : List V), resultsV E st tm rs = some vs →
    ∃ xs, (rs.mapM fun r => (match r with | .tmp t => pure (tmps.getD t undef) | .cell a t => do loadVar t (← asAddr (tmps.getD a undef)) : Sem Value)).run P w = .ok xs w ∧ VRs φ vs xs := by
  intro rs
  induction rs with
  | nil => intro vs h; cases h; exact ⟨[], rfl, .nil⟩
  | cons r rs ih =>
    intro vs h
    obtain ⟨v, h1, h2⟩ := obind_some h
    obtain ⟨vs', h3, h4⟩ := obind_some h2
    cases h4
    obtain ⟨x, g1, g2⟩ := resultV_sound (P := P) hE hR ht h1
    obtain ⟨xs, g3, g4⟩ := ih vs' h3
    refine ⟨x :: xs, ?_, .cons g2 g4⟩
    rw [List.mapM_cons]
    simp only [Sem.run_bind, g1, g3, Result.andThen_ok, Sem.run_pure]
omit [Base] in
theorem oneV_sound {φ : Phi} {vs : List V} {xs : List Value} (h : VRs φ vs xs) : VR φ (oneV vs) (if h : xs.toArray.size = 1 then xs.toArray[0] else .tuple xs.toArray) := by
  match vs, h with
  | [], h => rw [h.inv_nil]; exact VRs.tup (xs := #[]) .nil
  | [v], h =>
    obtain ⟨x, ys, rfl, hx, hys⟩ := h.inv
    rw [hys.inv_nil]
    exact hx
  | v :: u :: l, h =>
    obtain ⟨x, ys, rfl, hx, hys⟩ := h.inv
    obtain ⟨y, zs, rfl, hy, hzs⟩ := hys.inv
    rw [dif_neg (by simp)]
    exact VRs.tup (xs := (x :: y :: zs).toArray) h
theorem results_sound (hE : EnvOK E P) {φ : Phi} {st : St} {w : World} {tm : Tr V} {tmps : Array Value} (hR : Rep φ st w) (ht : TR φ tm tmps) {f : Func} {vs : List V} (h : resultsV E st tm f.results.toList = some vs) :
    ∃ x, (results f tmps).run P w = .ok x w ∧ VR φ (oneV vs) x := by
  obtain ⟨xs, h1, h2⟩ := resultsV_sound (P := P) hE hR ht _ _ h
  refine ⟨_, ?_, oneV_sound h2⟩
  unfold results
  rw [Array.mapM_eq_mapM_toList]
  simp only [Sem.run_bind, Sem.run_map]
  exact (congrArg (fun r : Result (List Value) => (r.andThen fun a w' => Result.ok a.toArray w').andThen fun a w' => Sem.run P (pure (if h : a.size = 1 then a[0] else Value.tuple a)) w') h1).trans rfl

/-! leaving -/
omit [Base] in
theorem step_leave_deferred {fr c : Frame} {cs : List Frame} {w : World} {v : Value} {fn : Func} (hm : fr.mode = .returning) (hd : fr.defers = []) (hk : fr.kind = .deferred) (hf : P.funcs[fr.fn]? = some fn) (hr : (results fn fr.tmps).run P w = .ok v w)
    (hc : ∀ ch, c.mode ≠ .panicking ch) : Go.step P (lone fr (c :: cs) w) = .next (lone c cs w) := by
  refine step_lone_go ?_
  cases hcm : c.mode with
  | panicking ch => exact absurd hcm (hc ch)
  | run => simp [stepG, unwind, doReturn, hm, hd, hk, hf, hr, hcm]
  | returning => simp [stepG, unwind, doReturn, hm, hd, hk, hf, hr, hcm]
omit [Base] in
theorem step_call_deferred {fr : Frame} {cs : List Frame} {w : World} {d : Deferred} {l : List Deferred} {f : FuncId} {args : Array Value} (hm : fr.mode = .returning) (hd : fr.defers = d :: l) (hi : ∃ g c a, d = { target := .fn (.func g) c, args := a }) (hr : (invoke d.target d.args).run P w = .ok (.enter f args) w) :
    Go.step P (lone fr cs w) = .next (lone (Frame.enter P f args .deferred) ({ fr with defers := l } :: cs) w) := by
  obtain ⟨g, c, a, rfl⟩ := hi
  refine step_lone_go ?_
  simp [stepG, unwind, callDeferred, hm, hd, hr]

omit [Base] in
theorem step_take_deferred {fr : Frame} {cs : List Frame} {w w' : World} {d : Nat} {calls l : List Deferred} (hm : fr.mode = .returning) (hd : fr.defers = { target := .collected d, args := #[] } :: l) (hr : (Instr.takeDeferred d).run P w = .ok calls w') :
    Go.step P (lone fr cs w) = .next (lone { fr with defers := calls ++ l } cs w') := by
  refine step_lone_go ?_
  simp [stepG, unwind, hm, hd, Sem.runT_eq, hr]

omit [Base] in
theorem FrR.mode_ok {φ : Phi} {w : World} {fn : FuncId} {nt : Nat} {ds : Dfs} {dfr : Bool} {rd : Option Nat} {tm : Tr V} {todo : List I} {fr : Frame} (h : FrR φ w fn nt ds dfr tm rd todo fr) : ∀ ch, fr.mode ≠ .panicking ch := by
  cases h with
  | run h ht => intro ch e; cases e
  | out h => intro ch e; cases e
  | loop h ht hφ hw hm => intro ch e; cases e

/-- A call, or a round, has given a value to a frame. -/
theorem backO_steps {K : Kt} (hK : KOK P K) {all rest : List Oper} {l2 : List I} {k2 : List Item} {u : V} {x : Value} {fn : FuncId} {nt : Nat} {ds : Dfs} {dfr : Bool} {rd : Option Nat} {tm : Tr V} {st : St} {cs : List Fr} {v : V} {st' : St} {φ0 φ : Phi} {w0 w : World} {fr : Frame} {b : Frame} {a : Act} {frs cs0 : List Frame} {ops : Array Oper} {q : Nat}
    (h : backO all l2 u fn nt ds dfr rd tm st cs K rest = some (v, st'))
    (hs : ∀ c cs', Go.step P (lone fr (c :: cs') w0) = .next (lone (c.finish x) cs' w)) (hch : Chg φ0 w0 φ w)
    (hu : VR φ u x) (hR : Rep φ st w) (hA : RunR φ fn nt ds dfr rd tm b a) (hts : TodoR l2 k2) (hall : ops.toList = all) (hrest : rest = all.drop q) (hc : CsR φ w dfr cs frs) :
    Ends P φ0 w0 fr (b.atR a (.inRegion ops (List.range' q (all.length - q)) :: k2) :: frs) cs0 v st' (bot fn cs) := by
  have hs := hs (b.atR a (.inRegion ops (List.range' q (all.length - q)) :: k2)) (frs ++ cs0)
  cases rest with
  | nil => cases h
  | cons o rest =>
    replace h : finK none nt tm u (fun tm' => K (.ops all rest :: l2) tm' st ⟨fn, nt, ds, dfr, rd, cs⟩) o.dst = some (v, st') := h
    obtain ⟨tm', h6, h7⟩ := finK_some h (by simp)
    have hlt : q < all.length := by have := congrArg List.length hrest; simp at this; omega
    have ho : ops[q]? = some o := by
      have h1 : all[q]? = some o := by have := congrArg (fun l => l[0]?) hrest; simpa using this.symm
      rw [← Array.getElem?_toList, hall]; exact h1
    rw [range_cons hlt, fin_at ho] at hs
    obtain ⟨q1, q2, q3⟩ := h7 φ a x hA.size hA.tm hu
    have hrest' : rest = all.drop (q + 1) := by have := congrArg List.tail hrest; simpa using this
    rw [range_cons hlt]
    exact Ends.of_steps (frs1 := frs) (.one hs) hch (hK _ _ _ _ _ _ _ _ _ _ _ φ w _ frs cs0 h6 (.run ⟨hA.fn, hA.kind, q1, q2, by rw [q3]; exact hA.ds, hA.ro⟩ (.cons ⟨ops, q + 1, rfl, hall, hrest'⟩ hts)) hc hR)
theorem backO_sound {K : Kt} (hK : KOK P K) {all rest : List Oper} {l2 : List I} {k2 : List Item} {u : V} {x : Value} {fn : FuncId} {nt : Nat} {ds : Dfs} {dfr : Bool} {rd : Option Nat} {tm : Tr V} {st : St} {cs : List Fr} {v : V} {st' : St} {φ : Phi} {w : World} {fr : Frame} {b : Frame} {a : Act} {frs cs0 : List Frame} {ops : Array Oper} {q : Nat}
    (h : backO all l2 u fn nt ds dfr rd tm st cs K rest = some (v, st')) (hl : fr.leaving P w (.returned x)) (hu : VR φ u x) (hR : Rep φ st w) (hA : RunR φ fn nt ds dfr rd tm b a) (hts : TodoR l2 k2) (hall : ops.toList = all) (hrest : rest = all.drop q) (hc : CsR φ w dfr cs frs) :
    Ends P φ w fr (b.atR a (.inRegion ops (List.range' q (all.length - q)) :: k2) :: frs) cs0 v st' (bot fn cs) :=
  backO_steps hK h (fun _ _ => step_leave_returned hl) (Chg.refl φ w) hu hR hA hts hall hrest hc

/-! loops over functions -/
omit [Base] in
theorem run_getLoop {w : World} {b : Nat} {r : Loop} (h : w.heap[b]? = some (Obj.loop r)) : (Instr.getLoop b).run P w = .ok r w := by
  unfold Instr.getLoop
  simp only [Sem.run_bind, run_getObj (P := P) h (fun a e f => by simp), Result.andThen_ok, Sem.run_pure]
theorem loop_obj {φ : Phi} {st : St} {w : World} (hR : Rep φ st w) {l bl κ : Nat} (hφ : φ l = some (bl, κ)) {s : LoopSt} {p : Option Jmp} (hb : st.blks.get l = some (.obj (.loop s p))) : ∃ r : Loop, w.heap[bl]? = some (Obj.loop r) ∧ r.state = lsR s ∧ r.pending = p.map jmpCode := by
  obtain ⟨o, h1, h2⟩ := hR.objs l bl κ _ hφ hb
  cases h2 with
  | loop _ _ r hs hp => exact ⟨r, h1, hs, hp⟩
theorem set_loop {φ : Phi} {next : Nat} {blks : Tr Blk} {w : World} (hR : Rep φ ⟨next, blks⟩ w) {l bl κ : Nat} (hφ : φ l = some (bl, κ)) {o : OV} (hb : blks.get l = some (.obj o)) {r r' : Loop} (hw : w.heap[bl]? = some (Obj.loop r)) (hs : LStat r r') {b' : Blk}
    (hb' : b' = .dead ∨ ∃ v, b' = .obj v ∧ OR φ v (Obj.loop r')) : Chg φ w φ (putObj w bl (Obj.loop r')) ∧ Rep φ ⟨next, blks.set l b'⟩ (putObj w bl (Obj.loop r')) :=
  hR.setBlk hφ hb rfl (by rcases hb' with rfl | ⟨v, rfl, _⟩ <;> rfl) hw (fun a e f => by simp) (fun es c e => by rcases hb' with rfl | ⟨v, rfl, _⟩ <;> cases e)
    (fun v e => by
      rcases hb' with rfl | ⟨u, rfl, h⟩
      · cases e
      · cases e; exact h) (fun q e => by cases e; exact ⟨r', rfl, hs⟩)
omit [Base] in
theorem setBlkK_eq {st : St} {l : Nat} {b : Blk} {K : St → R} : setBlkK st l b K = K ⟨st.next, st.blks.set l b⟩ := by
  obtain ⟨n, bl⟩ := st
  show bl.setK l b _ = _
  rw [Tr.setK_eq]
omit [Base] in
theorem loopAt_some {st : St} {l : Nat} {f : LoopSt → Option Jmp → R} {r : V × St} (h : loopAt st l f = some r) : ∃ s p, st.blks.get l = some (.obj (.loop s p)) ∧ f s p = some r := by
  obtain ⟨b, h1, h2⟩ := obind_some h
  cases b <;> first | (cases h2; done) | skip
  rename_i o
  cases o with
  | loop s p => exact ⟨s, p, h1, h2⟩
  | sit s p => cases h2
  | dfd => cases h2
  | mit a b c d => cases h2
  | mit0 => cases h2

/-- A round is left. -/
theorem leaveR_sound {K : Kt} (hK : KOK P K) {l bl κ : Nat} {j : Option Jmp} {st : St} {cs : List Fr} {v : V} {st' : St} {φ : Phi} {w : World} {fr : Frame} {frs cs0 : List Frame} {fn : FuncId}
    (h : leaveR l j st cs K = some (v, st')) (hφ : φ l = some (bl, κ)) (hc : CsR φ w false cs frs) (hR : Rep φ st w)
    (hs : ∀ x w', (Instr.endRound bl (j.map jmpCode)).run P w = .ok x w' → ∀ c cs', Go.step P (lone fr (c :: cs') w) = .next (lone (c.finish x) cs' w')) : Ends P φ w fr frs cs0 v st' (bot fn cs) := by
  obtain ⟨s, p, h1, h2⟩ := loopAt_some h
  rw [setBlkK_eq] at h2
  obtain ⟨r, hr, _, _⟩ := loop_obj hR hφ h1
  obtain ⟨next, blks⟩ := st
  have hrun : (Instr.endRound bl (j.map jmpCode)).run P w = .ok (.bool (j.map jmpCode).isNone) (putObj w bl (Obj.loop { r with state := if (j.map jmpCode).isNone then .ready else .done, pending := j.map jmpCode })) := by
    unfold Instr.endRound
    simp only [Sem.run_bind, run_getLoop hr, Result.andThen_ok, run_setObj (P := P) _ hr (fun a e f => by simp), Sem.run_pure]
  obtain ⟨k1, k2⟩ := set_loop hR hφ h1 hr (r' := { r with state := if (j.map jmpCode).isNone then .ready else .done, pending := j.map jmpCode }) ⟨rfl, rfl, rfl, rfl, rfl⟩ (b' := .obj (.loop (jSt j) j)) (.inr ⟨_, rfl, .loop _ _ _ (by cases j <;> rfl) rfl⟩)
  have hu : VR φ (jGo j) (.bool (j.map jmpCode).isNone) := by cases j <;> exact .bool _
  have hs := hs _ _ hrun
  cases hc with
  | nil => cases h2
  | cons d hfr hcs =>
    rename_i fn2 nt2 ds2 dfr2 rd2 tm2 todo2 fr2 cs2 frs2
    replace h2 : backR (jGo j) ⟨next, blks.set l (.obj (.loop (jSt j) j))⟩ K fn2 nt2 ds2 dfr2 rd2 tm2 cs2 todo2 = some (v, st') := h2
    cases hfr with
    | out h => cases h2
    | loop h ht hφ hw hm => cases h2
    | run h5 ht =>
      cases ht with
      | nil => cases h2
      | cons hi hts =>
        rename_i i2 it2 l2 kk2
        cases i2 <;> first | (cases h2; done) | skip
        rename_i all rest
        obtain ⟨ops, q, rfl, hall, hrest⟩ := hi
        show Ends P φ w fr _ cs0 v st' (bot fn2 cs2)
        exact backO_steps (ops := ops) (q := q) hK h2 hs k1 hu k2 h5 hts hall hrest (hcs.mono k1)

/-- A frame that is being left. -/
theorem retD_sound (hE : EnvOK E P) {K : Kt} (hK : KOK P K) {fn : FuncId} {nt : Nat} {ds : Dfs} {dfr : Bool} {tm : Tr V} {st : St} {cs : List Fr} {v : V} {st' : St} {φ : Phi} {w : World} {k : List Item} {b : Frame} {a : Act} {frs cs0 : List Frame}
    (h : retD E fn nt dfr tm st cs K ds = some (v, st')) (hA : RunR φ fn nt ds dfr none tm b a) (hc : CsR φ w dfr cs frs) (hR : Rep φ st w) : Ends P φ w { b.atR a k with mode := .returning } frs cs0 v st' (bot fn cs) := by
  cases ds with
  | nil =>
    obtain ⟨f, h1, h2⟩ := obind_some h
    obtain ⟨vs, h3, h4⟩ := obind_some h2
    have hf := (hE.funcs fn f h1).1
    obtain ⟨x, g1, g2⟩ := results_sound (P := P) hE hR hA.tm h3
    have hd : a.defers = [] := hA.ds.inv_nil
    cases hc with
    | nil =>
      replace h4 : some (oneV vs, st) = some (v, st') := h4
      cases h4
      exact ⟨φ, x, w, _, Steps.refl P _, Chg.refl φ w, hR, g2, ⟨rfl, hd, by show b.kind = _; rw [hA.kind]; rfl, f, by show P.funcs[b.fn]? = _; rw [hA.fn]; exact hf, g1⟩, hA.fn⟩
    | cons d hfr hcs =>
      rename_i fn2 nt2 ds2 dfr2 rd2 tm2 todo2 fr2 cs2 frs2
      cases hdd : dfr with
      | true =>
        subst hdd
        replace h4 : K todo2 tm2 st ⟨fn2, nt2, ds2, dfr2, rd2, cs2⟩ = some (v, st') := h4
        have hs := step_leave_deferred (P := P) (fr := { b.atR a k with mode := .returning }) (c := fr2) (cs := frs2 ++ cs0) (w := w) (v := x) rfl hd (by show b.kind = _; rw [hA.kind]; rfl) (by show P.funcs[b.fn]? = _; rw [hA.fn]; exact hf) g1 hfr.mode_ok
        show Ends P φ w _ _ cs0 v st' (bot fn2 cs2)
        exact Ends.of_steps (frs1 := frs2) (.one hs) (Chg.refl φ w) (hK _ _ _ _ _ _ _ _ _ _ _ φ w fr2 frs2 cs0 h4 hfr hcs hR)
      | false =>
        subst hdd
        replace h4 : backI (oneV vs) fn2 nt2 ds2 dfr2 rd2 tm2 st cs2 K todo2 = some (v, st') := h4
        have hl : ({ b.atR a k with mode := .returning } : Frame).leaving P w (.returned x) := ⟨rfl, hd, by show b.kind = _; rw [hA.kind]; rfl, f, by show P.funcs[b.fn]? = _; rw [hA.fn]; exact hf, g1⟩
        show Ends P φ w _ _ cs0 v st' (bot fn2 cs2)
        cases hfr with
        | out h => cases h4
        | run h5 ht =>
          cases ht with
          | nil => cases h4
          | cons hi hts =>
            rename_i i2 it2 l2 kk2
            cases i2 <;> first | (cases h4; done) | skip
            · rename_i all rest
              obtain ⟨ops, q, rfl, hall, hrest⟩ := hi
              exact backO_sound (ops := ops) (q := q) hK h4 hl g2 hR h5 hts hall hrest hcs
            · exact hi.elim
        | loop h5 ht hφ hw hm =>
          rename_i todo2 k2 b2 a2 l bl κ ps as c r
          replace h4 : endRF l todo2 tm2 st ⟨fn2, nt2, ds2, dfr2, rd2, cs2⟩ K = some (v, st') := h4
          obtain ⟨s, p, h6, h7⟩ := loopAt_some h4
          obtain ⟨r1, hr1, hst, hpe⟩ := loop_obj hR hφ h6
          obtain ⟨next, blks⟩ := st
          have hnb : s ≠ .busy := fun e => by subst e; cases h7
          replace h7 : setBlkK ⟨next, blks⟩ l .dead (fun st' => K (endP todo2 p) tm2 st' ⟨fn2, nt2, ds2, dfr2, rd2, cs2⟩) = some (v, st') := by
            cases s <;> first | exact h7 | exact absurd rfl hnb
          rw [setBlkK_eq] at h7
          obtain ⟨k1, k3⟩ := set_loop hR hφ h6 hr1 (r' := { r1 with state := .exhausted }) ⟨rfl, rfl, rfl, rfl, rfl⟩ (b' := .dead) (.inl rfl)
          have hend : (Instr.endLoop bl).run P w = .ok (p.map jmpCode) (putObj w bl (Obj.loop { r1 with state := .exhausted })) := by
            unfold Instr.endLoop
            have hne : (r1.state == LoopState.busy) = false := by
              rw [hst]
              cases s <;> first | rfl | exact absurd rfl hnb
            simp only [Sem.run_bind, run_getLoop hr1, Result.andThen_ok, hne, Bool.false_eq_true, if_false, Sem.run_pure, run_setObj (P := P) _ hr1 (fun a e f => by simp), hpe]
          have s1 := step_leave_returned (P := P) (fr := { b.atR a k with mode := .returning }) (c := b2.atR a2 (.inRangeFunc bl :: k2)) (cs := frs2 ++ cs0) (w := w) (v := x) hl
          rw [finish_atR_inRangeFunc bl x] at s1
          have s2 := stepR_endRangeFunc (P := P) (b := b2) (a := a2) (k := k2) (cs := frs2 ++ cs0) hend
          refine Ends.of_steps (frs1 := frs2) (.head s1 (.one s2)) k1 (hK _ _ _ _ _ _ _ _ _ _ _ φ _ _ frs2 cs0 h7 (.run h5 ?_) (hcs.mono k1) k3)
          cases p with
          | none => exact ht
          | some j => exact .cons rfl ht
  | cons d ds =>
    obtain ⟨d', l, hd, hd1, hl⟩ := hA.ds.inv
    have hfr : RunR φ fn nt ds dfr none tm b { a with defers := l } := ⟨hA.fn, hA.kind, hA.size, hA.tm, hl, hA.ro⟩
    cases d with
    | call f captured args =>
      obtain ⟨c', a', rfl, hc', ha'⟩ := hd1
      cases f <;> first | (cases h; done) | skip
      rename_i g
      replace h : listK (args ++ captured) (fun all => enterK E g all true st (⟨fn, nt, ds, dfr, none, tm, [.out]⟩ :: cs) K) = some (v, st') := h
      rw [listK_eq] at h
      obtain ⟨f, h1, h2⟩ := obind_some h
      obtain ⟨body, h3, h4⟩ := obind_some h2
      obtain ⟨p1, p2⟩ := hE.funcs g f h1
      have hn : f.name ≠ "runtime.NumGoroutine" := by simpa using p2
      have hinv : (invoke (Target.fn (.func g) c') a').run P w = .ok (.enter g (a' ++ c')) w := by
        unfold invoke callFunc
        simp [p1, hn, h3]
      have hs := step_call_deferred (P := P) (fr := { b.atR a k with mode := .returning }) (cs := frs ++ cs0) (w := w) (d := { target := .fn (.func g) c', args := a' }) (l := l) rfl hd ⟨g, c', a', rfl⟩ hinv
      have hv : VRs φ (args ++ captured) (a' ++ c').toList := by rw [Array.toList_append]; exact ha'.append hc'
      have hfr2 : FrR φ w fn nt ds dfr tm none [.out] { ({ b.atR a k with mode := .returning } : Frame) with defers := l } := .out (k := k) hfr
      have := enterK_sound hE hK (xs := a' ++ c') (dfr := true) (frs := { ({ b.atR a k with mode := .returning } : Frame) with defers := l } :: frs) (cs0 := cs0) h hv hR (.cons true hfr2 hc)
      exact Ends.of_steps (frs1 := { ({ b.atR a k with mode := .returning } : Frame) with defers := l } :: frs) (.one hs) (Chg.refl φ w) this
    | mark id =>
      obtain ⟨bl, κ, rfl, hφ⟩ := hd1
      obtain ⟨next, blks⟩ := st
      obtain ⟨bk, h1, h2⟩ := obind_some (f := markD fn nt ds dfr tm ⟨next, blks⟩ cs K id) h
      cases bk <;> first | (cases h2; done) | skip
      rename_i o
      cases o <;> first | (cases h2; done) | skip
      replace h2 : setBlkK ⟨next, blks⟩ id .dead (fun st' => K [.out] tm st' ⟨fn, nt, ds, dfr, none, cs⟩) = some (v, st') := h2
      rw [setBlkK_eq] at h2
      obtain ⟨ob, hob, hor⟩ := hR.objs id bl κ _ hφ h1
      cases hor
      have htake : (Instr.takeDeferred bl).run P w = .ok [] (putObj w bl (.deferred none)) := by
        unfold Instr.takeDeferred
        simp only [Sem.run_bind, run_getObj (P := P) hob (fun a e f => by simp), Result.andThen_ok, run_setObj (P := P) _ hob (fun a e f => by simp), Sem.run_pure]
      obtain ⟨k1, k2⟩ := hR.setBlk hφ h1 rfl (bl' := .dead) (o' := .deferred none) rfl hob (fun a e f => by simp) (fun es c e => by cases e) (fun v e => by cases e) (fun r e => by cases e)
      have hs := step_take_deferred (P := P) (fr := { b.atR a k with mode := .returning }) (cs := frs ++ cs0) (w := w) (d := bl) (l := l) rfl hd htake
      have hfr2 : FrR φ (putObj w bl (.deferred none)) fn nt ds dfr tm none [.out] { ({ b.atR a k with mode := .returning } : Frame) with defers := [] ++ l } := .out (k := k) hfr
      exact Ends.of_steps (frs1 := frs) (.one hs) k1 (hK _ _ _ _ _ _ _ _ _ _ _ φ _ _ frs cs0 h2 hfr2 (hc.mono k1) k2)

end
end Go.Ev
namespace Go.Ev
open Go.RowKit
variable [Base]

section
variable {E : Env} {P : Program} {φ : Phi}

theorem quiet_any (hE : EnvOK E P) {tm : Tr V} {ρ : Operand → Value} {o : Oper} {st : St} {r : Res} (hρ : OpR φ tm ρ) (hq : quietOp o.op = true) (h : evQ o.op E tm st = some r) :
    ∃ v, r = .val v st ∧ (∀ w, ∃ x, (execOp ρ o).run P w = .ok (.value x) w ∧ VR φ v x) ∧ (isSliceOp o.op = true → ∃ x, (∀ w, (execOp ρ o).run P w = .ok (.value x) w) ∧ VR φ v x) := by
  obtain ⟨dst, op, ty, pos, after, guard⟩ := o
  cases op <;> first | (cases hq; done) | skip
  case move x =>
    obtain ⟨v, h1, rfl⟩ := retO_some h
    exact ⟨v, rfl, fun w => ⟨_, rfl, hρ x v h1⟩, fun _ => ⟨_, fun w => rfl, hρ x v h1⟩⟩
  case pick c a b =>
    obtain ⟨cv, h1, h⟩ := obind_some h
    obtain ⟨av, h2, h⟩ := obind_some h
    obtain ⟨bv, h3, h⟩ := obind_some h
    obtain ⟨v, h4, rfl⟩ := retO_some h
    obtain ⟨t, e, hv⟩ := pickV_sound (hρ c cv h1) (hρ a av h2) (hρ b bv h3) h4
    refine ⟨v, rfl, fun w => ⟨_, ?_, hv⟩, fun e => by cases e⟩
    show (do pure (Next.value (if ← asBool (ρ c) then ρ a else ρ b)) : Sem Next).run P w = _
    rw [e]
    rfl
  case build t ps =>
    obtain ⟨z, h1, h⟩ := obind_some h
    obtain ⟨l, h2, h⟩ := obind_some h
    obtain ⟨⟨i, d⟩, h3, h⟩ := obind_some h
    dsimp only at h
    obtain ⟨pl, h4, h⟩ := obind_some h
    obtain ⟨cs, h5, h⟩ := obind_some h
    cases h
    have hp := parts_sound hρ _ _ h2
    exact ⟨_, rfl, fun w => by
      obtain ⟨x, g1, g2⟩ := build_sound hE (ps' := ps.map fun (i, x) => (i, ρ x)) w h1 (by rw [Array.toList_map]; exact hp) h3 h4 h5
      exact ⟨x, vRun_ok g1, g2⟩, fun e => by cases e⟩
  case nilCheck x =>
    obtain ⟨xv, h1, h⟩ := obind_some h
    obtain ⟨v, h2, rfl⟩ := retO_some h
    have hx := hρ x xv h1
    refine ⟨v, rfl, fun w => ?_, fun e => by cases e⟩
    unfold execOp
    dsimp only
    generalize ρ x = y at hx
    cases xv <;> first | (cases h2; done) | skip
    · cases h2
      cases hx
      exact ⟨_, rfl, .ptr _ _ _ _ (by assumption)⟩
    · rename_i f a b
      cases f <;> first | (cases h2; done) | skip
      cases h2
      cases hx with
      | fn _ _ _ a' c' q1 q2 q3 q4 => exact ⟨_, rfl, .fn _ _ _ _ _ q1 q2 q3 q4⟩
    · cases h2
      cases hx
      exact ⟨_, rfl, .iface _ _ _ (by assumption)⟩
    · cases h2
      cases hx
      exact ⟨_, rfl, .yld _ _ _ (by assumption)⟩
  case binOp op t x y yt =>
    obtain ⟨a, h1, h⟩ := obind_some h
    obtain ⟨b, h2, h⟩ := obind_some h
    obtain ⟨v, h3, rfl⟩ := retO_some h
    exact ⟨v, rfl, fun w => by
      obtain ⟨z, g1, g2⟩ := binV_sound hE (ox := x) (oy := y) w (hρ x a h1) (hρ y b h2) h3
      exact ⟨z, vRun_ok g1, g2⟩, fun e => by cases e⟩
  case unOp op t x =>
    obtain ⟨a, h1, h⟩ := obind_some h
    obtain ⟨v, h2, rfl⟩ := retO_some h
    exact ⟨v, rfl, fun w => by
      obtain ⟨z, g1, g2⟩ := unV_sound (P := P) w (hρ x a h1) h2
      exact ⟨z, vRun_ok g1, g2⟩, fun e => by cases e⟩
  case makeInterface t x =>
    obtain ⟨v, h1, h2⟩ := obind_some h
    obtain ⟨⟨i, d⟩, h3, h4⟩ := obind_some h2
    dsimp only at h4
    cases hd : ifaceD d with
    | some a => rw [hd] at h4; cases h4
    | none =>
      rw [hd] at h4
      cases h4
      refine ⟨_, rfl, fun w => ⟨.iface t (ρ x), vRun_ok (s := Instr.makeInterface t (ρ x)) ?_, .iface t v _ (hρ x v h1)⟩, fun e => by cases e⟩
      unfold Instr.makeInterface
      cases d <;> first | (cases hd; done) | simp [hE.und h3 w]
  case makeFunc f a b =>
    obtain ⟨as, h1, h⟩ := obind_some h
    obtain ⟨bs, h2, h⟩ := obind_some h
    cases h
    have k1 := args_sound hρ h1
    have k2 := args_sound hρ h2
    exact ⟨_, rfl, fun w => ⟨.func f (a.map ρ) (b.map ρ), rfl, .fn f as bs _ _ (by simpa using k1.1) (fun i v x p q => k1.2 i v x p (by rw [Array.getElem?_toList]; exact q)) (by simpa using k2.1) (fun i v x p q => k2.2 i v x p (by rw [Array.getElem?_toList]; exact q))⟩, fun e => by cases e⟩
  case slice t x lo hi mx =>
    cases mx with
    | some m => cases h
    | none =>
    obtain ⟨xv, h1, h⟩ := obind_some h
    obtain ⟨lv, h2, h⟩ := obind_some h
    obtain ⟨hv, h3, h⟩ := obind_some h
    obtain ⟨v, h4, rfl⟩ := retO_some h
    obtain ⟨y, g1, g2⟩ := sliceV_sound (P := P) hE (optOperand_sound hρ h2) (optOperand_sound hρ h3) (hρ x xv h1) h4
    exact ⟨v, rfl, fun w => ⟨y, vRun_ok (g1 w), g2⟩, fun _ => ⟨y, fun w => vRun_ok (g1 w), g2⟩⟩
  case fieldAddr s x f =>
    obtain ⟨xv, h1, h⟩ := obind_some h
    obtain ⟨⟨i, d⟩, h2, h⟩ := obind_some h
    dsimp only at h
    obtain ⟨fd, h3, h⟩ := obind_some h
    obtain ⟨v, h4, rfl⟩ := retO_some h
    exact ⟨v, rfl, fun w => by
      obtain ⟨y, g1, g2⟩ := ptrAt_sound (P := P) hE w h2 h3 (hρ x xv h1) h4
      exact ⟨y, vRun_ok g1, g2⟩, fun e => by cases e⟩
  case field s x f =>
    obtain ⟨xv, h1, h⟩ := obind_some h
    obtain ⟨⟨i, d⟩, h2, h⟩ := obind_some h
    dsimp only at h
    obtain ⟨fd, h3, h⟩ := obind_some h
    obtain ⟨v, h4, rfl⟩ := retO_some h
    exact ⟨v, rfl, fun w => by
      obtain ⟨y, g1, g2⟩ := aggAt_sound (P := P) hE w h2 h3 (hρ x xv h1) h4
      exact ⟨y, vRun_ok g1, g2⟩, fun e => by cases e⟩
  case indexAddr t x ix =>
    obtain ⟨xv, h1, h⟩ := obind_some h
    obtain ⟨iv, h2, h⟩ := obind_some h
    obtain ⟨i, h3, h⟩ := obind_some h
    obtain ⟨v, h4, rfl⟩ := retO_some h
    obtain ⟨k, e⟩ := natOf_sound (hρ ix iv h2) h3
    exact ⟨v, rfl, fun w => by
      obtain ⟨y, g1, g2⟩ := indexAddrV_sound (P := P) (k := k) hE w (hρ x xv h1) h4
      exact ⟨y, vRun_ok (s := Instr.indexAt t (ρ x) (ρ ix)) (by rw [e]; exact g1), g2⟩, fun e => by cases e⟩
  case index t x ix =>
    obtain ⟨xv, h1, h⟩ := obind_some h
    obtain ⟨iv, h2, h⟩ := obind_some h
    obtain ⟨i, h3, h⟩ := obind_some h
    obtain ⟨v, h4, rfl⟩ := retO_some h
    obtain ⟨k, e⟩ := natOf_sound (hρ ix iv h2) h3
    exact ⟨v, rfl, fun w => by
      obtain ⟨y, g1, g2⟩ := indexV_sound (P := P) (k := k) hE w (hρ x xv h1) h4
      exact ⟨y, vRun_ok (s := Instr.index t (ρ x) (ρ ix)) (by rw [e]; exact g1), g2⟩, fun e => by cases e⟩
  case typeAssert x xt a ok =>
    obtain ⟨xv, h1, h⟩ := obind_some h
    obtain ⟨v, h2, rfl⟩ := retO_some h
    exact ⟨v, rfl, fun w => by
      obtain ⟨y, g1, g2⟩ := assertV_sound (P := P) (w := w) (xt := xt) hE (hρ x xv h1) h2
      exact ⟨y, vRun_ok g1, g2⟩, fun e => by cases e⟩
  case extract t i =>
    obtain ⟨tv, h1, h⟩ := obind_some h
    obtain ⟨v, h2, rfl⟩ := retO_some h
    exact ⟨v, rfl, fun w => by
      obtain ⟨y, g1, g2⟩ := tupAt_sound (P := P) (w := w) (hρ t tv h1) h2
      exact ⟨y, vRun_ok g1, g2⟩, fun e => by cases e⟩

/-- What an operation that is carried out gives. -/
def StrictOK (P : Program) (o : Oper) (a : Act) (w : World) (φ : Phi) (v : V) (st2 : St) : Prop :=
  ∀ (K : Act → World → Prop) (Q : Exit → Act → World → Prop), (∀ φ' x w', Chg φ w φ' w' → Rep φ' st2 w' → VR φ' v x → K (a.put o.dst x) w') → o.wp P a w K Q

theorem strict_sound (hE : EnvOK E P) {K0 : Kt} (hK : KOK P K0) {id : Nat} {tm : Tr V} {st st2 : St} {o : Oper} {a : Act} {w : World} {v : V} (hR : Rep φ st w) (ht : TR φ tm a.tmps)
    (h : strictOp E (nestK E K0) id tm st o.op = some (v, st2)) : StrictOK P o a w φ v st2 := by
  obtain ⟨next, blks⟩ := st
  obtain ⟨r, h1, h2⟩ := obind_some (f := strictRes (nestK E K0) next) h
  intro K Q hnext
  have hres := evOp_sound (P := P) hE (hR.reset (nx := id)) ht.op h1
  unfold Oper.wp
  cases r with
  | val u st1 =>
    cases h2
    rcases hres with ⟨φ1, x, w1, e1, e2, e3, e4⟩ | ⟨f, xs, e1, e2⟩
    · rw [e1]; exact hnext φ1 x w1 e2 e3.reset e4
    · rw [e1]
      refine Calls.mono e2 fun e w' ⟨φ', x, he, g1, g2, g3⟩ => ?_
      subst he
      exact hnext φ' x w' g1 g2.reset g3
  | skip st1 =>
    cases h2
    obtain ⟨φ1, w1, e1, e2, e3⟩ := hres
    rw [e1]; exact hnext φ1 undef w1 e2 e3.reset (undef_sound φ1)
  | enter f args st1 =>
    obtain ⟨xs, e1, e2, e3⟩ := hres
    rw [e1]
    show Calls P f xs w _
    intro cs0
    have h3 : nestK E K0 f args (St.mk next st1.blks) = some (v, st2) := h2
    cases hm : E.memo f args (St.mk next st1.blks) with
    | some p =>
      obtain ⟨u, st3⟩ := p
      unfold nestK at h3
      rw [hm] at h3
      cases h3
      obtain ⟨φ', x, w', fr', q1, q2, q3, q4, q5, q6⟩ := hE.memo f args _ _ _ hm φ w xs cs0 e2 e3.reset
      exact ⟨.returned x, w', fr', hnext φ' x w' q2 q3 q4, q1, q6, q5⟩
    | none =>
      unfold nestK at h3
      rw [hm] at h3
      obtain ⟨φ', x, w', fr', q1, q2, q3, q4, q5, q6⟩ := enterK_sound (dfr := false) (frs := []) (cs0 := cs0) hE hK h3 e2 e3.reset .nil
      exact ⟨.returned x, w', fr', hnext φ' x w' q2 q3 q4, q1, q6, q5⟩
  | defer f c b st1 => cases h2
  | recover st1 => cases h2
  | round l args st1 => cases h2
end
end Go.Ev
namespace Go.Ev
open Go.RowKit
variable [Base]

section
variable {E : Env} {P : Program}

noncomputable def isLoadOp : Op → Bool
  | .load .. => true
  | _ => false
noncomputable def strictish (o : Oper) : Bool := o.guard.isNone && (!quietOp o.op && !isLoadOp o.op)
def Waived (ops : Array Oper) (L : Array Bool) (idx : Nat) : Prop := ∃ j o, ops[j]? = some o ∧ L.getD j false = true ∧ strictish o = true ∧ waitsOn idx o.after.toList = true
omit [Base] in
theorem Waived.add {ops : Array Oper} {L : Array Bool} {idx i : Nat} (h : Waived ops L idx) : Waived ops (L.setIfInBounds i true) idx := by
  obtain ⟨j, o, h1, h2, h3⟩ := h
  exact ⟨j, o, h1, getD_set_true h2, h3⟩
omit [Base] in
theorem Waived.of_add {ops : Array Oper} {L : Array Bool} {idx i : Nat} {oi : Oper} (hi : ops[i]? = some oi) (hs : strictish oi = false) (h : Waived ops (L.setIfInBounds i true) idx) : Waived ops L idx := by
  obtain ⟨j, o, h1, h2, h3, h4⟩ := h
  by_cases hij : i = j
  · subst hij; rw [hi] at h1; cases h1; rw [hs] at h3; cases h3
  · rw [getD_set_ne false hij] at h2; exact ⟨j, o, h1, h2, h3, h4⟩
omit [Base] in
theorem waits_edge {ops : Array Oper} {L : Array Bool} (hd : Down .any ops L) {idx : Nat} (h : Waived ops L idx) (hu : L.getD idx true = false) : False := by
  obtain ⟨j, o, h1, h2, _, h4⟩ := h
  obtain ⟨e, he, h5⟩ := List.any_eq_true.1 h4
  obtain ⟨h6, h7⟩ := condT h5
  have := hd j o h1 h2 e (by simpa using he) h6
  rw [natbeq h7] at this
  rcases Nat.lt_or_ge idx L.size with h' | h'
  · simp [h'] at hu this; rw [hu] at this; cases this
  · simp [Array.getElem?_eq_none h'] at hu

def SS (ops : Array Oper) (φ : Phi) (hs : List Held) (L : Array Bool) (w : World) : Prop := ∃ φ1 st, φ.le φ1 ∧ Rep φ1 st w ∧ ∀ h ∈ hs, Waived ops L h.idx ∨ loadV st h.i h.d h.a = some h.v
theorem SS.mono {ops : Array Oper} {φ φ' : Phi} {hs hs' : List Held} (hle : φ.le φ') (hsub : ∀ h ∈ hs, h ∈ hs') {L : Array Bool} {w : World} (h : SS ops φ' hs' L w) : SS ops φ hs L w := by
  obtain ⟨φ1, st, h1, h2, h3⟩ := h
  exact ⟨φ1, st, hle.trans h1, h2, fun h hh => h3 h (hsub h hh)⟩
theorem SS.quiet {ops : Array Oper} {φ : Phi} {hs : List Held} {i : Nat} {oi : Oper} (hi : ops[i]? = some oi) (hn : strictish oi = false) (L : Array Bool) (w : World) : SS ops φ hs (L.setIfInBounds i true) w ↔ SS ops φ hs L w := by
  constructor
  · rintro ⟨φ1, st, h1, h2, h3⟩
    exact ⟨φ1, st, h1, h2, fun h hh => (h3 h hh).imp (Waived.of_add hi hn) id⟩
  · rintro ⟨φ1, st, h1, h2, h3⟩
    exact ⟨φ1, st, h1, h2, fun h hh => (h3 h hh).imp Waived.add id⟩

/-! the kinds -/
omit [Base] in
theorem kindOf_quiet {all : List Oper} {tm : Tr V} {st : St} {i : Nat} {o : Oper} {v : V} (h : kindOf E all tm st i o = some (.quiet v)) :
    (guardNow all tm o.guard = some false ∧ v = undefV) ∨ (guardNow all tm o.guard = some true ∧ quietOp o.op = true ∧ ∃ st1, evQ o.op E tm st = some (.val v st1)) := by
  obtain ⟨w, h1, h2⟩ := obind_some h
  cases w with
  | false => cases h2; exact .inl ⟨h1, rfl⟩
  | true =>
    refine .inr ⟨h1, ?_⟩
    replace h2 : kindOp E tm st i o.op = some (.quiet v) := h2
    have key : ∀ op, kindOp E tm st i op = some (.quiet v) → quietOp op = true ∧ ∃ st1, evQ op E tm st = some (.val v st1) := by
      intro op h2
      by_cases hl : isLoadOp op = true
      · cases op <;> first | (cases hl; done) | skip
        obtain ⟨a, _, h3⟩ := obind_some h2
        obtain ⟨⟨ti, td⟩, _, h4⟩ := obind_some h3
        obtain ⟨u, _, h5⟩ := obind_some h4
        cases h5
      · have e : kindOp E tm st i op = cond (quietOp op) (obind (evQ op E tm st) quietRes) (some .strict) := by cases op <;> first | rfl | exact absurd rfl hl
        rw [e] at h2
        cases hq : quietOp op with
        | false => rw [hq] at h2; cases h2
        | true =>
          rw [hq] at h2
          obtain ⟨r, h3, h4⟩ := obind_some h2
          cases r <;> first | (cases h4; done) | skip
          cases h4
          exact ⟨rfl, _, h3⟩
    exact key o.op h2
omit [Base] in
theorem kindOf_held {all : List Oper} {tm : Tr V} {st : St} {i : Nat} {o : Oper} {h : Held} (hk : kindOf E all tm st i o = some (.held h)) :
    guardNow all tm o.guard = some true ∧ h.idx = i ∧ ∃ t x, o.op = .load t x ∧ operand tm x = some h.a ∧ E.types t = some (h.i, h.d) ∧ loadV st h.i h.d h.a = some h.v := by
  obtain ⟨w, h1, h2⟩ := obind_some hk
  cases w with
  | false => cases h2
  | true =>
    refine ⟨h1, ?_⟩
    replace h2 : kindOp E tm st i o.op = some (.held h) := h2
    generalize o.op = op at h2
    by_cases hl : isLoadOp op = true
    · cases op <;> first | (cases hl; done) | skip
      obtain ⟨a, h3, h2⟩ := obind_some h2
      obtain ⟨⟨ti, td⟩, h4, h2⟩ := obind_some h2
      obtain ⟨u, h5, h2⟩ := obind_some h2
      cases h2
      exact ⟨rfl, _, _, rfl, h3, h4, h5⟩
    · have e : kindOp E tm st i op = cond (quietOp op) (obind (evQ op E tm st) quietRes) (some .strict) := by cases op <;> first | rfl | exact absurd rfl hl
      rw [e] at h2
      cases hq : quietOp op with
      | false => rw [hq] at h2; cases h2
      | true =>
        rw [hq] at h2
        obtain ⟨r, h3, h4⟩ := obind_some h2
        cases r <;> cases h4
omit [Base] in
theorem kindOf_strict {all : List Oper} {tm : Tr V} {st : St} {i : Nat} {o : Oper} (hk : kindOf E all tm st i o = some .strict) : guardNow all tm o.guard = some true ∧ quietOp o.op = false ∧ isLoadOp o.op = false := by
  obtain ⟨w, h1, h2⟩ := obind_some hk
  cases w with
  | false => cases h2
  | true =>
    refine ⟨h1, ?_⟩
    replace h2 : kindOp E tm st i o.op = some .strict := h2
    generalize o.op = op at h2
    by_cases hl : isLoadOp op = true
    · cases op <;> first | (cases hl; done) | skip
      obtain ⟨a, h3, h2⟩ := obind_some h2
      obtain ⟨⟨ti, td⟩, h4, h2⟩ := obind_some h2
      obtain ⟨u, h5, h2⟩ := obind_some h2
      cases h2
    · have e : kindOp E tm st i op = cond (quietOp op) (obind (evQ op E tm st) quietRes) (some .strict) := by cases op <;> first | rfl | exact absurd rfl hl
      rw [e] at h2
      cases hq : quietOp op with
      | true =>
        rw [hq] at h2
        obtain ⟨r, h3, h4⟩ := obind_some h2
        cases r <;> cases h4
      | false => exact ⟨rfl, by simpa using hl⟩
omit [Base] in
theorem guardNow_wanted {φ : Phi} {ops : Array Oper} {all : List Oper} (hall : ops.toList = all) {tm : Tr V} {tmps : Array Value} (ht : TR φ tm tmps) {o : Oper} {bb : Bool} (h : guardNow all tm o.guard = some bb) : Region.wanted o (yielded ops tmps) = bb := by
  cases hg : o.guard with
  | none => rw [hg] at h; cases h; unfold Region.wanted; rw [hg]
  | some g => rw [hg] at h; exact wanted_eq hall ht hg h
omit [Base] in
theorem firstQ_one {all : List Oper} {tm : Tr V} {st : St} : ∀ (rs : List Nat) {i : Nat} {o : Oper} {k : Kind}, firstQ E all tm st rs = some (.one i o k) → i ∈ rs ∧ nth all i = some o ∧ kindOf E all tm st i o = some k := by
  intro rs
  induction rs with
  | nil => intro i o k h; cases h
  | cons j rs ih =>
    intro i o k h
    obtain ⟨oj, h1, h⟩ := obind_some h
    obtain ⟨kj, h2, h⟩ := obind_some h
    cases hs : isStrict kj with
    | true =>
      rw [hs] at h
      obtain ⟨q1, q2⟩ := ih h
      exact ⟨List.mem_cons_of_mem _ q1, q2⟩
    | false =>
      rw [hs] at h
      cases h
      exact ⟨List.mem_cons_self .., h1, h2⟩
omit [Base] in
theorem firstQ_all {all : List Oper} {tm : Tr V} {st : St} : ∀ (rs : List Nat), firstQ E all tm st rs = some .all → ∀ i ∈ rs, ∃ o, nth all i = some o ∧ kindOf E all tm st i o = some .strict := by
  intro rs
  induction rs with
  | nil => intro h i hi; simp at hi
  | cons j rs ih =>
    intro h i hi
    obtain ⟨oj, h1, h⟩ := obind_some h
    obtain ⟨kj, h2, h⟩ := obind_some h
    cases hs : isStrict kj with
    | false => rw [hs] at h; cases h
    | true =>
      rw [hs] at h
      rcases List.mem_cons.1 hi with rfl | hi
      · cases kj <;> first | (cases hs; done) | exact ⟨oj, h1, h2⟩
      · exact ih h i hi
omit [Base] in
theorem allSame_some {f : Nat → Option (Tr V × St)} {r : Tr V × St} : ∀ (rs : List Nat), allSame r f rs = true → ∀ i ∈ rs, f i = some r := by
  intro rs
  induction rs with
  | nil => intro _ i hi; simp at hi
  | cons k rs ih =>
    intro h3 i hi
    obtain ⟨q1, q2⟩ := condT h3
    rcases List.mem_cons.1 hi with rfl | hi2
    · cases hf : f i with
      | none => rw [hf] at q1; cases q1
      | some r' => rw [hf] at q1; rw [sameRes_sound _ _ q1]
    · exact ih q2 i hi2
omit [Base] in
theorem strictAll_some {f : Nat → Option (Tr V × St)} {rs : List Nat} {r : Tr V × St} (h : strictAll f rs = some r) : ∀ i ∈ rs, f i = some r := by
  cases rs with
  | nil => cases h
  | cons j rs =>
    obtain ⟨r', h1, h2⟩ := obind_some h
    obtain ⟨h3, h4⟩ := cond_some h2
    cases h4
    intro i hi
    rcases List.mem_cons.1 hi with rfl | hi
    · exact h1
    · exact allSame_some rs h3 i hi
omit [Base] in
theorem heldOk_sound {st : St} {o : Oper} : ∀ (hs : List Held), heldOk st o hs = true → ∀ h ∈ hs, (o.guard.isNone = true ∧ waitsOn h.idx o.after.toList = true) ∨ loadV st h.i h.d h.a = some h.v := by
  intro hs
  induction hs with
  | nil => intro _ h hh; simp at hh
  | cons k hs ih =>
    intro h g hg
    obtain ⟨h1, h2⟩ := condT h
    rcases List.mem_cons.1 hg with rfl | hg
    · cases hw : cond o.guard.isNone (waitsOn g.idx o.after.toList) false with
      | true => obtain ⟨a, b⟩ := condT hw; exact .inl ⟨a, b⟩
      | false =>
        rw [hw] at h1
        right
        unfold heldOne at h1
        cases hl : loadV st g.i g.d g.a with
        | none => rw [hl] at h1; cases h1
        | some v => rw [hl] at h1; rw [(sameV_sound 20 v g.v h1).1]
    · exact ih h2 g hg

variable {ops : Array Oper} {all : List Oper} {fn : FuncId} {nt base : Nat} {ds : Dfs} {dfr : Bool} {rd : Option Nat} {b : Frame}

/-- What a region leaves. -/
def DrawQ (φ0 : Phi) (w0 : World) (fn : FuncId) (nt : Nat) (ds : Dfs) (dfr : Bool) (rd : Option Nat) (b : Frame) (tmF : Tr V) (stF : St) : Exit → Act → World → Prop :=
  fun e a' w' => e = .normal ∧ ∃ φ', Chg φ0 w0 φ' w' ∧ Rep φ' stF w' ∧ RunR φ' fn nt ds dfr rd tmF b a'

omit [Base] in
theorem boolsK_eq {β : Type} : ∀ (l : List Bool) (K : List Bool → β), boolsK l K = K l
  | [], _ => rfl
  | true :: l, K => boolsK_eq l fun l' => K (true :: l')
  | false :: l, K => boolsK_eq l fun l' => K (false :: l')
omit [Base] in
theorem boolsA_eq {β : Type} (a : Array Bool) (K : Array Bool → β) : boolsA a K = K a := by
  unfold boolsA
  rw [boolsK_eq]
theorem drawF_sound (hE : EnvOK E P) {K0 : Kt} (hK : KOK P K0) (hall : ops.toList = all) (hsel : Region.noSelect ops = true) {φ0 : Phi} {w0 : World} {tmF : Tr V} {stF : St} :
    ∀ (n : Nat) (listed : Array Bool) (hs : List Held) (tm : Tr V) (st : St) (φ : Phi) (w : World) (a : Act), drawF E (nestK E K0) ops all nt base n listed hs tm st = some (tmF, stF) →
      Down .any ops listed → Chg φ0 w0 φ w → Rep φ st w → RunR φ fn nt ds dfr rd tm b a → (∀ h ∈ hs, Waived ops listed h.idx ∨ loadV st h.i h.d h.a = some h.v) →
      wpAnyG P .any ops (DrawQ φ0 w0 fn nt ds dfr rd b tmF stF) (SS ops φ hs) n listed a w := by
  intro n
  induction n with
  | zero =>
    intro listed hs tm st φ w a h hd hc hR hA hh
    have h' : @List.rec Nat (fun _ => Option (Tr V × St)) (some (tm, st)) (fun _ _ _ => none) (Region.ready .any ops listed) = some (tmF, stF) := h
    cases hr : Region.ready .any ops listed with
    | cons i l => rw [hr] at h'; cases h'
    | nil => rw [hr] at h'; cases h'; exact ⟨hr, rfl, φ, hc, hR, hA⟩
  | succ n ih =>
    intro listed hs tm st φ w a h hd hc hR hA hh
    have h' : drawR E (nestK E K0) ops all nt base listed hs tm st (drawF E (nestK E K0) ops all nt base n) (Region.ready .any ops listed) = some (tmF, stF) := h
    clear h
    have hS : SS ops φ hs listed w := ⟨φ, st, φ.le_refl, hR, hh⟩
    have hQ : ∀ (d : Option Tmp) (v : Value) c a w, DrawQ φ0 w0 fn nt ds dfr rd b tmF stF (.panic c) (Act.put a d v) w → DrawQ φ0 w0 fn nt ds dfr rd b tmF stF (.panic c) a w := fun d v c a w h => by cases h.1
    cases hr : Region.ready .any ops listed with
    | nil =>
      rw [hr] at h'
      cases h'
      exact wpAnyG_done hr ⟨rfl, φ, hc, hR, hA⟩ _
    | cons i0 l0 =>
      rw [hr] at h'
      obtain ⟨fd, h1, h2⟩ := obind_some h'
      cases fd with
      | one i o k =>
        obtain ⟨q1, q2, q3⟩ := firstQ_one _ h1
        rw [← hr] at q1
        have hio : ops[i]? = some o := by rw [nth_eq, ← hall] at q2; simpa using q2
        cases k with
        | strict => cases h2
        | quiet v =>
          obtain ⟨h3, h4⟩ := cond_some h2
          obtain ⟨hfree, hu⟩ := condT h3
          obtain ⟨tm', h5, h6⟩ := finK_some h4 (by simp)
          simp only [boolsA_eq] at h5
          have hns : strictish o = false := by
            rcases kindOf_quiet q3 with ⟨g, _⟩ | ⟨_, g, _⟩
            · unfold strictish
              cases hg : o.guard with
              | none => rw [hg] at g; cases g
              | some x => rfl
            · unfold strictish; rw [g]; simp
          -- the value
          have hval : ∃ x, VR φ v x ∧ YieldsIf P ops (fun _ => True) o x a := by
            rcases kindOf_quiet q3 with ⟨g, rfl⟩ | ⟨g, gq, st1, ge⟩
            · exact ⟨undef, undef_sound φ, .inr ⟨guardNow_wanted hall hA.tm g, rfl⟩⟩
            · obtain ⟨v', e1, e2, e3⟩ := quiet_any (P := P) hE hA.tm.op gq ge
              cases e1
              cases hsl : isSliceOp o.op with
              | true =>
                obtain ⟨x, g1, g2⟩ := e3 hsl
                exact ⟨x, g2, .inl ⟨guardNow_wanted hall hA.tm g, fun w _ => g1 w⟩⟩
              | false =>
                rw [hsl] at hu
                have huq := (sameV_sound 20 v v hu).2
                obtain ⟨x, g1, g2⟩ := e2 w
                refine ⟨x, g2, .inl ⟨guardNow_wanted hall hA.tm g, fun w' _ => ?_⟩⟩
                obtain ⟨x', g3, g4⟩ := e2 w'
                rw [g3, huq φ x x' g2 g4]
          obtain ⟨x, hvx, hy⟩ := hval
          obtain ⟨p1, p2, p3⟩ := h6 φ a x hA.size hA.tm hvx
          refine wpAnyG_first (v := x) (T := fun _ => True) hio (Region.noSelect_spec hsel) (fun c a w h => hQ _ _ c a w h) (fun _ _ _ _ _ => trivial) (SS.quiet hio hns) n listed a w (Region.free_spec hio hfree) hd q1 hy hS ?_
          exact ih _ hs tm' st φ w _ h5 (hd.add q1) hc hR ⟨hA.fn, hA.kind, p1, p2, by rw [p3]; exact hA.ds, hA.ro⟩ (fun h hh' => (hh h hh').imp Waived.add id)
        | held hd0 =>
          obtain ⟨h3, h4⟩ := cond_some h2
          obtain ⟨hfree, hu⟩ := condT h3
          obtain ⟨tm', h5, h6⟩ := finK_some h4 (by simp)
          simp only [boolsA_eq] at h5
          obtain ⟨g, gi, t, xo, gop, gx, gt, gl⟩ := kindOf_held q3
          have hns : strictish o = false := by unfold strictish; rw [gop]; simp [isLoadOp]
          have huq := (sameV_sound 20 _ _ hu).2
          have hrun : ∀ (φ1 : Phi) (st1 : St) (w1 : World), φ.le φ1 → Rep φ1 st1 w1 → loadV st1 hd0.i hd0.d hd0.a = some hd0.v → ∃ x, (execOp a.eval o).run P w1 = .ok (.value x) w1 ∧ VR φ1 hd0.v x := by
            intro φ1 st1 w1 hle hR1 hl
            obtain ⟨y, e1, e2⟩ := evLoad_sound (P := P) (t := t) hE hR1 gt ((hA.tm.op xo hd0.a gx).mono hle) hl
            refine ⟨y, ?_, e2⟩
            obtain ⟨dst, op, ty, pos, after, guard⟩ := o
            obtain rfl : op = .load t xo := gop
            exact vRun_ok (s := Instr.loadAt t (a.eval xo)) e1
          obtain ⟨x, hx, hvx⟩ := hrun φ st w φ.le_refl hR gl
          obtain ⟨p1, p2, p3⟩ := h6 φ a x hA.size hA.tm hvx
          refine wpAnyG_mono (S' := SS ops φ (hd0 :: hs)) (fun L w h => h.mono φ.le_refl (fun h hh => List.mem_cons_of_mem _ hh)) _ _ _ _ ?_
          refine wpAnyG_first (v := x) (T := fun w' => ∃ φ1 st1, φ.le φ1 ∧ Rep φ1 st1 w' ∧ loadV st1 hd0.i hd0.d hd0.a = some hd0.v) hio (Region.noSelect_spec hsel) (fun c a w h => hQ _ _ c a w h)
            (fun L w' hdn hun hSS => ?_) (SS.quiet hio hns) n listed a w (Region.free_spec hio hfree) hd q1 (.inl ⟨guardNow_wanted hall hA.tm g, fun w' ⟨φ1, st1, e1, e2, e3⟩ => ?_⟩)
            ⟨φ, st, φ.le_refl, hR, fun h hh' => by rcases List.mem_cons.1 hh' with rfl | hh'; exact .inr gl; exact hh h hh'⟩ ?_
          · obtain ⟨φ1, st1, e1, e2, e3⟩ := hSS
            rcases e3 hd0 (List.mem_cons_self ..) with e | e
            · rw [gi] at e; exact (waits_edge hdn e hun).elim
            · exact ⟨φ1, st1, e1, e2, e⟩
          · obtain ⟨x', f1, f2⟩ := hrun φ1 st1 w' e1 e2 e3
            rw [f1, huq φ1 x x' (hvx.mono e1) f2]
          · exact ih _ (hd0 :: hs) tm' st φ w _ h5 (hd.add q1) hc hR ⟨hA.fn, hA.kind, p1, p2, by rw [p3]; exact hA.ds, hA.ro⟩ (fun h hh' => by
              rcases List.mem_cons.1 hh' with rfl | hh'
              · exact .inr gl
              · exact (hh h hh').imp Waived.add id)
      | all =>
        have hall2 := strictAll_some (f := strictAt E (nestK E K0) all nt base listed hs tm st (drawF E (nestK E K0) ops all nt base n)) (rs := i0 :: l0) (r := (tmF, stF)) h2
        have hkinds := firstQ_all _ h1
        refine ⟨fun e => (by rw [hr] at e; cases e), fun i hi => ?_⟩
        have hi' : i ∈ i0 :: l0 := hr ▸ hi
        obtain ⟨o, ho1, ho2⟩ := hkinds i hi'
        obtain ⟨k1, k2, k3⟩ := kindOf_strict ho2
        have hf := hall2 i hi'
        obtain ⟨o', g1, hf⟩ := obind_some hf
        rw [ho1] at g1; cases g1
        obtain ⟨⟨v, st2⟩, g2, hf⟩ := obind_some hf
        dsimp only at hf
        obtain ⟨g3, g4⟩ := cond_some hf
        obtain ⟨tm', g5, g6⟩ := finK_some g4 (by simp)
        simp only [boolsA_eq] at g5
        have hio : ops[i]? = some o := by rw [nth_eq, ← hall] at ho1; simpa using ho1
        have hso := strict_sound (P := P) (a := a) hE hK hR hA.tm g2
        have hwant := guardNow_wanted hall hA.tm k1
        unfold wpOp
        rw [hio]
        simp only [hwant, if_true]
        refine .inl (hso _ _ fun φ' x w' c1 c2 c3 => ?_)
        have hin : i < listed.size := by
          have := (mem_ready.1 hi).1
          rcases Nat.lt_or_ge i listed.size with h' | h'
          · exact h'
          · simp [Array.getElem?_eq_none h'] at this
        have hheld : ∀ h ∈ hs, Waived ops (listed.setIfInBounds i true) h.idx ∨ loadV st2 h.i h.d h.a = some h.v := fun h hh' => by
          rcases heldOk_sound hs g3 h hh' with ⟨e1, e2⟩ | e
          · exact .inl ⟨i, o, hio, by simp [hin], by unfold strictish; rw [e1, k2, k3]; rfl, e2⟩
          · exact .inr e
        obtain ⟨p1, p2, p3⟩ := g6 φ' a x hA.size (hA.tm.mono c1.le) c3
        refine ⟨⟨φ', st2, c1.le, c2, hheld⟩, ?_⟩
        refine wpAnyG_mono (S' := SS ops φ' hs) (fun L w h => h.mono c1.le (fun h hh => hh)) _ _ _ _ ?_
        exact ih _ hs tm' st2 φ' w' _ g5 (hd.add hi) (hc.trans c1) c2 ⟨hA.fn, hA.kind, p1, p2, by rw [p3]; exact hA.ds.mono c1.le, hA.ro.mono c1.le⟩ hheld

/-! the same in a round -/
omit [Base] in
theorem opIn_of_wp {l n : Nat} {o : Oper} {a : Act} {w : World} {K : Act → World → Prop} {Q : Exit → Act → World → Prop} (hd : ∀ c, o.op ≠ .defer c) (h : o.wp P a w K Q) : o.wpIn (Fence.wide.inRound l) n P a w K Q := by
  refine ⟨fun _ _ => trivial, ?_⟩
  rw [Oper.semAt_eq _ _ _ hd]
  unfold Oper.wp at h
  generalize (execOp a.eval o).run P w = r at h
  have hdep : (Fence.wide.inRound l).depth.isSome = true → 1 ≤ n := fun e => by cases e
  cases r with
  | ok x w' =>
    cases x <;> first | exact h | exact h.elim | skip
    · exact ⟨hdep, callsIn_wide.2 h⟩
    · exact ⟨hdep, fun c cs _ => let ⟨v, w', r, s⟩ := h c cs; ⟨v, w', r, stepsIn_wide.2 s⟩⟩
  | halt x w' => cases x <;> first | exact h | exact h.elim
omit [Base] in
theorem anyIn_of_any {l m : Nat} {Q : Exit → Act → World → Prop} (hQ : ¬ LetsOut Q) (hd : ∀ o ∈ ops, ∀ c, o.op ≠ .defer c) : ∀ (n : Nat) (listed : Array Bool) (a : Act) (w : World), wpAny P .any ops Q n listed a w → wpAnyIn (Fence.wide.inRound l) m P .any ops Q n listed a w
  | 0, _, _, _, h => h
  | n + 1, listed, a, w, h => ⟨h.1, fun i hi => by
    have h2 := wpOp_mono (fun a' w' h' => anyIn_of_any (l := l) (m := m) hQ hd n (listed.setIfInBounds i true) a' w' h') (h.2 i hi)
    unfold wpOp at h2
    unfold wpOpIn
    cases ho : ops[i]? with
    | none => rw [ho] at h2; exact h2
    | some o =>
      rw [ho] at h2
      dsimp only at h2 ⊢
      cases hw : Region.wanted o (yielded ops a.tmps) with
      | true =>
        rw [hw] at h2
        simp only [if_true] at h2 ⊢
        rcases h2 with h2 | h2
        · exact opIn_of_wp (hd o (Array.mem_of_getElem? ho)) h2
        · exact absurd h2.2 hQ
      | false =>
        rw [hw] at h2
        simp only [Bool.false_eq_true, if_false] at h2 ⊢
        exact ⟨fun _ _ => trivial, h2⟩⟩
omit [Base] in
theorem roundOk_spec {l : Nat} (h : roundOk (some l) ops = true) : ∀ o ∈ ops, ∀ c, o.op ≠ .defer c := fun o ho c e => by
  have h' : (ops.all fun o => not (isDefer o)) = true := h
  have := Array.all_eq_true_iff_forall_mem.1 h' o ho
  unfold isDefer at this
  rw [e] at this
  cases this

theorem drawI_sound (hE : EnvOK E P) {K : Kt} (hK : KOK P K) {id : Nat} {l : List I} {k : List Item} {tm : Tr V} {st : St} {cs : List Fr} {v : V} {st' : St} {φ : Phi} {w : World} {a : Act} {frs cs0 : List Frame}
    (h : drawI ops E l tm st ⟨fn, nt, ds, dfr, rd, cs⟩ K = some (v, st')) (hA : RunR φ fn nt ds dfr rd tm b a) (hts : TodoR l k) (hc : CsR φ w dfr cs frs) (hR : Rep φ st w) :
    Ends P φ w (b.atR a (.code (.region id ops true) :: k)) frs cs0 v st' (bot fn cs) := by
  obtain ⟨next, blks⟩ := st
  obtain ⟨hsr, h1⟩ := cond_some (c := cond (Region.noSelect ops) (roundOk rd ops) false) h
  obtain ⟨hsel, hrok⟩ := condT hsr
  rw [natK_eq] at h1
  obtain ⟨⟨tmF, stF⟩, h2, h3⟩ := obind_some h1
  dsimp only at h3
  have hdn : Down .any ops (Array.replicate ops.size false) := fun j oj _ hl => by
    rw [Array.getD_eq_getD_getElem?] at hl
    simp only [Array.getElem?_replicate] at hl
    split at hl <;> cases hl
  have hG := drawF_sound (P := P) (fn := fn) (ds := ds) (dfr := dfr) (rd := rd) (b := b) (φ0 := φ) (w0 := w) hE hK rfl hsel ops.size _ [] tm _ φ w.drew a h2 hdn (chg_drew w) (rep_drew hR.reset) hA (fun h hh => by simp at hh)
  have hany := wpAny_of_G _ _ _ _ hG
  have hQ : ¬ LetsOut (DrawQ φ w fn nt ds dfr rd b tmF stF) := fun ⟨a, w, h⟩ => by cases h.1
  have harr : ∃ a' w', DrawQ φ w fn nt ds dfr rd b tmF stF .normal a' w' ∧ Steps P (lone (b.atR a (.code (.region id ops true) :: k)) (frs ++ cs0) w) (lone (b.atR a' k) (frs ++ cs0) w') := by
    have hro := hA.ro
    cases hb : b.roundOf with
    | none =>
      have hwp := wp_region_any (P := P) (id := id) (Q := DrawQ φ w fn nt ds dfr rd b tmF stF) (a := a) (w := w) hE.mixed hany
      obtain ⟨e, a', w', hq, harr⟩ := hwp b k (frs ++ cs0)
      obtain ⟨rfl, hq2⟩ := hq
      rw [Frame.atR_of_none hb]
      exact ⟨a', w', ⟨rfl, hq2⟩, by rw [Frame.atR_of_none hb]; exact harr⟩
    | some bl =>
      rw [hb] at hro
      obtain ⟨l', rfl⟩ : ∃ l', rd = some l' := by cases hro with | some l' _ κ hφ => exact ⟨l', rfl⟩
      have hwp := wpIn_region_any (F := Fence.wide.inRound bl) (n := 0) (P := P) (id := id) (a := a) (w := w) hE.mixed (anyIn_of_any hQ (roundOk_spec hrok) _ _ _ _ hany)
      obtain ⟨e, a', w', hq, harr⟩ := hwp b k (frs ++ cs0) hb trivial (room_wide _)
      obtain ⟨rfl, hq2⟩ := hq
      exact ⟨a', w', ⟨rfl, hq2⟩, StepsIn.steps harr⟩
  obtain ⟨a', w', ⟨_, φ', g1, g2, g3⟩, harr⟩ := harr
  exact Ends.of_steps (frs1 := frs) harr g1 (hK _ _ _ _ _ _ _ _ _ _ _ φ' w' _ frs cs0 h3 (.run g3 hts) (hc.mono g1) g2)
end
end Go.Ev
namespace Go.Ev
open Go.RowKit
variable [Base]

section
variable {E : Env} {P : Program}

omit [Base] in
theorem exitV_none {id : Nat} {l : List I} {k : List Item} (h : TodoR l k) : exitV id l = none → exitTo id k = none := by
  induction h with
  | nil => intro _; rfl
  | cons hi hs ih =>
    rename_i i x l k
    intro e
    cases i with
    | blk id' =>
      obtain rfl := hi
      simp only [exitV] at e
      simp only [exitTo]
      cases hb : Nat.beq id' id with
      | true => rw [hb] at e; cases e
      | false =>
        rw [hb] at e
        have hne : id' ≠ id := fun q => by rw [q, Nat.beq_refl] at hb; cases hb
        have := ih e
        simp [hne, this]
    | code c => obtain rfl := hi; exact ih e
    | lp c => obtain rfl := hi; exact ih e
    | sc c => obtain rfl := hi; exact ih e
    | ops all rest => obtain ⟨ops, q, rfl, _, _⟩ := hi; exact ih e
    | out => exact hi.elim
    | begin => obtain rfl := hi; exact ih e
    | inRF => exact hi.elim
omit [Base] in
theorem gotoV_none {id : Nat} {l : List I} {k : List Item} (h : TodoR l k) : gotoV id l = none → gotoIn id k = none := by
  induction h with
  | nil => intro _; rfl
  | cons hi hs ih =>
    rename_i i x l k
    intro e
    cases i with
    | sc body =>
      obtain rfl := hi
      simp only [gotoV] at e
      simp only [gotoIn]
      cases hf : findLabel body id with
      | some r => rw [hf] at e; cases e
      | none => rw [hf] at e; exact ih e
    | code c => obtain rfl := hi; exact ih e
    | lp c => obtain rfl := hi; exact ih e
    | blk c => obtain rfl := hi; exact ih e
    | ops all rest => obtain ⟨ops, q, rfl, _, _⟩ := hi; exact ih e
    | out => exact hi.elim
    | begin => obtain rfl := hi; exact ih e
    | inRF => exact hi.elim

omit [Base] in
/-- The frame that goes round in a loop. -/
theorem findRF_sound {φ : Phi} {w : World} {l : Nat} {f : FuncId → Nat → Tr V → List Tmp → Code → Code → R} {r : V × St} {dfr : Bool} {cs : List Fr} {frs : List Frame} (hc : CsR φ w dfr cs frs) (h : findRF l f cs = some r) :
    ∃ fn nt tm ps a c bl κ rec, ∃ tmps : Array Value, f fn nt tm ps a c = some r ∧ φ l = some (bl, κ) ∧ w.heap[bl]? = some (Obj.loop rec) ∧ LMatch rec fn tmps ps a c ∧ TR φ tm tmps ∧ tmps.size = nt := by
  induction hc with
  | nil => cases h
  | cons d hfr hs ih =>
    rename_i fn nt ds dfr rd tm todo fr cs frs
    cases hfr with
    | run h5 ht =>
      cases ht with
      | nil => exact ih h
      | cons hi hts =>
        rename_i i2 it2 l2 kk2
        cases i2 <;> first | exact hi.elim | exact ih h
    | out h5 => exact ih h
    | loop h5 ht hφ hw hm =>
      rename_i todo k b a l' bl κ ps as c r0
      replace h : cond (Nat.beq l l') (f fn nt tm ps as c) (findRF l f cs) = some r := h
      cases hb : Nat.beq l l' with
      | false => rw [hb] at h; exact ih h
      | true =>
        rw [hb] at h
        obtain rfl := Nat.eq_of_beq_eq_true hb
        exact ⟨fn, nt, tm, ps, as, c, bl, κ, r0, a.tmps, h, hφ, hw, hm, h5.tm, h5.size⟩
omit [Base] in
theorem putPs_sound {nt : Nat} {K : Tr V → R} {r : V × St} : ∀ (ps : List Tmp) (args : List V) (tm : Tr V), putPs nt K ps args tm = some r → ps.length = args.length ∧ ∃ tm', K tm' = some r ∧
    ∀ (φ : Phi) (tmps : Array Value) (xs : List Value), TR φ tm tmps → tmps.size = nt → VRs φ args xs → TR φ tm' ((ps.zip xs).foldl (fun t (p, x) => t.setIfInBounds p x) tmps) ∧ ((ps.zip xs).foldl (fun t (p, x) => t.setIfInBounds p x) tmps).size = nt := by
  intro ps
  induction ps with
  | nil =>
    intro args tm h
    cases args with
    | nil => exact ⟨rfl, tm, h, fun φ tmps xs ht hs _ => ⟨ht, hs⟩⟩
    | cons v vs => cases h
  | cons t ps ih =>
    intro args tm h
    cases args with
    | nil => cases h
    | cons v vs =>
      obtain ⟨hb, h⟩ := cond_none (c := Nat.ble nt t) h
      rw [Tr.setK_eq] at h
      obtain ⟨h1, tm', h2, h3⟩ := ih vs _ h
      refine ⟨by simp [h1], tm', h2, fun φ tmps xs ht hs hv => ?_⟩
      obtain ⟨x, xs', rfl, hx, hxs⟩ := hv.inv
      have hlt := ble_false hb
      exact h3 φ (tmps.setIfInBounds t x) xs' (ht.put (by omega) hx) (by simpa using hs) hxs

theorem roundK_sound {K : Kt} (hK : KOK P K) {l bl κ : Nat} {args : List V} {xs : Array Value} {st : St} {cs : List Fr} {v : V} {st' : St} {φ : Phi} {w : World} {m : Frame} {frs0 frs cs0 : List Frame} {dfr : Bool} {fn : FuncId}
    (h : roundK l args st cs K = some (v, st')) (hφ : φ l = some (bl, κ)) (ha : VRs φ args xs.toList) (hc : ∀ d, CsR φ w d cs frs) (hR : Rep φ st w) (hne : cs ≠ [])
    (hs : ∀ rec : Loop, w.heap[bl]? = some (Obj.loop rec) → xs.size = rec.params.size →
      Steps P (lone m (frs0 ++ cs0) w) (lone (Frame.round bl rec.fn ((rec.params.zip xs).foldl (fun tmps (t, a) => tmps.setIfInBounds t a) rec.tmps) rec.assign rec.body .normal) (frs ++ cs0) w)) :
    Ends P φ w m frs0 cs0 v st' (bot fn cs) := by
  obtain ⟨fn2, nt2, tm2, ps, a, c, bl2, κ2, rec, tmps, h1, h2, h3, h4, h5, h6⟩ := findRF_sound (hc dfr) h
  rw [hφ] at h2
  cases h2
  obtain ⟨h7, tm', h8, h9⟩ := putPs_sound ps args tm2 h1
  have hsz : xs.size = rec.params.size := by
    have e1 := ha.1
    have e2 := congrArg List.length h4.params
    simp at e1 e2
    omega
  have hs := hs rec h3 hsz
  obtain ⟨g1, g2⟩ := h9 φ tmps xs.toList h5 h6 ha
  have hfold : (rec.params.zip xs).foldl (fun tmps (t, a) => tmps.setIfInBounds t a) rec.tmps = (ps.zip xs.toList).foldl (fun t (p, x) => t.setIfInBounds p x) tmps := by
    rw [← Array.foldl_toList, Array.toList_zip, h4.params, h4.tmps]
  rw [hfold] at hs
  have hround : Frame.round bl rec.fn ((ps.zip xs.toList).foldl (fun t (p, x) => t.setIfInBounds p x) tmps) rec.assign rec.body .normal =
      ({ (default : Frame) with fn := fn2, kind := .normal, roundOf := some bl } : Frame).atR { tmps := (ps.zip xs.toList).foldl (fun t (p, x) => t.setIfInBounds p x) tmps, defers := [] } [.code a, .beginRound, .code c] := by
    simp [Frame.round, Frame.atR, h4.fn, h4.assign, h4.body]
  rw [hround] at hs
  have hbot : ∀ x y, bot x cs = bot y cs := fun x y => by
    cases cs with
    | nil => exact absurd rfl hne
    | cons c cs => rfl
  rw [hbot fn fn2]
  exact Ends.of_steps (frs1 := frs) hs (Chg.refl φ w) (hK _ _ _ _ _ _ _ _ _ _ _ φ w _ frs cs0 h8 (.run ⟨rfl, rfl, g2, g1, .nil, .some l bl κ hφ⟩ (.cons rfl (.cons rfl (.cons rfl .nil)))) (hc false) hR)

theorem rangeF_sound (hE : EnvOK E P) {K : Kt} (hK : KOK P K) {f : Operand} {ps : Array Tmp} {as c : Code} {l : List I} {k : List Item} {tm : Tr V} {st : St} {fn : FuncId} {nt : Nat} {ds : Dfs} {dfr : Bool} {rd : Option Nat} {cs : List Fr} {v : V} {st' : St} {φ : Phi} {w : World} {b : Frame} {a : Act} {frs cs0 : List Frame}
    (h : rangeF f ps as c E l tm st ⟨fn, nt, ds, dfr, rd, cs⟩ K = some (v, st')) (hA : RunR φ fn nt ds dfr rd tm b a) (hts : TodoR l k) (hc : CsR φ w dfr cs frs) (hR : Rep φ st w) :
    Ends P φ w (b.atR a (.code (.rangeFunc f ps as c) :: k)) frs cs0 v st' (bot fn cs) := by
  obtain ⟨u, h1, h2⟩ := obind_some h
  have hv := hA.tm.op f u h1
  cases u <;> first | (cases h2; done) | skip
  rename_i g first captured
  cases g <;> first | (cases h2; done) | skip
  rename_i g
  generalize hev : a.eval f = ev at hv
  cases hv with
  | fn _ _ _ a' c' q1 q2 q3 q4 =>
  have k1 : VRs φ first a'.toList := ⟨by simpa using q1, fun i v x p q => q2 i v x p (by simpa using q)⟩
  have k2 : VRs φ captured c'.toList := ⟨by simpa using q3, fun i v x p q => q4 i v x p (by simpa using q)⟩
  -- the mark
  have hmark : ∀ {F : Dfs → St → R}, markK st ds F rd = some (v, st') → ∃ ds' st1 φ1 w1 dl mark, F ds' st1 = some (v, st') ∧ Chg φ w φ1 w1 ∧ Rep φ1 st1 w1 ∧ DfR φ1 ds' (mark ++ a.defers) ∧
      (Instr.enterLoop b.fn a.tmps ps as c b.roundOf).run P w = .ok (w1.heap.size, mark) (w1.alloc (.loop { state := .ready, pending := none, fn := b.fn, tmps := a.tmps, params := ps, assign := as, body := c, defers := dl })) := by
    intro F hm
    cases rd with
    | none =>
      have hro : b.roundOf = none := by have := hA.ro; generalize b.roundOf = q at this; cases this; rfl
      obtain ⟨next, blks⟩ := st
      obtain ⟨hg, hm⟩ := newBK_some (K := fun id st' => F (.mark id :: ds) st') hm
      have hR2 := hR.push hg (.obj .dfd) (.deferred (some [])) 0 (fun r g e => by cases e) (fun r g e => by cases e) (fun cs s l x e => by cases e) (fun es c e => by cases e) (fun v e => by cases e; exact .dfd)
      have hch := Chg.alloc (φ := φ) (w := w) (o := .deferred (some [])) (id := next) (κ := 0) (hR.fresh hg)
      refine ⟨_, _, _, _, w.heap.size, [{ target := .collected w.heap.size, args := #[] }], hm, hch, hR2, .cons ⟨_, _, rfl, Phi.add_self⟩ (hA.ds.mono hch.le), ?_⟩
      rw [hro]
      rfl
    | some l0 =>
      obtain ⟨s, p, h6, hm⟩ := loopAt_some (f := fun _ _ => F ds st) hm
      obtain ⟨bl, κ, hb, hφ⟩ : ∃ bl κ, b.roundOf = some bl ∧ φ l0 = some (bl, κ) := by
        have := hA.ro
        generalize hq : b.roundOf = q at this
        cases this with
        | some _ bl κ h => exact ⟨bl, κ, rfl, h⟩
      obtain ⟨r0, hr0, _, _⟩ := loop_obj hR hφ h6
      refine ⟨ds, st, φ, w, r0.defers, [], hm, Chg.refl φ w, hR, hA.ds, ?_⟩
      rw [hb]
      unfold Instr.enterLoop
      simp only [Sem.run_bind, run_getLoop hr0, Result.andThen_ok, Sem.run_pure]
      rfl
  obtain ⟨ds', st1, φ1, w1, dl, mark, h3, hch, hR1, hds, hrun⟩ :=
    hmark (F := fun ds' st1 => newBK st1 (.obj (.loop .ready none)) fun l2 st2 => listK (first ++ (.yld l2 :: captured)) fun all => enterK E g all false st2 (⟨fn, nt, ds', dfr, rd, tm, .inRF l2 ps.toList as c :: l⟩ :: cs) K) h2
  obtain ⟨next, blks⟩ := st1
  obtain ⟨hg, h4⟩ := newBK_some h3
  rw [listK_eq] at h4
  have hR2 := hR1.push hg (.obj (.loop .ready none)) (.loop { state := .ready, pending := none, fn := b.fn, tmps := a.tmps, params := ps, assign := as, body := c, defers := dl }) 0 (fun r g e => by cases e) (fun r g e => by cases e) (fun cs s l x e => by cases e) (fun es c e => by cases e) (fun v e => by cases e; exact .loop _ _ _ rfl rfl)
  have hch2 := Chg.alloc (φ := φ1) (w := w1) (o := .loop { state := .ready, pending := none, fn := b.fn, tmps := a.tmps, params := ps, assign := as, body := c, defers := dl }) (id := next) (κ := 0) (hR1.fresh hg)
  have hall := hch.trans hch2
  have he : (Instr.enterLoop b.fn a.tmps ps as c b.roundOf).run P w = .ok (w1.heap.size, mark) (w1.alloc (.loop { state := .ready, pending := none, fn := b.fn, tmps := a.tmps, params := ps, assign := as, body := c, defers := dl })) := hrun
  have hres : (resolve a.eval (rangeCall f w1.heap.size) 0).run P (w1.alloc (.loop { state := .ready, pending := none, fn := b.fn, tmps := a.tmps, params := ps, assign := as, body := c, defers := dl })) =
      .ok { target := .fn (.func g) c', args := a' ++ #[Value.func (Fn.yield w1.heap.size) #[] #[]] } (w1.alloc (.loop { state := .ready, pending := none, fn := b.fn, tmps := a.tmps, params := ps, assign := as, body := c, defers := dl })) := by
    unfold resolve rangeCall
    simp only [hev, Deferred.ofValue, Sem.run_pure]
    have : Array.map a.eval #[Operand.const (Value.func (Fn.yield w1.heap.size) #[] #[])] = #[Value.func (Fn.yield w1.heap.size) #[] #[]] := by simp [Act.eval]
    rw [this]
  obtain ⟨fF, p1, p2⟩ := obind_some h4
  obtain ⟨body, p3, p4⟩ := obind_some p2
  obtain ⟨r1, r2⟩ := hE.funcs g fF p1
  have hn : fF.name ≠ "runtime.NumGoroutine" := by simpa using r2
  have hinv : (invoke (Target.fn (.func g) c') (a' ++ #[Value.func (Fn.yield w1.heap.size) #[] #[]])).run P (w1.alloc (.loop { state := .ready, pending := none, fn := b.fn, tmps := a.tmps, params := ps, assign := as, body := c, defers := dl })) =
      .ok (.enter g (a' ++ #[Value.func (Fn.yield w1.heap.size) #[] #[]] ++ c')) (w1.alloc (.loop { state := .ready, pending := none, fn := b.fn, tmps := a.tmps, params := ps, assign := as, body := c, defers := dl })) := by
    unfold invoke callFunc
    simp [r1, hn, p3]
  have hs := stepR_rangeFunc (P := P) (b := b) (a := a) (k := k) (cs := frs ++ cs0) he hres hinv
  have hvs : VRs (φ1.add next w1.heap.size 0) (first ++ (.yld next :: captured)) (a' ++ #[Value.func (Fn.yield w1.heap.size) #[] #[]] ++ c').toList := by
    have := (k1.mono hall.le).append (VRs.cons (VR.yld next _ _ Phi.add_self) (k2.mono hall.le))
    simpa using this
  have hfr : FrR (φ1.add next w1.heap.size 0) (w1.alloc (.loop { state := .ready, pending := none, fn := b.fn, tmps := a.tmps, params := ps, assign := as, body := c, defers := dl })) fn nt ds' dfr tm rd (.inRF next ps.toList as c :: l) (b.atR { a with defers := mark ++ a.defers } (.inRangeFunc w1.heap.size :: k)) :=
    .loop (r := { state := .ready, pending := none, fn := b.fn, tmps := a.tmps, params := ps, assign := as, body := c, defers := dl }) ⟨hA.fn, hA.kind, hA.size, hA.tm.mono hall.le, hds.mono hch2.le, hA.ro.mono hall.le⟩ hts Phi.add_self heap_alloc_new ⟨hA.fn, rfl, rfl, rfl, rfl⟩
  have := enterK_sound hE hK (dfr := false) (frs := b.atR { a with defers := mark ++ a.defers } (.inRangeFunc w1.heap.size :: k) :: frs) (cs0 := cs0) h4 hvs hR2 (.cons false hfr (hc.mono hall))
  exact Ends.of_steps (frs1 := b.atR { a with defers := mark ++ a.defers } (.inRangeFunc w1.heap.size :: k) :: frs) (.one hs) hall this

theorem evStep_sound (hE : EnvOK E P) {K : Kt} (hK : KOK P K) : KOK P (evStep E K) := by
  intro todo tm st fn nt ds dfr rd cs v st' φ w fr frs cs0 h hfr hc hR
  cases hfr with
  | loop => cases h
  | out hA =>
    exact retD_sound hE hK h hA hc hR
  | run hA ht =>
    rename_i k b a
    have hround : ∀ l, rd = some l → dfr = false ∧ ∃ bl κ, b.roundOf = some bl ∧ φ l = some (bl, κ) := fun l e => by
      subst e
      have := hA.ro
      generalize b.roundOf = q at this
      cases this with
      | some _ bl κ h => exact ⟨rfl, bl, κ, rfl, h⟩
    have hnone : rd = none → b.roundOf = none := fun e => by
      subst e
      have := hA.ro
      generalize b.roundOf = q at this
      cases this; rfl
    have hkind : ∀ l, rd = some l → b.kind = .normal := fun l e => by rw [hA.kind, (hround l e).1]; rfl
    cases ht with
    | nil =>
      cases hrd : rd with
      | none =>
        subst hrd
        have h' : retD E fn nt dfr tm st cs K ds = some (v, st') := h
        exact Ends.of_steps (frs1 := frs) (.one (stepR_end (hnone rfl))) (Chg.refl φ w) (retD_sound (k := []) hE hK h' hA hc hR)
      | some l =>
        obtain ⟨hd, bl, κ, hb, hφ⟩ := hround l hrd
        have hk := hkind l hrd
        subst hrd
        subst hd
        have h' : leaveR l none st cs K = some (v, st') := h
        exact leaveR_sound hK h' hφ hc hR (fun x w' hr c cs' => stepR_round_end hb hk hr)
    | cons hi hts =>
      rename_i i x l k
      have one : ∀ (l' : List I) (k' : List Item), Go.step P (lone (b.atR a (x :: k)) (frs ++ cs0) w) = .next (lone (b.atR a k') (frs ++ cs0) w) → K l' tm st ⟨fn, nt, ds, dfr, rd, cs⟩ = some (v, st') → TodoR l' k' → Ends P φ w (b.atR a (x :: k)) frs cs0 v st' (bot fn cs) :=
        fun l' k' hs hk hl => Ends.of_steps (frs1 := frs) (.one hs) (Chg.refl φ w) (hK _ _ _ _ _ _ _ _ _ _ _ φ w _ frs cs0 hk (.run hA hl) hc hR)
      cases i with
      | blk id => obtain rfl := hi; exact one l k stepR_inBlock h hts
      | sc body => obtain rfl := hi; exact one l k (by exact step_lone_go (by simp [stepG, stepG.exec, Frame.atR])) h hts
      | lp body => obtain rfl := hi; exact one _ _ stepR_inLoop h (.cons rfl (.cons rfl hts))
      | out => exact hi.elim
      | inRF => exact hi.elim
      | begin =>
        obtain rfl := hi
        cases hrd : rd with
        | none => subst hrd; cases h
        | some l0 =>
          obtain ⟨hd, bl, κ, hb, hφ⟩ := hround l0 hrd
          subst hrd
          replace h : loopAt st l0 (fun s p => beginK l tm st ⟨fn, nt, ds, dfr, some l0, cs⟩ K l0 p s) = some (v, st') := h
          obtain ⟨s, p, h6, h7⟩ := loopAt_some h
          cases s <;> first | (cases h7; done) | skip
          obtain ⟨r, hr, hst, hpe⟩ := loop_obj hR hφ h6
          obtain ⟨next, blks⟩ := st
          replace h7 : setBlkK ⟨next, blks⟩ l0 (.obj (.loop .busy p)) (fun st' => K l tm st' ⟨fn, nt, ds, dfr, some l0, cs⟩) = some (v, st') := h7
          rw [setBlkK_eq] at h7
          obtain ⟨k1, k2⟩ := set_loop hR hφ h6 hr (r' := { r with state := .busy }) ⟨rfl, rfl, rfl, rfl, rfl⟩ (b' := .obj (.loop .busy p)) (.inr ⟨_, rfl, .loop _ _ _ rfl hpe⟩)
          have hbeg : (Instr.beginRound bl).run P w = .ok () (putObj w bl (Obj.loop { r with state := .busy })) := by
            unfold Instr.beginRound
            have : r.state = .ready := hst
            simp only [Sem.run_bind, run_getLoop hr, Result.andThen_ok, run_setObj (P := P) _ hr (fun a e f => by simp), this, Sem.run_pure]
          exact Ends.of_steps (frs1 := frs) (.one (stepR_beginRound hb hbeg)) k1 (hK _ _ _ _ _ _ _ _ _ _ _ φ _ _ frs cs0 h7 (.run hA hts) (hc.mono k1) k2)
      | ops all rest =>
        obtain ⟨ops, q, rfl, hall, hrest⟩ := hi
        have hrec : dfr = true → ∀ fr : Frame, fr.kind = .deferred → tryRecover fr (frs ++ cs0) = none := fun hd fr hk => hc.noRecover hd hk
        have hout := opsRun_sound (P := P) (ops := ops) (all := all) (fn := fn) (nt := nt) (ds := ds) (dfr := dfr) (rd := rd) (b := b) (K := k) (cs := frs ++ cs0) hE hall hrec rest q hrest tm st a w φ hA hR
        replace h : outK E all l K fn nt ds dfr rd cs (opsRun E rest all nt dfr tm st) = some (v, st') := h
        cases ho : opsRun E rest all nt dfr tm st with
        | stop => rw [ho] at h; cases h
        | done tm' st1 =>
          rw [ho] at h hout
          obtain ⟨φ1, a1, w1, s1, s2, s3, s4⟩ := hout
          exact Ends.of_steps (frs1 := frs) (s1.trans (.one stepR_region_end)) s2 (hK _ _ _ _ _ _ _ _ _ _ _ φ1 w1 _ frs cs0 h (.run s4 hts) (hc.mono s2) s3)
        | call rest' f args tm' st1 =>
          rw [ho] at h hout
          obtain ⟨φ1, a1, w1, k1, xs, s1, s2, s3, s4, s5, s6⟩ := hout
          have hgo : ∀ m, E.memo f args st1 = m → Ends P φ1 w1 (Frame.enter P f xs .normal) (b.atR a1 (.inRegion ops (List.range' k1 (all.length - k1)) :: k) :: frs) cs0 v st' (bot fn cs) := by
            intro m hm
            replace h : @Option.rec (V × St) (fun _ => R) (enterK E f args false st1 (⟨fn, nt, ds, dfr, rd, tm', .ops all rest' :: l⟩ :: cs) K) (fun p => backO all l p.1 fn nt ds dfr rd tm' p.2 cs K rest') (E.memo f args st1) = some (v, st') := h
            rw [hm] at h
            cases m with
            | none => exact enterK_sound hE hK (xs := xs) (dfr := false) (frs := b.atR a1 (.inRegion ops (List.range' k1 (all.length - k1)) :: k) :: frs) (cs0 := cs0) h s5 s3 (.cons false (.run s4 (.cons ⟨ops, k1, rfl, hall, s6⟩ hts)) (hc.mono s2))
            | some p =>
              obtain ⟨u, st2⟩ := p
              obtain ⟨φ2, x, w2, fr', e1, e2, e3, e4, e5, e6⟩ := hE.memo f args st1 u st2 hm φ1 w1 xs (b.atR a1 (.inRegion ops (List.range' k1 (all.length - k1)) :: k) :: frs ++ cs0) s5 s3
              exact Ends.of_steps (frs1 := b.atR a1 (.inRegion ops (List.range' k1 (all.length - k1)) :: k) :: frs) e1 e2 (backO_sound hK h e5 e4 e3 (s4.mono e2.le) hts hall s6 (hc.mono (s2.trans e2)))
          have := hgo _ rfl
          exact Ends.of_steps (frs1 := b.atR a1 (.inRegion ops (List.range' k1 (all.length - k1)) :: k) :: frs) s1 s2 this
        | round rest' l0 args tm' st1 =>
          rw [ho] at h hout
          obtain ⟨φ1, a1, w1, k1, bl, κ, xs, s1, s2, s3, s4, s5, s6, s7⟩ := hout
          replace h : roundK l0 args st1 (⟨fn, nt, ds, dfr, rd, tm', .ops all rest' :: l⟩ :: cs) K = some (v, st') := h
          have hcs : ∀ d, CsR φ1 w1 d (⟨fn, nt, ds, dfr, rd, tm', .ops all rest' :: l⟩ :: cs) (b.atR a1 (.inRegion ops (List.range' k1 (all.length - k1)) :: k) :: frs) := fun d => .cons d (.run s4 (.cons ⟨ops, k1, rfl, hall, s7⟩ hts)) (hc.mono s2)
          obtain ⟨fn2, nt2, tm2, ps, as, c, bl2, κ2, rec, tmps, g1, g2, g3, g4, g5, g6⟩ := findRF_sound (hcs false) h
          have := roundK_sound (m := Frame.round bl rec.fn ((rec.params.zip xs).foldl (fun tmps (t, a) => tmps.setIfInBounds t a) rec.tmps) rec.assign rec.body .normal)
            (frs0 := b.atR a1 (.inRegion ops (List.range' k1 (all.length - k1)) :: k) :: frs) (cs0 := cs0) (dfr := false) (fn := fn) hK h s6 s5 hcs s3 (by simp) (fun rec' e1 e2 => by
              rw [s6] at g2; cases g2
              rw [g3] at e1; cases e1
              exact Steps.refl P _)
          have hsz : xs.size = rec.params.size := by
            obtain ⟨h7, _⟩ := putPs_sound ps args tm2 g1
            have e1 := s5.1
            have e2 := congrArg List.length g4.params
            simp at e1 e2
            omega
          refine Ends.of_steps (frs1 := b.atR a1 (.inRegion ops (List.range' k1 (all.length - k1)) :: k) :: frs) (s1 rec ?_ hsz) s2 this
          rw [s6] at g2; cases g2
          exact g3
        | defer rest' d tm' st1 =>
          rw [ho] at h hout
          cases hrd : rd with
          | some l0 => subst hrd; cases h
          | none =>
            have hout := hout (hnone hrd)
            subst hrd
            obtain ⟨φ1, a1, w1, k1, s1, s2, s3, s4, s5⟩ := hout
            replace h : K (.ops all rest' :: l) tm' st1 ⟨fn, nt, d :: ds, dfr, none, cs⟩ = some (v, st') := h
            exact Ends.of_steps (frs1 := frs) s1 s2 (hK _ _ _ _ _ _ _ _ _ _ _ φ1 w1 _ frs cs0 h (.run s4 (.cons ⟨ops, k1, rfl, hall, s5⟩ hts)) (hc.mono s2) s3)
      | code c =>
        obtain rfl := hi
        -- a jump that nothing here catches
        have jump : ∀ j, leaveO j ⟨fn, nt, ds, dfr, rd, cs⟩ st K = some (v, st') → (∀ bl, b.roundOf = some bl → b.kind = .normal → ∀ x w', (Instr.endRound bl (some (jmpCode j))).run P w = .ok x w' → ∀ c' cs', Go.step P (lone (b.atR a (.code c :: k)) (c' :: cs') w) = .next (lone (c'.finish x) cs' w')) →
            Ends P φ w (b.atR a (.code c :: k)) frs cs0 v st' (bot fn cs) := by
          intro j hj hs
          cases hrd : rd with
          | none => subst hrd; cases hj
          | some l0 =>
            obtain ⟨hd, bl, κ, hb, hφ⟩ := hround l0 hrd
            have hk := hkind l0 hrd
            subst hrd
            subst hd
            have hj' : leaveR l0 (some j) st cs K = some (v, st') := hj
            exact leaveR_sound hK hj' hφ hc hR (fun x w' hr c' cs' => hs bl hb hk x w' hr c' cs')
        cases c <;> first | (cases h; done) | skip
        case skip => exact one l k stepR_skip h hts
        case label l' => exact one l k stepR_label h hts
        case seq x y => exact one _ _ stepR_seq h (.cons rfl (.cons rfl hts))
        case cond c x y =>
          obtain ⟨u, h1, h2⟩ := obind_some h
          have hv := hA.tm.op c u h1
          cases u <;> first | (cases h2; done) | skip
          rename_i t
          generalize hev : a.eval c = ev at hv
          cases hv
          refine one _ _ (stepR_cond hev) h2 (.cons ?_ hts)
          cases t <;> rfl
        case block id body => exact one _ _ stepR_block h (.cons rfl (.cons rfl hts))
        case loop body => exact one _ _ stepR_loop h (.cons rfl (.cons rfl hts))
        case scope body => exact one _ _ (by exact step_lone_go (by simp [stepG, stepG.exec, Frame.atR])) h (.cons rfl (.cons rfl hts))
        case exit id =>
          replace h : @Option.rec (List I) (fun _ => R) (leaveO (.exit id) ⟨fn, nt, ds, dfr, rd, cs⟩ st K) (fun k' => K k' tm st ⟨fn, nt, ds, dfr, rd, cs⟩) (exitV id l) = some (v, st') := h
          cases he : exitV id l with
          | some l' =>
            rw [he] at h
            obtain ⟨k', g1, g2⟩ := exitV_sound hts l' he
            exact one l' k' (stepR_exit g1) h g2
          | none =>
            rw [he] at h
            exact jump _ h (fun bl hb hk x w' hr c' cs' => stepR_round_exit hb hk (exitV_none hts he) hr)
        case goto id =>
          replace h : @Option.rec (List I) (fun _ => R) (leaveO (.goto id) ⟨fn, nt, ds, dfr, rd, cs⟩ st K) (fun k' => K k' tm st ⟨fn, nt, ds, dfr, rd, cs⟩) (gotoV id l) = some (v, st') := h
          cases he : gotoV id l with
          | some l' =>
            rw [he] at h
            obtain ⟨k', g1, g2⟩ := gotoV_sound hts l' he
            exact one l' k' (stepR_goto g1) h g2
          | none =>
            rw [he] at h
            exact jump _ h (fun bl hb hk x w' hr c' cs' => stepR_round_goto hb hk (gotoV_none hts he) hr)
        case ret =>
          replace h : @Option.rec Nat (fun _ => R) (K [.out] tm st ⟨fn, nt, ds, dfr, rd, cs⟩) (fun _ => leaveO .ret ⟨fn, nt, ds, dfr, rd, cs⟩ st K) rd = some (v, st') := h
          cases hrd : rd with
          | none =>
            have hb := hnone hrd
            subst hrd
            exact Ends.of_steps (frs1 := frs) (.one (stepR_ret hb)) (Chg.refl φ w) (hK _ _ _ _ _ _ _ _ _ _ _ φ w _ frs cs0 h (.out hA) hc hR)
          | some l0 =>
            rw [hrd] at h
            rw [hrd] at jump
            exact jump .ret h (fun bl hb hk x w' hr c' cs' => stepR_round_ret hb hk hr)
        case region id ops draw =>
          cases draw with
          | true => exact drawI_sound (ops := ops) hE hK h hA hts hc hR
          | false =>
            refine one _ _ stepR_region h (.cons ⟨ops, 0, ?_, rfl, rfl⟩ hts)
            rw [List.range_eq_range']
            simp
        case rangeFunc f ps as c => exact rangeF_sound hE hK h hA hts hc hR

theorem run_sound (hE : EnvOK E P) : ∀ n : Nat, KOK P (run E n) := by
  intro n
  induction n with
  | zero => intro todo tm st fn nt ds dfr rd cs v st' φ w fr frs cs0 h; cases h
  | succ n ih => exact evStep_sound hE ih

/-- A call that was run once need not be run again. -/
theorem memo_sound (hE : EnvOK E P) {n : Nat} {f : FuncId} {args : List V} {st : St} {v : V} {st' : St} (h : call E n f args st = some (v, st')) : MemoOK P f args st v st' :=
  fun _ _ _ _ ha hR => enterK_sound (dfr := false) (frs := []) hE (run_sound hE n) h ha hR .nil

/-- **A closed call, run by the evaluator.** -/
theorem call_sound (hE : EnvOK E P) {n : Nat} {f : FuncId} {args : List V} {next : Nat} {v : V} {st' : St} (h : call E n f args ⟨next, .e⟩ = some (v, st')) (xs : Array Value) (w : World) (hw : Below Base.w0.heap.size Base.w0 w) (ha : VRs (fun _ => none) args xs.toList) :
    Calls P f xs w fun e w' => ∃ φ x, e = .returned x ∧ VR φ v x ∧ Below w.heap.size w w' := by
  intro cs0
  have hR : Rep (fun _ => none) ⟨next, .e⟩ w :=
    { low := ⟨hw, by intro _ _ _ e; cases e⟩
      dom := by intro _ _ e; cases e
      lt := by intro _ _ _ e; cases e
      inj := by intro _ _ _ _ _ e; cases e
      uniq := by intro _ _ _ _ _ e; cases e
      root := by intro _ _ _ _ e; cases e
      cells := by intro _ _ _ _ _ _ _ _ _ e; cases e
      maps := by intro _ _ _ _ _ e; cases e
      objs := by intro _ _ _ _ e; cases e }
  obtain ⟨φ', x, w', fr', h1, h2, h3, h4, h5, h6⟩ := enterK_sound (dfr := false) (frs := []) (cs0 := cs0) hE (run_sound hE n) h ha hR .nil
  exact ⟨.returned x, w', fr', ⟨φ', x, rfl, h4, h2.below⟩, h1, h6, h5⟩
end
end Go.Ev
