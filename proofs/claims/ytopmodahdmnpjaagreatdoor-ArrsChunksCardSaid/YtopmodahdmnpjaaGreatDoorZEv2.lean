/- The evaluator of closed calls: what its values and heap say of the model's. -/
import Derived.Test.YtopmodahdmnpjaaGreatDoorZEv1
import Derived.Laws.World
namespace Go.Ev
open Go.RowKit

/-- Where a block of the evaluator's lies: the model's block, and how many cells it has. -/
abbrev Phi := Nat → Option (Nat × Nat)
def Phi.le (φ φ' : Phi) : Prop := ∀ id p, φ id = some p → φ' id = some p
theorem Phi.le_refl (φ : Phi) : φ.le φ := fun _ _ h => h
theorem Phi.le.trans {a b c : Phi} (h : a.le b) (k : b.le c) : a.le c := fun id p e => k id p (h id p e)

def mkS (l : List Nat) : ByteArray := ⟨(l.map UInt8.ofNat).toArray⟩

inductive VR (φ : Phi) : V → Value → Prop where
  | bool (b : Bool) : VR φ (.bool b) (.bool b)
  | int (k : IntKind) (n : Int) : VR φ (.int k n) (.int k n)
  | str (l : List Nat) (h : ∀ b ∈ l, b < 256) : VR φ (.str l) (.string (mkS l))
  | nilp : VR φ .nilp (.pointer none)
  | ptr (id off b κ : Nat) (h : φ id = some (b, κ)) : VR φ (.ptr id off) (.pointer (some ⟨b, off, none⟩))
  | nils : VR φ .nils (.slice none 0 0)
  | slk (id off len esz c b κ : Nat) (h : φ id = some (b, κ)) (hl : len ≤ c) (hc : off + c * esz ≤ κ) : VR φ (.sl id off len esz (some c)) (.slice (some ⟨b, off, none⟩) len c)
  | slo (id off len esz c b κ : Nat) (h : φ id = some (b, κ)) (hl : len ≤ c) (he : 0 < esz) (hc : off + c * esz = κ) : VR φ (.sl id off len esz none) (.slice (some ⟨b, off, none⟩) len c)
  | esl (a : Addr) (c : Nat) : VR φ .esl (.slice (some a) 0 c)
  | nilm : VR φ .nilm (.map none)
  | map (id b κ : Nat) (h : φ id = some (b, κ)) : VR φ (.map id) (.map (some b))
  | fn (f : Fn) (a c : List V) (a' c' : Array Value) (h1 : a'.size = a.length) (h2 : ∀ (i : Nat) v x, a[i]? = some v → a'[i]? = some x → VR φ v x)
      (h3 : c'.size = c.length) (h4 : ∀ (i : Nat) v x, c[i]? = some v → c'[i]? = some x → VR φ v x) : VR φ (.fn f a c) (.func f a' c')
  | nilf : VR φ .nilf .nilFunc
  | iface (t : TypeId) (v : V) (x : Value) (h : VR φ v x) : VR φ (.iface t v) (.iface t x)
  | nili : VR φ .nili .nilIface
  | agg (cs : List V) (xs : Array Value) (h1 : xs.size = cs.length) (h2 : ∀ (i : Nat) v x, cs[i]? = some v → xs[i]? = some x → VR φ v x) : VR φ (.agg cs) (.agg xs)
  | tup (cs : List V) (xs : Array Value) (h1 : xs.size = cs.length) (h2 : ∀ (i : Nat) v x, cs[i]? = some v → xs[i]? = some x → VR φ v x) : VR φ (.tup cs) (.tuple xs)
  | yld (id b κ : Nat) (h : φ id = some (b, κ)) : VR φ (.yld id) (.func (.yield b) #[] #[])

theorem VR.mono {φ φ' : Phi} (hle : φ.le φ') {v : V} {x : Value} (h : VR φ v x) : VR φ' v x := by
  induction h with
  | bool b => exact .bool b
  | int k n => exact .int k n
  | str l h => exact .str l h
  | nilp => exact .nilp
  | ptr id off b κ h => exact .ptr id off b κ (hle _ _ h)
  | nils => exact .nils
  | slk id off len esz c b κ h hl hc => exact .slk id off len esz c b κ (hle _ _ h) hl hc
  | slo id off len esz c b κ h hl he hc => exact .slo id off len esz c b κ (hle _ _ h) hl he hc
  | esl a c => exact .esl a c
  | nilm => exact .nilm
  | map id b κ h => exact .map id b κ (hle _ _ h)
  | fn f a c a' c' h1 _ h3 _ ih1 ih2 => exact .fn f a c a' c' h1 ih1 h3 ih2
  | nilf => exact .nilf
  | iface t v x _ ih => exact .iface t v x ih
  | nili => exact .nili
  | agg cs xs h1 _ ih => exact .agg cs xs h1 ih
  | tup cs xs h1 _ ih => exact .tup cs xs h1 ih
  | yld id b κ h => exact .yld id b κ (hle _ _ h)

/-- Lists of values. -/
def VRs (φ : Phi) (cs : List V) (xs : List Value) : Prop := xs.length = cs.length ∧ ∀ (i : Nat) v x, cs[i]? = some v → xs[i]? = some x → VR φ v x
theorem VRs.mono {φ φ' : Phi} (hle : φ.le φ') {cs : List V} {xs : List Value} (h : VRs φ cs xs) : VRs φ' cs xs := ⟨h.1, fun i v x a b => (h.2 i v x a b).mono hle⟩
theorem VRs.nil {φ : Phi} : VRs φ [] [] := ⟨rfl, fun i v x a => by simp at a⟩
theorem VRs.cons {φ : Phi} {v : V} {x : Value} {cs : List V} {xs : List Value} (h : VR φ v x) (hs : VRs φ cs xs) : VRs φ (v :: cs) (x :: xs) :=
  ⟨by simp [hs.1], fun i u y a b => by
    cases i with
    | zero => simp at a b; subst a; subst b; exact h
    | succ i => simp at a b; exact hs.2 i u y a b⟩
theorem VRs.inv {φ : Phi} {v : V} {cs : List V} {ys : List Value} (h : VRs φ (v :: cs) ys) : ∃ x xs, ys = x :: xs ∧ VR φ v x ∧ VRs φ cs xs := by
  cases ys with
  | nil => have := h.1; simp at this
  | cons x xs => exact ⟨x, xs, rfl, h.2 0 v x rfl rfl, by have := h.1; simpa using this, fun i u y a b => h.2 (i + 1) u y (by simpa using a) (by simpa using b)⟩
theorem VRs.inv_nil {φ : Phi} {ys : List Value} (h : VRs φ [] ys) : ys = [] := by
  cases ys with
  | nil => rfl
  | cons x xs => have := h.1; simp at this
theorem VRs.append {φ : Phi} {a b : List V} {xs ys : List Value} (h : VRs φ a xs) (k : VRs φ b ys) : VRs φ (a ++ b) (xs ++ ys) := by
  induction a generalizing xs with
  | nil => rw [h.inv_nil]; exact k
  | cons v a ih => obtain ⟨x, xs', rfl, hx, hxs⟩ := h.inv; exact .cons hx (ih hxs)
theorem VRs.get {φ : Phi} {cs : List V} {xs : List Value} (h : VRs φ cs xs) {i : Nat} {v : V} (hv : cs[i]? = some v) : ∃ x, xs[i]? = some x ∧ VR φ v x := by
  have hi : i < cs.length := (List.getElem?_eq_some_iff.1 hv).1
  have hx : i < xs.length := by rw [h.1]; exact hi
  exact ⟨xs[i], List.getElem?_eq_getElem hx, h.2 i v _ hv (List.getElem?_eq_getElem hx)⟩
theorem VRs.drop {φ : Phi} {cs : List V} {xs : List Value} (h : VRs φ cs xs) (n : Nat) : VRs φ (cs.drop n) (xs.drop n) :=
  ⟨by simp [h.1], fun i v x a b => h.2 (n + i) v x (by simpa using a) (by simpa using b)⟩
theorem VRs.take {φ : Phi} {cs : List V} {xs : List Value} (h : VRs φ cs xs) (n : Nat) : VRs φ (cs.take n) (xs.take n) :=
  ⟨by simp [h.1], fun i v x a b => by
    rw [List.getElem?_take] at a b
    split at a
    · rename_i hlt; rw [if_pos hlt] at b; exact h.2 i v x a b
    · cases a⟩
theorem VRs.agg {φ : Phi} {cs : List V} {xs : Array Value} (h : VRs φ cs xs.toList) : VR φ (.agg cs) (.agg xs) := .agg cs xs (by simpa using h.1) (fun i v x a b => h.2 i v x a (by simpa using b))
theorem VRs.tup {φ : Phi} {cs : List V} {xs : Array Value} (h : VRs φ cs xs.toList) : VR φ (.tup cs) (.tuple xs) := .tup cs xs (by simpa using h.1) (fun i v x a b => h.2 i v x a (by simpa using b))
theorem VR.inv_agg {φ : Phi} {cs : List V} {x : Value} (h : VR φ (.agg cs) x) : ∃ xs : Array Value, x = .agg xs ∧ VRs φ cs xs.toList := by
  cases h with
  | agg cs xs h1 h2 => exact ⟨xs, rfl, by simpa using h1, fun i v x a b => h2 i v x a (by simpa using b)⟩
theorem VR.inv_tup {φ : Phi} {cs : List V} {x : Value} (h : VR φ (.tup cs) x) : ∃ xs : Array Value, x = .tuple xs ∧ VRs φ cs xs.toList := by
  cases h with
  | tup cs xs h1 h2 => exact ⟨xs, rfl, by simpa using h1, fun i v x a b => h2 i v x a (by simpa using b)⟩

theorem obind_some {α β : Type} {x : Option α} {f : α → Option β} {y : β} (h : obind x f = some y) : ∃ a, x = some a ∧ f a = some y := by
  cases x with
  | none => cases h
  | some a => exact ⟨a, rfl, h⟩
theorem cond_some {β : Type} {c : Bool} {x : Option β} {y : β} (h : cond c x none = some y) : c = true ∧ x = some y := by
  cases c with
  | false => cases h
  | true => exact ⟨rfl, h⟩
theorem cond_none {β : Type} {c : Bool} {x : Option β} {y : β} (h : cond c none x = some y) : c = false ∧ x = some y := by
  cases c with
  | false => exact ⟨rfl, h⟩
  | true => cases h

/-! the heap -/
noncomputable def rootId (st : St) (id : Nat) : Nat := match st.blks.get id with | some (.alias r _) => r | _ => id

/-- A block's cells: of the tags up to g. -/
structure CellsOK (φ : Phi) (g last : Nat) (cs : Tr (V × Nat)) (n : Nat) (arr : Array Value) : Prop where
  size : g = last → n ≤ arr.size
  at_ : ∀ i v tag, cs.get i = some (v, tag) → (i < n ∧ tag ≤ last) ∧ (tag ≤ g → ∃ x, arr[i]? = some x ∧ VR φ v x)

/-- A block's cells are not frozen, and of the type that is known. -/
def FzOK (x : Option TypeId) (κ : Nat) (el : TypeId) (lo hi : Nat) : Prop := (∀ i, i < κ → ¬ (lo ≤ i ∧ i < hi)) ∧ ∀ t, x = some t → el = t
def EntriesOK (φ : Phi) (es : List (V × V × Nat)) (es' : Array MapEntry) : Prop :=
  es'.size = es.length ∧ ∀ (i : Nat) k v b e, es[i]? = some (k, v, b) → es'[i]? = some e → VR φ k e.key ∧ VR φ v e.val ∧ e.born = b

def lsR : LoopSt → LoopState
  | .ready => .ready
  | .busy => .busy
  | .done => .done
/-- What stays of a loop's record. -/
structure LStat (r r' : Loop) : Prop where
  fn : r'.fn = r.fn
  tmps : r'.tmps = r.tmps
  params : r'.params = r.params
  assign : r'.assign = r.assign
  body : r'.body = r.body
theorem LStat.refl (r : Loop) : LStat r r := ⟨rfl, rfl, rfl, rfl, rfl⟩
theorem LStat.trans {a b c : Loop} (h : LStat a b) (k : LStat b c) : LStat a c := ⟨k.fn.trans h.fn, k.tmps.trans h.tmps, k.params.trans h.params, k.assign.trans h.assign, k.body.trans h.body⟩
/-- Loops' records stay what they are. -/
def LoopsKept (w w' : World) : Prop := ∀ (b : Nat) (r : Loop), w.heap[b]? = some (Obj.loop r) → ∃ r' : Loop, w'.heap[b]? = some (Obj.loop r') ∧ LStat r r'
theorem LoopsKept.of_same {w w' : World} (h : ∀ b, b < w.heap.size → w'.heap[b]? = w.heap[b]?) : LoopsKept w w' := fun b r e => ⟨r, by rw [h b (Array.getElem?_eq_some_iff.1 e).1]; exact e, .refl r⟩
theorem LoopsKept.of_other {w w' : World} (b0 : Nat) (h : ∀ b, b ≠ b0 → w'.heap[b]? = w.heap[b]?) (hn : ∀ r : Loop, w.heap[b0]? = some (Obj.loop r) → ∃ r' : Loop, w'.heap[b0]? = some (Obj.loop r') ∧ LStat r r') : LoopsKept w w' := fun b r e => by
  by_cases hb : b = b0
  · subst hb; exact hn r e
  · exact ⟨r, by rw [h b hb]; exact e, .refl r⟩

inductive OR (φ : Phi) : OV → Obj → Prop where
  | sit (s : List Nat) (pos : Nat) (h : ∀ b ∈ s, b < 256) : OR φ (.sit s pos) (.stringIter (mkS s) pos)
  | loop (s : LoopSt) (p : Option Jmp) (r : Loop) (hs : r.state = lsR s) (hp : r.pending = p.map jmpCode) : OR φ (.loop s p) (.loop r)
  | dfd : OR φ .dfd (.deferred (some []))
  | mit (m since : Nat) (seen : List Nat) (last b κ : Nat) (h : φ m = some (b, κ)) : OR φ (.mit m since seen last) (.mapIter (some b) since seen.reverse.toArray last)
  | mit0 : OR φ .mit0 (.mapIter none 0 #[] 0)
theorem OR.mono {φ φ' : Phi} (hle : φ.le φ') {v : OV} {o : Obj} (h : OR φ v o) : OR φ' v o := by
  cases h with
  | sit s pos h => exact .sit s pos h
  | loop s p r hs hp => exact .loop s p r hs hp
  | dfd => exact .dfd
  | mit m since seen last b κ h => exact .mit m since seen last b κ (hle m _ h)
  | mit0 => exact .mit0
theorem OR.not_cells {φ : Phi} {v : OV} {a : Array Value} {e : TypeId} {f : Nat × Nat} (h : OR φ v (.cells a e f)) : False := by cases h

/-- The world that a run began with. -/
class Base where
  w0 : World
/-- What lay there at the beginning is as it was, and the evaluator's blocks lie behind it. -/
structure LowOK [Base] (φ : Phi) (w : World) : Prop where
  low : Below Base.w0.heap.size Base.w0 w
  high : ∀ id b κ, φ id = some (b, κ) → Base.w0.heap.size ≤ b

structure Rep [Base] (φ : Phi) (st : St) (w : World) : Prop where
  low : LowOK φ w
  dom : ∀ id p, φ id = some p → ∃ bl, st.blks.get id = some bl
  lt : ∀ id b κ, φ id = some (b, κ) → b < w.heap.size
  inj : ∀ id id' b κ κ', φ id = some (b, κ) → φ id' = some (b, κ') → rootId st id = rootId st id'
  uniq : ∀ id id' p p' rg, φ id = some p → φ id' = some p' → rootOf st.blks id = some rg → rootOf st.blks id' = some rg → id = id'
  root : ∀ id p r g, φ id = some p → rootOf st.blks id = some (r, g) → ∃ q, φ r = some q
  cells : ∀ id b κ r g cs size last x, φ id = some (b, κ) → rootOf st.blks id = some (r, g) → st.blks.get r = some (.cells cs size last x) →
    g ≤ last ∧ ∃ arr el lo hi, w.heap[b]? = some (.cells arr el (lo, hi)) ∧ arr.size = κ ∧ FzOK x κ el lo hi ∧ CellsOK φ g last cs size arr
  maps : ∀ id b κ es clock, φ id = some (b, κ) → st.blks.get id = some (.map es clock) → ∃ es', w.heap[b]? = some (.map es' clock) ∧ EntriesOK φ es es'
  objs : ∀ id b κ v, φ id = some (b, κ) → st.blks.get id = some (.obj v) → ∃ o, w.heap[b]? = some o ∧ OR φ v o

/-- What a step has turned. -/
structure Chg (φ : Phi) (w : World) (φ' : Phi) (w' : World) : Prop where
  le : φ.le φ'
  os : w'.os = w.os
  tape : w'.tape = w.tape
  output : w'.output = w.output
  size : w.heap.size ≤ w'.heap.size
  new : ∀ id b κ, φ' id = some (b, κ) → (∃ id0 κ0, φ id0 = some (b, κ0)) ∨ w.heap.size ≤ b
  keep : ∀ b, b < w.heap.size → (∀ id κ, φ id ≠ some (b, κ)) → w'.heap[b]? = w.heap[b]?
  loops : LoopsKept w w'

variable [Base]
theorem Rep.fresh {φ : Phi} {next : Nat} {blks : Tr Blk} {w : World} (hR : Rep φ ⟨next, blks⟩ w) {id : Nat} (h : blks.get id = none) : φ id = none := by
  cases e : φ id with
  | none => rfl
  | some p => obtain ⟨bl, hbl⟩ := hR.dom id p e; rw [h] at hbl; cases hbl
theorem Rep.root_ne {φ : Phi} {next : Nat} {blks : Tr Blk} {w : World} (hR : Rep φ ⟨next, blks⟩ w) {n : Nat} (hn : blks.get n = none) (id : Nat) (p : Nat × Nat) (r g : Nat) (h : φ id = some p) (h2 : rootOf blks id = some (r, g)) : r ≠ n := by
  obtain ⟨q, hq⟩ := hR.root id p r g h h2
  intro e
  rw [e, hR.fresh hn] at hq; cases hq
/-- The next number is free to be set anew. -/
theorem Rep.reset {φ : Phi} {next nx : Nat} {blks : Tr Blk} {w : World} (h : Rep φ ⟨next, blks⟩ w) : Rep φ ⟨nx, blks⟩ w :=
  { low := h.low, dom := h.dom, lt := h.lt, inj := h.inj, uniq := h.uniq, root := h.root, cells := h.cells, maps := h.maps, objs := h.objs }
omit [Base] in
theorem Chg.refl (φ : Phi) (w : World) : Chg φ w φ w := ⟨φ.le_refl, rfl, rfl, rfl, Nat.le_refl _, fun id b κ h => .inl ⟨id, κ, h⟩, fun _ _ _ => rfl, fun b r e => ⟨r, e, .refl r⟩⟩
omit [Base] in
theorem Chg.trans {a b c : Phi} {w x y : World} (h : Chg a w b x) (k : Chg b x c y) : Chg a w c y :=
  ⟨h.le.trans k.le, k.os.trans h.os, k.tape.trans h.tape, k.output.trans h.output, Nat.le_trans h.size k.size,
   fun id p κ e => by
    rcases k.new id p κ e with ⟨i0, k0, e⟩ | e
    · exact h.new i0 p k0 e
    · exact .inr (Nat.le_trans h.size e),
   fun p hp hn => by
    rw [k.keep p (Nat.lt_of_lt_of_le hp h.size) (fun id κ e => ?_), h.keep p hp hn]
    rcases h.new id p κ e with ⟨i0, k0, e⟩ | e
    · exact hn i0 k0 e
    · omega, fun b r e => by
    obtain ⟨r1, e1, h1⟩ := h.loops b r e
    obtain ⟨r2, e2, h2⟩ := k.loops b r1 e1
    exact ⟨r2, e2, h1.trans h2⟩⟩
omit [Base] in
theorem Chg.below {φ : Phi} {w w' : World} (h : Chg (fun _ => none) w φ w') : Below w.heap.size w w' :=
  ⟨h.os, h.tape, h.output, h.size, fun k hk => h.keep k hk (fun _ _ e => by cases e)⟩
omit [Base] in
theorem Chg.of_below {φ : Phi} {w w' : World} (h : Below w.heap.size w w') : Chg φ w φ w' :=
  ⟨φ.le_refl, h.os, h.tape, h.output, h.size, fun id b κ e => .inl ⟨id, κ, e⟩, fun b hb _ => h.block b hb, .of_same h.block⟩
theorem LowOK.chg {φ φ' : Phi} {w w' : World} (h : LowOK φ w) (c : Chg φ w φ' w') : LowOK φ' w' :=
  ⟨⟨c.os.trans h.low.os, c.tape.trans h.low.tape, c.output.trans h.low.output, Nat.le_trans h.low.size c.size, fun b hb => (c.keep b (Nat.lt_of_lt_of_le hb h.low.size) (fun id κ e => Nat.lt_irrefl _ (Nat.lt_of_lt_of_le hb (h.high id b κ e)))).trans (h.low.block b hb)⟩,
   fun id b κ e => by
    rcases c.new id b κ e with ⟨i, k, e2⟩ | e2
    · exact h.high i b k e2
    · exact Nat.le_trans h.low.size e2⟩
theorem Rep.of_below {φ : Phi} {st : St} {w w' : World} (hR : Rep φ st w) (h : Below w.heap.size w w') : Rep φ st w' where
  low := hR.low.chg (Chg.of_below h)
  dom := hR.dom
  lt := fun id b κ e => Nat.lt_of_lt_of_le (hR.lt id b κ e) h.size
  inj := hR.inj
  uniq := hR.uniq
  root := hR.root
  cells := fun id b κ r g cs size last x e1 e2 e3 => by
    rw [h.block b (hR.lt id b κ e1)]
    exact hR.cells id b κ r g cs size last x e1 e2 e3
  maps := fun id b κ es clock e1 e2 => by
    rw [h.block b (hR.lt id b κ e1)]
    exact hR.maps id b κ es clock e1 e2
  objs := fun id b κ v e1 e2 => by
    rw [h.block b (hR.lt id b κ e1)]
    exact hR.objs id b κ v e1 e2

omit [Base] in
theorem cell_of {w : World} {b off : Nat} {arr : Array Value} {el : TypeId} {fz : Nat × Nat} (h : w.heap[b]? = some (.cells arr el fz)) : w.cell? ⟨b, off, none⟩ = arr[off]? := by
  simp [World.cell?, h]

omit [Base] in
theorem CellsOK.mono {φ φ' : Phi} (hle : φ.le φ') {g last : Nat} {cs : Tr (V × Nat)} {size : Nat} {arr : Array Value} (h : CellsOK φ g last cs size arr) : CellsOK φ' g last cs size arr :=
  ⟨h.size, fun i v tag e => ⟨(h.at_ i v tag e).1, fun ht => let ⟨x, a, b⟩ := (h.at_ i v tag e).2 ht; ⟨x, a, b.mono hle⟩⟩⟩

theorem cellAt_sound {φ : Phi} {st : St} {w : World} (hR : Rep φ st w) {id off b κ : Nat} {v : V} (hφ : φ id = some (b, κ)) (h : cellAt st id off = some v) :
    ∃ x, w.cell? ⟨b, off, none⟩ = some x ∧ VR φ v x := by
  obtain ⟨next, blks⟩ := st
  obtain ⟨⟨r, g⟩, h1, h⟩ := obind_some h
  obtain ⟨bl, h2, h⟩ := obind_some h
  cases bl with
  | cells cs size last x0 =>
    obtain ⟨⟨u, tag⟩, h3, h⟩ := obind_some h
    obtain ⟨h4, h⟩ := cond_some h
    cases h
    obtain ⟨_, arr, el, lo, hi, hb, _, _, hc⟩ := hR.cells id b κ r g cs size last x0 hφ h1 h2
    obtain ⟨x, hx, hv⟩ := (hc.at_ off v tag h3).2 (Nat.le_of_ble_eq_true h4)
    exact ⟨x, by rw [cell_of hb, hx], hv⟩
  | _ => cases h
omit [Base] in
theorem cellsIn_sound {φ : Phi} {g last : Nat} {cs : Tr (V × Nat)} {size : Nat} {arr : Array Value} (hc : CellsOK φ g last cs size arr) : ∀ (n off : Nat) (l : List V), cellsIn cs g n off = some l →
    off + n ≤ arr.size ∧ VRs φ l ((arr.toList.drop off).take n) ∨ n = 0 ∧ l = [] := by
  intro n
  induction n with
  | zero => intro off l h; cases h; exact .inr ⟨rfl, rfl⟩
  | succ n ih =>
    intro off l h
    obtain ⟨⟨v, tag⟩, h3, h⟩ := obind_some h
    obtain ⟨h4, h⟩ := cond_some h
    rw [natK_eq] at h
    obtain ⟨l', h5, h⟩ := obind_some h
    cases h
    obtain ⟨hlt, hx⟩ := hc.at_ off v tag h3
    obtain ⟨x, hx, hv⟩ := hx (Nat.le_of_ble_eq_true h4)
    have ho : off < arr.size := (Array.getElem?_eq_some_iff.1 hx).1
    have e : arr.toList.drop off = x :: arr.toList.drop (off + 1) := by
      rw [List.drop_eq_getElem_cons (by simpa using ho)]
      congr 1
      have := Array.getElem?_eq_some_iff.1 hx
      simpa using this.2
    rcases ih (off + 1) l' h5 with ⟨hs, hl⟩ | ⟨rfl, rfl⟩
    · exact .inl ⟨by omega, by rw [e, List.take_succ_cons]; exact .cons hv hl⟩
    · exact .inl ⟨by omega, by rw [e]; simp only [List.take_succ_cons, List.take_zero]; exact .cons hv .nil⟩

omit [Base] in
theorem add_none (b off i : Nat) : (⟨b, off, none⟩ : Addr).add i = ⟨b, off + i, none⟩ := by
  unfold Addr.add
  split
  · rename_i h; subst h; rfl
  · rfl
omit [Base] in
theorem run_loadCellsFrom {P : Program} {w : World} {b off : Nat} {arr : Array Value} {el : TypeId} {fz : Nat × Nat} (hb : w.heap[b]? = some (.cells arr el fz)) :
    ∀ (n i : Nat) (acc : Array Value), off + i + n ≤ arr.size → (loadCellsFrom ⟨b, off, none⟩ i n acc).run P w = .ok (acc ++ (((arr.toList.drop (off + i)).take n).toArray)) w := by
  intro n
  induction n with
  | zero => intro i acc _; simp [loadCellsFrom]
  | succ n ih =>
    intro i acc h
    have ho : off + i < arr.size := by omega
    have hc : w.cell? ⟨b, off + i, none⟩ = some arr[off + i] := by rw [cell_of hb, Array.getElem?_eq_getElem ho]
    simp only [loadCellsFrom, Sem.run_bind, run_load, add_none, hc, Result.andThen_ok]
    rw [ih (i + 1) _ (by omega)]
    congr 1
    have e : arr.toList.drop (off + i) = arr[off + i] :: arr.toList.drop (off + (i + 1)) := by
      rw [List.drop_eq_getElem_cons (by simpa using ho)]
      simp [Nat.add_assoc]
    rw [e, List.take_succ_cons]
    apply Array.ext'
    simp
omit [Base] in
theorem run_loadCells {P : Program} {w : World} {b off n : Nat} {arr : Array Value} {el : TypeId} {fz : Nat × Nat} (hb : w.heap[b]? = some (.cells arr el fz)) (h : off + n ≤ arr.size) :
    (loadCells ⟨b, off, none⟩ n).run P w = .ok (((arr.toList.drop off).take n).toArray) w := by
  unfold loadCells
  rw [run_loadCellsFrom hb n 0 #[] (by omega)]
  simp
omit [Base] in
theorem run_loadCells_zero {P : Program} {w : World} (a : Addr) : (loadCells a 0).run P w = .ok #[] w := rfl
theorem cellsAt_sound {P : Program} {φ : Phi} {st : St} {w : World} (hR : Rep φ st w) {id off n b κ : Nat} {l : List V} (hφ : φ id = some (b, κ)) (h : cellsAt st id off n = some l) :
    ∃ xs : Array Value, (loadCells ⟨b, off, none⟩ n).run P w = .ok xs w ∧ VRs φ l xs.toList ∧ xs.size = n := by
  obtain ⟨next, blks⟩ := st
  obtain ⟨⟨r, g⟩, h1, h⟩ := obind_some h
  obtain ⟨bl, h2, h⟩ := obind_some h
  cases bl with
  | cells cs size last x0 =>
    obtain ⟨_, arr, el, lo, hi, hb, _, _, hc⟩ := hR.cells id b κ r g cs size last x0 hφ h1 h2
    rcases cellsIn_sound hc n off l h with ⟨hs, hl⟩ | ⟨rfl, rfl⟩
    · exact ⟨_, run_loadCells hb hs, hl, by simp; omega⟩
    · exact ⟨#[], rfl, .nil, rfl⟩
  | _ => cases h
end Go.Ev
namespace Go.Ev
open Go.RowKit
variable [Base]

omit [Base] in
theorem scal_one {φ : Phi} {v : V} {x : Value} (h : VR φ v x) (hs : scal v = true) : x.oneCell' = true := by
  cases h <;> first | rfl | cases hs
omit [Base] in
theorem allScal_one {φ : Phi} {vs : List V} {xs : List Value} (h : VRs φ vs xs) (hs : allScal vs = true) : ∀ x ∈ xs, x.oneCell' = true := by
  induction vs generalizing xs with
  | nil => rw [h.inv_nil]; simp
  | cons v vs ih =>
    obtain ⟨x, xs', rfl, hx, hxs⟩ := h.inv
    have hs' : cond (scal v) (allScal vs) false = true := hs
    cases e : scal v with
    | false => rw [e] at hs'; cases hs'
    | true =>
      rw [e] at hs'
      intro y hy
      rcases List.mem_cons.1 hy with rfl | hy
      · exact scal_one hx e
      · exact ih hxs hs' y hy

/-- The table of cells with values set. -/
noncomputable def setCells (g : Nat) : List V → Tr (V × Nat) → Nat → Tr (V × Nat)
  | [], cs, _ => cs
  | v :: l, cs, off => setCells g l (cs.set off (v, g)) (off + 1)
omit [Base] in
theorem setCellsK_eq {β : Type} (g : Nat) (vs : List V) : ∀ (cs : Tr (V × Nat)) (off : Nat) (K : Tr (V × Nat) → β), setCellsK g vs cs off K = K (setCells g vs cs off) := by
  induction vs with
  | nil => intro cs off K; rfl
  | cons v vs ih =>
    intro cs off K
    show cs.setK off (v, g) _ = _
    rw [Tr.setK_eq, natK_eq, ih]
    rfl
omit [Base] in
theorem get_setCells (g : Nat) (vs : List V) : ∀ (cs : Tr (V × Nat)) (off i : Nat), (setCells g vs cs off).get i = if off ≤ i ∧ i < off + vs.length then (vs[i - off]?).map (·, g) else cs.get i := by
  induction vs with
  | nil => intro cs off i; rw [if_neg (by simp)]; rfl
  | cons v vs ih =>
    intro cs off i
    show (setCells g vs (cs.set off (v, g)) (off + 1)).get i = _
    rw [ih, Tr.get_set]
    simp only [List.length_cons]
    by_cases h1 : i = off
    · subst h1
      rw [if_neg (by omega), if_pos rfl, if_pos (by omega)]
      simp
    · by_cases h2 : off + 1 ≤ i ∧ i < off + 1 + vs.length
      · rw [if_pos h2, if_pos (by omega)]
        have : i - off = (i - (off + 1)) + 1 := by omega
        rw [this, List.getElem?_cons_succ]
      · rw [if_neg h2, if_neg h1, if_neg (by omega)]

/-- What a row of stores leaves. -/
structure Stored (w w' : World) (b off : Nat) (xs : List Value) (arr arr' : Array Value) (el : TypeId) (fz : Nat × Nat) : Prop where
  blk : w'.heap[b]? = some (.cells arr' el fz)
  size : arr'.size = arr.size
  at_ : ∀ j, arr'[j]? = if off ≤ j ∧ j < off + xs.length then xs[j - off]? else arr[j]?
  other : ∀ b', b' ≠ b → w'.heap[b']? = w.heap[b']?
  hsize : w'.heap.size = w.heap.size
  os : w'.os = w.os
  tape : w'.tape = w.tape
  output : w'.output = w.output

omit [Base] in
theorem run_storeCells {P : Program} {b off : Nat} {el : TypeId} {lo hi : Nat} (xs : List Value) : ∀ (w : World) (arr : Array Value) (i : Nat), w.heap[b]? = some (.cells arr el (lo, hi)) → (∀ j, j < arr.size → ¬ (lo ≤ j ∧ j < hi)) →
    off + i + xs.length ≤ arr.size → (∀ x ∈ xs, x.oneCell' = true) →
    ∃ w' arr', (storeCells ⟨b, off, none⟩ xs i).run P w = .ok () w' ∧ Stored w w' b (off + i) xs arr arr' el (lo, hi) := by
  induction xs with
  | nil =>
    intro w arr i hb _ _ _
    exact ⟨w, arr, rfl, hb, rfl, fun j => by rw [if_neg (by simp)], fun _ _ => rfl, rfl, rfl, rfl, rfl⟩
  | cons x xs ih =>
    intro w arr i hb hf hs hx
    simp only [List.length_cons] at hs
    have ho : off + i < arr.size := by omega
    have hc : w.cell? ⟨b, off + i, none⟩ = some arr[off + i] := by rw [cell_of hb, Array.getElem?_eq_getElem ho]
    have hfz : w.frozen? ⟨b, off + i, none⟩ = false := by
      simp only [World.frozen?, hb]
      have := hf (off + i) ho
      rw [Bool.eq_false_iff]
      intro e
      simp at e
      exact this e
    have hb1 : (w.setCell ⟨b, off + i, none⟩ x).heap[b]? = some (.cells (arr.setIfInBounds (off + i) x) el (lo, hi)) := by
      simp [World.setCell, Array.getElem?_modify, hb]
    obtain ⟨w', arr', hr, h⟩ := ih (w.setCell ⟨b, off + i, none⟩ x) (arr.setIfInBounds (off + i) x) (i + 1) hb1 (by simpa using hf) (by simp; omega) (fun y hy => hx y (List.mem_cons_of_mem _ hy))
    refine ⟨w', arr', ?_, h.blk, by rw [h.size]; simp, fun j => ?_, fun b' hb' => ?_, by rw [h.hsize]; simp [World.setCell], h.os, h.tape, h.output⟩
    · rw [storeCells]
      simp only [Sem.run_bind, add_none]
      rw [run_store P w _ x .plain (hx x (List.mem_cons_self ..))]
      simp only [hc, hfz, Bool.false_eq_true, if_false, Result.andThen_ok]
      exact hr
    · rw [h.at_]
      simp only [List.length_cons]
      by_cases h1 : j = off + i
      · subst h1
        rw [if_neg (by omega), if_pos (by omega)]
        simp [ho]
      · by_cases h2 : off + (i + 1) ≤ j ∧ j < off + (i + 1) + xs.length
        · rw [if_pos h2, if_pos (by omega)]
          have : j - (off + i) = (j - (off + (i + 1))) + 1 := by omega
          rw [this, List.getElem?_cons_succ]
        · rw [if_neg h2, if_neg (by omega)]
          rw [Array.getElem?_setIfInBounds_ne (by omega)]
    · rw [h.other b' hb']
      simp only [World.setCell, Array.getElem?_modify]
      rw [if_neg (by omega)]

omit [Base] in
theorem FzOK.weak {x x' : Option TypeId} {κ : Nat} {el : TypeId} {lo hi : Nat} (h : FzOK x κ el lo hi) (hx : ∀ t, x' = some t → x = some t) : FzOK x' κ el lo hi := ⟨h.1, fun t e => h.2 t (hx t e)⟩
omit [Base] in
theorem rootOf_set_cells {blks : Tr Blk} {r : Nat} {cs cs' : Tr (V × Nat)} {s l s' l' : Nat} {x x' : Option TypeId} (h : blks.get r = some (.cells cs s l x)) (id : Nat) : rootOf (blks.set r (.cells cs' s' l' x')) id = rootOf blks id := by
  unfold rootOf
  rw [Tr.get_set]
  by_cases e : id = r
  · subst e; rw [if_pos rfl, h]; rfl
  · rw [if_neg e]
omit [Base] in
theorem rootId_set_cells {n : Nat} {blks : Tr Blk} {r : Nat} {cs cs' : Tr (V × Nat)} {s l s' l' : Nat} {x x' : Option TypeId} (h : blks.get r = some (.cells cs s l x)) (id : Nat) : rootId ⟨n, blks.set r (.cells cs' s' l' x')⟩ id = rootId ⟨n, blks⟩ id := by
  unfold rootId
  simp only [Tr.get_set]
  by_cases e : id = r
  · subst e; rw [if_pos rfl, h]
  · rw [if_neg e]
omit [Base] in
theorem rootOf_rootId {n : Nat} {blks : Tr Blk} {id r g : Nat} (h : rootOf blks id = some (r, g)) : rootId ⟨n, blks⟩ id = r := by
  obtain ⟨bl, h1, h2⟩ := obind_some h
  unfold rootId
  simp only [h1]
  cases bl <;> simp [rootOfB] at h2 <;> first | exact h2.1 | skip
omit [Base] in
theorem rootId_map {n : Nat} {blks : Tr Blk} {id : Nat} {es : List (V × V × Nat)} {c : Nat} (h : blks.get id = some (.map es c)) : rootId ⟨n, blks⟩ id = id := by
  unfold rootId; simp only [h]

theorem storeAt_sound {P : Program} {φ : Phi} {st st' : St} {w : World} (hR : Rep φ st w) {id off b κ : Nat} {vs : List V} {xs : List Value} (hφ : φ id = some (b, κ)) (h : storeAt st id off vs = some st') (hv : VRs φ vs xs) :
    ∃ w', (storeCells ⟨b, off, none⟩ xs).run P w = .ok () w' ∧ Chg φ w φ w' ∧ Rep φ st' w' := by
  obtain ⟨next, blks⟩ := st
  obtain ⟨⟨r, g⟩, h1, h⟩ := obind_some h
  obtain ⟨bl, h2, h⟩ := obind_some h
  cases bl with
  | cells cs size last x0 =>
    obtain ⟨hc, h⟩ := cond_some h
    rw [setCellsK_eq, Tr.setK_eq] at h
    cases h
    cases hb1 : Nat.beq last g with
    | false => rw [hb1] at hc; cases hc
    | true =>
    rw [hb1] at hc
    obtain rfl : last = g := Nat.eq_of_beq_eq_true hb1
    replace hc : cond (Nat.ble (Nat.add off vs.length) size) (allScal vs) false = true := hc
    cases hb2 : Nat.ble (Nat.add off vs.length) size with
    | false => rw [hb2] at hc; cases hc
    | true =>
    rw [hb2] at hc
    replace hc : allScal vs = true := hc
    have hle : off + vs.length ≤ size := Nat.le_of_ble_eq_true hb2
    obtain ⟨hgl, arr, el, lo, hi, hblk, hκ, hfz, hcs⟩ := hR.cells id b κ r last cs size last x0 hφ h1 h2
    have hsz := hcs.size rfl
    have hlen := hv.1
    obtain ⟨w', arr', hrun, hst⟩ := run_storeCells (P := P) (off := off) xs w arr 0 hblk (by rw [hκ]; exact hfz.1) (by omega) (allScal_one hv hc)
    have hchg : Chg φ w φ w' := ⟨φ.le_refl, hst.os, hst.tape, hst.output, Nat.le_of_eq hst.hsize.symm, fun i p k e => .inl ⟨i, k, e⟩, fun b' _ hn => hst.other b' (fun e => hn id κ (e ▸ hφ)), .of_other b (fun b' hb' => hst.other b' hb') (fun r e => by rw [hblk] at e; cases e)⟩
    refine ⟨w', hrun, hchg, ?_⟩
    have hat := hst.at_
    simp only [Nat.add_zero] at hat
    refine ⟨hR.low.chg hchg, fun i p e => ?_, fun i p k e => by rw [hst.hsize]; exact hR.lt i p k e, fun i j p k k' e1 e2 => ?_, fun i j p p' rg e1 e2 e3 e4 => ?_, fun i p r' g' e1 e2 => by rw [rootOf_set_cells h2] at e2; exact hR.root i p r' g' e1 e2, fun i p k r' g' cs' size' last' x' e1 e2 e3 => ?_, fun i p k es clock e1 e2 => ?_, fun i p k v e1 e2 => ?_⟩
    · obtain ⟨bl, hbl⟩ := hR.dom i p e
      rw [Tr.get_set]
      by_cases hi : i = r
      · exact ⟨_, if_pos hi⟩
      · exact ⟨bl, by rw [if_neg hi]; exact hbl⟩
    · rw [rootId_set_cells h2, rootId_set_cells h2]; exact hR.inj i j p k k' e1 e2
    · rw [rootOf_set_cells h2] at e3 e4; exact hR.uniq i j p p' rg e1 e2 e3 e4
    · rw [rootOf_set_cells h2] at e2
      rw [Tr.get_set] at e3
      by_cases hr : r' = r
      · subst hr
        rw [if_pos rfl] at e3
        simp only [Option.some.injEq, Blk.cells.injEq] at e3
        obtain ⟨rfl, rfl, rfl, rfl⟩ := e3
        obtain ⟨hg', arr2, el2, lo2, hi2, hblk2, hκ2, hfz2, hcs2⟩ := hR.cells i p k r' g' cs size last x0 e1 e2 h2
        refine ⟨hg', ?_⟩
        by_cases hpb : p = b
        · subst hpb
          rw [hblk] at hblk2
          simp only [Option.some.injEq, Obj.cells.injEq] at hblk2
          obtain ⟨rfl, rfl, hlh⟩ := hblk2
          simp only [Prod.mk.injEq] at hlh
          obtain ⟨rfl, rfl⟩ := hlh
          refine ⟨arr', _, _, _, hst.blk, by rw [hst.size]; exact hκ2, hfz2, by rw [hst.size]; exact hcs2.size, fun q v tag e => ?_⟩
          rw [get_setCells] at e
          by_cases hq : off ≤ q ∧ q < off + vs.length
          · rw [if_pos hq] at e
            obtain ⟨v0, hv0, e⟩ := Option.map_eq_some_iff.1 e
            simp only [Prod.mk.injEq] at e
            obtain ⟨rfl, rfl⟩ := e
            refine ⟨⟨by omega, Nat.le_refl _⟩, fun _ => ?_⟩
            obtain ⟨x, hx, hvx⟩ := hv.get hv0
            exact ⟨x, by rw [hat, if_pos (by omega)]; exact hx, hvx⟩
          · rw [if_neg hq] at e
            refine ⟨(hcs2.at_ q v tag e).1, fun ht => ?_⟩
            obtain ⟨x, hx, hvx⟩ := (hcs2.at_ q v tag e).2 ht
            exact ⟨x, by rw [hat, if_neg (by omega)]; exact hx, hvx⟩
        · have hne : i ≠ id := fun e => by subst e; rw [hφ] at e1; simp at e1; exact hpb e1.1.symm
          have hgne : g' ≠ last := fun e => hne (hR.uniq i id _ _ (r', last) e1 hφ (by rw [e2, e]) h1)
          refine ⟨arr2, el2, lo2, hi2, by rw [hst.other p hpb]; exact hblk2, hκ2, hfz2, hcs2.size, fun q v tag e => ?_⟩
          rw [get_setCells] at e
          by_cases hq : off ≤ q ∧ q < off + vs.length
          · rw [if_pos hq] at e
            obtain ⟨v0, hv0, e⟩ := Option.map_eq_some_iff.1 e
            simp only [Prod.mk.injEq] at e
            obtain ⟨rfl, rfl⟩ := e
            exact ⟨⟨by omega, Nat.le_refl _⟩, fun ht => by omega⟩
          · rw [if_neg hq] at e
            exact hcs2.at_ q v tag e
      · rw [if_neg hr] at e3
        obtain ⟨hg', arr2, el2, lo2, hi2, hblk2, hκ2, hfz2, hcs2⟩ := hR.cells i p k r' g' cs' size' last' x' e1 e2 e3
        have hpb : p ≠ b := fun e => by
          subst e
          have hk : k = κ := by
            rw [hblk] at hblk2
            simp only [Option.some.injEq, Obj.cells.injEq] at hblk2
            rw [← hκ2, ← hκ, hblk2.1]
          have := hR.inj i id p k κ e1 hφ
          rw [rootOf_rootId e2, rootOf_rootId h1] at this
          exact hr this
        exact ⟨hg', arr2, el2, lo2, hi2, by rw [hst.other p hpb]; exact hblk2, hκ2, hfz2, hcs2⟩
    · rw [Tr.get_set] at e2
      by_cases hr : i = r
      · rw [if_pos hr] at e2; cases e2
      · rw [if_neg hr] at e2
        obtain ⟨es', hes, heo⟩ := hR.maps i p k es clock e1 e2
        have hpb : p ≠ b := fun e => by subst e; rw [hblk] at hes; cases hes
        exact ⟨es', by rw [hst.other p hpb]; exact hes, heo⟩
    · rw [Tr.get_set] at e2
      by_cases hr : i = r
      · rw [if_pos hr] at e2; cases e2
      · rw [if_neg hr] at e2
        obtain ⟨o, hes, heo⟩ := hR.objs i p k v e1 e2
        have hpb : p ≠ b := fun e => by subst e; rw [hblk] at hes; cases hes; exact heo.not_cells
        exact ⟨o, by rw [hst.other p hpb]; exact hes, heo⟩
  | _ => cases h

/-! new blocks -/
def Phi.add (φ : Phi) (id b κ : Nat) : Phi := fun i => if i = id then some (b, κ) else φ i
omit [Base] in
theorem Phi.le_add {φ : Phi} {id b κ : Nat} (h : φ id = none) : φ.le (φ.add id b κ) := fun i p e => by
  unfold Phi.add
  by_cases hi : i = id
  · subst hi; rw [h] at e; cases e
  · rw [if_neg hi]; exact e
omit [Base] in
theorem Phi.add_self {φ : Phi} {id b κ : Nat} : φ.add id b κ id = some (b, κ) := by simp [Phi.add]
omit [Base] in
theorem heap_alloc_lt {w : World} {o : Obj} {b : Nat} (h : b < w.heap.size) : (w.alloc o).heap[b]? = w.heap[b]? := Below.heap_alloc w o b h
omit [Base] in
theorem heap_alloc_new {w : World} {o : Obj} : (w.alloc o).heap[w.heap.size]? = some o := by show (w.heap.push o)[w.heap.size]? = _; simp
omit [Base] in
theorem Chg.alloc {φ : Phi} {w : World} {o : Obj} {id κ : Nat} (h : φ id = none) : Chg φ w (φ.add id w.heap.size κ) (w.alloc o) :=
  ⟨Phi.le_add h, rfl, rfl, rfl, by simp, fun i b k e => by
    unfold Phi.add at e
    split at e
    · cases e; exact .inr (Nat.le_refl _)
    · exact .inl ⟨i, k, e⟩, fun b hb _ => heap_alloc_lt hb, .of_same fun b hb => heap_alloc_lt hb⟩

omit [Base] in
theorem rootOf_set_ne {blks : Tr Blk} {id n : Nat} {b : Blk} (h : id ≠ n) : rootOf (blks.set n b) id = rootOf blks id := by
  unfold rootOf; rw [Tr.get_set, if_neg h]
omit [Base] in
theorem rootId_set_ne {m m' : Nat} {blks : Tr Blk} {id n : Nat} {b : Blk} (h : id ≠ n) : rootId ⟨m, blks.set n b⟩ id = rootId ⟨m', blks⟩ id := by
  unfold rootId; simp only [Tr.get_set, if_neg h]
/-- The heap with one more block, of whatever kind: the old ones' laws. -/
theorem Rep.pushAt {φ : Phi} {next next' id : Nat} {blks : Tr Blk} {w : World} (hR : Rep φ ⟨next, blks⟩ w) (hfr : φ id = none) (bl : Blk) (o : Obj) (κ : Nat)
    (hroot : ∀ r g, rootOfB id bl = some (r, g) → r = id) (hal : ∀ r g, bl ≠ .alias r g)
    (hcells : ∀ cs size last x, bl = .cells cs size last x → ∃ arr el lo hi, o = .cells arr el (lo, hi) ∧ arr.size = κ ∧ FzOK x κ el lo hi ∧ CellsOK (φ.add id w.heap.size κ) 0 last cs size arr)
    (hmaps : ∀ es clock, bl = .map es clock → ∃ es', o = .map es' clock ∧ EntriesOK (φ.add id w.heap.size κ) es es')
    (hobjs : ∀ v, bl = .obj v → OR (φ.add id w.heap.size κ) v o) :
    Rep (φ.add id w.heap.size κ) ⟨next', blks.set id bl⟩ (w.alloc o) := by
  have hle : φ.le (φ.add id w.heap.size κ) := Phi.le_add hfr
  have hold : ∀ i b k, φ.add id w.heap.size κ i = some (b, k) → (i = id ∧ b = w.heap.size ∧ k = κ) ∨ (i ≠ id ∧ φ i = some (b, k)) := fun i b k e => by
    unfold Phi.add at e
    split at e
    · rename_i h; cases e; exact .inl ⟨h, rfl, rfl⟩
    · rename_i h; exact .inr ⟨h, e⟩
  have hself : rootId ⟨next', blks.set id bl⟩ id = id := by
    unfold rootId; simp only [Tr.get_set, if_pos]
    cases bl with
    | alias r g => exact absurd rfl (hal r g)
    | _ => rfl
  have hrself : ∀ r g, rootOf (blks.set id bl) id = some (r, g) → r = id := fun r g e => by
    unfold rootOf at e; rw [Tr.get_set, if_pos rfl] at e; exact hroot r g e
  refine ⟨hR.low.chg (Chg.alloc hfr), fun i p e => ?_, fun i b k e => ?_, fun i j b k k' e1 e2 => ?_, fun i j p p' rg e1 e2 e3 e4 => ?_, fun i p r g e1 e2 => ?_, fun i b k r g cs size last x e1 e2 e3 => ?_, fun i b k es clock e1 e2 => ?_, fun i b k v e1 e2 => ?_⟩
  · rw [Tr.get_set]
    by_cases hi : i = id
    · exact ⟨_, if_pos hi⟩
    · rcases hold i p.1 p.2 e with ⟨q1, _, _⟩ | ⟨_, a1⟩
      · exact absurd q1 hi
      · obtain ⟨bl', hbl⟩ := hR.dom i _ a1
        exact ⟨bl', by rw [if_neg hi]; exact hbl⟩
  · rcases hold i b k e with ⟨rfl, rfl, rfl⟩ | ⟨_, e⟩
    · simp
    · have := hR.lt i b k e; simp; omega
  · rcases hold i b k e1 with ⟨q1, q2, _⟩ | ⟨h1, a1⟩ <;> rcases hold j b k' e2 with ⟨q3, q4, _⟩ | ⟨h2, a2⟩
    · rw [q1, q3]
    · have := hR.lt j _ _ a2; omega
    · have := hR.lt i _ _ a1; omega
    · rw [rootId_set_ne (m' := next) h1, rootId_set_ne (m' := next) h2]; exact hR.inj i j b k k' a1 a2
  · obtain ⟨r, g⟩ := rg
    rcases hold i p.1 p.2 e1 with ⟨q1, _, _⟩ | ⟨h1, a1⟩ <;> rcases hold j p'.1 p'.2 e2 with ⟨q2, _, _⟩ | ⟨h2, a2⟩
    · rw [q1, q2]
    · have h3 := hrself r g (q1 ▸ e3)
      rw [rootOf_set_ne h2] at e4
      obtain ⟨q, h4⟩ := hR.root j _ r g a2 e4
      rw [h3, hfr] at h4; cases h4
    · have h3 := hrself r g (q2 ▸ e4)
      rw [rootOf_set_ne h1] at e3
      obtain ⟨q, h4⟩ := hR.root i _ r g a1 e3
      rw [h3, hfr] at h4; cases h4
    · rw [rootOf_set_ne h1] at e3; rw [rootOf_set_ne h2] at e4; exact hR.uniq i j _ _ (r, g) a1 a2 e3 e4
  · rcases hold i p.1 p.2 e1 with ⟨q1, _, _⟩ | ⟨h1, a1⟩
    · rw [hrself r g (q1 ▸ e2)]; exact ⟨_, Phi.add_self⟩
    · rw [rootOf_set_ne h1] at e2
      obtain ⟨q, hq⟩ := hR.root i _ r g a1 e2
      exact ⟨q, hle _ _ hq⟩
  · rcases hold i b k e1 with ⟨rfl, rfl, rfl⟩ | ⟨h1, e1⟩
    · obtain rfl := hrself r g e2
      rw [Tr.get_set, if_pos rfl] at e3
      simp only [Option.some.injEq] at e3
      obtain ⟨arr, el, lo, hi, rfl, h2, h3, h4⟩ := hcells cs size last x e3
      have hg : g = 0 := by
        unfold rootOf at e2; rw [Tr.get_set, if_pos rfl, e3] at e2
        simp [obind, rootOfB] at e2; exact e2.symm
      subst hg
      exact ⟨Nat.zero_le _, arr, el, lo, hi, heap_alloc_new, h2, h3, h4⟩
    · rw [rootOf_set_ne h1] at e2
      have hrn : r ≠ id := fun e => by
        obtain ⟨q, hq⟩ := hR.root i _ r g e1 e2
        rw [e, hfr] at hq; cases hq
      rw [Tr.get_set, if_neg hrn] at e3
      obtain ⟨hg, arr, el, lo, hi, h2, h3, h4, h5⟩ := hR.cells i b k r g cs size last x e1 e2 e3
      exact ⟨hg, arr, el, lo, hi, by rw [heap_alloc_lt (hR.lt i b k e1)]; exact h2, h3, h4, h5.mono hle⟩
  · rcases hold i b k e1 with ⟨rfl, rfl, rfl⟩ | ⟨h1, e1⟩
    · rw [Tr.get_set, if_pos rfl] at e2
      simp only [Option.some.injEq] at e2
      obtain ⟨es', rfl, h⟩ := hmaps es clock e2
      exact ⟨es', heap_alloc_new, h⟩
    · rw [Tr.get_set, if_neg h1] at e2
      obtain ⟨es', h2, h3⟩ := hR.maps i b k es clock e1 e2
      exact ⟨es', by rw [heap_alloc_lt (hR.lt i b k e1)]; exact h2, h3.1, fun q kk v bb e a1 a2 => by
        obtain ⟨x1, x2, x3⟩ := h3.2 q kk v bb e a1 a2
        exact ⟨x1.mono hle, x2.mono hle, x3⟩⟩
  · rcases hold i b k e1 with ⟨rfl, rfl, rfl⟩ | ⟨h1, e1⟩
    · rw [Tr.get_set, if_pos rfl] at e2
      simp only [Option.some.injEq] at e2
      exact ⟨o, heap_alloc_new, hobjs v e2⟩
    · rw [Tr.get_set, if_neg h1] at e2
      obtain ⟨o', h2, h3⟩ := hR.objs i b k v e1 e2
      exact ⟨o', by rw [heap_alloc_lt (hR.lt i b k e1)]; exact h2, h3.mono hle⟩

theorem Rep.push {φ : Phi} {next : Nat} {blks : Tr Blk} {w : World} (hR : Rep φ ⟨next, blks⟩ w) (hg : blks.get next = none) (bl : Blk) (o : Obj) (κ : Nat)
    (hroot : ∀ r g, rootOfB next bl = some (r, g) → r = next) (hal : ∀ r g, bl ≠ .alias r g)
    (hcells : ∀ cs size last x, bl = .cells cs size last x → ∃ arr el lo hi, o = .cells arr el (lo, hi) ∧ arr.size = κ ∧ FzOK x κ el lo hi ∧ CellsOK (φ.add next w.heap.size κ) 0 last cs size arr)
    (hmaps : ∀ es clock, bl = .map es clock → ∃ es', o = .map es' clock ∧ EntriesOK (φ.add next w.heap.size κ) es es')
    (hobjs : ∀ v, bl = .obj v → OR (φ.add next w.heap.size κ) v o) :
    Rep (φ.add next w.heap.size κ) ⟨next + 1, blks.set next bl⟩ (w.alloc o) :=
  hR.pushAt (hR.fresh hg) bl o κ hroot hal hcells hmaps hobjs

omit [Base] in
theorem freeK_some {β : Type} {x : Option β} {o : Option Blk} {r : β} (h : freeK x o = some r) : o = none ∧ x = some r := by
  cases o with
  | none => exact ⟨rfl, h⟩
  | some b => cases h
omit [Base] in
theorem newBK_some {β : Type} {next : Nat} {blks : Tr Blk} {b : Blk} {K : Nat → St → Option β} {r : β} (h : newBK ⟨next, blks⟩ b K = some r) : blks.get next = none ∧ K next ⟨next + 1, blks.set next b⟩ = some r := by
  obtain ⟨h1, h2⟩ := freeK_some (o := blks.get next) h
  rw [Tr.setK_eq, natK_eq] at h2
  exact ⟨h1, h2⟩
omit [Base] in
theorem newK_some {β : Type} {x : Option TypeId} {next : Nat} {blks : Tr Blk} {vs : List V} {K : Nat → St → Option β} {r : β} (h : newK x ⟨next, blks⟩ vs K = some r) :
    blks.get next = none ∧ K next ⟨next + 1, blks.set next (.cells (setCells 0 vs .e 0) vs.length 0 x)⟩ = some r := by
  unfold newK at h
  rw [setCellsK_eq, natK_eq] at h
  exact newBK_some h

/-- A new row of cells: the first of them are at hand. -/
theorem newAt_sound {φ : Phi} {next next' id : Nat} {blks : Tr Blk} {w : World} (hR : Rep φ ⟨next, blks⟩ w) (hfr : φ id = none) {vs : List V} {xs : List Value} (hv : VRs φ vs xs) (arr : Array Value) (el : TypeId) (lo hi : Nat)
    (hpre : ∀ (i : Nat) (x : Value), xs[i]? = some x → arr[i]? = some x) (hlen : xs.length ≤ arr.size) (hfz : ∀ i, i < arr.size → ¬ (lo ≤ i ∧ i < hi)) (x : Option TypeId) (hx : ∀ t, x = some t → el = t) :
    Chg φ w (φ.add id w.heap.size arr.size) (w.alloc (.cells arr el (lo, hi))) ∧
    Rep (φ.add id w.heap.size arr.size) ⟨next', blks.set id (.cells (setCells 0 vs .e 0) vs.length 0 x)⟩ (w.alloc (.cells arr el (lo, hi))) := by
  have hle : φ.le (φ.add id w.heap.size arr.size) := Phi.le_add hfr
  refine ⟨Chg.alloc hfr, hR.pushAt hfr _ _ _ (fun r g e => by simp [rootOfB] at e; exact e.1.symm) (fun r g e => by cases e) (fun cs size last x' e => ?_) (fun es clock e => by cases e) (fun v e => by cases e)⟩
  simp only [Blk.cells.injEq] at e
  obtain ⟨rfl, rfl, rfl, rfl⟩ := e
  refine ⟨arr, el, lo, hi, rfl, rfl, ⟨hfz, hx⟩, fun _ => by rw [← hv.1]; exact hlen, fun i v tag e => ?_⟩
  rw [get_setCells] at e
  simp only [Nat.zero_le, Nat.zero_add, true_and, Nat.sub_zero, Tr.get_e] at e
  split at e
  · rename_i hlt
    obtain ⟨v0, hv0, e⟩ := Option.map_eq_some_iff.1 e
    simp only [Prod.mk.injEq] at e
    obtain ⟨rfl, rfl⟩ := e
    obtain ⟨x, hx, hvx⟩ := hv.get hv0
    exact ⟨⟨hlt, Nat.le_refl _⟩, fun _ => ⟨x, hpre i x hx, hvx.mono hle⟩⟩
  · cases e
theorem new_sound {φ : Phi} {next : Nat} {blks : Tr Blk} {w : World} (hR : Rep φ ⟨next, blks⟩ w) (hg : blks.get next = none) {vs : List V} {xs : List Value} (hv : VRs φ vs xs) (arr : Array Value) (el : TypeId) (lo hi : Nat)
    (hpre : ∀ (i : Nat) (x : Value), xs[i]? = some x → arr[i]? = some x) (hlen : xs.length ≤ arr.size) (hfz : ∀ i, i < arr.size → ¬ (lo ≤ i ∧ i < hi)) (x : Option TypeId) (hx : ∀ t, x = some t → el = t) :
    Chg φ w (φ.add next w.heap.size arr.size) (w.alloc (.cells arr el (lo, hi))) ∧
    Rep (φ.add next w.heap.size arr.size) ⟨next + 1, blks.set next (.cells (setCells 0 vs .e 0) vs.length 0 x)⟩ (w.alloc (.cells arr el (lo, hi))) :=
  newAt_sound hR (hR.fresh hg) hv arr el lo hi hpre hlen hfz x hx

/-! append on an open slice -/
omit [Base] in
theorem obindP {α β : Type} {x : Option α} {f : α → Option β} {y : β} (h : obind x f = some y) : ∃ a, x = some a ∧ f a = some y := obind_some h

omit [Base] in
/-- What appendOpen does, in plain words. -/
theorem appendOpen_eq {e : TypeId} {next : Nat} {blks : Tr Blk} {id len esz n : Nat} {vs : List V} {v' : V} {st' : St} (h : appendOpen e ⟨next, blks⟩ id len esz vs n = some (v', st')) :
    ∃ r g cs x, blks.get next = none ∧ rootOf blks id = some (r, g) ∧ blks.get r = some (.cells cs (len * esz) g x) ∧ allScal vs = true ∧ v' = .sl next 0 (len + n) esz none ∧
      st' = ⟨next + 1, (blks.set r (.cells (setCells (g + 1) vs cs (len * esz)) (len * esz + vs.length) (g + 1) (isEl e x))).set next (.alias r (g + 1))⟩ := by
  obtain ⟨⟨r, g⟩, h1, h⟩ := obind_some h
  obtain ⟨bl, h2, h⟩ := obind_some h
  cases bl with
  | cells cs size last x0 =>
    obtain ⟨hc, h⟩ := cond_some h
    cases hb1 : Nat.beq (Nat.mul len esz) size with
    | false => rw [hb1] at hc; cases hc
    | true =>
    rw [hb1] at hc
    replace hc : cond (Nat.beq last g) (allScal vs) false = true := hc
    cases hb2 : Nat.beq last g with
    | false => rw [hb2] at hc; cases hc
    | true =>
    rw [hb2] at hc
    replace hc : allScal vs = true := hc
    obtain rfl : last = g := Nat.eq_of_beq_eq_true hb2
    have e0 : len * esz = size := Nat.eq_of_beq_eq_true hb1
    subst e0
    rw [natK_eq, setCellsK_eq, natK_eq] at h
    obtain ⟨hfr, h⟩ := freeK_some h
    rw [Tr.setK_eq, Tr.setK_eq, natK_eq, natK_eq] at h
    simp only [Option.some.injEq, Prod.mk.injEq] at h
    obtain ⟨rfl, rfl⟩ := h
    exact ⟨r, last, cs, x0, hfr, h1, h2, hc, rfl, rfl⟩
  | _ => cases h

/-- The heap behind an append on an open slice: whatever block the new name has. -/
theorem Rep.appended {φ : Phi} {next : Nat} {blks : Tr Blk} {w w' : World} (hR : Rep φ ⟨next, blks⟩ w) (hg : blks.get next = none) {id b κ r g s : Nat} {cs : Tr (V × Nat)} {vs : List V} {x x' : Option TypeId} (hx : ∀ t, x' = some t → x = some t) (hφ : φ id = some (b, κ)) (h1 : rootOf blks id = some (r, g)) (h2 : blks.get r = some (.cells cs s g x))
    (b' κ' : Nat) (hlow : LowOK (φ.add next b' κ') w') (hsz : w.heap.size ≤ w'.heap.size) (hb'lt : b' < w'.heap.size) (hb' : b' = b ∨ w.heap.size ≤ b')
    (hother : ∀ p, p < w.heap.size → p ≠ b → w'.heap[p]? = w.heap[p]?)
    (hold : ∀ arr el lo hi, w.heap[b]? = some (.cells arr el (lo, hi)) → arr.size = κ → ∃ arr', w'.heap[b]? = some (.cells arr' el (lo, hi)) ∧ arr'.size = arr.size ∧ ∀ q, q < s → arr'[q]? = arr[q]?)
    (hnew : ∀ arr el lo hi, w.heap[b]? = some (.cells arr el (lo, hi)) → arr.size = κ → FzOK x κ el lo hi → ∃ arr' el' lo' hi', w'.heap[b']? = some (.cells arr' el' (lo', hi')) ∧ arr'.size = κ' ∧ FzOK x' κ' el' lo' hi' ∧
      (∀ q, q < s → arr'[q]? = arr[q]?) ∧ s + vs.length ≤ arr'.size ∧ ∀ i v, vs[i]? = some v → ∃ x, arr'[s + i]? = some x ∧ VR φ v x) :
    Rep (φ.add next b' κ') ⟨next + 1, (blks.set r (.cells (setCells (g + 1) vs cs s) (s + vs.length) (g + 1) x')).set next (.alias r (g + 1))⟩ w' := by
  have hfr : φ next = none := hR.fresh hg
  have hle : φ.le (φ.add next b' κ') := Phi.le_add hfr
  have hrn : r ≠ next := hR.root_ne hg id _ r g hφ h1
  have hdec : ∀ i p k, φ.add next b' κ' i = some (p, k) → (i = next ∧ p = b' ∧ k = κ') ∨ (i ≠ next ∧ φ i = some (p, k)) := fun i p k e => by
    unfold Phi.add at e
    split at e
    · rename_i h; cases e; exact .inl ⟨h, rfl, rfl⟩
    · rename_i h; exact .inr ⟨h, e⟩
  generalize hB : blks.set r (.cells (setCells (g + 1) vs cs s) (s + vs.length) (g + 1) x') = B1
  have hro : ∀ i, i ≠ next → rootOf (B1.set next (.alias r (g + 1))) i = rootOf blks i := fun i hi => by rw [rootOf_set_ne hi, ← hB, rootOf_set_cells h2]
  have hrs : rootOf (B1.set next (.alias r (g + 1))) next = some (r, g + 1) := by unfold rootOf; rw [Tr.get_set, if_pos rfl]; rfl
  have hri : ∀ i, i ≠ next → rootId ⟨next + 1, B1.set next (.alias r (g + 1))⟩ i = rootId ⟨next, blks⟩ i := fun i hi => by rw [rootId_set_ne (m' := next) hi, ← hB, rootId_set_cells h2]
  have hrin : rootId ⟨next + 1, B1.set next (.alias r (g + 1))⟩ next = r := by unfold rootId; simp only [Tr.get_set, if_pos]
  have hrid : rootId ⟨next, blks⟩ id = r := rootOf_rootId h1
  have hgr : (B1.set next (.alias r (g + 1))).get r = some (.cells (setCells (g + 1) vs cs s) (s + vs.length) (g + 1) x') := by rw [Tr.get_set, if_neg hrn, ← hB, Tr.get_set, if_pos rfl]
  have hgo : ∀ i, i ≠ next → i ≠ r → (B1.set next (.alias r (g + 1))).get i = blks.get i := fun i hi hj => by rw [Tr.get_set, if_neg hi, ← hB, Tr.get_set, if_neg hj]
  obtain ⟨_, arr0, el0, lo0, hi0, hblk0, hκ0, hfz0, hcs0⟩ := hR.cells id b κ r g cs s g x hφ h1 h2
  obtain ⟨arr1, hblk1, hsz1, hat1⟩ := hold arr0 el0 lo0 hi0 hblk0 hκ0
  obtain ⟨arr2, el2, lo2, hi2, hblk2, hκ2, hfz2, hat2, hlen2, hnv2⟩ := hnew arr0 el0 lo0 hi0 hblk0 hκ0 hfz0
  have hglt : ∀ i p, φ i = some p → ∀ g', rootOf blks i = some (r, g') → g' ≤ g := fun i p e g' e2 => (hR.cells i p.1 p.2 r g' cs s g x e e2 h2).1
  refine ⟨hlow, fun i p e => ?_, fun i p k e => ?_, fun i j p k k' e1 e2 => ?_, fun i j p p' rg e1 e2 e3 e4 => ?_, fun i p r' g' e1 e2 => ?_, fun i p k r' g' cs' size' last' x' e1 e2 e3 => ?_, fun i p k es clock e1 e2 => ?_, fun i p k v e1 e2 => ?_⟩
  · rcases hdec i p.1 p.2 e with ⟨q1, _, _⟩ | ⟨n1, a1⟩
    · exact ⟨_, by rw [q1, Tr.get_set, if_pos rfl]⟩
    · by_cases hr : i = r
      · exact ⟨_, by rw [hr]; exact hgr⟩
      · obtain ⟨bl, hbl⟩ := hR.dom i _ a1
        exact ⟨bl, by rw [hgo i n1 hr]; exact hbl⟩
  · rcases hdec i p k e with ⟨rfl, rfl, rfl⟩ | ⟨_, e⟩
    · exact hb'lt
    · exact Nat.lt_of_lt_of_le (hR.lt i p k e) hsz
  · rcases hdec i p k e1 with ⟨q1, q2, _⟩ | ⟨n1, a1⟩ <;> rcases hdec j p k' e2 with ⟨q3, q4, _⟩ | ⟨n2, a2⟩
    · rw [q1, q3]
    · rw [q1, hrin, hri j n2]
      rcases hb' with hb' | hb'
      · rw [q2, hb'] at a2; rw [← hrid]; exact hR.inj id j b κ k' hφ a2
      · have := hR.lt j p k' a2; omega
    · rw [q3, hrin, hri i n1]
      rcases hb' with hb' | hb'
      · rw [q4, hb'] at a1; rw [← hrid]; exact hR.inj i id b k κ a1 hφ
      · have := (hR.lt i p k a1); omega
    · rw [hri i n1, hri j n2]; exact hR.inj i j p k k' a1 a2
  · obtain ⟨r', g'⟩ := rg
    rcases hdec i p.1 p.2 e1 with ⟨q1, _, _⟩ | ⟨n1, a1⟩ <;> rcases hdec j p'.1 p'.2 e2 with ⟨q2, _, _⟩ | ⟨n2, a2⟩
    · rw [q1, q2]
    · rw [q1, hrs] at e3
      simp only [Option.some.injEq, Prod.mk.injEq] at e3
      obtain ⟨rfl, rfl⟩ := e3
      rw [hro j n2] at e4
      have := hglt j _ a2 _ e4; omega
    · rw [q2, hrs] at e4
      simp only [Option.some.injEq, Prod.mk.injEq] at e4
      obtain ⟨rfl, rfl⟩ := e4
      rw [hro i n1] at e3
      have := hglt i _ a1 _ e3; omega
    · rw [hro i n1] at e3; rw [hro j n2] at e4; exact hR.uniq i j _ _ (r', g') a1 a2 e3 e4
  · rcases hdec i p.1 p.2 e1 with ⟨q1, _, _⟩ | ⟨n1, a1⟩
    · rw [q1, hrs] at e2
      simp only [Option.some.injEq, Prod.mk.injEq] at e2
      rw [← e2.1]
      obtain ⟨q, hq⟩ := hR.root id _ r g hφ h1
      exact ⟨q, hle _ _ hq⟩
    · rw [hro i n1] at e2
      obtain ⟨q, hq⟩ := hR.root i _ r' g' a1 e2
      exact ⟨q, hle _ _ hq⟩
  · rcases hdec i p k e1 with ⟨q1, q2, q3⟩ | ⟨n1, a1⟩
    · rw [q1, hrs] at e2
      simp only [Option.some.injEq, Prod.mk.injEq] at e2
      obtain ⟨rfl, rfl⟩ := e2
      rw [hgr] at e3
      simp only [Option.some.injEq, Blk.cells.injEq] at e3
      obtain ⟨rfl, rfl, rfl, rfl⟩ := e3
      rw [q2, q3]
      refine ⟨Nat.le_refl _, arr2, el2, lo2, hi2, hblk2, hκ2, hfz2, fun _ => hlen2, fun q v tag e => ?_⟩
      rw [get_setCells] at e
      by_cases hq : s ≤ q ∧ q < s + vs.length
      · rw [if_pos hq] at e
        obtain ⟨v0, hv0, e⟩ := Option.map_eq_some_iff.1 e
        simp only [Prod.mk.injEq] at e
        obtain ⟨rfl, rfl⟩ := e
        obtain ⟨x, hx, hvx⟩ := hnv2 _ _ hv0
        exact ⟨⟨hq.2, Nat.le_refl _⟩, fun _ => ⟨x, by rw [← hx]; congr 1; omega, hvx.mono hle⟩⟩
      · rw [if_neg hq] at e
        obtain ⟨⟨c1, c2⟩, c3⟩ := hcs0.at_ q v tag e
        obtain ⟨x, hx, hvx⟩ := c3 c2
        exact ⟨⟨by omega, by omega⟩, fun _ => ⟨x, by rw [hat2 q c1]; exact hx, hvx.mono hle⟩⟩
    · rw [hro i n1] at e2
      by_cases hr : r' = r
      · subst hr
        rw [hgr] at e3
        simp only [Option.some.injEq, Blk.cells.injEq] at e3
        obtain ⟨rfl, rfl, rfl, rfl⟩ := e3
        obtain ⟨hg', arr3, el3, lo3, hi3, hblk3, hκ3, hfz3, hcs3⟩ := hR.cells i p k r' g' cs s g x a1 e2 h2
        refine ⟨by omega, ?_⟩
        by_cases hpb : p = b
        · subst hpb
          rw [hblk0] at hblk3
          simp only [Option.some.injEq, Obj.cells.injEq, Prod.mk.injEq] at hblk3
          obtain ⟨rfl, rfl, rfl, rfl⟩ := hblk3
          refine ⟨arr1, _, _, _, hblk1, by rw [hsz1]; exact hκ3, hfz3.weak hx, fun h => by omega, fun q v tag e => ?_⟩
          rw [get_setCells] at e
          by_cases hq : s ≤ q ∧ q < s + vs.length
          · rw [if_pos hq] at e
            obtain ⟨v0, hv0, e⟩ := Option.map_eq_some_iff.1 e
            simp only [Prod.mk.injEq] at e
            obtain ⟨rfl, rfl⟩ := e
            exact ⟨⟨hq.2, Nat.le_refl _⟩, fun ht => by omega⟩
          · rw [if_neg hq] at e
            obtain ⟨⟨c1, c2⟩, c3⟩ := hcs3.at_ q v tag e
            refine ⟨⟨by omega, by omega⟩, fun ht => ?_⟩
            obtain ⟨x, hx, hvx⟩ := c3 ht
            exact ⟨x, by rw [hat1 q c1]; exact hx, hvx.mono hle⟩
        · refine ⟨arr3, el3, lo3, hi3, by rw [hother p (hR.lt i p k a1) hpb]; exact hblk3, hκ3, hfz3.weak hx, fun h => by omega, fun q v tag e => ?_⟩
          rw [get_setCells] at e
          by_cases hq : s ≤ q ∧ q < s + vs.length
          · rw [if_pos hq] at e
            obtain ⟨v0, hv0, e⟩ := Option.map_eq_some_iff.1 e
            simp only [Prod.mk.injEq] at e
            obtain ⟨rfl, rfl⟩ := e
            exact ⟨⟨hq.2, Nat.le_refl _⟩, fun ht => by omega⟩
          · rw [if_neg hq] at e
            obtain ⟨⟨c1, c2⟩, c3⟩ := hcs3.at_ q v tag e
            refine ⟨⟨by omega, by omega⟩, fun ht => ?_⟩
            obtain ⟨x, hx, hvx⟩ := c3 ht
            exact ⟨x, hx, hvx.mono hle⟩
      · have hrn' : r' ≠ next := hR.root_ne hg i _ r' g' a1 e2
        rw [hgo r' hrn' hr] at e3
        obtain ⟨hg', arr3, el3, lo3, hi3, hblk3, hκ3, hfz3, hcs3⟩ := hR.cells i p k r' g' cs' size' last' x' a1 e2 e3
        have hpb : p ≠ b := fun e => by
          subst e
          have := hR.inj i id p k κ a1 hφ
          rw [rootOf_rootId e2, hrid] at this
          exact hr this
        exact ⟨hg', arr3, el3, lo3, hi3, by rw [hother p (hR.lt i p k a1) hpb]; exact hblk3, hκ3, hfz3, hcs3.mono hle⟩
  · rcases hdec i p k e1 with ⟨q1, q2, q3⟩ | ⟨n1, a1⟩
    · rw [q1, Tr.get_set, if_pos rfl] at e2; cases e2
    · by_cases hr : i = r
      · rw [hr, hgr] at e2; cases e2
      · rw [hgo i n1 hr] at e2
        obtain ⟨es', hes, heo⟩ := hR.maps i p k es clock a1 e2
        have hpb : p ≠ b := fun e => by subst e; rw [hblk0] at hes; cases hes
        exact ⟨es', by rw [hother p (hR.lt i p k a1) hpb]; exact hes, heo.1, fun q kk v bb e c1 c2 => by
          obtain ⟨x1, x2, x3⟩ := heo.2 q kk v bb e c1 c2
          exact ⟨x1.mono hle, x2.mono hle, x3⟩⟩
  · rcases hdec i p k e1 with ⟨q1, q2, q3⟩ | ⟨n1, a1⟩
    · rw [q1, Tr.get_set, if_pos rfl] at e2; cases e2
    · by_cases hr : i = r
      · rw [hr, hgr] at e2; cases e2
      · rw [hgo i n1 hr] at e2
        obtain ⟨o, hes, heo⟩ := hR.objs i p k v a1 e2
        have hpb : p ≠ b := fun e => by subst e; rw [hblk0] at hes; cases hes; exact heo.not_cells
        exact ⟨o, by rw [hother p (hR.lt i p k a1) hpb]; exact hes, heo.mono hle⟩
end Go.Ev
namespace Go.Ev
open Go.RowKit
variable [Base]

/-- A heap with another thing in a block. -/
def putObj (w : World) (b : Nat) (o : Obj) : World := { w with heap := w.heap.setIfInBounds b o }
omit [Base] in
theorem putObj_same {w : World} {b : Nat} {o : Obj} (h : b < w.heap.size) : (putObj w b o).heap[b]? = some o := by simp [putObj, h]
omit [Base] in
theorem putObj_ne {w : World} {b p : Nat} {o : Obj} (h : p ≠ b) : (putObj w b o).heap[p]? = w.heap[p]? := by simp [putObj, Array.getElem?_setIfInBounds, Ne.symm h]
omit [Base] in
theorem putObj_size {w : World} {b : Nat} {o : Obj} : (putObj w b o).heap.size = w.heap.size := by simp [putObj]
omit [Base] in
theorem run_getObj {P : Program} {w : World} {b : Nat} {o : Obj} (h : w.heap[b]? = some o) (hn : ∀ a e f, o ≠ .cells a e f) : (getObj b).run P w = .ok o w := by
  cases o <;> first | (exact absurd rfl (hn _ _ _)) | simp [getObj, Sem.run, h]
omit [Base] in
theorem run_setObj {P : Program} {w : World} {b : Nat} {o : Obj} (o' : Obj) (h : w.heap[b]? = some o) (hn : ∀ a e f, o ≠ .cells a e f) : (setObj b o').run P w = .ok () (putObj w b o') := by
  cases o <;> first | (exact absurd rfl (hn _ _ _)) | simp [setObj, Sem.run, h, putObj]

omit [Base] in
theorem rootId_self {n : Nat} {blks : Tr Blk} {id : Nat} {bl : Blk} (h : blks.get id = some bl) (hal : ∀ r g, bl ≠ .alias r g) : rootId ⟨n, blks⟩ id = id := by
  unfold rootId; simp only [h]
  cases bl <;> first | rfl | exact absurd rfl (hal _ _)
omit [Base] in
theorem rootOfB_none {id : Nat} {bl : Blk} (h : rootOfB id bl = none) : (∀ r g, bl ≠ .alias r g) ∧ ∀ cs s l x, bl ≠ .cells cs s l x := by
  cases bl <;> first | (cases h; done) | exact ⟨(fun r g e => by cases e), (fun cs s l x e => by cases e)⟩

/-- A block that holds no cells is set anew. -/
theorem Rep.setBlk {φ : Phi} {next : Nat} {blks : Tr Blk} {w : World} (hR : Rep φ ⟨next, blks⟩ w) {id b κ : Nat} {bl bl' : Blk} {o o' : Obj} (hφ : φ id = some (b, κ)) (hb : blks.get id = some bl) (hbl : rootOfB id bl = none) (hbl' : rootOfB id bl' = none)
    (ho : w.heap[b]? = some o) (hn : ∀ a e f, o ≠ .cells a e f) (hmaps : ∀ es c, bl' = .map es c → ∃ es', o' = .map es' c ∧ EntriesOK φ es es') (hobjs : ∀ v, bl' = .obj v → OR φ v o') (hlp : ∀ r : Loop, o = Obj.loop r → ∃ r' : Loop, o' = Obj.loop r' ∧ LStat r r') :
    Chg φ w φ (putObj w b o') ∧ Rep φ ⟨next, blks.set id bl'⟩ (putObj w b o') := by
  have hlt := hR.lt id b κ hφ
  obtain ⟨ha, hc⟩ := rootOfB_none hbl
  obtain ⟨ha', hc'⟩ := rootOfB_none hbl'
  have hro : ∀ i, rootOf (blks.set id bl') i = rootOf blks i := fun i => by
    unfold rootOf
    rw [Tr.get_set]
    by_cases e : i = id
    · subst e
      rw [if_pos rfl, hb]
      show rootOfB i bl' = rootOfB i bl
      rw [hbl, hbl']
    · rw [if_neg e]
  have hri : ∀ i, rootId ⟨next, blks.set id bl'⟩ i = rootId ⟨next, blks⟩ i := fun i => by
    by_cases e : i = id
    · subst e
      rw [rootId_self (bl := bl') (by rw [Tr.get_set, if_pos rfl]) ha', rootId_self hb ha]
    · exact rootId_set_ne e
  have hne : ∀ i p k bl2, φ i = some (p, k) → i ≠ id → blks.get i = some bl2 → (∀ r g, bl2 ≠ .alias r g) → p ≠ b := fun i p k bl2 e1 hi e2 e3 e => by
    subst e
    have := hR.inj i id p k κ e1 hφ
    rw [rootId_self e2 e3, rootId_self hb ha] at this
    exact hi this
  have hchg : Chg φ w φ (putObj w b o') := ⟨φ.le_refl, rfl, rfl, rfl, by rw [putObj_size]; exact Nat.le_refl _, fun i p k e => .inl ⟨i, k, e⟩, fun p _ hp => putObj_ne (fun e => hp id κ (e ▸ hφ)), .of_other b (fun p hp => putObj_ne hp) (fun r e => by
    rw [ho] at e
    obtain ⟨r', e1, e2⟩ := hlp r (Option.some.inj e)
    exact ⟨r', by rw [putObj_same hlt, e1], e2⟩)⟩
  refine ⟨hchg, ?_⟩
  refine ⟨hR.low.chg hchg, fun i p e => ?_, fun i p k e => by rw [putObj_size]; exact hR.lt i p k e, fun i j p k k' e1 e2 => by rw [hri, hri]; exact hR.inj i j p k k' e1 e2, fun i j p p' rg e1 e2 e3 e4 => by rw [hro] at e3 e4; exact hR.uniq i j p p' rg e1 e2 e3 e4,
    fun i p r g e1 e2 => by rw [hro] at e2; exact hR.root i p r g e1 e2, fun i p k r g cs size last x e1 e2 e3 => ?_, fun i p k es clock e1 e2 => ?_, fun i p k v e1 e2 => ?_⟩
  · rw [Tr.get_set]
    by_cases hi : i = id
    · exact ⟨_, if_pos hi⟩
    · rw [if_neg hi]; exact hR.dom i p e
  · rw [hro] at e2
    rw [Tr.get_set] at e3
    by_cases hr : r = id
    · rw [if_pos hr] at e3
      exact absurd (Option.some.inj e3) (hc' _ _ _ _)
    · rw [if_neg hr] at e3
      obtain ⟨h1, arr, el, lo, hi, h2, h3⟩ := hR.cells i p k r g cs size last x e1 e2 e3
      have hp : p ≠ b := fun e => by subst e; rw [ho] at h2; exact hn _ _ _ (Option.some.inj h2)
      exact ⟨h1, arr, el, lo, hi, by rw [putObj_ne hp]; exact h2, h3⟩
  · rw [Tr.get_set] at e2
    by_cases hi : i = id
    · subst hi
      rw [if_pos rfl] at e2
      rw [hφ] at e1
      cases e1
      obtain ⟨es', rfl, h⟩ := hmaps es clock (Option.some.inj e2)
      exact ⟨es', putObj_same hlt, h⟩
    · rw [if_neg hi] at e2
      obtain ⟨es', h1, h2⟩ := hR.maps i p k es clock e1 e2
      exact ⟨es', by rw [putObj_ne (hne i p k _ e1 hi e2 (fun r g e => by cases e))]; exact h1, h2⟩
  · rw [Tr.get_set] at e2
    by_cases hi : i = id
    · subst hi
      rw [if_pos rfl] at e2
      rw [hφ] at e1
      cases e1
      exact ⟨o', putObj_same hlt, hobjs v (Option.some.inj e2)⟩
    · rw [if_neg hi] at e2
      obtain ⟨o2, h1, h2⟩ := hR.objs i p k v e1 e2
      exact ⟨o2, by rw [putObj_ne (hne i p k _ e1 hi e2 (fun r g e => by cases e))]; exact h1, h2⟩

/-- A block that is no longer looked at: its cells may turn. -/
theorem Rep.kill {φ : Phi} {next : Nat} {blks : Tr Blk} {w w' : World} (hR : Rep φ ⟨next, blks⟩ w) {id b κ r g : Nat} {cs : Tr (V × Nat)} {size last : Nat} {x : Option TypeId} (hφ : φ id = some (b, κ)) (h1 : rootOf blks id = some (r, g)) (h2 : blks.get r = some (.cells cs size last x))
    (hos : w'.os = w.os) (htape : w'.tape = w.tape) (hout : w'.output = w.output) (hsize : w'.heap.size = w.heap.size) (hother : ∀ p, p ≠ b → w'.heap[p]? = w.heap[p]?) :
    Chg φ w φ w' ∧ Rep φ ⟨next, blks.set r .dead⟩ w' := by
  obtain ⟨_, arr0, el0, lo0, hi0, hblk0, hκ0, _, _⟩ := hR.cells id b κ r g cs size last x hφ h1 h2
  have hro : ∀ i rg, rootOf (blks.set r .dead) i = some rg → rootOf blks i = some rg ∧ i ≠ r := fun i rg e => by
    unfold rootOf at e ⊢
    rw [Tr.get_set] at e
    by_cases hi : i = r
    · rw [if_pos hi] at e; cases e
    · rw [if_neg hi] at e; exact ⟨e, hi⟩
  have hri : ∀ i, rootId ⟨next, blks.set r .dead⟩ i = rootId ⟨next, blks⟩ i := fun i => by
    by_cases e : i = r
    · subst e
      rw [rootId_self (bl := .dead) (by rw [Tr.get_set, if_pos rfl]) (fun _ _ e => by cases e), rootId_self h2 (fun _ _ e => by cases e)]
    · exact rootId_set_ne e
  have hchg : Chg φ w φ w' := ⟨φ.le_refl, hos, htape, hout, Nat.le_of_eq hsize.symm, fun i p k e => .inl ⟨i, k, e⟩, fun p _ hp => hother p (fun e => hp id κ (e ▸ hφ)), .of_other b hother (fun r e => by rw [hblk0] at e; cases e)⟩
  refine ⟨hchg, ?_⟩
  refine ⟨hR.low.chg hchg, fun i p e => ?_, fun i p k e => by rw [hsize]; exact hR.lt i p k e, fun i j p k k' e1 e2 => by rw [hri, hri]; exact hR.inj i j p k k' e1 e2, fun i j p p' rg e1 e2 e3 e4 => hR.uniq i j p p' rg e1 e2 (hro _ _ e3).1 (hro _ _ e4).1,
    fun i p r g e1 e2 => hR.root i p r g e1 (hro _ _ e2).1, fun i p k r' g' cs' size' last' x' e1 e2 e3 => ?_, fun i p k es clock e1 e2 => ?_, fun i p k v e1 e2 => ?_⟩
  · rw [Tr.get_set]
    by_cases hi : i = r
    · exact ⟨_, if_pos hi⟩
    · rw [if_neg hi]; exact hR.dom i p e
  · obtain ⟨e2, hir⟩ := hro _ _ e2
    rw [Tr.get_set] at e3
    by_cases hr : r' = r
    · rw [if_pos hr] at e3; cases e3
    · rw [if_neg hr] at e3
      obtain ⟨q1, arr, el, lo, hi, q2, q3, q4⟩ := hR.cells i p k r' g' cs' size' last' x' e1 e2 e3
      have hp : p ≠ b := fun e => by
        subst e
        have := hR.inj i id p k κ e1 hφ
        rw [rootOf_rootId e2, rootOf_rootId h1] at this
        exact hr this
      exact ⟨q1, arr, el, lo, hi, by rw [hother p hp]; exact q2, q3, q4⟩
  · rw [Tr.get_set] at e2
    by_cases hi : i = r
    · rw [if_pos hi] at e2; cases e2
    · rw [if_neg hi] at e2
      obtain ⟨es', q1, q2⟩ := hR.maps i p k es clock e1 e2
      have hp : p ≠ b := fun e => by subst e; rw [hblk0] at q1; cases q1
      exact ⟨es', by rw [hother p hp]; exact q1, q2⟩
  · rw [Tr.get_set] at e2
    by_cases hi : i = r
    · rw [if_pos hi] at e2; cases e2
    · rw [if_neg hi] at e2
      obtain ⟨o2, q1, q2⟩ := hR.objs i p k v e1 e2
      have hp : p ≠ b := fun e => by subst e; rw [hblk0] at q1; cases q1; exact q2.not_cells
      exact ⟨o2, by rw [hother p hp]; exact q1, q2⟩
end Go.Ev
