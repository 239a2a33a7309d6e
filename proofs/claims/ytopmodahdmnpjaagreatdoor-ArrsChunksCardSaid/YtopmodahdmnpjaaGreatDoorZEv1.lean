/- The evaluator of closed calls: its tables, values, heap, operations and machine. -/
import Derived.Below
import Derived.OrdersHeld
namespace Go.Ev

/-- A table of things with numbers. -/
inductive Tr (α : Type) where
  | e
  | n (v : Option α) (l r : Tr α)

/-- The way to a number's place. -/
noncomputable def pathF (f : Nat) : Nat → List Bool :=
  @Nat.rec (fun _ => Nat → List Bool) (fun _ => []) (fun _ ih i => @Nat.rec (fun _ => List Bool) [] (fun k _ => Nat.beq (Nat.mod k 2) 0 :: ih (Nat.div k 2)) i) f
noncomputable def path (i : Nat) : List Bool := pathF (Nat.succ i) i

namespace Tr
variable {α β : Type}
noncomputable def here (t : Tr α) : Option α := @Tr.rec α (fun _ => Option α) none (fun v _ _ _ _ => v) t
noncomputable def sub (t : Tr α) (b : Bool) : Tr α := @Tr.rec α (fun _ => Tr α) .e (fun _ l r _ _ => @Bool.rec (fun _ => Tr α) r l b) t
noncomputable def getP (p : List Bool) : Tr α → Option α := @List.rec Bool (fun _ => Tr α → Option α) here (fun b _ ih t => ih (t.sub b)) p
noncomputable def setP (v : α) (p : List Bool) : Tr α → (Tr α → β) → β :=
  @List.rec Bool (fun _ => Tr α → (Tr α → β) → β)
    (fun t K => @Tr.rec α (fun _ => β) (K (.n (some v) .e .e)) (fun _ l r _ _ => K (.n (some v) l r)) t)
    (fun b _ ih t K => @Tr.rec α (fun _ => β) (@Bool.rec (fun _ => β) (ih .e fun r => K (.n none .e r)) (ih .e fun l => K (.n none l .e)) b)
      (fun x l r _ _ => @Bool.rec (fun _ => β) (ih r fun r' => K (.n x l r')) (ih l fun l' => K (.n x l' r)) b) t) p
noncomputable def get (t : Tr α) (i : Nat) : Option α := getP (path i) t
/-- Set, and go on with the new table. -/
noncomputable def setK (t : Tr α) (i : Nat) (v : α) (K : Tr α → β) : β := setP v (path i) t K
/-- The same, plainly. -/
def setS (v : α) : List Bool → Tr α → Tr α
  | [], .e => .n (some v) .e .e
  | [], .n _ l r => .n (some v) l r
  | true :: p, .e => .n none (setS v p .e) .e
  | false :: p, .e => .n none .e (setS v p .e)
  | true :: p, .n x l r => .n x (setS v p l) r
  | false :: p, .n x l r => .n x l (setS v p r)
theorem setP_eq (v : α) (p : List Bool) : ∀ (t : Tr α) (K : Tr α → β), setP v p t K = K (setS v p t) := by
  induction p with
  | nil => intro t K; cases t <;> rfl
  | cons b p ih => intro t K; cases t <;> cases b <;> exact ih _ _
noncomputable def set (t : Tr α) (i : Nat) (v : α) : Tr α := setS v (path i) t
theorem getP_e (q : List Bool) : getP q (.e : Tr α) = none := by
  induction q with
  | nil => rfl
  | cons _ _ ih => exact ih
theorem getP_setS (v : α) : ∀ (p q : List Bool) (t : Tr α), getP q (setS v p t) = if q = p then some v else getP q t := by
  intro p
  induction p with
  | nil =>
    intro q t
    cases q with
    | nil => cases t <;> rfl
    | cons b q => cases t <;> cases b <;> rfl
  | cons b p ih =>
    intro q t
    cases q with
    | nil => cases t <;> cases b <;> rfl
    | cons c q =>
      cases t with
      | e =>
        cases b <;> cases c
        · show getP q (setS v p .e) = _; rw [ih]; simp; rfl
        · show getP q .e = _; rw [if_neg (by simp)]; rfl
        · show getP q .e = _; rw [if_neg (by simp)]; rfl
        · show getP q (setS v p .e) = _; rw [ih]; simp; rfl
      | n x l r =>
        cases b <;> cases c
        · show getP q (setS v p r) = _; rw [ih]; simp; rfl
        · show getP q l = _; rw [if_neg (by simp)]; rfl
        · show getP q r = _; rw [if_neg (by simp)]; rfl
        · show getP q (setS v p l) = _; rw [ih]; simp; rfl
end Tr

theorem pathF_inj : ∀ (f g i j : Nat), i < f → j < g → pathF f i = pathF g j → i = j := by
  intro f
  induction f with
  | zero => intro g i j h; omega
  | succ f ih =>
    intro g i j hi hj h
    cases g with
    | zero => omega
    | succ g =>
      cases i with
      | zero => cases j with
        | zero => rfl
        | succ j => exact absurd h (by show ([] : List Bool) ≠ _ :: _; simp)
      | succ i => cases j with
        | zero => exact absurd h (by show (_ :: _ : List Bool) ≠ []; simp)
        | succ j =>
          have h' : (Nat.beq (Nat.mod i 2) 0 :: pathF f (Nat.div i 2)) = (Nat.beq (Nat.mod j 2) 0 :: pathF g (Nat.div j 2)) := h
          simp only [List.cons.injEq] at h'
          obtain ⟨h1, h2⟩ := h'
          have h3 : i / 2 = j / 2 := ih g (i / 2) (j / 2) (by omega) (by omega) h2
          have e2 : ∀ a : Nat, Nat.beq (Nat.mod a 2) 0 = (a % 2 == 0) := fun a => by show Nat.beq (a % 2) 0 = _; rw [Bool.eq_iff_iff, Nat.beq_eq]; simp
          have h4 : (i % 2 == 0) = (j % 2 == 0) := by rw [← e2, ← e2]; exact h1
          have h5 : (i % 2 = 0) ↔ (j % 2 = 0) := by
            constructor
            · intro h; have : (j % 2 == 0) = true := by rw [← h4]; simpa using h
              simpa using this
            · intro h; have : (i % 2 == 0) = true := by rw [h4]; simpa using h
              simpa using this
          omega
theorem path_inj {i j : Nat} (h : path i = path j) : i = j := pathF_inj _ _ _ _ (Nat.lt_succ_self i) (Nat.lt_succ_self j) h

namespace Tr
variable {α β : Type}
theorem setK_eq (t : Tr α) (i : Nat) (v : α) (K : Tr α → β) : t.setK i v K = K (t.set i v) := setP_eq v _ t K
theorem get_set (t : Tr α) (i j : Nat) (v : α) : (t.set i v).get j = if j = i then some v else t.get j := by
  show getP _ (setS v _ t) = _
  rw [getP_setS]
  by_cases h : j = i
  · subst h; simp
  · rw [if_neg h, if_neg (fun e => h (path_inj e))]; rfl
theorem get_e (i : Nat) : (.e : Tr α).get i = none := getP_e _
end Tr

/-- A number, worked out. -/
noncomputable def natK {β : Type} (n : Nat) (K : Nat → β) : β := @Nat.rec (fun _ => β) (K 0) (fun m _ => K (Nat.succ m)) n
noncomputable def intK {β : Type} (n : Int) (K : Int → β) : β := @Int.rec (fun _ => β) (fun m => natK m fun m => K (.ofNat m)) (fun m => natK m fun m => K (.negSucc m)) n
/-- A list, its spine worked out. -/
noncomputable def listK {α β : Type} (l : List α) : (List α → β) → β :=
  @List.rec α (fun _ => (List α → β) → β) (fun K => K []) (fun a _ ih K => ih fun l' => K (a :: l')) l
noncomputable def nth {α : Type} (l : List α) : Nat → Option α :=
  @List.rec α (fun _ => Nat → Option α) (fun _ => none) (fun a _ ih i => @Nat.rec (fun _ => Option α) (some a) (fun k _ => ih k) i) l
theorem natK_eq {β : Type} (n : Nat) (K : Nat → β) : natK n K = K n := by cases n <;> rfl
theorem intK_eq {β : Type} (n : Int) (K : Int → β) : intK n K = K n := by
  cases n with
  | ofNat m => cases m <;> rfl
  | negSucc m => cases m <;> rfl
theorem listK_eq {α β : Type} (l : List α) (K : List α → β) : listK l K = K l := by
  induction l generalizing K with
  | nil => rfl
  | cons a l ih => exact ih fun l' => K (a :: l')
theorem nth_eq {α : Type} (l : List α) (i : Nat) : nth l i = l[i]? := by
  induction l generalizing i with
  | nil => rfl
  | cons a l ih => cases i with
    | zero => rfl
    | succ k => exact ih k
end Go.Ev
namespace Go.Ev

inductive V where
  | bool (b : Bool)
  | int (k : IntKind) (n : Int)
  | str (s : List Nat)
  | nilp
  | ptr (id off : Nat)
  | nils
  | sl (id off len esz : Nat) (cap : Option Nat)
  | esl
  | nilm
  | map (id : Nat)
  | fn (f : Fn) (first captured : List V)
  | nilf
  | iface (t : TypeId) (v : V)
  | nili
  | agg (cs : List V)
  | tup (vs : List V)
  | yld (id : Nat)
  deriving Inhabited

/-- A loop over a function: where it stands. -/
inductive LoopSt where
  | ready | busy | done
/-- How a round was left. -/
inductive Jmp where
  | ret
  | exit (id : Nat)
  | goto (l : Nat)

/-- Other things in the heap: a walk over a string, a loop over a function, the rounds' deferred calls. -/
inductive OV where
  | sit (s : List Nat) (pos : Nat)
  | mit (m : Nat) (since : Nat) (seen : List Nat) (last : Nat)
  | mit0
  | loop (s : LoopSt) (p : Option Jmp)
  | dfd
/-- A block: cells (value, tag), how many are known, the last generation, the cells' type where it is known; another name of a block; a map; another thing; one that is not to be looked at. -/
inductive Blk where
  | cells (cs : Tr (V × Nat)) (size last : Nat) (x : Option TypeId)
  | alias (root gen : Nat)
  | map (es : List (V × V × Nat)) (clock : Nat)
  | obj (o : OV)
  | dead

structure St where
  next : Nat
  blks : Tr Blk

/-- What an operation does. -/
inductive Res where
  | val (v : V) (st : St)
  | skip (st : St)
  | enter (f : FuncId) (args : List V) (st : St)
  | defer (f : Fn) (captured args : List V) (st : St)
  | recover (st : St)
  | round (l : Nat) (args : List V) (st : St)

structure Env where
  funcs : Nat → Option Func
  types : Nat → Option (TypeInfo × TypeDesc)
  prims : Nat → List V → Option V
  plainS : Nat → Bool
  memo : Nat → List V → St → Option (V × St)
  ext : Nat → List V → St → Option (V × St)
  lies : TypeId → Nat → TypeId → Bool

/-! images of plain values -/
noncomputable def byteNat (b : UInt8) : Nat := b.toNat
noncomputable def ofV : Nat → Value → Option V
  | 0, _ => none
  | _ + 1, .bool b => some (.bool b)
  | _ + 1, .int k n => intK n fun n => some (.int k n)
  | _ + 1, .string s => listK (s.data.toList.map fun b => b.toNat) fun l => some (.str l)
  | _ + 1, .pointer none => some .nilp
  | _ + 1, .slice none 0 0 => some .nils
  | _ + 1, .map none => some .nilm
  | _ + 1, .nilFunc => some .nilf
  | _ + 1, .nilIface => some .nili
  | f + 1, .func g fs cs => (fs.toList.mapM (ofV f)).bind fun a => (cs.toList.mapM (ofV f)).bind fun b => some (.fn g a b)
  | f + 1, .iface t v => (ofV f v).bind fun x => some (.iface t x)
  | f + 1, .agg cs => (cs.toList.mapM (ofV f)).bind fun a => listK a fun a => some (.agg a)
  | f + 1, .tuple cs => (cs.toList.mapM (ofV f)).bind fun a => listK a fun a => some (.tup a)
  | _ + 1, _ => none

noncomputable def obind {α β : Type} (x : Option α) (f : α → Option β) : Option β := @Option.rec α (fun _ => Option β) none f x

/-! the heap -/
noncomputable def rootOfB (id : Nat) : Blk → Option (Nat × Nat)
  | .cells .. => some (id, 0)
  | .alias r g => some (r, g)
  | _ => none
noncomputable def rootOf (blks : Tr Blk) (id : Nat) : Option (Nat × Nat) := obind (blks.get id) (rootOfB id)

noncomputable def cellIn (g off : Nat) : Blk → Option V
  | .cells cs _ _ _ => obind (cs.get off) fun (v, tag) => cond (Nat.ble tag g) (some v) none
  | _ => none
noncomputable def cellAt (st : St) (id off : Nat) : Option V :=
  match st with
  | ⟨_, blks⟩ => obind (rootOf blks id) fun (r, g) => obind (blks.get r) (cellIn g off)

noncomputable def cellsIn (cs : Tr (V × Nat)) (g : Nat) : (n off : Nat) → Option (List V)
  | 0, _ => some []
  | n + 1, off => obind (cs.get off) fun (v, tag) => cond (Nat.ble tag g) (natK (Nat.succ off) fun o => obind (cellsIn cs g n o) fun l => some (v :: l)) none
noncomputable def cellsInB (g off n : Nat) : Blk → Option (List V)
  | .cells cs _ _ _ => cellsIn cs g n off
  | _ => none
noncomputable def cellsAt (st : St) (id off n : Nat) : Option (List V) :=
  match st with
  | ⟨_, blks⟩ => obind (rootOf blks id) fun (r, g) => obind (blks.get r) (cellsInB g off n)

noncomputable def scal : V → Bool
  | .agg _ => false
  | .tup _ => false
  | _ => true
noncomputable def allScal : List V → Bool
  | [] => true
  | v :: l => cond (scal v) (allScal l) false
noncomputable def setCellsK {β : Type} (g : Nat) : List V → Tr (V × Nat) → Nat → (Tr (V × Nat) → β) → β
  | [], cs, _, K => K cs
  | v :: l, cs, off, K => cs.setK off (v, g) fun cs' => natK (Nat.succ off) fun o => setCellsK g l cs' o K

noncomputable def storeIn (next : Nat) (blks : Tr Blk) (r g off : Nat) (vs : List V) : Blk → Option St
  | .cells cs size last x =>
    cond (cond (Nat.beq last g) (cond (Nat.ble (Nat.add off vs.length) size) (allScal vs) false) false) (setCellsK g vs cs off fun cs' => blks.setK r (.cells cs' size last x) fun b' => some ⟨next, b'⟩) none
  | _ => none
/-- Store values into cells that are there. -/
noncomputable def storeAt (st : St) (id off : Nat) (vs : List V) : Option St :=
  match st with
  | ⟨next, blks⟩ => obind (rootOf blks id) fun (r, g) => obind (blks.get r) (storeIn next blks r g off vs)

/-- A new block. -/
noncomputable def freeK {β : Type} (x : Option β) : Option Blk → Option β
  | none => x
  | some _ => none
noncomputable def newBK {β : Type} (st : St) (b : Blk) (K : Nat → St → Option β) : Option β :=
  match st with
  | ⟨next, blks⟩ => freeK (blks.setK next b fun b' => natK (Nat.succ next) fun nx => K next ⟨nx, b'⟩) (blks.get next)
/-- A new block of cells. -/
noncomputable def newK {β : Type} (x : Option TypeId) (st : St) (vs : List V) (K : Nat → St → Option β) : Option β :=
  setCellsK 0 vs .e 0 fun cs => natK vs.length fun n => newBK st (.cells cs n 0 x) K

noncomputable def operand (tm : Tr V) : Operand → Option V
  | .tmp t => tm.get t
  | .const v => ofV 20 v
  | .global _ => none
  | .func f => some (.fn (.func f) [] [])

noncomputable def operands (tm : Tr V) : List Operand → Option (List V)
  | [] => some []
  | x :: l => obind (operand tm x) fun v => obind (operands tm l) fun vs => some (v :: vs)

noncomputable def undefV : V := .tup []
noncomputable def ret (st : St) (v : V) : Option Res := some (.val v st)
noncomputable def retO (st : St) (v : Option V) : Option Res := obind v fun v => some (.val v st)

/-! pure operations -/
noncomputable def mkB (b : Bool) : Option V := cond b (some (.bool true)) (some (.bool false))
noncomputable def kNum : IntKind → Nat
  | .i8 => 0 | .i16 => 1 | .i32 => 2 | .i64 => 3 | .u8 => 4 | .u16 => 5 | .u32 => 6 | .u64 => 7
noncomputable def kEq (a b : IntKind) : Bool := Nat.beq (kNum a) (kNum b)
/-- The least number that no kind but the small ones turns: numbers below 2^31 in kinds of 32 bits and more. -/
noncomputable def small : IntKind → Nat → Bool
  | .i32, m | .i64, m | .u32, m | .u64, m => Nat.ble m 2147483647
  | .u8, m => Nat.ble m 255
  | _, _ => false
noncomputable def wrapK (k : IntKind) : Int → Option V
  | .ofNat m => cond (small k m) (natK m fun m => some (.int k (.ofNat m))) (intK (k.wrap (.ofNat m)) fun n => some (.int k n))
  | .negSucc m => intK (k.wrap (.negSucc m)) fun n => some (.int k n)
noncomputable def intEq : Int → Int → Bool
  | .ofNat a, .ofNat b => Nat.beq a b
  | .negSucc a, .negSucc b => Nat.beq a b
  | _, _ => false
noncomputable def intLe : Int → Int → Bool
  | .ofNat a, .ofNat b => Nat.ble a b
  | .negSucc a, .negSucc b => Nat.ble b a
  | .negSucc _, .ofNat _ => true
  | .ofNat _, .negSucc _ => false
noncomputable def intAdd : Int → Int → Int
  | .ofNat a, .ofNat b => .ofNat (Nat.add a b)
  | a, b => a + b
noncomputable def intSub : Int → Int → Int
  | .ofNat a, .ofNat b => cond (Nat.ble b a) (.ofNat (Nat.sub a b)) (.negSucc (Nat.pred (Nat.sub b a)))
  | a, b => a - b
noncomputable def ofPure : Sem Value → Option V
  | .pure (.bool b) => mkB b
  | .pure (.int k n) => intK n fun n => some (.int k n)
  | _ => none
noncomputable def intSlow (op : BinOp) (k : IntKind) (a : Int) (k' : IntKind) (b : Int) : Option V := ofPure (binOp op 0 (.int k a) (.int k' b))
noncomputable def intAddV (k : IntKind) (a : Int) (k' : IntKind) (b : Int) : Option V := cond (kEq k k') (wrapK k (intAdd a b)) none
noncomputable def intSubV (k : IntKind) (a : Int) (k' : IntKind) (b : Int) : Option V := cond (kEq k k') (wrapK k (intSub a b)) none
noncomputable def intEqlV (k : IntKind) (a : Int) (k' : IntKind) (b : Int) : Option V := cond (kEq k k') (mkB (intEq a b)) none
noncomputable def intNeqV (k : IntKind) (a : Int) (k' : IntKind) (b : Int) : Option V := cond (kEq k k') (mkB (not (intEq a b))) none
noncomputable def intLssV (k : IntKind) (a : Int) (k' : IntKind) (b : Int) : Option V := cond (kEq k k') (mkB (not (intLe b a))) none
noncomputable def intLeqV (k : IntKind) (a : Int) (k' : IntKind) (b : Int) : Option V := cond (kEq k k') (mkB (intLe a b)) none
noncomputable def intGtrV (k : IntKind) (a : Int) (k' : IntKind) (b : Int) : Option V := cond (kEq k k') (mkB (not (intLe a b))) none
noncomputable def intGeqV (k : IntKind) (a : Int) (k' : IntKind) (b : Int) : Option V := cond (kEq k k') (mkB (intLe b a)) none
noncomputable def intOp : BinOp → IntKind → Int → IntKind → Int → Option V
  | .add => intAddV
  | .sub => intSubV
  | .eql => intEqlV
  | .neq => intNeqV
  | .lss => intLssV
  | .leq => intLeqV
  | .gtr => intGtrV
  | .geq => intGeqV
  | op => intSlow op

noncomputable def strLess : List Nat → List Nat → Bool
  | [], [] => false
  | [], _ :: _ => true
  | _ :: _, [] => false
  | a :: x, b :: y => cond (Nat.beq a b) (strLess x y) (Nat.ble a b)
noncomputable def strEq : List Nat → List Nat → Bool
  | [], [] => true
  | a :: x, b :: y => cond (Nat.beq a b) (strEq x y) false
  | _, _ => false
noncomputable def strAdd (x y : List Nat) : Option V := cond (Nat.ble (Nat.add x.length y.length) 1000000000) (listK (x ++ y) fun l => some (.str l)) none
noncomputable def strOp : BinOp → List Nat → List Nat → Option V
  | .add => strAdd
  | .eql => fun x y => mkB (strEq x y)
  | .neq => fun x y => mkB (not (strEq x y))
  | .lss => fun x y => mkB (strLess x y)
  | .leq => fun x y => mkB (not (strLess y x))
  | .gtr => fun x y => mkB (strLess y x)
  | .geq => fun x y => mkB (not (strLess x y))
  | _ => fun _ _ => none

noncomputable def boolEq : Bool → Bool → Bool
  | true, b => b
  | false, b => not b

noncomputable def eqBool (a : Bool) : V → Option Bool
  | .bool b => some (boolEq a b)
  | _ => none
noncomputable def eqInt (k : IntKind) (a : Int) : V → Option Bool
  | .int k' b => cond (kEq k k') (some (intEq a b)) none
  | _ => none
noncomputable def eqStr (a : List Nat) : V → Option Bool
  | .str b => some (strEq a b)
  | _ => none
noncomputable def isBoolD : TypeDesc → Bool
  | .bool => true
  | _ => false
noncomputable def isIntD : TypeDesc → Bool
  | .int _ => true
  | _ => false
noncomputable def isStrD : TypeDesc → Bool
  | .string => true
  | _ => false
/-- Equality of values at a plain type, by their forms. -/
noncomputable def eqPlain (d : TypeDesc) : V → V → Option Bool
  | .bool a => fun y => cond (isBoolD d) (eqBool a y) none
  | .int k a => fun y => cond (isIntD d) (eqInt k a y) none
  | .str a => fun y => cond (isStrD d) (eqStr a y) none
  | _ => fun _ => none
/-- Equality of two values at a type: plain ones, and nil. -/
noncomputable def eqNil : TypeDesc → V → V → Option Bool
  | .pointer _, .nilp, .nilp => some true
  | .pointer _, .nilp, .ptr _ _ => some false
  | .pointer _, .ptr _ _, .nilp => some false
  | .interface _, .nili, .iface _ _ => some false
  | .interface _, .iface _ _, .nili => some false
  | .slice _, .nils, .nils => some true
  | .slice _, .nils, .sl .. => some false
  | .slice _, .sl .., .nils => some false
  | .slice _, .esl, .nils => some false
  | .slice _, .nils, .esl => some false
  | .map .., .nilm, .nilm => some true
  | .map .., .nilm, .map _ => some false
  | .map .., .map _, .nilm => some false
  | .func .., .nilf, .nilf => some true
  | .func .., .nilf, .fn .. => some false
  | .func .., .fn .., .nilf => some false
  | _, _, _ => none
/-- The types at which plain values are held against each other by their forms. -/
noncomputable def plainD : TypeDesc → Bool
  | .bool | .int _ | .string => true
  | _ => false
noncomputable def eqIface (E : Env) : V → V → Option Bool
  | .iface tx vx, .iface ty vy => cond (Nat.beq tx ty) (obind (E.types tx) fun (i, d) => cond (cond i.comparable (plainD d) false) (eqPlain d vx vy) none) (some false)
  | _, _ => none
/-- Two pointers that are the same. -/
noncomputable def eqPtr (E : Env) (e : TypeId) : V → V → Option Bool
  | .ptr i o, .ptr j p => obind (E.types e) fun _ => cond (Nat.beq i j) (cond (Nat.beq o p) (some true) none) none
  | _, _ => none
noncomputable def eqRest (E : Env) (x y : V) : TypeDesc → Option Bool
  | .interface _ => eqIface E x y
  | .pointer e => eqPtr E e x y
  | _ => none
noncomputable def eqOr (r : Option Bool) : Option Bool → Option Bool
  | some b => some b
  | none => r
noncomputable def eqV (E : Env) (d : TypeDesc) (x y : V) : Option Bool := cond (plainD d) (eqPlain d x y) (eqOr (eqRest E x y d) (eqNil d x y))

/-- Equality of structs whose fields are one cell each, plain ones. -/
noncomputable def eqFields (E : Env) : List Field → List V → List V → Option Bool
  | [], _, _ => some true
  | f :: fs, xs, ys =>
    obind (nth xs f.offset) fun x => obind (nth ys f.offset) fun y => obind (E.types f.type) fun (_, d) =>
    cond (plainD d) (obind (eqPlain d x y) fun b => cond b (eqFields E fs xs ys) (some false)) none

noncomputable def isConst : Operand → Bool
  | .const _ => true
  | _ => false
noncomputable def eqAns : BinOp → Bool → Option V
  | .eql, b => mkB b
  | .neq, b => mkB (not b)
  | _, _ => none
noncomputable def binInt (k : IntKind) (a : Int) : V → Env → BinOp → TypeId → Bool → Option V
  | .int k' b => fun _ op _ _ => intOp op k a k' b
  | _ => fun _ _ _ _ => none
noncomputable def binStr (a : List Nat) : V → Env → BinOp → TypeId → Bool → Option V
  | .str b => fun _ op _ _ => strOp op a b
  | _ => fun _ _ _ _ => none
noncomputable def binElse (x y : V) (E : Env) (op : BinOp) (t : TypeId) : Option V := obind (E.types t) fun (_, d) => obind (eqV E d x y) (eqAns op)
noncomputable def binNilD (op : BinOp) : TypeDesc → Option V
  | .interface _ => eqAns op true
  | _ => none
noncomputable def binNil : V → Env → BinOp → TypeId → Bool → Option V
  | .nili => fun E op t c => cond c (obind (E.types t) fun (_, d) => binNilD op d) none
  | y => fun E op t _ => binElse .nili y E op t
noncomputable def binAggD (xs ys : List V) (E : Env) (op : BinOp) : TypeDesc → Option V
  | .struct fs => obind (eqFields E fs.toList xs ys) (eqAns op)
  | _ => none
noncomputable def binAgg (xs : List V) : V → Env → BinOp → TypeId → Bool → Option V
  | .agg ys => fun E op t _ => cond (E.plainS t) (obind (E.types t) fun (_, d) => binAggD xs ys E op d) none
  | _ => fun _ _ _ _ => none
noncomputable def binV : V → V → Env → BinOp → TypeId → Bool → Option V
  | .int k a => binInt k a
  | .str a => binStr a
  | .nili => binNil
  | .agg xs => binAgg xs
  | x => fun y E op t _ => binElse x y E op t

noncomputable def unV : UnOp → V → Option V
  | .not, .bool b => mkB (not b)
  | op, .int k a => ofPure (Op.unary op (.int k a))
  | _, _ => none

noncomputable def isAggD : TypeDesc → Bool
  | .struct _ | .array _ _ => true
  | _ => false

noncomputable def takeK {β : Type} : (n : Nat) → List V → (List V → β) → β
  | 0, _, K => K []
  | _ + 1, [], K => K []
  | n + 1, a :: l, K => takeK n l fun r => K (a :: r)
noncomputable def dropL {α : Type} : Nat → List α → List α
  | 0, l => l
  | _ + 1, [] => []
  | n + 1, _ :: l => dropL n l

/-- A part of an aggregate. -/
noncomputable def partV (E : Env) (t : TypeId) (cs : List V) (off : Nat) : Option V :=
  obind (E.types t) fun (i, d) => cond (isAggD d) (takeK i.size (dropL off cs) fun l => cond (Nat.beq l.length i.size) (some (.agg l)) none) (nth cs off)

noncomputable def cellsV : V → List V
  | .agg cs => cs
  | v => [v]

noncomputable def zeroV (E : Env) (t : TypeId) : Option V := obind (E.types t) fun (i, _) => obind i.zero (ofV 20)

noncomputable def putK {β : Type} : (off : Nat) → List V → List V → (List V → β) → β
  | _, cells, [], K => K cells
  | 0, _ :: cells, v :: vs, K => putK 0 cells vs fun r => K (v :: r)
  | 0, [], _ :: _, K => K []
  | n + 1, c :: cells, vs, K => putK n cells vs fun r => K (c :: r)
  | _ + 1, [], _, K => K []

noncomputable def fillV (place : Nat → Option (Nat × Nat)) : List (Nat × V) → List V → Option (List V)
  | [], cells => some cells
  | (i, v) :: rest, cells =>
    obind (place i) fun (off, size) =>
      cond (cond (Nat.beq (cellsV v).length size) (Nat.ble (Nat.add off size) cells.length) false) (putK off cells (cellsV v) fun cells' => fillV place rest cells') none

noncomputable def fieldPlaces (E : Env) : List Field → Option (List (Nat × Nat))
  | [] => some []
  | f :: fs => obind (E.types f.type) fun (ti, _) => obind (fieldPlaces E fs) fun l => some ((f.offset, ti.size) :: l)
noncomputable def elemPlace (n i : Nat) : Option (Nat × Nat) := some (Nat.mul i n, n)

noncomputable def parts (tm : Tr V) : List (Nat × Operand) → Option (List (Nat × V))
  | [] => some []
  | (i, x) :: l => obind (operand tm x) fun v => obind (parts tm l) fun vs => some ((i, v) :: vs)

noncomputable def repl : Nat → List V → List V
  | 0, _ => []
  | n + 1, z => z ++ repl n z

/-! slices -/
/-- The bound of a slice expression: what stands for none, the value, the greatest. -/
noncomputable def boundV (d : Nat) (top : Nat) : Option V → Option Nat
  | none => some d
  | some (.int _ (.ofNat m)) => cond (Nat.ble m top) (natK m some) none
  | some _ => none
noncomputable def bounds (len top : Nat) (lo hi : Option V) (K : Nat → Nat → Option V) : Option V :=
  obind (boundV len top hi) fun h => obind (boundV 0 h lo) fun l => K l h

noncomputable def sliceStr (s : List Nat) (lo hi : Option V) : Option V :=
  natK s.length fun len => bounds len len lo hi fun l h => listK ((dropL l s).take (Nat.sub h l)) fun r => some (.str r)
noncomputable def sliceSl (id off len esz : Nat) (lo hi : Option V) : Option Nat → Option V
  | some c => bounds len c lo hi fun l h =>
    natK (cond (Nat.beq c l) off (Nat.add off (Nat.mul l esz))) fun o => natK (Nat.sub h l) fun n => natK (Nat.sub c l) fun c' => some (.sl id o n esz (some c'))
  | none => bounds len len lo hi fun l h =>
    cond (Nat.ble len l) (some .esl) (natK (Nat.add off (Nat.mul l esz)) fun o => natK (Nat.sub h l) fun n => some (.sl id o n esz none))
noncomputable def sliceElem : TypeDesc → Option TypeId
  | .slice e => some e
  | _ => none
/-- The cells of an element of a slice type. -/
noncomputable def elemSz (E : Env) (t : TypeId) : Option Nat := obind (E.types t) fun (_, d) => obind (sliceElem d) fun e => obind (E.types e) fun (ei, _) => some ei.size
noncomputable def isStrT (E : Env) (t : TypeId) : Bool := @Option.rec (TypeInfo × TypeDesc) (fun _ => Bool) false (fun p => isStrD p.2) (E.types t)
/-- An array type: its length, its elements' cells. -/
noncomputable def arrD (E : Env) : TypeDesc → Option (Nat × Nat)
  | .array n elem => obind (E.types elem) fun (ei, _) => some (n, ei.size)
  | _ => none
noncomputable def arrOf (E : Env) (t : TypeId) : Option (Nat × Nat) := obind (E.types t) fun (_, d) => arrD E d
noncomputable def sliceV (E : Env) (t : TypeId) (lo hi : Option V) : V → Option V
  | .str s => cond (isStrT E t) (sliceStr s lo hi) none
  | .sl id off len esz cap => obind (elemSz E t) fun n => cond (Nat.beq n esz) (sliceSl id off len esz lo hi cap) none
  | .nils => obind (elemSz E t) fun _ => bounds 0 0 lo hi fun _ _ => some .nils
  | .esl => obind (elemSz E t) fun _ => bounds 0 0 lo hi fun _ _ => some .esl
  | _ => none
/-- How many cells of a block are known. -/
noncomputable def szIn (g : Nat) : Blk → Option Nat
  | .cells _ size last _ => cond (Nat.beq last g) (some size) none
  | _ => none
noncomputable def szAt (st : St) (id : Nat) : Option Nat :=
  match st with
  | ⟨_, blks⟩ => obind (rootOf blks id) fun (r, g) => obind (blks.get r) (szIn g)
noncomputable def sliceArr (st : St) (lo hi : Option V) (id off : Nat) : Nat × Nat → Option V
  | (n, esz) => obind (szAt st id) fun sz => cond (Nat.ble (Nat.add off (Nat.mul n esz)) sz) (sliceSl id off n esz lo hi (some n)) none

/-- A slice expression with a capacity of its own. -/
noncomputable def capTop (len : Nat) : Option Nat → Nat
  | some c => c
  | none => len
noncomputable def sliceHi (id off len esz : Nat) (lo : Option V) (c : Nat) : Option V → Option V
  | some hi => sliceSl id off len esz lo (some hi) (some c)
  | none => none
noncomputable def sliceMx (E : Env) (t : TypeId) (lo hi : Option V) (mx : V) : V → Option V
  | .sl id off len esz cap => obind (elemSz E t) fun n => cond (Nat.beq n esz) (obind (boundV 0 (capTop len cap) (some mx)) fun c => sliceHi id off len esz lo c hi) none
  | _ => none

noncomputable def optOperand (tm : Tr V) : Option Operand → Option (Option V)
  | none => some none
  | some x => obind (operand tm x) fun v => some (some v)

noncomputable def natOf : V → Option Nat
  | .int _ (.ofNat i) => some i
  | _ => none
noncomputable def idxPtr (E : Env) (t : TypeId) (id off i : Nat) : Option V :=
  obind (E.types t) fun (_, d) => match d with
    | .array n elem => obind (E.types elem) fun (ei, _) => cond (Nat.ble n i) none (natK (Nat.add off (Nat.mul i ei.size)) fun o => some (.ptr id o))
    | _ => none
noncomputable def indexAddrV (E : Env) (t : TypeId) (i : Nat) : V → Option V
  | .sl id off len esz _ => obind (elemSz E t) fun n => cond (Nat.beq n esz) (cond (Nat.ble len i) none (natK (Nat.add off (Nat.mul i esz)) fun o => some (.ptr id o))) none
  | .ptr id off => idxPtr E t id off i
  | _ => none
noncomputable def indexV (E : Env) (t : TypeId) (i : Nat) : V → Option V
  | .str s => cond (isStrT E t) (obind (nth s i) fun b => some (.int .u8 (.ofNat b))) none
  | _ => none

noncomputable def bytesK {β : Type} : List Nat → (List V → β) → β
  | [], K => K []
  | b :: l, K => bytesK l fun vs => K (.int .u8 (.ofNat b) :: vs)
noncomputable def unbytesK {β : Type} : List V → (List Nat → Option β) → Option β
  | [], K => K []
  | .int .u8 (.ofNat n) :: l, K => cond (Nat.ble n 255) (unbytesK l fun s => K (n :: s)) none
  | _, _ => none

/-! append, copy -/
noncomputable def isElS (e t : TypeId) : Option TypeId := cond (Nat.beq t e) (some e) none
/-- The type of a block's cells, if it is this one. -/
noncomputable def isEl (e : TypeId) (x : Option TypeId) : Option TypeId := @Option.rec TypeId (fun _ => Option TypeId) none (isElS e) x
noncomputable def appendOpen (e : TypeId) (st : St) (id len esz : Nat) (vs : List V) (n : Nat) : Option (V × St) :=
  match st with
  | ⟨next, blks⟩ =>
    obind (rootOf blks id) fun (r, g) => obind (blks.get r) fun b => match b with
      | .cells cs size last x =>
        cond (cond (Nat.beq (Nat.mul len esz) size) (cond (Nat.beq last g) (allScal vs) false) false)
          (natK (Nat.succ g) fun g' => setCellsK g' vs cs size fun cs' => natK (Nat.add size vs.length) fun size' =>
            freeK (blks.setK r (.cells cs' size' g' (isEl e x)) fun b1 => b1.setK next (.alias r g') fun b2 => natK (Nat.succ next) fun nx => natK (Nat.add len n) fun m =>
            some (.sl next 0 m esz none, ⟨nx, b2⟩)) (blks.get next)) none
      | _ => none
noncomputable def newSl (e : TypeId) (st : St) (esz n : Nat) (vs : List V) : Option (V × St) := newK (some e) st vs fun id st' => some (.sl id 0 n esz none, st')
/-- Is what is known of the block long enough? -/
noncomputable def appendFits (st : St) (id off len esz n : Nat) : Bool := @Option.rec Nat (fun _ => Bool) false (fun sz => Nat.ble (Nat.add off (Nat.mul (Nat.add len n) esz)) sz) (szAt st id)
noncomputable def appendIn (st : St) (id off len esz n : Nat) (vs : List V) : Option (V × St) :=
  obind (storeAt st id (Nat.add off (Nat.mul len esz)) vs) fun st' => natK (Nat.add len n) fun m => some (.sl id off m esz none, st')
noncomputable def appendSl (e : TypeId) (st : St) (esz : Nat) (vs : List V) (n id off len esz' : Nat) : Option Nat → Option (V × St)
  | some c =>
    cond (Nat.ble (Nat.add len n) c)
      (obind (storeAt st id (Nat.add off (Nat.mul len esz)) vs) fun st' => natK (Nat.add len n) fun m => some (.sl id off m esz' (some c), st'))
      (obind (cellsAt st id off (Nat.mul len esz)) fun old => listK (old ++ vs) fun all => natK (Nat.add len n) fun m => newSl e st esz m all)
  | none => cond (Nat.beq n 0) (some (.sl id off len esz' none, st)) (cond (Nat.beq esz esz') (cond (appendFits st id off len esz n) (appendIn st id off len esz n vs) (cond (Nat.beq off 0) (appendOpen e st id len esz vs n) none)) none)
/-- Append the values of n elements, of esz cells each. -/
noncomputable def appendV (e : TypeId) (st : St) (esz : Nat) (vs : List V) (n : Nat) : V → Option (V × St)
  | .nils => cond (Nat.beq n 0) (some (.nils, st)) (newSl e st esz n vs)
  | .sl id off len esz' cap => cond (Nat.ble (Nat.add len n) 1000000) (appendSl e st esz vs n id off len esz' cap) none
  | _ => none

noncomputable def lenV : V → Option Nat
  | .str s => natK s.length some
  | .nils => some 0
  | .esl => some 0
  | .sl _ _ n _ _ => some n
  | _ => none

/-- The cells that append or copy take out of a slice or a string. -/
noncomputable def takeCells (st : St) (esz n : Nat) : V → Option (List V)
  | .str s => cond (Nat.beq esz 1) (bytesK (s.take n) some) none
  | .nils => some []
  | .esl => some []
  | .sl id off _ _ _ => cellsAt st id off (Nat.mul n esz)
  | _ => none

noncomputable def minmax (mx : Bool) : V → List V → Option V
  | v, [] => some v
  | .int k a, .int k' b :: l => cond (kEq k k') (minmax mx (cond (boolEq mx (intLe a b)) (.int k b) (.int k a)) l) none
  | _, _ => none

/-- The element type of a slice type, with its row. -/
noncomputable def elemRow (E : Env) (t : Option TypeId) (K : TypeId → TypeInfo → Option Res) : Option Res :=
  obind t fun t => obind (E.types t) fun (_, d) => obind (sliceElem d) fun e => obind (E.types e) fun (ei, _) => K e ei
noncomputable def bLenMap (st : St) : Blk → Option Res
  | .map es _ => natK es.length fun n => ret st (.int .i64 (.ofNat n))
  | _ => none
noncomputable def bLenStr (st : St) : V → Option Res
  | .str s => natK s.length fun n => ret st (.int .i64 (.ofNat n))
  | _ => none
noncomputable def bLenSl (st : St) : V → Option Res
  | .nils => ret st (.int .i64 (.ofNat 0))
  | .esl => ret st (.int .i64 (.ofNat 0))
  | .sl _ _ n _ _ => ret st (.int .i64 (.ofNat n))
  | _ => none
noncomputable def bLenM (st : St) : V → Option Res
  | .map id => obind (st.blks.get id) (bLenMap st)
  | .nilm => ret st (.int .i64 (.ofNat 0))
  | _ => none
noncomputable def bLenD (st : St) : TypeDesc → V → Option Res
  | .string => bLenStr st
  | .slice _ => bLenSl st
  | .map .. => bLenM st
  | _ => fun _ => none
noncomputable def typeAt (E : Env) (ats : Array TypeId) (i : Nat) : Option TypeDesc := obind (nth ats.toList i) fun t => obind (E.types t) fun (_, d) => some d
noncomputable def bLen (E : Env) (ats : Array TypeId) (st : St) : List V → Option Res
  | [x] => obind (typeAt E ats 0) fun d => bLenD st d x
  | _ => none
noncomputable def bCapD (st : St) : TypeDesc → V → Option Res
  | .slice _ => fun x => match x with
    | .nils => ret st (.int .i64 (.ofNat 0))
    | .sl _ _ _ _ (some c) => ret st (.int .i64 (.ofNat c))
    | _ => none
  | _ => fun _ => none
noncomputable def bCap (E : Env) (ats : Array TypeId) (st : St) : List V → Option Res
  | [x] => obind (typeAt E ats 0) fun d => bCapD st d x
  | _ => none
noncomputable def notIntD : TypeDesc → Bool
  | .int _ => false
  | _ => true
noncomputable def bAppend (E : Env) (ats : Array TypeId) (st : St) : List V → Option Res
  | [s, x] => elemRow E (nth ats.toList 0) fun e ei => obind (typeAt E ats 1) fun d1 => obind (zeroV E e) fun z =>
    cond (cond (cond (notIntD d1) (Nat.ble ei.bytes 10000) false) (cond (Nat.ble 1 ei.size) (Nat.beq (cellsV z).length ei.size) false) false)
      (obind (lenV x) fun n => cond (Nat.ble n 1000000) (obind (takeCells st ei.size n x) fun vs => obind (appendV e st ei.size vs n s) fun (v, st') => ret st' v) none) none
  | _ => none
noncomputable def bCopyTo (st : St) (q : Nat) (vs : List V) : V → Option Res
  | .sl id off _ _ _ => obind (storeAt st id off vs) fun st' => ret st' (.int .i64 (.ofNat q))
  | .nils => ret st (.int .i64 (.ofNat 0))
  | _ => none
noncomputable def bCopy (E : Env) (ats : Array TypeId) (st : St) : List V → Option Res
  | [d, x] => elemRow E (nth ats.toList 0) fun _ ei => obind (lenV x) fun n => obind (lenV d) fun m =>
    natK (cond (Nat.ble n m) n m) fun q => obind (takeCells st ei.size q x) fun vs => bCopyTo st q vs d
  | _ => none
noncomputable def bClearAt (E : Env) (e : TypeId) (ei : TypeInfo) (st : St) : V → Option Res
  | .sl id off len _ _ => obind (zeroV E e) fun z => cond (Nat.beq (cellsV z).length ei.size) (listK (repl len (cellsV z)) fun zs => obind (storeAt st id off zs) fun st' => ret st' undefV) none
  | _ => none
/-- The elements of a slice are made zero. -/
noncomputable def bClear (E : Env) (ats : Array TypeId) (st : St) : List V → Option Res
  | [s] => elemRow E (nth ats.toList 0) fun e ei => bClearAt E e ei st s
  | _ => none
noncomputable def bMinMax (mx : Bool) (st : St) : List V → Option Res
  | v :: l => retO st (minmax mx v l)
  | [] => none
/-! strings made of bytes in place -/
noncomputable def bSliceData (st : St) : List V → Option Res
  | [.nils] => ret st .nilp
  | [.sl id off len _ cap] => cond (Nat.ble 1 len) (ret st (.ptr id off)) none
  | _ => none
noncomputable def elKill (u : TypeId) (next : Nat) (blks : Tr Blk) (r : Nat) (s : List Nat) : Blk → Option Res
  | .cells _ _ _ (some el) => cond (Nat.beq el u) (blks.setK r .dead fun b => some (.val (.str s) ⟨next, b⟩)) none
  | _ => none
noncomputable def strAt (u : TypeId) (st : St) (id n : Nat) : Option Res :=
  obind (cellsAt st id 0 n) fun cs => unbytesK cs fun s => match st with
    | ⟨next, blks⟩ => obind (rootOf blks id) fun (r, _) => obind (blks.get r) (elKill u next blks r s)
noncomputable def ptrElem : TypeDesc → Option TypeId
  | .pointer e => some e
  | _ => none
/-- The element type of the first of two argument types, a pointer's. -/
noncomputable def firstElem (E : Env) : List TypeId → Option TypeId
  | [pt, _] => obind (E.types pt) fun (_, d) => ptrElem d
  | _ => none
noncomputable def bUString (E : Env) (ats : Array TypeId) (st : St) : List V → Option Res
  | [.nilp, .int .i64 (.ofNat n)] => cond (Nat.beq n 0) (obind (firstElem E ats.toList) fun _ => ret st (.str [])) none
  | [.ptr id off, .int .i64 (.ofNat n)] => cond (cond (cond (Nat.ble 1 n) (Nat.ble n 1000000000) false) (Nat.beq off 0) false)
    (obind (firstElem E ats.toList) fun u => obind (E.types u) fun (ui, _) => cond (Nat.beq ui.size 1) (strAt u st id n) none) none
  | _ => none
noncomputable def builtinV (E : Env) (ats : Array TypeId) (st : St) (args : List V) : Builtin → Option Res
  | .len => bLen E ats st args
  | .cap => bCap E ats st args
  | .append => bAppend E ats st args
  | .copy => bCopy E ats st args
  | .clear => bClear E ats st args
  | .max => bMinMax true st args
  | .min => bMinMax false st args
  | .recover => some (.recover st)
  | .unsafeSliceData => bSliceData st args
  | .unsafeString => bUString E ats st args
  | _ => none

/-! maps: keys are strings, ints, structs of plain fields -/
noncomputable def keyFields (E : Env) (fs : List Field) (xs : List V) : V → Option Bool
  | .agg ys => eqFields E fs xs ys
  | _ => none
noncomputable def keyStruct (E : Env) (fs : List Field) : V → V → Option Bool
  | .agg xs => keyFields E fs xs
  | _ => fun _ => none
/-- Are two keys the same? -/
noncomputable def keyEq (E : Env) : TypeDesc → V → V → Option Bool
  | .struct fs => keyStruct E fs.toList
  | .string => eqPlain .string
  | .int k => eqPlain (.int k)
  | _ => fun _ _ => none
noncomputable def findV (E : Env) (d : TypeDesc) (k : V) : List (V × V × Nat) → Nat → Option (Option (Nat × V))
  | [], _ => some none
  | (k', v, _) :: l, i => obind (keyEq E d k k') fun b => cond b (some (some (i, v))) (findV E d k l (Nat.succ i))
noncomputable def setEntry : List (V × V × Nat) → Nat → V → List (V × V × Nat)
  | [], _, _ => []
  | (k, _, b) :: l, 0, v => (k, v, b) :: l
  | e :: l, i + 1, v => e :: setEntry l i v
noncomputable def isSomeV (x : Option V) : Bool := @Option.rec V (fun _ => Bool) false (fun _ => true) x
noncomputable def plainT (E : Env) (t : TypeId) : Bool := @Option.rec (TypeInfo × TypeDesc) (fun _ => Bool) false (fun p => plainD p.2) (E.types t)
/-- Plain fields, all there. -/
noncomputable def fieldsOk (E : Env) : List Field → List V → Bool
  | [], _ => true
  | f :: fs, xs => cond (plainT E f.type) (cond (isSomeV (nth xs f.offset)) (fieldsOk E fs xs) false) false
noncomputable def aggKey (E : Env) (fs : List Field) : V → Bool
  | .agg xs => fieldsOk E fs xs
  | _ => false
/-- May this be a key? -/
noncomputable def keyOk (E : Env) (t : TypeId) (k : V) : TypeDesc → Bool
  | .string => true
  | .int _ => true
  | .struct fs => cond (E.plainS t) (aggKey E fs.toList k) false
  | _ => false
noncomputable def found (ok : Bool) (z : V) : Option (Nat × V) → Option V
  | some (_, v) => some (cond ok (V.tup [v, .bool true]) v)
  | none => some (cond ok (V.tup [z, .bool false]) z)
noncomputable def lookIn (E : Env) (d : TypeDesc) (ok : Bool) (z k : V) : Blk → Option V
  | .map es _ => obind (findV E d k es 0) (found ok z)
  | _ => none
noncomputable def lookM (E : Env) (d : TypeDesc) (st : St) (ok : Bool) (z k : V) : V → Option V
  | .nilm => found ok z none
  | .map id => obind (st.blks.get id) (lookIn E d ok z k)
  | _ => none
noncomputable def lookupV (E : Env) (t : TypeId) (st : St) (ok : Bool) (m k : V) : Option V :=
  obind (E.types t) fun (_, d) => match d with
    | .map kt et => obind (E.types kt) fun (_, kd) => cond (keyOk E kt k kd) (obind (zeroV E et) fun z => lookM E kd st ok z k m) none
    | _ => none
/-- The same, by their forms: plain values, and structs of such. -/
noncomputable def flatSame : V → V → Bool
  | .bool a, .bool b => boolEq a b
  | .int k a, .int k' b => cond (kEq k k') (intEq a b) false
  | .str a, .str b => strEq a b
  | _, _ => false
noncomputable def flatSames : List V → List V → Bool
  | [], [] => true
  | a :: l, b :: m => cond (flatSame a b) (flatSames l m) false
  | _, _ => false
noncomputable def aggSame (xs : List V) : V → Bool
  | .agg ys => flatSames xs ys
  | _ => false
noncomputable def keySame : V → V → Bool
  | .agg xs => aggSame xs
  | k => flatSame k
noncomputable def entSame (k : V) : Option (V × V × Nat) → Bool
  | some (kk, _, _) => keySame k kk
  | none => false
noncomputable def updIn (E : Env) (d : TypeDesc) (next : Nat) (blks : Tr Blk) (id : Nat) (k v : V) : Blk → Option St
  | .map es clock => obind (findV E d k es 0) fun o => match o with
    | some (i, _) => cond (entSame k (nth es i)) (listK (setEntry es i v) fun es' => blks.setK id (.map es' clock) fun b' => some ⟨next, b'⟩) none
    | none => listK (es ++ [(k, v, clock)]) fun es' => natK (Nat.succ clock) fun c' => blks.setK id (.map es' c') fun b' => some ⟨next, b'⟩
  | _ => none
noncomputable def updM (E : Env) (d : TypeDesc) (st : St) (k v : V) : V → Option St
  | .map id => (match st with | ⟨next, blks⟩ => obind (blks.get id) (updIn E d next blks id k v))
  | _ => none
noncomputable def updateV (E : Env) (t : TypeId) (st : St) (m k v : V) : Option St :=
  obind (E.types t) fun (_, d) => match d with
    | .map kt _ => obind (E.types kt) fun (_, kd) => cond (keyOk E kt k kd) (updM E kd st k v m) none
    | _ => none

/-! methods, assertions, conversions, calls -/
noncomputable def ptrD : TypeDesc → Bool
  | .pointer _ => true
  | _ => false
/-- A method of a dynamic type: only direct ones with the receiver as it is. -/
noncomputable def methodV (E : Env) (t : TypeId) (name : String) : Option FuncId :=
  obind (E.types t) fun (i, d) => obind (i.methods.toList.find? (·.name == name)) fun m =>
    cond m.path.isEmpty (obind m.func fun (f, p) => cond (boolEq (ptrD d) p) (some f) none) none
noncomputable def missing (want : List (String × TypeId)) (got : List Method) : Bool :=
  want.any fun (name, sig) => !got.any fun m => m.name == name && m.sig == sig
noncomputable def hitV (ok : Bool) (v : V) : Option V := some (cond ok (.tup [v, .bool true]) v)
noncomputable def missV (E : Env) (at_ : TypeId) (ok : Bool) : Option V := cond ok (obind (zeroV E at_) fun z => some (.tup [z, .bool false])) none
noncomputable def ifaceD : TypeDesc → Option (Array (String × TypeId))
  | .interface w => some w
  | _ => none
noncomputable def assertI (E : Env) (at_ : TypeId) (ok : Bool) (t : TypeId) (v : V) : Option (Array (String × TypeId)) → Option V
  | some _ => none
  | none => cond (Nat.beq t at_) (hitV ok v) (missV E at_ ok)
noncomputable def assertV (E : Env) (at_ : TypeId) (ok : Bool) (x : V) : Option V :=
  obind (E.types at_) fun (_, d) => match x with
    | .nili => missV E at_ ok
    | .iface t v => assertI E at_ ok t v (ifaceD d)
    | _ => none

noncomputable def isU8 (E : Env) (t : TypeId) : Bool :=
  match E.types t with
  | some (_, .int .u8) => true
  | _ => false
noncomputable def toStr (st : St) : V → Option Res
  | .nils => ret st (.str [])
  | .esl => ret st (.str [])
  | .sl id off len _ _ => obind (cellsAt st id off len) fun cs => unbytesK cs fun s => ret st (.str s)
  | _ => none
noncomputable def convertV (E : Env) (src dst : TypeId) (st : St) (x : V) : Option Res :=
  obind (E.types src) fun (_, ds) => obind (E.types dst) fun (_, dd) =>
    match ds, dd, x with
    | .int _, .int k, .int _ n => retO st (wrapK k n)
    | .string, .string, .str s => ret st (.str s)
    | .string, .slice e, .str s => cond (isU8 E e) (bytesK s fun vs => natK s.length fun n => newK none st vs fun id st' => ret st' (.sl id 0 n 1 none)) none
    | .slice e, .string, x => cond (isU8 E e) (toStr st x) none
    | _, _, _ => none

/-! pointers seen as others -/
noncomputable def elIn (g : Nat) : Blk → Option (TypeId × Nat)
  | .cells _ size last (some el) => cond (Nat.beq last g) (some (el, size)) none
  | _ => none
/-- The type of a block's cells, and how many are known. -/
noncomputable def elAt (st : St) (id : Nat) : Option (TypeId × Nat) :=
  match st with
  | ⟨_, blks⟩ => obind (rootOf blks id) fun (r, g) => obind (blks.get r) (elIn g)
noncomputable def toUns (E : Env) (st : St) (t : TypeId) : V → Option Res
  | .nilp => ret st .nilp
  | .ptr id off => obind (E.types t) fun (ti, _) => cond (Nat.beq ti.size 0) none (obind (cellAt st id off) fun _ => ret st (.ptr id off))
  | _ => none
noncomputable def ofUns (E : Env) (st : St) (u : TypeId) : V → Option Res
  | .nilp => ret st .nilp
  | .ptr id off => obind (E.types u) fun _ => obind (elAt st id) fun (el, size) => obind (E.types el) fun (ei, _) =>
    cond (cond (E.lies el off u) (cond (Nat.ble 1 ei.size) (Nat.ble ei.size size) false) false) (ret st (.ptr id off)) none
  | _ => none
noncomputable def convU (E : Env) (st : St) (v : V) : TypeDesc → TypeDesc → Option Res
  | .pointer t, .unsafePointer => toUns E st t v
  | .unsafePointer, .pointer u => ofUns E st u v
  | _, _ => none
noncomputable def ptrish : TypeDesc → Bool
  | .pointer _ => true
  | .unsafePointer => true
  | _ => false

/-! library functions without a body that turn cells -/
inductive AOp where
  | load | store | cas | add | mark | nothing
noncomputable def isIntV (k : IntKind) (K : Int → Option (V × St)) : V → Option (V × St)
  | .int k' x => cond (kEq k k') (K x) none
  | _ => none
noncomputable def atomLoad (k : IntKind) (st : St) : List V → Option (V × St)
  | [.ptr id off] => obind (cellAt st id off) (isIntV k fun x => some (.int k x, st))
  | _ => none
noncomputable def atomStore (k : IntKind) (st : St) : List V → Option (V × St)
  | [.ptr id off, v] => isIntV k (fun y => obind (storeAt st id off [.int k y]) fun st' => some (.tup [], st')) v
  | _ => none
noncomputable def casK (st : St) (id off : Nat) (v : V) : Bool → Option (V × St)
  | true => obind (storeAt st id off [v]) fun st' => some (.bool true, st')
  | false => none
noncomputable def atomCas (k : IntKind) (st : St) : List V → Option (V × St)
  | [.ptr id off, a, v] => isIntV k (fun a => isIntV k (fun b => obind (cellAt st id off) (isIntV k fun x => casK st id off (.int k b) (intEq x a))) v) a
  | _ => none
noncomputable def addK (st : St) (id off : Nat) (v : V) : Option (V × St) := obind (storeAt st id off [v]) fun st' => some (v, st')
noncomputable def atomAdd (k : IntKind) (st : St) : List V → Option (V × St)
  | [.ptr id off, y] => isIntV k (fun y => obind (cellAt st id off) (isIntV k fun x => obind (wrapK k (intAdd x y)) (addK st id off))) y
  | _ => none
noncomputable def atomMark (st : St) : List V → Option (V × St)
  | [.ptr _ _] => some (.tup [], st)
  | _ => none
/-- internal/bytealg.MakeNoZero: a row of bytes that are not known, of open capacity. -/
noncomputable def mkNoZ (e : TypeId) (st : St) : List V → Option (V × St)
  | [.int .i64 (.ofNat n)] => cond (Nat.ble n 1000000) (newBK st (.cells .e 0 0 (some e)) fun id st' => some (.sl id 0 n 1 none, st')) none
  | _ => none
noncomputable def extV : AOp → IntKind → List V → St → Option (V × St)
  | .load, k => fun args st => atomLoad k st args
  | .store, k => fun args st => atomStore k st args
  | .cas, k => fun args st => atomCas k st args
  | .add, k => fun args st => atomAdd k st args
  | .mark, _ => fun args st => atomMark st args
  | .nothing, _ => fun _ st => some (.tup [], st)

noncomputable def bodyF (E : Env) (f : FuncId) (st : St) (all : List V) : Option Res := obind (E.funcs f) fun fn => cond fn.body.isSome (some (.enter f all st)) none
noncomputable def extF (E : Env) (f : FuncId) (st : St) (all : List V) : Option (V × St) → Option Res
  | some (v, st') => some (.val v st')
  | none => bodyF E f st all
noncomputable def callF (E : Env) (f : FuncId) (st : St) (all : List V) : Option Res :=
  match E.prims f all with
  | some v => some (.val v st)
  | none => extF E f st all (E.ext f all st)
noncomputable def callV (E : Env) (st : St) (args : List V) : V → Option Res
  | .fn (.func g) first captured => listK (first ++ (args ++ captured)) fun all => callF E g st all
  | .yld l => some (.round l args st)
  | _ => none
noncomputable def invokeV (E : Env) (name : String) (st : St) (args : List V) : V → Option Res
  | .iface t v => obind (methodV E t name) fun f => callF E f st (v :: args)
  | _ => none

/-! one operation -/
abbrev Ev := Env → Tr V → St → Option Res
noncomputable def evMove (x : Operand) : Ev := fun _ tm st => retO st (operand tm x)
noncomputable def pickV (a b : V) : V → Option V
  | .bool c => some (cond c a b)
  | _ => none
noncomputable def evPick (c a b : Operand) : Ev := fun _ tm st => obind (operand tm c) fun c => obind (operand tm a) fun a => obind (operand tm b) fun b => retO st (pickV a b c)
noncomputable def newPtr (x : Option TypeId) (st : St) (vs : List V) : Option Res := newK x st vs fun id st' => ret st' (.ptr id 0)
noncomputable def evAlloc (t : TypeId) : Ev := fun E _ st => obind (zeroV E t) fun z => newPtr (some t) st (cellsV z)
noncomputable def evBox (t : TypeId) (x : Operand) : Ev := fun _ tm st => obind (operand tm x) fun z => newPtr (some t) st (cellsV z)
noncomputable def placesOf (E : Env) : TypeDesc → Option (Nat → Option (Nat × Nat))
  | .struct fs => obind (fieldPlaces E fs.toList) fun l => some (nth l)
  | .array _ e => obind (E.types e) fun (ei, _) => some (elemPlace ei.size)
  | _ => none
noncomputable def evBuild (t : TypeId) (ps : Array (Nat × Operand)) : Ev := fun E tm st =>
  obind (zeroV E t) fun z => obind (parts tm ps.toList) fun ps => obind (E.types t) fun (_, d) => obind (placesOf E d) fun pl => obind (fillV pl ps (cellsV z)) fun cs => ret st (.agg cs)
noncomputable def evBuildSlice (t : TypeId) (len : Nat) (ps : Array (Nat × Operand)) : Ev := fun E tm st =>
  obind (parts tm ps.toList) fun ps => obind (E.types t) fun (_, d) => match d with
    | .slice e => obind (E.types e) fun (ei, _) => obind (zeroV E e) fun z =>
      cond (cond (Nat.ble (Nat.mul len ei.size) 16777216) (Nat.beq (cellsV z).length ei.size) false)
        (listK (repl len (cellsV z)) fun zs => obind (fillV (elemPlace ei.size) ps zs) fun cs => newK none st cs fun id st' => ret st' (.sl id 0 len ei.size (some len))) none
    | _ => none
noncomputable def loadV (st : St) (i : TypeInfo) (d : TypeDesc) : V → Option V
  | .ptr id off => cond (isAggD d) (obind (cellsAt st id off i.size) fun cs => some (.agg cs)) (cellAt st id off)
  | _ => none
noncomputable def evLoad (t : TypeId) (a : Operand) : Ev := fun E tm st => obind (operand tm a) fun a => obind (E.types t) fun (i, d) => retO st (loadV st i d a)
noncomputable def storeV (st : St) (n : Nat) (vs : List V) : V → Option Res
  | .ptr id off => cond (Nat.beq vs.length n) (obind (storeAt st id off vs) fun st' => some (.skip st')) none
  | _ => none
noncomputable def evStore (t : TypeId) (a x : Operand) : Ev := fun E tm st => obind (operand tm a) fun a => obind (operand tm x) fun x => obind (E.types t) fun (i, _) => storeV st i.size (cellsV x) a
noncomputable def notNil : V → Option V
  | .ptr id off => some (.ptr id off)
  | .fn (.func f) a b => some (.fn (.func f) a b)
  | .yld l => some (.yld l)
  | .iface t v => some (.iface t v)
  | _ => none
noncomputable def evNilCheck (x : Operand) : Ev := fun _ tm st => obind (operand tm x) fun x => retO st (notNil x)
noncomputable def evBin (op : BinOp) (t : TypeId) (x y : Operand) : Ev := fun E tm st =>
  obind (operand tm x) fun a => obind (operand tm y) fun b => retO st (binV a b E op t (cond (isConst x) true (isConst y)))
noncomputable def evUn (op : UnOp) (x : Operand) : Ev := fun _ tm st => obind (operand tm x) fun a => retO st (unV op a)
noncomputable def evConvert (s d : TypeId) (x : Operand) : Ev := fun E tm st => obind (operand tm x) fun v => obind (E.types s) fun (_, ds) => cond (ptrish ds) (obind (E.types d) fun (_, dd) => convU E st v ds dd) (convertV E s d st v)
noncomputable def evMakeInterface (t : TypeId) (x : Operand) : Ev := fun E tm st => obind (operand tm x) fun v => obind (E.types t) fun (_, d) => match ifaceD d with
  | some _ => none
  | none => ret st (.iface t v)
noncomputable def evMakeFunc (f : Fn) (first captured : Array Operand) : Ev := fun _ tm st => obind (operands tm first.toList) fun a => obind (operands tm captured.toList) fun b => ret st (.fn f a b)
noncomputable def isMapD : TypeDesc → Bool
  | .map .. => true
  | _ => false
noncomputable def hintOk : Option V → Bool
  | none => true
  | some (.int ..) => true
  | _ => false
noncomputable def evMakeMap (t : TypeId) (r : Option Operand) : Ev := fun E tm st => obind (E.types t) fun (_, d) => obind (optOperand tm r) fun h =>
  cond (cond (isMapD d) (hintOk h) false) (newBK st (.map [] 0) fun id st' => ret st' (.map id)) none
noncomputable def evMakeSlice (t : TypeId) (l c : Operand) : Ev := fun E tm st =>
  obind (operand tm l) fun l => obind (natOf l) fun len => obind (operand tm c) fun c => obind (natOf c) fun cap => obind (E.types t) fun (_, d) => match d with
    | .slice e => obind (E.types e) fun (ei, _) => obind (zeroV E e) fun z =>
      cond (cond (Nat.ble len cap) (cond (cond (Nat.ble cap 1000000) (Nat.ble ei.bytes 10000) false) (Nat.beq (cellsV z).length ei.size) false) false)
        (listK (repl cap (cellsV z)) fun zs => newK (some e) st zs fun id st' => ret st' (.sl id 0 len ei.size (some cap))) none
    | _ => none
noncomputable def evSlice0 (t : TypeId) (x : Operand) (lo hi mx : Option Operand) : Ev := fun E tm st =>
  match mx with
  | none => obind (operand tm x) fun v => obind (optOperand tm lo) fun lo => obind (optOperand tm hi) fun hi => retO st (sliceV E t lo hi v)
  | some _ => none
/-- A slice that reaches behind its length, within what is known of its block. -/
noncomputable def sliceOpen (st : St) (id off len esz : Nat) (lo hi : Option V) : Option V :=
  obind (szAt st id) fun sz => natK (Nat.div (Nat.sub sz off) esz) fun top => cond (Nat.ble len top) (bounds len top lo hi fun l h =>
    cond (Nat.ble h l) (some .esl) (natK (Nat.add off (Nat.mul l esz)) fun o => natK (Nat.sub h l) fun n => some (.sl id o n esz none))) none
noncomputable def orO {α : Type} (y : Option α) (x : Option α) : Option α := @Option.rec α (fun _ => Option α) y (fun a => some a) x
/-- Slices, of an array in memory too. -/
noncomputable def sliceAny (E : Env) (st : St) (t : TypeId) (lo hi : Option V) : V → Option V
  | .ptr id off => obind (arrOf E t) (sliceArr st lo hi id off)
  | .sl id off len esz none => obind (elemSz E t) fun n => cond (Nat.beq n esz) (orO (sliceOpen st id off len esz lo hi) (sliceSl id off len esz lo hi none)) none
  | v => sliceV E t lo hi v
noncomputable def evSlice (t : TypeId) (x : Operand) (lo hi mx : Option Operand) : Ev := fun E tm st =>
  match mx with
  | none => obind (operand tm x) fun v => obind (optOperand tm lo) fun lo => obind (optOperand tm hi) fun hi => retO st (sliceAny E st t lo hi v)
  | some m => obind (operand tm x) fun v => obind (optOperand tm lo) fun lo => obind (optOperand tm hi) fun hi => obind (operand tm m) fun mx => retO st (sliceMx E t lo hi mx v)
noncomputable def fieldOf : TypeDesc → Nat → Option Field
  | .struct fs, i => nth fs.toList i
  | _, _ => none
noncomputable def ptrAt (E : Env) (fd : Field) : V → Option V
  | .ptr id off => obind (E.types fd.type) fun (ti, _) => cond (Nat.beq ti.size 0) none (natK (Nat.add off fd.offset) fun o => some (.ptr id o))
  | _ => none
noncomputable def evFieldAddr (s : TypeId) (x : Operand) (f : Nat) : Ev := fun E tm st => obind (operand tm x) fun x => obind (E.types s) fun (_, d) => obind (fieldOf d f) fun fd => retO st (ptrAt E fd x)
noncomputable def aggAt (E : Env) (fd : Field) : V → Option V
  | .agg cs => partV E fd.type cs fd.offset
  | _ => none
noncomputable def evField (t : TypeId) (x : Operand) (f : Nat) : Ev := fun E tm st => obind (operand tm x) fun x => obind (E.types t) fun (_, d) => obind (fieldOf d f) fun fd => retO st (aggAt E fd x)
noncomputable def evIndexAddr (t : TypeId) (x ix : Operand) : Ev := fun E tm st => obind (operand tm x) fun x => obind (operand tm ix) fun ix => obind (natOf ix) fun i => retO st (indexAddrV E t i x)
noncomputable def evIndex (t : TypeId) (x ix : Operand) : Ev := fun E tm st => obind (operand tm x) fun x => obind (operand tm ix) fun ix => obind (natOf ix) fun i => retO st (indexV E t i x)
noncomputable def evLookup (t : TypeId) (m k : Operand) (ok : Bool) : Ev := fun E tm st => obind (operand tm m) fun m => obind (operand tm k) fun k => retO st (lookupV E t st ok m k)
noncomputable def evUpdate (t : TypeId) (m k x : Operand) : Ev := fun E tm st => obind (operand tm m) fun m => obind (operand tm k) fun k => obind (operand tm x) fun x => obind (updateV E t st m k x) fun st' => some (.skip st')
noncomputable def evAssert (x : Operand) (a : TypeId) (ok : Bool) : Ev := fun E tm st => obind (operand tm x) fun x => retO st (assertV E a ok x)
noncomputable def tupAt (i : Nat) : V → Option V
  | .tup vs => nth vs i
  | _ => none
noncomputable def evExtract (t : Operand) (i : Nat) : Ev := fun _ tm st => obind (operand tm t) fun t => retO st (tupAt i t)
noncomputable def evCallee (ats : Array TypeId) (args : List V) : Callee → Ev
  | .builtin b => fun E _ st => builtinV E ats st args b
  | .invoke r name => fun E tm st => obind (operand tm r) fun r => invokeV E name st args r
  | .value f => fun E tm st => obind (operand tm f) fun f => callV E st args f
noncomputable def evCall (c : Call) : Ev := fun E tm st => match c with
  | ⟨callee, as, ats⟩ => obind (operands tm as.toList) fun args => evCallee ats args callee E tm st
noncomputable def deferV (st : St) (args : List V) : V → Option Res
  | .fn f first captured => listK (first ++ args) fun all => some (.defer f captured all st)
  | _ => none
noncomputable def evDeferC (args : List V) : Callee → Ev
  | .value f => fun _ tm st => obind (operand tm f) (deferV st args)
  | _ => fun _ _ _ => none
noncomputable def evDefer (c : Call) : Ev := fun E tm st => match c with
  | ⟨callee, as, _⟩ => obind (operands tm as.toList) fun args => evDeferC args callee E tm st
/-! walks over strings -/
noncomputable def rangeMB (st : St) (m : Nat) : Blk → Option Res
  | .map _ clock => newBK st (.obj (.mit m clock [] clock)) fun id st' => ret st' (.ptr id 0)
  | _ => none
noncomputable def rangeV (st : St) : TypeDesc → V → Option Res
  | .string, .str s => newBK st (.obj (.sit s 0)) fun id st' => ret st' (.ptr id 0)
  | .map _ _, .nilm => newBK st (.obj .mit0) fun id st' => ret st' (.ptr id 0)
  | .map _ _, .map m => obind (st.blks.get m) (rangeMB st m)
  | _, _ => none
noncomputable def evRange (t : TypeId) (x : Operand) : Ev := fun E tm st => obind (operand tm x) fun v => obind (E.types t) fun (_, d) => rangeV st d v
noncomputable def stepS (next : Nat) (blks : Tr Blk) (id : Nat) (s : List Nat) (pos : Nat) : Option Nat → Option Res
  | none => some (.val (.tup [.bool false]) ⟨next, blks⟩)
  | some c => cond (Nat.ble c 127) (natK (Nat.succ pos) fun p => blks.setK id (.obj (.sit s p)) fun b => some (.val (.tup [.bool true, .int .i64 (.ofNat pos), .int .i32 (.ofNat c)]) ⟨next, b⟩)) none
noncomputable def nextO (next : Nat) (blks : Tr Blk) (id : Nat) : OV → Option Res
  | .sit s pos => stepS next blks id s pos (nth s pos)
  | _ => none
noncomputable def nextB (next : Nat) (blks : Tr Blk) (id : Nat) : Blk → Option Res
  | .obj o => nextO next blks id o
  | _ => none
noncomputable def nextV (st : St) : V → Option Res
  | .ptr id off => cond (Nat.beq off 0) (match st with | ⟨next, blks⟩ => obind (blks.get id) (nextB next blks id)) none
  | _ => none
noncomputable def memN (b : Nat) : List Nat → Bool
  | [] => false
  | a :: l => cond (Nat.beq a b) true (memN b l)
/-- The next entry of a map with at most one entry. -/
noncomputable def nextE (next : Nat) (blks : Tr Blk) (id m since : Nat) (seen : List Nat) (last clock : Nat) : List (V × V × Nat) → Option Res
  | [] => some (.val (.tup [.bool false]) ⟨next, blks⟩)
  | [(k, v, b)] => cond (cond (Nat.beq seen.length 0) true (Nat.blt b last))
      (cond (memN b seen) (some (.val (.tup [.bool false]) ⟨next, blks⟩))
        (cond (Nat.blt b since) (blks.setK id (.obj (.mit m since (b :: seen) clock)) fun bl => some (.val (.tup [.bool true, k, v]) ⟨next, bl⟩)) none)) none
  | _ => none
noncomputable def nextMB (next : Nat) (blks : Tr Blk) (id m since : Nat) (seen : List Nat) (last : Nat) : Blk → Option Res
  | .map es clock => nextE next blks id m since seen last clock es
  | _ => none
noncomputable def nextMO (next : Nat) (blks : Tr Blk) (id : Nat) : OV → Option Res
  | .mit m since seen last => obind (blks.get m) (nextMB next blks id m since seen last)
  | .mit0 => some (.val (.tup [.bool false]) ⟨next, blks⟩)
  | _ => none
noncomputable def nextM (next : Nat) (blks : Tr Blk) (id : Nat) : Blk → Option Res
  | .obj o => nextMO next blks id o
  | _ => none
noncomputable def nextMV (st : St) : V → Option Res
  | .ptr id off => cond (Nat.beq off 0) (match st with | ⟨next, blks⟩ => obind (blks.get id) (nextM next blks id)) none
  | _ => none
noncomputable def evNext (it : Operand) (isS : Bool) : Ev := fun _ tm st => cond isS (obind (operand tm it) (nextV st)) (obind (operand tm it) (nextMV st))
/-- The entry that a walk over a map stands at. -/
noncomputable def entE (b : Nat) : List (V × V × Nat) → Option V
  | [] => none
  | (k, v, b') :: l => cond (Nat.beq b' b) (some (.tup [k, v])) (entE b l)
noncomputable def entB (st : St) (last b : Nat) : Blk → Option Res
  | .map es clock => cond (Nat.beq clock last) (obind (entE b es) fun v => ret st v) none
  | _ => none
noncomputable def entO (st : St) : OV → Option Res
  | .mit m _ (b :: _) last => obind (st.blks.get m) (entB st last b)
  | _ => none
noncomputable def entBlk (st : St) : Blk → Option Res
  | .obj o => entO st o
  | _ => none
noncomputable def entV (st : St) : V → Option Res
  | .ptr id off => cond (Nat.beq off 0) (obind (st.blks.get id) (entBlk st)) none
  | _ => none
noncomputable def evEntry (it : Operand) : Ev := fun _ tm st => obind (operand tm it) (entV st)
noncomputable def evNone : Ev := fun _ _ _ => none
noncomputable def evOp : Op → Ev
  | .move x => evMove x
  | .assign x => evMove x
  | .pick c a b => evPick c a b
  | .alloc t => evAlloc t
  | .box t x => evBox t x
  | .build t ps => evBuild t ps
  | .buildSlice t n ps => evBuildSlice t n ps
  | .load t a => evLoad t a
  | .store t a x => evStore t a x
  | .nilCheck x => evNilCheck x
  | .binOp op t x y _ => evBin op t x y
  | .unOp op _ x => evUn op x
  | .convert s d x => evConvert s d x
  | .makeInterface t x => evMakeInterface t x
  | .makeFunc f a b => evMakeFunc f a b
  | .makeMap t r => evMakeMap t r
  | .makeSlice t l c => evMakeSlice t l c
  | .slice t x lo hi mx => evSlice t x lo hi mx
  | .fieldAddr s x f => evFieldAddr s x f
  | .field t x f => evField t x f
  | .indexAddr t x i => evIndexAddr t x i
  | .index t x i => evIndex t x i
  | .typeAssert x _ a ok => evAssert x a ok
  | .extract t i => evExtract t i
  | .call c => evCall c
  | .defer c => evDefer c
  | .range t x => evRange t x
  | .next it isS => evNext it isS
  | .entry it => evEntry it
  | .lookup t m k ok => evLookup t m k ok
  | .mapUpdate t m k x => evUpdate t m k x
  | .insert t m k x => evUpdate t m k x
  | _ => evNone
/-- The same, in a region: slices of arrays in memory are left out. -/
noncomputable def evQ : Op → Ev
  | .slice t x lo hi mx => evSlice0 t x lo hi mx
  | op => evOp op
end Go.Ev
namespace Go.Ev

/-- What is left to do in a frame; 'out': the frame is being left. -/
inductive I where
  | code (c : Code)
  | blk (id : Nat)
  | lp (body : Code)
  | sc (body : Code)
  | ops (all rest : List Oper)
  | out
  | begin
  | inRF (l : Nat) (ps : List Tmp) (as c : Code)

/-- A deferred call, or the place where a loop's rounds keep theirs. -/
inductive Df where
  | call (f : Fn) (captured args : List V)
  | mark (id : Nat)
abbrev Dfs := List Df
structure Fr where
  fn : FuncId
  nt : Nat
  ds : Dfs
  dfr : Bool
  rd : Option Nat
  tm : Tr V
  todo : List I
/-- What stays while a frame runs. -/
structure B where
  fn : FuncId
  nt : Nat
  ds : Dfs
  dfr : Bool
  rd : Option Nat
  cs : List Fr

abbrev R := Option (V × St)
/-- Where it goes on. -/
abbrev Kt := List I → Tr V → St → B → R

noncomputable def setTmK {β : Type} : List V → Tr V → Nat → (Tr V → β) → β
  | [], tm, _, K => K tm
  | v :: l, tm, i, K => tm.setK i v fun tm' => natK (Nat.succ i) fun i' => setTmK l tm' i' K

/-! the operations of a region, one behind the other -/
inductive Out where
  | done (tm : Tr V) (st : St)
  | call (rest : List Oper) (f : FuncId) (args : List V) (tm : Tr V) (st : St)
  | round (rest : List Oper) (l : Nat) (args : List V) (tm : Tr V) (st : St)
  | defer (rest : List Oper) (d : Df) (tm : Tr V) (st : St)
  | stop

noncomputable def finK {β : Type} (no : β) (nt : Nat) (tm : Tr V) (v : V) (K : Tr V → β) : Option Tmp → β
  | some d => cond (Nat.ble nt d) no (tm.setK d v K)
  | none => K tm
noncomputable def asYield (want : Bool) : V → Bool
  | .bool b => boolEq b want
  | _ => false
noncomputable def guardD (tm : Tr V) (want : Bool) : Option Tmp → Option Bool
  | some d => obind (tm.get d) fun v => some (asYield want v)
  | none => some false
noncomputable def guardO (tm : Tr V) (want : Bool) : Option Oper → Option Bool
  | some o => guardD tm want o.dst
  | none => some false
noncomputable def guardV (all : List Oper) (tm : Tr V) : Nat × Bool → Option Bool
  | (j, want) => guardO tm want (nth all j)

abbrev OpsF := List Oper → Nat → Bool → Tr V → St → Out
/-- How the rest goes on: all, nt, dfr, tm, st. -/
noncomputable def resO (o : Oper) (rest : List Oper) (K : OpsF) : Res → List Oper → Nat → Bool → Tr V → Out
  | .val v st' => fun all nt dfr tm => finK .stop nt tm v (fun tm' => K all nt dfr tm' st') o.dst
  | .skip st' => fun all nt dfr tm => finK .stop nt tm undefV (fun tm' => K all nt dfr tm' st') o.dst
  | .recover st' => fun all nt dfr tm => cond dfr (finK .stop nt tm .nili (fun tm' => K all nt dfr tm' st') o.dst) .stop
  | .enter f args st' => fun _ _ _ tm => .call (o :: rest) f args tm st'
  | .defer f captured args st' => fun _ nt _ tm => finK .stop nt tm undefV (fun tm' => .defer rest (.call f captured args) tm' st') o.dst
  | .round l args st' => fun _ _ _ tm => .round (o :: rest) l args tm st'
noncomputable def optOut {α : Type} (x : Option α) (f : α → Out) : Out := @Option.rec α (fun _ => Out) .stop f x
noncomputable def goOp (E : Env) (o : Oper) (rest : List Oper) (K : OpsF) : OpsF := fun all nt dfr tm st => optOut (evOp o.op E tm st) fun r => resO o rest K r all nt dfr tm
noncomputable def guarded (E : Env) (o : Oper) (rest : List Oper) (K : OpsF) : Option (Nat × Bool) → OpsF
  | none => goOp E o rest K
  | some g => fun all nt dfr tm st => optOut (guardV all tm g) fun w => cond w (goOp E o rest K all nt dfr tm st) (finK .stop nt tm undefV (fun tm' => K all nt dfr tm' st) o.dst)
noncomputable def opsRun (E : Env) (l : List Oper) : OpsF :=
  @List.rec Oper (fun _ => OpsF) (fun _ _ _ tm st => .done tm st) (fun o rest ih => guarded E o rest ih o.guard) l

/-! the frame -/
noncomputable def loadRes (E : Env) (st : St) (t : TypeId) (v : V) : Option V := obind (E.types t) fun (i, d) => loadV st i d v
noncomputable def resultV (E : Env) (st : St) (tm : Tr V) : ResultVar → Option V
  | .tmp t => tm.get t
  | .cell a t => obind (tm.get a) (loadRes E st t)
noncomputable def resultsV (E : Env) (st : St) (tm : Tr V) : List ResultVar → Option (List V)
  | [] => some []
  | r :: l => obind (resultV E st tm r) fun v => obind (resultsV E st tm l) fun vs => some (v :: vs)
noncomputable def oneV : List V → V
  | [v] => v
  | vs => .tup vs

noncomputable def exitV (id : Nat) : List I → Option (List I)
  | .blk id' :: k => cond (Nat.beq id' id) (some k) (exitV id k)
  | _ :: k => exitV id k
  | [] => none
noncomputable def gotoV (l : Nat) : List I → Option (List I)
  | .sc body :: k => (match findLabel body l with
    | some rest => some (.code rest :: .sc body :: k)
    | none => gotoV l k)
  | _ :: k => gotoV l k
  | [] => none

noncomputable def enterF (f : FuncId) (args : List V) (dfr : Bool) (st : St) (cs : List Fr) (K : Kt) (fn : Func) : R :=
  obind fn.body fun body => natK (cond (Nat.ble args.length fn.ntmps) fn.ntmps args.length) fun nt => setTmK args .e 0 fun tm => K [.code body] tm st ⟨f, nt, [], dfr, none, cs⟩
noncomputable def enterK (E : Env) (f : FuncId) (args : List V) (dfr : Bool) (st : St) (cs : List Fr) (K : Kt) : R := obind (E.funcs f) (enterF f args dfr st cs K)

/-! regions that draw their order -/
/-- Are two values the same? (Deep ones: no.) -/
noncomputable def sameV : Nat → V → V → Bool
  | 0, _, _ => false
  | _ + 1, .bool a, .bool b => boolEq a b
  | _ + 1, .int k a, .int k' b => cond (kEq k k') (intEq a b) false
  | _ + 1, .str a, .str b => strEq a b
  | _ + 1, .nilp, .nilp => true
  | _ + 1, .ptr a b, .ptr c d => cond (Nat.beq a c) (Nat.beq b d) false
  | _ + 1, .nils, .nils => true
  | _ + 1, .sl a b c d none, .sl a' b' c' d' none => cond (Nat.beq a a') (cond (Nat.beq b b') (cond (Nat.beq c c') (Nat.beq d d') false) false) false
  | _ + 1, .sl a b c d (some e), .sl a' b' c' d' (some e') => cond (Nat.beq a a') (cond (Nat.beq b b') (cond (Nat.beq c c') (cond (Nat.beq d d') (Nat.beq e e') false) false) false) false
  | _ + 1, .nilm, .nilm => true
  | _ + 1, .map a, .map b => Nat.beq a b
  | f + 1, .fn (.func g) a b, .fn (.func g') a' b' => cond (Nat.beq g g') (cond (sameL f a a') (sameL f b b') false) false
  | _ + 1, .nilf, .nilf => true
  | f + 1, .iface t a, .iface u b => cond (Nat.beq t u) (sameV f a b) false
  | _ + 1, .nili, .nili => true
  | _ + 1, .yld a, .yld b => Nat.beq a b
  | f + 1, .agg a, .agg b => sameL f a b
  | f + 1, .tup a, .tup b => sameL f a b
  | _, _, _ => false
where
  sameL (f : Nat) : List V → List V → Bool
    | [], [] => true
    | a :: l, b :: m => cond (sameV f a b) (sameL f l m) false
    | _, _ => false
/-- Are two values one and the same? (Empty slices that lie nowhere too.) -/
noncomputable def twinV : Nat → V → V → Bool
  | 0, _, _ => false
  | _ + 1, .esl, .esl => true
  | f + 1, .iface t a, .iface u b => cond (Nat.beq t u) (twinV f a b) false
  | f + 1, .agg a, .agg b => twinL f a b
  | f + 1, .tup a, .tup b => twinL f a b
  | f + 1, a, b => sameV (Nat.succ f) a b
where
  twinL (f : Nat) : List V → List V → Bool
    | [], [] => true
    | a :: l, b :: m => cond (twinV f a b) (twinL f l m) false
    | _, _ => false
noncomputable def sameCell : V × Nat → V × Nat → Bool
  | (a, s), (b, t) => cond (Nat.beq s t) (twinV 20 a b) false
noncomputable def sameTr {α : Type} (f : α → α → Bool) : Tr α → Tr α → Bool
  | .e, .e => true
  | .n none l r, .n none l' r' => cond (sameTr f l l') (sameTr f r r') false
  | .n (some a) l r, .n (some b) l' r' => cond (f a b) (cond (sameTr f l l') (sameTr f r r') false) false
  | _, _ => false
noncomputable def sameEs : List (V × V × Nat) → List (V × V × Nat) → Bool
  | [], [] => true
  | (a, b, n) :: l, (c, d, m) :: k => cond (twinV 20 a c) (cond (twinV 20 b d) (cond (Nat.beq n m) (sameEs l k) false) false) false
  | _, _ => false
noncomputable def sameLS : LoopSt → LoopSt → Bool
  | .ready, .ready => true
  | .busy, .busy => true
  | .done, .done => true
  | _, _ => false
noncomputable def sameJ : Option Jmp → Option Jmp → Bool
  | none, none => true
  | some .ret, some .ret => true
  | some (.exit a), some (.exit b) => Nat.beq a b
  | some (.goto a), some (.goto b) => Nat.beq a b
  | _, _ => false
noncomputable def sameOV : OV → OV → Bool
  | .sit s p, .sit t q => cond (Nat.beq p q) (strEq s t) false
  | .loop s p, .loop t q => cond (sameLS s t) (sameJ p q) false
  | .dfd, .dfd => true
  | .mit a b l c, .mit a' b' l' c' => cond (Nat.beq a a') (cond (Nat.beq b b') (cond (strEq l l') (Nat.beq c c') false) false) false
  | .mit0, .mit0 => true
  | _, _ => false
noncomputable def sameO : Option TypeId → Option TypeId → Bool
  | none, none => true
  | some a, some b => Nat.beq a b
  | _, _ => false
noncomputable def sameBlk : Blk → Blk → Bool
  | .cells cs a b x, .cells ds c d y => cond (Nat.beq a c) (cond (Nat.beq b d) (cond (sameO x y) (sameTr sameCell cs ds) false) false) false
  | .dead, .dead => true
  | .alias a b, .alias c d => cond (Nat.beq a c) (Nat.beq b d) false
  | .map es c, .map fs d => cond (Nat.beq c d) (sameEs es fs) false
  | .obj a, .obj b => sameOV a b
  | _, _ => false
noncomputable def sameRes : Tr V × St → Tr V × St → Bool
  | (tm, ⟨n, b⟩), (tm', ⟨n', b'⟩) => cond (Nat.beq n n') (cond (sameTr (twinV 20) tm tm') (sameTr sameBlk b b') false) false

/-- A load that must not be turned while the region runs. -/
structure Held where
  idx : Nat
  i : TypeInfo
  d : TypeDesc
  a : V
  v : V
inductive Kind where
  | quiet (v : V)
  | held (h : Held)
  | strict
/-- Operations that only reckon. -/
noncomputable def quietOp : Op → Bool
  | .move _ | .pick .. | .build .. | .nilCheck _ | .binOp .. | .unOp .. | .makeInterface .. | .makeFunc .. | .slice .. | .fieldAddr .. | .field .. | .indexAddr .. | .index .. | .typeAssert .. | .extract .. => true
  | _ => false
noncomputable def isSliceOp : Op → Bool
  | .slice .. => true
  | .move _ => true
  | _ => false
noncomputable def quietRes : Res → Option Kind
  | .val v _ => some (.quiet v)
  | _ => none
noncomputable def kindOp (E : Env) (tm : Tr V) (st : St) (idx : Nat) : Op → Option Kind
  | .load t a => obind (operand tm a) fun a => obind (E.types t) fun (i, d) => obind (loadV st i d a) fun v => some (.held ⟨idx, i, d, a, v⟩)
  | op => cond (quietOp op) (obind (evQ op E tm st) quietRes) (some .strict)
noncomputable def guardNow (all : List Oper) (tm : Tr V) : Option (Nat × Bool) → Option Bool
  | none => some true
  | some g => guardV all tm g
noncomputable def kindOf (E : Env) (all : List Oper) (tm : Tr V) (st : St) (idx : Nat) (o : Oper) : Option Kind :=
  obind (guardNow all tm o.guard) fun w => cond w (kindOp E tm st idx o.op) (some (.quiet undefV))
/-- Does an operation wait for number i? -/
noncomputable def waitsOn (i : Nat) (after : List Edge) : Bool := after.any fun e => cond (Region.binds .any e) (Nat.beq e.on i) false
noncomputable def heldOne (st : St) (h : Held) : Bool := @Option.rec V (fun _ => Bool) false (fun v => sameV 20 v h.v) (loadV st h.i h.d h.a)
/-- The held loads are as they were, but for those that the operation waits for. -/
noncomputable def heldOk (st : St) (o : Oper) : List Held → Bool
  | [] => true
  | h :: l => cond (cond (cond o.guard.isNone (waitsOn h.idx o.after.toList) false) true (heldOne st h)) (heldOk st o l) false
inductive Found where
  | all
  | one (i : Nat) (o : Oper) (k : Kind)
noncomputable def isStrict : Kind → Bool
  | .strict => true
  | _ => false
noncomputable def firstQ (E : Env) (all : List Oper) (tm : Tr V) (st : St) : List Nat → Option Found
  | [] => some .all
  | i :: l => obind (nth all i) fun o => obind (kindOf E all tm st i o) fun k => cond (isStrict k) (firstQ E all tm st l) (some (.one i o k))
abbrev Nest := FuncId → List V → St → R
noncomputable def strictRes (nest : Nest) (next : Nat) : Res → Option (V × St)
  | .val v ⟨_, b⟩ => some (v, ⟨next, b⟩)
  | .skip ⟨_, b⟩ => some (undefV, ⟨next, b⟩)
  | .enter f args ⟨_, b⟩ => nest f args ⟨next, b⟩
  | _ => none
/-- An operation that is carried out: what it lays has the number that was set aside. -/
noncomputable def strictOp (E : Env) (nest : Nest) (id : Nat) (tm : Tr V) (st : St) (op : Op) : Option (V × St) :=
  match st with
  | ⟨next, blks⟩ => obind (evOp op E tm ⟨id, blks⟩) (strictRes nest next)
abbrev DrawK := Array Bool → List Held → Tr V → St → Option (Tr V × St)
/-- A row of marks, worked out (so that the same marks are the same text, in whatever order they were laid). -/
noncomputable def boolsK {β : Type} : List Bool → (List Bool → β) → β
  | [], K => K []
  | true :: l, K => boolsK l fun l' => K (true :: l')
  | false :: l, K => boolsK l fun l' => K (false :: l')
noncomputable def boolsA {β : Type} (a : Array Bool) (K : Array Bool → β) : β := boolsK a.toList fun l => K (Array.mk l)
noncomputable def strictAt (E : Env) (nest : Nest) (all : List Oper) (nt base : Nat) (listed : Array Bool) (hs : List Held) (tm : Tr V) (st : St) (K : DrawK) (i : Nat) : Option (Tr V × St) :=
  obind (nth all i) fun o => obind (strictOp E nest (Nat.add base i) tm st o.op) fun (v, st') =>
    cond (heldOk st' o hs) (finK none nt tm v (fun tm' => boolsA (listed.setIfInBounds i true) fun ls => K ls hs tm' st') o.dst) none
noncomputable def allSame (r : Tr V × St) (f : Nat → Option (Tr V × St)) : List Nat → Bool
  | [] => true
  | i :: l => cond (@Option.rec (Tr V × St) (fun _ => Bool) false (sameRes r) (f i)) (allSame r f l) false
noncomputable def strictAll (f : Nat → Option (Tr V × St)) : List Nat → Option (Tr V × St)
  | [] => none
  | i :: l => obind (f i) fun r => cond (allSame r f l) (some r) none
noncomputable def drawK (E : Env) (nest : Nest) (ops : Array Oper) (all : List Oper) (nt base : Nat) (listed : Array Bool) (hs : List Held) (tm : Tr V) (st : St) (K : DrawK) (rs : List Nat) : Found → Option (Tr V × St)
  | .one i o (.quiet v) => cond (cond (Region.free .any ops listed i) (cond (isSliceOp o.op) true (sameV 20 v v)) false) (finK none nt tm v (fun tm' => boolsA (listed.setIfInBounds i true) fun ls => K ls hs tm' st) o.dst) none
  | .one i o (.held h) => cond (cond (Region.free .any ops listed i) (sameV 20 h.v h.v) false) (finK none nt tm h.v (fun tm' => boolsA (listed.setIfInBounds i true) fun ls => K ls (h :: hs) tm' st) o.dst) none
  | .one _ _ .strict => none
  | .all => strictAll (strictAt E nest all nt base listed hs tm st K) rs
noncomputable def drawR (E : Env) (nest : Nest) (ops : Array Oper) (all : List Oper) (nt base : Nat) (listed : Array Bool) (hs : List Held) (tm : Tr V) (st : St) (K : DrawK) : List Nat → Option (Tr V × St)
  | [] => some (tm, st)
  | i :: l => obind (firstQ E all tm st (i :: l)) (drawK E nest ops all nt base listed hs tm st K (i :: l))
noncomputable def drawF (E : Env) (nest : Nest) (ops : Array Oper) (all : List Oper) (nt base : Nat) (n : Nat) : DrawK :=
  @Nat.rec (fun _ => DrawK) (fun listed _ tm st => @List.rec Nat (fun _ => Option (Tr V × St)) (some (tm, st)) (fun _ _ _ => none) (Region.ready .any ops listed))
    (fun _ ih listed hs tm st => drawR E nest ops all nt base listed hs tm st ih (Region.ready .any ops listed)) n

/-- What is done with an item: the rest, the temporaries, the heap, the frame, where it goes on. -/
abbrev Sf := Env → List I → Tr V → St → B → Kt → R
noncomputable def goTo (f : List I → List I) : Sf := fun _ k tm st b K => K (f k) tm st b
noncomputable def noGo : Sf := fun _ _ _ _ _ _ => none
noncomputable def condV (a b : Code) : V → Sf
  | .bool c => goTo fun k => .code (cond c a b) :: k
  | _ => noGo
noncomputable def condI (c : Operand) (x y : Code) : Sf := fun E k tm st b K => obind (operand tm c) fun v => condV x y v E k tm st b K
noncomputable def isDefer (o : Oper) : Bool :=
  match o.op with
  | .defer _ => true
  | _ => false
/-- In a round nothing is deferred. -/
noncomputable def roundOk (rd : Option Nat) (ops : Array Oper) : Bool := @Option.rec Nat (fun _ => Bool) true (fun _ => ops.all fun o => not (isDefer o)) rd
/-- A call in a region that draws: known, or run. -/
noncomputable def nestK (E : Env) (K : Kt) : Nest := fun f args st => @Option.rec (V × St) (fun _ => R) (enterK E f args false st [] K) (fun p => some p) (E.memo f args st)
noncomputable def drawI (ops : Array Oper) : Sf := fun E k tm st b K => match b with
  | ⟨fn, nt, ds, dfr, rd, cs⟩ => match st with
    | ⟨next, blks⟩ => cond (cond (Region.noSelect ops) (roundOk rd ops) false)
      (natK (Nat.add next ops.size) fun nx => obind (drawF E (nestK E K) ops ops.toList nt next ops.size (Array.replicate ops.size false) [] tm ⟨nx, blks⟩) fun (tm', st') => K k tm' st' ⟨fn, nt, ds, dfr, rd, cs⟩) none
/-- A call, or a round, has given a value to a frame. -/
noncomputable def backO (all : List Oper) (k : List I) (v : V) (fn nt : Nat) (ds : Dfs) (dfr : Bool) (rd : Option Nat) (tm : Tr V) (st : St) (cs : List Fr) (K : Kt) : List Oper → R
  | o :: rest => finK none nt tm v (fun tm' => K (.ops all rest :: k) tm' st ⟨fn, nt, ds, dfr, rd, cs⟩) o.dst
  | [] => none
/-! loops over functions -/
noncomputable def jmpCode : Jmp → Code
  | .ret => .ret
  | .exit id => .exit id
  | .goto l => .goto l
/-- The record of a loop. -/
noncomputable def loopB (f : LoopSt → Option Jmp → R) : Blk → R
  | .obj (.loop s p) => f s p
  | _ => none
noncomputable def loopAt (st : St) (l : Nat) (f : LoopSt → Option Jmp → R) : R := obind (st.blks.get l) (loopB f)
noncomputable def setBlkK (st : St) (l : Nat) (b : Blk) (K : St → R) : R := match st with | ⟨nx, blks⟩ => blks.setK l b fun b' => K ⟨nx, b'⟩
/-- A round is left: the frame that has called for it goes on. -/
noncomputable def backR (v : V) (st : St) (K : Kt) (fn nt : Nat) (ds : Dfs) (dfr : Bool) (rd : Option Nat) (tm : Tr V) (cs : List Fr) : List I → R
  | .ops all l :: k => backO all k v fn nt ds dfr rd tm st cs K l
  | _ => none
noncomputable def backC (v : V) (st : St) (K : Kt) : List Fr → R
  | ⟨fn, nt, ds, dfr, rd, tm, todo⟩ :: cs => backR v st K fn nt ds dfr rd tm cs todo
  | [] => none
noncomputable def jSt : Option Jmp → LoopSt
  | none => .ready
  | some _ => .done
noncomputable def jGo : Option Jmp → V
  | none => .bool true
  | some _ => .bool false
noncomputable def leaveR (l : Nat) (j : Option Jmp) (st : St) (cs : List Fr) (K : Kt) : R := loopAt st l fun _ _ => setBlkK st l (.obj (.loop (jSt j) j)) fun st' => backC (jGo j) st' K cs
noncomputable def leaveO (j : Jmp) (b : B) (st : St) (K : Kt) : R := match b with
  | ⟨_, _, _, _, rd, cs⟩ => @Option.rec Nat (fun _ => R) none (fun l => leaveR l (some j) st cs K) rd
noncomputable def goO (j : Jmp) (f : List I → Option (List I)) : Sf := fun _ k tm st b K => @Option.rec (List I) (fun _ => R) (leaveO j b st K) (fun k' => K k' tm st b) (f k)
noncomputable def retK (tm : Tr V) (st : St) (b : B) (K : Kt) (rd : Option Nat) : R := @Option.rec Nat (fun _ => R) (K [.out] tm st b) (fun _ => leaveO .ret b st K) rd
noncomputable def retR : Sf := fun _ _ tm st b K => match b with
  | ⟨fn, nt, ds, dfr, rd, cs⟩ => retK tm st ⟨fn, nt, ds, dfr, rd, cs⟩ K rd
noncomputable def beginK (k : List I) (tm : Tr V) (st : St) (b : B) (K : Kt) (l : Nat) (p : Option Jmp) : LoopSt → R
  | .ready => setBlkK st l (.obj (.loop .busy p)) fun st' => K k tm st' b
  | _ => none
noncomputable def beginR : Sf := fun _ k tm st b K => match b with
  | ⟨fn, nt, ds, dfr, rd, cs⟩ => @Option.rec Nat (fun _ => R) none (fun l => loopAt st l fun s p => beginK k tm st ⟨fn, nt, ds, dfr, rd, cs⟩ K l p s) rd
noncomputable def putPs {β : Type} (nt : Nat) (K : Tr V → Option β) : List Tmp → List V → Tr V → Option β
  | [], [], tm => K tm
  | t :: ps, v :: vs, tm => cond (Nat.ble nt t) none (tm.setK t v fun tm' => putPs nt K ps vs tm')
  | _, _, _ => none
/-- The frame that goes round in loop l. -/
noncomputable def findRF (l : Nat) (f : FuncId → Nat → Tr V → List Tmp → Code → Code → R) : List Fr → R
  | ⟨fn, nt, _, _, _, tm, .inRF l' ps a c :: _⟩ :: cs => cond (Nat.beq l l') (f fn nt tm ps a c) (findRF l f cs)
  | _ :: cs => findRF l f cs
  | [] => none
noncomputable def roundK (l : Nat) (args : List V) (st : St) (cs : List Fr) (K : Kt) : R :=
  findRF l (fun fn nt tm ps a c => putPs nt (fun tm' => K [.code a, .begin, .code c] tm' st ⟨fn, nt, [], false, some l, cs⟩) ps args tm) cs
/-- The block for the rounds' deferred calls. -/
noncomputable def markK (st : St) (ds : Dfs) (K : Dfs → St → R) (rd : Option Nat) : R := @Option.rec Nat (fun _ => R) (newBK st (.obj .dfd) fun id st' => K (.mark id :: ds) st') (fun l => loopAt st l fun _ _ => K ds st) rd
noncomputable def rangeFV (E : Env) (ps : Array Tmp) (a c : Code) (k : List I) (tm : Tr V) (st : St) (K : Kt) (fn nt : Nat) (ds : Dfs) (dfr : Bool) (rd : Option Nat) (cs : List Fr) : V → R
  | .fn (.func g) first captured => markK st ds (fun ds' st1 => newBK st1 (.obj (.loop .ready none)) fun l st2 =>
      listK (first ++ (.yld l :: captured)) fun all => enterK E g all false st2 (⟨fn, nt, ds', dfr, rd, tm, .inRF l ps.toList a c :: k⟩ :: cs) K) rd
  | _ => none
noncomputable def rangeF (f : Operand) (ps : Array Tmp) (a c : Code) : Sf := fun E k tm st b K => match b with
  | ⟨fn, nt, ds, dfr, rd, cs⟩ => obind (operand tm f) (rangeFV E ps a c k tm st K fn nt ds dfr rd cs)
/-- The function that was gone over has ended. -/
noncomputable def endP (k : List I) : Option Jmp → List I
  | none => k
  | some j => .code (jmpCode j) :: k
noncomputable def endS (k : List I) (tm : Tr V) (st : St) (b : B) (K : Kt) (l : Nat) (p : Option Jmp) : LoopSt → R
  | .busy => none
  | _ => setBlkK st l .dead fun st' => K (endP k p) tm st' b
noncomputable def endRF (l : Nat) (k : List I) (tm : Tr V) (st : St) (b : B) (K : Kt) : R := loopAt st l fun s p => endS k tm st b K l p s
noncomputable def stepC : Code → Sf
  | .skip => goTo fun k => k
  | .label _ => goTo fun k => k
  | .seq a b => goTo fun k => .code a :: .code b :: k
  | .cond c a b => condI c a b
  | .block id body => goTo fun k => .code body :: .blk id :: k
  | .loop body => goTo fun k => .code body :: .lp body :: k
  | .scope body => goTo fun k => .code body :: .sc body :: k
  | .exit id => goO (.exit id) (exitV id)
  | .goto l => goO (.goto l) (gotoV l)
  | .ret => retR
  | .rangeFunc f ps a c => rangeF f ps a c
  | .region _ ops draw => cond draw (drawI ops) (goTo fun k => .ops ops.toList ops.toList :: k)
  | _ => noGo
noncomputable def deferK (all : List Oper) (k : List I) (K : Kt) (fn nt : Nat) (ds : Dfs) (dfr : Bool) (cs : List Fr) (rest : List Oper) (d : Df) (tm : Tr V) (st : St) (rd : Option Nat) : R :=
  @Option.rec Nat (fun _ => R) (K (.ops all rest :: k) tm st ⟨fn, nt, d :: ds, dfr, none, cs⟩) (fun _ => none) rd
noncomputable def outK (E : Env) (all : List Oper) (k : List I) (K : Kt) (fn nt : Nat) (ds : Dfs) (dfr : Bool) (rd : Option Nat) (cs : List Fr) : Out → R
  | .done tm st => K k tm st ⟨fn, nt, ds, dfr, rd, cs⟩
  | .call rest f args tm st => @Option.rec (V × St) (fun _ => R) (enterK E f args false st (⟨fn, nt, ds, dfr, rd, tm, .ops all rest :: k⟩ :: cs) K) (fun p => backO all k p.1 fn nt ds dfr rd tm p.2 cs K rest) (E.memo f args st)
  | .round rest l args tm st => roundK l args st (⟨fn, nt, ds, dfr, rd, tm, .ops all rest :: k⟩ :: cs) K
  | .defer rest d tm st => deferK all k K fn nt ds dfr cs rest d tm st rd
  | .stop => none
noncomputable def opsI (all rest : List Oper) : Sf := fun E k tm st b K =>
  match b with
  | ⟨fn, nt, ds, dfr, rd, cs⟩ => outK E all k K fn nt ds dfr rd cs (opsRun E rest all nt dfr tm st)
noncomputable def backI (v : V) (fn nt : Nat) (ds : Dfs) (dfr : Bool) (rd : Option Nat) (tm : Tr V) (st : St) (cs : List Fr) (K : Kt) : List I → R
  | .ops all l :: k => backO all k v fn nt ds dfr rd tm st cs K l
  | .inRF l _ _ _ :: k => endRF l k tm st ⟨fn, nt, ds, dfr, rd, cs⟩ K
  | _ => none
noncomputable def giveI (dfr0 : Bool) (v : V) (st : St) (K : Kt) : List Fr → R
  | [] => cond dfr0 none (some (v, st))
  | ⟨fn, nt, ds, dfr, rd, tm, todo⟩ :: cs => cond dfr0 (K todo tm st ⟨fn, nt, ds, dfr, rd, cs⟩) (backI v fn nt ds dfr rd tm st cs K todo)
noncomputable def callD (E : Env) (fn nt : Nat) (ds : Dfs) (dfr : Bool) (tm : Tr V) (st : St) (cs : List Fr) (K : Kt) (captured args : List V) : Fn → R
  | .func g => listK (args ++ captured) fun all => enterK E g all true st (⟨fn, nt, ds, dfr, none, tm, [.out]⟩ :: cs) K
  | _ => none
noncomputable def markD (fn nt : Nat) (ds : Dfs) (dfr : Bool) (tm : Tr V) (st : St) (cs : List Fr) (K : Kt) (id : Nat) : Blk → R
  | .obj .dfd => setBlkK st id .dead fun st' => K [.out] tm st' ⟨fn, nt, ds, dfr, none, cs⟩
  | _ => none
noncomputable def retD (E : Env) (fn nt : Nat) (dfr : Bool) (tm : Tr V) (st : St) (cs : List Fr) (K : Kt) : Dfs → R
  | [] => obind (E.funcs fn) fun f => obind (resultsV E st tm f.results.toList) fun vs => giveI dfr (oneV vs) st K cs
  | .call f captured args :: ds => callD E fn nt ds dfr tm st cs K captured args f
  | .mark id :: ds => obind (st.blks.get id) (markD fn nt ds dfr tm st cs K id)
noncomputable def outI : Sf := fun E _ tm st b K => match b with
  | ⟨fn, nt, ds, dfr, rd, cs⟩ => @Option.rec Nat (fun _ => R) (retD E fn nt dfr tm st cs K ds) (fun l => leaveR l none st cs K) rd
noncomputable def stepI : I → Sf
  | .code c => stepC c
  | .blk _ => goTo fun k => k
  | .sc _ => goTo fun k => k
  | .lp body => goTo fun k => .code body :: .lp body :: k
  | .ops all rest => opsI all rest
  | .out => outI
  | .begin => beginR
  | .inRF _ _ _ _ => noGo
noncomputable def evStep (E : Env) (K : Kt) : Kt
  | [] => fun tm st b => outI E [] tm st b K
  | i :: k => fun tm st b => stepI i E k tm st b K

noncomputable def run (E : Env) (n : Nat) : Kt :=
  @Nat.rec (fun _ => Kt) (fun _ _ _ _ => none) (fun _ ih => evStep E ih) n

noncomputable def call (E : Env) (n : Nat) (f : FuncId) (args : List V) (st : St) : R := enterK E f args false st [] (run E n)
end Go.Ev
