/- deep: which values may be: plain functions; a map of the keys that were met. -/
import Derived.Test.YtnbhaokbaonjkaaGreatDoorNmW
import Derived.Test.YtnbhaokbaonjkaaGreatDoorDpB
import Derived.Maps.Own
import Derived.Maps.Views
import Derived.DeepKeys4
namespace Go.Proofs.YtnbhaokbaonjkaaGreatDoor
open Go Go.RowKit
open Go.Maps (Keyed IsMap)
namespace Dp
open Go.Proofs.YtnbhaokbaonjkaaGreatDoor.Nm (normG keyV)
def GI.keyG : GI → Bool × Int × ByteArray
  | .mk b i s _ => (b, i, s)
theorem keyG_eq (it : GI) : GI.keyG it = (it.isText, it.int, it.text) := by cases it; rfl
/-- A value of another kind than a list. -/
def flatB (k n : Int) (t : ByteArray) : Bool :=
  if k = 0 then n == 0 && t.size == 0 else if k = 1 then (n == 0 || n == 1) && t.size == 0 else if k = 2 then t.size == 0 else if k = 3 then n == 0 && decide (t.size ≤ 65536) else if k = 5 then decide (0 < n) && t.size == 0 else false
instance memKey (k : Bool × Int × ByteArray) : (ks : List (Bool × Int × ByteArray)) → Decidable (k ∈ ks)
  | [] => isFalse (by simp)
  | a :: r => if h : k = a then isTrue (by simp [h]) else match memKey k r with
    | isTrue h2 => isTrue (by simp [h2])
    | isFalse h2 => isFalse (by simp [h, h2])
mutual
/-- May a value be, within so many lists? -/
def mayV : GV → Int → Bool
  | .mk k n t l, d => if k = 4 then (if t.size = 0 ∧ -1 ≤ n ∧ l.length ≤ 2048 ∧ d < 64 then mayL l [] n d else false) else l.length == 0 && flatB k n t
/-- May the rest of a list's items be, behind those with the keys m? -/
def mayL : List GI → List (Bool × Int × ByteArray) → Int → Int → Bool
  | [], _, _, _ => true
  | .mk b i s v :: l, m, n, d => if normG b i s ≠ (b, i, s) then false else if (b, i, s) ∈ m then false else if mayV v (d + 1) = true then (if b = false ∧ 0 ≤ n ∧ n ≤ i then false else mayL l (m ++ [(b, i, s)]) n d) else false
end
def keysOf (l : List GI) (j : Nat) : List (Bool × Int × ByteArray) := (l.take j).map GI.keyG
theorem keysOf_succ (l : List GI) (j : Nat) (it : GI) (h : l[j]? = some it) : keysOf l (j + 1) = keysOf l j ++ [GI.keyG it] := by
  unfold keysOf
  rw [List.take_add_one, h, List.map_append]
  rfl
theorem mayL_drop (l : List GI) (j : Nat) (it : GI) (h : l[j]? = some it) (n d : Int) : mayL (l.drop j) (keysOf l j) n d =
    if normG it.isText it.int it.text ≠ GI.keyG it then false else if GI.keyG it ∈ keysOf l j then false else if mayV it.val (d + 1) = true then (if it.isText = false ∧ 0 ≤ n ∧ n ≤ it.int then false else mayL (l.drop (j + 1)) (keysOf l (j + 1)) n d) else false := by
  rw [keysOf_succ l j it h]
  obtain ⟨hj, rfl⟩ := List.getElem?_eq_some_iff.1 h
  rw [List.drop_eq_getElem_cons hj]
  cases l[j] with
  | mk b i s v => rw [mayL]; rfl
/-- A key that an argument can hold. -/
def KeyOK (k : Bool × Int × ByteArray) : Prop := In64 k.2.1 ∧ k.2.2.size ≤ 140737488351232
theorem key_type : Tryz.prog.keyTypeAt (Tryz.prog.types.size + 1) 32 = true := by kernel_rfl
theorem key_row : (32 : TypeId) < Tryz.prog.types.size := of_decide_eq_true (by kernel_rfl)
theorem key_laid : laidOutB Tryz.prog = true := by kernel_rfl
theorem key_small : Tryz.prog.types.size + 1 + 1 ≤ 10000 := of_decide_eq_true (by kernel_rfl)
theorem key_keyed : Keyed Tryz.prog 32 := Keyed.of_law (deep_law_laid key_laid key_small key_row key_type (by rw [Tryz.underlying32]))
theorem key_cells3 : Tryz.prog.cellsOf 32 = 3 := by kernel_rfl
theorem key_bool : Tryz.prog.cellsOf 4 = 1 := by kernel_rfl
theorem key_int : Tryz.prog.cellsOf 3 = 1 := by kernel_rfl
theorem key_str : Tryz.prog.cellsOf 9 = 1 := by kernel_rfl
theorem lits_bool (d : Nat) (b : Bool) : Tryz.prog.keyLits (d + 1) 4 [.bool b] = some [.bool b] := by unfold Program.keyLits; simp [Tryz.underlying4]
theorem lits_int (d : Nat) (i : Int) (h : (Lit.int .i64 i).wf = true) : Tryz.prog.keyLits (d + 1) 3 [.int .i64 i] = some [.int .i64 i] := by unfold Program.keyLits; simp [Tryz.underlying3, h]
theorem lits_str (d : Nat) (s : ByteArray) (h : s.size ≤ maxLen) : Tryz.prog.keyLits (d + 1) 9 [.string s] = some [.string s.data.toList] := by unfold Program.keyLits; simp [Tryz.underlying9, h]
theorem key_lit (k : Bool × Int × ByteArray) (h : KeyOK k) : ∃ kl, keyOf Tryz.prog 32 (keyV k) = some kl := by
  obtain ⟨b, i, s⟩ := k
  obtain ⟨hi, hs⟩ := h
  have hw : (Lit.int .i64 i).wf = true := by
    have h2 : -9223372036854775808 ≤ i ∧ i ≤ 9223372036854775807 := hi
    simp [Lit.wf, IntKind.min, IntKind.max, IntKind.signed, IntKind.bits]
    omega
  have hf : (keyV (b, i, s)).formed Tryz.prog 32 = true := by simp [keyV, Value.formed, Tryz.underlying32, key_cells3]
  have hk : Tryz.prog.keyType 32 = true := key_type
  have hs' : s.size ≤ maxLen := by
    have h2 : s.size ≤ 140737488351232 := hs
    unfold maxLen
    omega
  obtain ⟨d, hd⟩ : ∃ d, Tryz.prog.types.size = d + 1 := Nat.exists_eq_succ_of_ne_zero fun h0 => by
    have h9 := key_row
    rw [h0] at h9
    exact Nat.not_lt_zero _ h9
  unfold keyOf
  rw [Tryz.underlying32]
  simp only [hk, hf, Bool.and_self, if_true]
  unfold Program.keyLits
  rw [Tryz.underlying32, hd]
  simp [keyV, Value.cells, key_cells3, key_bool, key_int, key_str, lits_bool, lits_int d i hw, lits_str d s hs']
/-- The map at b has just the keys ks, each with true. -/
def MetAt (w : World) (b n : Nat) (ks : List (Bool × Int × ByteArray)) : Prop :=
  ∃ D : DataW Unit, w.ownsMap Tryz.prog 32 (plainElem Tryz.prog 4) b n D ∧ IsMap D ∧ ∀ k kl, keyOf Tryz.prog 32 (keyV k) = some kl → D.atKey kl (.lit (.bool false)) = .lit (.bool (decide (k ∈ ks)))
theorem MetAt.made (w : World) : MetAt (w.alloc (.map #[] 0)) w.heap.size 0 [] :=
  ⟨_, World.ownsMap_made w _ _ _, Go.Maps.isMap_empty, fun k kl _ => by simp [DataW.atKey]⟩
theorem MetAt.keeps {S : Nat → Prop} {w w' : World} {b n : Nat} {ks : List (Bool × Int × ByteArray)} (h : MetAt w b n ks) (kp : Keeps S w w') (hs : ¬ S b) : MetAt w' b n ks := by
  obtain ⟨D, h1, h2⟩ := h
  exact ⟨D, ownsMap_keeps h1 kp hs, h2⟩
theorem MetAt.below {w w' : World} {b n : Nat} {ks : List (Bool × Int × ByteArray)} (h : MetAt w b n ks) (hb : Below w.heap.size w w') : MetAt w' b n ks := h.keeps (Keeps.of_below (S := fun _ => False) hb) id
theorem MetAt.lt {w : World} {b n : Nat} {ks : List (Bool × Int × ByteArray)} (h : MetAt w b n ks) : b < w.heap.size := by
  obtain ⟨D, h1, _⟩ := h
  exact h1.lt
theorem keyV_inj {a b : Bool × Int × ByteArray} (h : keyV a = keyV b) : a = b := by
  obtain ⟨a0, a1, a2⟩ := a
  obtain ⟨b0, b1, b2⟩ := b
  simp [keyV] at h
  obtain ⟨rfl, rfl, rfl⟩ := h
  rfl
set_option maxRecDepth 100000 in
theorem MetAt.look {w : World} {b n : Nat} {ks : List (Bool × Int × ByteArray)} (h : MetAt w b n ks) (k : Bool × Int × ByteArray) (hk : KeyOK k) :
    (Instr.lookup 147 (.map (some b)) (keyV k) false).run Tryz.prog w = .ok (.bool (decide (k ∈ ks))) w := by
  obtain ⟨D, h1, _, h3⟩ := h
  obtain ⟨kl, hkl⟩ := key_lit k hk
  obtain ⟨v, ps, hrun, hv⟩ := h1.lookup key_keyed Tryz.underlying147 (z := .bool false) (by kernel_rfl) (plainElem_bool Tryz.underlying4 false) hkl
  rw [h3 k kl hkl] at hv
  rw [hrun]
  congr 1
  cases v <;> simp [plainElem, Tryz.underlying4] at hv
  rw [hv.1]
theorem MetAt.put {w' : World} {b n : Nat} {ks : List (Bool × Int × ByteArray)} {D : DataW Unit} {k : Bool × Int × ByteArray} {kl : Lit} (hkl : keyOf Tryz.prog 32 (keyV k) = some kl)
    (h2 : IsMap D) (h3 : ∀ k kl, keyOf Tryz.prog 32 (keyV k) = some kl → D.atKey kl (.lit (.bool false)) = .lit (.bool (decide (k ∈ ks))))
    (h1 : w'.ownsMap Tryz.prog 32 (plainElem Tryz.prog 4) b (n + 1) (D.put kl (.lit (.bool true)))) : MetAt w' b (n + 1) (ks ++ [k]) := by
  refine ⟨_, h1, h2.put _ _, fun k' kl' hk' => ?_⟩
  by_cases he : k' = k
  · subst he
    rw [hkl] at hk'
    cases hk'
    rw [Go.Maps.atKey_put_same h2 (key_keyed.key hkl)]
    simp
  · have hne : kl' ≠ kl := fun e => by
      subst e
      exact he (keyV_inj (key_keyed.inj hk' hkl))
    rw [Go.Maps.atKey_put_other hne, h3 k' kl' hk']
    simp [he]
set_option maxRecDepth 100000 in
theorem wpList_met_put {w : World} {ops : Array Oper} {rest : List Oper} {o : Oper} {a : Act} {Q : Exit → Act → World → Prop}
    (hg : o.guard = none) (m x v : Operand) (hop : o.op = Op.mapUpdate 147 m x v) {b n : Nat} {ks : List (Bool × Int × ByteArray)} (hm : a.eval m = .map (some b)) (h : MetAt w b n ks) (hn : n < maxLen)
    (k : Bool × Int × ByteArray) (hk : KeyOK k) (hx : a.eval x = keyV k) (hv : a.eval v = .bool true)
    (hK : ∀ w', MetAt w' b (n + 1) (ks ++ [k]) → w.grownBy w' (some b) → wpList Tryz.prog ops Q rest (a.put o.dst undef) w') : wpList Tryz.prog ops Q (o :: rest) a w := by
  obtain ⟨D, h1, h2, h3⟩ := h
  obtain ⟨kl, hkl⟩ := key_lit k hk
  exact wpList_mapUpdate_own w hg m x v _ hop _ _ key_keyed Tryz.underlying147 _ b n D hm h1 hn _ _ kl hx hv hkl (.lit (.bool true)) [] (plainElem_bool Tryz.underlying4 true) fun w' r1 r2 => hK w' (MetAt.put hkl h2 h3 r1) r2
/-- The place of a key among others, from place i on; -1. -/
def findK : List (Bool × Int × ByteArray) → (Bool × Int × ByteArray) → Int → Int
  | [], _, _ => -1
  | a :: r, k, i => if a = k then i else findK r k (i + 1)
theorem findK_le : ∀ (ks : List (Bool × Int × ByteArray)) (k : Bool × Int × ByteArray) (i : Int), 0 ≤ i → -1 ≤ findK ks k i ∧ findK ks k i < i + ks.length ∨ findK ks k i = -1
  | [], _, _, _ => by simp [findK]
  | a :: r, k, i, h => by
    unfold findK
    split
    · left; simp only [List.length_cons]; omega
    · rcases findK_le r k (i + 1) (by omega) with h | h
      · left; simp only [List.length_cons]; omega
      · exact .inr h
theorem findK_mem : ∀ (ks : List (Bool × Int × ByteArray)) (k : Bool × Int × ByteArray) (i : Int), 0 ≤ i → decide (0 ≤ findK ks k i) = decide (k ∈ ks)
  | [], _, _, _ => by simp [findK]
  | a :: r, k, i, h => by
    unfold findK
    by_cases he : a = k
    · rw [if_pos he]; simp [he, h]
    · rw [if_neg he, findK_mem r k (i + 1) (by omega)]
      have : k ≠ a := fun e => he e.symm
      simp [this]
end Dp
end Go.Proofs.YtnbhaokbaonjkaaGreatDoor
