/- deep: the order of values: plain functions; a map of values by their keys. -/
import Derived.Test.YthdnflklhhfojaaGreatDoorOrA
import Derived.Test.YthdnflklhhfojaaGreatDoorMyF
import Derived.Maps.OwnSet
namespace Go.Proofs.YthdnflklhhfojaaGreatDoor
open Go Go.RowKit
open Go.Maps (Keyed IsMap)
namespace Dp
open Go.Proofs.YthdnflklhhfojaaGreatDoor.Nm (keyV)
/-- Has one of the items a key that is not among ks? -/
def missL : List GI → List (Bool × Int × ByteArray) → Bool
  | [], _ => false
  | it :: l, ks => if GI.keyG it ∈ ks then missL l ks else true
mutual
/-- The order of two values that may be. -/
def ordV : GV → GV → Int
  | .mk k n t l, .mk k' n' t' l' =>
    if k ≤ 3 ∧ k' ≤ 3 then orderP k n t k' n' t'
    else if k ≤ 1 ∨ k' ≤ 1 then truthsI (truthK k n t l.length) (truthK k' n' t' l'.length)
    else if k = 4 ∧ k' = 4 then (if l.length < l'.length then -1 else if l'.length < l.length then 1 else if missL l (l'.map GI.keyG) = true then 1 else ordL l l')
    else if k = 5 ∧ k' = 5 then (if n = n' then 0 else 1)
    else if k = 4 ∨ (k = 5 ∧ k' ≠ 4) then 1 else -1
def ordL : List GI → List GI → Int
  | [], _ => 0
  | .mk b i s v :: l, l' => match l'[(findK (l'.map GI.keyG) (b, i, s) 0).toNat]? with
    | some it' => if ordV v it'.val = 0 then ordL l l' else ordV v it'.val
    | none => 0
end
theorem keysOf_all (l : List GI) : keysOf l l.length = l.map GI.keyG := by
  unfold keysOf
  rw [List.take_length]
theorem missL_drop (l : List GI) (j : Nat) (it : GI) (h : l[j]? = some it) (ks : List (Bool × Int × ByteArray)) : missL (l.drop j) ks = if GI.keyG it ∈ ks then missL (l.drop (j + 1)) ks else true := by
  obtain ⟨hj, rfl⟩ := List.getElem?_eq_some_iff.1 h
  rw [List.drop_eq_getElem_cons hj, missL]
theorem missL_no : ∀ (l : List GI) (ks : List (Bool × Int × ByteArray)), missL l ks = false → ∀ (j : Nat) (it : GI), l[j]? = some it → GI.keyG it ∈ ks
  | [], _, _, _, _, h => by simp at h
  | a :: l, ks, hm, j, it, h => by
    unfold missL at hm
    by_cases ha : GI.keyG a ∈ ks
    · rw [if_pos ha] at hm
      cases j with
      | zero =>
        have : a = it := by simpa using h
        rw [← this]
        exact ha
      | succ j => exact missL_no l ks hm j it (by simpa using h)
    · rw [if_neg ha] at hm
      cases hm
theorem ordL_drop (l l' : List GI) (j : Nat) (it it' : GI) (h : l[j]? = some it) (h' : l'[(findK (l'.map GI.keyG) (GI.keyG it) 0).toNat]? = some it') : ordL (l.drop j) l' = if ordV it.val it'.val = 0 then ordL (l.drop (j + 1)) l' else ordV it.val it'.val := by
  obtain ⟨hj, rfl⟩ := List.getElem?_eq_some_iff.1 h
  rw [List.drop_eq_getElem_cons hj]
  generalize l[j] = a at *
  cases a with
  | mk b i s v =>
    have h2 : l'[(findK (l'.map GI.keyG) (b, i, s) 0).toNat]? = some it' := h'
    rw [ordL, h2]
    rfl
theorem findK_app : ∀ (ks : List (Bool × Int × ByteArray)) (a k : Bool × Int × ByteArray) (i : Int), 0 ≤ i → findK (ks ++ [a]) k i = if 0 ≤ findK ks k i then findK ks k i else if a = k then i + ks.length else -1
  | [], a, k, i, h => by simp [findK]
  | b :: r, a, k, i, h => by
    rw [List.cons_append, findK, findK]
    by_cases hb : b = k
    · rw [if_pos hb, if_pos hb, if_pos h]
    · rw [if_neg hb, if_neg hb, findK_app r a k (i + 1) (by omega)]
      simp only [List.length_cons]
      split
      · rfl
      · split
        · omega
        · rfl
theorem findK_no {ks : List (Bool × Int × ByteArray)} {k : Bool × Int × ByteArray} (h : k ∉ ks) : findK ks k 0 < 0 := by
  have := findK_mem ks k 0 (by omega)
  rw [decide_eq_false h] at this
  simpa using this
theorem findK_yes {ks : List (Bool × Int × ByteArray)} {k : Bool × Int × ByteArray} (h : k ∈ ks) : 0 ≤ findK ks k 0 ∧ findK ks k 0 < ks.length := by
  have := findK_mem ks k 0 (by omega)
  rw [decide_eq_true h] at this
  have h1 : 0 ≤ findK ks k 0 := by simpa using this
  have := findK_le ks k 0 (by omega)
  omega
/-- What stands under a key among the first j items, whose values are C. -/
def valsOf (l : List GI) (C : Nat → Value) (j : Nat) (k : Bool × Int × ByteArray) : Option Value := if 0 ≤ findK (keysOf l j) k 0 then some (C (findK (keysOf l j) k 0).toNat) else none
theorem valsOf_zero (l : List GI) (C : Nat → Value) : valsOf l C 0 = fun _ => none := by
  funext k
  simp [valsOf, keysOf, findK]
theorem valsOf_succ (l : List GI) (C : Nat → Value) (j : Nat) (it : GI) (h : l[j]? = some it) (hn : GI.keyG it ∉ keysOf l j) : valsOf l C (j + 1) = fun k => if k = GI.keyG it then some (C j) else valsOf l C j k := by
  funext k
  have hj := (List.getElem?_eq_some_iff.1 h).1
  have hlen : (keysOf l j).length = j := keysOf_len l j (by omega)
  have hap := findK_app (keysOf l j) (GI.keyG it) k 0 (by omega)
  rw [hlen] at hap
  unfold valsOf
  rw [keysOf_succ l j it h]
  by_cases hk : k = GI.keyG it
  · subst hk
    have := findK_no hn
    rw [if_neg (by omega), if_pos rfl] at hap
    rw [if_pos rfl, hap, if_pos (by omega)]
    congr 2
    omega
  · rw [if_neg hk]
    by_cases h0 : 0 ≤ findK (keysOf l j) k 0
    · rw [if_pos h0] at hap
      rw [hap]
    · rw [if_neg h0, if_neg (fun e : GI.keyG it = k => hk e.symm)] at hap
      rw [hap, if_neg h0, if_neg (by omega)]
/-- A value that may be: its kind is one, its items' keys are not two of one. -/
inductive Good : GV → Prop where
  | mk (k n : Int) (t : ByteArray) (l : List GI) (h0 : 0 ≤ k) (h5 : k ≤ 5) (hn : l.length ≤ 2048) (hd : ∀ (j : Nat) (it : GI), l[j]? = some it → GI.keyG it ∉ keysOf l j) (h2 : ∀ (i : Nat) (it : GI), l[i]? = some it → Good it.val) : Good (.mk k n t l)
mutual
theorem good_of_may : ∀ (g : GV) (d : Int), mayV g d = true → Good g
  | .mk k n t l, d, h => by
    rw [mayV] at h
    by_cases h4 : k = 4
    · rw [if_pos h4] at h
      by_cases hc : t.size = 0 ∧ -1 ≤ n ∧ l.length ≤ 2048 ∧ d < 64
      · rw [if_pos hc] at h
        obtain ⟨a1, a2⟩ := good_of_mayL l [] n d h
        exact .mk k n t l (by omega) (by omega) hc.2.2.1 (fun j it hj => by simpa using a2 j it hj) a1
      · rw [if_neg hc] at h
        cases h
    · rw [if_neg h4, Bool.and_eq_true] at h
      have hl : l = [] := List.eq_nil_of_length_eq_zero (by simpa using h.1)
      subst hl
      have hk : 0 ≤ k ∧ k ≤ 5 := by
        have h2 := h.2
        unfold flatB at h2
        by_cases e0 : k = 0
        · omega
        · by_cases e1 : k = 1
          · omega
          · by_cases e2 : k = 2
            · omega
            · by_cases e3 : k = 3
              · omega
              · by_cases e5 : k = 5
                · omega
                · rw [if_neg e0, if_neg e1, if_neg e2, if_neg e3, if_neg e5] at h2
                  cases h2
      exact .mk k n t [] hk.1 hk.2 (by simp) (fun j it hj => by simp at hj) (fun j it hj => by simp at hj)
theorem good_of_mayL : ∀ (l : List GI) (m : List (Bool × Int × ByteArray)) (n d : Int), mayL l m n d = true → (∀ (i : Nat) (it : GI), l[i]? = some it → Good it.val) ∧ (∀ (j : Nat) (it : GI), l[j]? = some it → GI.keyG it ∉ m ++ keysOf l j)
  | [], _, _, _, _ => ⟨fun i it h => by simp at h, fun i it h => by simp at h⟩
  | .mk b i s v :: l, m, n, d, h => by
    rw [mayL] at h
    by_cases h1 : Nm.normG b i s ≠ (b, i, s)
    · rw [if_pos h1] at h
      cases h
    · rw [if_neg h1] at h
      by_cases h2 : (b, i, s) ∈ m
      · rw [if_pos h2] at h
        cases h
      · rw [if_neg h2] at h
        by_cases h3 : mayV v (d + 1) = true
        · rw [if_pos h3] at h
          by_cases h4 : b = false ∧ 0 ≤ n ∧ n ≤ i
          · rw [if_pos h4] at h
            cases h
          · rw [if_neg h4] at h
            have hv := good_of_may v (d + 1) h3
            obtain ⟨a1, a2⟩ := good_of_mayL l _ n d h
            refine ⟨fun j it hj => ?_, fun j it hj => ?_⟩
            · cases j with
              | zero =>
                have : GI.mk b i s v = it := by simpa using hj
                rw [← this]
                exact hv
              | succ j => exact a1 j it (by simpa using hj)
            · cases j with
              | zero =>
                have : GI.mk b i s v = it := by simpa using hj
                rw [← this]
                simpa [keysOf, GI.keyG] using h2
              | succ j =>
                have := a2 j it (by simpa using hj)
                have e : keysOf (GI.mk b i s v :: l) (j + 1) = (b, i, s) :: keysOf l j := by simp [keysOf, GI.keyG]
                rw [e]
                simpa using this
        · rw [if_neg h3] at h
          cases h
end
/-! ### a map of values -/
def valElem (v : Value) : Option (DataW Value × List MemPlace) := some (.held v, [])
def zeroV : Value := .agg #[.int .i64 0, .int .i64 0, .string ⟨#[]⟩, .slice none 0 0]
/-- The map at b has just what f says. -/
def ValsAt (w : World) (b n : Nat) (f : Bool × Int × ByteArray → Option Value) : Prop :=
  ∃ D : DataW Value, w.ownsMap Tryz.prog 63 valElem b n D ∧ IsMap D ∧ ∀ k kl, keyOf Tryz.prog 63 (keyV k) = some kl → D.atKey kl (.held zeroV) = .held ((f k).getD zeroV) ∧ Maps.has D kl = (f k).isSome
theorem ValsAt.made (w : World) : ValsAt (w.alloc (.map #[] 0)) w.heap.size 0 (fun _ => none) :=
  ⟨_, World.ownsMap_made w _ _ _, Go.Maps.isMap_empty, fun k kl _ => by simp [DataW.atKey, Maps.has]⟩
theorem ValsAt.keeps {S : Nat → Prop} {w w' : World} {b n : Nat} {f : Bool × Int × ByteArray → Option Value} (h : ValsAt w b n f) (kp : Keeps S w w') (hs : ¬ S b) : ValsAt w' b n f := by
  obtain ⟨D, h1, h2⟩ := h
  exact ⟨D, ownsMap_keeps h1 kp hs, h2⟩
theorem ValsAt.below {w w' : World} {b n : Nat} {f : Bool × Int × ByteArray → Option Value} (h : ValsAt w b n f) (hb : Below w.heap.size w w') : ValsAt w' b n f := h.keeps (Keeps.of_below (S := fun _ => False) hb) id
theorem ValsAt.lt {w : World} {b n : Nat} {f : Bool × Int × ByteArray → Option Value} (h : ValsAt w b n f) : b < w.heap.size := by
  obtain ⟨D, h1, _⟩ := h
  exact h1.lt
set_option maxRecDepth 100000 in
theorem ValsAt.look {w : World} {b n : Nat} {f : Bool × Int × ByteArray → Option Value} (h : ValsAt w b n f) (k : Bool × Int × ByteArray) (hk : KeyOK k) :
    (Instr.lookup 127 (.map (some b)) (keyV k) false).run Tryz.prog w = .ok ((f k).getD zeroV) w := by
  obtain ⟨D, h1, _, h3⟩ := h
  obtain ⟨kl, hkl⟩ := key_lit k hk
  obtain ⟨v, ps, hrun, hv⟩ := h1.lookup key_keyed Tryz.underlying127 (z := zeroV) (by kernel_rfl) (zd := .held zeroV) (zp := []) rfl hkl
  rw [(h3 k kl hkl).1] at hv
  rw [hrun]
  congr 1
  simp only [valElem, Option.some.injEq, Prod.mk.injEq, DataW.held.injEq] at hv
  exact hv.1
set_option maxRecDepth 100000 in
theorem ValsAt.look_ok {w : World} {b n : Nat} {f : Bool × Int × ByteArray → Option Value} (h : ValsAt w b n f) (k : Bool × Int × ByteArray) (hk : KeyOK k) :
    (Instr.lookup 127 (.map (some b)) (keyV k) true).run Tryz.prog w = .ok (.tuple #[(f k).getD zeroV, .bool (f k).isSome]) w := by
  obtain ⟨D, h1, _, h3⟩ := h
  obtain ⟨kl, hkl⟩ := key_lit k hk
  obtain ⟨v, ps, hrun, hv⟩ := h1.look_ok key_keyed Tryz.underlying127 (z := zeroV) (by kernel_rfl) (zd := .held zeroV) (zp := []) rfl hkl
  rw [(h3 k kl hkl).1] at hv
  rw [hrun, (h3 k kl hkl).2]
  simp only [valElem, Option.some.injEq, Prod.mk.injEq, DataW.held.injEq] at hv
  rw [hv.1]
theorem ValsAt.put {w' : World} {b n : Nat} {f : Bool × Int × ByteArray → Option Value} {D : DataW Value} {k : Bool × Int × ByteArray} {kl : Lit} {v : Value} (hkl : keyOf Tryz.prog 63 (keyV k) = some kl)
    (h2 : IsMap D) (h3 : ∀ k kl, keyOf Tryz.prog 63 (keyV k) = some kl → D.atKey kl (.held zeroV) = .held ((f k).getD zeroV) ∧ Maps.has D kl = (f k).isSome)
    (h1 : w'.ownsMap Tryz.prog 63 valElem b (n + 1) (D.put kl (.held v))) : ValsAt w' b (n + 1) (fun k' => if k' = k then some v else f k') := by
  refine ⟨_, h1, h2.put _ _, fun k' kl' hk' => ?_⟩
  by_cases he : k' = k
  · subst he
    rw [hkl] at hk'
    cases hk'
    rw [Go.Maps.atKey_put_same h2 (key_keyed.key hkl), Go.Maps.has_put_same h2 (key_keyed.key hkl)]
    simp
  · have hne : kl' ≠ kl := fun e => by
      subst e
      exact he (keyV_inj (key_keyed.inj hk' hkl))
    rw [Go.Maps.atKey_put_other hne, Go.Maps.has_put_other hne, (h3 k' kl' hk').1, (h3 k' kl' hk').2]
    simp [he]
set_option maxRecDepth 100000 in
theorem wpList_vals_put {w : World} {ops : Array Oper} {rest : List Oper} {o : Oper} {a : Act} {Q : Exit → Act → World → Prop}
    (hg : o.guard = none) (m x v : Operand) (hop : o.op = Op.mapUpdate 127 m x v) {b n : Nat} {f : Bool × Int × ByteArray → Option Value} (hm : a.eval m = .map (some b)) (h : ValsAt w b n f) (hn : n < maxLen)
    (k : Bool × Int × ByteArray) (hk : KeyOK k) (hx : a.eval x = keyV k) (V : Value) (hv : a.eval v = V)
    (hK : ∀ w', ValsAt w' b (n + 1) (fun k' => if k' = k then some V else f k') → w.grownBy w' (some b) → wpList Tryz.prog ops Q rest (a.put o.dst undef) w') : wpList Tryz.prog ops Q (o :: rest) a w := by
  obtain ⟨D, h1, h2, h3⟩ := h
  obtain ⟨kl, hkl⟩ := key_lit k hk
  exact wpList_mapUpdate_own w hg m x v _ hop _ _ key_keyed Tryz.underlying127 _ b n D hm h1 hn _ _ kl hx hv hkl (.held V) [] rfl fun w' r1 r2 => hK w' (ValsAt.put hkl h2 h3 r1) r2
end Dp
end Go.Proofs.YthdnflklhhfojaaGreatDoor
