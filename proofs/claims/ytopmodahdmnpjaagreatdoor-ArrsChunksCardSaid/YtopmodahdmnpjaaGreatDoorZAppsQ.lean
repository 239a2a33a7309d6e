/- Words for memory: a slice that reads as a list, and append onto a row of the call's own (the guide's blocks of extra-words.md, sections 1 and 3). -/
import Derived.Below
import Derived.Laws.OwnMore
import Derived.Deep.AppendLies
import Derived.Deep.Draws
import Derived.Maps.AppendAt
import Derived.RegionTactic
import Derived.OwnWalk
import Derived.Test.YtopmodahdmnpjaaGreatDoorZWords
import Derived.Test.YtopmodahdmnpjaaGreatDoorZNmPQ
import Derived.Maps.OwnSet
import Derived.Maps.OwnOps
import Derived.Deep.RegionHeld3
import Derived.Lib.Hide
import Derived.WalkKit
import Derived.Deep.CutBlock
import Derived.Deep.CutRange
import Derived.Deep.DeepCutAuto
import Derived.Still
import Derived.StillTactics
import Derived.StillTail
import Derived.BigQuiet
import Derived.Maps.Own
import Derived.RangeFuncNested
import Derived.RangeFuncCalls
import Derived.RangeFuncLeaves
import Derived.Shelf.Abstract
import Derived.OwnWalkIn
namespace Go.Proofs.YtopmodahdmnpjaaGreatDoor
open Go.RowKit
theorem block_of_add (a : Addr) (n : Nat) : (a.add n).block = a.block := by unfold Addr.add; split <;> rfl
theorem add_of_add (a : Addr) (i j : Nat) : (a.add i).add j = a.add (i + j) := by
  unfold Addr.add
  by_cases hi : i = 0 <;> by_cases hj : j = 0 <;> simp [hi, hj, Nat.add_assoc]

def Reads (w : World) (B size : Nat) (A : Option Addr) (n : Nat) (xs : List Value) : Prop :=
  xs.length = n * size ∧ (0 < n → ∃ ad, A = some ad ∧ ad.block < B ∧ ∀ j u, xs[j]? = some u → w.cell? (ad.add j) = some u)

section
variable {w w' : World} {B B' size n : Nat} {A : Option Addr} {xs : List Value}
theorem Reads.none_ : Reads w B size A 0 [] := ⟨by simp, fun h => absurd h (by omega)⟩
theorem Reads.at_ {k : Nat} (h : Reads w B 1 A n xs) (hk : k < n) : ∃ ad u, A = some ad ∧ ad.block < B ∧ xs[k]? = some u ∧ w.cell? (ad.add k) = some u := by
  obtain ⟨ad, e, hb, hc⟩ := h.2 (by omega)
  have hl : k < xs.length := by have := h.1; omega
  exact ⟨ad, xs[k], e, hb, List.getElem?_eq_getElem hl, hc k _ (List.getElem?_eq_getElem hl)⟩
theorem Reads.keep (h : Reads w B size A n xs) (hk : ∀ p : Addr, p.block < B → w'.cell? p = w.cell? p) : Reads w' B size A n xs :=
  ⟨h.1, fun hn => by
    obtain ⟨ad, e, hb, hc⟩ := h.2 hn
    exact ⟨ad, e, hb, fun j u hu => (hk _ (by rw [block_of_add]; exact hb)).trans (hc j u hu)⟩⟩
theorem Reads.more (h : Reads w B size A n xs) (hB : B ≤ B') : Reads w B' size A n xs :=
  ⟨h.1, fun hn => by
    obtain ⟨ad, e, hb, hc⟩ := h.2 hn
    exact ⟨ad, e, by omega, hc⟩⟩
theorem Reads.below (h : Reads w B size A n xs) (hb : Below B w w') : Reads w' B size A n xs := h.keep fun _ hp => hb.cell hp
theorem Reads.drew (h : Reads w B size A n xs) : Reads w.drew B size A n xs := h
theorem Reads.drewN (h : Reads w B size A n xs) (k : Nat) : Reads (w.drewN k) B size A n xs := h
theorem Reads.alloc (h : Reads w B size A n xs) (hB : B ≤ w.heap.size) (o : Obj) : Reads (w.alloc o) B size A n xs := h.keep fun p hp => World.cell?_alloc_lt w o p (by omega)
theorem Reads.setCell (h : Reads w B size A n xs) {p : Addr} (hB : B ≤ p.block) (u : Value) : Reads (w.setCell p u) B size A n xs :=
  h.keep fun q hq => World.cell?_setCell_other w p q u (fun e => by subst e; omega)
theorem Reads.grown (h : Reads w B size A n xs) {row : Option Nat} (hg : w.grownBy w' row) (hB : B ≤ w.heap.size) (hr : ∀ g, row = some g → B ≤ g) : Reads w' B size A n xs :=
  h.keep fun p hp => World.cell?_of_block (hg.block p.block (by omega) (fun e => by have := hr _ e.symm; omega))
theorem Reads.cut (h : Reads w B size A n xs) {k cap : Nat} (hk : k ≤ n) (hc : n ≤ cap) :
    Reads w B size (if cap = k then A else A.map (·.add (k * size))) (n - k) (xs.drop (k * size)) := by
  refine ⟨by rw [List.length_drop, h.1, Nat.sub_mul], fun hn => ?_⟩
  obtain ⟨ad, rfl, hb, hcell⟩ := h.2 (by omega)
  rw [if_neg (by omega)]
  refine ⟨ad.add (k * size), rfl, by rw [block_of_add]; exact hb, fun j u hu => ?_⟩
  rw [add_of_add]
  exact hcell _ u (by rw [← hu, List.getElem?_drop])
theorem Reads.of_own {base : Nat} {e : TypeId} {c : Nat} (h : w.ownsRow base e size (.slice A n c) n xs) : Reads w w.heap.size size A n xs := by
  refine ⟨h.1, fun hn => ?_⟩
  obtain ⟨g, cap, hv, _, hlt⟩ := h.form hn
  have hA : A = some ⟨g, 0, none⟩ := by injection hv
  subst hA
  exact ⟨_, rfl, hlt, h.cells (g := g) rfl⟩
end
section
variable {P : Program} (w : World)

theorem run_append_of_nil (base : Nat) (t ty e : TypeId) (i : TypeInfo) (size : Nat) (ht : P.underlying t = some (.slice e)) (hi : P.info? e = some i)
    (v : Value) (n : Nat) (xs : List Value) (hown : w.ownsRow base e size v n xs) (c : Nat) : (Builtin.append_ #[t, t] ty #[v, .slice none 0 c]).run P w = .ok v w := by
  rcases hown.2 with ⟨rfl, rfl⟩ | ⟨g, cap, cur, rfl, _, _, hnc, _⟩
  · simp [Builtin.append_, run_underlying ht, sizeOf, typeInfo, hi, Builtin.lenOf, Builtin.firstCells]
  · simp [Builtin.append_, run_underlying ht, sizeOf, typeInfo, hi, Builtin.lenOf, Builtin.firstCells, hnc, storeCells]

theorem run_append_any (base : Nat) (t ty e : TypeId) (i : TypeInfo) (z : Value) (size bytes : Nat) (ht : P.underlying t = some (.slice e)) (hi : P.info? e = some i) (hz : i.zero = some z)
    (hsize : i.size = size) (hby : i.bytes = bytes) (hzs : z.cells.size = size) (hsz : 0 < size)
    (v : Value) (n : Nat) (xs : List Value) (hown : w.ownsRow base e size v n xs)
    (B : Nat) (A : Option Addr) (m c : Nat) (news : List Value) (hr : Reads w B size A m news) (h1 : ∀ u ∈ news, u.oneCell' = true)
    (h63 : n + m ≤ maxLen) (hbytes : (n + m) * bytes ≤ 140737488355328) (hbase : base ≤ w.heap.size) :
    ∃ v' w', (Builtin.append_ #[t, t] ty #[v, .slice A m c]).run P w = .ok v' w' ∧ w'.ownsRow base e size v' (n + m) (xs ++ news) ∧ w.grownBy w' v.ownBlock ∧
      (v'.ownBlock = v.ownBlock ∨ v'.ownBlock = some w.heap.size) := by
  rcases A with _ | ad
  · have hm : m = 0 := by
      rcases Nat.eq_zero_or_pos m with h0 | h0
      · exact h0
      · obtain ⟨ad, h, _⟩ := hr.2 h0
        cases h
    subst hm
    have hn : news = [] := List.eq_nil_of_length_eq_zero (by simpa using hr.1)
    subst hn
    exact ⟨v, w, run_append_of_nil w base t ty e i size ht hi v n xs hown c, by simpa using hown, World.grownBy.refl w _, .inl rfl⟩
  · have hcells : ∀ j u, news[j]? = some u → w.cell? (ad.add j) = some u := by
      intro j u hu
      rcases Nat.eq_zero_or_pos m with h0 | h0
      · subst h0
        have hn : news = [] := List.eq_nil_of_length_eq_zero (by simpa using hr.1)
        subst hn
        simp at hu
      · obtain ⟨ad', h, _, hc⟩ := hr.2 h0
        injection h with h
        subst h
        exact hc j u hu
    obtain ⟨v', w', hrun, h2, h3, _, h5⟩ := run_append_own_at (P := P) w base t ty e i z size bytes ht hi hz hsize hby hzs hsz v n xs hown ad m c news hr.1 hcells h1 h63 hbytes hbase
    exact ⟨v', w', hrun, h2, h3, h5⟩

theorem wp_append_any {o : Oper} {a : Act} {K : Act → World → Prop} {Q : Exit → Act → World → Prop} (s x : Operand) (t : TypeId)
    (ho : o.op = .call { callee := .builtin .append, args := #[s, x], argTypes := #[t, t] })
    (base : Nat) (e : TypeId) (i : TypeInfo) (z : Value) (size bytes : Nat) (ht : P.underlying t = some (.slice e)) (hi : P.info? e = some i) (hz : i.zero = some z)
    (hsize : i.size = size) (hby : i.bytes = bytes) (hzs : z.cells.size = size) (hsz : 0 < size)
    (v : Value) (n : Nat) (xs : List Value) (hs : a.eval s = v) (hown : w.ownsRow base e size v n xs)
    (B : Nat) (A : Option Addr) (m c : Nat) (news : List Value) (hx : a.eval x = .slice A m c) (hr : Reads w B size A m news) (h1 : ∀ u ∈ news, u.oneCell' = true)
    (h63 : n + m ≤ maxLen) (hbytes : (n + m) * bytes ≤ 140737488355328) (hbase : base ≤ w.heap.size)
    (h : ∀ v' w', w'.ownsRow base e size v' (n + m) (xs ++ news) → w.grownBy w' v.ownBlock → (v'.ownBlock = v.ownBlock ∨ v'.ownBlock = some w.heap.size) → K (a.put o.dst v') w') : o.wp P a w K Q := by
  obtain ⟨v', w', hrun, h2, h3, h4⟩ := run_append_any (P := P) w base t o.type e i z size bytes ht hi hz hsize hby hzs hsz v n xs hown B A m c news hr h1 h63 hbytes hbase
  unfold Oper.wp execOp
  simp only [ho, resolve, invoke, builtin, Sem.run_bind, Sem.run_pure, Result.andThen_ok, List.map_toArray, List.map_cons, List.map_nil, hs, hx, hrun]
  exact h v' w' h2 h3 h4

theorem wpList_append_any {ops : Array Oper} {rest : List Oper} {o : Oper} {a : Act} {Q : Exit → Act → World → Prop} (hgd : o.guard = none) (s x : Operand) (t : TypeId)
    (ho : o.op = .call { callee := .builtin .append, args := #[s, x], argTypes := #[t, t] })
    (base : Nat) (e : TypeId) (i : TypeInfo) (z : Value) (size bytes : Nat) (ht : P.underlying t = some (.slice e)) (hi : P.info? e = some i) (hz : i.zero = some z)
    (hsize : i.size = size) (hby : i.bytes = bytes) (hzs : z.cells.size = size) (hsz : 0 < size)
    (v : Value) (n : Nat) (xs : List Value) (hs : a.eval s = v) (hown : w.ownsRow base e size v n xs)
    (B : Nat) (A : Option Addr) (m c : Nat) (news : List Value) (hx : a.eval x = .slice A m c) (hr : Reads w B size A m news) (h1 : ∀ u ∈ news, u.oneCell' = true)
    (h63 : n + m ≤ maxLen) (hbytes : (n + m) * bytes ≤ 140737488355328) (hbase : base ≤ w.heap.size)
    (h : ∀ v' w', w'.ownsRow base e size v' (n + m) (xs ++ news) → w.grownBy w' v.ownBlock → (v'.ownBlock = v.ownBlock ∨ v'.ownBlock = some w.heap.size) → wpList P ops Q rest (a.put o.dst v') w') : wpList P ops Q (o :: rest) a w :=
  wpList_plain hgd fun _ hK => wp_append_any w s x t ho base e i z size bytes ht hi hz hsize hby hzs hsz v n xs hs hown B A m c news hx hr h1 h63 hbytes hbase fun v' w' h2 h3 h4 => hK _ _ (h v' w' h2 h3 h4)

theorem step_append_any {ops : Array Oper} {o : Oper} {a : Act} {K : Act → World → Prop} {Q : Exit → Act → World → Prop} {E : Prop} (hgd : o.guard = none) (s x : Operand) (t : TypeId)
    (ho : o.op = .call { callee := .builtin .append, args := #[s, x], argTypes := #[t, t] })
    (base : Nat) (e : TypeId) (i : TypeInfo) (z : Value) (size bytes : Nat) (ht : P.underlying t = some (.slice e)) (hi : P.info? e = some i) (hz : i.zero = some z)
    (hsize : i.size = size) (hby : i.bytes = bytes) (hzs : z.cells.size = size) (hsz : 0 < size)
    (v : Value) (n : Nat) (xs : List Value) (hs : a.eval s = v) (hown : w.ownsRow base e size v n xs)
    (B : Nat) (A : Option Addr) (m c : Nat) (news : List Value) (hx : a.eval x = .slice A m c) (hr : Reads w B size A m news) (h1 : ∀ u ∈ news, u.oneCell' = true)
    (h63 : n + m ≤ maxLen) (hbytes : (n + m) * bytes ≤ 140737488355328) (hbase : base ≤ w.heap.size)
    (h : ∀ v' w', w'.ownsRow base e size v' (n + m) (xs ++ news) → w.grownBy w' v.ownBlock → (v'.ownBlock = v.ownBlock ∨ v'.ownBlock = some w.heap.size) → K (a.put o.dst v') w') :
    if Region.wanted o (yielded ops a.tmps) = true then Oper.wp P o a w K Q else E := by
  have hw : Region.wanted o (yielded ops a.tmps) = true := by simp [Region.wanted, hgd]
  rw [if_pos hw]
  exact wp_append_any w s x t ho base e i z size bytes ht hi hz hsize hby hzs hsz v n xs hs hown B A m c news hx hr h1 h63 hbytes hbase h
end
end Go.Proofs.YtopmodahdmnpjaaGreatDoor
/- deep: a list's items as they lie in a row of its own; what setting does: plain functions; a map of places by their keys. -/
namespace Go.Proofs.YtopmodahdmnpjaaGreatDoor
open Go Go.RowKit
open Go.Maps (Keyed IsMap)
namespace Dp
open Go.Proofs.YtopmodahdmnpjaaGreatDoor.Nm (normG keyV)
abbrev Key3 := Bool × Int × ByteArray
theorem findK_app : ∀ (ks : List Key3) (a k : Key3) (i : Int), 0 ≤ i → findK (ks ++ [a]) k i = if 0 ≤ findK ks k i then findK ks k i else if a = k then i + ks.length else -1
  | [], a, k, i, h => by simp [findK]
  | b :: r, a, k, i, h => by
    rw [List.cons_append, findK, findK]
    by_cases hb : b = k
    · rw [if_pos hb, if_pos hb, if_pos h]
    · rw [if_neg hb, if_neg hb, findK_app r a k (i + 1) (by omega)]
      simp only [List.length_cons]
      split
      · rfl
      · split
        · omega
        · rfl
theorem findK_lt (ks : List Key3) (k : Key3) : findK ks k 0 < ks.length ∧ -1 ≤ findK ks k 0 := by
  have := findK_le ks k 0 (by omega)
  omega
theorem findK_at : ∀ (ks : List Key3) (k : Key3) (i : Int), 0 ≤ i → 0 ≤ findK ks k i → i ≤ findK ks k i ∧ ks[(findK ks k i - i).toNat]? = some k
  | [], k, i, _, h => by simp [findK] at h
  | b :: r, k, i, h0, h => by
    rw [findK] at h ⊢
    by_cases hb : b = k
    · rw [if_pos hb]
      simp [hb]
    · rw [if_neg hb] at h ⊢
      obtain ⟨h1, h2⟩ := findK_at r k (i + 1) (by omega) h
      refine ⟨by omega, ?_⟩
      rw [show (findK r k (i + 1) - i).toNat = (findK r k (i + 1) - (i + 1)).toNat + 1 by omega]
      simpa using h2
/-! ### what setting does -/
def nextK (nx : Int) (k : Key3) : Int := if k.1 = false ∧ 0 ≤ nx ∧ nx ≤ k.2.1 then (if k.2.1 < 9223372036854775807 then k.2.1 + 1 else -1) else nx
def giOf (k : Key3) (v : GV) : GI := .mk k.1 k.2.1 k.2.2 v
theorem giOf_key (k : Key3) (v : GV) : GI.keyG (giOf k v) = k := rfl
def setG (gs : List GI) (nx : Int) (it : GI) : Option (List GI × Int) :=
  if 0 ≤ findK (gs.map GI.keyG) (normG it.isText it.int it.text) 0 then some (gs.set (findK (gs.map GI.keyG) (normG it.isText it.int it.text) 0).toNat (giOf (normG it.isText it.int it.text) it.val), nx)
  else if 2048 ≤ gs.length then none else some (gs ++ [giOf (normG it.isText it.int it.text) it.val], nextK nx (normG it.isText it.int it.text))
def makeG : List GI → List GI → Int → Option (List GI × Int)
  | [], gs, nx => some (gs, nx)
  | it :: r, gs, nx => match setG gs nx it with
    | none => none
    | some p => makeG r p.1 p.2
def zeroG : GV := .mk 0 0 ⟨#[]⟩ []
theorem makeG_drop (l : List GI) (j : Nat) (it : GI) (h : l[j]? = some it) (gs : List GI) (nx : Int) : makeG (l.drop j) gs nx = match setG gs nx it with | none => none | some p => makeG (l.drop (j + 1)) p.1 p.2 := by
  obtain ⟨hj, rfl⟩ := List.getElem?_eq_some_iff.1 h
  rw [List.drop_eq_getElem_cons hj, makeG]
/-! ### items as they lie -/
/-- An item as it lies: its key, its value's cells. -/
structure PI where
  b : Bool
  i : Int
  s : ByteArray
  k : Int
  n : Int
  t : ByteArray
  l : List GI
  A : Option Addr
  c : Nat
def PI.gv (p : PI) : GV := .mk p.k p.n p.t p.l
def PI.it (p : PI) : GI := .mk p.b p.i p.s p.gv
def PI.key (p : PI) : Key3 := (p.b, p.i, p.s)
def PI.val (p : PI) : Value := .agg #[.int .i64 p.k, .int .i64 p.n, .string p.t, .slice p.A p.l.length p.c]
def PI.cells (p : PI) : List Value := [.bool p.b, .int .i64 p.i, .string p.s, .int .i64 p.k, .int .i64 p.n, .string p.t, .slice p.A p.l.length p.c]
def rowC (ps : List PI) : List Value := ps.flatMap PI.cells
/-- The item with another's value. -/
def PI.put (p q : PI) : PI := { p with k := q.k, n := q.n, t := q.t, l := q.l, A := q.A, c := q.c }
theorem rowC_len : ∀ ps : List PI, (rowC ps).length = ps.length * 7
  | [] => rfl
  | p :: ps => by
    show (p.cells ++ rowC ps).length = _
    rw [List.length_append, rowC_len ps]
    simp [PI.cells]
    omega
theorem rowC_app (ps : List PI) (p : PI) : rowC (ps ++ [p]) = rowC ps ++ p.cells := by simp [rowC]
theorem rowC_get : ∀ (ps : List PI) (i : Nat) (p : PI), ps[i]? = some p → ∀ r, r < 7 → (rowC ps)[i * 7 + r]? = p.cells[r]?
  | q :: ps, 0, p, h, r, hr => by
    have e : q = p := by simpa using h
    subst e
    show (q.cells ++ rowC ps)[0 * 7 + r]? = _
    rw [Nat.zero_mul, Nat.zero_add, List.getElem?_append_left (by simp [PI.cells]; omega)]
  | q :: ps, i + 1, p, h, r, hr => by
    show (q.cells ++ rowC ps)[(i + 1) * 7 + r]? = _
    have hl : q.cells.length = 7 := rfl
    rw [List.getElem?_append_right (by omega), hl, show (i + 1) * 7 + r - 7 = i * 7 + r by omega]
    exact rowC_get ps i p (by simpa using h) r hr
theorem rowC_put : ∀ (ps : List PI) (i : Nat) (p q : PI), ps[i]? = some p → ((((rowC ps).set (i * 7 + 3) (.int .i64 q.k)).set (i * 7 + 4) (.int .i64 q.n)).set (i * 7 + 5) (.string q.t)).set (i * 7 + 6) (.slice q.A q.l.length q.c) = rowC (ps.set i (p.put q))
  | a :: ps, 0, p, q, h => by
    have e : a = p := by simpa using h
    subst e
    rfl
  | a :: ps, i + 1, p, q, h => by
    have ih := rowC_put ps i p q (by simpa using h)
    show ((((a.cells ++ rowC ps).set ((i + 1) * 7 + 3) _).set ((i + 1) * 7 + 4) _).set ((i + 1) * 7 + 5) _).set ((i + 1) * 7 + 6) _ = a.cells ++ rowC (ps.set i (p.put q))
    rw [← ih, show (i + 1) * 7 + 3 = (i * 7 + 3) + 7 by omega, show (i + 1) * 7 + 4 = (i * 7 + 4) + 7 by omega, show (i + 1) * 7 + 5 = (i * 7 + 5) + 7 by omega, show (i + 1) * 7 + 6 = (i * 7 + 6) + 7 by omega]
    rfl
theorem cells_fill {xs zs : List Value} (n : Nat) (hx : xs.length = n) (u0 u1 u2 u3 u4 u5 u6 : Value) (hz : zs.length = 7) :
    (((((((xs ++ zs).set n u0).set (n + 1) u1).set (n + 2) u2).set (n + 3) u3).set (n + 4) u4).set (n + 5) u5).set (n + 6) u6 = xs ++ [u0, u1, u2, u3, u4, u5, u6] := by
  subst hx
  obtain ⟨z0, z1, z2, z3, z4, z5, z6, rfl⟩ : ∃ z0 z1 z2 z3 z4 z5 z6, zs = [z0, z1, z2, z3, z4, z5, z6] := by
    match zs, hz with
    | [z0, z1, z2, z3, z4, z5, z6], _ => exact ⟨_, _, _, _, _, _, _, rfl⟩
  have e : ∀ (r : Nat) (ys : List Value) (u : Value), (xs ++ ys).set (xs.length + r) u = xs ++ ys.set r u := fun r ys u => by
    rw [List.set_append_right _ _ (by omega)]
    congr 2
    omega
  rw [show xs.length = xs.length + 0 by omega, e 0]
  simp only [Nat.add_zero, e]
  rfl
theorem keys_put {ps : List PI} {i : Nat} {p q : PI} (_h : ps[i]? = some p) : (ps.set i (p.put q)).map PI.it = (ps.map PI.it).set i (giOf p.key q.gv) := by
  rw [List.map_set]
  rfl
theorem keys_of (ps : List PI) : (ps.map PI.it).map GI.keyG = ps.map PI.key := by
  rw [List.map_map]
  rfl
/-! ### values whose blocks are of one kind -/
inductive VIn (w : World) (S : Nat → Prop) : GV → Value → Prop where
  | mk (k n : Int) (t : ByteArray) (l : List GI) (A : Option Addr) (c b off : Nat) (C : Nat → Value) (hc : l.length ≤ c) (hn : l.length ≤ 9223372036854775807) (hA : 0 < l.length → A = some ⟨b, off, none⟩ ∧ S b)
      (hi : ∀ i it, l[i]? = some it → ItemAt w b (off + i * 7) it (C i)) (hv : ∀ i it, l[i]? = some it → VIn w S it.val (C i)) : VIn w S (.mk k n t l) (.agg #[.int .i64 k, .int .i64 n, .string t, .slice A l.length c])
theorem VIn.at_ {w : World} {S : Nat → Prop} {B : Nat} {g : GV} {x : Value} (h : VIn w S g x) (hS : ∀ b, b < w.heap.size → S b → b < B) (hlt : ∀ b, S b → b < w.heap.size) : VAt w B g x := by
  induction h with
  | mk k n t l A c b off C hc hn hA hi hv ih => exact .mk k n t l A c b off C hc hn (fun h0 => ⟨(hA h0).1, hS b (hlt b (hA h0).2) (hA h0).2⟩) hi ih
theorem VIn.of {w : World} {B : Nat} {g : GV} {x : Value} (h : VAt w B g x) : VIn w (· < B) g x := by
  induction h with
  | mk k n t l A c b off C hc hn hA hi hv ih => exact .mk k n t l A c b off C hc hn hA hi ih
theorem VIn.keep {w w' : World} {S S' : Nat → Prop} {g : GV} {x : Value} (h : VIn w S g x) (hS : ∀ b, S b → S' b) (hk : ∀ p : Addr, S p.block → w'.cell? p = w.cell? p) : VIn w' S' g x := by
  induction h with
  | mk k n t l A c b off C hc hn hA hi hv ih =>
    refine .mk k n t l A c b off C hc hn (fun h0 => ⟨(hA h0).1, hS b (hA h0).2⟩) (fun i it hit => ?_) ih
    have hSb := (hA (Nat.lt_of_le_of_lt (Nat.zero_le i) (List.getElem?_eq_some_iff.1 hit).1)).2
    obtain ⟨h0, h1, h2, v0, v1, v2, v3, e, h3, h4, h5, h6⟩ := hi i it hit
    exact ⟨(hk ⟨b, _, none⟩ hSb).trans h0, (hk ⟨b, _, none⟩ hSb).trans h1, (hk ⟨b, _, none⟩ hSb).trans h2, v0, v1, v2, v3, e,
      (hk ⟨b, _, none⟩ hSb).trans h3, (hk ⟨b, _, none⟩ hSb).trans h4, (hk ⟨b, _, none⟩ hSb).trans h5, (hk ⟨b, _, none⟩ hSb).trans h6⟩
theorem VIn.under {w w' : World} {S : Nat → Prop} {B : Nat} {g : GV} {x : Value} (h : VIn w S g x) (hb : Below B w w') (hS : ∀ b, S b → b < B) : VIn w' S g x := h.keep (fun _ h => h) fun _ hp => hb.cell (hS _ hp)
theorem VIn.form {w : World} {S : Nat → Prop} {k n : Int} {t : ByteArray} {l : List GI} {x : Value} (h : VIn w S (.mk k n t l) x) : ∃ A c, x = .agg #[.int .i64 k, .int .i64 n, .string t, .slice A l.length c] := by
  cases h
  exact ⟨_, _, rfl⟩
theorem addr_add0 {w : World} {g j : Nat} {u : Value} (h : w.cell? ((⟨g, 0, none⟩ : Addr).add j) = some u) : w.cell? ⟨g, j, none⟩ = some u := by
  unfold Addr.add at h
  by_cases h0 : j = 0
  · subst h0
    simpa using h
  · simpa [h0] using h
/-- Whoever owns a row of items has them as a value's. -/
theorem vin_row {w : World} {S : Nat → Prop} {base : Nat} {e : TypeId} {ps : List PI} {A : Option Addr} {c : Nat} (h : w.ownsRow base e 7 (.slice A ps.length c) ps.length (rowC ps)) (hS : ∀ b, base ≤ b → b < w.heap.size → S b) (hp : ∀ p ∈ ps, VIn w S p.gv p.val) (k n : Int) (t : ByteArray) :
    VIn w S (.mk k n t (ps.map PI.it)) (.agg #[.int .i64 k, .int .i64 n, .string t, .slice A ps.length c]) := by
  have hlen : (ps.map PI.it).length = ps.length := by simp
  obtain ⟨g, hg⟩ : ∃ g, 0 < ps.length → A = some ⟨g, 0, none⟩ ∧ base ≤ g ∧ g < w.heap.size := by
    by_cases h0 : 0 < ps.length
    · obtain ⟨g, cap, hv, hb, hlt⟩ := h.form h0
      injection hv with hA
      exact ⟨g, fun _ => ⟨hA, hb, hlt⟩⟩
    · exact ⟨0, fun h1 => absurd h1 h0⟩
  have hcap : ps.length ≤ c ∧ ps.length ≤ 9223372036854775807 := by
    rcases h.2 with ⟨hv, h0⟩ | ⟨g', cap, cur, hv, _, _, hnc, hcm, _⟩
    · rw [h0]
      exact ⟨Nat.zero_le _, Nat.zero_le _⟩
    · injection hv with _ _ e
      subst e
      exact ⟨hnc, Nat.le_trans (Nat.le_trans hnc hcm) (by decide)⟩
  have key := VIn.mk (w := w) (S := S) k n t (ps.map PI.it) A c g 0 (fun i => match ps[i]? with | some p => p.val | none => .nilIface) (by rw [hlen]; exact hcap.1) (by rw [hlen]; exact hcap.2) (fun h0 => by
    rw [hlen] at h0
    exact ⟨(hg h0).1, hS g (hg h0).2.1 (hg h0).2.2⟩) ?_ ?_
  · rw [hlen] at key
    exact key
  · intro i it hit
    rw [List.getElem?_map] at hit
    obtain ⟨p, hpi, rfl⟩ := Option.map_eq_some_iff.1 hit
    have hlt : i < ps.length := (List.getElem?_eq_some_iff.1 hpi).1
    obtain ⟨hA, _, _⟩ := hg (by omega)
    subst hA
    have hc : ∀ r, r < 7 → ∀ u, p.cells[r]? = some u → w.cell? ⟨g, 0 + i * 7 + r, none⟩ = some u := fun r hr u hu => by
      have := h.cells (g := g) rfl (i * 7 + r) u ((rowC_get ps i p hpi r hr).trans hu)
      rw [Nat.zero_add]
      exact addr_add0 this
    refine ⟨hc 0 (by decide) _ rfl, hc 1 (by decide) _ rfl, hc 2 (by decide) _ rfl, .int .i64 p.k, .int .i64 p.n, .string p.t, .slice p.A p.l.length p.c, by rw [hpi]; rfl, hc 3 (by decide) _ rfl, hc 4 (by decide) _ rfl, hc 5 (by decide) _ rfl, hc 6 (by decide) _ rfl⟩
  · intro i it hit
    rw [List.getElem?_map] at hit
    obtain ⟨p, hpi, rfl⟩ := Option.map_eq_some_iff.1 hit
    have := hp p (List.mem_of_getElem? hpi)
    simp only [hpi]
    exact this
/-! ### a map of places -/
def heldElem (v : Value) : Option (DataW Value × List MemPlace) := some (.held v, [])
/-- What the map says of a key. -/
def placeK (ks : List Key3) (k : Key3) : Int := if 0 ≤ findK ks k 0 then findK ks k 0 else 0
def IdxAt (w : World) (b n : Nat) (ks : List Key3) : Prop :=
  ∃ D : DataW Value, w.ownsMap Tryz.prog 32 heldElem b n D ∧ IsMap D ∧ ∀ k kl, keyOf Tryz.prog 32 (keyV k) = some kl → D.atKey kl (.held (.int .i64 0)) = .held (.int .i64 (placeK ks k)) ∧ Maps.has D kl = decide (0 ≤ findK ks k 0)
theorem IdxAt.made (w : World) : IdxAt (w.alloc (.map #[] 0)) w.heap.size 0 [] :=
  ⟨_, World.ownsMap_made w _ _ _, Go.Maps.isMap_empty, fun k kl _ => by simp [DataW.atKey, Maps.has, placeK, findK]⟩
theorem IdxAt.keeps {S : Nat → Prop} {w w' : World} {b n : Nat} {ks : List Key3} (h : IdxAt w b n ks) (kp : Keeps S w w') (hs : ¬ S b) : IdxAt w' b n ks := by
  obtain ⟨D, h1, h2⟩ := h
  exact ⟨D, ownsMap_keeps h1 kp hs, h2⟩
theorem IdxAt.below {w w' : World} {b n : Nat} {ks : List Key3} (h : IdxAt w b n ks) (hb : Below w.heap.size w w') : IdxAt w' b n ks := h.keeps (Keeps.of_below (S := fun _ => False) hb) id
theorem IdxAt.lt {w : World} {b n : Nat} {ks : List Key3} (h : IdxAt w b n ks) : b < w.heap.size := by
  obtain ⟨D, h1, _⟩ := h
  exact h1.lt
set_option maxRecDepth 100000 in
theorem IdxAt.look_ok {w : World} {b n : Nat} {ks : List Key3} (h : IdxAt w b n ks) (k : Key3) (hk : KeyOK k) :
    (Instr.lookup 128 (.map (some b)) (keyV k) true).run Tryz.prog w = .ok (.tuple #[.int .i64 (placeK ks k), .bool (decide (0 ≤ findK ks k 0))]) w := by
  obtain ⟨D, h1, _, h3⟩ := h
  obtain ⟨kl, hkl⟩ := key_lit k hk
  obtain ⟨v, ps, hrun, hv⟩ := h1.look_ok key_keyed Tryz.underlying128 (z := .int .i64 0) (by kernel_rfl) (zd := .held (.int .i64 0)) (zp := []) rfl hkl
  rw [(h3 k kl hkl).1] at hv
  rw [hrun, (h3 k kl hkl).2]
  simp only [heldElem, Option.some.injEq, Prod.mk.injEq, DataW.held.injEq] at hv
  rw [hv.1]
theorem IdxAt.put {w' : World} {b n : Nat} {ks : List Key3} {D : DataW Value} {k : Key3} {kl : Lit} (hkl : keyOf Tryz.prog 32 (keyV k) = some kl) (hno : findK ks k 0 < 0)
    (h2 : IsMap D) (h3 : ∀ k kl, keyOf Tryz.prog 32 (keyV k) = some kl → D.atKey kl (.held (.int .i64 0)) = .held (.int .i64 (placeK ks k)) ∧ Maps.has D kl = decide (0 ≤ findK ks k 0))
    (h1 : w'.ownsMap Tryz.prog 32 heldElem b (n + 1) (D.put kl (.held (.int .i64 ks.length)))) : IdxAt w' b (n + 1) (ks ++ [k]) := by
  refine ⟨_, h1, h2.put _ _, fun k' kl' hk' => ?_⟩
  have hap := findK_app ks k k' 0 (by omega)
  by_cases he : k' = k
  · subst he
    rw [hkl] at hk'
    cases hk'
    rw [if_neg (by omega), if_pos rfl] at hap
    rw [Go.Maps.atKey_put_same h2 (key_keyed.key hkl), Go.Maps.has_put_same h2 (key_keyed.key hkl), placeK, hap]
    simp
  · have hne : kl' ≠ kl := fun e => by
      subst e
      exact he (keyV_inj (key_keyed.inj hk' hkl))
    rw [Go.Maps.atKey_put_other hne, Go.Maps.has_put_other hne, (h3 k' kl' hk').1, (h3 k' kl' hk').2, placeK, placeK, hap]
    by_cases h0 : 0 ≤ findK ks k' 0
    · rw [if_pos h0, if_pos h0, if_pos h0]
      simp
    · rw [if_neg h0, if_neg h0, if_neg (fun e : k = k' => he e.symm)]
      simp
      omega
set_option maxRecDepth 100000 in
theorem wpList_idx_put {w : World} {ops : Array Oper} {rest : List Oper} {o : Oper} {a : Act} {Q : Exit → Act → World → Prop}
    (hg : o.guard = none) (m x v : Operand) (hop : o.op = Op.mapUpdate 128 m x v) {b n : Nat} {ks : List Key3} (hm : a.eval m = .map (some b)) (h : IdxAt w b n ks) (hn : n < maxLen)
    (k : Key3) (hk : KeyOK k) (hno : findK ks k 0 < 0) (hx : a.eval x = keyV k) (hv : a.eval v = .int .i64 ks.length)
    (hK : ∀ w', IdxAt w' b (n + 1) (ks ++ [k]) → w.grownBy w' (some b) → wpList Tryz.prog ops Q rest (a.put o.dst undef) w') : wpList Tryz.prog ops Q (o :: rest) a w := by
  obtain ⟨D, h1, h2, h3⟩ := h
  obtain ⟨kl, hkl⟩ := key_lit k hk
  exact wpList_mapUpdate_own w hg m x v _ hop _ _ key_keyed Tryz.underlying128 _ b n D hm h1 hn _ _ kl hx hv hkl (.held (.int .i64 ks.length)) [] rfl fun w' r1 r2 => hK w' (IdxAt.put hkl hno h2 h3 r1) r2
end Dp
end Go.Proofs.YtopmodahdmnpjaaGreatDoor
/- api: rows of items that a call makes: plain lemmas. -/
namespace Go.Proofs.YtopmodahdmnpjaaGreatDoor
open Go Go.RowKit
namespace Dp
theorem item_info : (Tryz.prog.info? 34).map (fun i => (i.zero, i.size, i.bytes)) = some (some (.agg #[.bool false, .int .i64 0, .string ⟨#[]⟩, .int .i64 0, .int .i64 0, .string ⟨#[]⟩, .slice none 0 0]), 7, 88) := by kernel_rfl
/-- Values whose lists take no more bytes than any argument reaches. -/
inductive Sml : GV → Prop where
  | mk (k n : Int) (t : ByteArray) (l : List GI) (hl : l.length * 88 ≤ 140737488351232) (h : ∀ (i : Nat) (it : GI), l[i]? = some it → Sml it.val) : Sml (.mk k n t l)
/-- A row of items of the call's own, and their values, which are the call's own too. -/
structure RowSt (base : Nat) (w : World) (sv : Value) (ps : List PI) : Prop where
  owns : w.ownsRow base 34 7 sv ps.length (rowC ps)
  vals : ∀ p ∈ ps, VIn w (fun b => base ≤ b ∧ b < w.heap.size ∧ some b ≠ sv.ownBlock) p.gv p.val
theorem RowSt.nil (base : Nat) (w : World) : RowSt base w (.slice none 0 0) [] := ⟨World.ownsRow_nil _ _ _ _, fun p hp => by cases hp⟩
theorem RowSt.form {base : Nat} {w : World} {sv : Value} {ps : List PI} (h : RowSt base w sv ps) : ∃ A c, sv = .slice A ps.length c := by
  rcases h.owns.2 with ⟨e, h0⟩ | ⟨g, cap, cur, e, _⟩
  · exact ⟨none, 0, by rw [e, h0]⟩
  · exact ⟨_, _, e⟩
theorem own_lt {base : Nat} {w : World} {e : TypeId} {sz n : Nat} {sv : Value} {xs : List Value} (h : w.ownsRow base e sz sv n xs) {b : Nat} (hb : w.heap.size ≤ b) : some b ≠ sv.ownBlock := fun e' => by
  have := (h.lt b e'.symm).2
  omega
theorem RowSt.below {base : Nat} {w w' : World} {sv : Value} {ps : List PI} (h : RowSt base w sv ps) (hb : Below w.heap.size w w') : RowSt base w' sv ps := by
  refine ⟨h.owns.kept (row := none) ⟨hb.os, hb.tape, hb.output, hb.size, fun i hi _ => hb.block i hi⟩ (by cases sv.ownBlock <;> simp), fun p hp => (h.vals p hp).keep (fun b h => ⟨h.1, Nat.lt_of_lt_of_le h.2.1 hb.size, h.2.2⟩) fun q hq => hb.cell hq.2.1⟩
/-- One item more. -/
theorem RowSt.app {base : Nat} {w w2 w3 : World} {sv sv' : Value} {ps : List PI} {p : PI} {o : Obj} (h : RowSt base w sv ps) (hb : Below w.heap.size w w2) (hbs : base ≤ w.heap.size) (hv : VIn w2 (fun b => w.heap.size ≤ b ∧ b < w2.heap.size) p.gv p.val)
    (hown : w3.ownsRow base 34 7 sv' (ps.length + 1) (rowC ps ++ p.cells)) (hg : (w2.alloc o).grownBy w3 sv.ownBlock) (hor : sv'.ownBlock = sv.ownBlock ∨ sv'.ownBlock = some (w2.alloc o).heap.size) : RowSt base w3 sv' (ps ++ [p]) := by
  have hsz : w2.heap.size + 1 ≤ w3.heap.size := by have := hg.size; simpa using this
  have hw2 := hb.size
  have hne : ∀ b, b < w2.heap.size → some b ≠ sv.ownBlock → some b ≠ sv'.ownBlock := fun b hlt hn => by
    rcases hor with h1 | h1
    · rw [h1]; exact hn
    · rw [h1]
      intro e
      injection e with e
      simp at e
      omega
  have hk : ∀ b off, b < w2.heap.size → some b ≠ sv.ownBlock → w3.cell? ⟨b, off, none⟩ = w2.cell? ⟨b, off, none⟩ := fun b off hlt hn =>
    (World.cell?_of_block (hg.block b (by simp; omega) hn)).trans (World.cell?_alloc_lt w2 o ⟨b, off, none⟩ hlt)
  have hk' : ∀ q : Addr, q.block < w2.heap.size → some q.block ≠ sv.ownBlock → w3.cell? q = w2.cell? q := fun q hlt hn =>
    (World.cell?_of_block (hg.block q.block (by simp; omega) hn)).trans (World.cell?_alloc_lt w2 o q hlt)
  refine ⟨by rw [List.length_append, rowC_app]; exact hown, fun q hq => ?_⟩
  rcases List.mem_append.1 hq with hq | hq
  · exact (h.vals q hq).keep (fun b hS => ⟨hS.1, by omega, hne b (by omega) hS.2.2⟩) fun a ha => (hk' a (by omega) ha.2.2).trans (hb.cell ha.2.1)
  · have e : q = p := by simpa using hq
    subst e
    exact hv.keep (fun b hS => ⟨by omega, by omega, hne b hS.2 (own_lt h.owns hS.1)⟩) fun a ha => hk' a ha.2 (own_lt h.owns ha.1)
theorem RowSt.vin {base : Nat} {w : World} {sv : Value} {ps : List PI} (h : RowSt base w sv ps) (k n : Int) (t : ByteArray) : VIn w (fun b => base ≤ b ∧ b < w.heap.size) (.mk k n t (ps.map PI.it)) (.agg #[.int .i64 k, .int .i64 n, .string t, sv]) := by
  obtain ⟨A, c, rfl⟩ := h.form
  exact vin_row h.owns (fun b h1 h2 => ⟨h1, h2⟩) (fun p hp => (h.vals p hp).keep (fun b h => ⟨h.1, h.2.1⟩) fun _ _ => rfl) k n t
theorem grown_below {base : Nat} {w w2 w3 : World} {sv : Value} {o : Obj} (hb : Below base w w2) (hbs : base ≤ w.heap.size) (hg : (w2.alloc o).grownBy w3 sv.ownBlock) (hn : ∀ g, sv.ownBlock = some g → base ≤ g) : Below base w w3 :=
  (hb.alloc (Nat.le_trans hbs hb.size) o).grown hg (by have := hb.size; simp; omega) hn
theorem reads_blk {w : World} {g : Nat} {t : TypeId} {p : PI} (h : Blk w g t #[.bool p.b, .int .i64 p.i, .string p.s, .int .i64 p.k, .int .i64 p.n, .string p.t, .slice p.A p.l.length p.c]) : Reads w w.heap.size 7 (some ⟨g, 0, none⟩) 1 p.cells := by
  refine ⟨rfl, fun _ => ⟨⟨g, 0, none⟩, rfl, h.lt, fun j u hu => ?_⟩⟩
  have hj : j < 7 := (List.getElem?_eq_some_iff.1 hu).1
  have e : ((⟨g, 0, none⟩ : Addr).add j) = ⟨g, j, none⟩ := by
    unfold Addr.add
    by_cases h0 : j = 0
    · subst h0; rfl
    · simp [h0]
  rw [e, h.cell]
  simpa [PI.cells] using hu
theorem cells_one (p : PI) : ∀ u ∈ p.cells, u.oneCell' = true := by
  intro u hu
  simp only [PI.cells, List.mem_cons, List.not_mem_nil, or_false] at hu
  rcases hu with rfl | rfl | rfl | rfl | rfl | rfl | rfl <;> rfl
theorem rowC_one (ps : List PI) : ∀ u ∈ rowC ps, u.oneCell' = true := by
  intro u hu
  obtain ⟨p, _, hp⟩ := List.mem_flatMap.1 hu
  exact cells_one p u hp
theorem vat_form2 {w : World} {B : Nat} {k n : Int} {t : ByteArray} {l : List GI} {v0 v1 v2 v3 : Value} (h : VAt w B (.mk k n t l) (.agg #[v0, v1, v2, v3])) : v0 = .int .i64 k ∧ v1 = .int .i64 n ∧ v2 = .string t ∧ ∃ A c, v3 = .slice A l.length c := by
  cases h
  exact ⟨rfl, rfl, rfl, _, _, rfl⟩
/-- append of one item to a row of the call's own, in a region. -/
theorem step_app_item {ops : Array Oper} {o : Oper} {a : Act} {w : World} {K : Act → World → Prop} {Q : Exit → Act → World → Prop} {E : Prop} (hgd : o.guard = none) (s x : Operand)
    (ho : o.op = .call { callee := .builtin .append, args := #[s, x], argTypes := #[22, 22] }) (base : Nat) (sv : Value) (ps : List PI) (hs : a.eval s = sv) (hown : w.ownsRow base 34 7 sv ps.length (rowC ps)) (hbase : base ≤ w.heap.size)
    (A : Option Addr) (m c : Nat) (qs : List PI) (hx : a.eval x = .slice A m c) (hr : Reads w w.heap.size 7 A m (rowC qs)) (hsm : (ps.length + m) * 88 ≤ 140737488355328)
    (h : ∀ v' w', w'.ownsRow base 34 7 v' (ps.length + m) (rowC ps ++ rowC qs) → w.grownBy w' sv.ownBlock → (v'.ownBlock = sv.ownBlock ∨ v'.ownBlock = some w.heap.size) → K (a.put o.dst v') w') :
    if Region.wanted o (yielded ops a.tmps) = true then Oper.wp Tryz.prog o a w K Q else E := by
  obtain ⟨i0, hi0, hz0, hz1, hz2⟩ := info_parts item_info
  exact step_append_any w hgd s x _ ho base 34 i0 _ 7 88 Tryz.underlying22 hi0 hz0 hz1 hz2 rfl (by decide) sv ps.length (rowC ps) hs hown w.heap.size A m c (rowC qs) hx hr (rowC_one qs) (by unfold maxLen; omega) (by omega) hbase h
theorem drewU {B : Nat} {w w' : World} (h : Below B w w') (n : Nat) : Below B w (w'.drewN n) := ⟨h.os, h.tape, h.output, h.size, h.block⟩
theorem seven {w : World} {g : Nat} {t : TypeId} {c0 c1 c2 c3 c4 c5 c6 : Value} (h : Blk w g t #[c0, c1, c2, c3, c4, c5, c6]) : w.cell? ⟨g, 0, none⟩ = some c0 ∧ w.cell? ⟨g, 1, none⟩ = some c1 ∧ w.cell? ⟨g, 2, none⟩ = some c2 ∧ w.cell? ⟨g, 3, none⟩ = some c3 ∧ w.cell? ⟨g, 4, none⟩ = some c4 ∧ w.cell? ⟨g, 5, none⟩ = some c5 ∧ w.cell? ⟨g, 6, none⟩ = some c6 :=
  ⟨h.cell 0, h.cell 1, h.cell 2, h.cell 3, h.cell 4, h.cell 5, h.cell 6⟩
end Dp
end Go.Proofs.YtopmodahdmnpjaaGreatDoor
/- The operations of a region by their numbers. -/
namespace Go.Proofs.YtopmodahdmnpjaaGreatDoor
open Go
namespace Held
theorem op0 {a0 : Oper} {l : List Oper} : (List.toArray (a0 :: l))[0]? = some a0 := rfl
theorem op1 {a0 a1 : Oper} {l : List Oper} : (List.toArray (a0 :: a1 :: l))[1]? = some a1 := rfl
theorem op2 {a0 a1 a2 : Oper} {l : List Oper} : (List.toArray (a0 :: a1 :: a2 :: l))[2]? = some a2 := rfl
theorem op3 {a0 a1 a2 a3 : Oper} {l : List Oper} : (List.toArray (a0 :: a1 :: a2 :: a3 :: l))[3]? = some a3 := rfl
theorem op4 {a0 a1 a2 a3 a4 : Oper} {l : List Oper} : (List.toArray (a0 :: a1 :: a2 :: a3 :: a4 :: l))[4]? = some a4 := rfl
theorem op5 {a0 a1 a2 a3 a4 a5 : Oper} {l : List Oper} : (List.toArray (a0 :: a1 :: a2 :: a3 :: a4 :: a5 :: l))[5]? = some a5 := rfl
theorem op6 {a0 a1 a2 a3 a4 a5 a6 : Oper} {l : List Oper} : (List.toArray (a0 :: a1 :: a2 :: a3 :: a4 :: a5 :: a6 :: l))[6]? = some a6 := rfl
theorem op7 {a0 a1 a2 a3 a4 a5 a6 a7 : Oper} {l : List Oper} : (List.toArray (a0 :: a1 :: a2 :: a3 :: a4 :: a5 :: a6 :: a7 :: l))[7]? = some a7 := rfl
theorem op8 {a0 a1 a2 a3 a4 a5 a6 a7 a8 : Oper} {l : List Oper} : (List.toArray (a0 :: a1 :: a2 :: a3 :: a4 :: a5 :: a6 :: a7 :: a8 :: l))[8]? = some a8 := rfl
theorem op9 {a0 a1 a2 a3 a4 a5 a6 a7 a8 a9 : Oper} {l : List Oper} : (List.toArray (a0 :: a1 :: a2 :: a3 :: a4 :: a5 :: a6 :: a7 :: a8 :: a9 :: l))[9]? = some a9 := rfl
theorem op10 {a0 a1 a2 a3 a4 a5 a6 a7 a8 a9 a10 : Oper} {l : List Oper} : (List.toArray (a0 :: a1 :: a2 :: a3 :: a4 :: a5 :: a6 :: a7 :: a8 :: a9 :: a10 :: l))[10]? = some a10 := rfl
theorem op11 {a0 a1 a2 a3 a4 a5 a6 a7 a8 a9 a10 a11 : Oper} {l : List Oper} : (List.toArray (a0 :: a1 :: a2 :: a3 :: a4 :: a5 :: a6 :: a7 :: a8 :: a9 :: a10 :: a11 :: l))[11]? = some a11 := rfl
theorem op12 {a0 a1 a2 a3 a4 a5 a6 a7 a8 a9 a10 a11 a12 : Oper} {l : List Oper} : (List.toArray (a0 :: a1 :: a2 :: a3 :: a4 :: a5 :: a6 :: a7 :: a8 :: a9 :: a10 :: a11 :: a12 :: l))[12]? = some a12 := rfl
theorem op13 {a0 a1 a2 a3 a4 a5 a6 a7 a8 a9 a10 a11 a12 a13 : Oper} {l : List Oper} : (List.toArray (a0 :: a1 :: a2 :: a3 :: a4 :: a5 :: a6 :: a7 :: a8 :: a9 :: a10 :: a11 :: a12 :: a13 :: l))[13]? = some a13 := rfl
theorem op14 {a0 a1 a2 a3 a4 a5 a6 a7 a8 a9 a10 a11 a12 a13 a14 : Oper} {l : List Oper} : (List.toArray (a0 :: a1 :: a2 :: a3 :: a4 :: a5 :: a6 :: a7 :: a8 :: a9 :: a10 :: a11 :: a12 :: a13 :: a14 :: l))[14]? = some a14 := rfl
theorem op15 {a0 a1 a2 a3 a4 a5 a6 a7 a8 a9 a10 a11 a12 a13 a14 a15 : Oper} {l : List Oper} : (List.toArray (a0 :: a1 :: a2 :: a3 :: a4 :: a5 :: a6 :: a7 :: a8 :: a9 :: a10 :: a11 :: a12 :: a13 :: a14 :: a15 :: l))[15]? = some a15 := rfl
theorem op16 {a0 a1 a2 a3 a4 a5 a6 a7 a8 a9 a10 a11 a12 a13 a14 a15 a16 : Oper} {l : List Oper} : (List.toArray (a0 :: a1 :: a2 :: a3 :: a4 :: a5 :: a6 :: a7 :: a8 :: a9 :: a10 :: a11 :: a12 :: a13 :: a14 :: a15 :: a16 :: l))[16]? = some a16 := rfl
theorem op17 {a0 a1 a2 a3 a4 a5 a6 a7 a8 a9 a10 a11 a12 a13 a14 a15 a16 a17 : Oper} {l : List Oper} : (List.toArray (a0 :: a1 :: a2 :: a3 :: a4 :: a5 :: a6 :: a7 :: a8 :: a9 :: a10 :: a11 :: a12 :: a13 :: a14 :: a15 :: a16 :: a17 :: l))[17]? = some a17 := rfl
theorem op18 {a0 a1 a2 a3 a4 a5 a6 a7 a8 a9 a10 a11 a12 a13 a14 a15 a16 a17 a18 : Oper} {l : List Oper} : (List.toArray (a0 :: a1 :: a2 :: a3 :: a4 :: a5 :: a6 :: a7 :: a8 :: a9 :: a10 :: a11 :: a12 :: a13 :: a14 :: a15 :: a16 :: a17 :: a18 :: l))[18]? = some a18 := rfl
theorem op19 {a0 a1 a2 a3 a4 a5 a6 a7 a8 a9 a10 a11 a12 a13 a14 a15 a16 a17 a18 a19 : Oper} {l : List Oper} : (List.toArray (a0 :: a1 :: a2 :: a3 :: a4 :: a5 :: a6 :: a7 :: a8 :: a9 :: a10 :: a11 :: a12 :: a13 :: a14 :: a15 :: a16 :: a17 :: a18 :: a19 :: l))[19]? = some a19 := rfl
theorem op20 {a0 a1 a2 a3 a4 a5 a6 a7 a8 a9 a10 a11 a12 a13 a14 a15 a16 a17 a18 a19 a20 : Oper} {l : List Oper} : (List.toArray (a0 :: a1 :: a2 :: a3 :: a4 :: a5 :: a6 :: a7 :: a8 :: a9 :: a10 :: a11 :: a12 :: a13 :: a14 :: a15 :: a16 :: a17 :: a18 :: a19 :: a20 :: l))[20]? = some a20 := rfl
theorem op21 {a0 a1 a2 a3 a4 a5 a6 a7 a8 a9 a10 a11 a12 a13 a14 a15 a16 a17 a18 a19 a20 a21 : Oper} {l : List Oper} : (List.toArray (a0 :: a1 :: a2 :: a3 :: a4 :: a5 :: a6 :: a7 :: a8 :: a9 :: a10 :: a11 :: a12 :: a13 :: a14 :: a15 :: a16 :: a17 :: a18 :: a19 :: a20 :: a21 :: l))[21]? = some a21 := rfl
theorem op22 {a0 a1 a2 a3 a4 a5 a6 a7 a8 a9 a10 a11 a12 a13 a14 a15 a16 a17 a18 a19 a20 a21 a22 : Oper} {l : List Oper} : (List.toArray (a0 :: a1 :: a2 :: a3 :: a4 :: a5 :: a6 :: a7 :: a8 :: a9 :: a10 :: a11 :: a12 :: a13 :: a14 :: a15 :: a16 :: a17 :: a18 :: a19 :: a20 :: a21 :: a22 :: l))[22]? = some a22 := rfl
theorem op23 {a0 a1 a2 a3 a4 a5 a6 a7 a8 a9 a10 a11 a12 a13 a14 a15 a16 a17 a18 a19 a20 a21 a22 a23 : Oper} {l : List Oper} : (List.toArray (a0 :: a1 :: a2 :: a3 :: a4 :: a5 :: a6 :: a7 :: a8 :: a9 :: a10 :: a11 :: a12 :: a13 :: a14 :: a15 :: a16 :: a17 :: a18 :: a19 :: a20 :: a21 :: a22 :: a23 :: l))[23]? = some a23 := rfl
theorem op24 {a0 a1 a2 a3 a4 a5 a6 a7 a8 a9 a10 a11 a12 a13 a14 a15 a16 a17 a18 a19 a20 a21 a22 a23 a24 : Oper} {l : List Oper} : (List.toArray (a0 :: a1 :: a2 :: a3 :: a4 :: a5 :: a6 :: a7 :: a8 :: a9 :: a10 :: a11 :: a12 :: a13 :: a14 :: a15 :: a16 :: a17 :: a18 :: a19 :: a20 :: a21 :: a22 :: a23 :: a24 :: l))[24]? = some a24 := rfl
theorem op25 {a0 a1 a2 a3 a4 a5 a6 a7 a8 a9 a10 a11 a12 a13 a14 a15 a16 a17 a18 a19 a20 a21 a22 a23 a24 a25 : Oper} {l : List Oper} : (List.toArray (a0 :: a1 :: a2 :: a3 :: a4 :: a5 :: a6 :: a7 :: a8 :: a9 :: a10 :: a11 :: a12 :: a13 :: a14 :: a15 :: a16 :: a17 :: a18 :: a19 :: a20 :: a21 :: a22 :: a23 :: a24 :: a25 :: l))[25]? = some a25 := rfl
theorem op26 {a0 a1 a2 a3 a4 a5 a6 a7 a8 a9 a10 a11 a12 a13 a14 a15 a16 a17 a18 a19 a20 a21 a22 a23 a24 a25 a26 : Oper} {l : List Oper} : (List.toArray (a0 :: a1 :: a2 :: a3 :: a4 :: a5 :: a6 :: a7 :: a8 :: a9 :: a10 :: a11 :: a12 :: a13 :: a14 :: a15 :: a16 :: a17 :: a18 :: a19 :: a20 :: a21 :: a22 :: a23 :: a24 :: a25 :: a26 :: l))[26]? = some a26 := rfl
theorem op27 {a0 a1 a2 a3 a4 a5 a6 a7 a8 a9 a10 a11 a12 a13 a14 a15 a16 a17 a18 a19 a20 a21 a22 a23 a24 a25 a26 a27 : Oper} {l : List Oper} : (List.toArray (a0 :: a1 :: a2 :: a3 :: a4 :: a5 :: a6 :: a7 :: a8 :: a9 :: a10 :: a11 :: a12 :: a13 :: a14 :: a15 :: a16 :: a17 :: a18 :: a19 :: a20 :: a21 :: a22 :: a23 :: a24 :: a25 :: a26 :: a27 :: l))[27]? = some a27 := rfl
theorem op28 {a0 a1 a2 a3 a4 a5 a6 a7 a8 a9 a10 a11 a12 a13 a14 a15 a16 a17 a18 a19 a20 a21 a22 a23 a24 a25 a26 a27 a28 : Oper} {l : List Oper} : (List.toArray (a0 :: a1 :: a2 :: a3 :: a4 :: a5 :: a6 :: a7 :: a8 :: a9 :: a10 :: a11 :: a12 :: a13 :: a14 :: a15 :: a16 :: a17 :: a18 :: a19 :: a20 :: a21 :: a22 :: a23 :: a24 :: a25 :: a26 :: a27 :: a28 :: l))[28]? = some a28 := rfl
theorem op29 {a0 a1 a2 a3 a4 a5 a6 a7 a8 a9 a10 a11 a12 a13 a14 a15 a16 a17 a18 a19 a20 a21 a22 a23 a24 a25 a26 a27 a28 a29 : Oper} {l : List Oper} : (List.toArray (a0 :: a1 :: a2 :: a3 :: a4 :: a5 :: a6 :: a7 :: a8 :: a9 :: a10 :: a11 :: a12 :: a13 :: a14 :: a15 :: a16 :: a17 :: a18 :: a19 :: a20 :: a21 :: a22 :: a23 :: a24 :: a25 :: a26 :: a27 :: a28 :: a29 :: l))[29]? = some a29 := rfl
theorem op30 {a0 a1 a2 a3 a4 a5 a6 a7 a8 a9 a10 a11 a12 a13 a14 a15 a16 a17 a18 a19 a20 a21 a22 a23 a24 a25 a26 a27 a28 a29 a30 : Oper} {l : List Oper} : (List.toArray (a0 :: a1 :: a2 :: a3 :: a4 :: a5 :: a6 :: a7 :: a8 :: a9 :: a10 :: a11 :: a12 :: a13 :: a14 :: a15 :: a16 :: a17 :: a18 :: a19 :: a20 :: a21 :: a22 :: a23 :: a24 :: a25 :: a26 :: a27 :: a28 :: a29 :: a30 :: l))[30]? = some a30 := rfl
theorem op31 {a0 a1 a2 a3 a4 a5 a6 a7 a8 a9 a10 a11 a12 a13 a14 a15 a16 a17 a18 a19 a20 a21 a22 a23 a24 a25 a26 a27 a28 a29 a30 a31 : Oper} {l : List Oper} : (List.toArray (a0 :: a1 :: a2 :: a3 :: a4 :: a5 :: a6 :: a7 :: a8 :: a9 :: a10 :: a11 :: a12 :: a13 :: a14 :: a15 :: a16 :: a17 :: a18 :: a19 :: a20 :: a21 :: a22 :: a23 :: a24 :: a25 :: a26 :: a27 :: a28 :: a29 :: a30 :: a31 :: l))[31]? = some a31 := rfl
theorem op32 {a0 a1 a2 a3 a4 a5 a6 a7 a8 a9 a10 a11 a12 a13 a14 a15 a16 a17 a18 a19 a20 a21 a22 a23 a24 a25 a26 a27 a28 a29 a30 a31 a32 : Oper} {l : List Oper} : (List.toArray (a0 :: a1 :: a2 :: a3 :: a4 :: a5 :: a6 :: a7 :: a8 :: a9 :: a10 :: a11 :: a12 :: a13 :: a14 :: a15 :: a16 :: a17 :: a18 :: a19 :: a20 :: a21 :: a22 :: a23 :: a24 :: a25 :: a26 :: a27 :: a28 :: a29 :: a30 :: a31 :: a32 :: l))[32]? = some a32 := rfl
theorem op33 {a0 a1 a2 a3 a4 a5 a6 a7 a8 a9 a10 a11 a12 a13 a14 a15 a16 a17 a18 a19 a20 a21 a22 a23 a24 a25 a26 a27 a28 a29 a30 a31 a32 a33 : Oper} {l : List Oper} : (List.toArray (a0 :: a1 :: a2 :: a3 :: a4 :: a5 :: a6 :: a7 :: a8 :: a9 :: a10 :: a11 :: a12 :: a13 :: a14 :: a15 :: a16 :: a17 :: a18 :: a19 :: a20 :: a21 :: a22 :: a23 :: a24 :: a25 :: a26 :: a27 :: a28 :: a29 :: a30 :: a31 :: a32 :: a33 :: l))[33]? = some a33 := rfl
theorem op34 {a0 a1 a2 a3 a4 a5 a6 a7 a8 a9 a10 a11 a12 a13 a14 a15 a16 a17 a18 a19 a20 a21 a22 a23 a24 a25 a26 a27 a28 a29 a30 a31 a32 a33 a34 : Oper} {l : List Oper} : (List.toArray (a0 :: a1 :: a2 :: a3 :: a4 :: a5 :: a6 :: a7 :: a8 :: a9 :: a10 :: a11 :: a12 :: a13 :: a14 :: a15 :: a16 :: a17 :: a18 :: a19 :: a20 :: a21 :: a22 :: a23 :: a24 :: a25 :: a26 :: a27 :: a28 :: a29 :: a30 :: a31 :: a32 :: a33 :: a34 :: l))[34]? = some a34 := rfl
theorem op35 {a0 a1 a2 a3 a4 a5 a6 a7 a8 a9 a10 a11 a12 a13 a14 a15 a16 a17 a18 a19 a20 a21 a22 a23 a24 a25 a26 a27 a28 a29 a30 a31 a32 a33 a34 a35 : Oper} {l : List Oper} : (List.toArray (a0 :: a1 :: a2 :: a3 :: a4 :: a5 :: a6 :: a7 :: a8 :: a9 :: a10 :: a11 :: a12 :: a13 :: a14 :: a15 :: a16 :: a17 :: a18 :: a19 :: a20 :: a21 :: a22 :: a23 :: a24 :: a25 :: a26 :: a27 :: a28 :: a29 :: a30 :: a31 :: a32 :: a33 :: a34 :: a35 :: l))[35]? = some a35 := rfl
theorem op36 {a0 a1 a2 a3 a4 a5 a6 a7 a8 a9 a10 a11 a12 a13 a14 a15 a16 a17 a18 a19 a20 a21 a22 a23 a24 a25 a26 a27 a28 a29 a30 a31 a32 a33 a34 a35 a36 : Oper} {l : List Oper} : (List.toArray (a0 :: a1 :: a2 :: a3 :: a4 :: a5 :: a6 :: a7 :: a8 :: a9 :: a10 :: a11 :: a12 :: a13 :: a14 :: a15 :: a16 :: a17 :: a18 :: a19 :: a20 :: a21 :: a22 :: a23 :: a24 :: a25 :: a26 :: a27 :: a28 :: a29 :: a30 :: a31 :: a32 :: a33 :: a34 :: a35 :: a36 :: l))[36]? = some a36 := rfl
theorem op37 {a0 a1 a2 a3 a4 a5 a6 a7 a8 a9 a10 a11 a12 a13 a14 a15 a16 a17 a18 a19 a20 a21 a22 a23 a24 a25 a26 a27 a28 a29 a30 a31 a32 a33 a34 a35 a36 a37 : Oper} {l : List Oper} : (List.toArray (a0 :: a1 :: a2 :: a3 :: a4 :: a5 :: a6 :: a7 :: a8 :: a9 :: a10 :: a11 :: a12 :: a13 :: a14 :: a15 :: a16 :: a17 :: a18 :: a19 :: a20 :: a21 :: a22 :: a23 :: a24 :: a25 :: a26 :: a27 :: a28 :: a29 :: a30 :: a31 :: a32 :: a33 :: a34 :: a35 :: a36 :: a37 :: l))[37]? = some a37 := rfl
theorem op38 {a0 a1 a2 a3 a4 a5 a6 a7 a8 a9 a10 a11 a12 a13 a14 a15 a16 a17 a18 a19 a20 a21 a22 a23 a24 a25 a26 a27 a28 a29 a30 a31 a32 a33 a34 a35 a36 a37 a38 : Oper} {l : List Oper} : (List.toArray (a0 :: a1 :: a2 :: a3 :: a4 :: a5 :: a6 :: a7 :: a8 :: a9 :: a10 :: a11 :: a12 :: a13 :: a14 :: a15 :: a16 :: a17 :: a18 :: a19 :: a20 :: a21 :: a22 :: a23 :: a24 :: a25 :: a26 :: a27 :: a28 :: a29 :: a30 :: a31 :: a32 :: a33 :: a34 :: a35 :: a36 :: a37 :: a38 :: l))[38]? = some a38 := rfl
theorem op39 {a0 a1 a2 a3 a4 a5 a6 a7 a8 a9 a10 a11 a12 a13 a14 a15 a16 a17 a18 a19 a20 a21 a22 a23 a24 a25 a26 a27 a28 a29 a30 a31 a32 a33 a34 a35 a36 a37 a38 a39 : Oper} {l : List Oper} : (List.toArray (a0 :: a1 :: a2 :: a3 :: a4 :: a5 :: a6 :: a7 :: a8 :: a9 :: a10 :: a11 :: a12 :: a13 :: a14 :: a15 :: a16 :: a17 :: a18 :: a19 :: a20 :: a21 :: a22 :: a23 :: a24 :: a25 :: a26 :: a27 :: a28 :: a29 :: a30 :: a31 :: a32 :: a33 :: a34 :: a35 :: a36 :: a37 :: a38 :: a39 :: l))[39]? = some a39 := rfl
theorem sa {α : Type} (l : List α) (i : Nat) (a : α) : l.toArray.setIfInBounds i a = (l.set i a).toArray := List.setIfInBounds_toArray ..
theorem sz {α : Type} (a : α) (l : List α) (b : α) : (a :: l).set 0 b = b :: l := rfl
theorem ss {α : Type} (a : α) (l : List α) (n : Nat) (b : α) : (a :: l).set (n + 1) b = a :: l.set n b := rfl
section
variable {P : Program} {ops : Array Oper} {Q : Exit → Act → World → Prop} {md : Region.Mode} {S : World → Prop}
theorem tk {i : Nat} {oi : Oper} {v : Value} {fuel : Nat} {listed : Array Bool} {a : Act} {w : World} (hi : ops[i]? = some oi) (hS : S w) (h : wpAnyH P md ops Q S fuel (listed.setIfInBounds i true) (a.put oi.dst v) w)
    (hs : Region.noSelect ops = true := by kernel_rfl) (hf : Region.free md ops listed i = true := by kernel_rfl) (hr : (Region.ready md ops listed).contains i = true := by kernel_rfl)
    (hQ : ∀ c a w, Q (.panic c) (a.put oi.dst v) w → Q (.panic c) a w := by intro _ _ _ h; exact h) (hg : Region.wanted oi (yielded ops a.tmps) = true := by rfl)
    (hy : ∀ w, S w → (execOp a.eval oi).run P w = .ok (.value v) w := by intro wq hSq; (try dsimp only at hSq); first | (go_simp; done) | (go_simp; with_reducible rfl)) : wpAnyH P md ops Q S (fuel + 1) listed a w :=
  wpAnyH_take hi hs hf hr hQ (Or.inl ⟨hg, hy⟩) hS h
end
end Held
end Go.Proofs.YtopmodahdmnpjaaGreatDoor
/- lists: keys in their one form, rows and maps that others keep apart: plain lemmas. -/
namespace Go.Proofs.YtopmodahdmnpjaaGreatDoor
open Go Go.RowKit
namespace Dp
open Go.Proofs.YtopmodahdmnpjaaGreatDoor.Nm (normG keyV norm_any)
theorem normG_eq (b : Bool) (i : Int) (s : ByteArray) : normG b i s = ((Nm.normR b i s.data.toList).1, (Nm.normR b i s.data.toList).2.1, ⟨(Nm.normR b i s.data.toList).2.2.toArray⟩) := by
  rw [Nm.norm_eq]
  unfold normG Nm.normK
  cases b
  · rfl
  · simp only [if_true]
    split
    · rename_i n hn
      split <;> simp_all
    · simp_all
theorem z64 : In64 0 := ⟨by decide, by decide⟩
theorem normG_key (b : Bool) (i : Int) (s : ByteArray) (hi : In64 i) (hs : s.size ≤ 140737488351232) : KeyOK (normG b i s) := by
  rw [normG_eq]
  unfold Nm.normR
  cases b
  · exact ⟨hi, Nat.zero_le _⟩
  · simp only [if_true]
    cases hn : Nm.numericL s.data.toList with
    | none => exact ⟨z64, hs⟩
    | some n =>
      simp only
      by_cases he : Lib.itoa n = s.data.toList
      · rw [if_pos he]
        exact ⟨Nm.numericL_bounds hn, Nat.zero_le _⟩
      · rw [if_neg he]
        exact ⟨z64, hs⟩
theorem own_below {base : Nat} {w w' : World} {e : TypeId} {sz n : Nat} {sv : Value} {xs : List Value} (h : w.ownsRow base e sz sv n xs) (hb : Below w.heap.size w w') : w'.ownsRow base e sz sv n xs :=
  h.kept (row := none) ⟨hb.os, hb.tape, hb.output, hb.size, fun i hi _ => hb.block i hi⟩ (by cases sv.ownBlock <;> simp)
theorem tail_drew {P : Program} {id : Nat} {Q : Exit → Act → World → Prop} {a : Act} {w : World} {l : List Oper} (n : Nat) (hm : P.follows .mixedOrders = true) (hB : Region.lexTailB .any l.toArray n = true)
    (h : wpStill P l.toArray w.drew (fun a' => wpList P l.toArray Q (l.drop n) a' w.drew) (l.take n) a) : (Code.region id l.toArray true).wp P Q a w := wp_region_still_tail n hm hB h
theorem row_ne {w : World} {base b : Nat} {t e : TypeId} {sz n : Nat} {sv : Value} {xs : List Value} {cs : Array Value} (h : w.ownsRow base e sz sv n xs) (hb : Blk w b t cs) (hne : t ≠ e) : some b ≠ sv.ownBlock := by
  rcases h.2 with ⟨rfl, _⟩ | ⟨g, cap, cur, rfl, _, hg, _⟩
  · simp [Value.ownBlock]
  · intro e'
    have : b = g := by simpa [Value.ownBlock] using e'
    subst this
    unfold Blk at hb
    rw [hb] at hg
    injection hg with hg
    injection hg with _ h2
    exact hne h2
theorem idx_row_ne {w : World} {base mb m : Nat} {e : TypeId} {sz n : Nat} {sv : Value} {xs : List Value} {ks : List Key3} (h : w.ownsRow base e sz sv n xs) (hb : IdxAt w mb m ks) : some mb ≠ sv.ownBlock := by
  obtain ⟨D, ⟨es, clock, hm, _⟩, _⟩ := hb
  rcases h.2 with ⟨rfl, _⟩ | ⟨g, cap, cur, rfl, _, hg, _⟩
  · simp [Value.ownBlock]
  · intro e'
    have : mb = g := by simpa [Value.ownBlock] using e'
    subst this
    rw [hm] at hg
    cases hg
theorem idx_blk_ne {w : World} {b mb m : Nat} {t : TypeId} {cs : Array Value} {ks : List Key3} (h : Blk w b t cs) (hb : IdxAt w mb m ks) : b ≠ mb := by
  obtain ⟨D, ⟨es, clock, hm, _⟩, _⟩ := hb
  rintro rfl
  unfold Blk at h
  rw [h] at hm
  cases hm
theorem idx_grown {w w' : World} {mb m : Nat} {ks : List Key3} {row : Option Nat} (h : IdxAt w mb m ks) (hg : w.grownBy w' row) (hne : some mb ≠ row) : IdxAt w' mb m ks :=
  h.keeps (S := fun j => some j = row) ⟨hg.os, hg.tape, hg.output, hg.size, fun i hi hn => hg.block i hi hn⟩ hne
theorem wrap_most : wrap64 9223372036854775808 = -9223372036854775808 := by unfold wrap64; omega
theorem nextK_in {nx : Int} {k : Key3} (h : In64 nx) (hk : KeyOK k) : In64 (nextK nx k) := by
  have h1 : -9223372036854775808 ≤ nx ∧ nx ≤ 9223372036854775807 := h
  have h2 : -9223372036854775808 ≤ k.2.1 ∧ k.2.1 ≤ 9223372036854775807 := hk.1
  show -9223372036854775808 ≤ nextK nx k ∧ nextK nx k ≤ 9223372036854775807
  unfold nextK
  split
  · split <;> omega
  · exact h1
def zeroPI : PI := ⟨false, 0, ⟨#[]⟩, 0, 0, ⟨#[]⟩, [], none, 0⟩
/-- An item's seven cells stored. -/
abbrev fill7 (w : World) (g o : Nat) (p : PI) : World :=
  ((((((w.setCell ⟨g, o, none⟩ (.bool p.b)).setCell ⟨g, o + 1, none⟩ (.int .i64 p.i)).setCell ⟨g, o + 2, none⟩ (.string p.s)).setCell ⟨g, o + 3, none⟩ (.int .i64 p.k)).setCell ⟨g, o + 3 + 1, none⟩ (.int .i64 p.n)).setCell ⟨g, o + 3 + 2, none⟩ (.string p.t)).setCell ⟨g, o + 3 + 3, none⟩ (.slice p.A p.l.length p.c)
theorem fill_keeps (w : World) (g o : Nat) (p : PI) : Keeps (fun j => j = g) w (fill7 w g o p) :=
  (((((((Keeps.refl (fun j => j = g) w).setCell (p := ⟨g, o, none⟩) (.inl rfl) _).setCell (p := ⟨g, o + 1, none⟩) (.inl rfl) _).setCell (p := ⟨g, o + 2, none⟩) (.inl rfl) _).setCell (p := ⟨g, o + 3, none⟩) (.inl rfl) _).setCell (p := ⟨g, o + 3 + 1, none⟩) (.inl rfl) _).setCell (p := ⟨g, o + 3 + 2, none⟩) (.inl rfl) _).setCell (p := ⟨g, o + 3 + 3, none⟩) (.inl rfl) _
theorem fill_row {w : World} {base g cap n : Nat} {e : TypeId} {xs zs : List Value} (h : w.ownsRow base e 7 (.slice (some ⟨g, 0, none⟩) (n + 1) cap) (n + 1) (xs ++ zs)) (hx : xs.length = n * 7) (hz : zs.length = 7) (p : PI) : (fill7 w g (n * 7) p).ownsRow base e 7 (.slice (some ⟨g, 0, none⟩) (n + 1) cap) (n + 1) (xs ++ p.cells) := by
  have h7 := ((((((((h.stored (n * 7) (.bool p.b)).1.stored (n * 7 + 1) (.int .i64 p.i)).1.stored (n * 7 + 2) (.string p.s)).1.stored (n * 7 + 3) (.int .i64 p.k)).1.stored (n * 7 + 3 + 1) (.int .i64 p.n)).1.stored (n * 7 + 3 + 2) (.string p.t)).1.stored (n * 7 + 3 + 3) (.slice p.A p.l.length p.c)).1)
  rw [show n * 7 + 3 + 1 = n * 7 + 4 by omega, show n * 7 + 3 + 2 = n * 7 + 5 by omega, show n * 7 + 3 + 3 = n * 7 + 6 by omega, cells_fill (n * 7) hx _ _ _ _ _ _ _ hz] at h7
  exact h7
theorem set_keeps (w : World) (b o : Nat) (u : Value) : Keeps (fun j => j = b) w (w.setCell ⟨b, o, none⟩ u) := (Keeps.refl (fun j => j = b) w).setCell (p := ⟨b, o, none⟩) (.inl rfl) _
theorem own_keeps {w w' : World} {base g : Nat} {e : TypeId} {sz n : Nat} {sv : Value} {xs : List Value} (h : w.ownsRow base e sz sv n xs) (hk : Keeps (fun j => j = g) w w') (hne : some g ≠ sv.ownBlock) : w'.ownsRow base e sz sv n xs :=
  h.kept (row := some g) ⟨hk.os, hk.tape, hk.output, hk.size, fun i hi hn => hk.block i hi (fun e => hn (by rw [e]))⟩ (.inr hne.symm)
theorem skv {w : World} {x y : Nat} {tx ty : TypeId} {c0 c1 c2 d0 d1 d2 d3 : Value} (h : Blk w x tx #[c0, c1, c2]) (h' : Blk w y ty #[d0, d1, d2, d3]) : w.cell? ⟨x, 0, none⟩ = some c0 ∧ w.cell? ⟨x, 1, none⟩ = some c1 ∧ w.cell? ⟨x, 2, none⟩ = some c2 ∧ w.cell? ⟨y, 0, none⟩ = some d0 ∧ w.cell? ⟨y, 1, none⟩ = some d1 ∧ w.cell? ⟨y, 2, none⟩ = some d2 ∧ w.cell? ⟨y, 3, none⟩ = some d3 :=
  ⟨h.cell 0, h.cell 1, h.cell 2, h'.cell 0, h'.cell 1, h'.cell 2, h'.cell 3⟩
theorem seven_row {w : World} {base g cap : Nat} {e : TypeId} {ps : List PI} (h : w.ownsRow base e 7 (.slice (some ⟨g, 0, none⟩) (ps.length + 1) cap) (ps.length + 1) (rowC ps ++ rowC [zeroPI])) :
    (w.cell? ⟨g, ps.length * 7, none⟩ = some (.bool false) ∧ w.cell? ⟨g, ps.length * 7 + 1, none⟩ = some (.int .i64 0) ∧ w.cell? ⟨g, ps.length * 7 + 2, none⟩ = some (.string ⟨#[]⟩) ∧ w.cell? ⟨g, ps.length * 7 + 3, none⟩ = some (.int .i64 0) ∧ w.cell? ⟨g, ps.length * 7 + 3 + 1, none⟩ = some (.int .i64 0) ∧ w.cell? ⟨g, ps.length * 7 + 3 + 2, none⟩ = some (.string ⟨#[]⟩) ∧ w.cell? ⟨g, ps.length * 7 + 3 + 3, none⟩ = some (.slice none 0 0))
    ∧ w.frozen? ⟨g, ps.length * 7, none⟩ = false ∧ w.frozen? ⟨g, ps.length * 7 + 1, none⟩ = false ∧ w.frozen? ⟨g, ps.length * 7 + 2, none⟩ = false ∧ w.frozen? ⟨g, ps.length * 7 + 3, none⟩ = false ∧ w.frozen? ⟨g, ps.length * 7 + 3 + 1, none⟩ = false ∧ w.frozen? ⟨g, ps.length * 7 + 3 + 2, none⟩ = false ∧ w.frozen? ⟨g, ps.length * 7 + 3 + 3, none⟩ = false := by
  have hc : ∀ r u, zeroPI.cells[r]? = some u → w.cell? ⟨g, ps.length * 7 + r, none⟩ = some u := fun r u hu => addr_add0 (h.cells (g := g) rfl (ps.length * 7 + r) u (by
    rw [List.getElem?_append_right (by rw [rowC_len]; omega), rowC_len, show ps.length * 7 + r - ps.length * 7 = r by omega]
    simpa [rowC] using hu))
  exact ⟨⟨hc 0 _ rfl, hc 1 _ rfl, hc 2 _ rfl, hc 3 _ rfl, hc 4 _ rfl, hc 5 _ rfl, hc 6 _ rfl⟩, h.frozenAt _, h.frozenAt _, h.frozenAt _, h.frozenAt _, h.frozenAt _, h.frozenAt _, h.frozenAt _⟩
theorem reads_one {w : World} {g : Nat} {t : TypeId} {p : PI} (h : Blk w g t #[.bool p.b, .int .i64 p.i, .string p.s, .int .i64 p.k, .int .i64 p.n, .string p.t, .slice p.A p.l.length p.c]) : Reads w w.heap.size 7 (some ⟨g, 0, none⟩) 1 (rowC [p]) := by
  simpa [rowC] using reads_blk h
end Dp
end Go.Proofs.YtopmodahdmnpjaaGreatDoor
/- lists: what a put of an object that is no cells keeps: plain lemmas. -/
namespace Go.Proofs.YtopmodahdmnpjaaGreatDoor
open Go Go.RowKit
namespace Dp
theorem cell_put {A : World} {l : Nat} {o o' : Obj} (h : A.heap[l]? = some o) (ho : o.isCells = false) (ho' : o'.isCells = false) (q : Addr) : (A.putObj l o').cell? q = A.cell? q := by
  by_cases hq : q.block = l
  · have hlt := (Array.getElem?_eq_some_iff.1 h).1
    have h2 := World.putObj_heap_same (o := o') hlt
    unfold World.cell?
    rw [hq, h, h2]
    cases o <;> cases o' <;> first | rfl | (exfalso; revert ho'; simp [Obj.isCells]; done) | (exfalso; revert ho; simp [Obj.isCells]; done)
  · exact World.cell?_of_block (World.putObj_heap_other hq)
theorem blk_put {A : World} {l g : Nat} {t : TypeId} {cs : Array Value} {o : Obj} (hb : Blk A g t cs) (h : A.heap[l]? = some o) (ho : o.isCells = false) (o' : Obj) : Blk (A.putObj l o') g t cs := by
  refine (World.putObj_heap_other (fun e => ?_)).trans hb
  subst e
  unfold Blk at hb
  rw [hb] at h
  cases h
  cases ho
theorem row_put {A : World} {l base : Nat} {sv : Value} {ps : List PI} {o o' : Obj} (hr : RowSt base A sv ps) (h : A.heap[l]? = some o) (ho : o.isCells = false) (ho' : o'.isCells = false) : RowSt base (A.putObj l o') sv ps :=
  ⟨ownsRow_putObj hr.owns o' h ho, fun p hp => (hr.vals p hp).keep (fun b hb => ⟨hb.1, by simpa using hb.2.1, hb.2.2⟩) fun q _ => cell_put h ho ho' q⟩
theorem below_put {A w : World} {m l : Nat} (h : Below m w A) {o : Obj} (hl : A.heap[l]? = some o) (hm : m ≤ l) (o' : Obj) : Below m w (A.putObj l o') :=
  h.grown (grownBy_putObj' A l o') (by have := (Array.getElem?_eq_some_iff.1 hl).1; omega) (fun k e => by cases e; exact hm)
/-- An item that a list has: its key is one, its value lies where the argument lay. -/
def Vok (w : World) (B : Nat) (q : PI) : Prop := KeyOK q.key ∧ VAt w B q.gv q.val ∧ Fit q.gv ∧ Sml q.gv
/-- The item with another key. -/
def PI.key_ (p : PI) (k : Key3) : PI := { p with b := k.1, i := k.2.1, s := k.2.2 }
end Dp
end Go.Proofs.YtopmodahdmnpjaaGreatDoor
/- deep.copied: a value of its own: the walk. -/
namespace Go.Proofs.YtopmodahdmnpjaaGreatDoor
open Go Go.RowKit
namespace Dp
section
variable {w : World} {B : Nat}
set_option maxRecDepth 100000 in
set_option maxHeartbeats 4000000 in
theorem copied_any (hBw : B ≤ w.heap.size) {g : GV} {x : Value} (h : VAt w B g x) (hs : Sml g) : ∀ (w' : World), Below B w w' →
    Calls Tryz.prog 15 #[x] w' fun e w'' => ∃ y, e = .returned y ∧ VIn w'' (fun b => w'.heap.size ≤ b ∧ b < w''.heap.size) g y ∧ Below w'.heap.size w' w'' := by
  induction h with
  | mk k n t l A c b off C hc hn hA hi hv ih =>
    intro w' hb
    cases hs with
    | mk _ _ _ _ hl hsm =>
    have hB' : B ≤ w'.heap.size := Nat.le_trans hBw hb.size
    have HA := Lib.hid hA
    have HI := Lib.hid hi
    have HV := Lib.hid (fun i it h => ih i it h (hsm i it h))
    have HW := Lib.hid hv
    have Hb := Lib.hid hb
    have hal := fun (w1 : World) (o : Obj) => (Below.refl w1.heap.size w1).alloc (Nat.le_refl _) o
    have HAL := Lib.hid hal
    have HB0 := Lib.hid ((((Below.refl w'.heap.size w').alloc (Nat.le_refl _) (.cells #[.int .i64 k, .int .i64 n, .string t, .slice A l.length c] 24))).alloc (by simp) (.cells #[.int .i64 0, .int .i64 0, .string ⟨#[]⟩, .slice none 0 0] 24))
    have HX0 := Lib.hid (blk_below (Blk.new w' 24 #[.int .i64 k, .int .i64 n, .string t, .slice A l.length c]) (hal _ (.cells #[.int .i64 0, .int .i64 0, .string ⟨#[]⟩, .slice none 0 0] 24)))
    have HZ0 := Lib.hid (Blk.new (w'.alloc (.cells #[.int .i64 k, .int .i64 n, .string t, .slice A l.length c] 24)) 24 #[.int .i64 0, .int .i64 0, .string ⟨#[]⟩, .slice none 0 0])
    have hw1 : (w'.alloc (.cells #[.int .i64 k, .int .i64 n, .string t, .slice A l.length c] 24)).heap.size = w'.heap.size + 1 := by simp
    rw [hw1] at HZ0
    have HR0 := Lib.hid (RowSt.nil (w'.heap.size + 2) ((w'.alloc (.cells #[.int .i64 k, .int .i64 n, .string t, .slice A l.length c] 24)).alloc (.cells #[.int .i64 0, .int .i64 0, .string ⟨#[]⟩, .slice none 0 0] 24)))
    clear hA hi ih hv hb hw1 hal hsm
    go_enter Tryz.func15, Tryz.ntmps15
    go_wp2_with fail
    go_loopw [3, 9] (fun x3 xi wx => ∃ (j : Nat) (ps : List PI) (A3 : Option Addr) (c3 : Nat), j ≤ l.length ∧ xi = .int .i64 j ∧ x3 = .slice A3 j c3 ∧ ps.length = j ∧ Hid (ps.map PI.it = l.take j) ∧ w'.heap.size + 2 ≤ wx.heap.size ∧ Hid (RowSt (w'.heap.size + 2) wx (.slice A3 j c3) ps) ∧ Hid (Below w'.heap.size w' wx) ∧ Hid (Blk wx w'.heap.size 24 #[.int .i64 k, .int .i64 n, .string t, .slice A l.length c]) ∧ Hid (Blk wx (w'.heap.size + 1) 24 #[.int .i64 0, .int .i64 0, .string ⟨#[]⟩, .slice none 0 0])) (fun _ xi _ => l.length - (ixOf xi).toNat)
    case atStart => exact ⟨0, [], none, 0, Nat.zero_le _, rfl, rfl, rfl, by simp [Hid], by simp, HR0, HB0, HX0, HZ0⟩
    case round =>
      obtain ⟨j, ps, A3, c3, hj, rfl, rfl, hpj, HP, hsz, HR, HB, HX, HZ⟩ := hrel
      clear HB0 HX0 HZ0 HR0
      by_cases hlt : j < l.length
      · obtain ⟨it, hit⟩ : ∃ it, l[j]? = some it := ⟨_, List.getElem?_eq_getElem hlt⟩
        obtain ⟨rfl, hbB⟩ := HA.out (by omega)
        have hbw : Below B w wr := Hb.out.trans (HB.out.mono hB')
        have hwr := HB.out.size
        obtain ⟨c0, c1, c2, v0, v1, v2, v3, e, c3', c4, c5, c6⟩ := (HI.out j it hit).below hbw hbB
        have hform := HW.out j it hit
        have HTk : Hid (l.take (j + 1) = l.take j ++ [it]) := by
          show _ = _
          rw [List.take_add_one, hit]
          rfl
        have hR := fun wz (hz : Below B w wz) => HV.out j it hit wz hz
        rw [e] at hform hR
        obtain ⟨ib, ii, is, iv⟩ := it
        simp only [GI.val, GI.isText, GI.int, GI.text] at hform hR c0 c1 c2
        obtain ⟨k1, n1, t1, l1⟩ := iv
        obtain ⟨rfl, rfl, rfl, A1, e1, rfl⟩ := vat_form2 hform
        have HCR : Hid (∀ wz : World, Below B w wz → Calls Tryz.prog 15 #[.agg #[.int .i64 k1, .int .i64 n1, .string t1, .slice A1 l1.length e1]] wz fun e w2 => ∃ A2 c2, e = .returned (.agg #[.int .i64 k1, .int .i64 n1, .string t1, .slice A2 l1.length c2]) ∧ VIn w2 (fun b => wz.heap.size ≤ b ∧ b < w2.heap.size) (.mk k1 n1 t1 l1) (.agg #[.int .i64 k1, .int .i64 n1, .string t1, .slice A2 l1.length c2]) ∧ Below wz.heap.size wz w2) := fun wz hz => (hR wz hz).mono fun e w2 ⟨y, h1, h2, h3⟩ => by
          obtain ⟨A2, c2, rfl⟩ := h2.form
          exact ⟨A2, c2, h1, h2, h3⟩
        clear hform HW e hR HI HV
        have Hbw := Lib.hid (hbw.alloc (by omega) (.cells #[.bool ib, .int .i64 ii, .string is, .int .i64 k1, .int .i64 n1, .string t1, .slice A1 l1.length e1] 34))
        have HBi := Lib.hid (HAL.out wr (.cells #[.bool ib, .int .i64 ii, .string is, .int .i64 k1, .int .i64 n1, .string t1, .slice A1 l1.length e1] 34))
        have HIi := Lib.hid (Blk.new wr 34 #[.bool ib, .int .i64 ii, .string is, .int .i64 k1, .int .i64 n1, .string t1, .slice A1 l1.length e1])
        have d0 := HIi.out.cell 0
        have d1 := HIi.out.cell 1
        have d2 := HIi.out.cell 2
        have d3 := HIi.out.cell 3
        have d4 := HIi.out.cell 4
        have d5 := HIi.out.cell 5
        have d6 := HIi.out.cell 6
        clear hbw
        go_upto_region 5 with fail
        have hwi : (wr.alloc (.cells #[.bool ib, .int .i64 ii, .string is, .int .i64 k1, .int .i64 n1, .string t1, .slice A1 l1.length e1] 34)).heap.size = wr.heap.size + 1 := by simp
        generalize wr.alloc (.cells #[.bool ib, .int .i64 ii, .string is, .int .i64 k1, .int .i64 n1, .string t1, .slice A1 l1.length e1] 34) = wi at *
        go_region_held3 (fun w' => w'.cell? ⟨wr.heap.size, 0, none⟩ = some (.bool ib) ∧ w'.cell? ⟨wr.heap.size, 1, none⟩ = some (.int .i64 ii) ∧ w'.cell? ⟨wr.heap.size, 2, none⟩ = some (.string is) ∧ w'.cell? ⟨wr.heap.size, 3, none⟩ = some (.int .i64 k1) ∧ w'.cell? ⟨wr.heap.size, 4, none⟩ = some (.int .i64 n1) ∧ w'.cell? ⟨wr.heap.size, 5, none⟩ = some (.string t1) ∧ w'.cell? ⟨wr.heap.size, 6, none⟩ = some (.slice A1 l1.length e1))
          (first | exact ⟨d0, d1, d2, d3, d4, d5, d6⟩ | exact ⟨y0, y1, y2, y3, y4, y5, y6⟩ | exact (seven (Blk.alloc HI2.out _)) | exact (seven HI3.out))
          (first
            | (go_at_call 15; refine (HCR.out _ (Hbw.out.trans (drewU (Below.refl _ _) 1))).mono ?_; rintro e w2 ⟨A2, c2, rfl, hy, hb2⟩; have HY2 := Lib.hid hy; have HB2 := Lib.hid ((drewU (Below.refl wi.heap.size wi) 1).trans hb2); have HI2 := Lib.hid (blk_below HIi.out HB2.out); have y0 := HI2.out.cell 0; have y1 := HI2.out.cell 1; have y2 := HI2.out.cell 2; have y3 := HI2.out.cell 3; have y4 := HI2.out.cell 4; have y5 := HI2.out.cell 5; have y6 := HI2.out.cell 6; clear hy hb2)
            | (refine step_app_item rfl (.tmp 13) (.tmp 20) rfl (w'.heap.size + 2) (.slice A3 j c3) ps rfl ((HR.out.below (HBi.out.trans (HB2.out.mono (by omega)))).below (HAL.out _ _)).owns ?_ (some ⟨w2.heap.size, 0, none⟩) 1 1 [⟨ib, ii, is, k1, n1, t1, l1, A2, c2⟩] rfl (by simpa [rowC, PI.cells] using reads_blk (p := ⟨ib, ii, is, k1, n1, t1, l1, A2, c2⟩) (Blk.new w2 _ _)) (by omega) ?_
               · have := HB2.out.size; simp; omega
               intro v3 w3 hown3 hg3 hor3
               have HO3 := Lib.hid hown3; have HG3 := Lib.hid hg3; have HQ3 := Lib.hid hor3; have HI3 := Lib.hid ((HI2.out.alloc _).grown hg3 (own_lt HR.out.owns (Nat.le_refl _))); clear hown3 hg3 hor3))
        have hw2 := HB2.out.size
        have hw3 := HG3.out.size
        have hbw2 := HBi.out.trans (HB2.out.mono (by omega))
        have hRn := RowSt.app (p := ⟨ib, ii, is, k1, n1, t1, l1, A2, c2⟩) HR.out hbw2 (by omega) (HY2.out.keep (fun b hS => ⟨by have := hS.1; simp at this; omega, hS.2⟩) fun _ _ => rfl) (by simpa [rowC, PI.cells] using HO3.out) HG3.out HQ3.out
        obtain ⟨A4, c4', hv3⟩ := hRn.form
        rw [List.length_append, hpj] at hv3
        have hge : ∀ gb, Value.ownBlock (.slice A3 j c3) = some gb → w'.heap.size + 2 ≤ gb := fun gb e => (HR.out.owns.lt gb e).1
        have HB3 := Lib.hid (grown_below (HB.out.trans (hbw2.mono hwr)) (Nat.le_refl _) HG3.out (fun gb e => by have := hge gb e; omega))
        have HX3 := Lib.hid (((HX.out.below hbw2 (by omega)).alloc _).grown HG3.out (fun e => by have := hge _ e.symm; omega))
        have HZ3 := Lib.hid (((HZ.out.below hbw2 (by omega)).alloc _).grown HG3.out (fun e => by have := hge _ e.symm; omega))
        have HP3 : Hid ((ps ++ [(⟨ib, ii, is, k1, n1, t1, l1, A2, c2⟩ : PI)]).map PI.it = l.take (j + 1)) := by
          show _ = _
          rw [HTk.out, List.map_append, HP.out]
          rfl
        have HRn := Lib.hid hRn
        subst hv3
        clear hRn hge hbw2 HY2 HO3 HG3 HQ3 HI3 HI2 HB2 HBi HIi HR HX HZ HB HTk HP HCR Hbw
        go_wp2_with fail
        go_roundw
        case rel => exact ⟨j + 1, _, A4, c4', by omega, by go_num, rfl, by simp [hpj], HP3, by simp at hw3; omega, HRn, HB3, HX3, HZ3⟩
        case measure => simp [ixOf] <;> omega
      · obtain rfl : j = l.length := by omega
        have HV3 := Lib.hid (HR.out.vin k n t)
        rw [HP.out, List.take_length] at HV3
        have z0 : wr.cell? ⟨w'.heap.size + 1, 0, none⟩ = some (.int .i64 0) := HZ.out.cell 0
        have z1 : wr.cell? ⟨w'.heap.size + 1, 1, none⟩ = some (.int .i64 0) := HZ.out.cell 1
        have z2 : wr.cell? ⟨w'.heap.size + 1, 2, none⟩ = some (.string ⟨#[]⟩) := HZ.out.cell 2
        have z3 : wr.cell? ⟨w'.heap.size + 1, 3, none⟩ = some (.slice none 0 0) := HZ.out.cell 3
        have x0 : wr.cell? ⟨w'.heap.size, 0, none⟩ = some (.int .i64 k) := HX.out.cell 0
        have x1 : wr.cell? ⟨w'.heap.size, 1, none⟩ = some (.int .i64 n) := HX.out.cell 1
        have x2 : wr.cell? ⟨w'.heap.size, 2, none⟩ = some (.string t) := HX.out.cell 2
        have x3 : wr.cell? ⟨w'.heap.size, 3, none⟩ = some (.slice A l.length c) := HX.out.cell 3
        have zf0 := HZ.out.frozen 0
        have zf1 := HZ.out.frozen 1
        have zf2 := HZ.out.frozen 2
        have zf3 := HZ.out.frozen 3
        have xf3 := HX.out.frozen 3
        clear HI HV HA HW
        go_wp2_with fail
        have HZf := (((((HZ.out.far (p := ⟨w'.heap.size, 3, none⟩) (by simp) (.slice A3 l.length c3)).set_ 0 (.int .i64 k)).set_ 1 (.int .i64 n)).set_ 2 (.string t)).set_ 3 (.slice A3 l.length c3))
        have HVf : VIn (((((wr.setCell ⟨w'.heap.size, 3, none⟩ (.slice A3 l.length c3)).setCell ⟨w'.heap.size + 1, 0, none⟩ (.int .i64 k)).setCell ⟨w'.heap.size + 1, 1, none⟩ (.int .i64 n)).setCell ⟨w'.heap.size + 1, 2, none⟩ (.string t)).setCell ⟨w'.heap.size + 1, 3, none⟩ (.slice A3 l.length c3)) (fun b => w'.heap.size ≤ b ∧ b < wr.heap.size) (.mk k n t l) (.agg #[.int .i64 k, .int .i64 n, .string t, .slice A3 l.length c3]) := HV3.out.keep (fun b h => ⟨by omega, h.2⟩) (fun q hq => by
          rw [World.cell?_setCell_far, World.cell?_setCell_far, World.cell?_setCell_far, World.cell?_setCell_far, World.cell?_setCell_far] <;> (simp; omega))
        have HBf : Below w'.heap.size w' (((((wr.setCell ⟨w'.heap.size, 3, none⟩ (.slice A3 l.length c3)).setCell ⟨w'.heap.size + 1, 0, none⟩ (.int .i64 k)).setCell ⟨w'.heap.size + 1, 1, none⟩ (.int .i64 n)).setCell ⟨w'.heap.size + 1, 2, none⟩ (.string t)).setCell ⟨w'.heap.size + 1, 3, none⟩ (.slice A3 l.length c3)) :=
          ((((HB.out.setCell (p := ⟨w'.heap.size, 3, none⟩) (Nat.le_refl _) _).setCell (p := ⟨w'.heap.size + 1, 0, none⟩) (by simp) _).setCell (p := ⟨w'.heap.size + 1, 1, none⟩) (by simp) _).setCell (p := ⟨w'.heap.size + 1, 2, none⟩) (by simp) _).setCell (p := ⟨w'.heap.size + 1, 3, none⟩) (by simp) _
        have hzf : (((((wr.setCell ⟨w'.heap.size, 3, none⟩ (.slice A3 l.length c3)).setCell ⟨w'.heap.size + 1, 0, none⟩ (.int .i64 k)).setCell ⟨w'.heap.size + 1, 1, none⟩ (.int .i64 n)).setCell ⟨w'.heap.size + 1, 2, none⟩ (.string t)).setCell ⟨w'.heap.size + 1, 3, none⟩ (.slice A3 l.length c3)).heap.size = wr.heap.size := by simp
        generalize ((((wr.setCell ⟨w'.heap.size, 3, none⟩ (.slice A3 l.length c3)).setCell ⟨w'.heap.size + 1, 0, none⟩ (.int .i64 k)).setCell ⟨w'.heap.size + 1, 1, none⟩ (.int .i64 n)).setCell ⟨w'.heap.size + 1, 2, none⟩ (.string t)).setCell ⟨w'.heap.size + 1, 3, none⟩ (.slice A3 l.length c3) = wf at *
        have e0 : wf.cell? ⟨w'.heap.size + 1, 0, none⟩ = some (.int .i64 k) := HZf.cell 0
        have e1 : wf.cell? ⟨w'.heap.size + 1, 1, none⟩ = some (.int .i64 n) := HZf.cell 1
        have e2 : wf.cell? ⟨w'.heap.size + 1, 2, none⟩ = some (.string t) := HZf.cell 2
        have e3 : wf.cell? ⟨w'.heap.size + 1, 3, none⟩ = some (.slice A3 l.length c3) := HZf.cell 3
        refine bodyPost_ret (v := .agg #[.int .i64 k, .int .i64 n, .string t, .slice A3 l.length c3]) (by simp [results, Tryz.results15, go_sem, e0, e1, e2, e3]) rfl ?_
        exact ⟨_, rfl, by rw [hzf]; exact HVf, HBf⟩
end
end Dp
end Go.Proofs.YtopmodahdmnpjaaGreatDoor
/- list.List of values: New, ok, own, Next: the walks. -/
namespace Go.Proofs.YtopmodahdmnpjaaGreatDoor
open Go Go.RowKit
namespace Dp
open Go.Proofs.YtopmodahdmnpjaaGreatDoor.Nm (normG keyV norm_any)
/-- A list that somebody made, whose items no other list has. -/
structure LstAt (base : Nat) (w : World) (b mb : Nat) (sh : Bool) (sv : Value) (ps : List PI) (nx : Int) : Prop where
  blk : Blk w b 130 #[.bool true, .bool sh, sv, .map (some mb), .int .i64 nx]
  idx : IdxAt w mb ps.length (ps.map PI.key)
  owns : w.ownsRow base 136 7 sv ps.length (rowC ps)
  hb : base ≤ b
  hm : base ≤ mb
theorem LstAt.form {base b mb : Nat} {w : World} {sh : Bool} {sv : Value} {ps : List PI} {nx : Int} (h : LstAt base w b mb sh sv ps nx) : ∃ A c, sv = .slice A ps.length c := by
  rcases h.owns.2 with ⟨e, h0⟩ | ⟨g, cap, cur, e, _⟩
  · exact ⟨none, 0, by rw [e, h0]⟩
  · exact ⟨_, _, e⟩
theorem LstAt.below {base b mb : Nat} {w w' : World} {sh : Bool} {sv : Value} {ps : List PI} {nx : Int} (h : LstAt base w b mb sh sv ps nx) (hb : Below w.heap.size w w') : LstAt base w' b mb sh sv ps nx :=
  ⟨blk_below h.blk hb, h.idx.below hb, own_below h.owns hb, h.hb, h.hm⟩
section
set_option maxRecDepth 100000 in
theorem new_any (w : World) : Calls Tryz.prog 90 #[] w fun e w' => e = .returned (.pointer (some ⟨w.heap.size + 1, 0, none⟩)) ∧ LstAt w.heap.size w' (w.heap.size + 1) w.heap.size false (.slice none 0 0) [] 0 ∧ Below w.heap.size w w' := by
  have hI := (IdxAt.made w).below (((Below.refl (w.alloc (.map #[] 0)).heap.size (w.alloc (.map #[] 0))).alloc (Nat.le_refl _) (.cells #[.bool true, .bool false, .slice none 0 0, .map (some w.heap.size), .int .i64 0] 130)))
  have hB := Blk.new (w.alloc (.map #[] 0)) 130 #[.bool true, .bool false, .slice none 0 0, .map (some w.heap.size), .int .i64 0]
  have hs : (w.alloc (.map #[] 0)).heap.size = w.heap.size + 1 := by simp
  rw [hs] at hB
  have HI := Lib.hid hI
  have HB := Lib.hid hB
  have HW := Lib.hid ((((Below.refl w.heap.size w).alloc (Nat.le_refl _) (.map #[] 0))).alloc (by simp) (.cells #[.bool true, .bool false, .slice none 0 0, .map (some w.heap.size), .int .i64 0] 130))
  clear hI hB hs
  have hmm := @run_makeMap Tryz.prog
  go_enter Tryz.func90, Tryz.ntmps90
  go_wp2_with fail
  go_ret
  exact ⟨rfl, ⟨HB.out, HI.out, World.ownsRow_nil _ _ _ _, Nat.le_succ _, Nat.le_refl _⟩, HW.out⟩
set_option maxRecDepth 100000 in
theorem ok_any (w : World) (b : Nat) (h : w.cell? ⟨b, 0, none⟩ = some (.bool true)) : Calls Tryz.prog 142 #[.pointer (some ⟨b, 0, none⟩)] w fun e w' => e = .returned (.bool true) ∧ w' = w := by
  go_enter Tryz.func142, Tryz.ntmps142
  go_wp2_with fail
  go_ret
  exact ⟨rfl, rfl⟩
set_option maxRecDepth 100000 in
theorem own_any (w : World) (b : Nat) (h : w.cell? ⟨b, 1, none⟩ = some (.bool false)) : Calls Tryz.prog 146 #[.pointer (some ⟨b, 0, none⟩)] w fun e w' => (∃ v, e = .returned v) ∧ w' = w := by
  go_enter Tryz.func146, Tryz.ntmps146
  go_wp2_with fail
  refine bodyPost_ret (results_none rfl _ _ _) rfl ?_
  exact ⟨⟨_, rfl⟩, rfl⟩
set_option maxRecDepth 100000 in
theorem next_any (w : World) (b : Nat) (nx : Int) (h : w.cell? ⟨b, 0, none⟩ = some (.bool true)) (h4 : w.cell? ⟨b, 4, none⟩ = some (.int .i64 nx)) : Calls Tryz.prog 143 #[.pointer (some ⟨b, 0, none⟩)] w fun e w' => e = .returned (.int .i64 nx) ∧ w' = w := by
  have HK := Lib.hid (ok_any w b h)
  go_enter Tryz.func143, Tryz.ntmps143
  go_wp2_with (go_at_call 142; refine HK.out.mono ?_; rintro e w' ⟨rfl, rfl⟩)
  go_ret
  exact ⟨rfl, rfl⟩
end
end Dp
end Go.Proofs.YtopmodahdmnpjaaGreatDoor
