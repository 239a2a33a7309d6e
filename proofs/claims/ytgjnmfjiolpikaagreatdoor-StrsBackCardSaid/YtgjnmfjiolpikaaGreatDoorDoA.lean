/- deep: a list's items as they lie in a row of its own; what setting does: plain functions; a map of places by their keys. -/
import Derived.Test.YtgjnmfjiolpikaaGreatDoorMyAa
import Derived.Test.YtgjnmfjiolpikaaGreatDoorApps
import Derived.Maps.OwnSet
import Derived.Maps.OwnOps
namespace Go.Proofs.YtgjnmfjiolpikaaGreatDoor
open Go Go.RowKit
open Go.Maps (Keyed IsMap)
namespace Dp
open Go.Proofs.YtgjnmfjiolpikaaGreatDoor.Nm (normG keyV)
abbrev Key3 := Bool × Int × ByteArray
theorem findK_app : ∀ (ks : List Key3) (a k : Key3) (i : Int), 0 ≤ i → findK (ks ++ [a]) k i = if 0 ≤ findK ks k i then findK ks k i else if a = k then i + ks.length else -1
  | [], a, k, i, h => by simp [findK]
  | b :: r, a, k, i, h => by
    rw [List.cons_append, findK, findK]
    by_cases hb : b = k
    · rw [if_pos hb, if_pos hb, if_pos h]
    · rw [if_neg hb, if_neg hb, findK_app r a k (i + 1) (by omega)]
      simp only [List.length_cons]
      split
      · rfl
      · split
        · omega
        · rfl
theorem findK_lt (ks : List Key3) (k : Key3) : findK ks k 0 < ks.length ∧ -1 ≤ findK ks k 0 := by
  have := findK_le ks k 0 (by omega)
  omega
theorem findK_at : ∀ (ks : List Key3) (k : Key3) (i : Int), 0 ≤ i → 0 ≤ findK ks k i → i ≤ findK ks k i ∧ ks[(findK ks k i - i).toNat]? = some k
  | [], k, i, _, h => by simp [findK] at h
  | b :: r, k, i, h0, h => by
    rw [findK] at h ⊢
    by_cases hb : b = k
    · rw [if_pos hb]
      simp [hb]
    · rw [if_neg hb] at h ⊢
      obtain ⟨h1, h2⟩ := findK_at r k (i + 1) (by omega) h
      refine ⟨by omega, ?_⟩
      rw [show (findK r k (i + 1) - i).toNat = (findK r k (i + 1) - (i + 1)).toNat + 1 by omega]
      simpa using h2
/-! ### what setting does -/
def nextK (nx : Int) (k : Key3) : Int := if k.1 = false ∧ 0 ≤ nx ∧ nx ≤ k.2.1 then (if k.2.1 < 9223372036854775807 then k.2.1 + 1 else -1) else nx
def giOf (k : Key3) (v : GV) : GI := .mk k.1 k.2.1 k.2.2 v
theorem giOf_key (k : Key3) (v : GV) : GI.keyG (giOf k v) = k := rfl
def setG (gs : List GI) (nx : Int) (it : GI) : Option (List GI × Int) :=
  if 0 ≤ findK (gs.map GI.keyG) (normG it.isText it.int it.text) 0 then some (gs.set (findK (gs.map GI.keyG) (normG it.isText it.int it.text) 0).toNat (giOf (normG it.isText it.int it.text) it.val), nx)
  else if 2048 ≤ gs.length then none else some (gs ++ [giOf (normG it.isText it.int it.text) it.val], nextK nx (normG it.isText it.int it.text))
def makeG : List GI → List GI → Int → Option (List GI × Int)
  | [], gs, nx => some (gs, nx)
  | it :: r, gs, nx => match setG gs nx it with
    | none => none
    | some p => makeG r p.1 p.2
def zeroG : GV := .mk 0 0 ⟨#[]⟩ []
theorem makeG_drop (l : List GI) (j : Nat) (it : GI) (h : l[j]? = some it) (gs : List GI) (nx : Int) : makeG (l.drop j) gs nx = match setG gs nx it with | none => none | some p => makeG (l.drop (j + 1)) p.1 p.2 := by
  obtain ⟨hj, rfl⟩ := List.getElem?_eq_some_iff.1 h
  rw [List.drop_eq_getElem_cons hj, makeG]
/-! ### items as they lie -/
/-- An item as it lies: its key, its value's cells. -/
structure PI where
  b : Bool
  i : Int
  s : ByteArray
  k : Int
  n : Int
  t : ByteArray
  l : List GI
  A : Option Addr
  c : Nat
def PI.gv (p : PI) : GV := .mk p.k p.n p.t p.l
def PI.it (p : PI) : GI := .mk p.b p.i p.s p.gv
def PI.key (p : PI) : Key3 := (p.b, p.i, p.s)
def PI.val (p : PI) : Value := .agg #[.int .i64 p.k, .int .i64 p.n, .string p.t, .slice p.A p.l.length p.c]
def PI.cells (p : PI) : List Value := [.bool p.b, .int .i64 p.i, .string p.s, .int .i64 p.k, .int .i64 p.n, .string p.t, .slice p.A p.l.length p.c]
def rowC (ps : List PI) : List Value := ps.flatMap PI.cells
/-- The item with another's value. -/
def PI.put (p q : PI) : PI := { p with k := q.k, n := q.n, t := q.t, l := q.l, A := q.A, c := q.c }
theorem rowC_len : ∀ ps : List PI, (rowC ps).length = ps.length * 7
  | [] => rfl
  | p :: ps => by
    show (p.cells ++ rowC ps).length = _
    rw [List.length_append, rowC_len ps]
    simp [PI.cells]
    omega
theorem rowC_app (ps : List PI) (p : PI) : rowC (ps ++ [p]) = rowC ps ++ p.cells := by simp [rowC]
theorem rowC_get : ∀ (ps : List PI) (i : Nat) (p : PI), ps[i]? = some p → ∀ r, r < 7 → (rowC ps)[i * 7 + r]? = p.cells[r]?
  | q :: ps, 0, p, h, r, hr => by
    have e : q = p := by simpa using h
    subst e
    show (q.cells ++ rowC ps)[0 * 7 + r]? = _
    rw [Nat.zero_mul, Nat.zero_add, List.getElem?_append_left (by simp [PI.cells]; omega)]
  | q :: ps, i + 1, p, h, r, hr => by
    show (q.cells ++ rowC ps)[(i + 1) * 7 + r]? = _
    have hl : q.cells.length = 7 := rfl
    rw [List.getElem?_append_right (by omega), hl, show (i + 1) * 7 + r - 7 = i * 7 + r by omega]
    exact rowC_get ps i p (by simpa using h) r hr
theorem rowC_put : ∀ (ps : List PI) (i : Nat) (p q : PI), ps[i]? = some p → ((((rowC ps).set (i * 7 + 3) (.int .i64 q.k)).set (i * 7 + 4) (.int .i64 q.n)).set (i * 7 + 5) (.string q.t)).set (i * 7 + 6) (.slice q.A q.l.length q.c) = rowC (ps.set i (p.put q))
  | a :: ps, 0, p, q, h => by
    have e : a = p := by simpa using h
    subst e
    rfl
  | a :: ps, i + 1, p, q, h => by
    have ih := rowC_put ps i p q (by simpa using h)
    show ((((a.cells ++ rowC ps).set ((i + 1) * 7 + 3) _).set ((i + 1) * 7 + 4) _).set ((i + 1) * 7 + 5) _).set ((i + 1) * 7 + 6) _ = a.cells ++ rowC (ps.set i (p.put q))
    rw [← ih, show (i + 1) * 7 + 3 = (i * 7 + 3) + 7 by omega, show (i + 1) * 7 + 4 = (i * 7 + 4) + 7 by omega, show (i + 1) * 7 + 5 = (i * 7 + 5) + 7 by omega, show (i + 1) * 7 + 6 = (i * 7 + 6) + 7 by omega]
    rfl
theorem cells_fill {xs zs : List Value} (n : Nat) (hx : xs.length = n) (u0 u1 u2 u3 u4 u5 u6 : Value) (hz : zs.length = 7) :
    (((((((xs ++ zs).set n u0).set (n + 1) u1).set (n + 2) u2).set (n + 3) u3).set (n + 4) u4).set (n + 5) u5).set (n + 6) u6 = xs ++ [u0, u1, u2, u3, u4, u5, u6] := by
  subst hx
  obtain ⟨z0, z1, z2, z3, z4, z5, z6, rfl⟩ : ∃ z0 z1 z2 z3 z4 z5 z6, zs = [z0, z1, z2, z3, z4, z5, z6] := by
    match zs, hz with
    | [z0, z1, z2, z3, z4, z5, z6], _ => exact ⟨_, _, _, _, _, _, _, rfl⟩
  have e : ∀ (r : Nat) (ys : List Value) (u : Value), (xs ++ ys).set (xs.length + r) u = xs ++ ys.set r u := fun r ys u => by
    rw [List.set_append_right _ _ (by omega)]
    congr 2
    omega
  rw [show xs.length = xs.length + 0 by omega, e 0]
  simp only [Nat.add_zero, e]
  rfl
theorem keys_put {ps : List PI} {i : Nat} {p q : PI} (_h : ps[i]? = some p) : (ps.set i (p.put q)).map PI.it = (ps.map PI.it).set i (giOf p.key q.gv) := by
  rw [List.map_set]
  rfl
theorem keys_of (ps : List PI) : (ps.map PI.it).map GI.keyG = ps.map PI.key := by
  rw [List.map_map]
  rfl
/-! ### values whose blocks are of one kind -/
inductive VIn (w : World) (S : Nat → Prop) : GV → Value → Prop where
  | mk (k n : Int) (t : ByteArray) (l : List GI) (A : Option Addr) (c b off : Nat) (C : Nat → Value) (hc : l.length ≤ c) (hn : l.length ≤ 9223372036854775807) (hA : 0 < l.length → A = some ⟨b, off, none⟩ ∧ S b)
      (hi : ∀ i it, l[i]? = some it → ItemAt w b (off + i * 7) it (C i)) (hv : ∀ i it, l[i]? = some it → VIn w S it.val (C i)) : VIn w S (.mk k n t l) (.agg #[.int .i64 k, .int .i64 n, .string t, .slice A l.length c])
theorem VIn.at_ {w : World} {S : Nat → Prop} {B : Nat} {g : GV} {x : Value} (h : VIn w S g x) (hS : ∀ b, b < w.heap.size → S b → b < B) (hlt : ∀ b, S b → b < w.heap.size) : VAt w B g x := by
  induction h with
  | mk k n t l A c b off C hc hn hA hi hv ih => exact .mk k n t l A c b off C hc hn (fun h0 => ⟨(hA h0).1, hS b (hlt b (hA h0).2) (hA h0).2⟩) hi ih
theorem VIn.of {w : World} {B : Nat} {g : GV} {x : Value} (h : VAt w B g x) : VIn w (· < B) g x := by
  induction h with
  | mk k n t l A c b off C hc hn hA hi hv ih => exact .mk k n t l A c b off C hc hn hA hi ih
theorem VIn.keep {w w' : World} {S S' : Nat → Prop} {g : GV} {x : Value} (h : VIn w S g x) (hS : ∀ b, S b → S' b) (hk : ∀ p : Addr, S p.block → w'.cell? p = w.cell? p) : VIn w' S' g x := by
  induction h with
  | mk k n t l A c b off C hc hn hA hi hv ih =>
    refine .mk k n t l A c b off C hc hn (fun h0 => ⟨(hA h0).1, hS b (hA h0).2⟩) (fun i it hit => ?_) ih
    have hSb := (hA (Nat.lt_of_le_of_lt (Nat.zero_le i) (List.getElem?_eq_some_iff.1 hit).1)).2
    obtain ⟨h0, h1, h2, v0, v1, v2, v3, e, h3, h4, h5, h6⟩ := hi i it hit
    exact ⟨(hk ⟨b, _, none⟩ hSb).trans h0, (hk ⟨b, _, none⟩ hSb).trans h1, (hk ⟨b, _, none⟩ hSb).trans h2, v0, v1, v2, v3, e,
      (hk ⟨b, _, none⟩ hSb).trans h3, (hk ⟨b, _, none⟩ hSb).trans h4, (hk ⟨b, _, none⟩ hSb).trans h5, (hk ⟨b, _, none⟩ hSb).trans h6⟩
theorem VIn.under {w w' : World} {S : Nat → Prop} {B : Nat} {g : GV} {x : Value} (h : VIn w S g x) (hb : Below B w w') (hS : ∀ b, S b → b < B) : VIn w' S g x := h.keep (fun _ h => h) fun _ hp => hb.cell (hS _ hp)
theorem VIn.form {w : World} {S : Nat → Prop} {k n : Int} {t : ByteArray} {l : List GI} {x : Value} (h : VIn w S (.mk k n t l) x) : ∃ A c, x = .agg #[.int .i64 k, .int .i64 n, .string t, .slice A l.length c] := by
  cases h
  exact ⟨_, _, rfl⟩
theorem addr_add0 {w : World} {g j : Nat} {u : Value} (h : w.cell? ((⟨g, 0, none⟩ : Addr).add j) = some u) : w.cell? ⟨g, j, none⟩ = some u := by
  unfold Addr.add at h
  by_cases h0 : j = 0
  · subst h0
    simpa using h
  · simpa [h0] using h
/-- Whoever owns a row of items has them as a value's. -/
theorem vin_row {w : World} {S : Nat → Prop} {base : Nat} {e : TypeId} {ps : List PI} {A : Option Addr} {c : Nat} (h : w.ownsRow base e 7 (.slice A ps.length c) ps.length (rowC ps)) (hS : ∀ b, base ≤ b → b < w.heap.size → S b) (hp : ∀ p ∈ ps, VIn w S p.gv p.val) (k n : Int) (t : ByteArray) :
    VIn w S (.mk k n t (ps.map PI.it)) (.agg #[.int .i64 k, .int .i64 n, .string t, .slice A ps.length c]) := by
  have hlen : (ps.map PI.it).length = ps.length := by simp
  obtain ⟨g, hg⟩ : ∃ g, 0 < ps.length → A = some ⟨g, 0, none⟩ ∧ base ≤ g ∧ g < w.heap.size := by
    by_cases h0 : 0 < ps.length
    · obtain ⟨g, cap, hv, hb, hlt⟩ := h.form h0
      injection hv with hA
      exact ⟨g, fun _ => ⟨hA, hb, hlt⟩⟩
    · exact ⟨0, fun h1 => absurd h1 h0⟩
  have hcap : ps.length ≤ c ∧ ps.length ≤ 9223372036854775807 := by
    rcases h.2 with ⟨hv, h0⟩ | ⟨g', cap, cur, hv, _, _, hnc, hcm, _⟩
    · rw [h0]
      exact ⟨Nat.zero_le _, Nat.zero_le _⟩
    · injection hv with _ _ e
      subst e
      exact ⟨hnc, Nat.le_trans (Nat.le_trans hnc hcm) (by decide)⟩
  have key := VIn.mk (w := w) (S := S) k n t (ps.map PI.it) A c g 0 (fun i => match ps[i]? with | some p => p.val | none => .nilIface) (by rw [hlen]; exact hcap.1) (by rw [hlen]; exact hcap.2) (fun h0 => by
    rw [hlen] at h0
    exact ⟨(hg h0).1, hS g (hg h0).2.1 (hg h0).2.2⟩) ?_ ?_
  · rw [hlen] at key
    exact key
  · intro i it hit
    rw [List.getElem?_map] at hit
    obtain ⟨p, hpi, rfl⟩ := Option.map_eq_some_iff.1 hit
    have hlt : i < ps.length := (List.getElem?_eq_some_iff.1 hpi).1
    obtain ⟨hA, _, _⟩ := hg (by omega)
    subst hA
    have hc : ∀ r, r < 7 → ∀ u, p.cells[r]? = some u → w.cell? ⟨g, 0 + i * 7 + r, none⟩ = some u := fun r hr u hu => by
      have := h.cells (g := g) rfl (i * 7 + r) u ((rowC_get ps i p hpi r hr).trans hu)
      rw [Nat.zero_add]
      exact addr_add0 this
    refine ⟨hc 0 (by decide) _ rfl, hc 1 (by decide) _ rfl, hc 2 (by decide) _ rfl, .int .i64 p.k, .int .i64 p.n, .string p.t, .slice p.A p.l.length p.c, by rw [hpi]; rfl, hc 3 (by decide) _ rfl, hc 4 (by decide) _ rfl, hc 5 (by decide) _ rfl, hc 6 (by decide) _ rfl⟩
  · intro i it hit
    rw [List.getElem?_map] at hit
    obtain ⟨p, hpi, rfl⟩ := Option.map_eq_some_iff.1 hit
    have := hp p (List.mem_of_getElem? hpi)
    simp only [hpi]
    exact this
/-! ### a map of places -/
def heldElem (v : Value) : Option (DataW Value × List MemPlace) := some (.held v, [])
/-- What the map says of a key. -/
def placeK (ks : List Key3) (k : Key3) : Int := if 0 ≤ findK ks k 0 then findK ks k 0 else 0
end Dp
end Go.Proofs.YtgjnmfjiolpikaaGreatDoor
