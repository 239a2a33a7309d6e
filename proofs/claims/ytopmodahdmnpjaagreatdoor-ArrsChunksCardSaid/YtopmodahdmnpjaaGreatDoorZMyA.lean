/- deep: a map of the keys that were met. -/
import Derived.Test.YtopmodahdmnpjaaGreatDoorZNmPQ
namespace Go.Proofs.YtopmodahdmnpjaaGreatDoor
open Go Go.RowKit
open Go.Maps (Keyed IsMap)
namespace Dp
open Go.Proofs.YtopmodahdmnpjaaGreatDoor.Nm (normG keyV)
/-- The map at b has just the keys ks, each with true. -/
def MetAt (w : World) (b n : Nat) (ks : List (Bool × Int × ByteArray)) : Prop :=
  ∃ D : DataW Unit, w.ownsMap Tryz.prog 32 (plainElem Tryz.prog 4) b n D ∧ IsMap D ∧ ∀ k kl, keyOf Tryz.prog 32 (keyV k) = some kl → D.atKey kl (.lit (.bool false)) = .lit (.bool (decide (k ∈ ks)))
theorem MetAt.made (w : World) : MetAt (w.alloc (.map #[] 0)) w.heap.size 0 [] :=
  ⟨_, World.ownsMap_made w _ _ _, Go.Maps.isMap_empty, fun k kl _ => by simp [DataW.atKey]⟩
theorem MetAt.keeps {S : Nat → Prop} {w w' : World} {b n : Nat} {ks : List (Bool × Int × ByteArray)} (h : MetAt w b n ks) (kp : Keeps S w w') (hs : ¬ S b) : MetAt w' b n ks := by
  obtain ⟨D, h1, h2⟩ := h
  exact ⟨D, ownsMap_keeps h1 kp hs, h2⟩
theorem MetAt.below {w w' : World} {b n : Nat} {ks : List (Bool × Int × ByteArray)} (h : MetAt w b n ks) (hb : Below w.heap.size w w') : MetAt w' b n ks := h.keeps (Keeps.of_below (S := fun _ => False) hb) id
theorem MetAt.lt {w : World} {b n : Nat} {ks : List (Bool × Int × ByteArray)} (h : MetAt w b n ks) : b < w.heap.size := by
  obtain ⟨D, h1, _⟩ := h
  exact h1.lt
set_option maxRecDepth 100000 in
theorem MetAt.look {w : World} {b n : Nat} {ks : List (Bool × Int × ByteArray)} (h : MetAt w b n ks) (k : Bool × Int × ByteArray) (hk : KeyOK k) :
    (Instr.lookup 178 (.map (some b)) (keyV k) false).run Tryz.prog w = .ok (.bool (decide (k ∈ ks))) w := by
  obtain ⟨D, h1, _, h3⟩ := h
  obtain ⟨kl, hkl⟩ := key_lit k hk
  obtain ⟨v, ps, hrun, hv⟩ := h1.lookup key_keyed Tryz.underlying178 (z := .bool false) (by kernel_rfl) (plainElem_bool Tryz.underlying4 false) hkl
  rw [h3 k kl hkl] at hv
  rw [hrun]
  congr 1
  cases v <;> simp [plainElem, Tryz.underlying4] at hv
  rw [hv.1]
theorem MetAt.put {w' : World} {b n : Nat} {ks : List (Bool × Int × ByteArray)} {D : DataW Unit} {k : Bool × Int × ByteArray} {kl : Lit} (hkl : keyOf Tryz.prog 32 (keyV k) = some kl)
    (h2 : IsMap D) (h3 : ∀ k kl, keyOf Tryz.prog 32 (keyV k) = some kl → D.atKey kl (.lit (.bool false)) = .lit (.bool (decide (k ∈ ks))))
    (h1 : w'.ownsMap Tryz.prog 32 (plainElem Tryz.prog 4) b (n + 1) (D.put kl (.lit (.bool true)))) : MetAt w' b (n + 1) (ks ++ [k]) := by
  refine ⟨_, h1, h2.put _ _, fun k' kl' hk' => ?_⟩
  by_cases he : k' = k
  · subst he
    rw [hkl] at hk'
    cases hk'
    rw [Go.Maps.atKey_put_same h2 (key_keyed.key hkl)]
    simp
  · have hne : kl' ≠ kl := fun e => by
      subst e
      exact he (keyV_inj (key_keyed.inj hk' hkl))
    rw [Go.Maps.atKey_put_other hne, h3 k' kl' hk']
    simp [he]
set_option maxRecDepth 100000 in
theorem wpList_met_put {w : World} {ops : Array Oper} {rest : List Oper} {o : Oper} {a : Act} {Q : Exit → Act → World → Prop}
    (hg : o.guard = none) (m x v : Operand) (hop : o.op = Op.mapUpdate 178 m x v) {b n : Nat} {ks : List (Bool × Int × ByteArray)} (hm : a.eval m = .map (some b)) (h : MetAt w b n ks) (hn : n < maxLen)
    (k : Bool × Int × ByteArray) (hk : KeyOK k) (hx : a.eval x = keyV k) (hv : a.eval v = .bool true)
    (hK : ∀ w', MetAt w' b (n + 1) (ks ++ [k]) → w.grownBy w' (some b) → wpList Tryz.prog ops Q rest (a.put o.dst undef) w') : wpList Tryz.prog ops Q (o :: rest) a w := by
  obtain ⟨D, h1, h2, h3⟩ := h
  obtain ⟨kl, hkl⟩ := key_lit k hk
  exact wpList_mapUpdate_own w hg m x v _ hop _ _ key_keyed Tryz.underlying178 _ b n D hm h1 hn _ _ kl hx hv hkl (.lit (.bool true)) [] (plainElem_bool Tryz.underlying4 true) fun w' r1 r2 => hK w' (MetAt.put hkl h2 h3 r1) r2
end Dp
end Go.Proofs.YtopmodahdmnpjaaGreatDoor
