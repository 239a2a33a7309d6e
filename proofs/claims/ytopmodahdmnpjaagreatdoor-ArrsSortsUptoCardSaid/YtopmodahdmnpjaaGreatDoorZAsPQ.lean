/- Sorting by insertion keeps just the numbers, each not above the next; what is sorted is so in one way only: plain laws. -/
import Derived.Test.YtopmodahdmnpjaaGreatDoorZMyJQ
import Derived.Test.YtopmodahdmnpjaaGreatDoorZAppsQ
namespace Go.Proofs.YtopmodahdmnpjaaGreatDoor
namespace As
/-- In order, by what may stand ahead of what. -/
def Ord (back : Bool) (a b : Int) : Prop := if back then b ≤ a else a ≤ b
theorem Ord.trans {k : Bool} {a b c : Int} (h : Ord k a b) (g : Ord k b c) : Ord k a c := by
  unfold Ord at *
  split at h <;> simp_all <;> omega
theorem Ord.anti {k : Bool} {a b : Int} (h : Ord k a b) (g : Ord k b a) : a = b := by
  unfold Ord at *
  split at h <;> simp_all <;> omega
theorem Ord.tot {k : Bool} {a b : Int} (h : ¬ Ord k a b) : Ord k b a := by
  unfold Ord at *
  split at h <;> simp_all <;> omega
theorem Ord.rfl_ {k : Bool} (a : Int) : Ord k a a := by
  unfold Ord
  split <;> omega
def insAt (out : List Int) (at_ : Nat) (x : Int) : List Int := out.take at_ ++ x :: out.drop at_
/-- Where a number is set in: all behind are beyond it, the one ahead is not. -/
structure Fits (k : Bool) (out : List Int) (x : Int) (at_ : Nat) : Prop where
  le : at_ ≤ out.length
  behind : ∀ j y, at_ ≤ j → out[j]? = some y → ¬ Ord k y x
  ahead : ∀ y, 0 < at_ → out[at_ - 1]? = some y → Ord k y x
theorem Fits.sorted {k : Bool} {out : List Int} {x : Int} {at_ : Nat} (h : Fits k out x at_) (hs : out.Pairwise (Ord k)) : (insAt out at_ x).Pairwise (Ord k) := by
  unfold insAt
  have hst := (List.take_append_drop at_ out) ▸ hs
  rw [List.pairwise_append] at hst
  obtain ⟨h1, h2, h3⟩ := hst
  rw [List.pairwise_append, List.pairwise_cons]
  have hb : ∀ y ∈ out.drop at_, Ord k x y := fun y hy => by
    obtain ⟨j, hj⟩ := List.mem_iff_getElem?.1 hy
    rw [List.getElem?_drop] at hj
    exact Ord.tot (h.behind _ y (Nat.le_add_right _ _) hj)
  have ha : ∀ y ∈ out.take at_, Ord k y x := fun y hy => by
    obtain ⟨j, hj⟩ := List.mem_iff_getElem?.1 hy
    have hjl : j < at_ := by
      have := (List.getElem?_eq_some_iff.1 hj).1
      rw [List.length_take] at this
      omega
    rw [List.getElem?_take, if_pos hjl] at hj
    have hlt : at_ - 1 < out.length := by have := h.le; omega
    have hz := h.ahead out[at_ - 1] (by omega) (List.getElem?_eq_getElem hlt)
    by_cases he : j = at_ - 1
    · subst he
      rw [List.getElem?_eq_getElem hlt] at hj
      injection hj with hj
      rw [← hj]
      exact hz
    · have hjo := (List.getElem?_eq_some_iff.1 hj).1
      have hp := List.pairwise_iff_getElem.1 hs j (at_ - 1) hjo hlt (by omega)
      have e := (List.getElem?_eq_some_iff.1 hj).2
      rw [e] at hp
      exact hp.trans hz
  refine ⟨h1, ⟨hb, h2⟩, fun a ha1 b hb1 => ?_⟩
  rcases List.mem_cons.1 hb1 with rfl | hb1
  · exact ha a ha1
  · exact h3 a ha1 b hb1
theorem insAt_perm (out : List Int) (at_ : Nat) (x : Int) : (insAt out at_ x).Perm (x :: out) := by
  unfold insAt
  have h := List.perm_middle (a := x) (l₁ := out.take at_) (l₂ := out.drop at_)
  rwa [List.take_append_drop] at h
theorem uniq {k : Bool} : ∀ (a b : List Int), a.Pairwise (Ord k) → b.Pairwise (Ord k) → a.Perm b → a = b
  | [], b, _, _, h => (List.Perm.nil_eq h)
  | x :: a, [], _, _, h => by simpa using h.length_eq
  | x :: a, y :: b, ha, hb, h => by
    obtain ⟨a1, a2⟩ := List.pairwise_cons.1 ha
    obtain ⟨b1, b2⟩ := List.pairwise_cons.1 hb
    have hy : y ∈ x :: a := h.symm.subset (List.mem_cons_self ..)
    have hx : x ∈ y :: b := h.subset (List.mem_cons_self ..)
    have e : x = y := by
      rcases List.mem_cons.1 hy with e | hy
      · exact e.symm
      · rcases List.mem_cons.1 hx with e | hx
        · exact e
        · exact (a1 y hy).anti (b1 x hx)
    subst e
    rw [uniq a b a2 b2 (List.Perm.cons_inv h)]
/-- Sorted, and just the numbers. -/
structure SortOf (k : Bool) (l v : List Int) : Prop where
  ord : v.Pairwise (Ord k)
  perm : v.Perm l
theorem SortOf.nil (k : Bool) : SortOf k [] [] := ⟨.nil, .nil⟩
theorem SortOf.next {k : Bool} {l v : List Int} {x : Int} {at_ : Nat} (h : SortOf k l v) (hf : Fits k v x at_) : SortOf k (l ++ [x]) (insAt v at_ x) :=
  ⟨hf.sorted h.ord, (insAt_perm v at_ x).trans ((h.perm.cons x).trans (List.perm_append_singleton x l).symm)⟩
theorem SortOf.again {l v w : List Int} (h : SortOf false l v) (g : SortOf false v w) : w = v := uniq w v g.ord h.ord g.perm
theorem SortOf.back {l v w : List Int} (h : SortOf false l v) (g : SortOf true v w) : w = v.reverse := by
  refine uniq (k := true) w v.reverse g.ord ?_ (g.perm.trans v.reverse_perm.symm)
  rw [List.pairwise_reverse]
  exact h.ord.imp fun {a b} hab => by unfold Ord at *; simpa using hab
theorem SortOf.count {k : Bool} {l v : List Int} (h : SortOf k l v) (x : Int) : v.count x = l.count x := h.perm.count_eq x
theorem SortOf.length {k : Bool} {l v : List Int} (h : SortOf k l v) : v.length = l.length := h.perm.length_eq
theorem SortOf.step {l v : List Int} (h : SortOf false l v) (i : Nat) (hi : i + 1 < v.length) : v[i] ≤ v[i + 1] := by
  have := List.pairwise_iff_getElem.1 h.ord i (i + 1) (by omega) hi (by omega)
  simpa [Ord] using this
end As
end Go.Proofs.YtopmodahdmnpjaaGreatDoor
/- arrs: the list of some numbers may be, and is alike to itself: plain laws. -/
namespace Go.Proofs.YtopmodahdmnpjaaGreatDoor
open Go Go.RowKit
namespace As
open Dp
open Go.Proofs.YtopmodahdmnpjaaGreatDoor.Nm (normG)
/-- The list of some numbers. -/
def numI : List Int → Nat → List GI
  | [], _ => []
  | x :: r, k => .mk false k ⟨#[]⟩ (.mk 2 x ⟨#[]⟩ []) :: numI r (k + 1)
def numG (l : List Int) : GV := .mk 4 l.length ⟨#[]⟩ (numI l 0)
theorem numI_len : ∀ (l : List Int) (k : Nat), (numI l k).length = l.length
  | [], _ => rfl
  | _ :: r, k => by rw [numI, List.length_cons, List.length_cons, numI_len r]
theorem numI_get : ∀ (l : List Int) (k i : Nat) (x : Int), l[i]? = some x → (numI l k)[i]? = some (.mk false ((k + i : Nat) : Int) ⟨#[]⟩ (.mk 2 x ⟨#[]⟩ []))
  | [], _, i, x, h => by simp at h
  | y :: r, k, 0, x, h => by
    simp at h
    subst h
    rfl
  | y :: r, k, i + 1, x, h => by
    rw [numI, List.getElem?_cons_succ, numI_get r (k + 1) i x (by simpa using h), show k + 1 + i = k + (i + 1) by omega]
theorem numI_app : ∀ (a b : List Int) (k : Nat), numI (a ++ b) k = numI a k ++ numI b (k + a.length)
  | [], b, k => by simp [numI]
  | x :: a, b, k => by
    rw [List.cons_append, numI, numI, numI_app a b, List.cons_append, List.length_cons, show k + 1 + a.length = k + (a.length + 1) by omega]
theorem left_num : ∀ (l : List Int) (k : Nat) (m : Int), 0 ≤ m → leftL (numI l k) m = m
  | [], k, m, _ => by rw [numI, leftL]
  | x :: r, k, m, h => by
    rw [numI, leftL, if_neg (by omega), leftV, leftL]
    simpa using left_num r (k + 1) m h
theorem may_num (n d : Int) : ∀ (l : List Int) (k : Nat) (m : List (Bool × Int × ByteArray)), (∀ q ∈ m, q.1 = false ∧ q.2.1 < (k : Int)) → (k : Int) + l.length ≤ n → mayL (numI l k) m n d = true
  | [], k, m, _, _ => by rw [numI, mayL]
  | x :: r, k, m, hm, hn => by
    rw [List.length_cons] at hn
    rw [numI, mayL]
    have h1 : normG false (k : Int) ⟨#[]⟩ = (false, (k : Int), ⟨#[]⟩) := by unfold normG; rfl
    rw [if_neg (by rw [h1]; simp)]
    have h2 : ((false, (k : Int), ⟨#[]⟩) : Bool × Int × ByteArray) ∉ m := fun h => by
      have := (hm _ h).2
      simp at this
    rw [if_neg h2]
    have h3 : mayV (.mk 2 x ⟨#[]⟩ []) (d + 1) = true := by
      rw [mayV, if_neg (by decide)]
      simp [flatB]
      rfl
    rw [if_pos h3, if_neg (by omega)]
    refine may_num n d r (k + 1) _ (fun q hq => ?_) (by omega)
    rcases List.mem_append.1 hq with hq | hq
    · obtain ⟨q1, q2⟩ := hm q hq
      exact ⟨q1, by omega⟩
    · simp at hq
      subst hq
      exact ⟨rfl, by show (k : Int) < _; omega⟩
theorem few_num (l : List Int) (h1 : l.length ≤ 2048) : fewB (numG l) = true := by
  refine few_yes ?_
  unfold numG
  rw [leftV, numI_len, left_num l 0 _ (by omega)]
  omega
theorem right_num (l : List Int) (h1 : l.length ≤ 2048) : rightB (numG l) = true := by
  have hm : mayV (numG l) 0 = true := by
    unfold numG
    rw [mayV, if_pos rfl, if_pos ⟨rfl, by omega, by rw [numI_len]; exact h1, by decide⟩]
    exact may_num _ _ l 0 [] (fun q hq => by simp at hq) (by simp)
  unfold rightB
  rw [few_num l h1, hm]
  rfl
theorem fit_num (l : List Int) (h1 : l.length ≤ 1000000) (h2 : ∀ x ∈ l, -9223372036854775808 ≤ x ∧ x ≤ 9223372036854775807) : Fit (numG l) := by
  have key : ∀ (i : Nat) (it : GI), (numI l 0)[i]? = some it → ∃ x ∈ l, it = .mk false ((i : Nat) : Int) ⟨#[]⟩ (.mk 2 x ⟨#[]⟩ []) ∧ i < l.length := by
    intro i it h
    have hi : i < l.length := by
      have := (List.getElem?_eq_some_iff.1 h).1
      rwa [numI_len] at this
    have h3 := numI_get l 0 i _ (List.getElem?_eq_getElem hi)
    rw [h, Nat.zero_add] at h3
    exact ⟨_, List.getElem_mem hi, Option.some.inj h3, hi⟩
  refine .mk _ _ _ _ ⟨by decide, by decide⟩ ⟨by omega, by omega⟩ (by decide) (fun i it h => ?_) (fun i it h => ?_)
  · obtain ⟨x, hx, rfl, hi⟩ := key i it h
    exact ⟨⟨by show -9223372036854775808 ≤ (i : Int); omega, by show (i : Int) ≤ 9223372036854775807; omega⟩, by show (0 : Nat) ≤ _; omega⟩
  · obtain ⟨x, hx, rfl, hi⟩ := key i it h
    exact .mk _ _ _ _ ⟨by decide, by decide⟩ (h2 x hx) (by decide) (fun i it h => by simp at h) (fun i it h => by simp at h)
theorem alike_numI : ∀ (l : List Int) (k : Nat), alikeL (numI l k) (numI l k) = true
  | [], k => by rw [numI, alikeL] <;> simp
  | x :: r, k => by
    rw [numI, alikeL, if_neg (by simp)]
    have h : alikeV (.mk 2 x ⟨#[]⟩ []) (.mk 2 x ⟨#[]⟩ []) = true := by
      rw [alikeV]
      simp [sameP]
    rw [if_pos h]
    exact alike_numI r (k + 1)
theorem same_num (l : List Int) (h1 : l.length ≤ 2048) : sameB (numG l) (numG l) = true := by
  have h : alikeV (numG l) (numG l) = true := by
    unfold numG
    rw [alikeV, if_neg (by simp), if_neg (by decide), if_neg (by decide), if_neg (by decide)]
    simp [alike_numI]
  unfold sameB
  rw [few_num l h1, h]
  rfl
end As
end Go.Proofs.YtopmodahdmnpjaaGreatDoor
