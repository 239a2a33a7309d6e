/- deep: one text, one value: the plain law of DeepTold. -/
import Derived.Test.YthdnflklhhfojaaGreatDoorDpRa
import Derived.Test.YthdnflklhhfojaaGreatDoorDpD
import Derived.Test.YthdnflklhhfojaaGreatDoorSwA
namespace Go.Proofs.YthdnflklhhfojaaGreatDoor
open Go.RowKit
open Dp Go.Proofs.YthdnflklhhfojaaGreatDoor.Nm
namespace Sw
/-- What may stand behind a number: nothing, or one of three letters. -/
def NoD (x : List UInt8) : Prop := ∀ c r, x = c :: r → c.toNat = 41 ∨ c.toNat = 44 ∨ c.toNat = 32
def Dig (c : UInt8) : Prop := c.toNat = 45 ∨ (48 ≤ c.toNat ∧ c.toNat ≤ 57)
theorem itoa_dig (n : Int) : ∀ c ∈ Lib.itoa n, Dig c := by
  intro c hc
  unfold Lib.itoa at hc
  split at hc
  · rcases List.mem_cons.1 hc with rfl | h
    · exact .inl rfl
    · exact .inr (Nm.dec_all _ c h)
  · exact .inr (Nm.dec_all _ c hc)
theorem itoa_head (n : Int) : ∃ c r, Lib.itoa n = c :: r ∧ Dig c := by
  have h := itoa_dig n
  unfold Lib.itoa at h ⊢
  split
  · exact ⟨45, _, rfl, .inl rfl⟩
  · obtain ⟨c, r, e, h1⟩ := Nm.dec_head n.toNat
    exact ⟨c, r, e, .inr h1⟩
theorem span_eq : ∀ (p q x y : List UInt8), (∀ c ∈ p, Dig c) → (∀ c ∈ q, Dig c) → NoD x → NoD y → p ++ x = q ++ y → p = q ∧ x = y
  | [], [], x, y, _, _, _, _, h => ⟨rfl, h⟩
  | [], c :: q, x, y, _, hq, hx, _, h => by
    have h1 := hx c (q ++ y) h
    have h2 := hq c (List.mem_cons_self ..)
    unfold Dig at h2
    omega
  | c :: p, [], x, y, hp, _, _, hy, h => by
    have h1 := hy c (p ++ x) h.symm
    have h2 := hp c (List.mem_cons_self ..)
    unfold Dig at h2
    omega
  | c :: p, d :: q, x, y, hp, hq, hx, hy, h => by
    rw [List.cons_append, List.cons_append] at h
    injection h with h1 h2
    obtain ⟨e1, e2⟩ := span_eq p q x y (fun c hc => hp c (List.mem_cons_of_mem _ hc)) (fun c hc => hq c (List.mem_cons_of_mem _ hc)) hx hy h2
    exact ⟨by rw [h1, e1], e2⟩
theorem itoa_in {n m : Int} (hn : In64 n) (hm : In64 m) {x y : List UInt8} (hx : NoD x) (hy : NoD y) (h : Lib.itoa n ++ x = Lib.itoa m ++ y) : n = m ∧ x = y := by
  obtain ⟨e, e2⟩ := span_eq _ _ x y (itoa_dig n) (itoa_dig m) hx hy h
  have h1 := Nm.atoi_itoa n hn.1 hn.2
  have h2 := Nm.atoi_itoa m hm.1 hm.2
  rw [e, h2] at h1
  injection h1 with h1
  exact ⟨h1.symm, e2⟩
theorem esc_in : ∀ (s s' x y : List UInt8), escL s ++ 39 :: x = escL s' ++ 39 :: y → s = s' ∧ x = y
  | [], [], x, y, h => by
    simp only [escL, List.nil_append] at h
    injection h with _ h
    exact ⟨rfl, h⟩
  | [], c :: s', x, y, h => by
    exfalso
    simp only [escL, List.nil_append] at h
    split at h
    · injection h with h _
      exact absurd h (by decide)
    · next hc =>
      injection h with h _
      subst h
      exact hc (.inl rfl)
  | c :: s, [], x, y, h => by
    exfalso
    simp only [escL, List.nil_append] at h
    split at h
    · injection h with h _
      exact absurd h (by decide)
    · next hc =>
      injection h with h _
      subst h
      exact hc (.inl rfl)
  | c :: s, d :: s', x, y, h => by
    simp only [escL] at h
    split at h
    · split at h
      · simp only [List.cons_append] at h
        injection h with _ h
        injection h with h1 h2
        obtain ⟨e1, e2⟩ := esc_in s s' x y h2
        exact ⟨by rw [h1, e1], e2⟩
      · next hd =>
        exfalso
        simp only [List.cons_append] at h
        injection h with h _
        subst h
        exact hd (.inr rfl)
    · next hc =>
      split at h
      · exfalso
        simp only [List.cons_append] at h
        injection h with h _
        subst h
        exact hc (.inr rfl)
      · simp only [List.cons_append] at h
        injection h with h1 h2
        obtain ⟨e1, e2⟩ := esc_in s s' x y h2
        exact ⟨by rw [h1, e1], e2⟩
theorem quote_in {s s' x y : List UInt8} (h : quoteL s ++ x = quoteL s' ++ y) : s = s' ∧ x = y := by
  unfold quoteL at h
  simp only [List.cons_append, List.append_assoc, List.nil_append] at h
  injection h with _ h
  exact esc_in s s' x y h
theorem data_in {s s' : ByteArray} (h : s.data.toList = s'.data.toList) : s = s' := by
  cases s; cases s'
  exact congrArg ByteArray.mk (Array.toList_inj.1 h)
theorem norm_true {i : Int} {s : ByteArray} (h : normG true i s = (true, i, s)) : i = 0 := by
  unfold normG at h
  rw [if_pos rfl] at h
  split at h
  · split at h
    · injection h with h _
      cases h
    · injection h with _ h
      injection h with h _
      exact h.symm
  · injection h with _ h
    injection h with h _
    exact h.symm
theorem norm_false {i : Int} {s : ByteArray} (h : normG false i s = (false, i, s)) : s = ⟨#[]⟩ := by
  unfold normG at h
  rw [if_neg (by decide)] at h
  injection h with _ h
  injection h with _ h
  exact h.symm
theorem nod_of {c : UInt8} (h : c.toNat = 41 ∨ c.toNat = 44 ∨ c.toNat = 32) (x : List UInt8) : NoD (c :: x) := by
  intro d r e
  injection e with e _
  subst e
  exact h
theorem key_in {b b' : Bool} {i i' : Int} {s s' : ByteArray} (hb : normG b i s = (b, i, s)) (hb' : normG b' i' s' = (b', i', s')) (hi : In64 i) (hi' : In64 i') {x y : List UInt8} (hx : NoD x) (hy : NoD y) (h : keyL b i s ++ x = keyL b' i' s' ++ y) : (b = b' ∧ i = i' ∧ s = s') ∧ x = y := by
  unfold keyL at h
  cases b <;> cases b'
  · rw [if_neg (by decide), if_neg (by decide)] at h
    obtain ⟨e1, e2⟩ := itoa_in hi hi' hx hy h
    exact ⟨⟨rfl, e1, (norm_false hb).trans (norm_false hb').symm⟩, e2⟩
  · exfalso
    rw [if_neg (by decide), if_pos rfl] at h
    obtain ⟨c, r, e, hc⟩ := itoa_head i
    rw [e] at h
    unfold quoteL at h
    simp only [List.cons_append] at h
    injection h with h _
    subst h
    revert hc
    unfold Dig
    decide
  · exfalso
    rw [if_pos rfl, if_neg (by decide)] at h
    obtain ⟨c, r, e, hc⟩ := itoa_head i'
    rw [e] at h
    unfold quoteL at h
    simp only [List.cons_append] at h
    injection h with h _
    subst h
    revert hc
    unfold Dig
    decide
  · rw [if_pos rfl, if_pos rfl] at h
    obtain ⟨e1, e2⟩ := quote_in h
    exact ⟨⟨rfl, (norm_true hb).trans (norm_true hb').symm, data_in e1⟩, e2⟩
/-- What kind of value a text that begins so is. -/
def kindOf (c : UInt8) : Int := if c.toNat = 78 then 0 else if c.toNat = 116 ∨ c.toNat = 102 then 1 else if c.toNat = 39 then 3 else if c.toNat = 111 then 5 else if c.toNat = 97 then 4 else 2
theorem may_kinds {k n : Int} {t : ByteArray} {l : List GI} {e : Int} (h : mayV (.mk k n t l) e = true) : k = 0 ∨ (k = 1 ∧ (n = 0 ∨ n = 1)) ∨ k = 2 ∨ k = 3 ∨ k = 5 ∨ (k = 4 ∧ mayL l [] n e = true) := by
  rw [mayV] at h
  by_cases h4 : k = 4
  · rw [if_pos h4] at h
    split at h
    · exact .inr (.inr (.inr (.inr (.inr ⟨h4, h⟩))))
    · cases h
  · rw [if_neg h4, Bool.and_eq_true] at h
    have h2 := h.2
    unfold flatB at h2
    by_cases e0 : k = 0
    · exact .inl e0
    · by_cases e1 : k = 1
      · rw [if_neg e0, if_pos e1, Bool.and_eq_true, Bool.or_eq_true] at h2
        exact .inr (.inl ⟨e1, by simpa using h2.1⟩)
      · by_cases e2 : k = 2
        · exact .inr (.inr (.inl e2))
        · by_cases e3 : k = 3
          · exact .inr (.inr (.inr (.inl e3)))
          · by_cases e5 : k = 5
            · exact .inr (.inr (.inr (.inr (.inl e5))))
            · rw [if_neg e0, if_neg e1, if_neg e2, if_neg e3, if_neg e5] at h2
              cases h2
theorem show_head {k n : Int} {t : ByteArray} {l : List GI} {e : Int} (h : mayV (.mk k n t l) e = true) (d : Nat) : ∃ c r, showV (.mk k n t l) d = c :: r ∧ kindOf c = k := by
  rw [showV]
  rcases may_kinds h with rfl | ⟨rfl, rfl | rfl⟩ | rfl | rfl | rfl | ⟨rfl, -⟩
  · exact ⟨78, _, rfl, by decide⟩
  · exact ⟨102, _, rfl, by decide⟩
  · exact ⟨116, _, rfl, by decide⟩
  · obtain ⟨c, r, e, hc⟩ := itoa_head n
    refine ⟨c, r, by rw [if_neg (by decide), if_neg (by decide), if_pos rfl, e], ?_⟩
    unfold Dig at hc
    unfold kindOf
    repeat rw [if_neg (by omega)]
  · exact ⟨39, _, rfl, by decide⟩
  · exact ⟨111, _, rfl, by decide⟩
  · exact ⟨97, _, rfl, by decide⟩
theorem may_cons {b : Bool} {i : Int} {s : ByteArray} {v : GV} {l : List GI} {m : List (Bool × Int × ByteArray)} {n d : Int} (h : mayL (.mk b i s v :: l) m n d = true) : normG b i s = (b, i, s) ∧ mayV v (d + 1) = true ∧ mayL l (m ++ [(b, i, s)]) n d = true := by
  rw [mayL] at h
  split at h
  · cases h
  · next h1 =>
    split at h
    · cases h
    · split at h
      · next h2 =>
        split at h
        · cases h
        · exact ⟨Decidable.not_not.1 h1, h2, h⟩
      · cases h
theorem sv0 {n : Int} {t : ByteArray} {l : List GI} {d : Nat} : showV (.mk 0 n t l) d = nullL := by rw [showV]; rfl
theorem sv1 {n : Int} {t : ByteArray} {l : List GI} {d : Nat} : showV (.mk 1 n t l) d = if n = 1 then trueL else falseL := by rw [showV]; rfl
theorem sv2 {n : Int} {t : ByteArray} {l : List GI} {d : Nat} : showV (.mk 2 n t l) d = Lib.itoa n := by rw [showV]; rfl
theorem sv3 {n : Int} {t : ByteArray} {l : List GI} {d : Nat} : showV (.mk 3 n t l) d = quoteL t.data.toList := by rw [showV]; rfl
theorem sv5 {n : Int} {t : ByteArray} {l : List GI} {d : Nat} : showV (.mk 5 n t l) d = objL ++ Lib.itoa n ++ [41] := by rw [showV]; rfl
theorem sv4 {n : Int} {t : ByteArray} {l : List GI} {d : Nat} : showV (.mk 4 n t l) d = arrL ++ (showL l d ++ (spaces (2 * d) ++ [41])) := by rw [showV]; rfl
mutual
theorem show_in : ∀ (g g' : GV) (d : Nat) (e e' : Int), Fit g → Fit g' → mayV g e = true → mayV g' e' = true → ∀ x y, NoD x → NoD y → showV g d ++ x = showV g' d ++ y → alikeV g g' = true ∧ x = y
  | .mk k n t l, .mk k' n' t' l', d, e, e', hf, hf', hm, hm', x, y, hx, hy, h => by
    have hk : k = k' := by
      obtain ⟨c, r, e1, e2⟩ := show_head hm d
      obtain ⟨c', r', e1', e2'⟩ := show_head hm' d
      rw [e1, e1'] at h
      simp only [List.cons_append] at h
      injection h with h _
      rw [← e2, ← e2', h]
    subst hk
    cases hf with
    | mk _ _ _ _ _ hn _ f1 f2 =>
    cases hf' with
    | mk _ _ _ _ _ hn' _ f1' f2' =>
    rw [alikeV, if_neg (by simp)]
    rcases may_kinds hm with rfl | ⟨rfl, hb⟩ | rfl | rfl | rfl | ⟨rfl, hl⟩
    · rw [sv0, sv0] at h
      exact ⟨rfl, List.append_cancel_left h⟩
    · have hb' : n' = 0 ∨ n' = 1 := by
        rcases may_kinds hm' with h9 | ⟨-, h9⟩ | h9 | h9 | h9 | ⟨h9, -⟩
        · exact absurd h9 (by decide)
        · exact h9
        · exact absurd h9 (by decide)
        · exact absurd h9 (by decide)
        · exact absurd h9 (by decide)
        · exact absurd h9 (by decide)
      rw [sv1, sv1] at h
      rcases hb with rfl | rfl <;> rcases hb' with rfl | rfl
      · exact ⟨rfl, List.append_cancel_left h⟩
      · rw [if_neg (by decide), if_pos rfl] at h
        injection h with h _
        exact absurd h (by decide)
      · rw [if_pos rfl, if_neg (by decide)] at h
        injection h with h _
        exact absurd h (by decide)
      · exact ⟨rfl, List.append_cancel_left h⟩
    · rw [sv2, sv2] at h
      obtain ⟨rfl, e2⟩ := itoa_in hn hn' hx hy h
      exact ⟨by rw [if_pos (by decide)]; unfold sameP; simp, e2⟩
    · rw [sv3, sv3] at h
      obtain ⟨e1, e2⟩ := quote_in h
      have e3 := data_in e1
      subst e3
      exact ⟨by rw [if_pos (by decide)]; unfold sameP; simp, e2⟩
    · rw [sv5, sv5] at h
      simp only [List.append_assoc] at h
      obtain ⟨rfl, e2⟩ := itoa_in hn hn' (nod_of (.inl rfl) _) (nod_of (.inl rfl) _) (List.append_cancel_left h)
      injection e2 with _ e2
      exact ⟨by rw [if_neg (by decide), if_pos rfl]; simp, e2⟩
    · have hl' : mayL l' [] n' e' = true := by
        rcases may_kinds hm' with h9 | ⟨h9, -⟩ | h9 | h9 | h9 | ⟨-, h9⟩
        · exact absurd h9 (by decide)
        · exact absurd h9 (by decide)
        · exact absurd h9 (by decide)
        · exact absurd h9 (by decide)
        · exact absurd h9 (by decide)
        · exact h9
      rw [sv4, sv4] at h
      simp only [List.append_assoc] at h
      have h1 := List.append_cancel_left h
      obtain ⟨e1, e2, e3⟩ := show_inL l l' d [] [] n n' e e' (fun i it hi => (f1 i it hi).1) (fun i it hi => (f1' i it hi).1) f2 f2' hl hl' x y h1
      exact ⟨by rw [if_neg (by decide), if_neg (by decide), if_neg (by decide), if_neg (by rw [e1]; simp)]; exact e2, e3⟩
theorem show_inL : ∀ (l l' : List GI) (d : Nat) (m m' : List (Bool × Int × ByteArray)) (n n' e e' : Int), (∀ (i : Nat) (it : GI), l[i]? = some it → In64 it.int) → (∀ (i : Nat) (it : GI), l'[i]? = some it → In64 it.int) → (∀ (i : Nat) (it : GI), l[i]? = some it → Fit it.val) → (∀ (i : Nat) (it : GI), l'[i]? = some it → Fit it.val) →
    mayL l m n e = true → mayL l' m' n' e' = true → ∀ x y, showL l d ++ (spaces (2 * d) ++ ([41] ++ x)) = showL l' d ++ (spaces (2 * d) ++ ([41] ++ y)) → l.length = l'.length ∧ alikeL l l' = true ∧ x = y
  | [], [], d, m, m', n, n', e, e', _, _, _, _, _, _, x, y, h => by
    have h1 := List.append_cancel_left (List.append_cancel_left h)
    injection h1 with _ h1
    exact ⟨rfl, rfl, h1⟩
  | [], .mk b i s v :: l', d, m, m', n, n', e, e', _, _, _, _, _, _, x, y, h => by
    exfalso
    rw [showL, showL, List.nil_append, show 2 * (d + 1) = 2 * d + 2 by omega] at h
    unfold spaces at h
    rw [← List.replicate_append_replicate] at h
    simp only [List.append_assoc] at h
    have h1 := List.append_cancel_left h
    simp only [List.cons_append, List.nil_append, List.replicate_succ] at h1
    injection h1 with h1 _
    exact absurd h1 (by decide)
  | .mk b i s v :: l, [], d, m, m', n, n', e, e', _, _, _, _, _, _, x, y, h => by
    exfalso
    rw [showL, showL, List.nil_append, show 2 * (d + 1) = 2 * d + 2 by omega] at h
    unfold spaces at h
    rw [← List.replicate_append_replicate] at h
    simp only [List.append_assoc] at h
    have h1 := List.append_cancel_left h
    simp only [List.cons_append, List.nil_append, List.replicate_succ] at h1
    injection h1 with h1 _
    exact absurd h1 (by decide)
  | .mk b i s v :: l, .mk b' i' s' v' :: l', d, m, m', n, n', e, e', k1, k1', k2, k2', hl, hl', x, y, h => by
    obtain ⟨a1, a2, a3⟩ := may_cons hl
    obtain ⟨a1', a2', a3'⟩ := may_cons hl'
    rw [showL, showL] at h
    simp only [List.append_assoc] at h
    have h1 := List.append_cancel_left h
    obtain ⟨⟨rfl, rfl, rfl⟩, h2⟩ := key_in a1 a1' (k1 0 _ rfl) (k1' 0 _ rfl) (by unfold toL; exact nod_of (.inr (.inr rfl)) _) (by unfold toL; exact nod_of (.inr (.inr rfl)) _) h1
    have h3 := List.append_cancel_left h2
    obtain ⟨e1, h4⟩ := show_in v v' (d + 1) (e + 1) (e' + 1) (k2 0 _ rfl) (k2' 0 _ rfl) a2 a2' _ _ (nod_of (.inr (.inl rfl)) _) (nod_of (.inr (.inl rfl)) _) h3
    have h5 : showL l d ++ (spaces (2 * d) ++ ([41] ++ x)) = showL l' d ++ (spaces (2 * d) ++ ([41] ++ y)) := by
      injection h4 with _ h4
      injection h4 with _ h4
    obtain ⟨e2, e3, e4⟩ := show_inL l l' d _ _ n n' e e' (fun i it hi => k1 (i + 1) it (by simpa using hi)) (fun i it hi => k1' (i + 1) it (by simpa using hi)) (fun i it hi => k2 (i + 1) it (by simpa using hi)) (fun i it hi => k2' (i + 1) it (by simpa using hi)) a3 a3' x y h5
    refine ⟨by simp only [List.length_cons, e2], ?_, e4⟩
    rw [alikeL, if_neg (by simp), if_pos e1]
    exact e3
end
mutual
theorem show_alike : ∀ (g g' : GV) (d : Nat) (e e' : Int), mayV g e = true → mayV g' e' = true → alikeV g g' = true → showV g d = showV g' d
  | .mk k n t l, .mk k' n' t' l', d, e, e', hm, hm', h => by
    rw [alikeV] at h
    by_cases hk : k = k'
    · subst hk
      rw [if_neg (by simp)] at h
      rw [showV, showV]
      rcases may_kinds hm with rfl | ⟨rfl, hb⟩ | rfl | rfl | rfl | ⟨rfl, hl⟩
      · rfl
      · have hb' : n' = 0 ∨ n' = 1 := by
          rcases may_kinds hm' with h9 | ⟨-, h9⟩ | h9 | h9 | h9 | ⟨h9, -⟩
          · exact absurd h9 (by decide)
          · exact h9
          · exact absurd h9 (by decide)
          · exact absurd h9 (by decide)
          · exact absurd h9 (by decide)
          · exact absurd h9 (by decide)
        rw [if_pos (by decide)] at h
        unfold sameP at h
        rcases hb with rfl | rfl <;> rcases hb' with rfl | rfl
        · rfl
        · exact absurd h (by simp)
        · exact absurd h (by simp)
        · rfl
      · rw [if_pos (by decide)] at h
        have h1 : n = n' := by simpa [sameP] using h
        subst h1
        rfl
      · rw [if_pos (by decide)] at h
        have h1 : t.toList = t'.toList := by simpa [sameP] using h
        have h2 := Dp.toList_inj h1
        subst h2
        rfl
      · rw [if_neg (by decide), if_pos rfl] at h
        have h1 : n = n' := by simpa using h
        subst h1
        rfl
      · have hl' : mayL l' [] n' e' = true := by
          rcases may_kinds hm' with h9 | ⟨h9, -⟩ | h9 | h9 | h9 | ⟨-, h9⟩
          · exact absurd h9 (by decide)
          · exact absurd h9 (by decide)
          · exact absurd h9 (by decide)
          · exact absurd h9 (by decide)
          · exact absurd h9 (by decide)
          · exact h9
        rw [if_neg (by decide), if_neg (by decide), if_neg (by decide)] at h
        split at h
        · cases h
        · next hlen =>
          have h1 := show_alikeL l l' d [] [] n n' e e' (Decidable.not_not.1 hlen) hl hl' h
          rw [h1]
          rfl
    · rw [if_pos hk] at h
      cases h
theorem show_alikeL : ∀ (l l' : List GI) (d : Nat) (m m' : List (Bool × Int × ByteArray)) (n n' e e' : Int), l.length = l'.length → mayL l m n e = true → mayL l' m' n' e' = true → alikeL l l' = true → showL l d = showL l' d
  | [], [], d, m, m', n, n', e, e', _, _, _, _ => rfl
  | [], _ :: _, d, m, m', n, n', e, e', hlen, _, _, _ => by cases hlen
  | _ :: _, [], d, m, m', n, n', e, e', hlen, _, _, _ => by cases hlen
  | .mk b i s v :: l, .mk b' i' s' v' :: l', d, m, m', n, n', e, e', hlen, hl, hl', h => by
    obtain ⟨a1, a2, a3⟩ := may_cons hl
    obtain ⟨a1', a2', a3'⟩ := may_cons hl'
    rw [alikeL] at h
    split at h
    · cases h
    · next hk =>
      obtain ⟨rfl, rfl, rfl⟩ := Decidable.not_not.1 hk
      split at h
      · next hv =>
        rw [showL, showL, show_alike v v' (d + 1) (e + 1) (e' + 1) a2 a2' hv, show_alikeL l l' d _ _ n n' e e' (by simpa using hlen) a3 a3' h]
      · cases h
end
theorem right_may {g : GV} (h : rightB g = true) : fewB g = true ∧ mayV g 0 = true := by
  unfold rightB at h
  exact Bool.and_eq_true _ _ |>.mp h
/-- Right values of one text are the same, and the same ones have one text. -/
theorem told {g g' : GV} (hf : Fit g) (hf' : Fit g') (hr : rightB g = true) (hr' : rightB g' = true) : showV g 0 = showV g' 0 ↔ sameB g g' = true := by
  obtain ⟨h1, h2⟩ := right_may hr
  obtain ⟨h1', h2'⟩ := right_may hr'
  unfold sameB
  rw [h1, h1', Bool.true_and, Bool.true_and]
  constructor
  · intro h
    exact (show_in g g' 0 0 0 hf hf' h2 h2' [] [] (fun _ _ h => by cases h) (fun _ _ h => by cases h) (by rw [h])).1
  · intro h
    exact show_alike g g' 0 0 0 h2 h2' h
end Sw
end Go.Proofs.YthdnflklhhfojaaGreatDoor
