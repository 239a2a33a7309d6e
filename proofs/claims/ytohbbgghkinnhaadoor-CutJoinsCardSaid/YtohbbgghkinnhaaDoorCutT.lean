/- Plain: two files behind one another. What is cut of the first, where the end of code stands in it, hangs not on what follows. -/
import Derived.Test.YtohbbgghkinnhaaDoorCutG
namespace Go.Proofs.YtohbbgghkinnhaaDoor
open Go.RowKit

theorem pre_app : ∀ (p l r : Bytes), p.length ≤ l.length → Lib.hasPrefix (l ++ r) p = Lib.hasPrefix l p
  | [], l, r, _ => by simp [Lib.hasPrefix]
  | c :: p, [], r, h => by simp at h
  | c :: p, d :: l, r, h => by
    rw [List.cons_append, pre_cons, pre_cons, pre_app p l r (by simpa using h)]
theorem pre_app_true {p l : Bytes} (r : Bytes) (h : Lib.hasPrefix l p = true) : Lib.hasPrefix (l ++ r) p = true := by
  rw [pre_app p l r (pre_le h), h]
theorem wordT_app : ∀ (l r : Bytes), wordT l < l.length → wordT (l ++ r) = wordT l
  | [], r, h => by simp [wordT] at h
  | c :: l, r, h => by
    rw [List.cons_append, wordT, wordT]
    rw [wordT] at h
    split
    · rename_i hc
      rw [if_pos hc] at h
      rw [wordT_app l r (by simpa using h)]
    · rfl
theorem wordT_mono : ∀ (l r : Bytes), wordT l ≤ wordT (l ++ r)
  | [], r => by simp [wordT]
  | c :: l, r => by
    rw [List.cons_append, wordT, wordT]
    have := wordT_mono l r
    split <;> omega
theorem wordN_app (l r : Bytes) (h : wordN l < l.length) : wordN (l ++ r) = wordN l := by
  cases l with
  | nil => simp [wordN] at h
  | cons c l =>
    rw [List.cons_append, wordN, wordN]
    rw [wordN] at h
    split
    · rename_i hc
      rw [if_pos hc] at h
      rw [wordT_app l r (by simpa using h)]
    · rfl
theorem wordN_mono (l r : Bytes) : wordN l ≤ wordN (l ++ r) := by
  cases l with
  | nil => simp [wordN]
  | cons c l =>
    rw [List.cons_append, wordN, wordN]
    have := wordT_mono l r
    split <;> omega
theorem wordT_stop : ∀ (l : Bytes) (d : Nat), l[d]? = some 63 → wordT l ≤ d
  | [], d, h => by simp at h
  | c :: l, 0, h => by
    obtain rfl : c = 63 := by simpa using h
    rw [wordT, if_neg (by decide)]
    exact Nat.le_refl _
  | c :: l, d + 1, h => by
    have := wordT_stop l d (by simpa using h)
    rw [wordT]
    split <;> omega
theorem wordN_stop (l : Bytes) (d : Nat) (h : l[d]? = some 63) : wordN l ≤ d := by
  cases l with
  | nil => simp at h
  | cons c l =>
    cases d with
    | zero =>
      obtain rfl : c = 63 := by simpa using h
      rw [wordN, if_neg (by decide)]
      exact Nat.le_refl _
    | succ d =>
      have := wordT_stop l d (by simpa using h)
      rw [wordN]
      split <;> omega
theorem textT_app (q : UInt8) (r : Bytes) : ∀ (n : Nat) (l : Bytes), l.length ≤ n → textT q l < l.length → textT q (l ++ r) = textT q l := by
  intro n
  induction n with
  | zero => intro l hn h; omega
  | succ n ih =>
    intro l hn h
    cases l with
    | nil => simp [textT_nil] at h
    | cons c t =>
      rw [List.cons_append, textT_cons, textT_cons]
      rw [textT_cons] at h
      by_cases hc : c = 92
      · rw [if_pos hc, if_pos hc]
        rw [if_pos hc] at h
        cases t with
        | nil => simp at h
        | cons d t =>
          simp only [List.cons_append] at h ⊢
          rw [ih t (by simp at hn; omega) (by simp at h; omega)]
      · rw [if_neg hc, if_neg hc]
        rw [if_neg hc] at h
        by_cases hq : c = q
        · rw [if_pos hq, if_pos hq]
        · rw [if_neg hq, if_neg hq]
          rw [if_neg hq] at h
          rw [ih t (by simp at hn; omega) (by simp at h; omega)]
theorem textN_app (l r : Bytes) (h : textN l < l.length) : textN (l ++ r) = textN l := by
  cases l with
  | nil => simp [textN] at h
  | cons c t =>
    rw [List.cons_append, textN, textN, textT_app c r t.length t (Nat.le_refl _) (by simpa [textN] using h)]
theorem lineN_app (r : Bytes) : ∀ (l : Bytes), lineN l + 2 ≤ l.length → lineN (l ++ r) = lineN l
  | [], h => by simp [lineN] at h
  | c :: t, h => by
    rw [List.cons_append, lineN, lineN]
    rw [lineN] at h
    have hp : Lib.hasPrefix (c :: (t ++ r)) [63, 62] = Lib.hasPrefix (c :: t) [63, 62] := by
      rw [← List.cons_append]
      exact pre_app _ _ _ (by simp only [List.length_cons, List.length_nil] at *; omega)
    rw [hp]
    split
    · rfl
    · rename_i hc
      rw [if_neg hc] at h
      rw [lineN_app r t (by simp at h; omega)]
theorem index_app (sub r : Bytes) : ∀ (l : Bytes), 0 ≤ Lib.index l sub → Lib.index (l ++ r) sub = Lib.index l sub
  | [], h => by
    cases sub with
    | nil => simp [Lib.index_empty]
    | cons c s => simp [Lib.index] at h
  | b :: l, h => by
    have hroom := Lib.index_room (b :: l) sub h
    rw [List.cons_append, Lib.index, Lib.index]
    have hp : sub.isPrefixOf (b :: (l ++ r)) = sub.isPrefixOf (b :: l) := by
      rw [← List.cons_append]
      exact pre_app sub (b :: l) r (by omega)
    rw [hp]
    rw [Lib.index] at h
    split
    · rfl
    · rename_i hc
      rw [if_neg hc] at h
      split at h
      · omega
      · rename_i h1
        have := Lib.index_ge l sub
        have h1' : Lib.index l sub ≠ -1 := by simpa using h1
        rw [index_app sub r l (by omega)]
theorem endsN_app (name r : Bytes) : ∀ (l : Bytes) (b : Bool) (i : Nat), endsN name b l = some i → i + name.length < l.length → endsN name b (l ++ r) = some i
  | [], b, i, _, h => by simp at h
  | c :: t, b, i, he, h => by
    rw [List.cons_append, endsN, ← List.cons_append]
    rw [endsN] at he
    rw [pre_app name (c :: t) r (by omega)]
    by_cases hc : (b && Lib.hasPrefix (c :: t) name && wordN (c :: t) == name.length) = true
    · rw [if_pos hc] at he
      obtain rfl : i = 0 := by simpa using he.symm
      have hw : wordN (c :: t) = name.length := by simp at hc; exact hc.2
      rw [wordN_app (c :: t) r (by omega), if_pos hc]
    · rw [if_neg hc] at he
      obtain ⟨j, hj, rfl⟩ : ∃ j, endsN name (c == 10) t = some j ∧ j + 1 = i := by
        cases hx : endsN name (c == 10) t with
        | none => rw [hx] at he; simp at he
        | some j => rw [hx] at he; exact ⟨j, rfl, by simpa using he⟩
      have ih := endsN_app name r t (c == 10) j hj (by simp at h; omega)
      rw [if_neg, ih]
      · rfl
      · intro hx
        apply hc
        have hw : wordN (c :: t ++ r) = name.length := by simp at hx; simpa using hx.2
        have hlt : wordN (c :: t) < (c :: t).length := by
          have := wordN_mono (c :: t) r
          omega
        rw [wordN_app _ r hlt] at hx
        exact hx
theorem pre_get {l : Bytes} {d : Nat} (h : Lib.hasPrefix (l.drop d) [63, 62] = true) : l[d]? = some 63 ∧ d + 2 ≤ l.length := by
  have h2 := pre_le h
  rw [List.length_drop] at h2
  simp at h2
  rw [List.drop_eq_getElem_cons (by omega), pre_cons] at h
  simp only [Bool.and_eq_true, beq_iff_eq] at h
  exact ⟨by rw [List.getElem?_eq_getElem (by omega), h.1], by omega⟩
theorem drop_app (l r : Bytes) (k : Nat) (h : k ≤ l.length) : (l ++ r).drop k = l.drop k ++ r := List.drop_append_of_le_length h
theorem get_of_pre {l : Bytes} {c : UInt8} {k : Nat} (h : Lib.hasPrefix (l.drop k) [c] = true) : l[k]? = some c := by
  have h2 := pre_le h
  rw [List.length_drop] at h2
  simp at h2
  rw [List.drop_eq_getElem_cons (by omega), pre_cons] at h
  simp only [Bool.and_eq_true, beq_iff_eq] at h
  rw [List.getElem?_eq_getElem (by omega), h.1]
theorem far_of {l : Bytes} {d k : Nat} {c : UInt8} (hd : l[d]? = some 63) (hk : l[k]? = some c) (hc : c ≠ 63) (h : k ≤ d) : k + 1 ≤ d := by
  rcases Nat.lt_or_ge k d with h1 | h1
  · exact h1
  · obtain rfl : k = d := by omega
    rw [hk] at hd
    exact absurd (by simpa using hd) hc
theorem longH_app (l r : Bytes) (d : Nat) (h1 : 1 ≤ d) (h : Lib.hasPrefix (l.drop d) [63, 62] = true) : longH (l ++ r) = longH l := by
  obtain ⟨hd, hl⟩ := pre_get h
  have hp := pre_app [60, 60, 60] l r (by simp only [List.length_cons, List.length_nil]; omega)
  cases hb : Lib.hasPrefix l [60, 60, 60] with
  | false =>
    unfold longH
    rw [if_neg (by rw [hp, hb]; decide), if_neg (by rw [hb]; decide)]
  | true =>
    rw [hb] at hp
    have hd3 : 3 ≤ d := by
      match l, hl, hb, hd with
      | [], hl, _, _ => simp at hl
      | [_], hl, _, _ => simp at hl
      | [_, _], hl, _, _ => simp at hl; omega
      | a :: b :: c :: t, _, hb, hd =>
        rw [pre_cons, pre_cons, pre_cons] at hb
        simp only [Bool.and_eq_true, beq_iff_eq] at hb
        obtain ⟨rfl, rfl, rfl, _⟩ := hb
        match d, hd with
        | 0, hd => simp at hd
        | 1, hd => simp at hd
        | 2, hd => simp at hd
        | d + 3, _ => omega
    have hq : Lib.hasPrefix ((l ++ r).drop 3) [39] = Lib.hasPrefix (l.drop 3) [39] := by
      rw [drop_app l r 3 (by omega)]
      exact pre_app _ _ _ (by rw [List.length_drop]; simp only [List.length_cons, List.length_nil]; omega)
    obtain ⟨q, hqq⟩ : ∃ q, (if Lib.hasPrefix (l.drop 3) [39] = true then 1 else 0) = q := ⟨_, rfl⟩
    have hdq : 3 + q ≤ d := by
      rw [← hqq]
      split
      · rename_i hx
        exact far_of hd (get_of_pre hx) (by decide) hd3
      · exact hd3
    have hw0 := wordN_stop (l.drop (3 + q)) (d - (3 + q)) (by rw [List.getElem?_drop, ← hd]; congr 1; omega)
    obtain ⟨n, hn⟩ : ∃ n, wordN (l.drop (3 + q)) = n := ⟨_, rfl⟩
    have hn' : wordN ((l ++ r).drop (3 + q)) = n := by
      rw [drop_app l r _ (by omega), wordN_app _ _ (by rw [List.length_drop]; omega), hn]
    rw [hn] at hw0
    rw [longH_eq l q n hb hqq hn, longH_eq (l ++ r) q n hp (by rw [hq]; exact hqq) hn']
    have e1 : Lib.hasPrefix ((l ++ r).drop (3 + q + n)) [39] = Lib.hasPrefix (l.drop (3 + q + n)) [39] := by
      rw [drop_app l r _ (by omega)]
      exact pre_app _ _ _ (by rw [List.length_drop]; simp only [List.length_cons, List.length_nil]; omega)
    rw [e1]
    by_cases h0 : n = 0
    · rw [if_pos h0, if_pos h0]
    · rw [if_neg h0, if_neg h0]
      by_cases hx : (decide (q = 1) && !Lib.hasPrefix (l.drop (3 + q + n)) [39]) = true
      · rw [if_pos hx, if_pos hx]
      · rw [if_neg hx, if_neg hx]
        have hdd : 3 + q + n + q ≤ d := by
          by_cases hq1 : q = 1
          · have hy : Lib.hasPrefix (l.drop (3 + q + n)) [39] = true := by simpa [hq1] using hx
            have := far_of hd (get_of_pre hy) (by decide) (by omega)
            omega
          · have : q = 0 := by rw [← hqq] at hq1 ⊢; split <;> simp_all
            omega
        have e2 : Lib.hasPrefix ((l ++ r).drop (3 + q + n + q)) [10] = Lib.hasPrefix (l.drop (3 + q + n + q)) [10] := by
          rw [drop_app l r _ (by omega)]
          exact pre_app _ _ _ (by rw [List.length_drop]; simp only [List.length_cons, List.length_nil]; omega)
        rw [e2]
theorem longN_app (l r : Bytes) (d : Nat) (h1 : 1 ≤ d) (h : Lib.hasPrefix (l.drop d) [63, 62] = true) (hs : longN l < l.length) : longN (l ++ r) = longN l := by
  have hH := longH_app l r d h1 h
  obtain ⟨k, n, j, hkn⟩ : ∃ k n j, longH l = (k, n, j) := ⟨_, _, _, rfl⟩
  have hlen := longH_len l
  unfold longN at hs ⊢
  rw [hH, hkn]
  rw [hkn] at hs hlen
  simp only at hs hlen ⊢
  by_cases h0 : n = 0
  · rw [if_pos h0, if_pos h0]
  · rw [if_neg h0] at hs ⊢
    rw [if_neg h0]
    cases he : endsN ((l.drop k).take n) true (l.drop j) with
    | none => rw [he] at hs; simp at hs
    | some i =>
      rw [he] at hs
      simp only at hs
      have hnm : ((l.drop k).take n).length = n := by rw [List.length_take, List.length_drop]; omega
      have hjl : j ≤ l.length := by omega
      rw [drop_app l r k (by omega), List.take_append_of_le_length (by rw [List.length_drop]; omega), drop_app l r j hjl,
        endsN_app _ r (l.drop j) true i he (by rw [hnm, List.length_drop]; omega)]
theorem stepN_app (c : UInt8) (t r : Bytes) (d : Nat) (h1 : 1 ≤ d) (h : Lib.hasPrefix ((c :: t).drop d) [63, 62] = true) (hs : stepN (c :: t) + 2 ≤ (c :: t).length) : stepN (c :: t ++ r) = stepN (c :: t) := by
  have hl2 : 2 ≤ (c :: t).length := by have := (pre_get h).2; omega
  have p1 := pre_app [47, 42] (c :: t) r hl2
  have p2 := pre_app [47, 47] (c :: t) r hl2
  have hL := longN_app (c :: t) r d h1 h
  have hX := textN_app (c :: t) r
  have hN := lineN_app r (c :: t)
  have hI := index_app [42, 47] r ((c :: t).drop 2)
  have hd2 := drop_app (c :: t) r 2 hl2
  unfold stepN at hs ⊢
  simp only [List.cons_append] at *
  rw [p1, p2]
  by_cases c1 : (decide (c = 39) || decide (c = 34)) = true
  · rw [if_pos c1] at hs ⊢
    rw [if_pos c1, hX (by omega)]
  · rw [if_neg c1] at hs ⊢
    rw [if_neg c1]
    by_cases c2 : Lib.hasPrefix (c :: t) [47, 42] = true
    · rw [if_pos c2] at hs ⊢
      rw [if_pos c2]
      by_cases c3 : Lib.index ((c :: t).drop 2) [42, 47] < 0
      · rw [if_pos c3] at hs
        omega
      · rw [hd2, hI (by omega), if_neg c3, if_neg c3]
    · rw [if_neg c2] at hs ⊢
      rw [if_neg c2]
      by_cases c3 : (decide (c = 35) || Lib.hasPrefix (c :: t) [47, 47]) = true
      · rw [if_pos c3] at hs ⊢
        rw [if_pos c3, hN (by omega)]
      · rw [if_neg c3] at hs ⊢
        rw [if_neg c3, hL (by omega)]
theorem codeN_app (r : Bytes) : ∀ (n : Nat) (l : Bytes), l.length ≤ n → Lib.hasPrefix (l.drop (codeN l)) [63, 62] = true → codeN (l ++ r) = codeN l := by
  intro n
  induction n with
  | zero =>
    intro l hn h
    obtain rfl : l = [] := List.eq_nil_of_length_eq_zero (by omega)
    simp [Lib.hasPrefix] at h
  | succ n ih =>
    intro l hn h
    cases l with
    | nil => simp [Lib.hasPrefix] at h
    | cons c t =>
      cases hp : Lib.hasPrefix (c :: t) [63, 62] with
      | true => rw [codeN_close hp, codeN_close (pre_app_true r hp)]
      | false =>
        have hd := codeN_step (l := c :: t) (by simp) hp
        have hpos := stepN_pos c t
        have hg := (pre_get h).2
        have hs := stepN_app c t r (codeN (c :: t)) (by omega) h (by omega)
        have hp' : Lib.hasPrefix (c :: t ++ r) [63, 62] = false := by rw [pre_app _ _ _ (by simp only [List.length_cons, List.length_nil] at *; omega), hp]
        rw [codeN_step (l := c :: t ++ r) (by simp) hp', hs, drop_app _ _ _ (by omega), ih ((c :: t).drop (stepN (c :: t))) (by rw [List.length_drop]; omega), hd]
        rw [List.drop_drop, ← hd]
        exact h
theorem codeN_stop : ∀ (n : Nat) (l : Bytes), l.length ≤ n → Lib.hasPrefix (l.drop (codeN l)) [63, 62] = true ∨ codeN l = l.length := by
  intro n
  induction n with
  | zero =>
    intro l hn
    obtain rfl : l = [] := List.eq_nil_of_length_eq_zero (by omega)
    exact .inr rfl
  | succ n ih =>
    intro l hn
    cases l with
    | nil => exact .inr rfl
    | cons c t =>
      cases hp : Lib.hasPrefix (c :: t) [63, 62] with
      | true => rw [codeN_close hp]; exact .inl hp
      | false =>
        have hd := codeN_step (l := c :: t) (by simp) hp
        have hpos := stepN_pos c t
        have hle := stepN_len (c :: t)
        rcases ih ((c :: t).drop (stepN (c :: t))) (by rw [List.length_drop]; omega) with h | h
        · rw [List.drop_drop, ← hd] at h
          exact .inl h
        · rw [List.length_drop] at h
          exact .inr (by omega)

/-! ### tags ahead of an x -/
theorem tagN_x (a r : Bytes) : tagN (a ++ 120 :: r) = tagN (a ++ [120]) := by
  match a with
  | [] => simp [tagN, Lib.hasPrefix, List.isPrefixOf]
  | [c] => simp [tagN, Lib.hasPrefix, List.isPrefixOf]
  | [c, d] => simp [tagN, Lib.hasPrefix, List.isPrefixOf, phpB, lowB]
  | [c, d, e] => simp [tagN, Lib.hasPrefix, List.isPrefixOf, phpB, lowB]
  | [c, d, e, f] => simp [tagN, Lib.hasPrefix, List.isPrefixOf, phpB, lowB]
  | [c, d, e, f, g] => simp [tagN, Lib.hasPrefix, List.isPrefixOf, blankB]
  | [c, d, e, f, g, h] => simp [tagN, Lib.hasPrefix, List.isPrefixOf]
  | c :: d :: e :: f :: g :: h :: i :: a => simp [tagN, Lib.hasPrefix, List.isPrefixOf]
theorem closeN_x (a r : Bytes) : closeN (a ++ 120 :: r) = closeN (a ++ [120]) := by
  match a with
  | [] => simp [closeN, Lib.hasPrefix, List.isPrefixOf]
  | [c] => simp [closeN, Lib.hasPrefix, List.isPrefixOf]
  | [c, d] => simp [closeN, Lib.hasPrefix, List.isPrefixOf]
  | [c, d, e] => simp [closeN, Lib.hasPrefix, List.isPrefixOf]
  | c :: d :: e :: f :: a => simp [closeN, Lib.hasPrefix, List.isPrefixOf]

/-! ### the pieces of the second file -/
def shiftP (k : Nat) (p : P3) : P3 := ⟨p.kind, k + p.a, k + p.b⟩
theorem html_shift (k a b : Nat) : htmlP (k + a) (k + b) = (htmlP a b).map (shiftP k) := by
  unfold htmlP
  by_cases h : a < b
  · rw [if_pos h, if_pos (by omega)]; rfl
  · rw [if_neg h, if_neg (by omega)]; rfl
theorem drop_shift (p b : Bytes) (i : Nat) : (p ++ b).drop (p.length + i) = b.drop i := by
  rw [← List.drop_drop, List.drop_left]
theorem cut_shift (p b : Bytes) : ∀ (m i fr : Nat), b.length - i ≤ m → cutR (p ++ b) (p.length + i) (p.length + fr) = (cutR b i fr).map (shiftP p.length) := by
  intro m
  induction m with
  | zero =>
    intro i fr hm
    rw [cutR_end (l := b) (by omega), cutR_end (by rw [List.length_append]; omega), List.length_append]
    exact html_shift _ _ _
  | succ m ih =>
    intro i fr hm
    by_cases he : b.length ≤ i
    · rw [cutR_end (l := b) he, cutR_end (by rw [List.length_append]; omega), List.length_append]
      exact html_shift _ _ _
    · have hd := drop_shift p b i
      by_cases ht : (tagN (b.drop i)).2 = 0
      · rw [cutR_none (l := b) (by omega) ht, cutR_none (by rw [List.length_append]; omega) (by rw [hd]; exact ht)]
        exact ih (i + 1) fr (by omega)
      · obtain ⟨kd, n, hkn⟩ : ∃ kd n, tagN (b.drop i) = (kd, n) := ⟨_, _, rfl⟩
        rw [hkn] at ht
        simp only at ht
        rw [cutR_tag (l := b) (by omega) hkn ht, cutR_tag (l := p ++ b) (by rw [List.length_append]; omega) (by rw [hd]; exact hkn) ht]
        simp only [Nat.add_assoc, drop_shift]
        rw [List.map_append, List.map_cons, ← html_shift, ← ih _ _ (by omega)]
        simp only [shiftP]
theorem cut_shift0 (p b : Bytes) : cutR (p ++ b) p.length p.length = (cut3 b).map (shiftP p.length) := cut_shift p b b.length 0 0 (by omega)

/-! ### the join -/
def lastHtml (ps : List P3) : Prop := ∃ qs p, ps = qs ++ [p] ∧ p.kind = 1
theorem lastHtml_tail {p : P3} {qs rs : List P3} (h : lastHtml (qs ++ p :: rs)) (hp : p.kind ≠ 1) : lastHtml rs := by
  obtain ⟨us, u, he, hu⟩ := h
  rcases List.eq_nil_or_concat rs with rfl | ⟨vs, v, rfl⟩
  · have := List.append_inj' (s₁ := qs) (t₁ := [p]) (s₂ := us) (t₂ := [u]) he rfl
    simp at this
    exact absurd (this.2 ▸ hu) hp
  · refine ⟨vs, v, by simp, ?_⟩
    have he' : (qs ++ p :: vs) ++ [v] = us ++ [u] := by rw [← he]; simp
    have := List.append_inj' he' rfl
    simp at this
    exact this.2 ▸ hu
def midB : Bytes := [63, 62, 60, 63, 61, 49, 63, 62]
theorem codeN_one (b : Bytes) : codeN (49 :: 63 :: 62 :: b) = 1 := by
  have hs : stepN (49 :: 63 :: 62 :: b) = 1 := by
    unfold stepN
    simp [Lib.hasPrefix, List.isPrefixOf, longH_no]
  rw [codeN_step (by simp) (by simp [Lib.hasPrefix, List.isPrefixOf]), hs, List.drop_succ_cons, List.drop_zero, codeN_close (by simp [Lib.hasPrefix, List.isPrefixOf])]
theorem closeN_two (b : Bytes) (hb : ∀ c t, b = c :: t → c ≠ 10 ∧ c ≠ 13) : closeN (63 :: 62 :: b) = 2 := by
  unfold closeN
  cases b with
  | nil => simp [Lib.hasPrefix, List.isPrefixOf]
  | cons c t =>
    obtain ⟨h1, h2⟩ := hb c t rfl
    simp [Lib.hasPrefix, List.isPrefixOf, h1, h2, Ne.symm h1, Ne.symm h2]
theorem htmlP_nil {a b : Nat} (h : b ≤ a) : htmlP a b = [] := if_neg (by omega)
theorem htmlP_one {a b : Nat} (h : a < b) : htmlP a b = [⟨1, a, b⟩] := if_pos h
theorem join_end (l b : Bytes) (hb : ∀ c t, b = c :: t → c ≠ 10 ∧ c ≠ 13) (fr : Nat) (hfr : fr < l.length) :
    cutR (l ++ (midB ++ b)) l.length fr = [⟨1, fr, l.length + 2⟩] ++ ⟨3, l.length + 5, l.length + 6⟩ :: (cut3 b).map (shiftP (l.length + 8)) := by
  have e0 : ∀ k, (l ++ (midB ++ b)).drop (l.length + k) = (midB ++ b).drop k := drop_shift l _
  have hlen : (l ++ (midB ++ b)).length = l.length + 8 + b.length := by simp [midB]; omega
  rw [cutR_none (by omega) (by rw [show l.length = l.length + 0 from rfl, e0]; simp [midB, tagN, Lib.hasPrefix, List.isPrefixOf]),
    cutR_none (by omega) (by rw [e0]; simp [midB, tagN, Lib.hasPrefix, List.isPrefixOf]),
    cutR_tag (k := 3) (n := 3) (by omega) (by rw [show l.length + 1 + 1 = l.length + 2 from rfl, e0]; simp [midB, tagN, Lib.hasPrefix, List.isPrefixOf]) (by decide)]
  have e1 : (l ++ (midB ++ b)).drop (l.length + 1 + 1 + 3) = 49 :: 63 :: 62 :: b := by rw [show l.length + 1 + 1 + 3 = l.length + 5 from rfl, e0]; rfl
  rw [e1, codeN_one]
  have e2 : (l ++ (midB ++ b)).drop (l.length + 1 + 1 + 3 + 1) = 63 :: 62 :: b := by rw [show l.length + 1 + 1 + 3 + 1 = l.length + 6 from rfl, e0]; rfl
  rw [e2, closeN_two b hb]
  have e3 : htmlP fr (l.length + 1 + 1) = [⟨1, fr, l.length + 2⟩] := if_pos (by omega)
  rw [e3]
  have e4 := cut_shift0 (l ++ midB) b
  rw [List.append_assoc, show (l ++ midB).length = l.length + 8 from by simp [midB]] at e4
  rw [show l.length + 1 + 1 + 3 + 1 + 2 = l.length + 8 from rfl, e4]
theorem join_cut (a b : Bytes) (hb : ∀ c t, b = c :: t → c ≠ 10 ∧ c ≠ 13) : ∀ (m i fr : Nat), (a ++ [120]).length - i ≤ m → i ≤ (a ++ [120]).length → fr ≤ i → lastHtml (cutR (a ++ [120]) i fr) →
    ∃ ps, ps.length = (cutR (a ++ [120]) i fr).length ∧ cutR ((a ++ [120]) ++ (midB ++ b)) i fr = ps ++ ⟨3, (a ++ [120]).length + 5, (a ++ [120]).length + 6⟩ :: (cut3 b).map (shiftP ((a ++ [120]).length + 8)) := by
  intro m
  have hend : ∀ fr, fr ≤ (a ++ [120]).length → lastHtml (cutR (a ++ [120]) (a ++ [120]).length fr) → ∃ ps, ps.length = (cutR (a ++ [120]) (a ++ [120]).length fr).length ∧ cutR ((a ++ [120]) ++ (midB ++ b)) (a ++ [120]).length fr = ps ++ ⟨3, (a ++ [120]).length + 5, (a ++ [120]).length + 6⟩ :: (cut3 b).map (shiftP ((a ++ [120]).length + 8)) := by
    intro fr hfr hl
    rw [cutR_end (Nat.le_refl _)] at hl ⊢
    have hlt : fr < (a ++ [120]).length := by
      rcases Nat.lt_or_ge fr (a ++ [120]).length with h | h
      · exact h
      · obtain ⟨us, u, he, _⟩ := hl
        rw [htmlP_nil h] at he
        have := congrArg List.length he
        simp at this
    refine ⟨[⟨1, fr, (a ++ [120]).length + 2⟩], ?_, join_end _ b hb fr hlt⟩
    rw [htmlP_one hlt]
    rfl
  have hla : (a ++ [120]).length = a.length + 1 := by simp
  have hx : ∀ k, k ≤ a.length → ((a ++ [120]) ++ (midB ++ b)).drop k = a.drop k ++ 120 :: (midB ++ b) := by
    intro k hk
    rw [drop_app _ _ _ (by omega), drop_app _ _ _ hk, List.append_assoc]
    rfl
  have hx1 : ∀ k, k ≤ a.length → (a ++ [120]).drop k = a.drop k ++ [120] := fun k hk => drop_app _ _ _ hk
  induction m with
  | zero =>
    intro i fr hm hi hfr hl
    obtain rfl : i = (a ++ [120]).length := by omega
    exact hend fr hfr hl
  | succ m ih =>
    intro i fr hm hi hfr hl
    by_cases he : i = (a ++ [120]).length
    · subst he
      exact hend fr hfr hl
    · have hia : i ≤ a.length := by omega
      have htag : tagN (((a ++ [120]) ++ (midB ++ b)).drop i) = tagN ((a ++ [120]).drop i) := by rw [hx i hia, hx1 i hia, tagN_x]
      have hlen : (a ++ [120]).length ≤ ((a ++ [120]) ++ (midB ++ b)).length := by simp only [List.length_append]; omega
      by_cases ht : (tagN ((a ++ [120]).drop i)).2 = 0
      · rw [cutR_none (l := a ++ [120]) (by omega) ht] at hl ⊢
        rw [cutR_none (l := (a ++ [120]) ++ (midB ++ b)) (by omega) (by rw [htag]; exact ht)]
        exact ih (i + 1) fr (by omega) (by omega) (by omega) hl
      · obtain ⟨kd, n, hkn⟩ : ∃ kd n, tagN ((a ++ [120]).drop i) = (kd, n) := ⟨_, _, rfl⟩
        have htl := tagN_len ((a ++ [120]).drop i)
        have htk := tagN_kind ((a ++ [120]).drop i)
        rw [List.length_drop, hkn] at htl
        rw [hkn] at htk ht htag
        simp only at htl htk ht
        rw [cutR_tag (l := a ++ [120]) (by omega) hkn ht] at hl ⊢
        rw [cutR_tag (l := (a ++ [120]) ++ (midB ++ b)) (by omega) htag ht]
        have hl2 := lastHtml_tail hl (by simp only; omega)
        have hcl := codeN_le ((a ++ [120]).drop (i + n))
        rw [List.length_drop] at hcl
        obtain ⟨d, hd⟩ : ∃ d, codeN ((a ++ [120]).drop (i + n)) = d := ⟨_, rfl⟩
        have hstop := codeN_stop _ ((a ++ [120]).drop (i + n)) (Nat.le_refl _)
        have hclose := closeN_le ((a ++ [120]).drop (i + n + d))
        rw [List.length_drop] at hclose
        rw [hd] at hstop hl2 hcl ⊢
        rw [List.drop_drop, List.length_drop] at hstop
        have hq : Lib.hasPrefix ((a ++ [120]).drop (i + n + d)) [63, 62] = true := by
          rcases hstop with h | h
          · exact h
          · exfalso
            rw [show i + n + d = (a ++ [120]).length by omega, List.drop_length] at hl2
            rw [show closeN [] = 0 by rfl, Nat.add_zero, cutR_end (Nat.le_refl _), htmlP_nil (Nat.le_refl _)] at hl2
            obtain ⟨us, u, hu, _⟩ := hl2
            have := congrArg List.length hu
            simp at this
        have hg := (pre_get hq).2
        have hd' : codeN (((a ++ [120]) ++ (midB ++ b)).drop (i + n)) = d := by
          rw [drop_app _ _ _ (by omega)]
          refine (codeN_app (midB ++ b) _ ((a ++ [120]).drop (i + n)) (Nat.le_refl _) ?_).trans hd
          rw [hd, List.drop_drop]
          exact hq
        have he' : closeN (((a ++ [120]) ++ (midB ++ b)).drop (i + n + d)) = closeN ((a ++ [120]).drop (i + n + d)) := by
          rw [hx _ (by omega), hx1 _ (by omega), closeN_x]
        rw [hd', he']
        obtain ⟨ps, h1, h2⟩ := ih (i + n + d + closeN ((a ++ [120]).drop (i + n + d))) (i + n + d + closeN ((a ++ [120]).drop (i + n + d))) (by omega) (by omega) (Nat.le_refl _) hl2
        refine ⟨htmlP fr i ++ ⟨kd, i + n, i + n + d⟩ :: ps, ?_, ?_⟩
        · simp [h1]
        · rw [h2]; simp
end Go.Proofs.YtohbbgghkinnhaaDoor
