/- raw: what was written is read back: the plain law. -/
import Derived.Test.YtnbhaokbaonjkaaGreatDoorRwA
namespace Go.Proofs.YtnbhaokbaonjkaaGreatDoor
open Go.RowKit
namespace Rw
theorem cnt_app (p : UInt8 → Bool) : ∀ (m : Nat) (u : Bytes) (c : UInt8) (r : Bytes), (∀ x ∈ u, p x = true) → u.length ≤ m → (u.length = m ∨ p c = false) → cnt p m (u ++ c :: r) = u.length
  | 0, [], c, r, _, _, _ => by simp [cnt]
  | 0, _ :: _, c, r, _, h, _ => by simp at h
  | m + 1, [], c, r, _, _, hc => by
    have hc : p c = false := by
      rcases hc with h | h
      · simp at h
      · exact h
    rw [List.nil_append, cnt, if_neg (by rw [hc]; simp)]
    rfl
  | m + 1, d :: u, c, r, hu, hl, hc => by
    rw [List.cons_append, cnt, if_pos (hu d (List.mem_cons_self ..)), cnt_app p m u c r (fun x hx => hu x (List.mem_cons_of_mem _ hx)) (by simpa using hl) (by simpa using hc)]
    rfl
/-- What was counted: all of the kind, and the next one is not, if there is one and there were not enough. -/
theorem cnt_all (p : UInt8 → Bool) : ∀ (m : Nat) (l : Bytes), (∀ x ∈ l.take (cnt p m l), p x = true)
  | 0, l => by simp [cnt]
  | m + 1, [] => by simp
  | m + 1, c :: r => by
    intro x hx
    rw [cnt] at hx
    split at hx
    · next hc =>
      rw [List.take_succ_cons] at hx
      rcases List.mem_cons.1 hx with rfl | h
      · exact hc
      · exact cnt_all p m r x h
    · simp at hx
theorem cnt_next (p : UInt8 → Bool) : ∀ (m : Nat) (l : Bytes), cnt p m l = m ∨ ∀ c, l[cnt p m l]? = some c → p c = false
  | 0, l => .inl (by simp [cnt])
  | m + 1, [] => .inr (by simp)
  | m + 1, c :: r => by
    rw [cnt]
    split
    · rcases cnt_next p m r with h | h
      · exact .inl (by rw [h])
      · exact .inr (fun d hd => h d (by simpa using hd))
    · next hc =>
      exact .inr (fun d hd => by
        simp only [List.getElem?_cons_zero, Option.some.injEq] at hd
        subst hd
        exact Bool.eq_false_iff.2 hc)
theorem drop_app {x y : Bytes} {n : Nat} (h : x.length = n) : (x ++ y).drop n = y := by subst h; simp
theorem while_app {x u r : Bytes} {c : UInt8} {p : UInt8 → Bool} {m n : Nat} (h : x.length = n) (hu : ∀ z ∈ u, p z = true) (hm : u.length ≤ m) (hc : u.length = m ∨ p c = false) : whileN (x ++ (u ++ c :: r)) p m n = n + u.length := by
  unfold whileN
  rw [drop_app h, cnt_app p m u c r hu hm hc]
theorem must_app : ∀ {x t r : Bytes} {n : Nat}, x.length = n → mustN (x ++ (t ++ r)) t n = some (n + t.length)
  | x, [], r, n, h => by simp [mustN]
  | x, c :: t, r, n, h => by
    have h1 : (x ++ (c :: t ++ r))[n]? = some c := by
      subst h
      simp
    rw [mustN, if_pos h1]
    have := must_app (x := x ++ [c]) (t := t) (r := r) (n := n + 1) (by simp [h])
    rw [List.append_assoc] at this
    simp only [List.cons_append, List.nil_append] at this ⊢
    rw [this, List.length_cons]
    congr 1
    omega
theorem piece_app {x u r : Bytes} {n k : Nat} (h : x.length = n) (hu : u.length = k) : piece (x ++ (u ++ r)) n (n + k) = u := by
  unfold piece
  rw [drop_app h, show n + k - n = k by omega]
  subst hu
  simp
theorem must_drop {s : Bytes} : ∀ {t : Bytes} {a b : Nat}, mustN s t a = some b → s.drop a = t ++ s.drop b
  | [], a, b, h => by
    simp only [mustN, Option.some.injEq] at h
    rw [h, List.nil_append]
  | c :: t, a, b, h => by
    rw [mustN] at h
    split at h
    · next h1 =>
      obtain ⟨h2, h3⟩ := List.getElem?_eq_some_iff.1 h1
      rw [List.drop_eq_getElem_cons h2, h3, must_drop h]
      rfl
    · cases h
theorem while_drop (s : Bytes) (p : UInt8 → Bool) (m a : Nat) : s.drop a = piece s a (whileN s p m a) ++ s.drop (whileN s p m a) := by
  unfold piece
  rw [show whileN s p m a = a + (whileN s p m a - a) by have := while_ge s p m a; omega]
  rw [show a + (whileN s p m a - a) - a = whileN s p m a - a by omega, ← List.drop_drop, List.take_append_drop]
theorem while_all (s : Bytes) (p : UInt8 → Bool) (m a : Nat) : ∀ x ∈ piece s a (whileN s p m a), p x = true := by
  unfold piece whileN
  rw [Nat.add_sub_cancel_left]
  exact cnt_all p m _
theorem while_piece (s : Bytes) (p : UInt8 → Bool) (m a : Nat) : (piece s a (whileN s p m a)).length = whileN s p m a - a := by
  have h := cnt_len p m (s.drop a)
  unfold piece whileN
  rw [Nat.add_sub_cancel_left, List.length_take]
  omega
theorem while_next (s : Bytes) (p : UInt8 → Bool) (m a : Nat) : whileN s p m a = a + m ∨ ∀ c, s[whileN s p m a]? = some c → p c = false := by
  unfold whileN
  rcases cnt_next p m (s.drop a) with h | h
  · exact .inl (by rw [h])
  · exact .inr (fun c hc => h c (by rw [List.getElem?_drop]; exact hc))
theorem cutQ_eq : ∀ l : Bytes, (cutQ l).2 ≠ [] → l = (cutQ l).1 ++ 63 :: (cutQ l).2
  | [], h => absurd rfl h
  | c :: r, h => by
    rw [cutQ] at h ⊢
    split
    · next hc => subst hc; rfl
    · next hc =>
      rw [if_neg hc] at h
      rw [List.cons_append, ← cutQ_eq r h]
theorem cutQ_len : ∀ l : Bytes, (cutQ l).1.length ≤ l.length ∧ ((cutQ l).2 ≠ [] → (cutQ l).1.length + (cutQ l).2.length + 1 = l.length)
  | [] => ⟨Nat.le_refl _, fun h => absurd rfl h⟩
  | c :: r => by
    have h := cutQ_len r
    rw [cutQ]
    split
    · exact ⟨Nat.zero_le _, fun _ => by simp⟩
    · refine ⟨by simpa using h.1, fun h2 => ?_⟩
      have := h.2 h2
      simp only [List.length_cons]
      omega
/-- What a line that was read looks like. -/
theorem line_form {s m p q : Bytes} {e : Nat} (h : lineN s = some (m, p, q, e)) :
    ∃ t : Bytes, s = m ++ (32 :: (47 :: t ++ (versL ++ s.drop e))) ∧ m ≠ [] ∧ m.length ≤ 16 ∧ (∀ x ∈ m, upB x = true) ∧ (∀ x ∈ t, shownB x = true) ∧ p = (cutQ (47 :: t)).1 ∧ q = (cutQ (47 :: t)).2 := by
  unfold lineN at h
  simp only at h
  split at h
  · cases h
  · next h0 =>
    split at h
    · cases h
    · next a1 h1 =>
      split at h
      · cases h
      · next a2 h2 =>
        split at h
        · cases h
        · next z h3 =>
          simp only [Option.some.injEq, Prod.mk.injEq] at h
          obtain ⟨rfl, rfl, rfl, rfl⟩ := h
          obtain ⟨e1, -⟩ := must_le h1
          obtain ⟨e2, -⟩ := must_le h2
          simp only [List.length_cons, List.length_nil] at e1 e2
          have d0 := while_drop s upB 16 0
          have d1 := must_drop h1
          have d2 := must_drop h2
          have d3 := while_drop s shownB s.length a2
          have d4 := must_drop h3
          rw [List.drop_zero] at d0
          have hp : piece s a1 (whileN s shownB s.length a2) = 47 :: piece s a2 (whileN s shownB s.length a2) := by
            have g := while_ge s shownB s.length a2
            unfold piece
            rw [d2, show whileN s shownB s.length a2 - a1 = (whileN s shownB s.length a2 - a2) + 1 by omega]
            rfl
          refine ⟨piece s a2 (whileN s shownB s.length a2), ?_, ?_, ?_, while_all s upB 16 0, while_all s shownB s.length a2, by rw [hp], by rw [hp]⟩
          · conv => lhs; rw [d0, d1, d2, d3, d4]
            rfl
          · intro hc
            have := while_piece s upB 16 0
            rw [hc] at this
            simp only [List.length_nil] at this
            omega
          · rw [while_piece]
            have := cnt_m upB 16 (s.drop 0)
            unfold whileN
            omega
/-- A line that looks so is read so. -/
theorem line_read {m t r : Bytes} (hm : m ≠ []) (hl : m.length ≤ 16) (hu : ∀ x ∈ m, upB x = true) (ht : ∀ x ∈ t, shownB x = true) :
    lineN (m ++ (32 :: (47 :: t ++ (versL ++ r)))) = some (m, (cutQ (47 :: t)).1, (cutQ (47 :: t)).2, m.length + 2 + t.length + 11) := by
  have e0 : whileN (m ++ (32 :: (47 :: t ++ (versL ++ r)))) upB 16 0 = m.length := by
    have := while_app (x := []) (u := m) (r := 47 :: t ++ (versL ++ r)) (c := 32) (p := upB) (m := 16) (n := 0) rfl hu hl (.inr (by decide))
    rw [List.nil_append, Nat.zero_add] at this
    exact this
  have e1 : mustN (m ++ (32 :: (47 :: t ++ (versL ++ r)))) [32] m.length = some (m.length + 1) := must_app (x := m) (t := [32]) (r := 47 :: t ++ (versL ++ r)) rfl
  have e2 : mustN (m ++ (32 :: (47 :: t ++ (versL ++ r)))) [47] (m.length + 1) = some (m.length + 2) := by
    have := must_app (x := m ++ [32]) (t := [47]) (r := t ++ (versL ++ r)) (n := m.length + 1) (by simp)
    rw [List.append_assoc] at this
    exact this
  have e3 : whileN (m ++ (32 :: (47 :: t ++ (versL ++ r)))) shownB (m ++ (32 :: (47 :: t ++ (versL ++ r)))).length (m.length + 2) = m.length + 2 + t.length := by
    have := while_app (x := m ++ [32, 47]) (u := t) (r := [72, 84, 84, 80, 47, 49, 46, 49, 13, 10] ++ r) (c := 32) (p := shownB) (m := (m ++ (32 :: (47 :: t ++ (versL ++ r)))).length) (n := m.length + 2) (by simp) ht (by simp; omega) (.inr (by decide))
    rw [List.append_assoc] at this
    exact this
  have e4 : mustN (m ++ (32 :: (47 :: t ++ (versL ++ r)))) versL (m.length + 2 + t.length) = some (m.length + 2 + t.length + 11) := by
    have := must_app (x := m ++ (32 :: 47 :: t)) (t := versL) (r := r) (n := m.length + 2 + t.length) (by simp; omega)
    rw [List.append_assoc] at this
    exact this
  have e5 : piece (m ++ (32 :: (47 :: t ++ (versL ++ r)))) 0 m.length = m := by
    have := piece_app (x := []) (u := m) (r := 32 :: (47 :: t ++ (versL ++ r))) (n := 0) (k := m.length) rfl rfl
    rw [List.nil_append, Nat.zero_add] at this
    exact this
  have e6 : piece (m ++ (32 :: (47 :: t ++ (versL ++ r)))) (m.length + 1) (m.length + 2 + t.length) = 47 :: t := by
    have := piece_app (x := m ++ [32]) (u := 47 :: t) (r := versL ++ r) (n := m.length + 1) (k := t.length + 1) (by simp) (by simp)
    rw [List.append_assoc, show m.length + 1 + (t.length + 1) = m.length + 2 + t.length by omega] at this
    exact this
  unfold lineN
  simp only
  rw [e0, if_neg (by simpa using hm), e1]
  simp only
  rw [e2]
  simp only
  rw [e3, e4]
  simp only
  rw [e5, e6]
theorem trimR_first : ∀ l : Bytes, (trimR l = []) ∨ (trimR l)[0]? = l[0]?
  | [] => .inl rfl
  | c :: r => by
    rw [trimR]
    split
    · exact .inl rfl
    · exact .inr rfl
theorem trimR_twice : ∀ l : Bytes, trimR (trimR l) = trimR l
  | [] => rfl
  | c :: r => by
    have h := trimR_twice r
    conv => lhs; rw [trimR]
    conv => rhs; rw [trimR]
    split
    · rfl
    · next hc =>
      rw [trimR, h, if_neg hc]
theorem trimR_mem {l : Bytes} {x : UInt8} (h : x ∈ trimR l) : x ∈ l := by
  rw [trimR_take] at h
  exact List.mem_of_mem_take h
/-- What a head line that was read looks like. -/
theorem head_form {s n v : Bytes} {a f z : Nat} (h : headN s a = some (n, v, f, z)) :
    ∃ bl u : Bytes, s.drop a = n ++ (58 :: (bl ++ (u ++ ([13, 10] ++ s.drop z)))) ∧ n ≠ [] ∧ n.length ≤ 64 ∧ (∀ x ∈ n, namedB x = true) ∧ (∀ x ∈ u, valuedB x = true) ∧ (∀ c, u[0]? = some c → blankB c = false) ∧ v = trimR u := by
  unfold headN at h
  simp only at h
  split at h
  · cases h
  · next h0 =>
    split at h
    · cases h
    · next a1 h1 =>
      split at h
      · cases h
      · next z' h2 =>
        simp only [Option.some.injEq, Prod.mk.injEq] at h
        obtain ⟨rfl, rfl, rfl, rfl⟩ := h
        have d0 := while_drop s namedB 64 a
        have d1 := must_drop h1
        have d2 := while_drop s blankB s.length a1
        have d3 := while_drop s valuedB s.length (whileN s blankB s.length a1)
        have d4 := must_drop h2
        refine ⟨piece s a1 (whileN s blankB s.length a1), piece s (whileN s blankB s.length a1) (whileN s valuedB s.length (whileN s blankB s.length a1)), ?_, ?_, ?_, while_all s namedB 64 a, while_all s valuedB s.length _, ?_, rfl⟩
        · conv => lhs; rw [d0, d1, d2, d3, d4]
          rfl
        · intro hc
          have := while_piece s namedB 64 a
          rw [hc] at this
          simp only [List.length_nil] at this
          have g := while_ge s namedB 64 a
          omega
        · rw [while_piece]
          have := cnt_m namedB 64 (s.drop a)
          unfold whileN
          omega
        · intro c hc
          have hc' : s[whileN s blankB s.length a1]? = some c := by
            have g := List.getElem?_eq_some_iff.1 hc
            obtain ⟨g1, g2⟩ := g
            unfold piece at g2 g1
            rw [List.getElem_take, List.getElem_drop] at g2
            rw [List.length_take, List.length_drop] at g1
            exact List.getElem?_eq_some_iff.2 ⟨by omega, by simpa using g2⟩
          rcases while_next s blankB s.length a1 with g | g
          · exfalso
            have := (List.getElem?_eq_some_iff.1 hc').1
            omega
          · exact g c hc'
theorem head_read {x n u r : Bytes} {a : Nat} (hx : x.length = a) (hn : n ≠ []) (hl : n.length ≤ 64) (hN : ∀ z ∈ n, namedB z = true) (hv : ∀ z ∈ u, valuedB z = true) (hb : ∀ c, u[0]? = some c → blankB c = false) :
    headN (x ++ (n ++ ([58, 32] ++ (trimR u ++ ([13, 10] ++ r))))) a = some (n, trimR u, a + n.length + 2, a + n.length + 2 + (trimR u).length + 2) := by
  have hv' : ∀ z ∈ trimR u, valuedB z = true := fun z hz => hv z (trimR_mem hz)
  generalize hS : x ++ (n ++ ([58, 32] ++ (trimR u ++ ([13, 10] ++ r)))) = S
  have hlen : S.length = a + n.length + 2 + (trimR u).length + 2 + r.length := by rw [← hS]; simp; omega
  have e0 : whileN S namedB 64 a = a + n.length := by
    rw [← hS]
    exact while_app (x := x) (u := n) (r := 32 :: (trimR u ++ ([13, 10] ++ r))) (c := 58) hx hN hl (.inr (by decide))
  have e1 : mustN S [58] (a + n.length) = some (a + n.length + 1) := by
    rw [← hS]
    have := must_app (x := x ++ n) (t := [58]) (r := 32 :: (trimR u ++ ([13, 10] ++ r))) (n := a + n.length) (by simp [hx])
    rw [List.append_assoc] at this
    exact this
  have e2 : whileN S blankB S.length (a + n.length + 1) = a + n.length + 2 := by
    cases ht : trimR u with
    | nil =>
      have := while_app (x := x ++ (n ++ [58])) (u := [32]) (r := 10 :: r) (c := 13) (p := blankB) (m := S.length) (n := a + n.length + 1) (by simp [hx]; omega) (by intro z hz; rw [List.mem_singleton] at hz; subst hz; decide) (by rw [hlen]; simp; omega) (.inr (by decide))
      rw [← hS, ht]
      rw [← hS, ht] at this
      rw [List.append_assoc, List.append_assoc] at this
      exact this
    | cons c t =>
      have hc : blankB c = false := by
        rcases trimR_first u with h | h
        · rw [ht] at h; cases h
        · rw [ht] at h
          exact hb c h.symm
      have := while_app (x := x ++ (n ++ [58])) (u := [32]) (r := t ++ ([13, 10] ++ r)) (c := c) (p := blankB) (m := S.length) (n := a + n.length + 1) (by simp [hx]; omega) (by intro z hz; rw [List.mem_singleton] at hz; subst hz; decide) (by rw [hlen]; simp; omega) (.inr hc)
      rw [← hS, ht]
      rw [← hS, ht] at this
      rw [List.append_assoc, List.append_assoc] at this
      exact this
  have e3 : whileN S valuedB S.length (a + n.length + 2) = a + n.length + 2 + (trimR u).length := by
    have := while_app (x := x ++ (n ++ [58, 32])) (u := trimR u) (r := 10 :: r) (c := 13) (p := valuedB) (m := S.length) (n := a + n.length + 2) (by simp [hx]; omega) hv' (by rw [hlen]; omega) (.inr (by decide))
    rw [← hS]
    rw [← hS] at this
    rw [List.append_assoc, List.append_assoc] at this
    exact this
  have e4 : mustN S [13, 10] (a + n.length + 2 + (trimR u).length) = some (a + n.length + 2 + (trimR u).length + 2) := by
    have := must_app (x := x ++ (n ++ ([58, 32] ++ trimR u))) (t := [13, 10]) (r := r) (n := a + n.length + 2 + (trimR u).length) (by simp [hx]; omega)
    rw [← hS]
    rw [List.append_assoc, List.append_assoc, List.append_assoc] at this
    exact this
  have e5 : piece S a (a + n.length) = n := by
    rw [← hS]
    exact piece_app hx rfl
  have e6 : piece S (a + n.length + 2) (a + n.length + 2 + (trimR u).length) = trimR u := by
    have := piece_app (x := x ++ (n ++ [58, 32])) (u := trimR u) (r := [13, 10] ++ r) (n := a + n.length + 2) (k := (trimR u).length) (by simp [hx]; omega) rfl
    rw [← hS]
    rw [List.append_assoc, List.append_assoc] at this
    exact this
  unfold headN
  simp only
  rw [e0, if_neg (by have : n.length ≠ 0 := by simpa using hn
                     omega), e1]
  simp only
  rw [e2, e3, e4]
  simp only
  rw [e5, e6, trimR_twice]
/-- Two words on the length that say the same. -/
def lnSame (a b : Option (Nat × Bytes)) : Prop := a.map (·.2) = b.map (·.2)
theorem lnSame_len {a b : Option (Nat × Bytes)} (h : lnSame a b) (n v : Bytes) (f f' : Nat) : lnSame (lenN a n v f) (lenN b n v f') := by
  unfold lenN lnSame at *
  cases a with
  | none =>
    cases b with
    | none => split <;> simp_all
    | some y => simp at h
  | some x =>
    cases b with
    | none => simp at h
    | some y =>
      rw [if_neg (by simp), if_neg (by simp)]
      exact h
theorem lnSame_ok {a b : Option (Nat × Bytes)} (h : lnSame a b) (l : Bytes) : lenOk a l = lenOk b l := by
  unfold lnSame at h
  cases a with
  | none => cases b with
    | none => rfl
    | some y => simp at h
  | some x => cases b with
    | none => simp at h
    | some y =>
      simp only [Option.map_some, Option.some.injEq] at h
      obtain ⟨x1, x2⟩ := x
      obtain ⟨y1, y2⟩ := y
      subst h
      rfl
theorem named_first {n : Bytes} (hn : n ≠ []) (hN : ∀ z ∈ n, namedB z = true) (x y : Bytes) {a : Nat} (hx : x.length = a) : (x ++ (n ++ y))[a]? ≠ some 13 := by
  cases n with
  | nil => exact absurd rfl hn
  | cons c t =>
    subst hx
    rw [List.getElem?_append_right (Nat.le_refl _), Nat.sub_self]
    simp only [List.cons_append, List.getElem?_cons_zero, ne_eq, Option.some.injEq]
    rintro rfl
    exact absurd (hN 13 (List.mem_cons_self ..)) (by decide)
/-- The heads that were read are read again where they were written, whatever stands ahead and behind; and how long they are. -/
theorem heads_back (s : Bytes) : ∀ (k a : Nat) (hs hs2 : List (Bytes × Bytes)) (ln ln2 : Option (Nat × Bytes)) (e : Nat), s.length - a ≤ k → headsN s a hs ln = some (hs2, ln2, e) →
    ∃ more : List (Bytes × Bytes), hs2 = hs ++ more ∧ (headsT more).length + 2 + (s.drop e).length ≤ (s.drop a).length + more.length ∧ ∀ (x : Bytes) (a' : Nat) (ln' : Option (Nat × Bytes)) (r : Bytes), x.length = a' → lnSame ln ln' →
      ∃ ln2' e', headsN (x ++ (headsT more ++ ([13, 10] ++ r))) a' hs ln' = some (hs2, ln2', e') ∧ lnSame ln2 ln2' ∧ (x ++ (headsT more ++ ([13, 10] ++ r))).drop e' = r := by
  intro k
  induction k with
  | zero =>
    intro a hs hs2 ln ln2 e hk h
    exfalso
    rw [headsN] at h
    split at h
    · next h1 =>
      have := (List.getElem?_eq_some_iff.1 h1).1
      omega
    · split at h
      · cases h
      · split at h
        · cases h
        · next n v f z hh =>
          have := head_far hh
          omega
  | succ k ih =>
    intro a hs hs2 ln ln2 e hk h
    rw [headsN] at h
    split at h
    · split at h
      · cases h
      · next z hz =>
        simp only [Option.some.injEq, Prod.mk.injEq] at h
        obtain ⟨rfl, rfl, rfl⟩ := h
        have hd := must_drop hz
        refine ⟨[], by simp, ?_, ?_⟩
        · rw [hd]
          simp [headsT]
          omega
        · intro x a' ln' r hx hln
          refine ⟨ln', a' + 2, ?_, hln, ?_⟩
          · rw [headsN]
            have h13 : (x ++ (headsT [] ++ ([13, 10] ++ r)))[a']? = some 13 := by
              subst hx
              simp [headsT]
            rw [if_pos h13]
            have := must_app (x := x) (t := [13, 10]) (r := r) (n := a') hx
            simp only [headsT, List.nil_append]
            rw [this]
            rfl
          · subst hx
            simp [headsT]
    · split at h
      · cases h
      · next hlen =>
        split at h
        · cases h
        · next n v f z hh =>
          obtain ⟨hz1, hz2⟩ := head_far hh
          obtain ⟨bl, u, hd, hn, hl, hN, hv, hb, rfl⟩ := head_form hh
          obtain ⟨more, e1, e2, e3⟩ := ih z (hs ++ [(n, trimR u)]) hs2 (lenN ln n (trimR u) f) ln2 e (by omega) h
          refine ⟨(n, trimR u) :: more, by rw [e1, List.append_assoc]; rfl, ?_, ?_⟩
          · rw [hd]
            have := trimR_len u
            simp only [headsT, List.length_append, List.length_cons, List.length_nil] at e2 ⊢
            omega
          · intro x a' ln' r hx hln
            have hr := head_read (x := x) (n := n) (u := u) (r := headsT more ++ ([13, 10] ++ r)) hx hn hl hN hv hb
            have hX : x ++ (headsT ((n, trimR u) :: more) ++ ([13, 10] ++ r)) = x ++ (n ++ ([58, 32] ++ (trimR u ++ ([13, 10] ++ (headsT more ++ ([13, 10] ++ r)))))) := by
              simp only [headsT, List.append_assoc]
            obtain ⟨ln2', e', g1, g2, g3⟩ := e3 (x ++ (n ++ ([58, 32] ++ (trimR u ++ [13, 10])))) (a' + n.length + 2 + (trimR u).length + 2) (lenN ln' n (trimR u) (a' + n.length + 2)) r (by simp [hx]; omega) (lnSame_len hln n (trimR u) f (a' + n.length + 2))
            have hY : x ++ (n ++ ([58, 32] ++ (trimR u ++ [13, 10]))) ++ (headsT more ++ ([13, 10] ++ r)) = x ++ (n ++ ([58, 32] ++ (trimR u ++ ([13, 10] ++ (headsT more ++ ([13, 10] ++ r)))))) := by
              simp only [List.append_assoc]
            rw [hY] at g1 g3
            refine ⟨ln2', e', ?_, g2, by rw [hX]; exact g3⟩
            rw [hX, headsN, if_neg (named_first hn hN x _ hx), if_neg hlen]
            rw [hr]
            exact g1
/-- What was read of a text, written, is no longer than the text and its heads; and is read back, if it has a query and is not too long. -/
theorem back {s : Bytes} {p : Rq} (h : parseN s = some p) : (textN p).length ≤ s.length + p.heads.length ∧ (p.query ≠ [] → (textN p).length ≤ 65536 → parseN (textN p) = some p) := by
  unfold parseN at h
  split at h
  · cases h
  · split at h
    · cases h
    · next m pa q a hl =>
      split at h
      · cases h
      · next hs ln e hh =>
        split at h
        · next hok =>
          simp only [Option.some.injEq] at h
          subst h
          obtain ⟨t, hf, hm, hm2, hu, ht, rfl, rfl⟩ := line_form hl
          obtain ⟨more, e1, e2, e3⟩ := heads_back s s.length a [] hs none ln e (by omega) hh
          rw [List.nil_append] at e1
          subst e1
          have hsl := congrArg List.length hf
          simp only [List.length_append, List.length_cons, versL, List.length_nil] at hsl
          constructor
          · obtain ⟨c1, c2⟩ := cutQ_len (47 :: t)
            unfold textN targetN
            simp only
            split
            · simp only [List.length_append, List.length_cons, versL, List.length_nil] at c1 ⊢
              omega
            · next hq =>
              have c3 := c2 hq
              simp only [List.length_append, List.length_cons, versL, List.length_nil] at c3 ⊢
              omega
          · intro hq hlen
            have hT : textN ⟨m, (cutQ (47 :: t)).1, (cutQ (47 :: t)).2, hs, s.drop e⟩ = m ++ (32 :: (47 :: t ++ (versL ++ (headsT hs ++ ([13, 10] ++ s.drop e))))) := by
              unfold textN targetN
              simp only
              rw [if_neg hq, ← cutQ_eq _ hq]
              rfl
            rw [hT] at hlen ⊢
            have hr := line_read (m := m) (t := t) (r := headsT hs ++ ([13, 10] ++ s.drop e)) hm hm2 hu ht
            obtain ⟨ln2', e', g1, g2, g3⟩ := e3 (m ++ (32 :: (47 :: t ++ versL))) (m.length + 2 + t.length + 11) none (s.drop e) (by simp [versL]; omega) rfl
            have hY : m ++ (32 :: (47 :: t ++ versL)) ++ (headsT hs ++ ([13, 10] ++ s.drop e)) = m ++ (32 :: (47 :: t ++ (versL ++ (headsT hs ++ ([13, 10] ++ s.drop e))))) := by
              simp only [List.append_assoc, List.cons_append]
            rw [hY] at g1 g3
            unfold parseN
            rw [if_neg (by omega), hr]
            simp only
            rw [g1]
            simp only
            rw [g3, ← lnSame_ok g2, if_pos hok]
        · cases h
end Rw
end Go.Proofs.YtnbhaokbaonjkaaGreatDoor
