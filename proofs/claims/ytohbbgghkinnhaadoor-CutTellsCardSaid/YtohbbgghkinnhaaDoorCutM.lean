/- The walk of the reference: hidden. -/
import Derived.Test.YtohbbgghkinnhaaDoorCutL
namespace Go.Proofs.YtohbbgghkinnhaaDoor
open Go.RowKit

/-- How many bytes hide the end of code at l's head; 0: none do. -/
def hidN (l : Bytes) : Nat :=
  match l with
  | [] => 0
  | c :: r =>
    if c = 39 || c = 34 then textN (c :: r)
    else if Lib.hasPrefix (c :: r) [47, 42] then (if Lib.index (l.drop 2) [42, 47] < 0 then l.length else (Lib.index (l.drop 2) [42, 47]).toNat + 4)
    else if c = 35 || Lib.hasPrefix (c :: r) [47, 47] then lineN (c :: r)
    else longN l
theorem hidN_step (s : ByteArray) (i : Nat) (hi : i < s.size) : (if hidN (s.data.toList.drop i) = 0 then 1 else hidN (s.data.toList.drop i)) = stepN (s.data.toList.drop i) := by
  have hp : 1 ≤ stepN (s.data.toList.drop i) := by rw [drop_cons s i hi]; exact stepN_pos _ _
  generalize s.data.toList.drop i = l at *
  unfold hidN stepN at *
  cases l with
  | nil => simp at hp
  | cons c r =>
    simp only at *
    by_cases h1 : (c = 39 || c = 34) = true
    · rw [if_pos h1] at *; rw [if_neg (by omega)]; rw [if_pos h1]
    · rw [if_neg h1] at *
      by_cases h2 : Lib.hasPrefix (c :: r) [47, 42] = true
      · rw [if_pos h2] at *; rw [if_neg (by omega)]; rw [if_neg h1, if_pos h2]
      · rw [if_neg h2] at *
        by_cases h3 : (c = 35 || Lib.hasPrefix (c :: r) [47, 47]) = true
        · rw [if_pos h3] at *; rw [if_neg (by omega)]; rw [if_neg h1, if_neg h2, if_pos h3]
        · rw [if_neg h3] at *
          rw [if_neg h1, if_neg h2, if_neg h3]
          split <;> omega
theorem hid_text (s : ByteArray) (i : Nat) (hi : i < s.size) (h : s[i] = 39 ∨ s[i] = 34) : hidN (s.data.toList.drop i) = textN (s.data.toList.drop i) := by
  rw [drop_cons s i hi]; unfold hidN; simp only
  rw [if_pos (by simpa using h)]
theorem hid_note (s : ByteArray) (i : Nat) (hi : i < s.size) (h : ¬ (s[i] = 39 ∨ s[i] = 34)) (hp : Lib.hasPrefix (s.data.toList.drop i) [47, 42] = true) : hidN (s.data.toList.drop i) = if Lib.index (s.data.toList.drop (i + 2)) [42, 47] < 0 then s.size - i else (Lib.index (s.data.toList.drop (i + 2)) [42, 47]).toNat + 4 := by
  rw [← List.drop_drop]
  have hl : (s.data.toList.drop i).length = s.size - i := by rw [List.length_drop, Lib.size_eq]
  rw [drop_cons s i hi] at *; unfold hidN; simp only
  rw [if_neg (by simpa using h), if_pos hp, hl]
theorem hid_line (s : ByteArray) (i : Nat) (hi : i < s.size) (h : ¬ (s[i] = 39 ∨ s[i] = 34)) (hp : Lib.hasPrefix (s.data.toList.drop i) [47, 42] = false) (hc : s[i] = 35 ∨ Lib.hasPrefix (s.data.toList.drop i) [47, 47] = true) : hidN (s.data.toList.drop i) = lineN (s.data.toList.drop i) := by
  rw [drop_cons s i hi] at *; unfold hidN; simp only
  rw [if_neg (by simpa using h), if_neg (by rw [hp]; decide), if_pos (by simpa using hc)]
theorem hid_else (s : ByteArray) (i : Nat) (hi : i < s.size) (h : ¬ (s[i] = 39 ∨ s[i] = 34)) (hp : Lib.hasPrefix (s.data.toList.drop i) [47, 42] = false) (hc : ¬ (s[i] = 35 ∨ Lib.hasPrefix (s.data.toList.drop i) [47, 47] = true)) : hidN (s.data.toList.drop i) = longN (s.data.toList.drop i) := by
  rw [drop_cons s i hi] at *; unfold hidN; simp only
  rw [if_neg (by simpa using h), if_neg (by rw [hp]; decide), if_neg (by simpa using hc)]

/-! ### a text in quotes -/
/-- What is left of a text in quotes at byte k: R is its end. -/
def TextR (s : ByteArray) (q : UInt8) (R k : Nat) : Prop := R = if k ≤ s.size then k + textT q (s.data.toList.drop k) else s.size
theorem textR_start (s : ByteArray) (i : Nat) (h : i < s.size) : TextR s s[i] (i + textN (s.data.toList.drop i)) (i + 1) := by
  unfold TextR
  rw [if_pos (by omega), drop_cons s i h, textN]; omega
theorem textR_esc (s : ByteArray) (q : UInt8) (R k : Nat) (h : k < s.size) (hc : s[k] = 92) (ht : TextR s q R k) : TextR s q R (k + 1 + 1) := by
  unfold TextR at *
  rw [if_pos (by omega), drop_cons s k h, hc, textT_cons, if_pos rfl] at ht
  rw [ht]
  by_cases h1 : k + 1 < s.size
  · rw [if_pos (by omega), drop_cons s (k + 1) h1]
    simp only
    omega
  · rw [if_neg (by omega), List.drop_eq_nil_of_le (by have := Lib.size_eq s; omega)]
    simp only
    omega
theorem textR_end (s : ByteArray) (q : UInt8) (R k : Nat) (h : k < s.size) (hc : s[k] ≠ 92) (hq : s[k] = q) (ht : TextR s q R k) : R = k + 1 := by
  unfold TextR at ht
  rw [if_pos (by omega), drop_cons s k h, textT_cons, if_neg hc, if_pos hq] at ht
  exact ht
theorem textR_byte (s : ByteArray) (q : UInt8) (R k : Nat) (h : k < s.size) (hc : s[k] ≠ 92) (hq : s[k] ≠ q) (ht : TextR s q R k) : TextR s q R (k + 1) := by
  unfold TextR at *
  rw [if_pos (by omega), drop_cons s k h, textT_cons, if_neg hc, if_neg hq] at ht
  rw [ht, if_pos (by omega)]
  omega
theorem textR_all (s : ByteArray) (q : UInt8) (R k : Nat) (h : s.size ≤ k) (ht : TextR s q R k) : R = s.size := by
  unfold TextR at ht
  by_cases h1 : k ≤ s.size
  · rw [if_pos h1, List.drop_eq_nil_of_le (by have := Lib.size_eq s; omega), textT_nil] at ht
    omega
  · rw [if_neg h1] at ht; exact ht

/-- What hidden answers. -/
def HidPost (s : ByteArray) (i : Nat) (w : World) (e : Ending) (w' : World) : Prop := e = .returned (.int .i64 ((i + hidN (s.data.toList.drop i) : Nat) : Int)) ∧ Below w.heap.size w w'

theorem below_drewN' {B : Nat} {a w : World} (h : Below B a w) (n : Nat) : Below B a (w.drewN n) := ⟨h.os, h.tape, h.output, h.size, h.block⟩

set_option maxRecDepth 100000 in
set_option maxHeartbeats 4000000 in
theorem hidden_text (s : ByteArray) (hs : s.size ≤ 65536) (i : Nat) (hi : i < s.size) (hq : s[i] = 39 ∨ s[i] = 34) (w : World) :
    Calls Tryd.prog 24 #[.string s, .int .i64 (i : Int)] w (HidPost s i w) := by
  obtain ⟨R, hR⟩ : ∃ R : Nat, i + textN (s.data.toList.drop i) = R := ⟨_, rfl⟩
  have HR : Hid (i + hidN (s.data.toList.drop i) = R) := by show i + hidN (s.data.toList.drop i) = R; rw [hid_text s i hi hq]; exact hR
  have HT := Lib.hid (textR_start s i hi)
  rw [hR] at HT
  clear hR
  have hiI : (i : Int) < (s.size : Int) := by omega
  obtain ⟨b39, h39⟩ : ∃ b, ((s[i].toNat : Int) == 39) = b := ⟨_, rfl⟩
  obtain ⟨b34, h34⟩ : ∃ b, ((s[i].toNat : Int) == 34) = b := ⟨_, rfl⟩
  have hbb : (b39 || b34) = true := by
    rcases hq with h | h
    · rw [h] at h39; rw [← h39]; rfl
    · rw [h] at h34; rw [← h34, show (((34 : UInt8).toNat : Int) == 34) = true from rfl]; simp
  clear hq
  cases b39 with
  | true =>
    clear hbb h34
    go_enter Tryd.func24, Tryd.ntmps24
    go_wp2_with fail
    go_loopg [5] (s.size + 1 - (i + 1)) (fun g r wx => ∃ k : Nat, k + g = s.size + 1 ∧ r = .int .i64 k ∧ Hid (TextR s s[i] R k) ∧ Hid (Below w.heap.size w wx))
    case atStart => exact ⟨i + 1, by omega, by go_num, HT, Below.refl _ _⟩
    case round =>
      obtain ⟨k, hkg, rfl, Hk, HB⟩ := hrel
      by_cases hlt : k < s.size
      · have hltI : (k : Int) < (s.size : Int) := by omega
        by_cases hc : s[k] = 92
        · have g1 : ((s[k].toNat : Int) == 92) = true := by rw [hc]; rfl
          have HN := Lib.hid (textR_esc s _ R k hlt hc Hk.out)
          clear hc
          go_wp2_with fail
          go_roundg (s.size + 1 - (k + 1 + 1))
          case rel => exact ⟨k + 1 + 1, by omega, by go_num, HN, HB⟩
          case measure => omega
        · have g1 : ((s[k].toNat : Int) == 92) = false := ne_byte (b := 92) hc
          by_cases hq : s[k] = s[i]
          · have g2 := eq_byte hq
            have HN := Lib.hid (textR_end s _ R k hlt hc hq Hk.out)
            clear hc hq
            go_wp2_with fail
            go_quiet (fail)
            go_wp2_with fail
            go_ret
            exact ⟨ret_int (by rw [HR.out, HN.out]; simp), below_drewN' HB.out _⟩
          · have g2 := ne_byte hq
            have HN := Lib.hid (textR_byte s _ R k hlt hc hq Hk.out)
            clear hc hq
            go_wp2_with fail
            go_quiet (fail)
            go_wp2_with fail
            go_roundg (s.size + 1 - (k + 1))
            case rel => exact ⟨k + 1, by omega, by go_num, HN, below_drewN' HB.out _⟩
            case measure => omega
      · have hltI : ¬ ((k : Int) < (s.size : Int)) := by omega
        have HN := Lib.hid (textR_all s _ R k (by omega) Hk.out)
        go_wp2_with fail
        go_ret
        exact ⟨ret_int (by rw [HR.out, HN.out]), HB.out⟩
  | false =>
    cases b34 with
    | false => exact absurd hbb (by decide)
    | true =>
      clear hbb
      go_enter Tryd.func24, Tryd.ntmps24
      go_wp2_with fail
      go_loopg [5] (s.size + 1 - (i + 1)) (fun g r wx => ∃ k : Nat, k + g = s.size + 1 ∧ r = .int .i64 k ∧ Hid (TextR s s[i] R k) ∧ Hid (Below w.heap.size w wx))
      case atStart => exact ⟨i + 1, by omega, by go_num, HT, Below.refl _ _⟩
      case round =>
        obtain ⟨k, hkg, rfl, Hk, HB⟩ := hrel
        by_cases hlt : k < s.size
        · have hltI : (k : Int) < (s.size : Int) := by omega
          by_cases hc : s[k] = 92
          · have g1 : ((s[k].toNat : Int) == 92) = true := by rw [hc]; rfl
            have HN := Lib.hid (textR_esc s _ R k hlt hc Hk.out)
            clear hc
            go_wp2_with fail
            go_roundg (s.size + 1 - (k + 1 + 1))
            case rel => exact ⟨k + 1 + 1, by omega, by go_num, HN, HB⟩
            case measure => omega
          · have g1 : ((s[k].toNat : Int) == 92) = false := ne_byte (b := 92) hc
            by_cases hq : s[k] = s[i]
            · have g2 := eq_byte hq
              have HN := Lib.hid (textR_end s _ R k hlt hc hq Hk.out)
              clear hc hq
              go_wp2_with fail
              go_quiet (fail)
              go_wp2_with fail
              go_ret
              exact ⟨ret_int (by rw [HR.out, HN.out]; simp), below_drewN' HB.out _⟩
            · have g2 := ne_byte hq
              have HN := Lib.hid (textR_byte s _ R k hlt hc hq Hk.out)
              clear hc hq
              go_wp2_with fail
              go_quiet (fail)
              go_wp2_with fail
              go_roundg (s.size + 1 - (k + 1))
              case rel => exact ⟨k + 1, by omega, by go_num, HN, below_drewN' HB.out _⟩
              case measure => omega
        · have hltI : ¬ ((k : Int) < (s.size : Int)) := by omega
          have HN := Lib.hid (textR_all s _ R k (by omega) Hk.out)
          go_wp2_with fail
          go_ret
          exact ⟨ret_int (by rw [HR.out, HN.out]), HB.out⟩

/-! ### a comment -/
/-- No end of a comment stands in l ahead of place k, from a on. -/
def NoNote (l : Bytes) (a k : Nat) : Prop := ∀ j, a ≤ j → j < k → Lib.hasPrefix (l.drop j) [42, 47] = false
theorem noNote_next {l : Bytes} {a k : Nat} (h : NoNote l a k) (hk : Lib.hasPrefix (l.drop k) [42, 47] = false) : NoNote l a (k + 1) := by
  intro j h1 h2
  by_cases e : j = k
  · rw [e]; exact hk
  · exact h j h1 (by omega)
theorem occ_pre (l : Bytes) (a j : Nat) (sub : Bytes) : Lib.occAt (l.drop a) sub j = Lib.hasPrefix (l.drop (a + j)) sub := by
  unfold Lib.occAt; rw [List.drop_drop]; rfl
theorem note_hit {l : Bytes} {a k : Nat} (hak : a ≤ k) (h : NoNote l a k) (hk : Lib.hasPrefix (l.drop k) [42, 47] = true) : Lib.index (l.drop a) [42, 47] = ((k - a : Nat) : Int) := by
  refine Lib.index_first ?_ ?_ ?_
  · have := pre_le hk; rw [List.length_drop] at *; simp only [List.length_cons, List.length_nil] at this; omega
  · rw [occ_pre, show a + (k - a) = k by omega]; exact hk
  · intro j hj; rw [occ_pre]; exact h _ (by omega) (by omega)
theorem note_none {l : Bytes} {a k : Nat} (h : NoNote l a k) (hk : l.length ≤ k) : Lib.index (l.drop a) [42, 47] = -1 := by
  refine Lib.index_none ?_
  intro j _
  rw [occ_pre]
  by_cases e : a + j < k
  · exact h _ (by omega) e
  · rw [List.drop_eq_nil_of_le (by omega)]; rfl

set_option maxRecDepth 100000 in
set_option maxHeartbeats 4000000 in
theorem hidden_note (s : ByteArray) (hs : s.size ≤ 65536) (i : Nat) (hi : i < s.size) (hq : ¬ (s[i] = 39 ∨ s[i] = 34)) (hp : Lib.hasPrefix (s.data.toList.drop i) [47, 42] = true) (w : World) :
    Calls Tryd.prog 24 #[.string s, .int .i64 (i : Int)] w (HidPost s i w) := by
  have HR := Lib.hid (hid_note s i hi hq hp)
  have hl2 : i + 2 ≤ s.size := by have := pre_le hp; rw [List.length_drop, ← Lib.size_eq] at this; simp only [List.length_cons, List.length_nil] at this; omega
  have hiI : (i : Int) < (s.size : Int) := by omega
  have g39 : ((s[i].toNat : Int) == 39) = false := ne_byte (b := 39) (fun h => hq (.inl h))
  have g34 : ((s[i].toNat : Int) == 34) = false := ne_byte (b := 34) (fun h => hq (.inr h))
  have HA := Lib.hid (at_int s hs (i : Int) i rfl (by omega) ⟨#[47, 42]⟩ (by decide) (by decide) true hp)
  clear hq hp
  have H0 : Hid (NoNote s.data.toList (i + 2) (i + 2)) := fun j h1 h2 => absurd h2 (by omega)
  go_enter Tryd.func24, Tryd.ntmps24
  go_wp2_with fail
  refine (HA.out _).mono ?_; rintro e w1 ⟨rfl, rfl⟩
  go_wp2_with fail
  go_loopg [6] (s.size - (i + 2)) (fun g r wx => w = wx ∧ ∃ k : Nat, k + g = s.size ∧ i + 2 ≤ k ∧ r = .int .i64 k ∧ Hid (NoNote s.data.toList (i + 2) k))
  case atStart => exact ⟨rfl, i + 2, by omega, by omega, by go_num, H0⟩
  case round =>
    obtain ⟨rfl, k, hkg, hk2, rfl, Hk⟩ := hrel
    by_cases hlt : k < s.size
    · have hltI : (k : Int) < (s.size : Int) := by omega
      obtain ⟨b, kb⟩ : ∃ b, Lib.hasPrefix (s.data.toList.drop k) [42, 47] = b := ⟨_, rfl⟩
      have HB := Lib.hid (at_int s hs (k : Int) k rfl (by omega) ⟨#[42, 47]⟩ (by decide) (by decide) b kb)
      cases b with
      | true =>
        have HE : Hid (i + hidN (s.data.toList.drop i) = k + 2) := by
          show i + hidN (s.data.toList.drop i) = k + 2
          rw [HR.out, note_hit hk2 Hk.out kb, if_neg (by omega)]; omega
        clear kb
        go_wp2_with fail
        refine (HB.out _).mono ?_; rintro e w1 ⟨rfl, rfl⟩
        go_wp2_with fail
        go_ret
        exact ⟨ret_int (by rw [HE.out]; simp), Below.refl _ _⟩
      | false =>
        have HN := Lib.hid (noNote_next Hk.out kb)
        clear kb
        go_wp2_with fail
        refine (HB.out _).mono ?_; rintro e w1 ⟨rfl, rfl⟩
        go_wp2_with fail
        go_roundg (gk - 1)
        case rel => exact ⟨rfl, k + 1, by omega, by omega, by go_num, HN⟩
        case measure => omega
    · have hltI : ¬ ((k : Int) < (s.size : Int)) := by omega
      have HE : Hid (i + hidN (s.data.toList.drop i) = s.size) := by
        show i + hidN (s.data.toList.drop i) = s.size
        rw [HR.out, note_none Hk.out (by rw [← Lib.size_eq]; omega), if_pos (by omega)]; omega
      go_wp2_with fail
      go_ret
      exact ⟨ret_int (by rw [HE.out]), Below.refl _ _⟩

/-! ### a line -/
set_option maxRecDepth 100000 in
set_option maxHeartbeats 4000000 in
theorem hidden_line (s : ByteArray) (hs : s.size ≤ 65536) (i : Nat) (hi : i < s.size) (hq : ¬ (s[i] = 39 ∨ s[i] = 34)) (hp : Lib.hasPrefix (s.data.toList.drop i) [47, 42] = false) (hc : s[i] = 35 ∨ Lib.hasPrefix (s.data.toList.drop i) [47, 47] = true) (w : World) :
    Calls Tryd.prog 24 #[.string s, .int .i64 (i : Int)] w (HidPost s i w) := by
  have HR := Lib.hid (hid_line s i hi hq hp hc)
  have hiI : (i : Int) < (s.size : Int) := by omega
  have g39 : ((s[i].toNat : Int) == 39) = false := ne_byte (b := 39) (fun h => hq (.inl h))
  have g34 : ((s[i].toNat : Int) == 34) = false := ne_byte (b := 34) (fun h => hq (.inr h))
  have HA := Lib.hid (at_int s hs (i : Int) i rfl (by omega) ⟨#[47, 42]⟩ (by decide) (by decide) false hp)
  obtain ⟨b47, k47⟩ : ∃ b, Lib.hasPrefix (s.data.toList.drop i) [47, 47] = b := ⟨_, rfl⟩
  have HA2 := Lib.hid (at_int s hs (i : Int) i rfl (by omega) ⟨#[47, 47]⟩ (by decide) (by decide) b47 k47)
  clear hq hp
  by_cases h35 : s[i] = 35
  · have g35 : ((s[i].toNat : Int) == 35) = true := by rw [h35]; rfl
    clear hc k47 h35
    go_enter Tryd.func24, Tryd.ntmps24
    go_wp2_with fail
    refine (HA.out _).mono ?_; rintro e w1 ⟨rfl, rfl⟩
    go_wp2_with fail
    go_loopg [7] (s.size - i) (fun g r wx => w = wx ∧ ∃ k : Nat, k + g = s.size ∧ i ≤ k ∧ r = .int .i64 k ∧ Hid (LineFrom s i k))
    case atStart => exact ⟨rfl, i, by omega, by omega, rfl, rfl⟩
    case round =>
      obtain ⟨rfl, k, hkg, hk2, rfl, Hk⟩ := hrel
      by_cases hlt : k < s.size
      · have hltI : (k : Int) < (s.size : Int) := by omega
        obtain ⟨b, kb⟩ : ∃ b, Lib.hasPrefix (s.data.toList.drop k) [63, 62] = b := ⟨_, rfl⟩
        have HB := Lib.hid (at_int s hs (k : Int) k rfl (by omega) ⟨#[63, 62]⟩ (by decide) (by decide) b kb)
        by_cases h10 : s[k] = 10
        · have g10 : ((s[k].toNat : Int) == 10) = true := by rw [h10]; rfl
          have HE : Hid (i + hidN (s.data.toList.drop i) = k) := by
            show i + hidN (s.data.toList.drop i) = k
            rw [HR.out]; have := line_stop Hk.out hlt (.inl h10); omega
          clear h10 kb
          go_wp2_with fail
          go_ret
          exact ⟨ret_int (by rw [HE.out]), Below.refl _ _⟩
        · have g10 : ((s[k].toNat : Int) == 10) = false := ne_byte (b := 10) h10
          cases b with
          | true =>
            have HE : Hid (i + hidN (s.data.toList.drop i) = k) := by
              show i + hidN (s.data.toList.drop i) = k
              rw [HR.out]; have := line_stop Hk.out hlt (.inr kb); omega
            clear h10 kb
            go_wp2_with fail
            refine (HB.out _).mono ?_; rintro e w1 ⟨rfl, rfl⟩
            go_wp2_with fail
            go_ret
            exact ⟨ret_int (by rw [HE.out]), Below.refl _ _⟩
          | false =>
            have HN := Lib.hid (line_next Hk.out hlt h10 kb)
            clear h10 kb
            go_wp2_with fail
            refine (HB.out _).mono ?_; rintro e w1 ⟨rfl, rfl⟩
            go_wp2_with fail
            go_roundg (gk - 1)
            case rel => exact ⟨rfl, k + 1, by omega, by omega, by go_num, HN⟩
            case measure => omega
      · have hltI : ¬ ((k : Int) < (s.size : Int)) := by omega
        have HE : Hid (i + hidN (s.data.toList.drop i) = s.size) := by
          show i + hidN (s.data.toList.drop i) = s.size
          rw [HR.out]; have := line_all Hk.out (by omega); omega
        go_wp2_with fail
        go_ret
        exact ⟨ret_int (by rw [HE.out]), Below.refl _ _⟩
  · have g35 : ((s[i].toNat : Int) == 35) = false := ne_byte (b := 35) h35
    obtain rfl : b47 = true := by
      rcases hc with h | h
      · exact absurd h h35
      · rw [← k47]; exact h
    clear hc k47 h35
    go_enter Tryd.func24, Tryd.ntmps24
    go_wp2_with fail
    refine (HA.out _).mono ?_; rintro e w1 ⟨rfl, rfl⟩
    go_wp2_with fail
    refine (HA2.out _).mono ?_; rintro e w1 ⟨rfl, rfl⟩
    go_wp2_with fail
    go_loopg [7] (s.size - i) (fun g r wx => w = wx ∧ ∃ k : Nat, k + g = s.size ∧ i ≤ k ∧ r = .int .i64 k ∧ Hid (LineFrom s i k))
    case atStart => exact ⟨rfl, i, by omega, by omega, rfl, rfl⟩
    case round =>
      obtain ⟨rfl, k, hkg, hk2, rfl, Hk⟩ := hrel
      by_cases hlt : k < s.size
      · have hltI : (k : Int) < (s.size : Int) := by omega
        obtain ⟨b, kb⟩ : ∃ b, Lib.hasPrefix (s.data.toList.drop k) [63, 62] = b := ⟨_, rfl⟩
        have HB := Lib.hid (at_int s hs (k : Int) k rfl (by omega) ⟨#[63, 62]⟩ (by decide) (by decide) b kb)
        by_cases h10 : s[k] = 10
        · have g10 : ((s[k].toNat : Int) == 10) = true := by rw [h10]; rfl
          have HE : Hid (i + hidN (s.data.toList.drop i) = k) := by
            show i + hidN (s.data.toList.drop i) = k
            rw [HR.out]; have := line_stop Hk.out hlt (.inl h10); omega
          clear h10 kb
          go_wp2_with fail
          go_ret
          exact ⟨ret_int (by rw [HE.out]), Below.refl _ _⟩
        · have g10 : ((s[k].toNat : Int) == 10) = false := ne_byte (b := 10) h10
          cases b with
          | true =>
            have HE : Hid (i + hidN (s.data.toList.drop i) = k) := by
              show i + hidN (s.data.toList.drop i) = k
              rw [HR.out]; have := line_stop Hk.out hlt (.inr kb); omega
            clear h10 kb
            go_wp2_with fail
            refine (HB.out _).mono ?_; rintro e w1 ⟨rfl, rfl⟩
            go_wp2_with fail
            go_ret
            exact ⟨ret_int (by rw [HE.out]), Below.refl _ _⟩
          | false =>
            have HN := Lib.hid (line_next Hk.out hlt h10 kb)
            clear h10 kb
            go_wp2_with fail
            refine (HB.out _).mono ?_; rintro e w1 ⟨rfl, rfl⟩
            go_wp2_with fail
            go_roundg (gk - 1)
            case rel => exact ⟨rfl, k + 1, by omega, by omega, by go_num, HN⟩
            case measure => omega
      · have hltI : ¬ ((k : Int) < (s.size : Int)) := by omega
        have HE : Hid (i + hidN (s.data.toList.drop i) = s.size) := by
          show i + hidN (s.data.toList.drop i) = s.size
          rw [HR.out]; have := line_all Hk.out (by omega); omega
        go_wp2_with fail
        go_ret
        exact ⟨ret_int (by rw [HE.out]), Below.refl _ _⟩

/-! ### a long text -/
theorem longH_bounds (l : Bytes) (h : (longH l).2.1 ≠ 0) : (longH l).1 + (longH l).2.1 ≤ (longH l).2.2 ∧ (longH l).2.2 ≤ l.length := by
  cases h0 : Lib.hasPrefix l [60, 60, 60] with
  | false => exact absurd (by unfold longH; rw [if_neg (by rw [h0]; decide)]) h
  | true =>
    obtain ⟨q, hq⟩ : ∃ q, (if Lib.hasPrefix (l.drop 3) [39] = true then 1 else 0) = q := ⟨_, rfl⟩
    obtain ⟨n, hn⟩ : ∃ n, wordN (l.drop (3 + q)) = n := ⟨_, rfl⟩
    have e := longH_eq l q n h0 hq hn
    by_cases h1 : n = 0
    · rw [if_pos h1] at e; rw [e] at h; exact absurd rfl h
    · rw [if_neg h1] at e
      by_cases h2 : (decide (q = 1) && !Lib.hasPrefix (l.drop (3 + q + n)) [39]) = true
      · rw [if_pos h2] at e; rw [e] at h; exact absurd rfl h
      · rw [if_neg h2] at e
        by_cases h3 : Lib.hasPrefix (l.drop (3 + q + n + q)) [10] = true
        · rw [if_pos h3] at e
          rw [e]
          have := pre_le h3
          rw [List.length_drop] at this
          simp only [List.length_cons, List.length_nil] at this ⊢
          omega
        · rw [if_neg h3] at e; rw [e] at h; exact absurd rfl h
theorem hid_long_some {s : ByteArray} {i : Nat} (h : (longH (s.data.toList.drop i)).2.1 ≠ 0) (nm : Bytes) (hnm : nm = ((s.data.toList.drop i).drop (longH (s.data.toList.drop i)).1).take (longH (s.data.toList.drop i)).2.1) (hi : i ≤ s.size) :
    ((i + longN (s.data.toList.drop i) : Nat) : Int) = if endsI s.data.toList nm true (i + (longH (s.data.toList.drop i)).2.2) < 0 then (s.size : Int) else endsI s.data.toList nm true (i + (longH (s.data.toList.drop i)).2.2) + ((longH (s.data.toList.drop i)).2.1 : Nat) := by
  unfold longN endsI
  rw [if_neg h, ← hnm, List.drop_drop]
  cases endsN nm true (s.data.toList.drop (i + (longH (s.data.toList.drop i)).2.2)) with
  | none => simp only; rw [if_pos (by omega), List.length_drop, ← Lib.size_eq]; omega
  | some k => simp only; rw [if_neg (by omega)]; omega

set_option maxRecDepth 100000 in
set_option maxHeartbeats 4000000 in
theorem hidden_else (s : ByteArray) (hs : s.size ≤ 65536) (i : Nat) (hi : i < s.size) (hq : ¬ (s[i] = 39 ∨ s[i] = 34)) (hp : Lib.hasPrefix (s.data.toList.drop i) [47, 42] = false) (hc : ¬ (s[i] = 35 ∨ Lib.hasPrefix (s.data.toList.drop i) [47, 47] = true)) (w : World) :
    Calls Tryd.prog 24 #[.string s, .int .i64 (i : Int)] w (HidPost s i w) := by
  have hR := hid_else s i hi hq hp hc
  have hiI : (i : Int) < (s.size : Int) := by omega
  have g39 : ((s[i].toNat : Int) == 39) = false := ne_byte (b := 39) (fun h => hq (.inl h))
  have g34 : ((s[i].toNat : Int) == 34) = false := ne_byte (b := 34) (fun h => hq (.inr h))
  have g35 : ((s[i].toNat : Int) == 35) = false := ne_byte (b := 35) (fun h => hc (.inl h))
  have HA := Lib.hid (at_int s hs (i : Int) i rfl (by omega) ⟨#[47, 42]⟩ (by decide) (by decide) false hp)
  have HA2 := Lib.hid (at_int s hs (i : Int) i rfl (by omega) ⟨#[47, 47]⟩ (by decide) (by decide) false (by cases h : Lib.hasPrefix (s.data.toList.drop i) [47, 47] with | false => rfl | true => exact absurd (.inr h) hc))
  have HL := Lib.hid (rlong_any s hs i (by omega))
  clear hq hp hc
  by_cases h0 : (longH (s.data.toList.drop i)).2.1 = 0
  · have hl : longR s.data.toList i = (0, 0, 0) := by unfold longR; rw [if_pos h0]
    rw [hl] at HL
    have hz : longN (s.data.toList.drop i) = 0 := by unfold longN; rw [if_pos h0]
    rw [hz] at hR
    have HR := Lib.hid hR
    clear hl hz hR h0
    go_enter Tryd.func24, Tryd.ntmps24
    go_wp2_with fail
    refine (HA.out _).mono ?_; rintro e w1 ⟨rfl, rfl⟩
    go_wp2_with fail
    refine (HA2.out _).mono ?_; rintro e w1 ⟨rfl, rfl⟩
    go_wp2_with fail
    refine (HL.out _).mono ?_; rintro e w1 ⟨rfl, rfl⟩
    go_wp2_with fail
    go_ret
    exact ⟨ret_int (by rw [HR.out]; simp), Below.refl _ _⟩
  · have hl : longR s.data.toList i = (i + (longH (s.data.toList.drop i)).1, (longH (s.data.toList.drop i)).2.1, i + (longH (s.data.toList.drop i)).2.2) := by unfold longR; rw [if_neg h0]
    obtain ⟨hb1, hb2⟩ := longH_bounds _ h0
    rw [List.length_drop, ← Lib.size_eq] at hb2
    have hsome := fun nm hnm => hid_long_some h0 nm hnm (by omega)
    rw [hl] at HL
    rw [← hR] at hsome
    clear hl hR
    rw [List.drop_drop] at hsome
    obtain ⟨a, ha⟩ : ∃ a, i + (longH (s.data.toList.drop i)).1 = a := ⟨_, rfl⟩
    obtain ⟨n, hn⟩ : ∃ n, (longH (s.data.toList.drop i)).2.1 = n := ⟨_, rfl⟩
    obtain ⟨f, hf⟩ : ∃ f, i + (longH (s.data.toList.drop i)).2.2 = f := ⟨_, rfl⟩
    have han : a + n ≤ f := by omega
    have hfs : f ≤ s.size := by omega
    have hn1 : 1 ≤ n := by omega
    simp only [ha, hn, hf] at HL hsome
    clear ha hn hf hb1 hb2 h0
    obtain ⟨nm, hnm⟩ : ∃ nm : ByteArray, s.extract a (a + n) = nm := ⟨_, rfl⟩
    have hnl : nm.data.toList = (s.data.toList.drop a).take n := by rw [← hnm, Lib.extract_data, show a + n - a = n by omega]
    have hns : nm.size = n := by rw [← hnm, ByteArray.size_extract]; omega
    have hS := hsome _ hnl
    have HE := Lib.hid (rends_any s hs nm (by omega) (by omega) f (by omega))
    have hanI : (a : Int) + (n : Int) ≤ (s.size : Int) := by omega
    have hanI2 : (a : Int) ≤ (a : Int) + (n : Int) := by omega
    have g0 : ((n : Int) == 0) = false := by simp; omega
    have hlo : -1 ≤ endsI s.data.toList nm.data.toList true f ∧ endsI s.data.toList nm.data.toList true f ≤ 65536 := by
      unfold endsI
      cases h : endsN nm.data.toList true (s.data.toList.drop f) with
      | none => simp
      | some k =>
        have h1 := endsN_len _ _ _ _ h
        have h2 := Lib.size_eq s
        have h3 := Lib.size_eq nm
        rw [List.length_drop] at h1
        simp only
        clear hS
        omega
    obtain ⟨hlo, hhi⟩ := hlo
    clear hsome hnl hns
    obtain ⟨r, hr⟩ : ∃ r, endsI s.data.toList nm.data.toList true f = r := ⟨_, rfl⟩
    rw [hr] at HE hlo hhi hS
    have HS := Lib.hid hS
    clear hS hr
    by_cases hneg : r < 0
    · go_enter Tryd.func24, Tryd.ntmps24
      go_wp2_with fail
      refine (HA.out _).mono ?_; rintro e w1 ⟨rfl, rfl⟩
      go_wp2_with fail
      refine (HA2.out _).mono ?_; rintro e w1 ⟨rfl, rfl⟩
      go_wp2_with fail
      refine (HL.out _).mono ?_; rintro e w1 ⟨rfl, rfl⟩
      go_wp2_with fail
      refine (HE.out _).mono ?_; rintro e w1 ⟨rfl, rfl⟩
      go_wp2_with fail
      go_ret
      exact ⟨ret_int (by rw [HS.out, if_pos hneg]), Below.refl _ _⟩
    · go_enter Tryd.func24, Tryd.ntmps24
      go_wp2_with fail
      refine (HA.out _).mono ?_; rintro e w1 ⟨rfl, rfl⟩
      go_wp2_with fail
      refine (HA2.out _).mono ?_; rintro e w1 ⟨rfl, rfl⟩
      go_wp2_with fail
      refine (HL.out _).mono ?_; rintro e w1 ⟨rfl, rfl⟩
      go_wp2_with fail
      refine (HE.out _).mono ?_; rintro e w1 ⟨rfl, rfl⟩
      go_wp2_with fail
      go_ret
      exact ⟨ret_int (by rw [HS.out, if_neg (by omega)]), Below.refl _ _⟩

theorem hidden_any (s : ByteArray) (hs : s.size ≤ 65536) (i : Nat) (hi : i < s.size) (w : World) :
    Calls Tryd.prog 24 #[.string s, .int .i64 (i : Int)] w (HidPost s i w) := by
  by_cases hq : s[i] = 39 ∨ s[i] = 34
  · exact hidden_text s hs i hi hq w
  · cases hp : Lib.hasPrefix (s.data.toList.drop i) [47, 42] with
    | true => exact hidden_note s hs i hi hq hp w
    | false =>
      by_cases hc : s[i] = 35 ∨ Lib.hasPrefix (s.data.toList.drop i) [47, 47] = true
      · exact hidden_line s hs i hi hq hp hc w
      · exact hidden_else s hs i hi hq hp hc w
end Go.Proofs.YtohbbgghkinnhaaDoor
