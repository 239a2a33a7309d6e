/- url: decoding by places: plain laws. -/
import Derived.Test.YthdnflklhhfojaaGreatDoorUrD
namespace Go.Proofs.YthdnflklhhfojaaGreatDoor
open Go Go.RowKit
namespace Url
theorem decL_fuel : ∀ (n : Nat) (l : List UInt8), l.length ≤ n → decL n l = decL l.length l := by
  intro n
  induction n using Nat.strongRecOn with
  | ind n ih =>
  intro l hl
  cases l with
  | nil => cases n <;> rfl
  | cons c l =>
    simp only [List.length_cons] at hl ⊢
    obtain ⟨n, rfl⟩ : ∃ k, n = k + 1 := ⟨n - 1, by omega⟩
    simp only [decL]
    have e1 : decL n l = decL l.length l := ih n (by omega) l (by omega)
    have e2 : decL n (l.drop 2) = decL l.length (l.drop 2) := by
      have hd : (l.drop 2).length ≤ l.length := by rw [List.length_drop]; omega
      rw [ih n (by omega) (l.drop 2) (by omega), ← ih l.length (by omega) (l.drop 2) hd]
    rw [e1, e2]
/-- A text decoded. -/
def decF (l : List UInt8) : List UInt8 := decL l.length l
theorem decF_nil : decF [] = [] := rfl
theorem decF_cons (c : UInt8) (l : List UInt8) : decF (c :: l) = if c == 43 then 32 :: decF l else if c == 37 then match hex2 l with
      | some v => UInt8.ofNat v :: decF (l.drop 2)
      | none => c :: decF l
    else c :: decF l := by
  unfold decF
  rw [List.length_cons]
  simp only [decL]
  have e2 : decL l.length (l.drop 2) = decL (l.drop 2).length (l.drop 2) := decL_fuel _ _ (by rw [List.length_drop]; omega)
  rw [e2]
  rfl
theorem decF_enc (l : List UInt8) : decF (encL l) = l := by
  unfold decF
  rw [← decL_fuel (3 * l.length) (encL l) (encL_len l)]
  exact dec_enc l _ (Nat.le_refl _)
theorem decF_len : ∀ (n : Nat) (l : List UInt8), l.length ≤ n → (decF l).length ≤ l.length := by
  intro n
  induction n with
  | zero =>
    intro l h
    obtain rfl := List.eq_nil_of_length_eq_zero (by omega : l.length = 0)
    rw [decF_nil]
    exact Nat.le_refl _
  | succ n ih =>
    intro l h
    cases l with
    | nil => rw [decF_nil]; exact Nat.le_refl _
    | cons c l =>
      simp only [List.length_cons] at h
      have h1 := ih l (by omega)
      have h2 := ih (l.drop 2) (by rw [List.length_drop]; omega)
      rw [List.length_drop] at h2
      rw [decF_cons]
      repeat' split
      all_goals simp only [List.length_cons]
      all_goals omega
/-- The rest of a text from a place on, decoded. -/
def rest (s : ByteArray) (j : Nat) : List UInt8 := decF (s.data.toList.drop j)
theorem drop_at (s : ByteArray) (j : Nat) (h : j < s.size) : s.data.toList.drop j = s[j] :: s.data.toList.drop (j + 1) := by
  have hj : j < s.data.toList.length := by simpa using h
  rw [List.drop_eq_getElem_cons hj]
  rfl
theorem hx_some {c : UInt8} (h : 0 ≤ hx c) : hexV c = some (hx c).toNat := by
  unfold hx at *
  cases e : hexV c with
  | none => rw [e] at h; simp only at h; omega
  | some v => simp
theorem hx_none {c : UInt8} (h : hx c < 0) : hexV c = none := by
  unfold hx at *
  cases e : hexV c with
  | none => rfl
  | some v => rw [e] at h; simp only at h; omega
theorem rest_plus (s : ByteArray) (j : Nat) (h : j < s.size) (hc : (s[j].toNat : Int) = 43) : rest s j = 32 :: rest s (j + 1) := by
  unfold rest
  have e : s[j] = 43 := by rw [← UInt8.toNat_inj]; exact Int.ofNat_inj.1 hc
  rw [drop_at s j h, decF_cons, e]
  rfl
theorem rest_other (s : ByteArray) (j : Nat) (h : j < s.size) (h1 : ¬ (s[j].toNat : Int) = 43) (h2 : ¬ (s[j].toNat : Int) = 37) : rest s j = s[j] :: rest s (j + 1) := by
  unfold rest
  have e1 : (s[j] == 43) = false := by
    simp only [beq_eq_false_iff_ne, ne_eq]
    intro e
    rw [e] at h1
    exact h1 rfl
  have e2 : (s[j] == 37) = false := by
    simp only [beq_eq_false_iff_ne, ne_eq]
    intro e
    rw [e] at h2
    exact h2 rfl
  rw [drop_at s j h, decF_cons, e1, e2]
  rfl
theorem rest_hex (s : ByteArray) (j : Nat) (h : j < s.size) (hc : (s[j].toNat : Int) = 37) (h2 : j + 2 < s.size) (ha : 0 ≤ hx s[j + 1]) (hb : 0 ≤ hx s[j + 2]) : rest s j = UInt8.ofNat (16 * (hx s[j + 1]).toNat + (hx s[j + 2]).toNat) :: rest s (j + 3) := by
  unfold rest
  have e : s[j] = 37 := by rw [← UInt8.toNat_inj]; exact Int.ofNat_inj.1 hc
  rw [drop_at s j h, decF_cons, e, drop_at s (j + 1) (by omega), drop_at s (j + 2) h2]
  have eh : hex2 (s[j + 1] :: s[j + 2] :: s.data.toList.drop (j + 2 + 1)) = some (16 * (hx s[j + 1]).toNat + (hx s[j + 2]).toNat) := by
    simp only [hex2, hx_some ha, hx_some hb]
  rw [eh]
  rfl
theorem rest_no (s : ByteArray) (j : Nat) (h : j < s.size) (hc : (s[j].toNat : Int) = 37) (hn : hxAt s (j + 1) < 0 ∨ hxAt s (j + 2) < 0) : rest s j = s[j] :: rest s (j + 1) := by
  unfold rest
  have e : s[j] = 37 := by rw [← UInt8.toNat_inj]; exact Int.ofNat_inj.1 hc
  rw [drop_at s j h, decF_cons, e]
  have eh : hex2 (s.data.toList.drop (j + 1)) = none := by
    by_cases h1 : j + 1 < s.size
    · rw [drop_at s (j + 1) h1]
      by_cases h2 : j + 2 < s.size
      · rw [drop_at s (j + 2) h2]
        unfold hxAt at hn
        rw [dif_pos h1, dif_pos h2] at hn
        simp only [hex2]
        rcases hn with hn | hn
        · rw [hx_none hn]
        · rw [hx_none hn]
          cases hexV s[j + 1] <;> rfl
      · rw [List.drop_eq_nil_of_le (by simp; omega)]
        rfl
    · rw [List.drop_eq_nil_of_le (by simp; omega)]
      rfl
  rw [eh]
  rfl
theorem rest_end (s : ByteArray) : rest s s.size = [] := by
  unfold rest
  rw [List.drop_eq_nil_of_le (by simp)]
  rfl
theorem hexI_le : ∀ c : Fin 256, hexI (c.val : Int) < 16 ∧ -1 ≤ hexI (c.val : Int) := by decide +kernel
theorem hx_lt (c : UInt8) : hx c < 16 ∧ -1 ≤ hx c := by rw [hx_eq]; exact hexI_le ⟨c.toNat, c.toNat_lt⟩
theorem or_fin : ∀ a b : Fin 16, bits BinOp.or .i64 ((a.val : Int) * 16) (b.val : Int) = 16 * (a.val : Int) + (b.val : Int) := by decide +kernel
theorem or_nib (a b : Nat) (ha : a < 16) (hb : b < 16) : bits BinOp.or .i64 ((a : Int) * 16) (b : Int) = 16 * (a : Int) + (b : Int) := or_fin ⟨a, ha⟩ ⟨b, hb⟩
theorem hexy_any (y : Int) (h0 : 0 ≤ y) (h1 : y < 256) (w : World) : Calls Tryz.prog 32 #[.int .u8 y] w fun e w' => e = .returned (.int .i64 (hexI y)) ∧ w = w' := by
  have e : ((UInt8.ofNat y.toNat).toNat : Int) = y := by rw [UInt8.toNat_ofNat']; omega
  have := hex_any (UInt8.ofNat y.toNat) w
  rw [hx_eq, e] at this
  exact this
theorem rhexy_any (s : ByteArray) (hs : s.size ≤ 9223372036854775807) (i : Int) (h0 : 0 ≤ i) (w : World) : Calls Tryz.prog 33 #[.string s, .int .i64 i] w fun e w' => e = .returned (.int .i64 (hxAt s i.toNat)) ∧ w = w' := by
  have := rhex_any s hs i.toNat w
  rw [Int.toNat_of_nonneg h0] at this
  exact this
end Url
end Go.Proofs.YthdnflklhhfojaaGreatDoor
