/- url.hex; ostlerref09's plain, digit, hex: the walks. -/
import Derived.Test.YthdnflklhhfojaaGreatDoorUrA
import Derived.Test.YthdnflklhhfojaaGreatDoorShM
import Derived.Test.YthdnflklhhfojaaGreatDoorWords
import Derived.WalkKit
import Derived.BigQuiet
namespace Go.Proofs.YthdnflklhhfojaaGreatDoor
open Go Go.RowKit
namespace Url
theorem u8_le (a b : UInt8) : (decide (a ≤ b)) = decide (a.toNat ≤ b.toNat) := by simp [UInt8.le_iff_toNat_le]
def plainI (x : Int) : Bool := (decide (97 ≤ x) && decide (x ≤ 122)) || (decide (65 ≤ x) && decide (x ≤ 90)) || (decide (48 ≤ x) && decide (x ≤ 57)) || x == 45 || x == 95 || x == 46
theorem plain_fin : ∀ c : Fin 256, plain (UInt8.ofNat c.val) = plainI (c.val : Int) := by decide +kernel
theorem plain_eq (c : UInt8) : plain c = plainI (c.toNat : Int) := by
  have := plain_fin ⟨c.toNat, c.toNat_lt⟩
  simp only [UInt8.ofNat_toNat] at this
  exact this
/-- A hexadecimal digit's number; -1. -/
def hx (c : UInt8) : Int := match hexV c with
  | some v => (v : Int)
  | none => -1
def hexI (x : Int) : Int := if 48 ≤ x ∧ x ≤ 57 then x - 48 else if 97 ≤ x ∧ x ≤ 102 then x - 87 else if 65 ≤ x ∧ x ≤ 70 then x - 55 else -1
theorem hx_fin : ∀ c : Fin 256, hx (UInt8.ofNat c.val) = hexI (c.val : Int) := by decide +kernel
theorem hx_eq (c : UInt8) : hx c = hexI (c.toNat : Int) := by
  have := hx_fin ⟨c.toNat, c.toNat_lt⟩
  simp only [UInt8.ofNat_toNat] at this
  exact this
def hexes : ByteArray := ⟨#[48, 49, 50, 51, 52, 53, 54, 55, 56, 57, 65, 66, 67, 68, 69, 70]⟩
theorem index_fin : ∀ c : Fin 256, Lib.indexByte hexes.data.toList (if 97 ≤ c.val ∧ c.val ≤ 102 then UInt8.ofNat (c.val - 32) else UInt8.ofNat c.val) = hexI (c.val : Int) := by decide +kernel
set_option maxRecDepth 100000 in
theorem rplain_any (c : UInt8) (w : World) : Calls Tryz.prog 30 #[.int .u8 (c.toNat : Int)] w fun e w' => e = .returned (.bool (plain c)) ∧ w = w' := by
  rw [plain_eq]
  have hc := c.toNat_lt
  have hx0 : (0 : Int) ≤ (c.toNat : Int) := by omega
  have hx1 : (c.toNat : Int) < 256 := by omega
  generalize (c.toNat : Int) = x at *
  unfold plainI
  by_cases hs65 : x < 65
  · by_cases hs48 : x < 48
    · by_cases hq45 : x = 45
      · have g97 : decide ((97 : Int) ≤ x) = false := by simp; omega
        have l122 : decide (x ≤ 122) = true := by simp; omega
        have g65 : decide ((65 : Int) ≤ x) = false := by simp; omega
        have l90 : decide (x ≤ 90) = true := by simp; omega
        have g48 : decide ((48 : Int) ≤ x) = false := by simp; omega
        have l57 : decide (x ≤ 57) = true := by simp; omega
        have e45 : (x == 45) = true := by simp; omega
        have e95 : (x == 95) = false := by simp; omega
        have e46 : (x == 46) = false := by simp; omega
        go_enter Tryz.func30, Tryz.ntmps30
        go_wp2_with fail
        go_ret
        exact ⟨by simp only [*]; rfl, rfl⟩
      · by_cases hq46 : x = 46
        · have g97 : decide ((97 : Int) ≤ x) = false := by simp; omega
          have l122 : decide (x ≤ 122) = true := by simp; omega
          have g65 : decide ((65 : Int) ≤ x) = false := by simp; omega
          have l90 : decide (x ≤ 90) = true := by simp; omega
          have g48 : decide ((48 : Int) ≤ x) = false := by simp; omega
          have l57 : decide (x ≤ 57) = true := by simp; omega
          have e45 : (x == 45) = false := by simp; omega
          have e95 : (x == 95) = false := by simp; omega
          have e46 : (x == 46) = true := by simp; omega
          go_enter Tryz.func30, Tryz.ntmps30
          go_wp2_with fail
          go_ret
          exact ⟨by simp only [*]; rfl, rfl⟩
        · have g97 : decide ((97 : Int) ≤ x) = false := by simp; omega
          have l122 : decide (x ≤ 122) = true := by simp; omega
          have g65 : decide ((65 : Int) ≤ x) = false := by simp; omega
          have l90 : decide (x ≤ 90) = true := by simp; omega
          have g48 : decide ((48 : Int) ≤ x) = false := by simp; omega
          have l57 : decide (x ≤ 57) = true := by simp; omega
          have e45 : (x == 45) = false := by simp; omega
          have e95 : (x == 95) = false := by simp; omega
          have e46 : (x == 46) = false := by simp; omega
          go_enter Tryz.func30, Tryz.ntmps30
          go_wp2_with fail
          go_ret
          exact ⟨by simp only [*]; rfl, rfl⟩
    · by_cases hs58 : x < 58
      · have g97 : decide ((97 : Int) ≤ x) = false := by simp; omega
        have l122 : decide (x ≤ 122) = true := by simp; omega
        have g65 : decide ((65 : Int) ≤ x) = false := by simp; omega
        have l90 : decide (x ≤ 90) = true := by simp; omega
        have g48 : decide ((48 : Int) ≤ x) = true := by simp; omega
        have l57 : decide (x ≤ 57) = true := by simp; omega
        have e45 : (x == 45) = false := by simp; omega
        have e95 : (x == 95) = false := by simp; omega
        have e46 : (x == 46) = false := by simp; omega
        go_enter Tryz.func30, Tryz.ntmps30
        go_wp2_with fail
        go_ret
        exact ⟨by simp only [*]; rfl, rfl⟩
      · have g97 : decide ((97 : Int) ≤ x) = false := by simp; omega
        have l122 : decide (x ≤ 122) = true := by simp; omega
        have g65 : decide ((65 : Int) ≤ x) = false := by simp; omega
        have l90 : decide (x ≤ 90) = true := by simp; omega
        have g48 : decide ((48 : Int) ≤ x) = true := by simp; omega
        have l57 : decide (x ≤ 57) = false := by simp; omega
        have e45 : (x == 45) = false := by simp; omega
        have e95 : (x == 95) = false := by simp; omega
        have e46 : (x == 46) = false := by simp; omega
        go_enter Tryz.func30, Tryz.ntmps30
        go_wp2_with fail
        go_ret
        exact ⟨by simp only [*]; rfl, rfl⟩
  · by_cases hs97 : x < 97
    · by_cases hs91 : x < 91
      · have g97 : decide ((97 : Int) ≤ x) = false := by simp; omega
        have l122 : decide (x ≤ 122) = true := by simp; omega
        have g65 : decide ((65 : Int) ≤ x) = true := by simp; omega
        have l90 : decide (x ≤ 90) = true := by simp; omega
        have g48 : decide ((48 : Int) ≤ x) = true := by simp; omega
        have l57 : decide (x ≤ 57) = false := by simp; omega
        have e45 : (x == 45) = false := by simp; omega
        have e95 : (x == 95) = false := by simp; omega
        have e46 : (x == 46) = false := by simp; omega
        go_enter Tryz.func30, Tryz.ntmps30
        go_wp2_with fail
        go_ret
        exact ⟨by simp only [*]; rfl, rfl⟩
      · by_cases hq95 : x = 95
        · have g97 : decide ((97 : Int) ≤ x) = false := by simp; omega
          have l122 : decide (x ≤ 122) = true := by simp; omega
          have g65 : decide ((65 : Int) ≤ x) = true := by simp; omega
          have l90 : decide (x ≤ 90) = false := by simp; omega
          have g48 : decide ((48 : Int) ≤ x) = true := by simp; omega
          have l57 : decide (x ≤ 57) = false := by simp; omega
          have e45 : (x == 45) = false := by simp; omega
          have e95 : (x == 95) = true := by simp; omega
          have e46 : (x == 46) = false := by simp; omega
          go_enter Tryz.func30, Tryz.ntmps30
          go_wp2_with fail
          go_ret
          exact ⟨by simp only [*]; rfl, rfl⟩
        · have g97 : decide ((97 : Int) ≤ x) = false := by simp; omega
          have l122 : decide (x ≤ 122) = true := by simp; omega
          have g65 : decide ((65 : Int) ≤ x) = true := by simp; omega
          have l90 : decide (x ≤ 90) = false := by simp; omega
          have g48 : decide ((48 : Int) ≤ x) = true := by simp; omega
          have l57 : decide (x ≤ 57) = false := by simp; omega
          have e45 : (x == 45) = false := by simp; omega
          have e95 : (x == 95) = false := by simp; omega
          have e46 : (x == 46) = false := by simp; omega
          go_enter Tryz.func30, Tryz.ntmps30
          go_wp2_with fail
          go_ret
          exact ⟨by simp only [*]; rfl, rfl⟩
    · by_cases hs123 : x < 123
      · have g97 : decide ((97 : Int) ≤ x) = true := by simp; omega
        have l122 : decide (x ≤ 122) = true := by simp; omega
        have g65 : decide ((65 : Int) ≤ x) = true := by simp; omega
        have l90 : decide (x ≤ 90) = false := by simp; omega
        have g48 : decide ((48 : Int) ≤ x) = true := by simp; omega
        have l57 : decide (x ≤ 57) = false := by simp; omega
        have e45 : (x == 45) = false := by simp; omega
        have e95 : (x == 95) = false := by simp; omega
        have e46 : (x == 46) = false := by simp; omega
        go_enter Tryz.func30, Tryz.ntmps30
        go_wp2_with fail
        go_ret
        exact ⟨by simp only [*]; rfl, rfl⟩
      · have g97 : decide ((97 : Int) ≤ x) = true := by simp; omega
        have l122 : decide (x ≤ 122) = false := by simp; omega
        have g65 : decide ((65 : Int) ≤ x) = true := by simp; omega
        have l90 : decide (x ≤ 90) = false := by simp; omega
        have g48 : decide ((48 : Int) ≤ x) = true := by simp; omega
        have l57 : decide (x ≤ 57) = false := by simp; omega
        have e45 : (x == 45) = false := by simp; omega
        have e95 : (x == 95) = false := by simp; omega
        have e46 : (x == 46) = false := by simp; omega
        go_enter Tryz.func30, Tryz.ntmps30
        go_wp2_with fail
        go_ret
        exact ⟨by simp only [*]; rfl, rfl⟩
theorem digit_fin : ∀ n : Fin 16, ((digit n.val).toNat : Int) = if n.val < 10 then 48 + (n.val : Int) else 65 + (n.val : Int) - 10 := by decide
theorem digit_val (n : Nat) (h : n < 16) : ((digit n).toNat : Int) = if n < 10 then 48 + (n : Int) else 65 + (n : Int) - 10 := digit_fin ⟨n, h⟩
set_option maxRecDepth 100000 in
theorem rdigit_any (n : Nat) (h : n < 16) (w : World) : Calls Tryz.prog 31 #[.int .i64 (n : Int)] w fun e w' => e = .returned (.int .u8 ((digit n).toNat : Int)) ∧ w = w' := by
  rw [digit_val n h]
  by_cases h10 : n < 10
  · rw [if_pos h10]
    have hz : (n : Int) < 10 := by omega
    go_enter Tryz.func31, Tryz.ntmps31
    go_wp2_with fail
    go_ret
    exact ⟨by first | rfl | (simp; omega), rfl⟩
  · rw [if_neg h10]
    have hz : ¬ (n : Int) < 10 := by omega
    have hz2 : (n : Int) < 16 := by omega
    go_enter Tryz.func31, Tryz.ntmps31
    go_wp2_with fail
    go_ret
    exact ⟨by first | rfl | (simp; omega), rfl⟩
set_option maxRecDepth 100000 in
theorem hex_any (c : UInt8) (w : World) : Calls Tryz.prog 32 #[.int .u8 (c.toNat : Int)] w fun e w' => e = .returned (.int .i64 (hx c)) ∧ w = w' := by
  rw [hx_eq]
  have hc := c.toNat_lt
  have hi := index_fin ⟨c.toNat, hc⟩
  have HX := Lib.hid (fun (x : Int) (w : World) => Tryz.strings_IndexByte hexes x w)
  have hx0 : (0 : Int) ≤ (c.toNat : Int) := by omega
  have hx1 : (c.toNat : Int) < 256 := by omega
  simp only at hi
  by_cases h1 : 97 ≤ c.toNat ∧ c.toNat ≤ 102
  · rw [if_pos h1] at hi
    have e : UInt8.ofNat (c.toNat - 32) = ((c.toNat : Int) - 32).toNat.toUInt8 := by congr 1; omega
    rw [e] at hi
    obtain ⟨h97, h102⟩ : (97 : Int) ≤ (c.toNat : Int) ∧ (c.toNat : Int) ≤ 102 := by omega
    have HI := Lib.hid hi
    clear hi e h1
    generalize (c.toNat : Int) = x at *
    go_enter Tryz.func32, Tryz.ntmps32
    go_wp2_with (go_at_call 49; refine (HX.out _ _).mono ?_; rintro e w1 ⟨rfl, rfl⟩)
    go_ret
    exact ⟨by rw [← HI.out]; rfl, rfl⟩
  · rw [if_neg h1] at hi
    have e : UInt8.ofNat c.toNat = (c.toNat : Int).toNat.toUInt8 := by congr 1
    rw [e] at hi
    have HI := Lib.hid hi
    by_cases h2 : 97 ≤ c.toNat
    · have h97 : (97 : Int) ≤ (c.toNat : Int) := by omega
      have h102 : ¬ (c.toNat : Int) ≤ 102 := by omega
      clear hi e h1 h2
      generalize (c.toNat : Int) = x at *
      go_enter Tryz.func32, Tryz.ntmps32
      go_wp2_with (go_at_call 49; refine (HX.out _ _).mono ?_; rintro e w1 ⟨rfl, rfl⟩)
      go_ret
      exact ⟨by rw [← HI.out]; rfl, rfl⟩
    · have h97 : ¬ (97 : Int) ≤ (c.toNat : Int) := by omega
      clear hi e h1 h2
      generalize (c.toNat : Int) = x at *
      go_enter Tryz.func32, Tryz.ntmps32
      go_wp2_with (go_at_call 49; refine (HX.out _ _).mono ?_; rintro e w1 ⟨rfl, rfl⟩)
      go_ret
      exact ⟨by rw [← HI.out]; rfl, rfl⟩
/-- .. of the byte of a text at a place; -1. -/
def hxAt (s : ByteArray) (i : Nat) : Int := if h : i < s.size then hx s[i] else -1
set_option maxRecDepth 100000 in
theorem rhex_any (s : ByteArray) (hs : s.size ≤ 9223372036854775807) (i : Nat) (w : World) : Calls Tryz.prog 33 #[.string s, .int .i64 (i : Int)] w fun e w' => e = .returned (.int .i64 (hxAt s i)) ∧ w = w' := by
  unfold hxAt
  by_cases hi : i < s.size
  · rw [dif_pos hi, hx_eq]
    have hi' : (i : Int) < (s.size : Int) := by omega
    have hc := s[i].toNat_lt
    have hx0 : (0 : Int) ≤ (s[i].toNat : Int) := by omega
    have hx1 : (s[i].toNat : Int) < 256 := by omega
    obtain ⟨x, hxx⟩ : ∃ x : Int, (s[i].toNat : Int) = x := ⟨_, rfl⟩
    rw [hxx] at hx0 hx1 ⊢
    unfold hexI
    by_cases hs65 : x < 65
    · by_cases hs48 : x < 48
      · have g48 : decide ((48 : Int) ≤ x) = false := by simp; omega
        have l57 : decide (x ≤ 57) = true := by simp; omega
        have g97 : decide ((97 : Int) ≤ x) = false := by simp; omega
        have l102 : decide (x ≤ 102) = true := by simp; omega
        have g65 : decide ((65 : Int) ≤ x) = false := by simp; omega
        have l70 : decide (x ≤ 70) = true := by simp; omega
        rw [if_neg (by omega), if_neg (by omega), if_neg (by omega)]
        go_enter Tryz.func33, Tryz.ntmps33
        go_wp2_with fail
        go_ret
        exact ⟨by first | rfl | (simp; omega), rfl⟩
      · by_cases hs58 : x < 58
        · have g48 : decide ((48 : Int) ≤ x) = true := by simp; omega
          have l57 : decide (x ≤ 57) = true := by simp; omega
          have g97 : decide ((97 : Int) ≤ x) = false := by simp; omega
          have l102 : decide (x ≤ 102) = true := by simp; omega
          have g65 : decide ((65 : Int) ≤ x) = false := by simp; omega
          have l70 : decide (x ≤ 70) = true := by simp; omega
          rw [if_pos (by omega)]
          go_enter Tryz.func33, Tryz.ntmps33
          go_wp2_with fail
          go_ret
          exact ⟨by first | rfl | (simp; omega), rfl⟩
        · have g48 : decide ((48 : Int) ≤ x) = true := by simp; omega
          have l57 : decide (x ≤ 57) = false := by simp; omega
          have g97 : decide ((97 : Int) ≤ x) = false := by simp; omega
          have l102 : decide (x ≤ 102) = true := by simp; omega
          have g65 : decide ((65 : Int) ≤ x) = false := by simp; omega
          have l70 : decide (x ≤ 70) = true := by simp; omega
          rw [if_neg (by omega), if_neg (by omega), if_neg (by omega)]
          go_enter Tryz.func33, Tryz.ntmps33
          go_wp2_with fail
          go_ret
          exact ⟨by first | rfl | (simp; omega), rfl⟩
    · by_cases hs97 : x < 97
      · by_cases hs71 : x < 71
        · have g48 : decide ((48 : Int) ≤ x) = true := by simp; omega
          have l57 : decide (x ≤ 57) = false := by simp; omega
          have g97 : decide ((97 : Int) ≤ x) = false := by simp; omega
          have l102 : decide (x ≤ 102) = true := by simp; omega
          have g65 : decide ((65 : Int) ≤ x) = true := by simp; omega
          have l70 : decide (x ≤ 70) = true := by simp; omega
          rw [if_neg (by omega), if_neg (by omega), if_pos (by omega)]
          go_enter Tryz.func33, Tryz.ntmps33
          go_wp2_with fail
          go_ret
          exact ⟨by first | rfl | (simp; omega), rfl⟩
        · have g48 : decide ((48 : Int) ≤ x) = true := by simp; omega
          have l57 : decide (x ≤ 57) = false := by simp; omega
          have g97 : decide ((97 : Int) ≤ x) = false := by simp; omega
          have l102 : decide (x ≤ 102) = true := by simp; omega
          have g65 : decide ((65 : Int) ≤ x) = true := by simp; omega
          have l70 : decide (x ≤ 70) = false := by simp; omega
          rw [if_neg (by omega), if_neg (by omega), if_neg (by omega)]
          go_enter Tryz.func33, Tryz.ntmps33
          go_wp2_with fail
          go_ret
          exact ⟨by first | rfl | (simp; omega), rfl⟩
      · by_cases hs103 : x < 103
        · have g48 : decide ((48 : Int) ≤ x) = true := by simp; omega
          have l57 : decide (x ≤ 57) = false := by simp; omega
          have g97 : decide ((97 : Int) ≤ x) = true := by simp; omega
          have l102 : decide (x ≤ 102) = true := by simp; omega
          have g65 : decide ((65 : Int) ≤ x) = true := by simp; omega
          have l70 : decide (x ≤ 70) = false := by simp; omega
          rw [if_neg (by omega), if_pos (by omega)]
          go_enter Tryz.func33, Tryz.ntmps33
          go_wp2_with fail
          go_ret
          exact ⟨by first | rfl | (simp; omega), rfl⟩
        · have g48 : decide ((48 : Int) ≤ x) = true := by simp; omega
          have l57 : decide (x ≤ 57) = false := by simp; omega
          have g97 : decide ((97 : Int) ≤ x) = true := by simp; omega
          have l102 : decide (x ≤ 102) = false := by simp; omega
          have g65 : decide ((65 : Int) ≤ x) = true := by simp; omega
          have l70 : decide (x ≤ 70) = false := by simp; omega
          rw [if_neg (by omega), if_neg (by omega), if_neg (by omega)]
          go_enter Tryz.func33, Tryz.ntmps33
          go_wp2_with fail
          go_ret
          exact ⟨by first | rfl | (simp; omega), rfl⟩
  · rw [dif_neg hi]
    have hi' : ¬ (i : Int) < (s.size : Int) := by omega
    have hi2 : decide ((s.size : Int) ≤ (i : Int)) = true := by simp; omega
    go_enter Tryz.func33, Tryz.ntmps33
    go_wp2_with fail
    go_ret
    exact ⟨rfl, rfl⟩
end Url
end Go.Proofs.YthdnflklhhfojaaGreatDoor
