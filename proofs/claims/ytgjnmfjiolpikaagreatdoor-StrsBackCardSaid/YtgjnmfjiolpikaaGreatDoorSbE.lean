/- strs: a byte in hexadecimal digits, and back: tables reckoned by the evaluator. -/
import Derived.Test.YtgjnmfjiolpikaaGreatDoorFnA
namespace Go.Proofs.YtgjnmfjiolpikaaGreatDoor
open Go Go.Ev Go.RowKit
set_option maxRecDepth 1000000
namespace Sb
/-- A hexadecimal digit. -/
def digN (n : Nat) : Nat := if n < 10 then 48 + n else 87 + n
def hexN (c : Nat) : List Nat := if c < 16 then [digN c] else [digN (c / 16), digN (c % 16)]
def twoN (c : Nat) : List Nat := [digN (c / 16), digN (c % 16)]
noncomputable def rngF (f : Nat → Bool) (lo : Nat) : Nat → Bool
  | 0 => true
  | n + 1 => cond (f (lo + n)) (rngF f lo n) false
theorem rngF_at {f : Nat → Bool} {lo : Nat} : ∀ {n : Nat}, rngF f lo n = true → ∀ c, lo ≤ c → c < lo + n → f c = true
  | 0, _, c, h1, h2 => by omega
  | n + 1, h, c, h1, h2 => by
    obtain ⟨h3, h4⟩ := condT (show cond (f (lo + n)) (rngF f lo n) false = true from h)
    by_cases e : c = lo + n
    · subst e; exact h3
    · exact rngF_at h4 c h1 (by omega)
noncomputable def sameRes (v : V) : R → Bool := @Option.rec (V × St) (fun _ => Bool) false (fun p => sameV 20 p.1 v)
noncomputable def hexOk (c : Nat) : Bool := sameRes (.str (hexN c)) (call envB 3000 70 [.int .i64 (.ofNat c)] ⟨0, .e⟩)
noncomputable def backOk (c : Nat) : Bool := sameRes (.tup [.int .u64 (.ofNat c), .nili]) (call envB 3000 97 [.str (twoN c), .int .i64 (.ofNat 16), .int .i64 (.ofNat 8)] ⟨0, .e⟩)
theorem hex_0 : rngF hexOk 0 64 = true := by kernel_rfl
theorem hex_1 : rngF hexOk 64 64 = true := by kernel_rfl
theorem hex_2 : rngF hexOk 128 64 = true := by kernel_rfl
theorem hex_3 : rngF hexOk 192 64 = true := by kernel_rfl
theorem back_0 : rngF backOk 0 64 = true := by kernel_rfl
theorem back_1 : rngF backOk 64 64 = true := by kernel_rfl
theorem back_2 : rngF backOk 128 64 = true := by kernel_rfl
theorem back_3 : rngF backOk 192 64 = true := by kernel_rfl
theorem hex_ok (c : Nat) (h : c < 256) : hexOk c = true := by
  by_cases h0 : c < 64
  · exact rngF_at hex_0 c (by omega) (by omega)
  by_cases h1 : c < 128
  · exact rngF_at hex_1 c (by omega) (by omega)
  by_cases h2 : c < 192
  · exact rngF_at hex_2 c (by omega) (by omega)
  · exact rngF_at hex_3 c (by omega) (by omega)
theorem back_ok (c : Nat) (h : c < 256) : backOk c = true := by
  by_cases h0 : c < 64
  · exact rngF_at back_0 c (by omega) (by omega)
  by_cases h1 : c < 128
  · exact rngF_at back_1 c (by omega) (by omega)
  by_cases h2 : c < 192
  · exact rngF_at back_2 c (by omega) (by omega)
  · exact rngF_at back_3 c (by omega) (by omega)
theorem same_inv {v : V} {r : R} (h : sameRes v r = true) : ∃ st, r = some (v, st) := by
  cases r with
  | none => cases h
  | some p =>
    obtain ⟨u, st⟩ := p
    obtain ⟨rfl, _⟩ := sameV_sound 20 u v h
    exact ⟨st, rfl⟩
theorem dig_lt (n : Nat) (h : n < 16) : digN n < 256 := by
  unfold digN
  split <;> omega
theorem two_lt (c : Nat) (h : c < 256) : ∀ b ∈ twoN c, b < 256 := by
  intro b hb
  simp only [twoN, List.mem_cons, List.not_mem_nil, or_false] at hb
  rcases hb with rfl | rfl
  · exact dig_lt _ (by omega)
  · exact dig_lt _ (by omega)
theorem hex_any (c : Nat) (hc : c < 256) (m : Int) (w : World) (hL : LibA m w) : Calls Tryz.prog 70 #[.int .i64 (c : Int)] w fun e w' => e = .returned (.string (mkS (hexN c))) ∧ Below w.heap.size w w' := by
  letI : Base := ⟨w⟩
  obtain ⟨st, hr⟩ := same_inv (hex_ok c hc)
  refine (call_sound (envB_ok hL) hr #[.int .i64 (c : Int)] w (Below.refl _ _) (.cons (.int _ _) .nil)).mono ?_
  rintro e w' ⟨φ, x, rfl, hv, hb⟩
  cases hv
  exact ⟨rfl, hb⟩
theorem back_any (c : Nat) (hc : c < 256) (m : Int) (w : World) (hL : LibA m w) : Calls Tryz.prog 97 #[.string (mkS (twoN c)), .int .i64 16, .int .i64 8] w fun e w' => e = .returned (.tuple #[.int .u64 (c : Int), .nilIface]) ∧ Below w.heap.size w w' := by
  letI : Base := ⟨w⟩
  obtain ⟨st, hr⟩ := same_inv (back_ok c hc)
  refine (call_sound (envB_ok hL) hr #[.string (mkS (twoN c)), .int .i64 16, .int .i64 8] w (Below.refl _ _) (.cons (.str _ (two_lt c hc)) (.cons (.int _ _) (.cons (.int _ _) .nil)))).mono ?_
  rintro e w' ⟨φ, x, rfl, hv, hb⟩
  obtain ⟨xs, rfl, h⟩ := hv.inv_tup
  obtain ⟨x0, l0, e0, h0, h⟩ := h.inv
  obtain ⟨x1, l1, rfl, h1, h⟩ := h.inv
  rw [h.inv_nil] at e0
  cases h0
  cases h1
  obtain rfl : xs = #[.int .u64 (c : Int), .nilIface] := by cases xs; simpa using e0
  exact ⟨rfl, hb⟩
end Sb
end Go.Proofs.YtgjnmfjiolpikaaGreatDoor
