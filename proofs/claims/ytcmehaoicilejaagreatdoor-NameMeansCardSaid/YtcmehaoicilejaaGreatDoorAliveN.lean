/- The closed call 'alive' of the laws of this seat, run by the evaluator: it answers true, and nothing that was there turns. -/
import Derived.Test.YtcmehaoicilejaaGreatDoorKeys
import Derived.Test.YtcmehaoicilejaaGreatDoorShelf
namespace Go.Proofs.YtcmehaoicilejaaGreatDoor
open Go Go.Ev Go.RowKit
set_option maxRecDepth 1000000
noncomputable def prmA (f : Nat) (args : List V) : Option V :=
  cond (Nat.beq f 131) (match args with | [.str s, .int .u8 (.ofNat n)] => cond (Nat.ble n 255) (intK (idxB s 0 n) fun n => some (.int .i64 n)) none | _ => none)
  (cond (Nat.beq f 87) (match args with | [.str s] => cond (Nat.ble s.length 1000000) (obind (lowL s) fun k => some (.str k)) none | _ => none) none)
theorem beq_cond {α : Type} {a b : Nat} {x y : Option α} {v : α} (h : cond (Nat.beq a b) x y = some v) : a = b ∧ x = some v ∨ y = some v := by
  cases hb : Nat.beq a b with
  | true => rw [hb] at h; exact .inl ⟨Nat.eq_of_beq_eq_true hb, h⟩
  | false => rw [hb] at h; exact .inr h
theorem prmA_ok : ∀ f args v, prmA f args = some v → ∀ (φ : Phi) (xs : Array Value) (w : World), VRs φ args xs.toList → PrimGives Tryz.prog φ w v ((callFunc f xs).run Tryz.prog w) := by
  intro f args v h φ xs w ha
  rcases beq_cond h with ⟨rfl, g⟩ | g
  · clear h
    split at g
    · rename_i s n
      obtain ⟨h1, h⟩ := cond_some g
      rw [intK_eq] at h
      cases h
      exact prim_indexByte Tryz.func131 (by kernel_rfl) (by kernel_rfl) rfl rfl (by have := Nat.le_of_ble_eq_true h1; omega) φ xs w ha
    · cases g
  · clear h
    rcases beq_cond g with ⟨rfl, h⟩ | h
    · clear g
      split at h
      · rename_i s
        obtain ⟨h1, h3⟩ := cond_some h
        obtain ⟨k, h2, h4⟩ := obind_some h3
        cases h4
        exact prim_lower env00_ok (f := 87) (fn := Tryz.f87) (by kernel_rfl) (by kernel_rfl) (fun s w h1 h2 => Tryz.strings_ToLower_ascii s w h1 h2) h2 h1 φ xs w ha
      · cases h
    · cases h
noncomputable def prmB (f : Nat) (args : List V) : Option V := cond (Nat.beq f 55) (tabP keyTab args) (prmA f args)
theorem prmB_ok : ∀ f args v, prmB f args = some v → ∀ (φ : Phi) (xs : Array Value) (w : World), VRs φ args xs.toList → PrimGives Tryz.prog φ w v ((callFunc f xs).run Tryz.prog w) := by
  intro f args v h φ xs w ha
  rcases beq_cond h with ⟨rfl, h⟩ | h
  · exact tabP_sound env00_ok keyTab key_tab h φ xs w ha
  · exact prmA_ok f args v h φ xs w ha
noncomputable def envB : Env := mkEnv ftr ttr ptr prmB noMemo
theorem envB_ok : EnvOK envB Tryz.prog := mkEnv_ok ftr_all ftr_names ttr_all ptr_all (mixed_of Tryz.checked) prmB_ok noMemo_ok
theorem alive_run : okRes (.bool true) (call envB 60000 8 [] ⟨0, .e⟩) = true := by kernel_rfl
theorem alive_any (w : World) : Calls Tryz.prog 8 #[] w fun e w' => e = .returned (.bool true) ∧ Below w.heap.size w w' := by
  have h := alive_run
  cases hc : call envB 60000 8 [] ⟨0, .e⟩ with
  | none => rw [hc] at h; cases h
  | some p =>
    obtain ⟨v, st⟩ := p
    rw [hc] at h
    obtain ⟨rfl, _⟩ := flatEq_sound (show flatEq (.bool true) v = true from h)
    refine (call_sound envB_ok hc #[] w .nil).mono ?_
    rintro e w' ⟨φ, x, rfl, hv, hb⟩
    cases hv
    exact ⟨rfl, hb⟩
end Go.Proofs.YtcmehaoicilejaaGreatDoor
