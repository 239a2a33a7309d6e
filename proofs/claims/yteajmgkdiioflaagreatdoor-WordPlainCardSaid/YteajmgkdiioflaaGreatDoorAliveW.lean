/- The closed call 'alive' of the laws of this seat, run by the evaluator. -/
import Derived.Test.YteajmgkdiioflaaGreatDoorEnv
import Derived.Test.YteajmgkdiioflaaGreatDoorWordC
namespace Go.Proofs.YteajmgkdiioflaaGreatDoor
open Go Go.Ev Go.RowKit
set_option maxRecDepth 1000000
noncomputable def env00 : Env := mkEnv ftr ttr ptr noPrm noMemo []
theorem env00_ok [Base] : EnvOK env00 Tryz.prog := mkEnv_ok ftr_all ftr_names ttr_all ptr_all (mixed_of Tryz.checked) noPrm_ok noMemo_ok rfl
noncomputable def prmA (f : Nat) (args : List V) : Option V :=
  cond (Nat.beq f 74) (match args with | [.str s, .int .u8 (.ofNat n)] => cond (Nat.ble n 255) (intK (idxB s 0 n) fun n => some (.int .i64 n)) none | _ => none)
  (cond (Nat.beq f 21) (match args with | [.str s] => cond (Nat.ble s.length 1000000) (obind (lowL s) fun k => some (.str k)) none | _ => none)
  (cond (Nat.beq f 20) (match args with | [.str s, .str t] => cond (Nat.ble s.length 1000000) (mkB (contL t s)) none | _ => none)
  (cond (Nat.beq f 34) (match args with | [.str s, .str [c]] => natK (cntB s 0 c) fun n => some (.int .i64 (.ofNat n)) | _ => none)
  (cond (Nat.beq f 96) (match args with | [v] => some v | _ => none) none))))
def liesL : List (TypeId × Nat × TypeId) := [(82, 6, 78)]
noncomputable def envB : Env := mkEnv ftr ttr ptr prmA noMemo liesL
theorem alive_run : okRes (.bool true) (call envB 60000 8 [] ⟨0, .e⟩) = true := by kernel_rfl

theorem beq_cond {α : Type} {a b : Nat} {x y : Option α} {v : α} (h : cond (Nat.beq a b) x y = some v) : a = b ∧ x = some v ∨ y = some v := by
  cases hb : Nat.beq a b with
  | true => rw [hb] at h; exact .inl ⟨Nat.eq_of_beq_eq_true hb, h⟩
  | false => rw [hb] at h; exact .inr h
theorem toLowerA_map (l : List UInt8) : Lib.toLowerA l = l.map lowB := by
  unfold Lib.toLowerA
  exact List.map_congr_left (fun b _ => (lowB_eq b).symm)
theorem prmA_ok [Base] {m : Int} (hL : LibW m Base.w0) : ∀ f args v, prmA f args = some v → ∀ (φ : Phi) (xs : Array Value) (w : World), Below Base.w0.heap.size Base.w0 w → VRs φ args xs.toList → PrimGives Tryz.prog φ w v ((callFunc f xs).run Tryz.prog w) := by
  intro f args v h φ xs w hw ha
  rcases beq_cond h with ⟨rfl, g⟩ | g
  · clear h
    split at g
    · rename_i s n
      obtain ⟨h1, h⟩ := cond_some g
      rw [intK_eq] at h
      cases h
      exact prim_indexByte Tryz.func74 (by kernel_rfl) (by kernel_rfl) rfl rfl (by have := Nat.le_of_ble_eq_true h1; omega) φ xs w ha
    · cases g
  clear h
  rcases beq_cond g with ⟨rfl, h⟩ | h
  · clear g
    split at h
    · rename_i s
      obtain ⟨h1, h3⟩ := cond_some h
      obtain ⟨k, h2, h4⟩ := obind_some h3
      cases h4
      refine prim_lower env00_ok (f := 21) (fn := Tryz.f21) (by kernel_rfl) (by kernel_rfl) h2 h1 φ xs w (fun s g1 g2 => ?_) ha
      rw [toLowerA_map]
      refine lower_any s (by omega) (fun b hb => ?_) w (hL.below hw).tabs
      obtain ⟨j, hj, rfl⟩ := List.mem_iff_getElem.1 hb
      exact g2 j _ (List.getElem?_eq_getElem hj)
    · cases h
  clear g
  rcases beq_cond h with ⟨rfl, g⟩ | g
  · clear h
    split at g
    · rename_i s t
      obtain ⟨h1, h2⟩ := cond_some g
      obtain rfl : v = .bool (contL t s) := by
        revert h2
        unfold mkB
        cases contL t s <;> intro h2 <;> cases h2 <;> rfl
      exact prim_contains env00_ok (f := 20) (fn := Tryz.f20) (by kernel_rfl) (by kernel_rfl) hL.max hL.lt (fun s sub m w h1 h2 => Tryz.strings_Contains s sub m w h1 h2) h1 φ xs w hw ha
    · cases g
  clear h
  rcases beq_cond g with ⟨rfl, h⟩ | h
  · clear g
    split at h
    · rename_i s c
      rw [natK_eq] at h
      cases h
      exact prim_count1 env00_ok (f := 34) (fn := Tryz.f34) (by kernel_rfl) (by kernel_rfl) (fun s c w => Tryz.strings_Count_one s c w) φ xs w ha
    · cases h
  clear g
  rcases beq_cond h with ⟨rfl, g⟩ | g
  · clear h
    split at g
    · rename_i u
      cases g
      exact prim_noEscape Tryz.func96 (by kernel_rfl) (by kernel_rfl) rfl rfl φ xs w ha
    · cases g
  · cases g
theorem lies_ok : liesB Tryz.prog liesL = true := by kernel_rfl
theorem envB_ok [Base] {m : Int} (hL : LibW m Base.w0) : EnvOK envB Tryz.prog := mkEnv_ok ftr_all ftr_names ttr_all ptr_all (mixed_of Tryz.checked) (prmA_ok hL) noMemo_ok lies_ok
theorem alive_any (m : Int) (w : World) (hL : LibW m w) : Calls Tryz.prog 8 #[] w fun e w' => e = .returned (.bool true) ∧ Below w.heap.size w w' := by
  letI : Base := ⟨w⟩
  have h := alive_run
  cases hc : call envB 60000 8 [] ⟨0, .e⟩ with
  | none => rw [hc] at h; cases h
  | some p =>
    obtain ⟨v, st⟩ := p
    rw [hc] at h
    obtain ⟨rfl, _⟩ := flatEq_sound (show flatEq (.bool true) v = true from h)
    refine (call_sound (envB_ok hL) hc #[] w (Below.refl _ _) .nil).mono ?_
    rintro e w' ⟨φ, x, rfl, hv, hb⟩
    cases hv
    exact ⟨rfl, hb⟩
end Go.Proofs.YteajmgkdiioflaaGreatDoor
