/- The closed call 'alive' of the laws of this seat, run by the evaluator. -/
import Derived.Test.YtgjnmfjiolpikaaGreatDoorEnv
import Derived.Test.YtgjnmfjiolpikaaGreatDoorShM
import Derived.Lib.SmallJoins
import Derived.Lib.AppendIntMem
import Derived.Lib.LaidTab
import Derived.Handy
namespace Go.Proofs.YtgjnmfjiolpikaaGreatDoor
open Go Go.Ev Go.RowKit
set_option maxRecDepth 1000000
/-- What the laws of this seat ask of the world. -/
structure LibA (m : Int) (w : World) : Prop where
  pow : Lib.TabIs Tryz.prog w "internal/strconv.uint64pow10" .u64 Lib.pow10Tab
  bruijn : w.cell? ⟨8, 15, none⟩ = some (.int .u8 4)
  max : w.cell? ⟨0, 0, none⟩ = some (.int .i64 m)
theorem LibA.below {m : Int} {w w' : World} (h : LibA m w) (hb : Below w.heap.size w w') : LibA m w' :=
  ⟨Joins.tab_stays (g := 4) (by kernel_rfl) h.pow hb (Nat.le_refl _), (hb.cell (World.block_lt_of_cell? w _ h.bruijn)).trans h.bruijn, (hb.cell (World.block_lt_of_cell? w _ h.max)).trans h.max⟩

set_option maxHeartbeats 1000000 in
theorem zeros_16 {m : Int} (w : World) (hL : LibA m w) : Calls Tryz.prog 224 #[.int .u64 16] w fun e w' => e = .returned (.int .i64 4) ∧ w = w' := by
  have h0 := hL.bruijn
  have e1 : IntKind.u64.wrap (bits BinOp.and IntKind.u64 16 (IntKind.u64.wrap (-16)) * 285870213051353865) / 288230376151711744 = 15 := by kernel_rfl
  go_enter Tryz.func224, Tryz.ntmps224
  go_wp2
  go_ret
  exact ⟨rfl, rfl⟩
theorem beq_cond {α : Type} {a b : Nat} {x y : Option α} {v : α} (h : cond (Nat.beq a b) x y = some v) : a = b ∧ x = some v ∨ y = some v := by
  cases hb : Nat.beq a b with
  | true => rw [hb] at h; exact .inl ⟨Nat.eq_of_beq_eq_true hb, h⟩
  | false => rw [hb] at h; exact .inr h
noncomputable def env00 : Env := mkEnv ftr ttr ptr noPrm noMemo []
theorem env00_ok [Base] : EnvOK env00 Tryz.prog := mkEnv_ok ftr_all ftr_names ttr_all ptr_all (mixed_of Tryz.checked) noPrm_ok noMemo_ok rfl
noncomputable def itoaV : Int → Option V
  | .negSucc 6 => some (.str [45, 55])
  | .ofNat 255 => some (.str [50, 53, 53])
  | _ => none
noncomputable def prmA (f : Nat) (args : List V) : Option V :=
  cond (Nat.beq f 119) (match args with | [.str s, .int .u8 (.ofNat n)] => cond (Nat.ble n 255) (intK (idxB s 0 n) fun n => some (.int .i64 n)) none | _ => none)
  (cond (Nat.beq f 152) (match args with | [.int .i64 n] => itoaV n | _ => none)
  (cond (Nat.beq f 224) (match args with | [.int .u64 (.ofNat 16)] => some (.int .i64 (.ofNat 4)) | _ => none)
  (cond (Nat.beq f 178) (match args with | [v] => some v | _ => none) none)))
def liesL : List (TypeId × Nat × TypeId) := [(117, 0, 117)]
noncomputable def envB : Env := mkEnv ftr ttr ptr prmA noMemo liesL
theorem alive_run : okRes (.bool true) (call envB 60000 4 [] ⟨0, .e⟩) = true := by kernel_rfl
theorem itoa_m7 : Lib.itoa (-7) = [45, 55] := by
  unfold Lib.itoa
  rw [if_pos (by omega)]
  show 45 :: Lib.decDigits 7 = _
  simp [Lib.decDigits]
theorem itoa_255 : Lib.itoa 255 = [50, 53, 53] := by
  unfold Lib.itoa
  rw [if_neg (by omega)]
  show Lib.decDigits 255 = _
  simp [Lib.decDigits]
theorem one_int {φ : Phi} {k : IntKind} {n : Int} {xs : Array Value} (ha : VRs φ [.int k n] xs.toList) : xs = #[.int k n] := by
  obtain ⟨x, ys, e1, hx, hys⟩ := ha.inv
  rw [hys.inv_nil] at e1
  cases hx
  cases xs; simpa using e1
theorem prim_itoa [Base] {m : Int} (hL : LibA m Base.w0) {n : Int} {v : V} (h : itoaV n = some v) (φ : Phi) (xs : Array Value) (w : World) (hw : Below Base.w0.heap.size Base.w0 w) (ha : VRs φ [.int .i64 n] xs.toList) :
    PrimGives Tryz.prog φ w v ((callFunc 152 xs).run Tryz.prog w) := by
  obtain rfl := one_int ha
  have hw' := (hL.below hw).pow
  have key : ∀ l : List Nat, (∀ b ∈ l, b < 256) → v = .str l → Lib.itoa n = l.map UInt8.ofNat → -9223372036854775808 ≤ n → n ≤ 9223372036854775807 → PrimGives Tryz.prog φ w v ((callFunc 152 #[.int .i64 n]).run Tryz.prog w) := by
    intro l hl e1 e2 h0 h1
    subst e1
    refine .inr ⟨_, _, callFunc_enter env00_ok (fn := Tryz.f152) (by kernel_rfl) (by kernel_rfl) _ w, (Tryz.strconv_Itoa n h0 h1 w hw').mono ?_⟩
    rintro e w' ⟨rfl, k, os, rfl⟩
    rw [e2]
    exact ⟨_, rfl, .str l hl, Lib.below_grow _ w (Nat.le_refl _) k os⟩
  unfold itoaV at h
  split at h
  · cases h
    exact key [45, 55] (by decide) rfl itoa_m7 (by decide) (by decide)
  · cases h
    exact key [50, 53, 53] (by decide) rfl itoa_255 (by decide) (by decide)
  · cases h
theorem prim_zeros [Base] {m : Int} (hL : LibA m Base.w0) (φ : Phi) (xs : Array Value) (w : World) (hw : Below Base.w0.heap.size Base.w0 w) (ha : VRs φ [.int .u64 (.ofNat 16)] xs.toList) :
    PrimGives Tryz.prog φ w (.int .i64 (.ofNat 4)) ((callFunc 224 xs).run Tryz.prog w) := by
  obtain rfl := one_int ha
  refine .inr ⟨_, _, callFunc_enter env00_ok (fn := Tryz.f224) (by kernel_rfl) (by kernel_rfl) _ w, (zeros_16 w (hL.below hw)).mono ?_⟩
  rintro e w' ⟨rfl, rfl⟩
  exact ⟨_, rfl, .int _ _, Below.refl _ _⟩
theorem prmA_ok [Base] {m : Int} (hL : LibA m Base.w0) : ∀ f args v, prmA f args = some v → ∀ (φ : Phi) (xs : Array Value) (w : World), Below Base.w0.heap.size Base.w0 w → VRs φ args xs.toList → PrimGives Tryz.prog φ w v ((callFunc f xs).run Tryz.prog w) := by
  intro f args v h φ xs w hw ha
  rcases beq_cond h with ⟨rfl, g⟩ | g
  · clear h
    split at g
    · rename_i s n
      obtain ⟨h1, h⟩ := cond_some g
      rw [intK_eq] at h
      cases h
      exact prim_indexByte Tryz.func119 (by kernel_rfl) (by kernel_rfl) rfl rfl (by have := Nat.le_of_ble_eq_true h1; omega) φ xs w ha
    · cases g
  clear h
  rcases beq_cond g with ⟨rfl, h⟩ | h
  · clear g
    split at h
    · exact prim_itoa hL h φ xs w hw ha
    · cases h
  clear g
  rcases beq_cond h with ⟨rfl, g⟩ | g
  · clear h
    split at g
    · cases g
      exact prim_zeros hL φ xs w hw ha
    · cases g
  clear h
  rcases beq_cond g with ⟨rfl, h⟩ | h
  · clear g
    split at h
    · rename_i u
      cases h
      exact prim_noEscape Tryz.func178 (by kernel_rfl) (by kernel_rfl) rfl rfl φ xs w ha
    · cases h
  · cases h
theorem lies_ok : liesB Tryz.prog liesL = true := by kernel_rfl
theorem envB_ok [Base] {m : Int} (hL : LibA m Base.w0) : EnvOK envB Tryz.prog := mkEnv_ok ftr_all ftr_names ttr_all ptr_all (mixed_of Tryz.checked) (prmA_ok hL) noMemo_ok lies_ok
theorem alive_any (m : Int) (w : World) (hL : LibA m w) : Calls Tryz.prog 4 #[] w fun e w' => e = .returned (.bool true) ∧ Below w.heap.size w w' := by
  letI : Base := ⟨w⟩
  have h := alive_run
  cases hc : call envB 60000 4 [] ⟨0, .e⟩ with
  | none => rw [hc] at h; cases h
  | some p =>
    obtain ⟨v, st⟩ := p
    rw [hc] at h
    obtain ⟨rfl, _⟩ := flatEq_sound (show flatEq (.bool true) v = true from h)
    refine (call_sound (envB_ok hL) hc #[] w (Below.refl _ _) .nil).mono ?_
    rintro e w' ⟨φ, x, rfl, hv, hb⟩
    cases hv
    exact ⟨rfl, hb⟩
end Go.Proofs.YtgjnmfjiolpikaaGreatDoor
