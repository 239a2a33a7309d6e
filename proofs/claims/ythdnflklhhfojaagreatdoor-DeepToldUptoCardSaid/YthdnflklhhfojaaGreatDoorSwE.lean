/- deep.quote's replacer, strings.Repeat of two blanks: run by the evaluator. -/
import Derived.Test.YthdnflklhhfojaaGreatDoorMxA
import Derived.Test.YthdnflklhhfojaaGreatDoorSwA
namespace Go.Proofs.YthdnflklhhfojaaGreatDoor
open Go Go.Ev Go.RowKit
namespace Sw
set_option maxRecDepth 1000000
/-! ### strings.Repeat of two blanks -/
noncomputable def repOk (n : Nat) : Bool := okStr (List.replicate (2 * n) 32) (call envB 5000 58 [.str [32, 32], .int .i64 (.ofNat n)] ⟨0, .e⟩)
where okStr (l : List Nat) : R → Bool
  | some (.str s, _) => strEq l s
  | _ => false
noncomputable def repAll : Nat → Bool
  | 0 => true
  | n + 1 => cond (repOk n) (repAll n) false
theorem rep_run : repAll 65 = true := by kernel_rfl
theorem rep_at : ∀ m, repAll m = true → ∀ n, n < m → repOk n = true
  | 0, _, n, h => by omega
  | m + 1, h, n, hn => by
    obtain ⟨h1, h2⟩ := condT (show cond (repOk m) (repAll m) false = true from h)
    by_cases e : n = m
    · rw [e]; exact h1
    · exact rep_at m h2 n (by omega)
theorem mkS_blanks (n : Nat) : mkS (List.replicate n 32) = ⟨(spaces n).toArray⟩ := by
  unfold mkS spaces
  rw [List.map_replicate]
  rfl
theorem repeat_any (n : Nat) (hn : n ≤ 64) (w : World) (hL : LibS w) : Calls Tryz.prog 58 #[.string ⟨#[32, 32]⟩, .int .i64 n] w fun e w' => e = .returned (.string ⟨(spaces (2 * n)).toArray⟩) ∧ Below w.heap.size w w' := by
  letI : Base := ⟨w⟩
  have h := rep_at 65 rep_run n (by omega)
  unfold repOk repOk.okStr at h
  split at h
  · rename_i s st hc
    have hs := strEq_same h
    subst hs
    refine (call_sound (envB_ok hL) hc #[.string ⟨#[32, 32]⟩, .int .i64 n] w (Below.refl _ _) ?_).mono ?_
    · exact .cons (.str [32, 32] (by decide)) (.cons (.int _ _) .nil)
    · rintro e w' ⟨φ, x, rfl, hv, hb⟩
      refine ⟨?_, hb⟩
      generalize hl : List.replicate (2 * n) 32 = l at *
      cases hv
      rw [← hl, mkS_blanks]
  · cases h
/-! ### the replacer -/
theorem call_from [Base] {E : Env} {P : Program} (hE : EnvOK E P) {n : Nat} {f : FuncId} {args : List V} {st : St} {v : V} {st' : St} (h : call E n f args st = some (v, st')) (xs : Array Value) (w : World) {φ : Phi} (hR : Rep φ st w) (ha : VRs φ args xs.toList) :
    Calls P f xs w fun e w' => ∃ φ' x, e = .returned x ∧ VR φ' v x ∧ Rep φ' st' w' ∧ Chg φ w φ' w' := by
  intro cs0
  obtain ⟨φ', x, w', fr', h1, h2, h3, h4, h5, h6⟩ := enterK_sound (dfr := false) (frs := []) (cs0 := cs0) hE (run_sound hE n) h ha hR .nil
  exact ⟨.returned x, w', fr', ⟨φ', x, rfl, h4, h3, h2⟩, h1, h6, h5⟩
def oldNew : List V := [.str [92], .str [92, 92], .str [39], .str [92, 39]]
def oldNewA : Array Value := #[.string ⟨#[92]⟩, .string ⟨#[92, 92]⟩, .string ⟨#[39]⟩, .string ⟨#[92, 39]⟩]
noncomputable def st0 : St := ⟨1, Tr.set .e 0 (.cells (setCells 0 oldNew .e 0) 4 0 none)⟩
noncomputable def newRun : R := call envB 3000 95 [.sl 0 0 4 1 (some 4)] st0
noncomputable def nilsOk (st : St) (T : Nat) : Nat → Bool
  | 0 => true
  | i + 1 => cond (cond (Nat.beq i 39) true (cond (Nat.beq i 92) true (isNils (cellAt st T i)))) (nilsOk st T i) false
where isNils : Option V → Bool
  | some .nils => true
  | _ => false
noncomputable def pairOk (st : St) (T i : Nat) (x y : V) : Bool := match cellAt st T i with
  | some (.sl a 0 2 1 _) => cond (okc (cellAt st a 0) x) (okc (cellAt st a 1) y) false
  | _ => false
where okc : Option V → V → Bool
  | some u, v => sameV 2 u v
  | none, _ => false
noncomputable def tabOkS (st : St) : Bool := match cellAt st 2 3 with
  | some (.iface t (.ptr T 0)) => cond (Nat.beq t 197) (cond (nilsOk st T 256) (cond (pairOk st T 39 (.int .u8 92) (.int .u8 39)) (cond (pairOk st T 92 (.int .u8 92) (.int .u8 92)) (pairOk st T 256 (.str [39]) (.str [92])) false) false) false) false
  | _ => false
noncomputable def doRun (st : St) : R := call envB 20000 129 [.ptr 2 0, .fn (.func 130) [.ptr 2 0] []] st
noncomputable def allOk : R → Bool
  | some (.ptr 2 0, st) => match doRun st with
    | some (.tup [], st') => tabOkS st'
    | _ => false
  | _ => false
theorem all_ok : allOk newRun = true := by kernel_rfl
end Sw
end Go.Proofs.YthdnflklhhfojaaGreatDoor
