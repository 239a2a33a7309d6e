import Derived.Test.YtgpemnmopogppaaGreatDoorZOpenMQ
import Derived.Test.YtgpemnmopogppaaGreatDoorZRlN
import Derived.Test.YtgpemnmopogppaaGreatDoorZRawOwnK
set_option maxRecDepth 1000000
set_option maxHeartbeats 16000000
namespace Go.Proofs.YtgpemnmopogppaaGreatDoor
open Go.Proofs.Tryz
open Go.ChangeShapes Go.WideShapes Go.ChangeAt Go.RowKit Go.Deep
open Go.Joins
namespace rown
theorem contract (H : Type) (enc : TypeId × Value → H) (W : World) (base : Nat) (args : Array Value) (ds gs : List (DataW H)) (before : List MemPlace)
  (hval : ∀ (j : Nat) t v, Tryz.f8.params[j]? = some t → args[j]? = some v → Value.okWide prog W .any base t v)
  (hW : DataW.Whole enc prog Tryz.f8.params.toList Rows.rawOwnSpec.vars false W args.toList ds gs before)
  (hsz : (DataW.weightsEach prog (Tryz.f8.params.toList ++ (OpenSpec.ofChange Rows.rawOwnSpec).bare.plain.varTypes prog) (ds ++ gs)).all (· ≤ reachBytes) = true) (hL : laidMetH prog Rows.rawOwnRow.laid W) (hsh : W.ShapedOpen prog) :
  Calls prog 8 args W fun e W' => ∃ v, e = .returned v ∧ Rows.rawOwnSpec.post enc prog Tryz.f8 false true false false W args v W' := by
 have hW' := hW
 obtain ⟨p, q, hA0, hV, rfl, hfz, hnd⟩ := hW
 have hA : DataW.TrodAll enc prog W 0 (fun _ => true) true Tryz.f8.params.toList args.toList ds p := hA0
 rw [params8] at hA hval hsz
 obtain ⟨v0, vs0, d0, ds0, p0, q0, hargs, rfl, rfl, h0, r0⟩ := trodAll_cons hA
 obtain ⟨rfl, rfl, rfl⟩ := trodAll_nil r0
 obtain rfl : args = #[v0] := by cases args; simp_all
 obtain ⟨rfl, rfl⟩ := trodVars_none hV
 obtain ⟨s0, rfl, rfl, rfl, hs0⟩ := Go.ChangeMaps.open_string underlying9 (hval 0 _ v0 rfl rfl) h0
 have hL' : laidMetH prog Rows.urlOrderRow.laid W := hL
 have hLs := lib_of_laid hL'
 obtain ⟨m, hm⟩ := maxLen_cell hsh
 refine (Rl.rawOwn_any s0 hs0 W hLs m hm).mono fun e W' ⟨he, hbl⟩ => ?_
 subst he
 refine ⟨_, rfl, post_true hW' rfl (fun _ => ⟨rfl, rfl, rfl⟩) rfl ?_ hbl⟩
 rw [params8]
 intro t ht
 obtain rfl : t = 9 := by simpa using ht
 exact ⟨by kernel_rfl, of_decide_eq_true (by kernel_rfl)⟩
theorem reads (os : Os) {H : Type} (enc : TypeId × Value → H) : ∃ places, DataW.whole enc prog ((laidWorld os).forCall (fun _ _ => 0) ⟨#[], #[.string ⟨#[]⟩], []⟩).memory Tryz.f8.params.toList Rows.rawOwnSpec.vars false (#[.string ⟨#[]⟩] : Array Value).toList 8 = some ([.lit (.string [])], [], places) :=
 ⟨[], by kernel_rfl⟩
theorem lifted (os : Os) (started : os.Started) (H : Type) (enc : TypeId × Value → H) (F : Stop.Interp) :
  ReturnsInHanded {} Tryz.checked os 8 .any ((OpenSpec.ofChange Rows.rawOwnSpec).preRow enc prog Tryz.f8 Rows.rawOwnRow.domain false Rows.rawOwnRow.laid) (((OpenSpec.ofChange Rows.rawOwnSpec).at F).post enc prog Tryz.f8 false true false false) := by
 obtain ⟨places, hx⟩ := reads os enc
 refine returnsInHanded_of_row (C := Tryz.checked) (s := OpenSpec.ofChange Rows.rawOwnSpec) own started (by kernel_rfl) func8
  (witness_row_atRef (enc := enc) (C := Tryz.checked) false (laidWorld os) #[.string ⟨#[]⟩] rfl (by kernel_rfl) (by kernel_rfl) (by kernel_rfl)
   (OpenSpec.preRow_of_cond 8 hx (by kernel_rfl) (fun k hk => by cases hk) (by kernel_rfl) (laid_met os _))) ?_
 intro W base args ds gs before hval hW _ hcond hsz hL hsh _
 exact contract H enc W base args ds gs before hval hW hsz hL hsh
theorem said : Rows.RawOwnSaid :=
 OpenClaim.holds_of_cond 8 Tryz.f8 rfl rfl rfl rfl rfl rfl rfl ⟨rfl, rfl, rfl, rfl, rfl⟩ rfl rfl rfl rfl rfl (by kernel_rfl) func8 closed
  (of_decide_eq_true (by kernel_rfl)) (by unfold Func.isWrapper; first | (rw [if_pos (by decide +kernel)]; kernel_rfl) | (rw [if_neg (by decide +kernel)]; exact ⟨rfl, rfl⟩))
  (fun os started H enc _ F => by rw [OpenClaim.pre_eq_preRow]; exact lifted os started H enc F)
theorem plain (f : FuncId) (fn : Func) (hf : Tryz.pinned.checked.prog.funcNamed Rows.rawOwnRow.func = some f) (hfn : Tryz.pinned.checked.prog.funcs[f]? = some fn) :
  true = Tryz.pinned.checked.prog.looks [] ∧ ∀ (j : Nat) t, fn.params[j]? = some t → Tryz.pinned.checked.prog.wantsStandIn t = false := by
 obtain rfl : f = 8 := Option.some.inj ((show prog.funcNamed Rows.rawOwnRow.func = some 8 by kernel_rfl).symm.trans hf) |>.symm
 obtain rfl : fn = Tryz.f8 := (Option.some.inj (func8.symm.trans hfn)).symm
 refine ⟨by kernel_rfl, fun j t ht => ?_⟩
 rw [params8] at ht
 obtain rfl : t = 9 := by simpa using Array.mem_of_getElem? ht
 exact (show prog.wantsStandIn 9 = false by kernel_rfl)
theorem card : Rows.RawOwnCardSaid :=
 Claim7.holds_tied_plain_at .later [] _ _ _ _ said (fun _ h => by cases h) (by kernel_rfl) (fun _ h => by cases h) rawOwn_row_tie rfl ⟨rfl, rfl⟩ (by kernel_rfl) rfl plain (by kernel_rfl)
end rown
#print axioms rown.card
end Go.Proofs.YtgpemnmopogppaaGreatDoor
