/- deep: plain kinds; a world that draws: plain words. -/
import Derived.Test.YtgpemnmopogppaaGreatDoorZNmPQ
import Derived.Deep.QuietTactic
import Derived.Deep.RegionLaw
import Derived.BigQuiet
import Derived.Laws.EntriesVeiled
import Derived.Test.YtgpemnmopogppaaGreatDoorZUqB
namespace Go.Proofs.YtgpemnmopogppaaGreatDoor
open Go.RowKit
namespace Dp
def plainB (k : Int) : Bool := decide (0 ≤ k) && decide (k ≤ 3)
theorem drewN' {B : Nat} {w w' : World} (h : Below B w w') (n : Nat) : Below B w (w'.drewN n) := ⟨h.os, h.tape, h.output, h.size, h.block⟩
end Dp
end Go.Proofs.YtgpemnmopogppaaGreatDoor
/- deep: few items: the walk. -/
namespace Go.Proofs.YtgpemnmopogppaaGreatDoor
open Go.RowKit
namespace Dp
theorem vagg {w : World} {B : Nat} {g : GV} {x : Value} (h : VAt w B g x) : ∃ (k n : Int) (t : ByteArray) (A : Option Addr) (l c : Nat), x = .agg #[.int .i64 k, .int .i64 n, .string t, .slice A l c] := by
  cases h
  exact ⟨_, _, _, _, _, _, rfl⟩
/-- Few enough items. -/
def fewB (g : GV) : Bool := decide (0 ≤ leftV g 2048)
def sameB (g g' : GV) : Bool := fewB g && (fewB g' && alikeV g g')
theorem few_no {g : GV} (h : ¬ 0 ≤ leftV g 2048) : fewB g = false := decide_eq_false h
theorem few_yes {g : GV} (h : 0 ≤ leftV g 2048) : fewB g = true := decide_eq_true h
section
variable {w : World} {B : Nat}
set_option maxRecDepth 100000 in
theorem few_any (hBw : B ≤ w.heap.size) {g : GV} {x : Value} (h : VAt w B g x) (w' : World) (hb : Below B w w') :
    Calls Tryz.prog 33 #[x] w' fun e w'' => e = .returned (.bool (fewB g)) ∧ Below w'.heap.size w' w'' := by
  obtain ⟨k, n, t, A, l, c, rfl⟩ := vagg h
  have HL := Lib.hid (rleft_any hBw h (w'.alloc (.cells #[.int .i64 k, .int .i64 n, .string t, .slice A l c] 25)) (hb.alloc (Nat.le_trans hBw hb.size) _) 2048 (by omega) (by omega))
  have HB0 := Lib.hid ((Below.refl w'.heap.size w').alloc (Nat.le_refl _) (.cells #[.int .i64 k, .int .i64 n, .string t, .slice A l c] 25))
  unfold fewB
  clear h hb
  generalize leftV g 2048 = m at *
  go_enter Tryz.func33, Tryz.ntmps33
  go_wp2_with (go_at_call 35; refine (HL.out).mono ?_; rintro e w2 ⟨rfl, hle, hb2⟩)
  go_ret
  exact ⟨rfl, HB0.out.trans (hb2.mono HB0.out.size)⟩
end
end Dp
end Go.Proofs.YtgpemnmopogppaaGreatDoor
/- url: what a query makes is the same as itself; what one more pair turns: plain laws. -/
namespace Go.Proofs.YtgpemnmopogppaaGreatDoor
open Go Go.RowKit
namespace Ut
open Go.Proofs.YtgpemnmopogppaaGreatDoor.Dp
open Go.Proofs.YtgpemnmopogppaaGreatDoor.Url (encL decF)
theorem leftL_neg (l : List GI) (m : Int) (h : m < 0) : leftL l m = m := by
  cases l with
  | nil => rw [leftL]
  | cons it l => cases it with | mk b i s v => rw [leftL, if_pos h]
/-! ### what one more pair turns -/
/-- Whether the i-th value is the same in both. -/
def sameAt (la lb : List GI) (i : Nat) : Bool := match la[i]?, lb[i]? with
  | some x, some y => sameB y.val x.val
  | _, _ => true
/-- How many of the first j are not. -/
def turnN (la lb : List GI) : Nat → Nat
  | 0 => 0
  | j + 1 => turnN la lb j + if sameAt la lb j = true then 0 else 1
structure OrdP (la lb : List GI) : Prop where
  ge : la.length ≤ lb.length
  le : lb.length ≤ la.length + 1
  key : ∀ (i : Nat) (x : GI), la[i]? = some x → ∃ y, lb[i]? = some y ∧ GI.keyG y = GI.keyG x
  one : turnN la lb la.length + lb.length ≤ la.length + 1
theorem splitL_mem (c : UInt8) : ∀ (s : List UInt8) (p : List UInt8), p ∈ splitL c s → p.length ≤ s.length
  | [], p, h => by simp [splitL] at h; subst h; exact Nat.le_refl _
  | x :: r, p, h => by
    rw [splitL] at h
    split at h
    · rcases List.mem_cons.1 h with rfl | h
      · exact Nat.zero_le _
      · exact Nat.le_succ_of_le (splitL_mem c r p h)
    · split at h
      · simp at h; subst h; simp
      · rename_i a t he
        rcases List.mem_cons.1 h with rfl | h
        · have := splitL_mem c r a (by rw [he]; exact List.mem_cons_self ..)
          simp
          omega
        · have := splitL_mem c r p (by rw [he]; exact List.mem_cons_of_mem _ h)
          simp
          omega
end Ut
end Go.Proofs.YtgpemnmopogppaaGreatDoor
