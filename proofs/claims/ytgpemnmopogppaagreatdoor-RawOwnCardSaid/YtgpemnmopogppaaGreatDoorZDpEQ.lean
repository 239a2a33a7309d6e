import Derived.Test.YtgpemnmopogppaaGreatDoorZDpCaQ
import Derived.Test.YtgpemnmopogppaaGreatDoorZUqB
set_option maxRecDepth 1000000
set_option maxHeartbeats 16000000
namespace Go.Proofs.YtgpemnmopogppaaGreatDoor
open Go.Proofs.Tryz
open Go.RowKit
namespace Dp
theorem vagg {w : World} {B : Nat} {g : GV} {x : Value} (h : VAt w B g x) : ∃ (k n : Int) (t : ByteArray) (A : Option Addr) (l c : Nat), x = .agg #[.int .i64 k, .int .i64 n, .string t, .slice A l c] := by
 cases h
 exact ⟨_, _, _, _, _, _, rfl⟩
def fewB (g : GV) : Bool := decide (0 ≤ leftV g 2048)
def sameB (g g' : GV) : Bool := fewB g && (fewB g' && alikeV g g')
section
variable {w : World} {B : Nat}
theorem few_any (hBw : B ≤ w.heap.size) {g : GV} {x : Value} (h : VAt w B g x) (w' : World) (hb : Below B w w') :
  Calls prog 33 #[x] w' fun e w'' => e = .returned (.bool (fewB g)) ∧ Below w'.heap.size w' w'' := by
 obtain ⟨k, n, t, A, l, c, rfl⟩ := vagg h
 have HL := lH (rleft_any hBw h (w'.alloc (.cells #[.int .i64 k, .int .i64 n, .string t, .slice A l c] 25)) (hb.alloc (Nat.le_trans hBw hb.size) _) 2048 (by omega) (by omega))
 have HB0 := lH ((Below.refl w'.heap.size w').alloc (Nat.le_refl _) (.cells #[.int .i64 k, .int .i64 n, .string t, .slice A l c] 25))
 unfold fewB
 clear h hb
 generalize leftV g 2048 = m at *
 go_enter func33, ntmps33
 go_wp2_with (go_at_call 35; refine (HL.out).mono ?_; rintro e w2 ⟨rfl, hle, hb2⟩)
 go_ret
 exact ⟨rfl, HB0.out.trans (hb2.mono HB0.out.size)⟩
end
end Dp
open Go Go.RowKit
namespace Ut
open Dp
open Url (encL decF)
def sameAt (la lb : List GI) (i : Nat) : Bool := match la[i]?, lb[i]? with
 | some x, some y => sameB y.val x.val
 | _, _ => true
def turnN (la lb : List GI) : Nat → Nat
 | 0 => 0
 | j + 1 => turnN la lb j + if sameAt la lb j = true then 0 else 1
structure OrdP (la lb : List GI) : Prop where
 ge : la.length ≤ lb.length
 le : lb.length ≤ la.length + 1
 key : ∀ (i : Nat) (x : GI), la[i]? = some x → ∃ y, lb[i]? = some y ∧ GI.keyG y = GI.keyG x
 one : turnN la lb la.length + lb.length ≤ la.length + 1
theorem queryF_ok : ∀ (ps : List (List UInt8)) (k : Nat) (g : GV), QOk g → (∀ p ∈ ps, (cutL 61 p).1.length ≤ 16777216 ∧ (cutL 61 p).2.length ≤ 16777216) → QOk (queryF ps k g)
 | [], k, g, hg, _ => by rw [queryF]; exact hg
 | p :: ps, k, g, hg, h => by
  rw [queryF]
  have h1 := h p (List.mem_cons_self ..)
  split
  · exact queryF_ok ps k g hg fun q hq => h q (List.mem_cons_of_mem _ hq)
  · refine queryF_ok ps _ _ (putQ_ok hg ?_ ?_) fun q hq => h q (List.mem_cons_of_mem _ hq)
    · have := decF_le (cutL 61 p).1; omega
    · have := decF_le (cutL 61 p).2; omega
theorem queryG_ok (s : List UInt8) (h : ∀ p ∈ splitL 38 s, (cutL 61 p).1.length ≤ 16777216 ∧ (cutL 61 p).2.length ≤ 16777216) : QOk (queryG s) := queryF_ok _ _ _ .empty h
theorem splitL_mem (c : UInt8) : ∀ (s : List UInt8) (p : List UInt8), p ∈ splitL c s → p.length ≤ s.length
 | [], p, h => by simp [splitL] at h; subst h; exact Nat.le_refl _
 | x :: r, p, h => by
  rw [splitL] at h
  split at h
  · rcases List.mem_cons.1 h with rfl | h
    · exact Nat.zero_le _
    · exact Nat.le_succ_of_le (splitL_mem c r p h)
  · split at h
    · simp at h; subst h; simp
    · rename_i a t he
      rcases List.mem_cons.1 h with rfl | h
      · have := splitL_mem c r a (by rw [he]; exact List.mem_cons_self ..)
        simp
        omega
      · have := splitL_mem c r p (by rw [he]; exact List.mem_cons_of_mem _ h)
        simp
        omega
end Ut
end Go.Proofs.YtgpemnmopogppaaGreatDoor
