/- A range over a list's All: the law of the statement, for an iterator that writes its own list's blocks and a body that goes on to the end; a region that draws its order, in a round. -/
import Derived.Test.YtopmodahdmnpjaaGreatDoorZDoE
import Derived.RangeFuncNested
import Derived.RangeFuncCalls
import Derived.RangeFuncLeaves
import Derived.Shelf.Abstract
import Derived.OwnWalkIn
import Derived.TacticsInMore
import Derived.LoopIn
namespace Go.Proofs.YtopmodahdmnpjaaGreatDoor
open Go Go.RowKit
namespace Dp
/-- A block of a list's: the list, or a row of its items. -/
def OfList (o : Obj) : Prop := ∃ cs fz, o = .cells cs 130 fz ∨ o = .cells cs 136 fz
/-- What a round keeps: lists' blocks; whatever is no cells. -/
structure KT (A B : World) : Prop where
  size : A.heap.size ≤ B.heap.size
  same : ∀ (j : Nat) (o : Obj), A.heap[j]? = some o → OfList o ∨ o.isCells = false → B.heap[j]? = some o
/-- What a round keeps of lists' blocks. -/
structure KL (A B : World) : Prop where
  size : A.heap.size ≤ B.heap.size
  same : ∀ (j : Nat) (o : Obj), A.heap[j]? = some o → OfList o → B.heap[j]? = some o
theorem KT.trans {A B C : World} (h : KT A B) (k : KT B C) : KT A C := ⟨Nat.le_trans h.size k.size, fun j o ho hl => k.same j o (h.same j o ho hl) hl⟩
theorem KT.below {A B : World} (h : Below A.heap.size A B) : KT A B := ⟨h.size, fun j _o ho _ => (h.block j (Array.getElem?_eq_some_iff.1 ho).1).trans ho⟩
theorem not_list_of_not_cells {o : Obj} (h : o.isCells = false) : ¬ OfList o := by
  rintro ⟨cs, fz, rfl | rfl⟩ <;> cases h
section
variable {α : Type} {P : Program} {b n : Nat} {g : Operand} {ps : Array Tmp} {assign body : Code} {Q : Exit → Act → World → Prop} {a : Act} {w : World} {gf : Nat} {lb : Array Value} {encs : α → Array Value} {xs : List α}
theorem range_T (hbw : b < w.heap.size) (hg : a.eval g = .func (.func gf) #[] lb) (eg : ∀ args w, (callFunc gf args).run P w = .ok (.enter gf args) w) (hps : ∀ x, (encs x).size = ps.size)
    (hseq : ∀ (l : Nat) (J : List α → World → Prop) (W : World), Below w.heap.size w W → (∀ pre A B, J pre A → Keeps (fun j => j = b) A B → J pre B) →
      (∀ pre x W1, J pre W1 → pre ++ [x] <+: xs → YieldAt Fence.wide (n - 1 - 1) P l (encs x) W1 fun e W' => e = .returned (.bool true) ∧ J (pre ++ [x]) W' ∧ KL W1 W') → J [] W →
      CallsIn Fence.wide (n - 1) P gf (#[.func (.yield l) #[] #[]] ++ lb) W fun e W' => (∃ v, e = .returned v) ∧ J xs W')
    (I : List α → World → Prop) (Ax : List α → α → Act → World → Prop) (hI : ∀ pre A B, I pre A → Keeps (fun j => j = b) A B → I pre B)
    (hIp : ∀ pre A l o o', I pre A → w.heap.size ≤ l → A.heap[l]? = some o → o.isCells = false → o'.isCells = false → I pre (A.putObj l o'))
    (hAp : ∀ pre x a' A l o o', Ax pre x a' A → w.heap.size ≤ l → A.heap[l]? = some o → o.isCells = false → o'.isCells = false → Ax pre x a' (A.putObj l o')) (h0 : I [] w)
    (hassign : ∀ (l : Nat) (pre : List α) (x : α) (W : World) (K : Act → World → Prop), pre ++ [x] <+: xs → I pre W → (∀ a' W', Ax pre x a' W' → I pre W' → KT W W' → K a' W') →
      assign.wpIn (Fence.wide.inRound l) (n - 1 - 1) P (Exit.then K (fun _ _ _ => False)) { tmps := (ps.zip (encs x)).foldl (fun t (p, v) => t.setIfInBounds p v) a.tmps, defers := [] } W)
    (hbody : ∀ (l : Nat) (pre : List α) (x : α) (a' : Act) (W : World), pre ++ [x] <+: xs → Ax pre x a' W → I pre W → body.wpIn (Fence.wide.inRound l) (n - 1 - 1) P (fun e _ W' => e = .normal ∧ I (pre ++ [x]) W' ∧ KT W W') a' W)
    (hdone : ∀ (D : Nat) (W : World), w.heap.size ≤ D → I xs W → W.heap[D]? = some (.deferred (some [])) → Q .normal { a with defers := { target := .collected D, args := #[] } :: a.defers } W) :
    (Code.rangeFunc g ps assign body).wpIn Fence.wide n P Q a w := by
  refine wpIn_rangeFunc ?_
  intro fn hfn
  obtain ⟨rec, hrec⟩ : ∃ rec : LoopState → Option Code → Loop, rec = fun st pe => { state := st, pending := pe, fn, tmps := a.tmps, params := ps, assign, body, defers := w.heap.size } := ⟨_, rfl⟩
  obtain ⟨W1, hW1⟩ : ∃ W1, (w.alloc (.deferred (some []))).alloc (.loop (rec .ready none)) = W1 := ⟨_, rfl⟩
  have hL1 : W1.heap[w.heap.size + 1]? = some (.loop (rec .ready none)) := by
    rw [← hW1]
    have := World.alloc_heap_new (w.alloc (.deferred (some []))) (.loop (rec .ready none))
    rwa [World.size_alloc] at this
  have hK1 : W1.heap[w.heap.size]? = some (.deferred (some [])) := by
    rw [← hW1]
    exact (Below.heap_alloc _ _ _ (by simp)).trans (World.alloc_heap_new w _)
  have hb1 : Below w.heap.size w W1 := by
    rw [← hW1]
    exact ((Below.refl _ w).alloc (Nat.le_refl _) _).alloc (by simp) _
  refine ⟨w.heap.size + 1, [{ target := .collected w.heap.size, args := #[] }], W1, { target := .fn (.func gf) lb, args := #[.func (.yield (w.heap.size + 1)) #[] #[]] }, W1, gf,
    #[.func (.yield (w.heap.size + 1)) #[] #[]] ++ lb, W1, ?_, ?_, fun f' hf' => trivial, ?_, fun h => by simp [Fence.wide] at h, ?_⟩
  · rw [← hW1, hrec]
    exact run_enterLoop_outer _ _ _ _ _
  · simp only [resolve, hg]
    simp [go_sem]
  · simp [invoke, go_sem, eg]
  · refine (hseq (w.heap.size + 1) (fun pre W => I pre W ∧ W.heap[w.heap.size + 1]? = some (.loop (rec .ready none)) ∧ W.heap[w.heap.size]? = some (.deferred (some []))) W1 hb1 (fun pre A B hs hk => ⟨hI pre A B hs.1 hk, (hk.block _ (Array.getElem?_eq_some_iff.1 hs.2.1).1 (by omega)).trans hs.2.1, (hk.block _ (Array.getElem?_eq_some_iff.1 hs.2.2).1 (by omega)).trans hs.2.2⟩) ?_ ⟨hI _ _ _ h0 (Keeps.of_below hb1), hL1, hK1⟩).mono ?_
    · rintro pre x W ⟨hi, hl, hk⟩ hpx
      have hlt : w.heap.size + 1 < W.heap.size := (Array.getElem?_eq_some_iff.1 hl).1
      have hy := run_yield (P := P) (args := encs x) hl (by rw [hrec]; exact hps x)
      rw [hrec] at hy
      refine ⟨fn, _, assign, body, hy, roundIn_of_wpIn hfn (hassign _ pre x W _ hpx hi (fun a' W2 hax hi2 hkt => ?_))⟩
      have hl2 := hkt.same _ _ hl (.inr rfl)
      have hk2 := hkt.same _ _ hk (.inr rfl)
      have hlt2 : w.heap.size + 1 < W2.heap.size := (Array.getElem?_eq_some_iff.1 hl2).1
      refine ⟨_, run_beginRound hl2 (by rw [hrec]), ?_⟩
      have hl3 : (W2.putObj (w.heap.size + 1) (.loop { rec .ready none with state := .busy })).heap[w.heap.size + 1]? = some (.loop { rec .ready none with state := .busy }) := World.putObj_heap_same hlt2
      have hk3 : (W2.putObj (w.heap.size + 1) (.loop { rec .ready none with state := .busy })).heap[w.heap.size]? = some (.deferred (some [])) := (World.putObj_heap_other (by omega)).trans hk2
      have hput : ∀ (A : World) (o o' : Obj), A.heap[w.heap.size + 1]? = some o → o.isCells = false → ∀ (j : Nat) (q : Obj), A.heap[j]? = some q → OfList q → (A.putObj (w.heap.size + 1) o').heap[j]? = some q := fun A o o' hA ho j q hq hl => by
        by_cases hj : j = w.heap.size + 1
        · subst hj
          rw [hA] at hq
          cases hq
          exact absurd hl (not_list_of_not_cells ho)
        · exact (World.putObj_heap_other hj).trans hq
      refine wpIn_mono (hbody _ pre x _ _ hpx (hAp _ _ _ _ _ _ _ hax (by omega) hl2 rfl rfl) (hIp _ _ _ _ _ hi2 (by omega) hl2 rfl rfl)) ?_
      rintro e a3 W3 ⟨rfl, hi3, hkt3⟩
      have hl4 := hkt3.same _ _ hl3 (.inr rfl)
      have hk4 := hkt3.same _ _ hk3 (.inr rfl)
      have hlt4 : w.heap.size + 1 < W3.heap.size := (Array.getElem?_eq_some_iff.1 hl4).1
      have hend := run_endRound (P := P) none hl4
      refine ⟨_, _, hend, rfl, ⟨hIp _ _ _ _ _ hi3 (by omega) hl4 rfl rfl, ?_, (World.putObj_heap_other (by omega)).trans hk4⟩, ⟨?_, ?_⟩⟩
      · rw [World.putObj_heap_same hlt4, hrec]
        rfl
      · have h1 := hkt.size
        have h2 := hkt3.size
        simp at h2 ⊢
        omega
      · intro j o ho hlo
        have e1 := hkt.same j o ho (.inl hlo)
        exact hput W3 _ _ hl4 rfl j o (hkt3.same j o (hput W2 _ _ hl2 rfl j o e1 hlo) (.inl hlo)) hlo
    · rintro e W2 ⟨⟨v, rfl⟩, hi, hl, hk⟩
      have hend := run_endLoop (P := P) hl (by rw [hrec]; simp)
      rw [hrec] at hend
      refine ⟨none, _, hend, hdone _ _ (Nat.le_refl _) (hIp _ _ _ _ _ hi (by omega) hl rfl rfl) ((World.putObj_heap_other (by omega)).trans hk)⟩
end
end Dp
end Go.Proofs.YtopmodahdmnpjaaGreatDoor
