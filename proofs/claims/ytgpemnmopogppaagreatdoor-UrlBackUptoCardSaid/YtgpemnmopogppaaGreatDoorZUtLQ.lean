/- url: what a text under a name does to a list: plain functions, plain lemmas. -/
import Derived.Test.YtgpemnmopogppaaGreatDoorZUtH
import Derived.RangeFuncNested
import Derived.RangeFuncCalls
import Derived.RangeFuncLeaves
import Derived.Shelf.Abstract
import Derived.OwnWalkIn
import Derived.TacticsInMore
import Derived.LoopIn
import Derived.Test.YtgpemnmopogppaaGreatDoorZAppsQ
namespace Go.Proofs.YtgpemnmopogppaaGreatDoor
open Go Go.RowKit
namespace Ut
open Go.Proofs.YtgpemnmopogppaaGreatDoor.Nm (normG keyV norm_any)
open Go.Proofs.YtgpemnmopogppaaGreatDoor.Dp
/-- A list's items and its next number; of what is no list: none. -/
def kidsG : GV → List GI × Int
  | .mk k n _ l => if k = 4 then (l, n) else ([], 0)
/-- The list that stands under a key. -/
def subG (gs : List GI) (k : Key3) : List GI × Int :=
  if 0 ≤ findK (gs.map GI.keyG) k 0 then ((gs[(findK (gs.map GI.keyG) k 0).toNat]?).map fun it => kidsG it.val).getD ([], 0) else ([], 0)
def leafG (text : ByteArray) : GV := .mk 3 0 text []
/-- A text under a step and the steps behind it: none, if there is no room. -/
def putO : List ByteArray → ByteArray → Bool → ByteArray → List GI → Int → Option (List GI × Int)
  | [], step, head, text, gs, nx => (keyT step head nx).bind fun k => setG gs nx (giOf k (leafG text))
  | s :: r, step, head, text, gs, nx =>
    (putO r s false text (if step = ⟨#[]⟩ ∧ head = false then ([], 0) else subG gs (normG true 0 step)).1 (if step = ⟨#[]⟩ ∧ head = false then ([], 0) else subG gs (normG true 0 step)).2).bind fun p =>
      (keyT step head nx).bind fun k => setG gs nx (giOf k (.mk 4 p.2 ⟨#[]⟩ p.1))
/-- A text under a name, in a list. -/
def putV (head : ByteArray) (steps : List ByteArray) (text : ByteArray) (g : GV) : GV :=
  if head = ⟨#[]⟩ ∨ 64 ≤ steps.length then g else match putO steps head true text (kidsG g).1 (kidsG g).2 with
    | none => g
    | some p => if 0 ≤ leftV (.mk 4 p.2 ⟨#[]⟩ p.1) 2048 then .mk 4 p.2 ⟨#[]⟩ p.1 else g
/-! ### what is made may be made anew -/
theorem WfG.empty : WfG (.mk 4 0 ⟨#[]⟩ []) := .node 0 [] (Nat.zero_le _) rfl (fun i it h => by simp at h) (fun i it h => by simp at h)
theorem WfG.kids {nx : Int} {t : ByteArray} {gs : List GI} (h : WfG (.mk 4 nx t gs)) : t = ⟨#[]⟩ ∧ gs.length ≤ 2048 ∧ nx = (gs.map GI.keyG).foldl nextK 0 ∧ (∀ (i : Nat) (it : GI), gs[i]? = some it → KeyOK (GI.keyG it) ∧ normG (GI.keyG it).1 (GI.keyG it).2.1 (GI.keyG it).2.2 = GI.keyG it ∧ findK ((gs.take i).map GI.keyG) (GI.keyG it) 0 < 0) ∧ ∀ (i : Nat) (it : GI), gs[i]? = some it → WfG it.val := by
  cases h with
  | leaf _ _ _ hk => exact absurd rfl hk
  | node _ _ hlen hnx hkey hv => exact ⟨rfl, hlen, hnx, hkey, hv⟩
theorem WfG.sub {g : GV} (h : WfG g) : WfG (.mk 4 (kidsG g).2 ⟨#[]⟩ (kidsG g).1) := by
  cases h with
  | leaf k n t hk => rw [kidsG, if_neg hk]; exact .empty
  | node nx gs hlen hnx hkey hv => rw [kidsG, if_pos rfl]; exact .node nx gs hlen hnx hkey hv
theorem WfG.at_ {nx : Int} {t : ByteArray} {gs : List GI} (h : WfG (.mk 4 nx t gs)) (k : Key3) : WfG (.mk 4 (subG gs k).2 ⟨#[]⟩ (subG gs k).1) := by
  unfold subG
  split
  · cases hi : gs[(findK (gs.map GI.keyG) k 0).toNat]? with
    | none => exact .empty
    | some it => exact (h.kids.2.2.2.2 _ it hi).sub
  · exact .empty
theorem normG_idem (b : Bool) (i : Int) (s : ByteArray) : normG (normG b i s).1 (normG b i s).2.1 (normG b i s).2.2 = normG b i s := by
  have key : normG b i s = (true, 0, s) ∧ b = true ∨ ∃ n, normG b i s = (false, n, ⟨#[]⟩) := by
    unfold normG
    cases b
    · exact .inr ⟨i, rfl⟩
    · simp only [if_true]
      split
      · rename_i n _
        split
        · exact .inr ⟨n, rfl⟩
        · exact .inl ⟨rfl, trivial⟩
      · exact .inl ⟨rfl, trivial⟩
  rcases key with ⟨h, rfl⟩ | ⟨n, h⟩
  · have h2 : normG true 0 s = normG true i s := rfl
    rw [h]
    show normG true 0 s = _
    rw [h2, h]
  · rw [h]
    rfl
theorem WfG.set {nx nx' : Int} {gs gs' : List GI} {k : Key3} {v : GV} (h : WfG (.mk 4 nx ⟨#[]⟩ gs)) (hk : KeyOK k) (hv : WfG v) (hs : setG gs nx (giOf k v) = some (gs', nx')) : WfG (.mk 4 nx' ⟨#[]⟩ gs') := by
  obtain ⟨_, hlen, hnx, hkey, hw⟩ := h.kids
  have hN := normG_key k.1 k.2.1 k.2.2 hk.1 hk.2
  have hI := normG_idem k.1 k.2.1 k.2.2
  unfold setG at hs
  change (if 0 ≤ findK (gs.map GI.keyG) (normG k.1 k.2.1 k.2.2) 0 then some (gs.set (findK (gs.map GI.keyG) (normG k.1 k.2.1 k.2.2) 0).toNat (giOf (normG k.1 k.2.1 k.2.2) v), nx) else if 2048 ≤ gs.length then none else some (gs ++ [giOf (normG k.1 k.2.1 k.2.2) v], nextK nx (normG k.1 k.2.1 k.2.2))) = _ at hs
  generalize normG k.1 k.2.1 k.2.2 = m at *
  by_cases h0 : 0 ≤ findK (gs.map GI.keyG) m 0
  · rw [if_pos h0] at hs
    injection hs with hs
    injection hs with h1 h2
    subst h1 h2
    have hat := (findK_at (gs.map GI.keyG) m 0 (by omega) h0).2
    rw [Int.sub_zero, List.getElem?_map] at hat
    obtain ⟨it0, hit0, hm⟩ := Option.map_eq_some_iff.1 hat
    generalize (findK (gs.map GI.keyG) m 0).toNat = j at *
    have hjl := (List.getElem?_eq_some_iff.1 hit0).1
    have hkeys : (gs.set j (giOf m v)).map GI.keyG = gs.map GI.keyG := by
      rw [List.map_set]
      refine List.ext_getElem? fun i => ?_
      rw [List.getElem?_set]
      by_cases e : j = i
      · subst e
        rw [if_pos rfl, List.getElem?_map, hit0, giOf_key, ← hm]
        simp [hjl]
      · rw [if_neg e]
    have htk : ∀ i, ((gs.set j (giOf m v)).take i).map GI.keyG = (gs.take i).map GI.keyG := fun i => by rw [List.map_take, hkeys, ← List.map_take]
    refine .node nx _ (by simpa using hlen) (by rw [hkeys]; exact hnx) (fun i it hi => ?_) (fun i it hi => ?_)
    · have hk2 : (gs.map GI.keyG)[i]? = some (GI.keyG it) := by rw [← hkeys, List.getElem?_map, hi]; rfl
      rw [List.getElem?_map] at hk2
      obtain ⟨it2, hi2, he⟩ := Option.map_eq_some_iff.1 hk2
      rw [htk, ← he]
      exact hkey i it2 hi2
    · rw [List.getElem?_set] at hi
      by_cases e : j = i
      · rw [if_pos e] at hi
        rw [if_pos (e ▸ hjl)] at hi
        cases hi
        exact hv
      · rw [if_neg e] at hi
        exact hw i it hi
  · rw [if_neg h0] at hs
    by_cases h3 : 2048 ≤ gs.length
    · rw [if_pos h3] at hs
      cases hs
    · rw [if_neg h3] at hs
      injection hs with hs
      injection hs with h1 h2
      subst h1 h2
      refine .node _ _ (by simp; omega) (by rw [List.map_append, List.foldl_append, ← hnx]; rfl) (fun i it hi => ?_) (fun i it hi => ?_)
      · by_cases hl : i < gs.length
        · rw [List.getElem?_append_left hl] at hi
          rw [List.take_append_of_le_length (by omega)]
          exact hkey i it hi
        · rw [List.getElem?_append_right (by omega)] at hi
          have hi0 : i = gs.length := by
            have := (List.getElem?_eq_some_iff.1 hi).1
            simp at this
            omega
          subst hi0
          simp at hi
          subst hi
          rw [giOf_key, List.take_left]
          exact ⟨hN, hI, by omega⟩
      · by_cases hl : i < gs.length
        · rw [List.getElem?_append_left hl] at hi
          exact hw i it hi
        · rw [List.getElem?_append_right (by omega)] at hi
          have hi0 : i - gs.length = 0 := by
            have := (List.getElem?_eq_some_iff.1 hi).1
            simp at this
            omega
          rw [hi0] at hi
          simp at hi
          subst hi
          exact hv
theorem WfG.in64 {nx : Int} {t : ByteArray} {gs : List GI} (h : WfG (.mk 4 nx t gs)) : In64 nx := by
  obtain ⟨_, _, hnx, hkey, _⟩ := h.kids
  rw [hnx]
  refine fold_in64 _ _ ⟨by decide, by decide⟩ fun k hk => ?_
  obtain ⟨it, hit, rfl⟩ := List.mem_map.1 hk
  obtain ⟨i, hi⟩ := List.getElem?_of_mem hit
  exact (hkey i it hi).1
theorem keyT_ok {step : ByteArray} {head : Bool} {nx : Int} {k : Key3} (h : keyT step head nx = some k) (hs : step.size ≤ 140737488351232) (hn : In64 nx) : KeyOK k := by
  unfold keyT at h
  split at h
  · split at h
    · cases h
    · cases h
      exact ⟨hn, Nat.zero_le _⟩
  · cases h
    exact ⟨z64, hs⟩
theorem leaf_wf {text : ByteArray} (h : text.size ≤ 140737488351232) : WfG (leafG text) := .leaf 3 0 text (by decide) ⟨by decide, by decide⟩ ⟨by decide, by decide⟩ h
theorem putO_wf {text : ByteArray} (ht : text.size ≤ 140737488351232) : ∀ (r : List ByteArray) (step : ByteArray) (head : Bool) (gs : List GI) (nx : Int) (p : List GI × Int), (∀ s ∈ r, s.size ≤ 140737488351232) → step.size ≤ 140737488351232 → WfG (.mk 4 nx ⟨#[]⟩ gs) → putO r step head text gs nx = some p → WfG (.mk 4 p.2 ⟨#[]⟩ p.1)
  | [], step, head, gs, nx, p, _, hs, hw, h => by
    rw [putO] at h
    obtain ⟨k, hk, h⟩ := Option.bind_eq_some_iff.1 h
    exact hw.set (keyT_ok hk hs hw.in64) (leaf_wf ht) h
  | s :: r, step, head, gs, nx, p, hr, hs, hw, h => by
    rw [putO] at h
    obtain ⟨q, hq, h⟩ := Option.bind_eq_some_iff.1 h
    obtain ⟨k, hk, h⟩ := Option.bind_eq_some_iff.1 h
    refine hw.set (keyT_ok hk hs hw.in64) (putO_wf ht r s false _ _ q (fun s' h' => hr s' (List.mem_cons_of_mem _ h')) (hr s (List.mem_cons_self ..)) ?_ hq) h
    split
    · exact .empty
    · exact hw.at_ _
theorem putV_wf {head : ByteArray} {steps : List ByteArray} {text : ByteArray} {g : GV} (hg : WfG g) (hh : head.size ≤ 140737488351232) (hr : ∀ s ∈ steps, s.size ≤ 140737488351232) (ht : text.size ≤ 140737488351232) : WfG (putV head steps text g) := by
  unfold putV
  split
  · exact hg
  · cases hp : putO steps head true text (kidsG g).1 (kidsG g).2 with
    | none => exact hg
    | some p =>
      simp only
      split
      · exact putO_wf ht steps head true _ _ p hr hh hg.sub hp
      · exact hg
end Ut
end Go.Proofs.YtgpemnmopogppaaGreatDoor
/- url: a range over a list's All, for an iterator that writes its own list's blocks and a body that goes on to the end and may turn other blocks; All's function over lists of trees: the walk. -/
namespace Go.Proofs.YtgpemnmopogppaaGreatDoor
open Go Go.RowKit
namespace Ut
open Go.Proofs.YtgpemnmopogppaaGreatDoor.Dp
/-- What a round keeps: blocks of the kind Zq; whatever is no cells, from n on. -/
structure KZ (Zq : Nat → Obj → Prop) (n : Nat) (A B : World) : Prop where
  size : A.heap.size ≤ B.heap.size
  same : ∀ (j : Nat) (o : Obj), A.heap[j]? = some o → Zq j o ∨ (o.isCells = false ∧ n ≤ j) → B.heap[j]? = some o
/-- What a round keeps of blocks of the kind Zq. -/
structure KY (Zq : Nat → Obj → Prop) (A B : World) : Prop where
  size : A.heap.size ≤ B.heap.size
  same : ∀ (j : Nat) (o : Obj), A.heap[j]? = some o → Zq j o → B.heap[j]? = some o
theorem KZ.trans {Zq : Nat → Obj → Prop} {n : Nat} {A B C : World} (h : KZ Zq n A B) (k : KZ Zq n B C) : KZ Zq n A C := ⟨Nat.le_trans h.size k.size, fun j o ho hl => k.same j o (h.same j o ho hl) hl⟩
theorem KZ.below {Zq : Nat → Obj → Prop} {n : Nat} {A B : World} (h : Below A.heap.size A B) : KZ Zq n A B := ⟨h.size, fun j _o ho _ => (h.block j (Array.getElem?_eq_some_iff.1 ho).1).trans ho⟩
theorem KZ.keeps {Zq : Nat → Obj → Prop} {n : Nat} {S : Nat → Prop} {A B : World} (h : Keeps S A B) (h1 : ∀ j o, S j → A.heap[j]? = some o → ¬ Zq j o ∧ (o.isCells = true ∨ j < n)) : KZ Zq n A B :=
  ⟨h.size, fun j o ho hl => by
    by_cases hs : S j
    · obtain ⟨h2, h3⟩ := h1 j o hs ho
      rcases hl with hl | ⟨hl, hl2⟩
      · exact absurd hl h2
      · rcases h3 with h3 | h3
        · rw [hl] at h3; cases h3
        · omega
    · exact (h.block j (Array.getElem?_eq_some_iff.1 ho).1 hs).trans ho⟩
/-- A row of a list's items that no part of the list has. -/
def RowQ (CF : Nat → Prop) (j : Nat) (o : Obj) : Prop := (∃ cs fz, o = .cells cs 146 fz) ∧ ¬ CF j
theorem rowQ_cells {CF : Nat → Prop} (j : Nat) (o : Obj) (h : RowQ CF j o) : o.isCells = true := by
  obtain ⟨⟨cs, fz, rfl⟩, _⟩ := h
  rfl
theorem KY.row {CF : Nat → Prop} {A B : World} {base n : Nat} {sv : Value} {xs : List Value} (h : KY (RowQ CF) A B) (hc : ∀ g, sv.ownBlock = some g → ¬ CF g) (ho : A.ownsRow base 146 4 sv n xs) : B.ownsRow base 146 4 sv n xs := by
  refine ⟨ho.1, ?_⟩
  rcases ho.2 with h0 | ⟨g, cap, cur, e, hb, hg, r⟩
  · exact .inl h0
  · exact .inr ⟨g, cap, cur, e, hb, h.same g _ hg ⟨⟨cur, (0, 0), rfl⟩, hc g (by rw [e]; rfl)⟩, r⟩
def encT (p : PK) : Array Value := #[.agg #[.bool p.1.1, .int .i64 p.1.2.1, .string p.1.2.2], .pointer (some ⟨p.2, 0, none⟩)]
section
variable {α : Type} {P : Program} {b n : Nat} {g : Operand} {ps : Array Tmp} {assign body : Code} {Q : Exit → Act → World → Prop} {a : Act} {w : World} {gf : Nat} {lb : Array Value} {encs : α → Array Value} {xs : List α}
theorem range_Z {Zq : Nat → Obj → Prop} (hZ : ∀ j o, Zq j o → o.isCells = true) (hbw : b < w.heap.size) (hg : a.eval g = .func (.func gf) #[] lb) (eg : ∀ args w, (callFunc gf args).run P w = .ok (.enter gf args) w) (hps : ∀ x, (encs x).size = ps.size)
    (hseq : ∀ (l : Nat) (J : List α → World → Prop) (W : World), Below w.heap.size w W → (∀ pre A B, J pre A → Keeps (fun j => j = b) A B → J pre B) →
      (∀ pre x W1, J pre W1 → pre ++ [x] <+: xs → YieldAt Fence.wide (n - 1 - 1) P l (encs x) W1 fun e W' => e = .returned (.bool true) ∧ J (pre ++ [x]) W' ∧ KY Zq W1 W') → J [] W →
      CallsIn Fence.wide (n - 1) P gf (#[.func (.yield l) #[] #[]] ++ lb) W fun e W' => (∃ v, e = .returned v) ∧ J xs W')
    (I : List α → World → Prop) (Ax : List α → α → Act → World → Prop) (hI : ∀ pre A B, I pre A → Keeps (fun j => j = b) A B → I pre B)
    (hIp : ∀ pre A l o o', I pre A → w.heap.size ≤ l → A.heap[l]? = some o → o.isCells = false → o'.isCells = false → I pre (A.putObj l o'))
    (hAp : ∀ pre x a' A l o o', Ax pre x a' A → w.heap.size ≤ l → A.heap[l]? = some o → o.isCells = false → o'.isCells = false → Ax pre x a' (A.putObj l o')) (h0 : I [] w)
    (hassign : ∀ (l : Nat) (pre : List α) (x : α) (W : World) (K : Act → World → Prop), pre ++ [x] <+: xs → I pre W → (∀ a' W', Ax pre x a' W' → I pre W' → KZ Zq w.heap.size W W' → K a' W') →
      assign.wpIn (Fence.wide.inRound l) (n - 1 - 1) P (Exit.then K (fun _ _ _ => False)) { tmps := (ps.zip (encs x)).foldl (fun t (p, v) => t.setIfInBounds p v) a.tmps, defers := [] } W)
    (hbody : ∀ (l : Nat) (pre : List α) (x : α) (a' : Act) (W : World), pre ++ [x] <+: xs → Ax pre x a' W → I pre W → body.wpIn (Fence.wide.inRound l) (n - 1 - 1) P (fun e _ W' => e = .normal ∧ I (pre ++ [x]) W' ∧ KZ Zq w.heap.size W W') a' W)
    (hdone : ∀ (D : Nat) (W : World), w.heap.size ≤ D → I xs W → W.heap[D]? = some (.deferred (some [])) → Q .normal { a with defers := { target := .collected D, args := #[] } :: a.defers } W) :
    (Code.rangeFunc g ps assign body).wpIn Fence.wide n P Q a w := by
  refine wpIn_rangeFunc ?_
  intro fn hfn
  obtain ⟨rec, hrec⟩ : ∃ rec : LoopState → Option Code → Loop, rec = fun st pe => { state := st, pending := pe, fn, tmps := a.tmps, params := ps, assign, body, defers := w.heap.size } := ⟨_, rfl⟩
  obtain ⟨W1, hW1⟩ : ∃ W1, (w.alloc (.deferred (some []))).alloc (.loop (rec .ready none)) = W1 := ⟨_, rfl⟩
  have hL1 : W1.heap[w.heap.size + 1]? = some (.loop (rec .ready none)) := by
    rw [← hW1]
    have := World.alloc_heap_new (w.alloc (.deferred (some []))) (.loop (rec .ready none))
    rwa [World.size_alloc] at this
  have hK1 : W1.heap[w.heap.size]? = some (.deferred (some [])) := by
    rw [← hW1]
    exact (Below.heap_alloc _ _ _ (by simp)).trans (World.alloc_heap_new w _)
  have hb1 : Below w.heap.size w W1 := by
    rw [← hW1]
    exact ((Below.refl _ w).alloc (Nat.le_refl _) _).alloc (by simp) _
  refine ⟨w.heap.size + 1, [{ target := .collected w.heap.size, args := #[] }], W1, { target := .fn (.func gf) lb, args := #[.func (.yield (w.heap.size + 1)) #[] #[]] }, W1, gf,
    #[.func (.yield (w.heap.size + 1)) #[] #[]] ++ lb, W1, ?_, ?_, fun f' hf' => trivial, ?_, fun h => by simp [Fence.wide] at h, ?_⟩
  · rw [← hW1, hrec]
    exact run_enterLoop_outer _ _ _ _ _
  · simp only [resolve, hg]
    simp [go_sem]
  · simp [invoke, go_sem, eg]
  · refine (hseq (w.heap.size + 1) (fun pre W => I pre W ∧ W.heap[w.heap.size + 1]? = some (.loop (rec .ready none)) ∧ W.heap[w.heap.size]? = some (.deferred (some []))) W1 hb1 (fun pre A B hs hk => ⟨hI pre A B hs.1 hk, (hk.block _ (Array.getElem?_eq_some_iff.1 hs.2.1).1 (by omega)).trans hs.2.1, (hk.block _ (Array.getElem?_eq_some_iff.1 hs.2.2).1 (by omega)).trans hs.2.2⟩) ?_ ⟨hI _ _ _ h0 (Keeps.of_below hb1), hL1, hK1⟩).mono ?_
    · rintro pre x W ⟨hi, hl, hk⟩ hpx
      have hlt : w.heap.size + 1 < W.heap.size := (Array.getElem?_eq_some_iff.1 hl).1
      have hy := run_yield (P := P) (args := encs x) hl (by rw [hrec]; exact hps x)
      rw [hrec] at hy
      refine ⟨fn, _, assign, body, hy, roundIn_of_wpIn hfn (hassign _ pre x W _ hpx hi (fun a' W2 hax hi2 hkt => ?_))⟩
      have hl2 := hkt.same _ _ hl (.inr ⟨rfl, by omega⟩)
      have hk2 := hkt.same _ _ hk (.inr ⟨rfl, by omega⟩)
      have hlt2 : w.heap.size + 1 < W2.heap.size := (Array.getElem?_eq_some_iff.1 hl2).1
      refine ⟨_, run_beginRound hl2 (by rw [hrec]), ?_⟩
      have hl3 : (W2.putObj (w.heap.size + 1) (.loop { rec .ready none with state := .busy })).heap[w.heap.size + 1]? = some (.loop { rec .ready none with state := .busy }) := World.putObj_heap_same hlt2
      have hk3 : (W2.putObj (w.heap.size + 1) (.loop { rec .ready none with state := .busy })).heap[w.heap.size]? = some (.deferred (some [])) := (World.putObj_heap_other (by omega)).trans hk2
      have hput : ∀ (A : World) (o o' : Obj), A.heap[w.heap.size + 1]? = some o → o.isCells = false → ∀ (j : Nat) (q : Obj), A.heap[j]? = some q → Zq j q → (A.putObj (w.heap.size + 1) o').heap[j]? = some q := fun A o o' hA ho j q hq hl => by
        by_cases hj : j = w.heap.size + 1
        · subst hj
          rw [hA] at hq
          cases hq
          exact absurd (hZ _ _ hl) (by rw [ho]; simp)
        · exact (World.putObj_heap_other hj).trans hq
      refine wpIn_mono (hbody _ pre x _ _ hpx (hAp _ _ _ _ _ _ _ hax (by omega) hl2 rfl rfl) (hIp _ _ _ _ _ hi2 (by omega) hl2 rfl rfl)) ?_
      rintro e a3 W3 ⟨rfl, hi3, hkt3⟩
      have hl4 := hkt3.same _ _ hl3 (.inr ⟨rfl, by omega⟩)
      have hk4 := hkt3.same _ _ hk3 (.inr ⟨rfl, by omega⟩)
      have hlt4 : w.heap.size + 1 < W3.heap.size := (Array.getElem?_eq_some_iff.1 hl4).1
      have hend := run_endRound (P := P) none hl4
      refine ⟨_, _, hend, rfl, ⟨hIp _ _ _ _ _ hi3 (by omega) hl4 rfl rfl, ?_, (World.putObj_heap_other (by omega)).trans hk4⟩, ⟨?_, ?_⟩⟩
      · rw [World.putObj_heap_same hlt4, hrec]
        rfl
      · have h1 := hkt.size
        have h2 := hkt3.size
        simp at h2 ⊢
        omega
      · intro j o ho hlo
        have e1 := hkt.same j o ho (.inl hlo)
        exact hput W3 _ _ hl4 rfl j o (hkt3.same j o (hput W2 _ _ hl2 rfl j o e1 hlo) (.inl hlo)) hlo
    · rintro e W2 ⟨⟨v, rfl⟩, hi, hl, hk⟩
      have hend := run_endLoop (P := P) hl (by rw [hrec]; simp)
      rw [hrec] at hend
      refine ⟨none, _, hend, hdone _ _ (Nat.le_refl _) (hIp _ _ _ _ _ hi (by omega) hl rfl rfl) ((World.putObj_heap_other (by omega)).trans hk)⟩
end
section
set_option maxRecDepth 100000 in
set_option maxHeartbeats 2000000 in
theorem all1_in {bx b mb l : Nat} {sv : Value} {ps : List PK} {nx : Int} {CF : Nat → Prop} (hn : ps.length ≤ 2048) (hCF : ∀ g, sv.ownBlock = some g → ¬ CF g) (J : List PK → World → Prop) (W : World) (hbx : W.cell? ⟨bx, 0, none⟩ = some (.pointer (some ⟨b, 0, none⟩))) (hL : LstP W b mb false sv ps nx)
    (hJ : ∀ pre A B, J pre A → Keeps (fun j => j = b) A B → J pre B) (hY : ∀ pre x W1, J pre W1 → pre ++ [x] <+: ps → YieldAt Fence.wide 4 Tryz.prog l (encT x) W1 fun e W' => e = .returned (.bool true) ∧ J (pre ++ [x]) W' ∧ KY (RowQ CF) W1 W') (h0 : J [] W) :
    CallsIn Fence.wide 5 Tryz.prog 144 #[.func (.yield l) #[] #[], .pointer (some ⟨bx, 0, none⟩)] W fun e W' => (∃ v, e = .returned v) ∧ J ps W' := by
  obtain ⟨A, c, rfl⟩ := hL.form
  obtain ⟨W2, hW2⟩ : ∃ z, Hid (z = (W.setCell ⟨b, 1, none⟩ (.bool true)).alloc (.cells #[.bool true, .bool true, .slice A ps.length c, .map (some mb), .int .i64 nx] 144)) := ⟨_, rfl⟩
  have HK := Lib.hid (ok_any W b hL.cells.1)
  have HC : Hid (Calls Tryz.prog 145 #[.pointer (some ⟨b, 0, none⟩)] W fun e w' => e = .returned (.pointer (some ⟨W.heap.size, 0, none⟩)) ∧ w' = W2) := by
    show Calls _ _ _ _ _
    rw [hW2.out]
    exact copy_any hL
  have hbl := hL.blk.lt
  have HW2 : Hid (Blk W2 W.heap.size 144 #[.bool true, .bool true, .slice A ps.length c, .map (some mb), .int .i64 nx]) := by
    show Blk _ _ _ _
    rw [hW2.out]
    have := Blk.new (W.setCell ⟨b, 1, none⟩ (.bool true)) 144 #[.bool true, .bool true, .slice A ps.length c, .map (some mb), .int .i64 nx]
    simpa using this
  have HO2 : Hid (W2.ownsRow 0 146 4 (.slice A ps.length c) ps.length (rowP ps)) := by
    show World.ownsRow _ _ _ _ _ _ _
    rw [hW2.out]
    exact (row_keep hL.owns (set_keepsP W b 1 (.bool true)) (fun gg e e2 => row_ne hL.owns hL.blk (by decide) (by rw [← e2, e]))).alloc _
  have HJ2 : Hid (J [] W2) := by
    show J _ _
    rw [hW2.out]
    exact hJ _ _ _ h0 ((set_keepsP W b 1 _).trans (Keeps.of_below ((Below.refl _ _).alloc (Nat.le_refl _) _)))
  have HCF := Lib.hid hCF
  have HJ := Lib.hid hJ
  have HY := Lib.hid hY
  clear hW2 hL hJ hY h0 hCF
  have q2 : W2.cell? ⟨W.heap.size, 2, none⟩ = some (.slice A ps.length c) := HW2.out.cell 2
  refine callsIn_of_wp Tryz.func144 rfl trivial ?_ rfl
  simp only [Tryz.ntmps144, List.size_toArray, List.length_cons, List.length_nil, Nat.reduceAdd, Nat.reduceSub, Array.replicate_succ, Array.replicate_zero, List.push_toArray, List.append_toArray, List.nil_append, List.cons_append]
  gi_wp2_with (first
    | (refine ⟨trivial, ?_⟩; gi_at_call 113; refine (callsIn_wide.2 HK.out).mono ?_; rintro e w' ⟨rfl, he⟩; subst he)
    | (refine ⟨trivial, ?_⟩; gi_at_call 145; refine (callsIn_wide.2 HC.out).mono ?_; rintro e w' ⟨rfl, rfl⟩))
  gi_loopw [16] (fun xi wr => ∃ j : Nat, j ≤ ps.length ∧ xi = .int .i64 j ∧ Hid (J (ps.take j) wr) ∧ Hid (wr.ownsRow 0 146 4 (.slice A ps.length c) ps.length (rowP ps))) (fun xi _ => ps.length - (ixOf xi).toNat)
  case atStart => exact ⟨0, Nat.zero_le _, rfl, HJ2, HO2⟩
  case round =>
    obtain ⟨j, hj, rfl, HJr, HOr⟩ := hrel
    clear HJ2 HO2
    by_cases hlt : j < ps.length
    · obtain ⟨p, hp⟩ : ∃ p, ps[j]? = some p := ⟨_, List.getElem?_eq_getElem hlt⟩
      obtain ⟨g, cap, hv, hbg, hgl⟩ := HOr.out.form (by omega)
      injection hv with e1 _ e3
      subst e1 e3
      have hTk : ps.take (j + 1) = ps.take j ++ [p] := by rw [List.take_add_one, hp]; rfl
      have hc : ∀ r, r < 4 → ∀ u, (PK.cells p)[r]? = some u → wr.cell? ⟨g, j * 4 + r, none⟩ = some u := fun r hr u hu => addr_add0 (HOr.out.cells (g := g) rfl (j * 4 + r) u ((rowP_get ps j p hp r hr).trans hu))
      have s0 : wr.cell? ⟨g, j * 4, none⟩ = some (.bool p.1.1) := hc 0 (by decide) _ rfl
      have s1 := hc 1 (by decide) _ rfl
      have s2 := hc 2 (by decide) _ rfl
      have s3 := hc 3 (by decide) _ rfl
      have hal := (Below.refl wr.heap.size wr).alloc (Nat.le_refl _) (.cells #[.bool p.1.1, .int .i64 p.1.2.1, .string p.1.2.2, .pointer (some ⟨p.2, 0, none⟩)] 146)
      obtain ⟨fn, tmps, assign, body, hy, hR⟩ := HY.out (ps.take j) p _ (HJ.out _ _ _ HJr.out (Keeps.of_below hal)) (by rw [← hTk]; exact List.take_prefix _ _)
      dsimp only [encT] at hy
      have HOi := Lib.hid (own_below HOr.out hal)
      have HR := Lib.hid hR
      have hIx : (j : Int) < (ps.length : Int) := by omega
      clear hR hal hc HJr HOr
      gi_wp2
      refine HR.out.mono ?_
      rintro e W3 ⟨rfl, hJ3, hk3⟩
      have HJ3 : Hid (J (ps.take (j + 1)) W3) := by
        show J _ _
        rw [hTk]
        exact hJ3
      have HO3 := Lib.hid (hk3.row HCF.out HOi.out)
      clear hJ3 hk3 HOi HR hy hTk s0 s1 s2 s3
      gi_wp2
      go_roundw
      case rel => exact ⟨j + 1, by omega, by go_num, HJ3, HO3⟩
      case measure => simp [ixOf] <;> omega
    · obtain rfl : j = ps.length := by omega
      have HJe := HJr
      rw [List.take_length] at HJe
      gi_wp2
      go_end0
      exact ⟨⟨_, rfl⟩, HJe.out⟩
end
end Ut
end Go.Proofs.YtgpemnmopogppaaGreatDoor
/- lists: what a put of an object that is no cells keeps: plain lemmas. -/
namespace Go.Proofs.YtgpemnmopogppaaGreatDoor
open Go Go.RowKit
namespace Dp
theorem cell_put {A : World} {l : Nat} {o o' : Obj} (h : A.heap[l]? = some o) (ho : o.isCells = false) (ho' : o'.isCells = false) (q : Addr) : (A.putObj l o').cell? q = A.cell? q := by
  by_cases hq : q.block = l
  · have hlt := (Array.getElem?_eq_some_iff.1 h).1
    have h2 := World.putObj_heap_same (o := o') hlt
    unfold World.cell?
    rw [hq, h, h2]
    cases o <;> cases o' <;> first | rfl | (exfalso; revert ho'; simp [Obj.isCells]; done) | (exfalso; revert ho; simp [Obj.isCells]; done)
  · exact World.cell?_of_block (World.putObj_heap_other hq)
theorem blk_put {A : World} {l g : Nat} {t : TypeId} {cs : Array Value} {o : Obj} (hb : Blk A g t cs) (h : A.heap[l]? = some o) (ho : o.isCells = false) (o' : Obj) : Blk (A.putObj l o') g t cs := by
  refine (World.putObj_heap_other (fun e => ?_)).trans hb
  subst e
  unfold Blk at hb
  rw [hb] at h
  cases h
  cases ho
theorem row_put {A : World} {l base : Nat} {sv : Value} {ps : List PI} {o o' : Obj} (hr : RowSt base A sv ps) (h : A.heap[l]? = some o) (ho : o.isCells = false) (ho' : o'.isCells = false) : RowSt base (A.putObj l o') sv ps :=
  ⟨ownsRow_putObj hr.owns o' h ho, fun p hp => (hr.vals p hp).keep (fun b hb => ⟨hb.1, by simpa using hb.2.1, hb.2.2⟩) fun q _ => cell_put h ho ho' q⟩
end Dp
end Go.Proofs.YtgpemnmopogppaaGreatDoor
/- url: tree.value: what its steps keep: plain lemmas on memory. -/
namespace Go.Proofs.YtgpemnmopogppaaGreatDoor
open Go Go.RowKit
namespace Ut
open Go.Proofs.YtgpemnmopogppaaGreatDoor.Dp
theorem row_keepsS {A B : World} {S : Nat → Prop} {base : Nat} {sv : Value} {ps : List PI} (hr : RowSt base A sv ps) (hk : Keeps S A B) (hb : ∀ j, S j → j < base) : RowSt base B sv ps :=
  ⟨row_keep hr.owns hk (fun g e hs => by have h1 := (hr.owns.lt g e).1; have h2 := hb g hs; omega), fun p hp => (hr.vals p hp).keep (fun j hj => ⟨hj.1, Nat.lt_of_lt_of_le hj.2.1 hk.size, hj.2.2⟩) fun q hq => hk.cell hq.2.1 (fun hs => by have h1 := hq.1; have h2 := hb _ hs; omega)⟩
theorem keeps_new {F S : Nat → Prop} {w0 A B : World} (h : Keeps F w0 A) (k : Keeps S A B) (hs : ∀ j, S j → F j ∨ w0.heap.size ≤ j) : Keeps F w0 B :=
  ⟨k.os.trans h.os, k.tape.trans h.tape, k.output.trans h.output, Nat.le_trans h.size k.size, fun i hi hn => (k.block i (Nat.lt_of_lt_of_le hi h.size) fun h1 => (hs i h1).elim hn (fun h2 => by omega)).trans (h.block i hi hn)⟩
theorem keeps_put {A : World} {l : Nat} (o' : Obj) : Keeps (fun j => j = l) A (A.putObj l o') := Keeps.of_grown (grownBy_putObj' A l o') fun g e => by injection e with e; exact e.symm
/-- The state of the walk's value: its box and its items, the answer's box, the trees that are still to be told. -/
structure ValSt (w0 : World) (F : Nat → Prop) (G : Nat → Nat → Prop) (ts : List TS) (vb : Nat) (nx : Int) (n : Nat) (W : World) : Prop where
  ex : ∃ sv qs, qs.map PI.it = (ts.take n).map TS.gi ∧ RowSt (vb + 1) W sv qs ∧ Blk W vb 25 #[.int .i64 4, .int .i64 nx, .string ⟨#[]⟩, sv]
  kp : Keeps F w0 W
  res : Blk W w0.heap.size 25 #[.int .i64 0, .int .i64 0, .string ⟨#[]⟩, .slice none 0 0]
  rest : ∀ i x, n ≤ i → ts[i]? = some x → TreeAt W (G i) x.2.1 x.2.2
section
variable {w0 A B : World} {F : Nat → Prop} {G : Nat → Nat → Prop} {ts : List TS} {vb n : Nat} {nx : Int}
theorem ValSt.keepsS {S : Nat → Prop} (h : ValSt w0 F G ts vb nx n A) (hk : Keeps S A B) (hvb : w0.heap.size < vb) (h1 : ∀ j, S j → (F j ∧ j < w0.heap.size) ∨ vb < j ∧ False) (h2 : ∀ i j, i < ts.length → G i j → ¬ S j) : ValSt w0 F G ts vb nx n B := by
  obtain ⟨⟨sv, qs, hq, hr, hb⟩, hkp, hres, hrest⟩ := h
  have h3 : ∀ j, S j → j < w0.heap.size := fun j hj => (h1 j hj).elim (·.2) (fun h => h.2.elim)
  exact ⟨⟨sv, qs, hq, row_keepsS hr hk (fun j hj => by have := h3 j hj; omega), hb.keeps hk (fun hs => by have := h3 _ hs; omega)⟩, hkp.trans (hk.mono fun j _ hj => ((h1 j hj).elim (·.1) (fun h => h.2.elim))),
    hres.keeps hk (fun hs => Nat.lt_irrefl _ (h3 _ hs)), fun i x hi hx => (hrest i x hi hx).keeps hk fun j hj => h2 i j (List.getElem?_eq_some_iff.1 hx).1 hj⟩
theorem ValSt.put {l : Nat} {o o' : Obj} (h : ValSt w0 F G ts vb nx n A) (hF : ∀ i j, i < ts.length → G i j → j < w0.heap.size) (hl : A.heap[l]? = some o) (ho : o.isCells = false) (ho' : o'.isCells = false) (hw : w0.heap.size ≤ l) : ValSt w0 F G ts vb nx n (A.putObj l o') := by
  obtain ⟨⟨sv, qs, hq, hr, hb⟩, hkp, hres, hrest⟩ := h
  exact ⟨⟨sv, qs, hq, row_put hr hl ho ho', blk_put hb hl ho o'⟩, keeps_new hkp (keeps_put o') fun j e => by rw [e]; exact .inr hw, blk_put hres hl ho o',
    fun i x hi hx => (hrest i x hi hx).keeps (keeps_put o') fun j hj e => by have := hF i j (List.getElem?_eq_some_iff.1 hx).1 hj; omega⟩
theorem ValSt.under (h : ValSt w0 F G ts vb nx n A) (hb : Below A.heap.size A B) : ValSt w0 F G ts vb nx n B := by
  obtain ⟨⟨sv, qs, hq, hr, hbl⟩, hkp, hres, hrest⟩ := h
  exact ⟨⟨sv, qs, hq, hr.below hb, blk_below hbl hb⟩, hkp.trans (Keeps.of_below hb), blk_below hres hb, fun i x hi hx => (hrest i x hi hx).under hb⟩
end
/-- A round's end. -/
theorem roundV_fin {w0 W Wp w7 W9 : World} {F CF : Nat → Prop} {G : Nat → Nat → Prop} {ts : List TS} {vb g cap n m : Nat} {nx : Int} {sv : Value} {qs : List PI} {x : TS} {x' : PI} {zs : List Value}
    (hFl : ∀ j, F j → j < w0.heap.size) (hG : ∀ i j, i < ts.length → G i j → F j) (hd : ∀ i i' j, i < ts.length → i' < ts.length → G i j → G i' j → i = i') (hCF : ∀ i j, i < ts.length → G i j → CF j) (hm : w0.heap.size ≤ m)
    (hq : qs.map PI.it = (ts.take n).map TS.gi) (hts : ts[n]? = some x) (hx : x'.it = x.gi) (hr : RowSt (vb + 1) W sv qs) (hBv : Blk W vb 25 #[.int .i64 4, .int .i64 nx, .string ⟨#[]⟩, sv]) (hkp : Keeps F w0 W)
    (hres : Blk W w0.heap.size 25 #[.int .i64 0, .int .i64 0, .string ⟨#[]⟩, .slice none 0 0]) (hrest : ∀ i x, n ≤ i → ts[i]? = some x → TreeAt W (G i) x.2.1 x.2.2) (hvb : w0.heap.size < vb) (hb : Keeps (G n) W Wp) (hv : VIn Wp (fun b => W.heap.size ≤ b ∧ b < Wp.heap.size) x'.gv x'.val)
    (hown : w7.ownsRow (vb + 1) 39 7 (.slice (some ⟨g, 0, none⟩) (qs.length + 1) cap) (qs.length + 1) (rowC qs ++ zs)) (hg : Wp.grownBy w7 sv.ownBlock) (hor : some g = sv.ownBlock ∨ some g = some Wp.heap.size)
    (h9 : Keeps (fun j => j = g ∨ j = vb) w7 W9) (ho9 : W9.ownsRow (vb + 1) 39 7 (.slice (some ⟨g, 0, none⟩) (qs.length + 1) cap) (qs.length + 1) (rowC qs ++ x'.cells))
    (hb9 : Blk W9 vb 25 #[.int .i64 4, .int .i64 nx, .string ⟨#[]⟩, .slice (some ⟨g, 0, none⟩) (qs.length + 1) cap]) (hcur : ∃ cur, Blk w7 g 39 cur) : ValSt w0 F G ts vb nx (n + 1) W9 ∧ KZ (RowQ CF) m W W9 := by
  have hn := (List.getElem?_eq_some_iff.1 hts).1
  have hGl : ∀ i j, i < ts.length → G i j → j < w0.heap.size := fun i j hi hj => hFl j (hG i j hi hj)
  have hvl := hBv.lt
  have hws := hkp.size
  have hwp := hb.size
  have hw7 := hg.size
  have hw9 := h9.size
  have hgw := hown.lt g rfl
  have hr0 : RowSt (vb + 1) Wp sv qs := row_keepsS hr hb (fun j hj => by have := hGl n j hn hj; omega)
  have hown0 : Wp.ownsRow (vb + 1) 39 7 sv qs.length (rowC qs) := hr0.owns
  have hge : ∀ j, some j = sv.ownBlock → vb + 1 ≤ j ∧ j < W.heap.size := fun j e => hr.owns.lt j e.symm
  have hgne : ∀ j, j < Wp.heap.size → some j ≠ sv.ownBlock → j ≠ g := fun j hj hn e => by
    subst e
    rcases hor with h | h
    · exact hn h
    · injection h with h
      omega
  have hBp : Blk Wp vb 25 #[.int .i64 4, .int .i64 nx, .string ⟨#[]⟩, sv] := hBv.keeps hb (fun hs => by have := hGl n _ hn hs; omega)
  have hB7 : Blk w7 vb 25 #[.int .i64 4, .int .i64 nx, .string ⟨#[]⟩, sv] := hBp.grown hg (fun e => by have := (hge _ e).1; omega)
  have hg7 : Keeps (fun j => some j = sv.ownBlock) Wp w7 := Keeps.of_grown hg fun g e => e.symm
  obtain ⟨cur, hcur⟩ := hcur
  have hK1 : KZ (RowQ CF) m W Wp := KZ.keeps hb fun j o hj _ => ⟨fun hq => hq.2 (hCF n j hn hj), .inr (by have := hGl n j hn hj; omega)⟩
  have hK2 : KZ (RowQ CF) m Wp w7 := KZ.keeps hg7 fun j o hj ho => by
    rcases hown0.2 with ⟨e, _⟩ | ⟨g', cap', cur', e, _, hb', _⟩
    · rw [e] at hj
      simp [Value.ownBlock] at hj
    · rw [e] at hj
      simp only [Value.ownBlock, Option.some.injEq] at hj
      subst hj
      rw [hb'] at ho
      cases ho
      refine ⟨fun hq => ?_, .inl rfl⟩
      obtain ⟨⟨cs, fz, e2⟩, _⟩ := hq
      injection e2 with _ e3
      exact absurd e3 (by decide)
  have hK3 : KZ (RowQ CF) m w7 W9 := KZ.keeps h9 fun j o hj ho => by
    rcases hj with rfl | rfl
    · unfold Blk at hcur
      rw [hcur] at ho
      cases ho
      refine ⟨fun hq => ?_, .inl rfl⟩
      obtain ⟨⟨cs, fz, e2⟩, _⟩ := hq
      injection e2 with _ e3
      exact absurd e3 (by decide)
    · unfold Blk at hB7
      rw [hB7] at ho
      cases ho
      refine ⟨fun hq => ?_, .inl rfl⟩
      obtain ⟨⟨cs, fz, e2⟩, _⟩ := hq
      injection e2 with _ e3
      exact absurd e3 (by decide)
  refine ⟨⟨⟨_, qs ++ [x'], by rw [List.map_append, hq, List.take_add_one, hts]; simp [hx], ⟨by rw [List.length_append, rowC_app]; exact ho9, fun q hqm => ?_⟩, hb9⟩, ?_, ?_, ?_⟩, (hK1.trans hK2).trans hK3⟩
  · rcases List.mem_append.1 hqm with hqm | hqm
    · refine (hr0.vals q hqm).keep (fun b hS => ⟨hS.1, by omega, fun e => hgne b (by omega) hS.2.2 (by simpa [Value.ownBlock] using e)⟩) fun a ha => ?_
      have h1 : a.block ≠ g := hgne a.block (by omega) ha.2.2
      have h2 := ha.1
      exact (h9.cell (by omega) (by omega)).trans (World.cell?_of_block (hg.block a.block (by omega) ha.2.2))
    · have e : q = x' := by simpa using hqm
      subst e
      have hno : ∀ b, W.heap.size ≤ b → some b ≠ sv.ownBlock := fun b hb e => by have := (hge b e).2; omega
      refine hv.keep (fun b hS => ⟨by omega, by omega, fun e => hgne b hS.2 (hno b hS.1) (by simpa [Value.ownBlock] using e)⟩) fun a ha => ?_
      have h1 : a.block ≠ g := hgne a.block ha.2 (hno _ ha.1)
      have h2 := ha.1
      exact (h9.cell (by omega) (by omega)).trans (World.cell?_of_block (hg.block a.block ha.2 (hno _ ha.1)))
  · have k1 : Keeps F w0 Wp := hkp.trans (hb.mono fun j _ hj => hG n j hn hj)
    have k2 : Keeps F w0 w7 := keeps_new k1 hg7 fun j e => .inr (by have := (hge j e).1; omega)
    exact keeps_new k2 h9 fun j e => .inr (by rcases e with rfl | rfl <;> omega)
  · have r1 := hres.keeps hb (fun hs => by have := hGl n _ hn hs; omega)
    exact (r1.grown hg (fun e => by have := (hge _ e).1; omega)).keeps h9 (fun e => by rcases e with e | e <;> omega)
  · intro i y hi hy
    have hil := (List.getElem?_eq_some_iff.1 hy).1
    have h1 := (hrest i y (by omega) hy).keeps hb fun j hj hs => by have := hd i n j hil hn hj hs; omega
    have h2 := h1.keeps hg7 fun j hj e => by have h3 := (hge j e).1; have h4 := hGl i j hil hj; omega
    exact h2.keeps h9 fun j hj e => by have h4 := hGl i j hil hj; rcases e with rfl | rfl <;> omega
theorem roundV_end {w0 W Wp w7 : World} {F CF : Nat → Prop} {G : Nat → Nat → Prop} {ts : List TS} {vb g cap n m : Nat} {nx : Int} {sv : Value} {qs : List PI} {x : TS} {x' : PI} {zs : List Value}
    (hFl : ∀ j, F j → j < w0.heap.size) (hG : ∀ i j, i < ts.length → G i j → F j) (hd : ∀ i i' j, i < ts.length → i' < ts.length → G i j → G i' j → i = i') (hCF : ∀ i j, i < ts.length → G i j → CF j) (hm : w0.heap.size ≤ m)
    (hq : qs.map PI.it = (ts.take n).map TS.gi) (hts : ts[n]? = some x) (hx : x'.it = x.gi) (hr : RowSt (vb + 1) W sv qs) (hBv : Blk W vb 25 #[.int .i64 4, .int .i64 nx, .string ⟨#[]⟩, sv]) (hkp : Keeps F w0 W)
    (hres : Blk W w0.heap.size 25 #[.int .i64 0, .int .i64 0, .string ⟨#[]⟩, .slice none 0 0]) (hrest : ∀ i x, n ≤ i → ts[i]? = some x → TreeAt W (G i) x.2.1 x.2.2) (hvb : w0.heap.size < vb) (hb : Keeps (G n) W Wp) (hv : VIn Wp (fun b => W.heap.size ≤ b ∧ b < Wp.heap.size) x'.gv x'.val)
    (hown : w7.ownsRow (vb + 1) 39 7 (.slice (some ⟨g, 0, none⟩) (qs.length + 1) cap) (qs.length + 1) (rowC qs ++ zs)) (hz : zs.length = 7) (hg : Wp.grownBy w7 sv.ownBlock) (hor : some g = sv.ownBlock ∨ some g = some Wp.heap.size) :
    (ValSt w0 F G ts vb nx (n + 1) ((fill7 w7 g (qs.length * 7) x').setCell ⟨vb, 3, none⟩ (.slice (some ⟨g, 0, none⟩) (qs.length + 1) cap)) ∧ KZ (RowQ CF) m W ((fill7 w7 g (qs.length * 7) x').setCell ⟨vb, 3, none⟩ (.slice (some ⟨g, 0, none⟩) (qs.length + 1) cap)))
    ∧ (ValSt w0 F G ts vb nx (n + 1) (fill7 (w7.setCell ⟨vb, 3, none⟩ (.slice (some ⟨g, 0, none⟩) (qs.length + 1) cap)) g (qs.length * 7) x') ∧ KZ (RowQ CF) m W (fill7 (w7.setCell ⟨vb, 3, none⟩ (.slice (some ⟨g, 0, none⟩) (qs.length + 1) cap)) g (qs.length * 7) x')) := by
  have hvl := hBv.lt
  have hgw := (hown.lt g rfl).1
  have hn : vb ≠ g := by omega
  have hnl := (List.getElem?_eq_some_iff.1 hts).1
  have hws := hkp.size
  have hB7 : Blk w7 vb 25 #[.int .i64 4, .int .i64 nx, .string ⟨#[]⟩, sv] := (hBv.keeps hb (fun hs => by have := hFl _ (hG n _ hnl hs); omega)).grown hg (fun e => by have := (hr.owns.lt _ e.symm).1; omega)
  have hcur : ∃ cur, Blk w7 g 39 cur := by
    rcases hown.2 with ⟨e, _⟩ | ⟨g', cap', cur, e, _, hb', _⟩
    · cases e
    · injection e with e _ _
      injection e with e
      injection e with e _ _
      subst e
      exact ⟨cur, hb'⟩
  have kf := fill_keeps w7 g (qs.length * 7) x'
  have kb := set_keeps w7 vb 3 (.slice (some ⟨g, 0, none⟩) (qs.length + 1) cap)
  have kf2 := fill_keeps (w7.setCell ⟨vb, 3, none⟩ (.slice (some ⟨g, 0, none⟩) (qs.length + 1) cap)) g (qs.length * 7) x'
  have kb2 := set_keeps (fill7 w7 g (qs.length * 7) x') vb 3 (.slice (some ⟨g, 0, none⟩) (qs.length + 1) cap)
  have or1 : ∀ {A B : World}, Keeps (fun j => j = g) A B → Keeps (fun j => j = g ∨ j = vb) A B := fun h => h.mono fun _ _ h => .inl h
  have or2 : ∀ {A B : World}, Keeps (fun j => j = vb) A B → Keeps (fun j => j = g ∨ j = vb) A B := fun h => h.mono fun _ _ h => .inr h
  exact ⟨roundV_fin hFl hG hd hCF hm hq hts hx hr hBv hkp hres hrest hvb hb hv hown hg hor ((or1 kf).trans (or2 kb2)) (own_keeps (fill_row hown (rowC_len qs) hz x') kb2 (fun e => hn (by simpa [Value.ownBlock] using e))) ((hB7.keeps kf hn).set_ 3 _) hcur,
    roundV_fin hFl hG hd hCF hm hq hts hx hr hBv hkp hres hrest hvb hb hv hown hg hor ((or2 kb).trans (or1 kf2)) (fill_row (own_keeps hown kb (fun e => hn (by simpa [Value.ownBlock] using e))) (rowC_len qs) hz x') ((hB7.set_ 3 _).keeps kf2 hn) hcur⟩
end Ut
end Go.Proofs.YtgpemnmopogppaaGreatDoor
/- A region that draws its order of evaluation, in a round of a range over a function: what holds of it in a function's own frame holds in the round's. -/
namespace Go.Proofs.YtgpemnmopogppaaGreatDoor
open Go Go.RowKit
namespace Dp
section
variable {P : Program} {ops : Array Oper} {Q : Exit → Act → World → Prop} {md : Region.Mode} {l n : Nat}
def notDefer (o : Oper) : Bool := match o.op with
  | .defer _ => false
  | _ => true
theorem rowsIn_of {row : String} {args : Array Value} {w : World} {R : Value → World → Prop} (h : Rows P row args w R) : RowsIn (Fence.wide.inRound l) n P row args w R := fun c cs _ => by
  obtain ⟨v, w', r, s⟩ := h c cs
  exact ⟨v, w', r, stepsIn_wide.2 s⟩
theorem wpIn_of_wp {o : Oper} (hd : notDefer o = true) (_hQ : ¬ LetsOut Q) {a : Act} {w : World} {K : Act → World → Prop} (h : o.wp P a w K Q) : o.wpIn (Fence.wide.inRound l) n P a w K Q := by
  refine ⟨fun _ _ => trivial, ?_⟩
  have hs : o.semAt (Fence.wide.inRound l).round a.eval = execOp a.eval o := Oper.semAt_eq _ _ _ (fun c hc => by simp [notDefer, hc] at hd)
  rw [hs]
  unfold Oper.wp at h
  have hdep : (Fence.wide.inRound l).depth.isSome = true → 1 ≤ n := fun h => by simp [Fence.wide] at h
  generalize (execOp a.eval o).run P w = r at *
  cases r with
  | ok x w' =>
    cases x <;> simp only [Oper.upon, Oper.uponIn] at h ⊢
    case value u => exact h
    case skip => exact h
    case defer d => exact h
    case enter f args => exact ⟨hdep, CallsIn.inRound l (callsIn_wide.2 (h.mono (fun e w'' he => by cases e <;> exact he)))⟩
    case row row args => exact ⟨hdep, rowsIn_of h⟩
  | halt x w' => cases x <;> simp only [Oper.upon, Oper.uponIn] at h ⊢ <;> exact h
theorem wpOpIn_of_wpOp (hd : ∀ (i : Nat) (o : Oper), ops[i]? = some o → notDefer o = true) (hQ : ¬ LetsOut Q) {i : Nat} {a : Act} {w : World} {K K' : Act → World → Prop} (hK : ∀ a w, K a w → K' a w) (h : wpOp P ops Q i K a w) : wpOpIn (Fence.wide.inRound l) n P ops Q i K' a w := by
  unfold wpOp at h
  unfold wpOpIn
  cases ho : ops[i]? with
  | none =>
    rw [ho] at h
    exact hK _ _ h
  | some o =>
    rw [ho] at h
    simp only at h ⊢
    by_cases hw : Region.wanted o (yielded ops a.tmps) = true
    · rw [if_pos hw] at h ⊢
      rcases h with h | h
      · exact Oper.wpIn_mono hK (wpIn_of_wp (hd i o ho) hQ h)
      · exact absurd h.2 hQ
    · rw [if_neg hw] at h ⊢
      exact ⟨fun _ _ => trivial, hK _ _ h⟩
theorem wpAnyIn_of_wpAny (hd : ∀ (i : Nat) (o : Oper), ops[i]? = some o → notDefer o = true) (hQ : ¬ LetsOut Q) : ∀ (fuel : Nat) (listed : Array Bool) (a : Act) (w : World), wpAny P md ops Q fuel listed a w → wpAnyIn (Fence.wide.inRound l) n P md ops Q fuel listed a w
  | 0, _, _, _, h => h
  | fuel + 1, _listed, _a, _w, h => ⟨h.1, fun i hi => wpOpIn_of_wpOp hd hQ (fun a w => wpAnyIn_of_wpAny hd hQ fuel _ a w) (h.2 i hi)⟩
theorem all_notDefer (h : ops.all notDefer = true) : ∀ (i : Nat) (o : Oper), ops[i]? = some o → notDefer o = true := fun i o ho => by
  rw [Array.all_eq_true] at h
  obtain ⟨hi, rfl⟩ := Array.getElem?_eq_some_iff.1 ho
  exact h i hi
/-- A region in a round, a condition S on the world being kept all along. -/
theorem region_round {id : Nat} {S : World → Prop} {a : Act} {w : World} (hm : P.follows .mixedOrders = true) (hd : ops.all notDefer = true) (hQ : ¬ LetsOut Q) (hS : S w.drew)
    (h : S w.drew → wpAnyH P .any ops Q S ops.size (Array.replicate ops.size false) a w.drew) : (Code.region id ops true).wpIn (Fence.wide.inRound l) n P Q a w :=
  wpIn_region_any hm (wpAnyIn_of_wpAny (all_notDefer hd) hQ _ _ _ _ (wpAny_of_held _ _ _ _ (h hS)))
end
end Dp
end Go.Proofs.YtgpemnmopogppaaGreatDoor
