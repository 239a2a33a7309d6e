/- disk.Files at a disk that was made: its walk. -/
import Derived.Test.YtbiclpkoocjjfaaDoorFilesS
import Derived.Test.YtbiclpkoocjjfaaDoorDiskE
import Derived.Test.YtbiclpkoocjjfaaDoorApps
import Derived.Shelf.SlSortCmp.WholeK
namespace Go.Proofs.YtbiclpkoocjjfaaDoor
open Go.RowKit Go.Maps Go.Sort

def encF (x : FileV) : List Value := [.string x.1, .string x.2]
theorem encF_len (x : FileV) : (encF x).length = 2 := rfl
theorem encF_one (x : FileV) : ∀ v ∈ encF x, v.oneCell' = true := by
  intro v hv
  simp only [encF, List.mem_cons, List.not_mem_nil, or_false] at hv
  rcases hv with rfl | rfl <;> rfl
theorem fcells_len : ∀ l : List FileV, (l.flatMap encF).length = l.length * 2
  | [] => rfl
  | x :: l => by rw [List.flatMap_cons, List.length_append, fcells_len l, encF_len, List.length_cons]; omega
theorem fcells_at : ∀ (l : List FileV) (j r : Nat) (hj : j < l.length), r < 2 → (l.flatMap encF)[j * 2 + r]? = (encF l[j])[r]?
  | q :: l, 0, r, _, hr => by rw [List.flatMap_cons, List.getElem?_append_left (by rw [encF_len]; omega)]; simp
  | q :: l, j + 1, r, hj, hr => by
    rw [List.flatMap_cons, List.getElem?_append_right (by rw [encF_len]; omega)]
    have : (j + 1) * 2 + r - (encF q).length = j * 2 + r := by rw [encF_len]; omega
    rw [this, fcells_at l j r (by simpa using hj) hr]
    rfl
theorem fcells_one (l : List FileV) : ∀ u ∈ l.flatMap encF, u.oneCell' = true := by
  intro u hu
  obtain ⟨p, _, hp⟩ := List.mem_flatMap.1 hu
  exact encF_one p u hp
theorem flat_list (d : Array FileV) : (flatK encF 2 d).toList = d.toList.flatMap encF := by
  apply List.ext_getElem?
  intro t
  by_cases ht : t < d.size * 2
  · have h1 : (flatK encF 2 d).toList[t]? = some ((flatK encF 2 d)[t]!) := by
      rw [Array.getElem?_toList, getElem!_pos _ _ (by rw [size_flatK]; exact ht), Array.getElem?_eq_getElem (by rw [size_flatK]; exact ht)]
    rw [h1, get_flatK _ _ _ _ ht]
    have hj : t / 2 < d.toList.length := by simp; omega
    have e : t = t / 2 * 2 + t % 2 := by omega
    have := fcells_at d.toList (t / 2) (t % 2) hj (by omega)
    rw [← e] at this
    rw [this]
    have hjs : t / 2 < d.size := by omega
    rw [getElem!_pos d _ hjs]
    have hr : t % 2 < (encF d[t / 2]).length := by rw [encF_len]; omega
    rw [getElem!_pos (encF d[t / 2]) (t % 2) hr]
    have e2 : d.toList[t / 2] = d[t / 2] := Array.getElem_toList hjs
    rw [e2, List.getElem?_eq_getElem hr]
  · rw [List.getElem?_eq_none (by rw [Array.length_toList, size_flatK]; omega), List.getElem?_eq_none (by rw [fcells_len, Array.length_toList]; omega)]

section
variable {w : World} {g m : Nat} {d : Array FileV} {os : Array Obj}
theorem sorted_block {c : Array Value} {e : TypeId} {fr : Nat × Nat} (h : w.heap[g]? = some (.cells c e fr)) : (sortWorldK encF 2 w g 0 m d os).heap[g]? = some (.cells (putCells id 0 (flatK encF 2 d) c) e fr) := by
  have hlt : g < w.heap.size := (Array.getElem?_eq_some_iff.1 h).1
  show ((w.heap.modify g (onCells (putCells id 0 (flatK encF 2 d)))) ++ os)[g]? = _
  rw [Array.getElem?_append_left (by simpa using hlt), Array.getElem?_modify, if_pos rfl, h]
  rfl
theorem sorted_other {i : Nat} (hi : i < w.heap.size) (hne : i ≠ g) : (sortWorldK encF 2 w g 0 m d os).heap[i]? = w.heap[i]? := by
  show ((w.heap.modify g (onCells (putCells id 0 (flatK encF 2 d)))) ++ os)[i]? = _
  rw [Array.getElem?_append_left (by simpa using hi), Array.getElem?_modify, if_neg (fun e => hne e.symm)]
theorem below_sorted {B : Nat} {w0 : World} (h : Below B w0 w) (hB : B ≤ w.heap.size) (hg : B ≤ g) : Below B w0 (sortWorldK encF 2 w g 0 m d os) := by
  refine ⟨h.os, h.tape, h.output, ?_, fun i hi => ?_⟩
  · refine Nat.le_trans h.size ?_
    show w.heap.size ≤ ((w.heap.modify g (onCells (putCells id 0 (flatK encF 2 d)))) ++ os).size
    rw [Array.size_append, Array.size_modify]; omega
  · rw [sorted_other (by omega) (by omega)]; exact h.block i hi
theorem own_sorted {base n cap : Nat} {e : TypeId} {xs : List Value} (h : w.ownsRow base e 2 (.slice (some ⟨g, 0, none⟩) n cap) n xs) (hd : d.size = n) : (sortWorldK encF 2 w g 0 m d os).ownsRow base e 2 (.slice (some ⟨g, 0, none⟩) n cap) n (d.toList.flatMap encF) := by
  obtain ⟨hx, ⟨hv, _⟩ | ⟨g', cap', cur, hv, hg, hh, hnc, hcm, hcs, htk⟩⟩ := h
  · cases hv
  · simp only [Value.slice.injEq, Option.some.injEq, Addr.mk.injEq] at hv
    obtain ⟨⟨rfl, _, _⟩, _, rfl⟩ := hv
    refine ⟨by rw [fcells_len, Array.length_toList, hd], .inr ⟨g, cap, _, rfl, hg, sorted_block hh, hnc, hcm, by unfold putCells; rw [Array.size_mapIdx]; exact hcs, ?_⟩⟩
    rw [← flat_list]
    apply List.ext_getElem?
    intro t
    rw [List.getElem?_take]
    split
    · rename_i ht
      have hc : t < cur.size := by rw [hcs]; exact Nat.lt_of_lt_of_le ht (Nat.mul_le_mul_right _ hnc)
      have hf : t < (flatK encF 2 d).size := by rw [size_flatK, hd]; exact ht
      unfold putCells
      rw [Array.getElem?_toList, Array.getElem?_mapIdx, Array.getElem?_eq_getElem hc, Array.getElem?_toList, Array.getElem?_eq_getElem hf]
      have hf' : t < d.size * 2 := by rw [hd]; exact ht
      simp [hf']
    · rename_i ht
      rw [List.getElem?_eq_none (by rw [Array.length_toList, size_flatK, hd]; omega)]
theorem holds_own {base n cap : Nat} {e : TypeId} (h : w.ownsRow base e 2 (.slice (some ⟨g, 0, none⟩) n cap) n (d.toList.flatMap encF)) (hd : d.size = n) : HoldsK encF 2 w g 0 d := by
  intro j hj
  rw [size_flatK] at hj
  have hc := h.cells (g := g) rfl j ((flatK encF 2 d)[j]!) (by
    rw [← flat_list, Array.getElem?_toList, getElem!_pos _ _ (by rw [size_flatK]; exact hj), Array.getElem?_eq_getElem])
  have e' : (⟨g, 0, none⟩ : Addr).add j = ⟨g, 0 + j, none⟩ := by unfold Addr.add; split <;> simp_all
  rw [e'] at hc
  refine ⟨hc, ?_⟩
  obtain ⟨hx, ⟨hv, _⟩ | ⟨g', cap', cur, hv, hg, hh, _⟩⟩ := h
  · cases hv
  · simp only [Value.slice.injEq, Option.some.injEq, Addr.mk.injEq] at hv
    obtain ⟨⟨rfl, _, _⟩, _, rfl⟩ := hv
    simp [World.frozen?, hh]
end

set_option maxHeartbeats 1000000 in
/-- The order that Files sorts by: the closure. -/
theorem cmp_any (x y : FileV) (W : World) : Calls Tryd.prog 39 #[.agg #[.string x.1, .string x.2], .agg #[.string y.1, .string y.2]] W fun e w' => e = .returned (.int .i64 (Lib.compareBytes x.1.data.toList y.1.data.toList)) ∧ ∃ q os', w' = grow (W.drewN q) os' := by
  have hcon := fun W' => Tryd.strings_Compare x.1 y.1 W'
  generalize Lib.compareBytes x.1.data.toList y.1.data.toList = r at hcon ⊢
  go_enter Tryd.func39, Tryd.ntmps39
  go_wp2_with (go_at_call 40; refine (hcon _).mono ?_; rintro e w' ⟨rfl, rfl⟩)
  go_ret
  exact ⟨rfl, 0, _, by rw [alloc_eq_grow, alloc_eq_grow, grow_grow]; rfl⟩
theorem cmpLaysF (blk off size : Nat) (w : World) : CmpLays Tryd.prog 39 #[] encF 2 (fun x y : FileV => Lib.compareBytes x.1.data.toList y.1.data.toList) blk off size w :=
  fun _ _ _ _ x y => cmp_any x y _
theorem sort_any (g cap : Nat) (d : Array FileV) (w : World) (hH : HoldsK encF 2 w g 0 d) (hg : g < w.heap.size) (hsz : d.size < 4611686018427387904) :
    Calls Tryd.prog 38 #[.slice (some ⟨g, 0, none⟩) d.size cap, .func (.func 39) #[] #[]] w fun e w' =>
      e = .returned (.tuple #[]) ∧ ∃ d' n os, PermIn 0 d.size d d' ∧ SortedIn (ltOf fun x y : FileV => Lib.compareBytes x.1.data.toList y.1.data.toList) 0 d.size d' ∧ w' = sortWorldK encF 2 w g 0 n d' os :=
  AnyQ.slices_SortFunc Tryd.sortF 2 Tryd.isAgg53 Tryd.sizeOf53 encF encF_len encF_one _ swoF 39 #[] g 0 cap d w (enters_of Tryd.func39 (by kernel_rfl) rfl) (cmpLaysF g 0 d.size w) hH hg hsz
end Go.Proofs.YtbiclpkoocjjfaaDoor
