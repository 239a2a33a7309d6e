/- Plain laws: which path a name means from a file: the parts put on a stack, the stack joined; two ways to say both are one. -/
import Derived.Test.YtbiclpkoocjjfaaDoorDiskQ
import Derived.Lib.Join
import Derived.Lib.LastIndexByte
namespace Go.Proofs.YtbiclpkoocjjfaaDoor
open Go.Lib

theorem splitS_slash : ∀ (a x : List UInt8), splitS (a ++ 47 :: x) = splitS a ++ splitS x
  | [], x => by simp [splitS]
  | c :: r, x => by
    have ih := splitS_slash r x
    rw [List.cons_append]
    by_cases h : c = 47
    · rw [splitS, if_pos h, splitS, if_pos h, ih]; rfl
    · rw [splitS, if_neg h, splitS, if_neg h, ih]
      cases hs : splitS r with
      | nil => exact absurd hs (splitS_ne r)
      | cons h t => rfl
theorem splitS_plain : ∀ (l : List UInt8), (∀ c ∈ l, c ≠ 47) → splitS l = [l]
  | [], _ => rfl
  | c :: r, h => by
    rw [splitS, if_neg (h c (by simp)), splitS_plain r (fun d hd => h d (by simp [hd]))]
theorem split_last (b s : List UInt8) (k : Nat) (h : (k = 0 ∧ ∀ c ∈ b, c ≠ 47) ∨ ∃ i, k = i + 1 ∧ ∃ (hi : i < b.length), b[i] = 47 ∧ ∀ c ∈ b.drop (i + 1), c ≠ 47) : splitS (b.take k ++ s) = (splitS b).dropLast ++ splitS s := by
  rcases h with ⟨rfl, h⟩ | ⟨i, rfl, hi, h47, h⟩
  · rw [splitS_plain b h]; simp
  · have e : b = b.take i ++ 47 :: b.drop (i + 1) := by
      rw [← h47, ← List.drop_eq_getElem_cons hi, List.take_append_drop]
    have e1 : splitS b = splitS (b.take i) ++ [b.drop (i + 1)] := by
      rw [← splitS_plain _ h, ← splitS_slash, ← e]
    rw [List.take_succ_eq_append_getElem hi, h47, e1, List.dropLast_concat, List.append_assoc, List.singleton_append, splitS_slash]
/-- How much of a text stands up to its last slash, that too. -/
def lastK (b : ByteArray) : Nat := (lastIndexByte b 47 + 1).toNat
theorem last_ge (b : ByteArray) : lastIndexByte b 47 + 1 = (lastK b : Int) ∧ lastK b ≤ b.size := by
  unfold lastK
  rcases lastIdx_spec b 47 b.size with ⟨h, _⟩ | ⟨i, hi, h, _⟩
  · rw [show lastIndexByte b 47 = -1 from h]; exact ⟨by omega, by omega⟩
  · rw [show lastIndexByte b 47 = i from h]; exact ⟨by omega, by omega⟩
theorem byte_at (b : ByteArray) (j : Nat) (h : j < b.data.toList.length) : b.data[j]! = b.data.toList[j] := by
  have hz : j < b.data.size := by simpa using h
  rw [getElem!_pos b.data j hz]; rfl
theorem last_is (b : ByteArray) (s : List UInt8) : splitS (b.data.toList.take (lastK b) ++ s) = (splitS b.data.toList).dropLast ++ splitS s := by
  have hz := Lib.size_eq b
  refine split_last _ _ _ ?_
  unfold lastK
  rcases lastIdx_spec b 47 b.size with ⟨h, hn⟩ | ⟨i, hi, h, h47, hn⟩
  · refine .inl ⟨by rw [show lastIndexByte b 47 = -1 from h]; rfl, fun c hc e => ?_⟩
    obtain ⟨j, hj, rfl⟩ := List.mem_iff_getElem.1 hc
    have := hn j (by omega)
    rw [byte_at b j hj, e] at this
    exact this rfl
  · refine .inr ⟨i, by rw [show lastIndexByte b 47 = i from h]; omega, by omega, ?_, fun c hc e => ?_⟩
    · rw [byte_at b i (by omega)] at h47
      exact UInt8.toNat_inj.1 (by rw [show (47 : UInt8).toNat = 47 from rfl]; omega)
    · obtain ⟨j, hj, rfl⟩ := List.mem_iff_getElem.1 hc
      rw [List.length_drop] at hj
      rw [List.getElem_drop] at e
      have := hn (i + 1 + j) (by omega) (by omega)
      rw [byte_at b _ (by omega), e] at this
      exact this rfl

/-- The text whose parts are asked: behind the file's folder, or as it stands. -/
def fullB (b s : ByteArray) : ByteArray := if hasPrefix s.data.toList [47] = true then s else b.extract 0 (lastK b) ++ s
theorem full_size (b s : ByteArray) : (fullB b s).size ≤ b.size + s.size := by
  unfold fullB
  split
  · omega
  · rw [ByteArray.size_append, ByteArray.size_extract]; omega
theorem full_parts (b s : ByteArray) (h : hasPrefix s.data.toList [47] = false) : partsOf (b.extract 0 (lastK b) ++ s) = (partsOf b).dropLast ++ partsOf s := by
  apply map_data_inj
  rw [partsOf_data, List.map_append, List.map_dropLast, partsOf_data, partsOf_data, ← last_is b, ByteArray.data_append, Array.toList_append]
  congr 2
  rw [piece_data b 0 (lastK b) (last_ge b).2]; rfl

/-- One part more on the stack. -/
def stepF (l : List ByteArray) (p : ByteArray) : Option (List ByteArray) :=
  if p.toList = [] ∨ p.toList = [46] then some l else if p.toList = [46, 46] then (if l.length = 0 then none else some l.dropLast) else some (l ++ [p])
def foldF : List ByteArray → Option (List ByteArray) → Option (List ByteArray)
  | [], st => st
  | p :: r, st => foldF r (st.bind (stepF · p))
theorem foldF_none : ∀ ps, foldF ps none = none
  | [] => rfl
  | _ :: r => foldF_none r
theorem foldF_snoc : ∀ (ps : List ByteArray) (p : ByteArray) (st : Option (List ByteArray)), foldF (ps ++ [p]) st = (foldF ps st).bind (stepF · p)
  | [], _, _ => rfl
  | q :: r, p, st => foldF_snoc r p (st.bind (stepF · q))
theorem foldF_append : ∀ (ps qs : List ByteArray) (st : Option (List ByteArray)), foldF (ps ++ qs) st = foldF qs (foldF ps st)
  | [], _, _ => rfl
  | q :: r, qs, st => foldF_append r qs (st.bind (stepF · q))
def stackOf (ps : List ByteArray) : Option (List ByteArray) := foldF ps (some [])
theorem stack_take (ps : List ByteArray) (k : Nat) (h : k < ps.length) : stackOf (ps.take (k + 1)) = (stackOf (ps.take k)).bind (stepF · ps[k]) := by
  unfold stackOf
  rw [List.take_succ_eq_append_getElem h, foldF_snoc]
theorem stack_fails (ps : List ByteArray) (k : Nat) (h : stackOf (ps.take k) = none) : stackOf ps = none := by
  unfold stackOf at *
  rw [← List.take_append_drop k ps, foldF_append, h, foldF_none]
theorem stepF_len {l l' : List ByteArray} {p : ByteArray} (h : stepF l p = some l') : l'.length ≤ l.length + 1 := by
  unfold stepF at h
  split at h
  · cases h; omega
  · split at h
    · split at h
      · cases h
      · cases h; rw [List.length_dropLast]; omega
    · cases h; simp
theorem stepF_mem {l l' : List ByteArray} {p : ByteArray} (P : ByteArray → Prop) (h : stepF l p = some l') (hl : ∀ x ∈ l, P x) (hp : P p) : ∀ x ∈ l', P x := by
  unfold stepF at h
  split at h
  · cases h; exact hl
  · split at h
    · split at h
      · cases h
      · cases h; exact fun x hx => hl x (List.dropLast_subset l hx)
    · cases h
      intro x hx
      rcases List.mem_append.1 hx with hx | hx
      · exact hl x hx
      · rw [List.mem_singleton.1 hx]; exact hp

/-- Each text with a slash ahead, one behind the other. -/
def catL (l : List ByteArray) : List UInt8 := (l.map fun x => 47 :: x.data.toList).flatten
theorem catL_snoc (l : List ByteArray) (x : ByteArray) : catL (l ++ [x]) = catL l ++ 47 :: x.data.toList := by simp [catL]
theorem join_cat (x : ByteArray) (r : List ByteArray) : 47 :: Lib.join ((x :: r).map (·.data.toList)) [47] = catL (x :: r) := by
  rw [List.map_cons, join_cons]
  unfold joinTail catL
  rw [List.map_cons, List.flatten_cons, List.map_map]
  rfl
theorem catL_take (l : List ByteArray) (k : Nat) : (catL (l.take k)).length ≤ (catL l).length := by
  have e : catL l = catL (l.take k) ++ catL (l.drop k) := by
    unfold catL
    rw [← List.flatten_append, ← List.map_append, List.take_append_drop]
  rw [e, List.length_append]; omega
theorem catL_bound (N : Nat) : ∀ l : List ByteArray, (∀ x ∈ l, x.size ≤ N) → (catL l).length ≤ l.length * (N + 1)
  | [], _ => by simp [catL]
  | x :: r, h => by
    have ih := catL_bound N r (fun y hy => h y (by simp [hy]))
    have hx := h x (by simp)
    have hz := Lib.size_eq x
    unfold catL at *
    rw [List.map_cons, List.flatten_cons, List.length_append, List.length_cons, List.length_cons, Nat.succ_mul]
    omega
/-- The joined text: the path that is answered if it is one. -/
def joinedB (l : List ByteArray) : ByteArray := ⟨(47 :: Lib.join (l.map (·.data.toList)) [47]).toArray⟩
theorem joined_nil : pathB (joinedB []) = false := pathB_small _ (by decide)
theorem joined_cons (x : ByteArray) (r : List ByteArray) : joinedB (x :: r) = ⟨(catL (x :: r)).toArray⟩ := by unfold joinedB; rw [join_cat]
theorem pathB_long (s : ByteArray) (h : 256 < s.size) : pathB s = false := by
  unfold pathB
  rw [decide_eq_false (by omega)]; simp
/-- What From answers. -/
def fromL (l : List ByteArray) : Option ByteArray := if pathB (joinedB l) = true then some (joinedB l) else none
def fromB (b s : ByteArray) : Option ByteArray := if pathB b = false then none else (stackOf (partsOf (fullB b s))).bind fromL
def catB (l : List ByteArray) : ByteArray := ⟨(catL l).toArray⟩
theorem catB_size (l : List ByteArray) : (catB l).size = (catL l).length := by
  show (catL l).toArray.size = _
  rw [List.size_toArray]
/-- The reference's text is answered just then. -/
theorem from_cat (l : List ByteArray) (k : Nat) (hk : k ≤ l.length) (h : k = l.length ∨ 512 < (catL (l.take k)).length) :
    (if pathB (catB (l.take k)) = true then some (catB (l.take k)) else none) = fromL l := by
  unfold fromL
  rcases h with rfl | h
  · rw [List.take_of_length_le (Nat.le_refl _)]
    cases l with
    | nil => rw [joined_nil, pathB_small _ (by rw [catB_size]; decide)]; rfl
    | cons x r => rw [joined_cons]; rfl
  · have h1 : pathB (catB (l.take k)) = false := pathB_long _ (by rw [catB_size]; omega)
    have h2 : pathB (joinedB l) = false := by
      cases l with
      | nil => exact joined_nil
      | cons x r =>
        rw [joined_cons]
        have := catL_take (x :: r) k
        refine pathB_long _ ?_
        have := catB_size (x :: r)
        unfold catB at this
        omega
    rw [h1, h2]; rfl
end Go.Proofs.YtbiclpkoocjjfaaDoor
