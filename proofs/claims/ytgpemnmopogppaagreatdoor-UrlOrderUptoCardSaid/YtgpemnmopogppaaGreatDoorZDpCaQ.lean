/- deep: plain kinds; a world that draws: plain words. -/
import Derived.Test.YtgpemnmopogppaaGreatDoorZNmPQ
import Derived.Deep.QuietTactic
import Derived.Deep.RegionLaw
import Derived.BigQuiet
import Derived.Laws.EntriesVeiled
import Derived.Test.YtgpemnmopogppaaGreatDoorZUqB
namespace Go.Proofs.YtgpemnmopogppaaGreatDoor
open Go.RowKit
namespace Dp
def plainB (k : Int) : Bool := decide (0 ≤ k) && decide (k ≤ 3)
theorem drewN' {B : Nat} {w w' : World} (h : Below B w w') (n : Nat) : Below B w (w'.drewN n) := ⟨h.os, h.tape, h.output, h.size, h.block⟩
end Dp
end Go.Proofs.YtgpemnmopogppaaGreatDoor
/- deep: few items: the walk. -/
namespace Go.Proofs.YtgpemnmopogppaaGreatDoor
open Go.RowKit
namespace Dp
theorem vagg {w : World} {B : Nat} {g : GV} {x : Value} (h : VAt w B g x) : ∃ (k n : Int) (t : ByteArray) (A : Option Addr) (l c : Nat), x = .agg #[.int .i64 k, .int .i64 n, .string t, .slice A l c] := by
  cases h
  exact ⟨_, _, _, _, _, _, rfl⟩
/-- Few enough items. -/
def fewB (g : GV) : Bool := decide (0 ≤ leftV g 2048)
def sameB (g g' : GV) : Bool := fewB g && (fewB g' && alikeV g g')
theorem few_no {g : GV} (h : ¬ 0 ≤ leftV g 2048) : fewB g = false := decide_eq_false h
theorem few_yes {g : GV} (h : 0 ≤ leftV g 2048) : fewB g = true := decide_eq_true h
section
variable {w : World} {B : Nat}
set_option maxRecDepth 100000 in
theorem few_any (hBw : B ≤ w.heap.size) {g : GV} {x : Value} (h : VAt w B g x) (w' : World) (hb : Below B w w') :
    Calls Tryz.prog 33 #[x] w' fun e w'' => e = .returned (.bool (fewB g)) ∧ Below w'.heap.size w' w'' := by
  obtain ⟨k, n, t, A, l, c, rfl⟩ := vagg h
  have HL := Lib.hid (rleft_any hBw h (w'.alloc (.cells #[.int .i64 k, .int .i64 n, .string t, .slice A l c] 25)) (hb.alloc (Nat.le_trans hBw hb.size) _) 2048 (by omega) (by omega))
  have HB0 := Lib.hid ((Below.refl w'.heap.size w').alloc (Nat.le_refl _) (.cells #[.int .i64 k, .int .i64 n, .string t, .slice A l c] 25))
  unfold fewB
  clear h hb
  generalize leftV g 2048 = m at *
  go_enter Tryz.func33, Tryz.ntmps33
  go_wp2_with (go_at_call 35; refine (HL.out).mono ?_; rintro e w2 ⟨rfl, hle, hb2⟩)
  go_ret
  exact ⟨rfl, HB0.out.trans (hb2.mono HB0.out.size)⟩
end
end Dp
end Go.Proofs.YtgpemnmopogppaaGreatDoor
/- url: what a query makes is the same as itself; what one more pair turns: plain laws. -/
namespace Go.Proofs.YtgpemnmopogppaaGreatDoor
open Go Go.RowKit
namespace Ut
open Go.Proofs.YtgpemnmopogppaaGreatDoor.Dp
open Go.Proofs.YtgpemnmopogppaaGreatDoor.Url (encL decF)
theorem leftL_neg (l : List GI) (m : Int) (h : m < 0) : leftL l m = m := by
  cases l with
  | nil => rw [leftL]
  | cons it l => cases it with | mk b i s v => rw [leftL, if_pos h]
mutual
theorem leftV_add : ∀ (g : GV) (m d : Int), 0 ≤ d → 0 ≤ leftV g m → leftV g (m + d) = leftV g m + d
  | .mk k n t l, m, d, hd, h => by
    rw [leftV] at h ⊢
    rw [leftV, show m + d - (l.length : Int) = (m - l.length) + d by omega]
    exact leftL_add l _ d hd h
theorem leftL_add : ∀ (l : List GI) (m d : Int), 0 ≤ d → 0 ≤ leftL l m → leftL l (m + d) = leftL l m + d
  | [], m, d, _, _ => by rw [leftL, leftL]
  | .mk b i s v :: l, m, d, hd, h => by
    rw [leftL] at h
    by_cases hm : m < 0
    · rw [if_pos hm] at h
      omega
    · rw [if_neg hm] at h
      have h2 : 0 ≤ leftV v m := by
        refine Int.not_lt.1 fun hn => ?_
        rw [leftL_neg l _ hn] at h
        omega
      rw [leftL, leftL, if_neg hm, if_neg (by omega), leftV_add v m d hd h2]
      exact leftL_add l _ d hd h
end
mutual
theorem leftV_le : ∀ (g : GV) (m : Int), leftV g m ≤ m
  | .mk k n t l, m => by
    rw [leftV]
    have := leftL_le l (m - l.length)
    omega
theorem leftL_le : ∀ (l : List GI) (m : Int), leftL l m ≤ m
  | [], m => by rw [leftL]; exact Int.le_refl _
  | .mk b i s v :: l, m => by
    rw [leftL]
    split
    · exact Int.le_refl _
    · exact Int.le_trans (leftL_le l _) (leftV_le v m)
end
theorem few_item : ∀ (l : List GI) (m : Int), m ≤ 2048 → 0 ≤ leftL l m → ∀ (i : Nat) (it : GI), l[i]? = some it → 0 ≤ leftV it.val 2048
  | [], m, _, _, i, it, hi => by simp at hi
  | .mk b i0 s v :: l, m, hm, h, i, it, hi => by
    rw [leftL] at h
    by_cases h0 : m < 0
    · rw [if_pos h0] at h; omega
    · rw [if_neg h0] at h
      have h2 : 0 ≤ leftV v m := by
        refine Int.not_lt.1 fun hn => ?_
        rw [leftL_neg l _ hn] at h
        omega
      cases i with
      | zero =>
        simp at hi
        subst hi
        have := leftV_add v m (2048 - m) (by omega) h2
        rw [show m + (2048 - m) = 2048 by omega] at this
        show 0 ≤ leftV v 2048
        omega
      | succ i =>
        have := leftV_le v m
        exact few_item l (leftV v m) (by omega) h i it (by simpa using hi)
theorem alikeL_self : ∀ (l : List GI), (∀ (i : Nat) (it : GI), l[i]? = some it → alikeV it.val it.val = true) → alikeL l l = true
  | [], _ => by simp [alikeL]
  | .mk b i s v :: l, h => by
    have h0 : alikeV v v = true := h 0 _ rfl
    rw [alikeL, if_neg (by simp), if_pos h0]
    exact alikeL_self l fun i it hi => h (i + 1) it (by simpa using hi)
theorem alike_self {g : GV} (h : Txt g) : alikeV g g = true := by
  induction h with
  | leaf t =>
    unfold leafG
    rw [alikeV, if_neg (by simp), if_pos (by decide)]
    unfold sameP
    rw [if_neg (by decide), if_neg (by decide), if_neg (by decide)]
    simp
  | node nx gs hv ih =>
    rw [alikeV, if_neg (by simp), if_neg (by decide), if_neg (by decide), if_neg (by simp), if_neg (by simp)]
    exact alikeL_self gs ih
theorem same_self {nx : Int} {gs : List GI} (h : QOk (.mk 4 nx ⟨#[]⟩ gs)) {i : Nat} {it : GI} (hi : gs[i]? = some it) : sameB it.val it.val = true := by
  have hf := h.few
  rw [leftV] at hf
  have h1 := few_item gs _ (by omega) hf i it hi
  have h2 := alike_self (h.tx.nodes i it hi)
  unfold sameB
  rw [few_yes h1, h2]
  rfl
/-! ### what one more pair turns -/
/-- Whether the i-th value is the same in both. -/
def sameAt (la lb : List GI) (i : Nat) : Bool := match la[i]?, lb[i]? with
  | some x, some y => sameB y.val x.val
  | _, _ => true
/-- How many of the first j are not. -/
def turnN (la lb : List GI) : Nat → Nat
  | 0 => 0
  | j + 1 => turnN la lb j + if sameAt la lb j = true then 0 else 1
theorem turnN_le (la lb : List GI) : ∀ j, turnN la lb j ≤ j
  | 0 => Nat.le_refl _
  | j + 1 => by
    have := turnN_le la lb j
    rw [turnN]
    split <;> omega
theorem turnN_zero {la lb : List GI} : ∀ j, (∀ i, i < j → sameAt la lb i = true) → turnN la lb j = 0
  | 0, _ => rfl
  | j + 1, h => by
    rw [turnN, turnN_zero j (fun i hi => h i (by omega)), if_pos (h j (by omega))]
theorem turnN_one {la lb : List GI} {k : Nat} : ∀ j, (∀ i, i < j → i ≠ k → sameAt la lb i = true) → turnN la lb j ≤ if k < j then 1 else 0
  | 0, _ => by simp [turnN]
  | j + 1, h => by
    have ih := turnN_one j fun i hi => h i (by omega)
    rw [turnN]
    by_cases hj : j = k
    · subst hj
      rw [if_neg (Nat.lt_irrefl j)] at ih
      rw [if_pos (Nat.lt_succ_self j)]
      split <;> omega
    · rw [if_pos (h j (by omega) hj)]
      by_cases hk : k < j
      · rw [if_pos hk] at ih
        rw [if_pos (by omega)]
        omega
      · rw [if_neg hk] at ih
        rw [if_neg (by omega)]
        omega
structure OrdP (la lb : List GI) : Prop where
  ge : la.length ≤ lb.length
  le : lb.length ≤ la.length + 1
  key : ∀ (i : Nat) (x : GI), la[i]? = some x → ∃ y, lb[i]? = some y ∧ GI.keyG y = GI.keyG x
  one : turnN la lb la.length + lb.length ≤ la.length + 1
theorem one_turned {nx : Int} {la lb : List GI} (h : QOk (.mk 4 nx ⟨#[]⟩ la)) (ho : OneTurned la lb) : OrdP la lb := by
  have hself : ∀ (i : Nat) (x : GI), la[i]? = some x → sameB x.val x.val = true := fun i x hx => same_self h hx
  rcases ho with rfl | ⟨k, it, v, hk, rfl⟩ | ⟨it, rfl⟩
  · refine ⟨Nat.le_refl _, Nat.le_succ _, fun i x hx => ⟨x, hx, rfl⟩, ?_⟩
    rw [turnN_zero]
    · omega
    · intro i hi
      obtain ⟨x, hx⟩ : ∃ x, lb[i]? = some x := ⟨_, List.getElem?_eq_getElem hi⟩
      unfold sameAt
      rw [hx]
      exact hself i x hx
  · have hkl := (List.getElem?_eq_some_iff.1 hk).1
    refine ⟨by simp, by simp, fun i x hx => ?_, ?_⟩
    · by_cases e : k = i
      · subst e
        rw [hk] at hx
        cases hx
        exact ⟨giOf (GI.keyG it) v, by rw [List.getElem?_set_self hkl], giOf_key _ _⟩
      · exact ⟨x, by rw [List.getElem?_set_ne e]; exact hx, rfl⟩
    · have := turnN_one (la := la) (lb := la.set k (giOf (GI.keyG it) v)) (k := k) la.length (fun i hi hne => by
        obtain ⟨x, hx⟩ : ∃ x, la[i]? = some x := ⟨_, List.getElem?_eq_getElem hi⟩
        unfold sameAt
        rw [List.getElem?_set_ne (fun e => hne e.symm), hx]
        exact hself i x hx)
      rw [List.length_set]
      split at this <;> omega
  · refine ⟨by simp, by simp, fun i x hx => ⟨x, ?_, rfl⟩, ?_⟩
    · rw [List.getElem?_append_left (List.getElem?_eq_some_iff.1 hx).1]
      exact hx
    · rw [turnN_zero]
      · simp
      · intro i hi
        obtain ⟨x, hx⟩ : ∃ x, la[i]? = some x := ⟨_, List.getElem?_eq_getElem hi⟩
        unfold sameAt
        rw [List.getElem?_append_left hi, hx]
        exact hself i x hx
theorem queryF_ok : ∀ (ps : List (List UInt8)) (k : Nat) (g : GV), QOk g → (∀ p ∈ ps, (cutL 61 p).1.length ≤ 16777216 ∧ (cutL 61 p).2.length ≤ 16777216) → QOk (queryF ps k g)
  | [], k, g, hg, _ => by rw [queryF]; exact hg
  | p :: ps, k, g, hg, h => by
    rw [queryF]
    have h1 := h p (List.mem_cons_self ..)
    split
    · exact queryF_ok ps k g hg fun q hq => h q (List.mem_cons_of_mem _ hq)
    · refine queryF_ok ps _ _ (putQ_ok hg ?_ ?_) fun q hq => h q (List.mem_cons_of_mem _ hq)
      · have := decF_le (cutL 61 p).1; omega
      · have := decF_le (cutL 61 p).2; omega
theorem queryG_ok (s : List UInt8) (h : ∀ p ∈ splitL 38 s, (cutL 61 p).1.length ≤ 16777216 ∧ (cutL 61 p).2.length ≤ 16777216) : QOk (queryG s) := queryF_ok _ _ _ .empty h
theorem splitL_mem (c : UInt8) : ∀ (s : List UInt8) (p : List UInt8), p ∈ splitL c s → p.length ≤ s.length
  | [], p, h => by simp [splitL] at h; subst h; exact Nat.le_refl _
  | x :: r, p, h => by
    rw [splitL] at h
    split at h
    · rcases List.mem_cons.1 h with rfl | h
      · exact Nat.zero_le _
      · exact Nat.le_succ_of_le (splitL_mem c r p h)
    · split at h
      · simp at h; subst h; simp
      · rename_i a t he
        rcases List.mem_cons.1 h with rfl | h
        · have := splitL_mem c r a (by rw [he]; exact List.mem_cons_self ..)
          simp
          omega
        · have := splitL_mem c r p (by rw [he]; exact List.mem_cons_of_mem _ h)
          simp
          omega
/-- The law, plainly. -/
theorem order_plain (s name text : List UInt8) (hs : s.length ≤ 16777216) {nxa nxb : Int} {la lb : List GI} (ha : queryG s = .mk 4 nxa ⟨#[]⟩ la) (hb : queryG (s ++ 38 :: (encL name ++ 61 :: encL text)) = .mk 4 nxb ⟨#[]⟩ lb) : OrdP la lb := by
  have hok := queryG_ok s (fun p hp => by
    have h1 := splitL_mem 38 s p hp
    have h2 := cutL_le 61 p
    omega)
  rw [ha] at hok
  refine one_turned hok ?_
  rcases query_more s name text with h | h
  · rw [h, ha] at hb
    injection hb with _ _ _ e
    exact .inl e.symm
  · rw [h, ha] at hb
    unfold putQ at hb
    exact putV_one hb
end Ut
end Go.Proofs.YtgpemnmopogppaaGreatDoor
/- conv's Plain and Same in the document: the walks. -/
namespace Go.Proofs.YtgpemnmopogppaaGreatDoor
open Go.RowKit
namespace Dp
section
variable (n n' : Int) (t t' : ByteArray) (A A' : Option Addr) (l l' c c' : Nat) (w : World)
set_option maxRecDepth 100000 in
theorem rplain_any (k : Int) : Calls Tryz.prog 78 #[.agg #[.int .i64 k, .int .i64 n, .string t, .slice A l c]] w fun e w' => e = .returned (.bool (plainB k)) ∧ w' = w.alloc (.cells #[.int .i64 k, .int .i64 n, .string t, .slice A l c] 25) := by
  unfold plainB
  by_cases h1 : 0 ≤ k
  · by_cases h2 : k ≤ 3
    · rw [decide_eq_true h1, decide_eq_true h2]
      go_enter Tryz.func78, Tryz.ntmps78
      go_wp2_with fail
      go_ret
      exact ⟨rfl, rfl⟩
    · rw [decide_eq_true h1, decide_eq_false h2]
      go_enter Tryz.func78, Tryz.ntmps78
      go_wp2_with fail
      go_ret
      exact ⟨rfl, rfl⟩
  · rw [decide_eq_false h1, Bool.false_and]
    go_enter Tryz.func78, Tryz.ntmps78
    go_wp2_with fail
    go_ret
    exact ⟨rfl, rfl⟩
set_option maxRecDepth 100000 in
set_option maxHeartbeats 2000000 in
theorem rsame_0 : Calls Tryz.prog 79 #[.agg #[.int .i64 0, .int .i64 n, .string t, .slice A l c], .agg #[.int .i64 0, .int .i64 n', .string t', .slice A' l' c']] w fun e w' => e = .returned (.bool (true)) ∧ Below w.heap.size w w' := by
  have HP := Lib.hid (fun w => rplain_any n t A l c w 0)
  have hp : plainB 0 = true := rfl
  rw [hp] at HP
  have HB0 := Lib.hid (((Below.refl w.heap.size w).alloc (Nat.le_refl _) (.cells #[.int .i64 0, .int .i64 n, .string t, .slice A l c] 25)).alloc (by simp) (.cells #[.int .i64 0, .int .i64 n', .string t', .slice A' l' c'] 25))
  go_enter Tryz.func79, Tryz.ntmps79
  go_wp2_with (go_at_call 78; refine (HP.out _).mono ?_; rintro e w1 ⟨rfl, rfl⟩)
  go_ret
  exact ⟨rfl, HB0.out.alloc HB0.out.size _⟩
set_option maxRecDepth 100000 in
set_option maxHeartbeats 2000000 in
theorem rsame_1 : Calls Tryz.prog 79 #[.agg #[.int .i64 1, .int .i64 n, .string t, .slice A l c], .agg #[.int .i64 1, .int .i64 n', .string t', .slice A' l' c']] w fun e w' => e = .returned (.bool ((n != 0) == (n' != 0))) ∧ Below w.heap.size w w' := by
  have HP := Lib.hid (fun w => rplain_any n t A l c w 1)
  have hp : plainB 1 = true := rfl
  rw [hp] at HP
  have HB0 := Lib.hid (((Below.refl w.heap.size w).alloc (Nat.le_refl _) (.cells #[.int .i64 1, .int .i64 n, .string t, .slice A l c] 25)).alloc (by simp) (.cells #[.int .i64 1, .int .i64 n', .string t', .slice A' l' c'] 25))
  go_enter Tryz.func79, Tryz.ntmps79
  go_wp2_with (go_at_call 78; refine (HP.out _).mono ?_; rintro e w1 ⟨rfl, rfl⟩)
  go_ret
  refine ⟨?_, HB0.out.alloc HB0.out.size _⟩
  congr 2
  simp only [bne]
  generalize (n == 0) = p
  generalize (n' == 0) = q
  cases p <;> cases q <;> rfl
set_option maxRecDepth 100000 in
set_option maxHeartbeats 2000000 in
theorem rsame_2 : Calls Tryz.prog 79 #[.agg #[.int .i64 2, .int .i64 n, .string t, .slice A l c], .agg #[.int .i64 2, .int .i64 n', .string t', .slice A' l' c']] w fun e w' => e = .returned (.bool (n == n')) ∧ Below w.heap.size w w' := by
  have HP := Lib.hid (fun w => rplain_any n t A l c w 2)
  have hp : plainB 2 = true := rfl
  rw [hp] at HP
  have HB0 := Lib.hid (((Below.refl w.heap.size w).alloc (Nat.le_refl _) (.cells #[.int .i64 2, .int .i64 n, .string t, .slice A l c] 25)).alloc (by simp) (.cells #[.int .i64 2, .int .i64 n', .string t', .slice A' l' c'] 25))
  go_enter Tryz.func79, Tryz.ntmps79
  go_wp2_with (go_at_call 78; refine (HP.out _).mono ?_; rintro e w1 ⟨rfl, rfl⟩)
  go_ret
  exact ⟨rfl, HB0.out.alloc HB0.out.size _⟩
set_option maxRecDepth 100000 in
set_option maxHeartbeats 2000000 in
theorem rsame_3 : Calls Tryz.prog 79 #[.agg #[.int .i64 3, .int .i64 n, .string t, .slice A l c], .agg #[.int .i64 3, .int .i64 n', .string t', .slice A' l' c']] w fun e w' => e = .returned (.bool (t.toList == t'.toList)) ∧ Below w.heap.size w w' := by
  have HP := Lib.hid (fun w => rplain_any n t A l c w 3)
  have hp : plainB 3 = true := rfl
  rw [hp] at HP
  have HB0 := Lib.hid (((Below.refl w.heap.size w).alloc (Nat.le_refl _) (.cells #[.int .i64 3, .int .i64 n, .string t, .slice A l c] 25)).alloc (by simp) (.cells #[.int .i64 3, .int .i64 n', .string t', .slice A' l' c'] 25))
  go_enter Tryz.func79, Tryz.ntmps79
  go_wp2_with (go_at_call 78; refine (HP.out _).mono ?_; rintro e w1 ⟨rfl, rfl⟩)
  go_ret
  exact ⟨rfl, HB0.out.alloc HB0.out.size _⟩
end
end Dp
end Go.Proofs.YtgpemnmopogppaaGreatDoor
