/- DeepEqual: the law's walk. -/
import Derived.Test.YthdnflklhhfojaaGreatDoorDpO
import Derived.Test.YthdnflklhhfojaaGreatDoorDpS
import Derived.Test.YthdnflklhhfojaaGreatDoorMx08
namespace Go.Proofs.YthdnflklhhfojaaGreatDoor
open Go Go.RowKit
namespace Dp
open Go.Proofs.YthdnflklhhfojaaGreatDoor.Nm (numericL)
theorem keyS_comm (b b' : Bool) (i i' : Int) (s s' : ByteArray) : (b = b' ∧ i = i' ∧ s = s') ↔ (b' = b ∧ i' = i ∧ s' = s) := ⟨fun ⟨a, b, c⟩ => ⟨a.symm, b.symm, c.symm⟩, fun ⟨a, b, c⟩ => ⟨a.symm, b.symm, c.symm⟩⟩
theorem sameP_comm (k n : Int) (t : ByteArray) (n' : Int) (t' : ByteArray) : sameP k n t n' t' = sameP k n' t' n t := by
  unfold sameP
  split
  · exact Bool.beq_comm
  · split
    · exact Bool.beq_comm
    · split
      · rfl
      · exact Bool.beq_comm
mutual
theorem alike_comm : ∀ g g' : GV, alikeV g g' = alikeV g' g
  | .mk k n t l, .mk k' n' t' l' => by
    rw [alikeV, alikeV]
    by_cases hk : k = k'
    · subst hk
      rw [if_neg (fun h : k ≠ k => h rfl), if_neg (fun h : k ≠ k => h rfl)]
      by_cases h1 : 0 ≤ k ∧ k ≤ 3
      · rw [if_pos h1, if_pos h1, sameP_comm]
      · rw [if_neg h1, if_neg h1]
        by_cases h5 : k = 5
        · rw [if_pos h5, if_pos h5]
          exact Bool.beq_comm
        · rw [if_neg h5, if_neg h5]
          by_cases h4 : k ≠ 4
          · rw [if_pos h4, if_pos h4]
          · rw [if_neg h4, if_neg h4]
            by_cases hl : l.length ≠ l'.length
            · rw [if_pos hl, if_pos (show l'.length ≠ l.length from fun e => hl e.symm)]
            · rw [if_neg hl, if_neg (show ¬ (l'.length ≠ l.length) from fun h => hl (fun e => h e.symm))]
              exact alikeL_comm l l'
    · rw [if_pos (show k ≠ k' from hk), if_pos (show k' ≠ k from fun e => hk e.symm)]
theorem alikeL_comm : ∀ l l' : List GI, alikeL l l' = alikeL l' l
  | .mk b i s v :: l, .mk b' i' s' v' :: l' => by
    rw [alikeL, alikeL]
    by_cases hk : b = b' ∧ i = i' ∧ s = s'
    · rw [if_neg (show ¬ ¬ (b = b' ∧ i = i' ∧ s = s') from fun h => h hk), if_neg (show ¬ ¬ (b' = b ∧ i' = i ∧ s' = s) from fun h => h ((keyS_comm ..).1 hk)), alike_comm v v', alikeL_comm l l']
    · rw [if_pos hk, if_pos (show ¬ (b' = b ∧ i' = i ∧ s' = s) from fun h => hk ((keyS_comm ..).1 h))]
  | [], [] => rfl
  | [], .mk _ _ _ _ :: _ => by simp [alikeL]
  | .mk _ _ _ _ :: _, [] => by simp [alikeL]
end
theorem sameP_refl (k n : Int) (t : ByteArray) : sameP k n t n t = true := by
  unfold sameP
  split
  · simp
  · split
    · simp
    · split
      · rfl
      · simp
mutual
theorem alike_refl : ∀ g : GV, Good g → alikeV g g = true
  | .mk k n t l, h => by
    cases h with
    | mk _ _ _ _ h0 h5 hn hd h2 =>
    rw [alikeV, if_neg (by simp)]
    by_cases h1 : 0 ≤ k ∧ k ≤ 3
    · rw [if_pos h1, sameP_refl]
    · rw [if_neg h1]
      by_cases h5' : k = 5
      · rw [if_pos h5']
        simp
      · rw [if_neg h5', if_neg (by omega), if_neg (by simp)]
        exact alikeL_refl l h2
theorem alikeL_refl : ∀ l : List GI, (∀ (i : Nat) (it : GI), l[i]? = some it → Good it.val) → alikeL l l = true
  | [], _ => by simp [alikeL]
  | .mk b i s v :: l, h => by
    rw [alikeL, if_neg (by simp), if_pos (alike_refl v (h 0 _ rfl))]
    exact alikeL_refl l fun i it hi => h (i + 1) it hi
end
theorem truths_self (p : Bool) : truthsI p p = 0 := by cases p <;> rfl
theorem cmpI_self (n : Int) : cmpI n n = 0 := by unfold cmpI; rw [if_neg (by omega), if_neg (by omega)]
theorem cmpT_self (t : ByteArray) : cmpT t t = 0 := cmp_self _
theorem toList_inj' {a b : ByteArray} (h : a.toList = b.toList) : a = b := by
  rw [ByteArray.toList_eq, ByteArray.toList_eq] at h
  exact ByteArray.ext (Array.toList_inj.mp h)
/-- Plain values that are the same are equal. -/
theorem same_ord (k n : Int) (t : ByteArray) (n' : Int) (t' : ByteArray) (h0 : 0 ≤ k) (h3 : k ≤ 3) (h : sameP k n t n' t' = true) : orderP k n t k n' t' = 0 := by
  obtain rfl | rfl | rfl | rfl : k = 0 ∨ k = 1 ∨ k = 2 ∨ k = 3 := by omega
  · exact truths_self false
  · have h2 : ((n != 0) == (n' != 0)) = true := h
    have h4 : (n != 0) = (n' != 0) := by simpa using h2
    show truthsI (n != 0) (n' != 0) = 0
    rw [h4]
    exact truths_self _
  · have h2 : (n == n') = true := h
    obtain rfl : n = n' := by simpa using h2
    exact cmpI_self n
  · have h2 : (t.toList == t'.toList) = true := h
    obtain rfl := toList_inj' (by simpa using h2)
    unfold orderP
    rw [if_neg (by decide), if_neg (by decide), if_neg (by decide), if_neg (by decide)]
    cases e1 : numP 3 n t with
    | none =>
      cases numP 3 n' t with
      | none => exact cmpT_self t
      | some m => exact cmpT_self t
    | some m =>
      cases e2 : numP 3 n' t with
      | none => exact cmpT_self t
      | some m' =>
        have h5 : numericL t.data.toList = some m := e1
        have h6 : numericL t.data.toList = some m' := e2
        rw [h5] at h6
        cases h6
        exact cmpI_self m
theorem findK_at : ∀ (ks : List (Bool × Int × ByteArray)) (k : Bool × Int × ByteArray) (i : Nat) (o : Int), ks[i]? = some k → k ∉ ks.take i → findK ks k o = o + i
  | [], _, _, _, h, _ => by simp at h
  | a :: r, k, 0, o, h, _ => by
    have e : a = k := by simpa using h
    rw [findK, if_pos e]
    simp
  | a :: r, k, i + 1, o, h, hn => by
    rw [List.take_succ_cons, List.mem_cons, not_or] at hn
    rw [findK, if_neg (fun e => hn.1 e.symm), findK_at r k i (o + 1) (by simpa using h) hn.2]
    omega
theorem alikeL_get : ∀ (l l' : List GI), l.length = l'.length → alikeL l l' = true → ∀ (i : Nat) (it : GI), l[i]? = some it → ∃ it', l'[i]? = some it' ∧ GI.keyG it = GI.keyG it' ∧ alikeV it.val it'.val = true
  | [], _, _, _, i, it, h => by simp at h
  | .mk b j s v :: l, [], hl, _, _, _, _ => by simp at hl
  | .mk b j s v :: l, .mk b' j' s' v' :: l', hl, ha, i, it, h => by
    rw [alikeL] at ha
    by_cases hk : ¬ (b = b' ∧ j = j' ∧ s = s')
    · rw [if_pos hk] at ha
      cases ha
    · rw [if_neg hk] at ha
      have hk' : b = b' ∧ j = j' ∧ s = s' := Classical.not_not.1 hk
      obtain ⟨rfl, rfl, rfl⟩ := hk'
      by_cases hv : alikeV v v' = true
      · rw [if_pos hv] at ha
        cases i with
        | zero =>
          have e : GI.mk b j s v = it := by simpa using h
          subst e
          exact ⟨_, rfl, rfl, hv⟩
        | succ i =>
          obtain ⟨it', h1, h2, h3⟩ := alikeL_get l l' (by simpa using hl) ha i it (by simpa using h)
          exact ⟨it', by simpa using h1, h2, h3⟩
      · rw [if_neg hv] at ha
        cases ha
theorem missL_yes : ∀ (l : List GI) (ks : List (Bool × Int × ByteArray)), (∀ (j : Nat) (it : GI), l[j]? = some it → GI.keyG it ∈ ks) → missL l ks = false
  | [], _, _ => rfl
  | a :: l, ks, h => by
    rw [missL, if_pos (h 0 a rfl)]
    exact missL_yes l ks fun j it hj => h (j + 1) it (by simpa using hj)
mutual
theorem alike_ord : ∀ g g' : GV, Good g → Good g' → alikeV g g' = true → ordV g g' = 0
  | .mk k n t l, .mk k' n' t' l', hG, hG', ha => by
    cases hG with
    | mk _ _ _ _ h0 h5 hn hd h2 =>
    cases hG' with
    | mk _ _ _ _ h0' h5' hn' hd' h2' =>
    rw [alikeV] at ha
    by_cases hk : k = k'
    · subst hk
      rw [if_neg (by simp)] at ha
      rw [ordV]
      by_cases h3 : 0 ≤ k ∧ k ≤ 3
      · rw [if_pos h3] at ha
        rw [if_pos ⟨h3.2, h3.2⟩]
        exact same_ord k n t n' t' h3.1 h3.2 ha
      · rw [if_neg h3] at ha
        rw [if_neg (by omega), if_neg (by omega)]
        by_cases h55 : k = 5
        · rw [if_pos h55] at ha
          rw [if_neg (by omega), if_pos ⟨h55, h55⟩, if_pos (by simpa using ha)]
        · rw [if_neg h55] at ha
          have h4 : k = 4 := by omega
          rw [if_neg (by omega)] at ha
          rw [if_pos ⟨h4, h4⟩]
          by_cases hl : l.length ≠ l'.length
          · rw [if_pos hl] at ha
            cases ha
          · rw [if_neg hl] at ha
            have hle : l.length = l'.length := Classical.not_not.1 hl
            rw [if_neg (by omega), if_neg (by omega)]
            have hg := alikeL_get l l' hle ha
            have hm : missL l (l'.map GI.keyG) = false := missL_yes l _ fun j it hj => by
              obtain ⟨it', a1, a2, -⟩ := hg j it hj
              rw [a2]
              exact List.mem_map_of_mem (List.mem_of_getElem? a1)
            rw [hm, if_neg (by decide)]
            refine alike_ordL l l' 0 fun i it hi => ?_
            obtain ⟨it', a1, a2, a3⟩ := hg i it hi
            have hf : findK (l'.map GI.keyG) (GI.keyG it) 0 = 0 + (i : Int) := by
              refine findK_at _ _ i 0 (by rw [List.getElem?_map, a1, a2]; rfl) ?_
              have := hd' i it' a1
              unfold keysOf at this
              rw [a2, ← List.map_take]
              exact this
            exact ⟨it', by simpa using a1, a3, h2 i it hi, h2' i it' a1, by rw [hf]; omega⟩
    · rw [if_pos hk] at ha
      cases ha
theorem alike_ordL : ∀ (r l' : List GI) (j : Nat), (∀ (i : Nat) (it : GI), r[i]? = some it → ∃ it', l'[j + i]? = some it' ∧ alikeV it.val it'.val = true ∧ Good it.val ∧ Good it'.val ∧ findK (l'.map GI.keyG) (GI.keyG it) 0 = ((j + i : Nat) : Int)) → ordL r l' = 0
  | [], _, _, _ => by rw [ordL]
  | .mk b i s v :: r, l', j, h => by
    obtain ⟨it', a1, a2, a3, a4, a5⟩ := h 0 _ rfl
    have a6 : findK (l'.map GI.keyG) (b, i, s) 0 = ((j + 0 : Nat) : Int) := a5
    have a7 : l'[(findK (l'.map GI.keyG) (b, i, s) 0).toNat]? = some it' := by
      rw [a6, Int.toNat_natCast]
      exact a1
    rw [ordL, a7]
    have hv : ordV v it'.val = 0 := alike_ord v it'.val a3 a4 a2
    simp only [hv, if_true]
    exact alike_ordL r l' (j + 1) fun i it hi => by
      obtain ⟨x, b1, b2, b3, b4, b5⟩ := h (i + 1) it (by simpa using hi)
      exact ⟨x, by rw [← b1]; congr 1; omega, b2, b3, b4, by rw [b5]; omega⟩
end
theorem same_comm (g g' : GV) : sameB g g' = sameB g' g := by
  unfold sameB
  rw [alike_comm g g']
  cases fewB g <;> cases fewB g' <;> rfl
theorem same_refl {g : GV} (h : rightB g = true) : sameB g g = true := by
  have hg := good_of_right h
  unfold rightB at h
  rw [Bool.and_eq_true] at h
  unfold sameB
  rw [h.1, alike_refl g hg]
  rfl
theorem loose_of_same {g g' : GV} (hs : sameB g g' = true) (hE : ordE g g' = 0) : looseB g g' = true := by
  have hr : rightB g = true ∧ rightB g' = true := by
    unfold ordE at hE
    by_cases h : rightB g = true ∧ rightB g' = true
    · exact h
    · rw [if_neg h] at hE
      cases hE
  have ha : alikeV g g' = true := by
    unfold sameB at hs
    rw [Bool.and_eq_true, Bool.and_eq_true] at hs
    exact hs.2.2
  unfold looseB
  rw [hE]
  unfold ordN
  rw [if_pos hr, alike_ord g g' (good_of_right hr.1) (good_of_right hr.2) ha]
  rfl
end Dp
open Dp
set_option maxRecDepth 100000 in
set_option maxHeartbeats 4000000 in
theorem deepEqual_any {w : World} {g g' : GV} {x x' : Value} (h : VAt w w.heap.size g x) (hf : Fit g) (h' : VAt w w.heap.size g' x') (hf' : Fit g') (hL : LibS w) :
    Calls Tryz.prog 9 #[x, x'] w fun e w' => e = .returned (.bool true) ∧ Below w.heap.size w w' := by
  have hLib := fun (w' : World) (hb : Below w.heap.size w w') => hL.below' hb (Nat.le_refl _)
  have HLo := Lib.hid (fun w1 hz => loose_any (Nat.le_refl _) hLib h hf h' hf' w1 hz)
  have HR := Lib.hid (fun w1 hz => right_any (Nat.le_refl _) hLib h hf w1 hz)
  have HAl := Lib.hid (fun (w' : World) (hb : Below w.heap.size w w') => alive08 w' (hLib w' hb))
  have hcm := same_comm g' g
  have hrf : rightB g = true → sameB g g = true := same_refl
  have hlo : sameB g g' = true → ordE g g' = 0 → looseB g g' = true := loose_of_same
  have hc := ordE_cases g g'
  have Hh := Lib.hid h
  have Hk := Lib.hid h'
  obtain ⟨k, n, t, A, l, c, rfl⟩ := vagg h
  obtain ⟨k', n', t', A', l', c', rfl⟩ := vagg h'
  have HU := Lib.hid (Two.made w #[.int .i64 k, .int .i64 n, .string t, .slice A l c] #[.int .i64 k', .int .i64 n', .string t', .slice A' l' c'])
  clear h h' hf hf' hL hLib
  have HSf := Lib.hid hrf
  have HLf := Lib.hid hlo
  have HCc := Lib.hid hc
  clear hrf hlo hc
  cases q1 : sameB g g' with
  | false =>
    rw [q1] at hcm
    cases q4 : rightB g with
    | false =>
      go_enter Tryz.func9, Tryz.ntmps9
      go_wp2_with (first | (go_at_call 25; refine (same_any (Nat.le_refl _) (by first | exact Hh.out | exact Hk.out) (by first | exact Hh.out | exact Hk.out) _ HU.out.1).mono ?_; rintro e w1 ⟨rfl, hb⟩; have HU := Lib.hid (HU.out.next hb); clear hb; obtain ⟨x0, x1, x2, x3, y0, y1, y2, y3⟩ := HU.out.cells) | (go_at_call 24; refine (HLo.out _ HU.out.1).mono ?_; rintro e w1 ⟨rfl, hb⟩; have HU := Lib.hid (HU.out.next hb); clear hb; obtain ⟨x0, x1, x2, x3, y0, y1, y2, y3⟩ := HU.out.cells) | (go_at_call 18; refine (HR.out _ HU.out.1).mono ?_; rintro e w1 ⟨rfl, hb⟩; have HU := Lib.hid (HU.out.next hb); clear hb; obtain ⟨x0, x1, x2, x3, y0, y1, y2, y3⟩ := HU.out.cells) | (go_at_call 17; refine (HAl.out _ HU.out.1).mono ?_; rintro e w1 ⟨rfl, hb⟩; have HU := Lib.hid (HU.out.next hb); clear hb; obtain ⟨x0, x1, x2, x3, y0, y1, y2, y3⟩ := HU.out.cells))
      go_ret
      exact ⟨rfl, HU.out.1⟩
    | true =>
      have q3 := HSf.out q4
      go_enter Tryz.func9, Tryz.ntmps9
      go_wp2_with (first | (go_at_call 25; refine (same_any (Nat.le_refl _) (by first | exact Hh.out | exact Hk.out) (by first | exact Hh.out | exact Hk.out) _ HU.out.1).mono ?_; rintro e w1 ⟨rfl, hb⟩; have HU := Lib.hid (HU.out.next hb); clear hb; obtain ⟨x0, x1, x2, x3, y0, y1, y2, y3⟩ := HU.out.cells) | (go_at_call 24; refine (HLo.out _ HU.out.1).mono ?_; rintro e w1 ⟨rfl, hb⟩; have HU := Lib.hid (HU.out.next hb); clear hb; obtain ⟨x0, x1, x2, x3, y0, y1, y2, y3⟩ := HU.out.cells) | (go_at_call 18; refine (HR.out _ HU.out.1).mono ?_; rintro e w1 ⟨rfl, hb⟩; have HU := Lib.hid (HU.out.next hb); clear hb; obtain ⟨x0, x1, x2, x3, y0, y1, y2, y3⟩ := HU.out.cells) | (go_at_call 17; refine (HAl.out _ HU.out.1).mono ?_; rintro e w1 ⟨rfl, hb⟩; have HU := Lib.hid (HU.out.next hb); clear hb; obtain ⟨x0, x1, x2, x3, y0, y1, y2, y3⟩ := HU.out.cells))
      go_ret
      exact ⟨rfl, HU.out.1⟩
  | true =>
    rw [q1] at hcm
    rcases HCc.out with hE | ⟨hE, -⟩
    · have q5 := HLf.out q1 hE
      rw [q5, hE] at HLo
      cases q4 : rightB g with
      | false =>
        go_enter Tryz.func9, Tryz.ntmps9
        go_wp2_with (first | (go_at_call 25; refine (same_any (Nat.le_refl _) (by first | exact Hh.out | exact Hk.out) (by first | exact Hh.out | exact Hk.out) _ HU.out.1).mono ?_; rintro e w1 ⟨rfl, hb⟩; have HU := Lib.hid (HU.out.next hb); clear hb; obtain ⟨x0, x1, x2, x3, y0, y1, y2, y3⟩ := HU.out.cells) | (go_at_call 24; refine (HLo.out _ HU.out.1).mono ?_; rintro e w1 ⟨rfl, hb⟩; have HU := Lib.hid (HU.out.next hb); clear hb; obtain ⟨x0, x1, x2, x3, y0, y1, y2, y3⟩ := HU.out.cells) | (go_at_call 18; refine (HR.out _ HU.out.1).mono ?_; rintro e w1 ⟨rfl, hb⟩; have HU := Lib.hid (HU.out.next hb); clear hb; obtain ⟨x0, x1, x2, x3, y0, y1, y2, y3⟩ := HU.out.cells) | (go_at_call 17; refine (HAl.out _ HU.out.1).mono ?_; rintro e w1 ⟨rfl, hb⟩; have HU := Lib.hid (HU.out.next hb); clear hb; obtain ⟨x0, x1, x2, x3, y0, y1, y2, y3⟩ := HU.out.cells))
        go_ret
        exact ⟨rfl, HU.out.1⟩
      | true =>
        have q3 := HSf.out q4
        go_enter Tryz.func9, Tryz.ntmps9
        go_wp2_with (first | (go_at_call 25; refine (same_any (Nat.le_refl _) (by first | exact Hh.out | exact Hk.out) (by first | exact Hh.out | exact Hk.out) _ HU.out.1).mono ?_; rintro e w1 ⟨rfl, hb⟩; have HU := Lib.hid (HU.out.next hb); clear hb; obtain ⟨x0, x1, x2, x3, y0, y1, y2, y3⟩ := HU.out.cells) | (go_at_call 24; refine (HLo.out _ HU.out.1).mono ?_; rintro e w1 ⟨rfl, hb⟩; have HU := Lib.hid (HU.out.next hb); clear hb; obtain ⟨x0, x1, x2, x3, y0, y1, y2, y3⟩ := HU.out.cells) | (go_at_call 18; refine (HR.out _ HU.out.1).mono ?_; rintro e w1 ⟨rfl, hb⟩; have HU := Lib.hid (HU.out.next hb); clear hb; obtain ⟨x0, x1, x2, x3, y0, y1, y2, y3⟩ := HU.out.cells) | (go_at_call 17; refine (HAl.out _ HU.out.1).mono ?_; rintro e w1 ⟨rfl, hb⟩; have HU := Lib.hid (HU.out.next hb); clear hb; obtain ⟨x0, x1, x2, x3, y0, y1, y2, y3⟩ := HU.out.cells))
        go_ret
        exact ⟨rfl, HU.out.1⟩
    · rw [hE] at HLo
      cases q4 : rightB g with
      | false =>
        go_enter Tryz.func9, Tryz.ntmps9
        go_wp2_with (first | (go_at_call 25; refine (same_any (Nat.le_refl _) (by first | exact Hh.out | exact Hk.out) (by first | exact Hh.out | exact Hk.out) _ HU.out.1).mono ?_; rintro e w1 ⟨rfl, hb⟩; have HU := Lib.hid (HU.out.next hb); clear hb; obtain ⟨x0, x1, x2, x3, y0, y1, y2, y3⟩ := HU.out.cells) | (go_at_call 24; refine (HLo.out _ HU.out.1).mono ?_; rintro e w1 ⟨rfl, hb⟩; have HU := Lib.hid (HU.out.next hb); clear hb; obtain ⟨x0, x1, x2, x3, y0, y1, y2, y3⟩ := HU.out.cells) | (go_at_call 18; refine (HR.out _ HU.out.1).mono ?_; rintro e w1 ⟨rfl, hb⟩; have HU := Lib.hid (HU.out.next hb); clear hb; obtain ⟨x0, x1, x2, x3, y0, y1, y2, y3⟩ := HU.out.cells) | (go_at_call 17; refine (HAl.out _ HU.out.1).mono ?_; rintro e w1 ⟨rfl, hb⟩; have HU := Lib.hid (HU.out.next hb); clear hb; obtain ⟨x0, x1, x2, x3, y0, y1, y2, y3⟩ := HU.out.cells))
        go_ret
        exact ⟨rfl, HU.out.1⟩
      | true =>
        have q3 := HSf.out q4
        go_enter Tryz.func9, Tryz.ntmps9
        go_wp2_with (first | (go_at_call 25; refine (same_any (Nat.le_refl _) (by first | exact Hh.out | exact Hk.out) (by first | exact Hh.out | exact Hk.out) _ HU.out.1).mono ?_; rintro e w1 ⟨rfl, hb⟩; have HU := Lib.hid (HU.out.next hb); clear hb; obtain ⟨x0, x1, x2, x3, y0, y1, y2, y3⟩ := HU.out.cells) | (go_at_call 24; refine (HLo.out _ HU.out.1).mono ?_; rintro e w1 ⟨rfl, hb⟩; have HU := Lib.hid (HU.out.next hb); clear hb; obtain ⟨x0, x1, x2, x3, y0, y1, y2, y3⟩ := HU.out.cells) | (go_at_call 18; refine (HR.out _ HU.out.1).mono ?_; rintro e w1 ⟨rfl, hb⟩; have HU := Lib.hid (HU.out.next hb); clear hb; obtain ⟨x0, x1, x2, x3, y0, y1, y2, y3⟩ := HU.out.cells) | (go_at_call 17; refine (HAl.out _ HU.out.1).mono ?_; rintro e w1 ⟨rfl, hb⟩; have HU := Lib.hid (HU.out.next hb); clear hb; obtain ⟨x0, x1, x2, x3, y0, y1, y2, y3⟩ := HU.out.cells))
        go_ret
        exact ⟨rfl, HU.out.1⟩
end Go.Proofs.YthdnflklhhfojaaGreatDoor
