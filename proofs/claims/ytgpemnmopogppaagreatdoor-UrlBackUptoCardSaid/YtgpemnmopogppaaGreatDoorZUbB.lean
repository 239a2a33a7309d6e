/- url: which lists of texts may come back; what is written of them: plain functions. -/
import Derived.Test.YtgpemnmopogppaaGreatDoorZUbA
import Derived.Test.YtgpemnmopogppaaGreatDoorZDpRr
import Derived.Lib.ItoaLen
namespace Go.Proofs.YtgpemnmopogppaaGreatDoor
open Go Go.RowKit
namespace Ub
open Go.Proofs.YtgpemnmopogppaaGreatDoor.Nm (normG)
open Go.Proofs.YtgpemnmopogppaaGreatDoor.Dp
open Go.Proofs.YtgpemnmopogppaaGreatDoor.Ut
open Go.Proofs.YtgpemnmopogppaaGreatDoor.Url (encL decF decF_enc)
def kindV : GV → Int
  | .mk k _ _ _ => k
def kT (b : Bool) (s : ByteArray) : List UInt8 := if b = true then s.data.toList else [48]
def badC (d : Nat) (c : UInt8) : Bool := if d = 0 then c == 32 || c == 46 || c == 91 else c == 93
mutual
/-- May a list of texts come back? d: within so many lists. -/
def goodV : GV → Nat → Bool
  | .mk _ _ _ l, d => if 62 < d ∨ l.length = 0 then false else goodL l d
def goodL : List GI → Nat → Bool
  | [], _ => true
  | .mk b _ s v :: r, d => if (kT b s).any (badC d) = true then false else if (kT b s).length = 0 then false else if kindV v = 3 then goodL r d else if kindV v = 4 then (if goodV v (d + 1) = true then goodL r d else false) else false
end
theorem goodL_drop (l : List GI) (j : Nat) (it : GI) (h : l[j]? = some it) (d : Nat) : goodL (l.drop j) d =
    if (kT it.isText it.text).any (badC d) = true then false else if (kT it.isText it.text).length = 0 then false else if kindV it.val = 3 then goodL (l.drop (j + 1)) d else if kindV it.val = 4 then (if goodV it.val (d + 1) = true then goodL (l.drop (j + 1)) d else false) else false := by
  obtain ⟨hj, rfl⟩ := List.getElem?_eq_some_iff.1 h
  rw [List.drop_eq_getElem_cons hj]
  cases l[j] with
  | mk b i s v => rw [goodL]; rfl
/-! ### what may be, and may come back -/
theorem may_all : ∀ (l : List GI) (m : List Key3) (n d : Int), mayL l m n d = true → (∀ it ∈ l, normG it.isText it.int it.text = GI.keyG it ∧ mayV it.val (d + 1) = true) ∧ (l.map GI.keyG).Nodup ∧ ∀ k ∈ l.map GI.keyG, k ∉ m
  | [], m, n, d, _ => ⟨fun it h => by simp at h, by simp, fun k h => by simp at h⟩
  | .mk b i s v :: l, m, n, d, h => by
    rw [mayL] at h
    split at h
    · cases h
    rename_i hn
    split at h
    · cases h
    rename_i hm
    split at h
    · rename_i hv
      split at h
      · cases h
      obtain ⟨h1, h2, h3⟩ := may_all l _ n d h
      refine ⟨fun it hit => ?_, ?_, fun k hk => ?_⟩
      · rcases List.mem_cons.1 hit with rfl | hit
        · exact ⟨Classical.not_not.1 hn, hv⟩
        · exact h1 it hit
      · rw [List.map_cons, List.nodup_cons]
        refine ⟨fun hin => ?_, h2⟩
        exact h3 _ hin (by simp [GI.keyG])
      · rw [List.map_cons] at hk
        rcases List.mem_cons.1 hk with rfl | hk
        · exact hm
        · exact fun hin => h3 k hk (List.mem_append_left _ hin)
    · cases h
theorem dig_all (n : Int) : ∀ c ∈ Lib.itoa n, c.toNat = 45 ∨ (48 ≤ c.toNat ∧ c.toNat ≤ 57) := by
  intro c hc
  unfold Lib.itoa at hc
  split at hc
  · rcases List.mem_cons.1 hc with rfl | h
    · exact .inl rfl
    · exact .inr (Nm.dec_all _ c h)
  · exact .inr (Nm.dec_all _ c hc)
theorem dig_ne (n : Int) : Lib.itoa n ≠ [] := by
  unfold Lib.itoa
  split
  · simp
  · obtain ⟨c, r, e, _⟩ := Nm.dec_head n.toNat
    rw [e]
    simp
theorem key_ok {b : Bool} {i : Int} {s : ByteArray} {d : Nat} (h1 : ¬ (kT b s).any (badC d) = true) (h2 : ¬ (kT b s).length = 0) : keyL (b, i, s) ≠ [] ∧ (0 < d → 93 ∉ keyL (b, i, s)) ∧ (d = 0 → 91 ∉ keyL (b, i, s) ∧ 32 ∉ keyL (b, i, s) ∧ 46 ∉ keyL (b, i, s)) := by
  cases b with
  | true =>
    have e : keyL (true, i, s) = kT true s := rfl
    rw [e]
    have h3 : ∀ c ∈ kT true s, badC d c = false := fun c hc => by
      cases hb : badC d c with
      | false => rfl
      | true => exact absurd (List.any_eq_true.2 ⟨c, hc, hb⟩) h1
    refine ⟨fun h => h2 (by rw [h]; rfl), fun hd hin => ?_, fun hd => ⟨fun hin => ?_, fun hin => ?_, fun hin => ?_⟩⟩
    · have := h3 _ hin
      unfold badC at this
      rw [if_neg (by omega)] at this
      exact absurd this (by decide)
    all_goals
      have := h3 _ hin
      unfold badC at this
      rw [if_pos hd] at this
      exact absurd this (by decide)
  | false =>
    have e : keyL (false, i, s) = Lib.itoa i := rfl
    rw [e]
    have hno : ∀ c : UInt8, ¬ (c.toNat = 45 ∨ (48 ≤ c.toNat ∧ c.toNat ≤ 57)) → c ∉ Lib.itoa i := fun c hc hin => hc (dig_all i c hin)
    exact ⟨dig_ne i, fun _ => hno 93 (by decide), fun _ => ⟨hno 91 (by decide), hno 32 (by decide), hno 46 (by decide)⟩⟩
theorem fit_at {k n : Int} {t : ByteArray} {l : List GI} (h : Fit (.mk k n t l)) : ∀ it ∈ l, In64 it.int ∧ Fit it.val := by
  cases h with
  | mk _ _ _ _ _ _ _ h1 h2 =>
    intro it hit
    obtain ⟨i, hi, rfl⟩ := List.getElem_of_mem hit
    exact ⟨(h1 i _ (List.getElem?_eq_getElem hi)).1, h2 i _ (List.getElem?_eq_getElem hi)⟩
mutual
theorem good_of : ∀ (g : GV) (d : Nat), kindV g = 4 → goodV g d = true → mayV g d = true → Fit g → GoodV d g
  | .mk k n t l, d, hk, hg, hm, hf => by
    obtain rfl : k = 4 := hk
    rw [goodV] at hg
    split at hg
    · cases hg
    rename_i h0
    rw [mayV, if_pos rfl] at hm
    split at hm
    · rename_i h1
      obtain ⟨m1, m2, _⟩ := may_all l _ _ _ hm
      have hF := fit_at hf
      have hl := good_ofL l d hg (fun it hit => by have := (m1 it hit).2; exact this) (fun it hit => (hF it hit).2)
      refine .node d n t l (by omega) (fun e => h0 (.inr (by rw [e]; rfl))) (by omega) m2 (fun it hit => ?_) (fun it hit => (hl it hit).2)
      have := (hl it hit).1
      exact ⟨(hF it hit).1, (m1 it hit).1, this⟩
    · cases hm
theorem good_ofL : ∀ (l : List GI) (d : Nat), goodL l d = true → (∀ it ∈ l, mayV it.val ((d : Int) + 1) = true) → (∀ it ∈ l, Fit it.val) →
    ∀ it ∈ l, (keyL (GI.keyG it) ≠ [] ∧ (0 < d → 93 ∉ keyL (GI.keyG it)) ∧ (d = 0 → 91 ∉ keyL (GI.keyG it) ∧ 32 ∉ keyL (GI.keyG it) ∧ 46 ∉ keyL (GI.keyG it))) ∧ GoodV (d + 1) it.val
  | [], d, _, _, _ => fun it h => by simp at h
  | .mk b i s v :: l, d, hg, hm, hf => by
    rw [goodL] at hg
    split at hg
    · cases hg
    rename_i h1
    split at hg
    · cases hg
    rename_i h2
    have hk := key_ok (i := i) h1 h2
    have hmv : mayV v ((d : Int) + 1) = true := hm (.mk b i s v) (List.mem_cons_self ..)
    have hfv : Fit v := hf (.mk b i s v) (List.mem_cons_self ..)
    have hcast : ((d + 1 : Nat) : Int) = (d : Int) + 1 := by omega
    by_cases h3 : kindV v = 3
    · rw [if_pos h3] at hg
      have ih := good_ofL l d hg (fun it h => hm it (List.mem_cons_of_mem _ h)) (fun it h => hf it (List.mem_cons_of_mem _ h))
      intro it hit
      rcases List.mem_cons.1 hit with rfl | hit
      · refine ⟨hk, ?_⟩
        show GoodV (d + 1) v
        cases v with
        | mk k' n' t' l' =>
          obtain rfl : k' = 3 := h3
          rw [mayV, if_neg (by decide)] at hmv
          have hl' : l' = [] := by
            cases l' with
            | nil => rfl
            | cons a r => simp at hmv
          subst hl'
          exact .leaf _ _ _
      · exact ih it hit
    · rw [if_neg h3] at hg
      by_cases h4 : kindV v = 4
      · rw [if_pos h4] at hg
        split at hg
        · rename_i hgv
          have ih := good_ofL l d hg (fun it h => hm it (List.mem_cons_of_mem _ h)) (fun it h => hf it (List.mem_cons_of_mem _ h))
          have hv := good_of v (d + 1) h4 hgv (by rw [hcast]; exact hmv) hfv
          intro it hit
          rcases List.mem_cons.1 hit with rfl | hit
          · exact ⟨hk, hv⟩
          · exact ih it hit
        · cases hg
      · rw [if_neg h4] at hg
        cases hg
end
/-! ### what is written -/
mutual
/-- How many bytes a value's texts have in all. -/
def bulkV : GV → Nat
  | .mk _ _ t l => t.size + bulkI l
def bulkI : List GI → Nat
  | [] => 0
  | .mk _ _ s v :: r => s.size + bulkV v + bulkI r
end
theorem bulk_at : ∀ (l : List GI) (it : GI), it ∈ l → it.text.size + bulkV it.val ≤ bulkI l
  | [], it, h => by simp at h
  | .mk b i s v :: l, it, h => by
    rw [bulkI]
    rcases List.mem_cons.1 h with rfl | h
    · show s.size + bulkV v ≤ _
      omega
    · have := bulk_at l it h
      omega
theorem cnt_at : ∀ (l : List GI) (it : GI), it ∈ l → cntV it.val ≤ cntI l
  | [], it, h => by simp at h
  | .mk b i s v :: l, it, h => by
    rw [cntI]
    rcases List.mem_cons.1 h with rfl | h
    · show cntV v ≤ _
      omega
    · have := cnt_at l it h
      omega
theorem keyL_len {b : Bool} {i : Int} {s : ByteArray} (hi : In64 i) : (keyL (b, i, s)).length ≤ s.size + 21 := by
  unfold keyL
  split
  · simp
  · have := Lib.itoa_length_le i hi.1 hi.2
    show (Lib.itoa i).length ≤ _
    omega
/-- A pair's bytes. -/
def onePair (name : List UInt8) (t : ByteArray) : List UInt8 := encL name ++ 61 :: encL t.data.toList
mutual
/-- A value's pairs under a name. -/
def pairsV : List UInt8 → GV → List (List UInt8)
  | name, .mk k _ t l => if k = 4 then pairsI name l else [onePair name t]
def pairsI : List UInt8 → List GI → List (List UInt8)
  | _, [] => []
  | name, .mk b i s v :: r => pairsV (name ++ 91 :: (keyL (b, i, s) ++ [93])) v ++ pairsI name r
end
/-- A list's pairs. -/
def buildI : List GI → List (List UInt8)
  | [] => []
  | .mk b i s v :: r => pairsV (keyL (b, i, s)) v ++ buildI r
theorem pairsI_app (name : List UInt8) : ∀ a b : List GI, pairsI name (a ++ b) = pairsI name a ++ pairsI name b
  | [], b => by simp [pairsI]
  | .mk _ _ _ _ :: a, b => by rw [List.cons_append, pairsI, pairsI, pairsI_app name a b, List.append_assoc]
theorem buildI_app : ∀ a b : List GI, buildI (a ++ b) = buildI a ++ buildI b
  | [], b => by simp [buildI]
  | .mk _ _ _ _ :: a, b => by rw [List.cons_append, buildI, buildI, buildI_app a b, List.append_assoc]
theorem pairsI_take (name : List UInt8) (l : List GI) (j : Nat) (it : GI) (h : l[j]? = some it) : pairsI name (l.take (j + 1)) = pairsI name (l.take j) ++ pairsV (name ++ 91 :: (keyL (GI.keyG it) ++ [93])) it.val := by
  rw [List.take_add_one, h, pairsI_app]
  cases it with
  | mk b i s v => show _ ++ (pairsV _ _ ++ []) = _; rw [List.append_nil]; rfl
theorem buildI_take (l : List GI) (j : Nat) (it : GI) (h : l[j]? = some it) : buildI (l.take (j + 1)) = buildI (l.take j) ++ pairsV (keyL (GI.keyG it)) it.val := by
  rw [List.take_add_one, h, buildI_app]
  cases it with
  | mk b i s v => show _ ++ (pairsV _ _ ++ []) = _; rw [List.append_nil]; rfl
theorem cntI_take : ∀ (l : List GI) (j : Nat), (l.take j).length + cntI (l.take j) ≤ l.length + cntI l
  | [], j => by simp [cntI]
  | .mk b i s v :: l, 0 => by simp [cntI]
  | .mk b i s v :: l, j + 1 => by
    have := cntI_take l j
    rw [List.take_succ_cons, cntI, cntI, List.length_cons, List.length_cons]
    omega
mutual
theorem pairsV_len : ∀ (name : List UInt8) (g : GV), (pairsV name g).length ≤ 1 + cntV g
  | name, .mk k n t l => by
    rw [pairsV, cntV]
    split
    · have := pairsI_len name l
      omega
    · simp
theorem pairsI_len : ∀ (name : List UInt8) (l : List GI), (pairsI name l).length ≤ l.length + cntI l
  | name, [] => by simp [pairsI, cntI]
  | name, .mk b i s v :: r => by
    rw [pairsI, cntI, List.length_append, List.length_cons]
    have := pairsV_len (name ++ 91 :: (keyL (b, i, s) ++ [93])) v
    have := pairsI_len name r
    omega
end
theorem buildI_len : ∀ l : List GI, (buildI l).length ≤ l.length + cntI l
  | [] => by simp [buildI, cntI]
  | .mk b i s v :: r => by
    rw [buildI, cntI, List.length_append, List.length_cons]
    have := pairsV_len (keyL (b, i, s)) v
    have := buildI_len r
    omega
def stepsF (r : List (List UInt8)) : List UInt8 := r.flatMap fun s => 91 :: (s ++ [93])
mutual
theorem pairsV_leaves : ∀ (name : List UInt8) (g : GV), pairsV name g = (leavesV g).map fun p => onePair (name ++ stepsF p.1) p.2
  | name, .mk k n t l => by
    rw [pairsV, leavesV]
    split
    · exact pairsI_leaves name l
    · simp [stepsF]
theorem pairsI_leaves : ∀ (name : List UInt8) (l : List GI), pairsI name l = (leavesI l).map fun p => onePair (name ++ stepsF p.1) p.2
  | name, [] => by simp [pairsI, leavesI]
  | name, .mk b i s v :: r => by
    rw [pairsI, leavesI, List.map_append, pairsI_leaves name r, pairsV_leaves _ v, List.map_map]
    congr 1
    apply List.map_congr_left
    intro p _
    show onePair _ _ = onePair _ _
    congr 1
    simp [under, stepsF]
end
theorem buildI_leaves : ∀ l : List GI, buildI l = (leavesI l).map pieceL
  | [] => by simp [buildI, leavesI]
  | .mk b i s v :: r => by
    rw [buildI, leavesI, List.map_append, buildI_leaves r, pairsV_leaves _ v, List.map_map]
    congr 1
/-! ### how long it is -/
mutual
theorem leaf_bulk : ∀ (g : GV), Fit g → ∀ p ∈ leavesV g, (stepsF p.1).length + p.2.size ≤ bulkV g + 23 * p.1.length
  | .mk k n t l, hf, p, hp => by
    rw [leavesV] at hp
    rw [bulkV]
    split at hp
    · have := leaf_bulkI l (fit_at hf) p hp
      omega
    · rw [List.mem_singleton] at hp
      subst hp
      simp [stepsF]
theorem leaf_bulkI : ∀ (l : List GI), (∀ it ∈ l, In64 it.int ∧ Fit it.val) → ∀ p ∈ leavesI l, (stepsF p.1).length + p.2.size ≤ bulkI l + 23 * p.1.length
  | [], _, p, hp => by simp [leavesI] at hp
  | .mk b i s v :: l, hf, p, hp => by
    rw [leavesI, List.mem_append] at hp
    rw [bulkI]
    rcases hp with hp | hp
    · obtain ⟨q, hq, rfl⟩ := List.mem_map.1 hp
      have h1 := hf (.mk b i s v) (List.mem_cons_self ..)
      have h2 := leaf_bulk v h1.2 q hq
      have h3 := keyL_len (b := b) (s := s) (show In64 i from h1.1)
      simp only [under, stepsF, List.flatMap_cons, List.length_append, List.length_cons, List.length_nil] at h2 ⊢
      omega
    · have := leaf_bulkI l (fun it h => hf it (List.mem_cons_of_mem _ h)) p hp
      omega
end
theorem nameL_len (r : List (List UInt8)) : (nameL r).length ≤ (stepsF r).length := by
  cases r with
  | nil => exact Nat.zero_le _
  | cons h r =>
    rw [show nameL (h :: r) = h ++ stepsF r from rfl, show stepsF (h :: r) = (91 :: (h ++ [93])) ++ stepsF r from rfl]
    simp
    omega
theorem piece_len {g : GV} (hf : Fit g) (hb : bulkV g ≤ 1048576) {p : Leaf} (hp : p ∈ leavesV g) (hd : p.1.length ≤ 64) : (encL (nameL p.1)).length ≤ 3150144 ∧ (encL p.2.data.toList).length ≤ 3150144 ∧ (pieceL p).length ≤ 3150145 := by
  have h1 := leaf_bulk g hf p hp
  have h2 := nameL_len p.1
  have h3 := Url.encL_len (nameL p.1)
  have h4 := Url.encL_len p.2.data.toList
  have h5 : p.2.data.toList.length = p.2.size := by simp
  unfold pieceL
  rw [List.length_append, List.length_cons]
  omega
theorem joinQ_len (N : Nat) : ∀ l : List (List UInt8), (∀ x ∈ l, x.length ≤ N) → (joinQ l).length ≤ l.length * (N + 1)
  | [], _ => by simp [joinQ]
  | [x], h => by
    have := h x (List.mem_cons_self ..)
    rw [joinQ]
    simp
    omega
  | x :: y :: r, h => by
    have h1 := h x (List.mem_cons_self ..)
    have h2 := joinQ_len N (y :: r) fun z hz => h z (List.mem_cons_of_mem _ hz)
    rw [joinQ, List.length_append, List.length_cons, List.length_cons, Nat.add_mul]
    omega
end Ub
end Go.Proofs.YtgpemnmopogppaaGreatDoor
