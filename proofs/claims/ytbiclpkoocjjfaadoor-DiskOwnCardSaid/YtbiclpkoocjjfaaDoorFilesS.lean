/- Plain laws: the order of texts; a list of files in that order, no path twice, is known by its members. -/
import Derived.Test.YtbiclpkoocjjfaaDoorSimS
import Derived.Test.YtbiclpkoocjjfaaDoorSort
import Derived.Lib.Bytealg
import Derived.Laws.Cover1
namespace Go.Proofs.YtbiclpkoocjjfaaDoor
open Go.Lib Go.Maps

abbrev cmpB := Lib.compareBytes
theorem cmp_neg : ∀ x y : List UInt8, cmpB y x = - cmpB x y
  | [], [] => rfl
  | [], _ :: _ => rfl
  | _ :: _, [] => rfl
  | a :: x, b :: y => by
    show Lib.compareBytes _ _ = - Lib.compareBytes _ _
    unfold Lib.compareBytes
    by_cases h1 : a < b
    · have h2 : ¬ b < a := fun h => by have := UInt8.lt_iff_toNat_lt.1 h1; have := UInt8.lt_iff_toNat_lt.1 h; omega
      rw [if_pos h1, if_neg h2, if_pos h1]; rfl
    · by_cases h2 : b < a
      · rw [if_pos h2, if_neg h1, if_pos h2]
      · rw [if_neg h2, if_neg h1, if_neg h1, if_neg h2]; exact cmp_neg x y
theorem cmp_self : ∀ x : List UInt8, cmpB x x = 0
  | [] => rfl
  | a :: x => by
    have h : ¬ a < a := fun h => by have := UInt8.lt_iff_toNat_lt.1 h; omega
    show Lib.compareBytes _ _ = 0
    unfold Lib.compareBytes
    rw [if_neg h, if_neg h]; exact cmp_self x
theorem cmp_eq : ∀ x y : List UInt8, cmpB x y = 0 → x = y
  | [], [], _ => rfl
  | [], _ :: _, h => by cases h
  | _ :: _, [], h => by cases h
  | a :: x, b :: y, h => by
    replace h : Lib.compareBytes (a :: x) (b :: y) = 0 := h
    unfold Lib.compareBytes at h
    by_cases h1 : a < b
    · rw [if_pos h1] at h; cases h
    · by_cases h2 : b < a
      · rw [if_neg h1, if_pos h2] at h; cases h
      · rw [if_neg h1, if_neg h2] at h
        have e : a = b := UInt8.toNat_inj.1 (by
          have a1 : ¬ a.toNat < b.toNat := fun e => h1 (UInt8.lt_iff_toNat_lt.2 e)
          have a2 : ¬ b.toNat < a.toNat := fun e => h2 (UInt8.lt_iff_toNat_lt.2 e)
          omega)
        rw [e, cmp_eq x y h]
theorem cmp_trans : ∀ x y z : List UInt8, cmpB x y < 0 → cmpB y z < 0 → cmpB x z < 0
  | [], [], _, h, _ => by cases h
  | [], _ :: _, [], _, h => by cases h
  | [], _ :: _, _ :: _, _, _ => by show (-1 : Int) < 0; decide
  | _ :: _, [], _, h, _ => by cases h
  | _ :: _, _ :: _, [], _, h => by cases h
  | a :: x, b :: y, c :: z, h1, h2 => by
    replace h1 : Lib.compareBytes (a :: x) (b :: y) < 0 := h1
    replace h2 : Lib.compareBytes (b :: y) (c :: z) < 0 := h2
    show Lib.compareBytes (a :: x) (c :: z) < 0
    unfold Lib.compareBytes at *
    simp only [UInt8.lt_iff_toNat_lt] at *
    by_cases p1 : a.toNat < b.toNat
    · by_cases p2 : b.toNat < c.toNat
      · rw [if_pos (by omega)]; decide
      · rw [if_neg p2] at h2
        by_cases p3 : c.toNat < b.toNat
        · rw [if_pos p3] at h2; cases h2
        · rw [if_pos (by omega)]; decide
    · rw [if_neg p1] at h1
      by_cases p2 : b.toNat < a.toNat
      · rw [if_pos p2] at h1; cases h1
      · rw [if_neg p2] at h1
        by_cases p3 : b.toNat < c.toNat
        · rw [if_pos (by omega)]; decide
        · rw [if_neg p3] at h2
          by_cases p4 : c.toNat < b.toNat
          · rw [if_pos p4] at h2; cases h2
          · rw [if_neg p4] at h2
            rw [if_neg (by omega), if_neg (by omega)]
            exact cmp_trans x y z h1 h2
theorem less_cmp : ∀ x y : List UInt8, Op.bytesLess x y = decide (cmpB x y < 0)
  | [], [] => rfl
  | _ :: _, [] => rfl
  | [], _ :: _ => rfl
  | a :: x, b :: y => by
    show (decide (a < b) || (a == b && Op.bytesLess x y)) = decide (Lib.compareBytes _ _ < 0)
    unfold Lib.compareBytes
    rw [less_cmp x y]
    by_cases h1 : a < b
    · rw [if_pos h1]; simp [h1]
    · rw [if_neg h1]
      by_cases h2 : b < a
      · rw [if_pos h2]
        have : (a == b) = false := by
          rw [beq_eq_false_iff_ne]; intro e
          have := UInt8.lt_iff_toNat_lt.1 h2
          rw [e] at this; omega
        simp [h1, this]
      · rw [if_neg h2]
        have e : a = b := UInt8.toNat_inj.1 (by
          have a1 : ¬ a.toNat < b.toNat := fun e => h1 (UInt8.lt_iff_toNat_lt.2 e)
          have a2 : ¬ b.toNat < a.toNat := fun e => h2 (UInt8.lt_iff_toNat_lt.2 e)
          omega)
        simp [e]

abbrev FileV := ByteArray × ByteArray
/-- One file's path is ahead of another's. -/
def fLt (a b : FileV) : Prop := cmpB a.1.data.toList b.1.data.toList < 0
theorem fLt.asymm {a b : FileV} (h : fLt a b) : ¬ fLt b a := fun h' => by
  unfold fLt at *; rw [cmp_neg] at h'; omega
theorem fLt.trans {a b c : FileV} (h : fLt a b) (h' : fLt b c) : fLt a c := cmp_trans _ _ _ h h'
theorem fLt.total {a b : FileV} (h : a.1 ≠ b.1) : fLt a b ∨ fLt b a := by
  unfold fLt
  rw [cmp_neg b.1.data.toList]
  rcases Int.lt_trichotomy (cmpB b.1.data.toList a.1.data.toList) 0 with h1 | h1 | h1
  · exact .inr h1
  · exact absurd (ByteArray.ext (Array.toList_inj.1 (cmp_eq _ _ h1))).symm h
  · exact .inl (by omega)
theorem fLt.ne {a b : FileV} (h : fLt a b) : a.1 ≠ b.1 := fun e => by
  unfold fLt at h; rw [e, cmp_self] at h; omega
theorem swoF : Sort.SWO (ltOf fun x y : FileV => Lib.compareBytes x.1.data.toList y.1.data.toList) where
  irrefl x := by show decide (cmpB _ _ < 0) = false; rw [cmp_self]; rfl
  trans x y z h1 h2 := decide_eq_true (cmp_trans _ _ _ (of_decide_eq_true h1) (of_decide_eq_true h2))
  ntrans x y z h1 h2 := by
    have a1 : ¬ cmpB x.1.data.toList y.1.data.toList < 0 := of_decide_eq_false h1
    have a2 : ¬ cmpB y.1.data.toList z.1.data.toList < 0 := of_decide_eq_false h2
    refine decide_eq_false ?_
    show ¬ cmpB x.1.data.toList z.1.data.toList < 0
    intro a3
    rw [cmp_neg] at a1 a2
    rcases Int.lt_trichotomy (cmpB y.1.data.toList x.1.data.toList) 0 with h | h | h
    · have := cmp_trans _ _ _ h a3
      rw [cmp_neg] at this; omega
    · have e := cmp_eq _ _ h
      rw [← e, cmp_neg] at a3; omega
    · omega
theorem sorted_unique : ∀ (l m : List FileV), l.Pairwise fLt → m.Pairwise fLt → (∀ x, x ∈ l ↔ x ∈ m) → l = m
  | [], [], _, _, _ => rfl
  | [], b :: m, _, _, h => by have := (h b).2 (by simp); cases this
  | a :: l, [], _, _, h => by have := (h a).1 (by simp); cases this
  | a :: l, b :: m, hl, hm, h => by
    obtain ⟨l1, l2⟩ := List.pairwise_cons.1 hl
    obtain ⟨m1, m2⟩ := List.pairwise_cons.1 hm
    have e : a = b := by
      rcases List.mem_cons.1 ((h a).1 (by simp)) with e | ha
      · exact e
      · rcases List.mem_cons.1 ((h b).2 (by simp)) with e | hb
        · exact e.symm
        · exact absurd (l1 b hb) (m1 a ha).asymm
    subst e
    rw [sorted_unique l m l2 m2 (fun x => ⟨fun hx => ?_, fun hx => ?_⟩)]
    · rcases List.mem_cons.1 ((h x).1 (by simp [hx])) with e | hx'
      · exact absurd rfl (e ▸ (l1 x hx)).ne
      · exact hx'
    · rcases List.mem_cons.1 ((h x).2 (by simp [hx])) with e | hx'
      · exact absurd rfl (e ▸ (m1 x hx)).ne
      · exact hx'
/-- The files that the maps hold, in order. -/
structure FilesOf (F : DataW Unit) (fs : List FileV) : Prop where
  sorted : fs.Pairwise fLt
  mem : ∀ p t, (p, t) ∈ fs ↔ (Maps.has F (key p) = true ∧ fileS F p = t)
theorem FilesOf.unique {F : DataW Unit} {l m : List FileV} (hl : FilesOf F l) (hm : FilesOf F m) : l = m :=
  sorted_unique l m hl.sorted hm.sorted (fun ⟨p, t⟩ => (hl.mem p t).trans (hm.mem p t).symm)

/-- One file more, in its place (the reference's way: behind the last whose path is not greater). -/
def placeOf (l : List FileV) (p : ByteArray) : Nat → Nat
  | 0 => 0
  | k + 1 => if cmpB p.data.toList (l.getD k default).1.data.toList < 0 then placeOf l p k else k + 1
def insF (l : List FileV) (x : FileV) : List FileV := l.take (placeOf l x.1 l.length) ++ x :: l.drop (placeOf l x.1 l.length)
theorem place_le (l : List FileV) (p : ByteArray) : ∀ k, placeOf l p k ≤ k
  | 0 => Nat.le_refl _
  | k + 1 => by
    rw [placeOf]; split
    · exact Nat.le_succ_of_le (place_le l p k)
    · exact Nat.le_refl _
theorem place_after (l : List FileV) (p : ByteArray) : ∀ k, ∀ j, placeOf l p k ≤ j → j < k → cmpB p.data.toList (l.getD j default).1.data.toList < 0
  | 0, j, _, h => absurd h (Nat.not_lt_zero _)
  | k + 1, j, h1, h2 => by
    rw [placeOf] at h1
    split at h1
    · rename_i hlt
      by_cases e : j = k
      · rw [e]; exact hlt
      · exact place_after l p k j h1 (by omega)
    · omega
theorem place_before (l : List FileV) (p : ByteArray) : ∀ k, 0 < placeOf l p k → ¬ cmpB p.data.toList (l.getD (placeOf l p k - 1) default).1.data.toList < 0
  | 0, h => absurd h (Nat.lt_irrefl _)
  | k + 1, h => by
    rw [placeOf] at h ⊢
    split
    · rename_i hlt; rw [if_pos hlt] at h; exact place_before l p k h
    · rename_i hlt; exact hlt
theorem getD_at (l : List FileV) (j : Nat) (h : j < l.length) : l.getD j default = l[j] := by simp [List.getD_eq_getElem?_getD, h]
theorem ins_sorted (l : List FileV) (x : FileV) (hl : l.Pairwise fLt) (hx : ∀ y ∈ l, y.1 ≠ x.1) : (insF l x).Pairwise fLt := by
  have hk := place_le l x.1 l.length
  unfold insF
  generalize hkk : placeOf l x.1 l.length = k at *
  have ha : ∀ y ∈ l.drop k, fLt x y := by
    intro y hy
    obtain ⟨j, hj, rfl⟩ := List.mem_iff_getElem.1 hy
    rw [List.length_drop] at hj
    have := place_after l x.1 l.length (k + j) (by omega) (by omega)
    rw [List.getElem_drop]
    rw [getD_at _ _ (by omega)] at this
    exact this
  have hb : ∀ y ∈ l.take k, fLt y x := by
    intro y hy
    have hm : y ∈ l := List.take_subset k l hy
    rcases fLt.total (hx y hm) with h | h
    · exact h
    · exfalso
      have hk0 : 0 < k := by
        rcases Nat.eq_zero_or_pos k with e | e
        · subst e; simp at hy
        · exact e
      have hbf := place_before l x.1 l.length (by omega)
      rw [hkk, getD_at _ _ (by omega)] at hbf
      obtain ⟨j, hj, rfl⟩ := List.mem_iff_getElem.1 hy
      rw [List.length_take] at hj
      rw [List.getElem_take] at h
      by_cases e : j = k - 1
      · subst e; exact hbf h
      · have hlt := List.pairwise_iff_getElem.1 hl j (k - 1) (by omega) (by omega) (by omega)
        exact hbf (h.trans hlt)
  refine List.pairwise_append.2 ⟨hl.sublist (List.take_sublist _ _), List.pairwise_cons.2 ⟨ha, hl.sublist (List.drop_sublist _ _)⟩, fun a h1 b h2 => ?_⟩
  rcases List.mem_cons.1 h2 with rfl | h2
  · exact hb a h1
  · exact (hb a h1).trans (ha b h2)
theorem ins_mem (l : List FileV) (x y : FileV) : y ∈ insF l x ↔ y = x ∨ y ∈ l := by
  unfold insF
  rw [List.mem_append, List.mem_cons]
  have e : y ∈ l ↔ y ∈ l.take (placeOf l x.1 l.length) ∨ y ∈ l.drop (placeOf l x.1 l.length) := by
    rw [← List.mem_append, List.take_append_drop]
  rw [e]
  constructor
  · rintro (h | h | h)
    · exact .inr (.inl h)
    · exact .inl h
    · exact .inr (.inr h)
  · rintro (h | h | h)
    · exact .inr (.inl h)
    · exact .inl h
    · exact .inr (.inr h)
/-- The reference's files. -/
def rfilesL : List Ent → List FileV → List FileV
  | [], acc => acc
  | e :: L, acc => rfilesL L (if e.stamp = 0 then acc else insF acc (e.path, e.text))
theorem rfiles_snoc : ∀ (L : List Ent) (e : Ent) (acc : List FileV), rfilesL (L ++ [e]) acc = if e.stamp = 0 then rfilesL L acc else insF (rfilesL L acc) (e.path, e.text)
  | [], e, acc => by rw [List.nil_append, rfilesL, rfilesL, rfilesL]
  | x :: L, e, acc => by rw [List.cons_append, rfilesL, rfiles_snoc L e, rfilesL]
theorem rfiles_mem : ∀ (L : List Ent) (acc : List FileV) (y : FileV), y ∈ rfilesL L acc ↔ (y ∈ acc ∨ ∃ e ∈ L, e.stamp ≠ 0 ∧ y = (e.path, e.text))
  | [], acc, y => by rw [rfilesL]; simp
  | x :: L, acc, y => by
    rw [rfilesL, rfiles_mem L]
    by_cases h : x.stamp = 0
    · rw [if_pos h]
      constructor
      · rintro (h1 | ⟨e, he, h1, h2⟩)
        · exact .inl h1
        · exact .inr ⟨e, by simp [he], h1, h2⟩
      · rintro (h1 | ⟨e, he, h1, h2⟩)
        · exact .inl h1
        · rcases List.mem_cons.1 he with rfl | he
          · exact absurd h h1
          · exact .inr ⟨e, he, h1, h2⟩
    · rw [if_neg h, ins_mem]
      constructor
      · rintro ((h1 | h1) | ⟨e, he, h1, h2⟩)
        · exact .inr ⟨x, by simp, h, h1⟩
        · exact .inl h1
        · exact .inr ⟨e, by simp [he], h1, h2⟩
      · rintro (h1 | ⟨e, he, h1, h2⟩)
        · exact .inl (.inr h1)
        · rcases List.mem_cons.1 he with rfl | he
          · exact .inl (.inl h2)
          · exact .inr ⟨e, he, h1, h2⟩
theorem rfiles_sorted : ∀ (L : List Ent) (acc : List FileV), L.Pairwise (fun a b => a.path ≠ b.path) → acc.Pairwise fLt → (∀ y ∈ acc, ∀ e ∈ L, y.1 ≠ e.path) → (rfilesL L acc).Pairwise fLt
  | [], acc, _, ha, _ => ha
  | x :: L, acc, hL, ha, hd => by
    obtain ⟨h1, h2⟩ := List.pairwise_cons.1 hL
    rw [rfilesL]
    by_cases h : x.stamp = 0
    · rw [if_pos h]
      exact rfiles_sorted L acc h2 ha (fun y hy e he => hd y hy e (by simp [he]))
    · rw [if_neg h]
      refine rfiles_sorted L _ h2 (ins_sorted acc _ ha (fun y hy => hd y hy x (by simp))) (fun y hy e he => ?_)
      rcases (ins_mem acc _ y).1 hy with rfl | hy
      · exact h1 e he
      · exact hd y hy e (by simp [he])
theorem Sim.files {F T : DataW Unit} {W R : Int} {L : List Ent} {W' R' : Int} (h : Sim F T W R L W' R') : FilesOf F (rfilesL L []) := by
  refine ⟨rfiles_sorted L [] h.nd List.Pairwise.nil (fun y hy => by cases hy), fun p t => ?_⟩
  rw [rfiles_mem]
  constructor
  · rintro (h1 | ⟨e, he, h1, h2⟩)
    · cases h1
    · simp only [Prod.mk.injEq] at h2
      obtain ⟨rfl, rfl⟩ := h2
      have hg := mem_getE L e h.nd he
      have h0 := h.st e he
      have hpos : 0 < (getE L e.path).stamp := by rw [hg]; omega
      exact ⟨by rw [h.has]; exact decide_eq_true hpos, by rw [(h.file _ hpos).1, hg]⟩
  · rintro ⟨h1, rfl⟩
    rw [h.has] at h1
    have hpos := of_decide_eq_true h1
    rcases getE_mem L p with e | e
    · rw [e] at hpos; exact absurd hpos (Int.lt_irrefl 0)
    · exact .inr ⟨_, e, by omega, by rw [getE_path, (h.file p hpos).1]⟩
end Go.Proofs.YtbiclpkoocjjfaaDoor
