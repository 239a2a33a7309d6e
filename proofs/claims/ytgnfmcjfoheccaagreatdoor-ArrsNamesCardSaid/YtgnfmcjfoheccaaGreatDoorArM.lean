/- arrs.Names: the walk. -/
import Derived.Test.YtgnfmcjfoheccaaGreatDoorArN
import Derived.Test.YtgnfmcjfoheccaaGreatDoorApps
import Derived.Sort.OwnSorted
import Derived.StringKeys
namespace Go.Proofs.YtgnfmcjfoheccaaGreatDoor
open Go Go.Ev Go.RowKit Go.Sort
open Go.Maps (Keyed)
set_option maxRecDepth 1000000
/-- The names in their order. -/
def sortedN : List (List Nat) := [[97, 114, 114, 97, 121, 95, 99, 104, 117, 110, 107], [97, 114, 114, 97, 121, 95, 99, 111, 108, 117, 109, 110], [97, 114, 114, 97, 121, 95, 99, 111, 109, 98, 105, 110, 101], [97, 114, 114, 97, 121, 95, 99, 111, 117, 110, 116, 95, 118, 97, 108, 117, 101, 115], [97, 114, 114, 97, 121, 95, 100, 105, 102, 102], [97, 114, 114, 97, 121, 95, 100, 105, 102, 102, 95, 107, 101, 121], [97, 114, 114, 97, 121, 95, 102, 105, 108, 108], [97, 114, 114, 97, 121, 95, 102, 105, 108, 108, 95, 107, 101, 121, 115], [97, 114, 114, 97, 121, 95, 102, 108, 105, 112], [97, 114, 114, 97, 121, 95, 105, 110, 116, 101, 114, 115, 101, 99, 116], [97, 114, 114, 97, 121, 95, 105, 110, 116, 101, 114, 115, 101, 99, 116, 95, 107, 101, 121], [97, 114, 114, 97, 121, 95, 107, 101, 121, 95, 101, 120, 105, 115, 116, 115], [97, 114, 114, 97, 121, 95, 107, 101, 121, 95, 102, 105, 114, 115, 116], [97, 114, 114, 97, 121, 95, 107, 101, 121, 95, 108, 97, 115, 116], [97, 114, 114, 97, 121, 95, 107, 101, 121, 115], [97, 114, 114, 97, 121, 95, 109, 101, 114, 103, 101], [97, 114, 114, 97, 121, 95, 112, 97, 100], [97, 114, 114, 97, 121, 95, 112, 114, 111, 100, 117, 99, 116], [97, 114, 114, 97, 121, 95, 114, 101, 118, 101, 114, 115, 101], [97, 114, 114, 97, 121, 95, 115, 101, 97, 114, 99, 104], [97, 114, 114, 97, 121, 95, 115, 108, 105, 99, 101], [97, 114, 114, 97, 121, 95, 115, 117, 109], [97, 114, 114, 97, 121, 95, 117, 110, 105, 113, 117, 101], [97, 114, 114, 97, 121, 95, 118, 97, 108, 117, 101, 115], [97, 115, 111, 114, 116], [98, 111, 111, 108, 118, 97, 108], [99, 111, 117, 110, 116], [103, 101, 116, 116, 121, 112, 101], [104, 116, 116, 112, 95, 98, 117, 105, 108, 100, 95, 113, 117, 101, 114, 121], [105, 110, 95, 97, 114, 114, 97, 121], [105, 110, 116, 118, 97, 108], [105, 115, 95, 97, 114, 114, 97, 121], [105, 115, 95, 98, 111, 111, 108], [105, 115, 95, 105, 110, 116], [105, 115, 95, 110, 117, 108, 108], [105, 115, 95, 110, 117, 109, 101, 114, 105, 99], [105, 115, 95, 111, 98, 106, 101, 99, 116], [105, 115, 95, 115, 116, 114, 105, 110, 103], [106, 115, 111, 110, 95, 100, 101, 99, 111, 100, 101], [106, 115, 111, 110, 95, 101, 110, 99, 111, 100, 101], [107, 115, 111, 114, 116], [112, 97, 114, 115, 101, 95, 115, 116, 114], [114, 97, 110, 103, 101], [114, 115, 111, 114, 116], [115, 111, 114, 116], [115, 116, 114, 118, 97, 108], [118, 97, 114, 95, 101, 120, 112, 111, 114, 116]]
def bytesOf (l : List (List Nat)) : List (List UInt8) := l.map fun nm => nm.map UInt8.ofNat
theorem mem_sortedN : ∀ nm, nm ∈ names ↔ nm ∈ sortedN := by
  have h1 : ∀ nm ∈ names, nm ∈ sortedN := by decide +kernel
  have h2 : ∀ nm ∈ sortedN, nm ∈ names := by decide +kernel
  exact fun nm => ⟨h1 nm, h2 nm⟩
theorem sorted_len : (bytesOf sortedN).length = 47 := by decide +kernel
theorem sorted_le : (bytesOf sortedN).Pairwise (fun x y => decide (x ≤ y) = true) := by decide +kernel
theorem sorted_nodup : (bytesOf sortedN).Nodup := by decide +kernel
theorem mem_bytes (p : ByteArray) : p.data.toList ∈ bytesOf sortedN ↔ ∃ nm ∈ names, p = mkS nm := by
  unfold bytesOf
  rw [List.mem_map]
  constructor
  · rintro ⟨nm, h1, h2⟩
    refine ⟨nm, (mem_sortedN nm).2 h1, ?_⟩
    apply ByteArray.ext
    apply Array.toList_inj.1
    rw [← h2]
    simp [mkS]
  · rintro ⟨nm, h1, rfl⟩
    exact ⟨nm, (mem_sortedN nm).1 h1, by simp [mkS]⟩
/-- slices.Sort at strings. -/
def SortC : Prop := ∀ (blk off cap : Nat) (ss : List (List UInt8)) (w : World), Holds encStr w blk off ss.toArray → blk < w.heap.size → ss.length < 4611686018427387904 →
    Calls Tryz.prog 22 #[.slice (some ⟨blk, off, none⟩) ss.length cap] w fun e w' =>
      e = .returned (.tuple #[]) ∧ ∃ n os, w' = grow (putRow encStr (Sort.ahead w n) blk off (ss.mergeSort fun x y => decide (x ≤ y)).toArray) os
theorem key_same (p q : ByteArray) : (key p).sameKey (key q) = decide (p = q) := by
  by_cases h : p = q
  · subst h
    rw [decide_eq_true rfl]
    unfold key Lit.sameKey
    simp
  · rw [decide_eq_false h]
    cases hs : (key p).sameKey (key q) with
    | false => rfl
    | true => exact absurd (key_inj hs) h
theorem own_grown {w w' : World} {base size n : Nat} {e : TypeId} {v : Value} {xs : List Value} {row : Option Nat} (h : w.ownsRow base e size v n xs) (hg : w.grownBy w' row) (hr : ∀ g, row = some g → g < base) : w'.ownsRow base e size v n xs := by
  obtain ⟨hx, ⟨rfl, rfl⟩ | ⟨g, cap, cur, rfl, hb, hh, r⟩⟩ := h
  · exact ⟨hx, .inl ⟨rfl, rfl⟩⟩
  · exact ⟨hx, .inr ⟨g, cap, cur, rfl, hb, (hg.block g (Array.getElem?_eq_some_iff.1 hh).1 (fun e => by have := hr g e.symm; omega)).trans hh, r⟩⟩
/-- What holds while the names are gathered. -/
structure NInv (D : DataW Unit) (b : Nat) (w wr : World) (left : Lit → Bool) (cnt : Nat) (v : Value) (l : List (List UInt8)) : Prop where
  rg : wr.ranges Tryz.prog 9 unitR b w.heap.size 47 D left cnt
  owns : wr.ownsRow (w.heap.size + 1) 9 1 v l.length (l.map encStr)
  bel : Below w.heap.size w wr
  lt : b < w.heap.size
  big : w.heap.size < wr.heap.size
  len : l.length + cnt ≤ 47
  sub : ∀ p, left (key p) = true → Go.Maps.has D (key p) = true
  mem : ∀ p : ByteArray, p.data.toList ∈ l ↔ (Go.Maps.has D (key p) = true ∧ left (key p) = false)
  nd : l.Nodup
theorem NInv.next {D : DataW Unit} {b : Nat} {w wr w1 w3 : World} {left : Lit → Bool} {cnt cnt' : Nat} {v v' : Value} {l : List (List UInt8)} {x : ByteArray} {o1 : Obj} (h : NInv D b w wr left cnt v l)
    (hl : left (key x) = true) (hrg : w1.ranges Tryz.prog 9 unitR b w.heap.size 47 D (fun z => left z && !z.sameKey (key x)) cnt') (hlt : cnt' < cnt) (hg1 : wr.grownBy w1 (some w.heap.size)) (hs1 : w1.heap.size = wr.heap.size)
    (hown : w3.ownsRow (w.heap.size + 1) 9 1 v' (l.length + 1) (l.map encStr ++ [encStr x.data.toList])) (hg3 : (w1.alloc o1).grownBy w3 v.ownBlock) :
    NInv D b w w3 (fun z => left z && !z.sameKey (key x)) cnt' v' (l ++ [x.data.toList]) := by
  have hvb : ∀ g, v.ownBlock = some g → w.heap.size + 1 ≤ g := fun g hg => (h.owns.lt g hg).1
  have hB1 : Below w.heap.size w w1 := h.bel.grown hg1 h.bel.size (fun k hk => by have : w.heap.size = k := Option.some.inj hk; omega)
  have hbig := h.big
  refine ⟨?_, by rw [List.length_append, List.map_append]; simpa using hown, ?_, h.lt, ?_, ?_, ?_, ?_, ?_⟩
  · refine (hrg.alloc o1).kept hg3 (fun e => ?_) (fun e => ?_)
    · have := hvb b e.symm; have := h.lt; omega
    · have := hvb _ e.symm; omega
  · have hb2 := hB1.alloc hB1.size o1
    exact hb2.grown hg3 hb2.size (fun k hk => by have := hvb k hk; omega)
  · have := hg3.size; simp at this; omega
  · have := h.len; rw [List.length_append]; simp; omega
  · intro p hp
    simp only [Bool.and_eq_true] at hp
    exact h.sub p hp.1
  · intro p
    rw [List.mem_append, h.mem p, List.mem_singleton, key_same]
    by_cases e : p = x
    · subst e
      simp [hl, h.sub p hl]
    · have e2 : p.data.toList ≠ x.data.toList := fun q => e (by apply ByteArray.ext; exact Array.toList_inj.1 q)
      simp [e, e2]
  · rw [List.nodup_append]
    refine ⟨h.nd, by simp, fun a ha b' hb => ?_⟩
    rw [List.mem_singleton.1 hb]
    rintro rfl
    have := ((h.mem x).1 ha).2
    rw [hl] at this; cases this
theorem NInv.perm {D : DataW Unit} {b : Nat} {w wr : World} {left : Lit → Bool} {cnt : Nat} {v : Value} {l : List (List UInt8)} (h : NInv D b w wr left cnt v l) (h0 : ∀ kl, left kl = false) (hD : ∀ s : ByteArray, Go.Maps.has D (key s) = true ↔ ∃ nm ∈ names, s = mkS nm) : l.Perm (bytesOf sortedN) := by
  rw [List.perm_ext_iff_of_nodup h.nd sorted_nodup]
  intro a
  have := h.mem ⟨a.toArray⟩
  rw [hD] at this
  have h2 := mem_bytes ⟨a.toArray⟩
  simp only [h0, and_true] at this
  exact this.trans h2.symm
end Go.Proofs.YtgnfmcjfoheccaaGreatDoor
