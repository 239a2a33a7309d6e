/- The contracts of disk.named, disk.Path: what they return for every argument; the world is as it was, or has one block more. -/
import Derived.Test.YtbiclpkoocjjfaaDoorShelf
import Derived.WalkKit
import Derived.WalkSpells
import Derived.WalkLawsBesides
import Derived.Lib.Hide
namespace Go.Proofs.YtbiclpkoocjjfaaDoor
open Go.RowKit

theorem ret_bool {a b : Bool} (h : a = b) : Ending.returned (.bool a) = .returned (.bool b) := by rw [h]
theorem ret_int {k : IntKind} {a b : Int} (h : a = b) : Ending.returned (.int k a) = .returned (.int k b) := by rw [h]

def namedB (c : Int) : Bool := (decide (97 ≤ c) && decide (c ≤ 122)) || (decide (65 ≤ c) && decide (c ≤ 90)) || (decide (48 ≤ c) && decide (c ≤ 57)) || (c == 46 || c == 95 || c == 45)

theorem dots (c : Int) (h0 : 0 ≤ c) (h : c ≤ 255) : decide (0 ≤ Lib.indexByte [46, 95, 45] (UInt8.ofNat c.toNat)) = (c == 46 || c == 95 || c == 45) := by
  obtain ⟨n, rfl⟩ := Int.eq_ofNat_of_zero_le h0
  have hn : n < 256 := by omega
  have : ∀ n : Fin 256, decide (0 ≤ Lib.indexByte [46, 95, 45] (UInt8.ofNat n.val)) = (((n.val : Nat) : Int) == 46 || ((n.val : Nat) : Int) == 95 || ((n.val : Nat) : Int) == 45) := by decide +kernel
  simpa using this ⟨n, hn⟩

theorem callsSym {P : Program} {f : FuncId} {args : Array Value} {w : World} {v : Ending} (h : Calls P f args w fun e w' => e = v ∧ w' = w) : Calls P f args w fun e w' => e = v ∧ w = w' :=
  h.mono fun _ _ h => ⟨h.1, h.2.symm⟩

set_option maxHeartbeats 400000 in
theorem named_any (c : Int) (h0 : 0 ≤ c) (h : c ≤ 255) (w : World) : Calls Tryd.prog 28 #[.int .u8 c] w fun e w' => e = .returned (.bool (namedB c)) ∧ w = w' := by
  go_enter Tryd.func28, Tryd.ntmps28
  go_wp2_with (go_at_call 45; refine (callsSym (Tryd.strings_IndexByte _ _ _)).mono ?_; rintro e w' ⟨rfl, rfl⟩)
  all_goals
    go_ret
    refine ⟨ret_bool ?_, rfl⟩
    try rw [dots c h0 h]
    unfold namedB
    rw [Bool.eq_iff_iff]
    simp
    omega

def partB (p : ByteArray) : Bool := !(p.data.toList == []) && !(p.data.toList == [46]) && !(p.data.toList == [46, 46]) && decide (p.size ≤ 64) && p.data.toList.all (fun c => namedB c.toNat)
def restOf (s : ByteArray) : ByteArray := ⟨(Lib.trimPrefix s.data.toList [47]).toArray⟩
def partsOf (s : ByteArray) : List ByteArray := Lib.splitB ⟨#[47]⟩ 0 (Lib.countB s ⟨#[47]⟩) s
def pathB (s : ByteArray) : Bool := Lib.hasPrefix s.data.toList [47] && decide (s.size ≤ 256) && (partsOf (restOf s)).all partB

theorem split_any (s : ByteArray) (m : Int) (w : World) (hs : s.size < 4294967281) (hm : w.cell? ⟨0, 0, none⟩ = some (.int .i64 m)) :
    Calls Tryd.prog 27 #[.string s, .string ⟨#[47]⟩] w fun e w' =>
      e = .returned (.slice (some ⟨w.heap.size, 0, none⟩) (partsOf s).length (partsOf s).length) ∧ w' = w.alloc (.cells ((partsOf s).map Value.string).toArray 9) := by
  have h := Tryd.strings_Split s ⟨#[47]⟩ m w hs hm (by decide)
  have hl : (partsOf s).length = Lib.countB s ⟨#[47]⟩ + 1 := Lib.splitB_all ⟨#[47]⟩ (by decide) 0 _ s rfl
  rw [hl]
  exact h

theorem restOf_size (s : ByteArray) : (restOf s).size ≤ s.size := by
  unfold restOf Lib.trimPrefix
  show (List.toArray _).size ≤ s.data.size
  rw [List.size_toArray]
  split
  · rw [List.length_drop]; simp
  · simp

theorem cells_str (w : World) (ps : List ByteArray) (t : TypeId) (k : Nat) (h : k < ps.length) : (w.alloc (.cells (ps.map Value.string).toArray t)).cell? ⟨w.heap.size, k, none⟩ = some (.string (ps.getD k ByteArray.empty)) := by
  rw [cell_of_row _ _ _ _ _ _ (heap_alloc_new w _)]
  simp [h]

theorem partsOf_length (s : ByteArray) : (partsOf s).length ≤ s.size + 1 := by
  have hl : (partsOf s).length = Lib.countB s ⟨#[47]⟩ + 1 := Lib.splitB_all ⟨#[47]⟩ (by decide) 0 _ s rfl
  have := Lib.countB_le ⟨#[47]⟩ (by decide) s.size s (Nat.le_refl _)
  omega

theorem all_take_succ {α : Type} (f : α → Bool) (d : α) (l : List α) (k : Nat) (h : k < l.length) : (l.take (k + 1)).all f = ((l.take k).all f && f (l.getD k d)) := by
  rw [List.take_succ_eq_append_getElem h, List.all_append]
  simp [h]
theorem all_take_false {α : Type} (f : α → Bool) (d : α) (l : List α) (k : Nat) (h : k < l.length) (hf : f (l.getD k d) = false) : l.all f = false := by
  rw [List.all_eq_false]
  exact ⟨_, List.getElem_mem h, by simpa [h] using hf⟩

theorem part_no (p : ByteArray) (h : p.toList = [] ∨ p.toList = [46] ∨ p.toList = [46, 46] ∨ 64 < (p.size : Int)) : partB p = false := by
  rw [ByteArray.toList_eq] at h
  unfold partB
  rcases h with h | h | h | h
  · rw [h]; rfl
  · rw [h]; rfl
  · rw [h]; rfl
  · have h' : ¬ p.size ≤ 64 := by omega
    simp [h']
theorem part_chars (p : ByteArray) (j : Nat) (h : j < p.size) (hn : namedB (p[j].toNat : Int) = false) : partB p = false := by
  have : p.data.toList.all (fun c => namedB c.toNat) = false := by
    rw [List.all_eq_false]
    refine ⟨p.data.toList[j]'(by simpa using h), List.getElem_mem _, ?_⟩
    have e : p.data.toList[j]'(by simpa using h) = p[j] := by simp; rfl
    rw [e, hn]; decide
  unfold partB
  rw [this, Bool.and_false]
theorem chars_step (p : ByteArray) (j : Nat) (h : j < p.size) (hn : namedB (p[j].toNat : Int) = true) (ha : (p.data.toList.take j).all (fun c => namedB c.toNat) = true) : (p.data.toList.take (j + 1)).all (fun c => namedB c.toNat) = true := by
  rw [List.take_succ_eq_append_getElem (by simpa using h), List.all_append, ha]
  have e : p.data.toList[j]'(by simpa using h) = p[j] := by simp; rfl
  simp only [List.all_cons, List.all_nil, e, hn]; rfl

theorem partB_true (p : ByteArray) (h1 : (p.data.toList == []) = false) (h2 : (p.data.toList == [46]) = false) (h3 : (p.data.toList == [46, 46]) = false) (h4 : p.size ≤ 64) (h5 : p.data.toList.all (fun c => namedB c.toNat) = true) : partB p = true := by
  unfold partB; rw [h1, h2, h3, h5, decide_eq_true h4]; rfl

set_option maxHeartbeats 2000000 in
theorem path_any (s : ByteArray) (hs : s.size ≤ maxLen) (m : Int) (w : World) (hm : w.cell? ⟨0, 0, none⟩ = some (.int .i64 m)) :
    Calls Tryd.prog 16 #[.string s] w fun e w' => e = .returned (.bool (pathB s)) ∧ Below w.heap.size w w' := by
  unfold maxLen at hs
  by_cases hp : Lib.hasPrefix s.data.toList [47] = true
  · by_cases h2 : s.size ≤ 256
    · have hr := restOf_size s
      have hd : decide ((256 : Int) < (s.size : Int)) = false := by simp; omega
      obtain ⟨b, hb⟩ : ∃ b, b = (partsOf (restOf s)).all partB := ⟨_, rfl⟩
      have hfin : pathB s = b := by unfold pathB; rw [hp, decide_eq_true h2, hb]; rfl
      have Hfin := Lib.hid hfin; clear hfin
      have hl := partsOf_length (restOf s)
      go_enter Tryd.func16, Tryd.ntmps16
      go_wp2_with (go_at_call 26; refine (callsSym (Tryd.strings_CutPrefix _ _ _)).mono ?_; rintro e w' ⟨rfl, rfl⟩)
      refine (split_any (restOf s) m w (by omega) hm).mono ?_
      rintro e w1 ⟨rfl, rfl⟩
      generalize partsOf (restOf s) = ps at *
      have Hb := Lib.hid hb; clear hb
      go_wp2_with fail
      go_loop [23] (fun i => ∃ k : Nat, k ≤ ps.length ∧ i = .int .i64 k ∧ Hid ((ps.take k).all partB = true)) (fun i => ps.length - (intOf i).toNat)
      case atStart => exact ⟨0, Nat.zero_le _, rfl, rfl⟩
      case round =>
        obtain ⟨k, hk, rfl, Hk⟩ := hrel
        by_cases hlt : k < ps.length
        · have hc := cells_str w ps 9 k hlt
          obtain ⟨p, hpe⟩ : ∃ p, p = ps.getD k ByteArray.empty := ⟨_, rfl⟩
          rw [← hpe] at hc
          have Hp := Lib.hid hpe; clear hpe
          have hno : partB p = false → Ending.returned (.bool false) = .returned (.bool (pathB s)) := fun h => by
            rw [Hfin.out, Hb.out]; exact ret_bool (all_take_false partB _ ps k hlt (by rw [← Hp.out]; exact h)).symm
          have Hno := Lib.hid hno; clear hno
          by_cases hbad : p.toList = [] ∨ p.toList = [46] ∨ p.toList = [46, 46] ∨ 64 < (p.size : Int)
          · have HB := Lib.hid (Hno.out (part_no p hbad))
            have HX := Lib.hid hbad; clear hbad
            go_wp2_with fail
            iterate 4
              · go_ret
                exact ⟨HB.out, (Below.refl _ _).alloc (Nat.le_refl _) _⟩
            exfalso
            have h1 : ¬ p.toList = [] := by assumption
            have h2 : ¬ p.toList = [46] := by assumption
            have h3 : ¬ p.toList = [46, 46] := by assumption
            have h4 : ((p.toList.isEmpty = false ∧ (p.toList == [46]) = false) ∧ (p.toList == [46, 46]) = false) ∧ (p.size : Int) ≤ 64 := by assumption
            rcases HX.out with h | h | h | h
            · exact h1 h
            · exact h2 h
            · exact h3 h
            · omega
          · have g1 : p.toList.isEmpty = false := by
              rw [List.isEmpty_eq_false_iff]; exact fun h => hbad (.inl h)
            have g2 : (p.toList == [46]) = false := beq_eq_false_iff_ne.2 fun h => hbad (.inr (.inl h))
            have g3 : (p.toList == [46, 46]) = false := beq_eq_false_iff_ne.2 fun h => hbad (.inr (.inr (.inl h)))
            have g4 : (p.size : Int) ≤ 64 := by omega
            have g5 : decide ((64 : Int) < p.size) = false := by simp; omega
            have g6 : p.data.toList.all (fun c => namedB c.toNat) = true → partB p = true := fun h => by
              rw [ByteArray.toList_eq] at g1 g2 g3
              exact partB_true p (by rw [beq_eq_false_iff_ne]; intro e; rw [e] at g1; exact absurd g1 (by decide)) g2 g3 (by omega) h
            have G6 := Lib.hid g6; clear g6 hbad
            go_wp2_with fail
            go_loop [44] (fun i => ∃ j : Nat, j ≤ p.size ∧ i = .int .i64 j ∧ Hid ((p.data.toList.take j).all (fun c => namedB c.toNat) = true)) (fun i => p.size - (intOf i).toNat)
            case atStart => exact ⟨0, Nat.zero_le _, rfl, rfl⟩
            case round =>
              obtain ⟨j, hj, rfl, Hj⟩ := hrel
              by_cases hjl : j < p.size
              · have hb1 : (p[j].toNat : Int) ≤ 255 := by have := p[j].toNat_lt; omega
                by_cases hn : namedB (p[j].toNat : Int) = true
                · have Hn := Lib.hid (chars_step p j hjl hn Hj.out)
                  go_wp2_with (go_at_call 28; refine (named_any _ (by omega) hb1 _).mono ?_; rintro e w' ⟨rfl, rfl⟩)
                  go_round
                  case rel => exact ⟨j + 1, by omega, by go_num, Hn.out⟩
                  case measure => simp [intOf]; omega
                · have hn' : namedB (p[j].toNat : Int) = false := by simpa using hn
                  have HB := Lib.hid (Hno.out (part_chars p j hjl hn'))
                  clear hn
                  go_wp2_with (go_at_call 28; refine (named_any _ (by omega) hb1 _).mono ?_; rintro e w' ⟨rfl, rfl⟩)
                  go_ret
                  exact ⟨HB.out, (Below.refl _ _).alloc (Nat.le_refl _) _⟩
              · have hk1 : (ps.take (k + 1)).all partB = true := by
                  rw [all_take_succ partB ByteArray.empty ps k hlt, Hk.out, ← Hp.out, G6.out]
                  · rfl
                  · have := Hj.out
                    rwa [List.take_of_length_le (by simp; omega)] at this
                have Hk1 := Lib.hid hk1; clear hk1
                go_wp2
                go_round
                case rel => exact ⟨k + 1, by omega, by go_num, Hk1.out⟩
                case measure => simp [intOf]; omega
        · go_wp2
          go_ret
          refine ⟨?_, (Below.refl _ _).alloc (Nat.le_refl _) _⟩
          rw [Hfin.out, Hb.out]
          refine ret_bool ?_
          have := Hk.out
          rw [List.take_of_length_le (by omega)] at this
          exact this.symm
    · have hd : decide ((256 : Int) < (s.size : Int)) = true := by simp; omega
      have hfin : pathB s = false := by unfold pathB; rw [hp, decide_eq_false h2]; rfl
      have Hfin := Lib.hid hfin; clear hfin
      go_enter Tryd.func16, Tryd.ntmps16
      go_wp2_with (go_at_call 26; refine (callsSym (Tryd.strings_CutPrefix _ _ _)).mono ?_; rintro e w' ⟨rfl, rfl⟩)
      go_ret
      exact ⟨ret_bool Hfin.out.symm, Below.refl _ _⟩
  · have hp' : Lib.hasPrefix s.data.toList [47] = false := by simpa using hp
    have hfin : pathB s = false := by unfold pathB; rw [hp']; rfl
    have Hfin := Lib.hid hfin; clear hfin hp
    go_enter Tryd.func16, Tryd.ntmps16
    go_wp2_with (go_at_call 26; refine (callsSym (Tryd.strings_CutPrefix _ _ _)).mono ?_; rintro e w' ⟨rfl, rfl⟩)
    go_ret
    exact ⟨ret_bool Hfin.out.symm, Below.refl _ _⟩
end Go.Proofs.YtbiclpkoocjjfaaDoor
