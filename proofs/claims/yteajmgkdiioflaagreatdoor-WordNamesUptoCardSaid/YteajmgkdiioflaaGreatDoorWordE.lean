/- How many bytes of a name a text begins with: the program and its reference tell it alike. -/
import Derived.Test.YteajmgkdiioflaaGreatDoorWordD
namespace Go.Proofs.YteajmgkdiioflaaGreatDoor
open Go.RowKit

/-- From byte n on: how many bytes in all, and whether no backslash lacks its word. -/
def nameF (l : Bytes) : Nat → Nat → Int × Bool
  | 0, n => ((n : Int), false)
  | f + 1, n =>
    if wordN (l.drop n) = 0 then ((n : Int) - 1, false)
    else if Lib.hasPrefix (l.drop (n + wordN (l.drop n))) [92] = true then nameF l f (n + wordN (l.drop n) + 1) else (((n + wordN (l.drop n) : Nat) : Int), true)
theorem pre92 {l : Bytes} {n : Nat} (h : Lib.hasPrefix (l.drop n) [92] = true) : n < l.length := by
  rcases Nat.lt_or_ge n l.length with h1 | h1
  · exact h1
  · rw [List.drop_eq_nil_of_le h1] at h; simp [Lib.hasPrefix] at h
theorem nameF_fuel (l : Bytes) : ∀ (f f' n : Nat), l.length < n + f → l.length < n + f' → n ≤ l.length → nameF l f n = nameF l f' n := by
  intro f
  induction f with
  | zero => intro f' n h1 _ h3; omega
  | succ f ih =>
    intro f' n h1 h2 h3
    cases f' with
    | zero => omega
    | succ f' =>
      rw [nameF, nameF]
      split
      · rfl
      · split
        · rename_i hw hp
          have := pre92 hp
          exact ih f' _ (by omega) (by omega) (by omega)
        · rfl
def name0 (l : Bytes) : Nat := if Lib.hasPrefix l [92] = true then 1 else 0
def nameL (l : Bytes) : Int × Bool := nameF l (l.length + 1) (name0 l)
theorem name0_le (l : Bytes) : name0 l ≤ l.length := by
  unfold name0
  split
  · rename_i h
    cases l with
    | nil => simp [Lib.hasPrefix] at h
    | cons a l => simp
  · omega
/-- What is left to be told at byte k. -/
def NameAt (l : Bytes) (k : Nat) : Prop := ∀ f, l.length < k + f → nameF l f k = nameL l
theorem name_start (l : Bytes) : NameAt l (name0 l) := fun f hf => by
  unfold nameL
  exact nameF_fuel l _ _ _ hf (by omega) (name0_le l)
theorem name_zero {l : Bytes} {k : Nat} (h : NameAt l k) (hw : wordN (l.drop k) = 0) : nameL l = ((k : Int) - 1, false) := by
  rw [← h (l.length + 1) (by omega), nameF, if_pos hw]
theorem name_done {l : Bytes} {k n : Nat} (h : NameAt l k) (hw : wordN (l.drop k) = n) (h0 : n ≠ 0) (hp : Lib.hasPrefix (l.drop (k + n)) [92] = false) : nameL l = (((k + n : Nat) : Int), true) := by
  rw [← h (l.length + 1) (by omega), nameF, hw, if_neg h0, hp, if_neg (by decide)]
theorem name_next {l : Bytes} {k n : Nat} (h : NameAt l k) (hw : wordN (l.drop k) = n) (h0 : n ≠ 0) (hp : Lib.hasPrefix (l.drop (k + n)) [92] = true) : NameAt l (k + n + 1) := fun f hf => by
  rw [← h (f + n + 1) (by omega), nameF, hw, if_neg h0, if_pos hp]
  have := pre92 hp
  exact nameF_fuel l _ _ _ hf (by omega) (by omega)
theorem drop_data (s : ByteArray) (k : Nat) : (s.extract k s.size).data.toList = s.data.toList.drop k := by
  have hl := Lib.size_eq s
  simp only [ByteArray.data_extract, Array.toList_extract]
  rw [List.extract_eq_take_drop, List.take_of_length_le (by rw [List.length_drop]; omega)]

set_option maxRecDepth 100000 in
set_option maxHeartbeats 2000000 in
theorem name_any (s : ByteArray) (hs : s.size ≤ 140737488351232) (w : World) :
    Calls Tryz.prog 26 #[.string s] w fun e w' => e = .returned (.tuple #[.int .i64 (nameL s.data.toList).1, .bool (nameL s.data.toList).2]) ∧ Below w.heap.size w w' := by
  have hsl := Lib.size_eq s
  have HP := Lib.hid (fun w => callsSym (Tryz.strings_HasPrefix s ⟨#[92]⟩ w))
  have HQ : Hid (∀ (k : Nat) (b : Bool), Lib.hasPrefix (s.data.toList.drop k) [92] = b → ∀ w, Calls Tryz.prog 37 #[.string (s.extract k s.size), .string ⟨#[92]⟩] w fun e w' => e = .returned (.bool b) ∧ w = w') := by
    intro k b hb w
    have := callsSym (Tryz.strings_HasPrefix (s.extract k s.size) ⟨#[92]⟩ w)
    rw [drop_data, show (⟨#[92]⟩ : ByteArray).data.toList = [92] from rfl, hb] at this
    exact this
  have HN : Hid (∀ (k n : Nat), wordN (s.data.toList.drop k) = n → ∀ w, Calls Tryz.prog 19 #[.string (s.extract k s.size)] w fun e w' => e = .returned (.int .i64 (n : Nat)) ∧ Below w.heap.size w w') := by
    intro k n hn w
    have := length_any (s.extract k s.size) (by rw [ByteArray.size_extract]; omega) w
    rw [drop_data, hn] at this
    exact this
  have HS := Lib.hid (name_start s.data.toList)
  have hn0 := name0_le s.data.toList
  obtain ⟨b, hb⟩ : ∃ b, Lib.hasPrefix s.data.toList [92] = b := ⟨_, rfl⟩
  have h0 : name0 s.data.toList = if b = true then 1 else 0 := by unfold name0; rw [hb]
  rw [show (⟨#[92]⟩ : ByteArray).data.toList = [92] from rfl, hb] at HP
  have HL := Lib.hid hsl
  obtain ⟨A, HA⟩ : ∃ z, Hid (nameL s.data.toList = z) := ⟨_, rfl⟩
  rw [HA.out]
  clear hsl hb
  generalize name0 s.data.toList = n0 at *
  have hn0' : n0 ≤ s.size := by rw [HL.out]; exact hn0
  clear hn0
  cases b
  all_goals
    simp at h0
    subst h0
    go_enter Tryz.func26, Tryz.ntmps26
    go_wp2_with (go_at_call 37; refine (HP.out _).mono ?_; rintro e w1 ⟨rfl, rfl⟩)
    go_loopw [4] (fun x wx => ∃ k : Nat, k ≤ s.size ∧ x = .int .i64 k ∧ Hid (Below w.heap.size w wx ∧ NameAt s.data.toList k)) (fun x _ => s.size - (intOf x).toNat)
    case atStart => exact ⟨_, hn0', rfl, Below.refl _ _, HS.out⟩
    case round =>
      obtain ⟨k, hk, rfl, H⟩ := hrel
      clear HS HP hn0'
      obtain ⟨n, hn⟩ : ∃ n, wordN (s.data.toList.drop k) = n := ⟨_, rfl⟩
      have HW := Lib.hid (HN.out k n hn)
      have HE := Lib.hid hn
      by_cases h0 : n = 0
      · subst h0
        have HZ : Hid (A = ((k : Int) - 1, false)) := HA.out.symm.trans (name_zero H.out.2 HE.out)
        clear hn
        go_wp2_with (go_at_call 19; refine (HW.out _).mono ?_; rintro e w2 ⟨rfl, hb2⟩; have HB2 := Lib.hid (H.out.1.trans (hb2.mono H.out.1.size)); clear hb2)
        go_ret2
        exact ⟨by rw [HZ.out]; rfl, HB2.out⟩
      · have hle := wordN_le (s.data.toList.drop k)
        rw [hn, List.length_drop, ← HL.out] at hle
        have hnI : ((n : Int) == 0) = false := by simp; omega
        obtain ⟨b, hb⟩ : ∃ b, Lib.hasPrefix (s.data.toList.drop (k + n)) [92] = b := ⟨_, rfl⟩
        have HX := Lib.hid (HQ.out (k + n) b hb)
        have Hb := Lib.hid hb
        have H0 := Lib.hid h0
        clear hb hn h0
        cases b with
        | false =>
          have HZ : Hid (A = (((k + n : Nat) : Int), true)) := HA.out.symm.trans (name_done H.out.2 HE.out H0.out Hb.out)
          go_wp2_with (first
            | (go_at_call 19; refine (HW.out _).mono ?_; rintro e w2 ⟨rfl, hb2⟩; have HB2 := Lib.hid (H.out.1.trans (hb2.mono H.out.1.size)); clear hb2)
            | (go_at_call 37; refine (HX.out _).mono ?_; rintro e w3 ⟨rfl, rfl⟩))
          go_ret2
          exact ⟨by rw [HZ.out]; rfl, HB2.out⟩
        | true =>
          have HZ := Lib.hid (name_next H.out.2 HE.out H0.out Hb.out)
          have hlt : k + n < s.size := by rw [HL.out]; exact pre92 Hb.out
          go_wp2_with (first
            | (go_at_call 19; refine (HW.out _).mono ?_; rintro e w2 ⟨rfl, hb2⟩; have HB2 := Lib.hid (H.out.1.trans (hb2.mono H.out.1.size)); clear hb2)
            | (go_at_call 37; refine (HX.out _).mono ?_; rintro e w3 ⟨rfl, rfl⟩))
          go_roundw
          case rel => exact ⟨k + n + 1, by omega, by go_num, HB2.out, HZ.out⟩
          case measure => simp [intOf] <;> omega
end Go.Proofs.YteajmgkdiioflaaGreatDoor
