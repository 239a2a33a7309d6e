/- The walk of cut.long. -/
import Derived.Test.YteajmgkdiioflaaGreatDoorCutD
namespace Go.Proofs.YteajmgkdiioflaaGreatDoor
open Go.RowKit

/-- A text from byte k on. -/
def suf (s : ByteArray) (k : Nat) : ByteArray := s.extract k s.size
theorem suf_data (s : ByteArray) (k : Nat) : (suf s k).data.toList = s.data.toList.drop k := Lib.extract_to_end s k
theorem suf_size (s : ByteArray) (k : Nat) : (suf s k).size = s.size - k := by unfold suf; rw [ByteArray.size_extract]; omega
theorem suf_suf (s : ByteArray) (k b : Nat) : (suf s k).extract b (suf s k).size = suf s (k + b) := by
  apply WideShapes.bytes_inj
  rw [Lib.extract_to_end, suf_data, suf_data, List.drop_drop]
theorem suf_zero (s : ByteArray) : suf s 0 = s := by
  apply WideShapes.bytes_inj
  rw [suf_data]; rfl
theorem suf_get (s : ByteArray) (k : Nat) (h : k < s.size) (h' : 0 < (suf s k).size) : (suf s k)[0] = s[k] := by
  have h1 := Lib.data_getElem? (suf s k) 0 h'
  rw [suf_data, List.getElem?_drop, Nat.add_zero, Lib.data_getElem? s k h] at h1
  injection h1 with h1
  exact h1.symm

theorem cutPrefix_yes (s p : ByteArray) (k : Nat) (h : Lib.hasPrefix (s.data.toList.drop k) p.data.toList = true) (w : World) : Calls Tryz.prog 33 #[.string (suf s k), .string p] w fun e w' => e = .returned (.tuple #[.string (suf s (k + p.size)), .bool true]) ∧ w = w' := by
  have hc := callsSym (Tryz.strings_CutPrefix (suf s k) p w)
  have e : (⟨(Lib.trimPrefix (suf s k).data.toList p.data.toList).toArray⟩ : ByteArray) = suf s (k + p.size) := by
    apply WideShapes.bytes_inj
    rw [suf_data, suf_data]
    unfold Lib.trimPrefix
    rw [if_pos h, Lib.size_eq p, ← List.drop_drop]
  rw [e, suf_data, h] at hc
  exact hc
theorem cutPrefix_no (s p : ByteArray) (k : Nat) (h : Lib.hasPrefix (s.data.toList.drop k) p.data.toList = false) (w : World) : Calls Tryz.prog 33 #[.string (suf s k), .string p] w fun e w' => e = .returned (.tuple #[.string (suf s k), .bool false]) ∧ w = w' := by
  have hc := callsSym (Tryz.strings_CutPrefix (suf s k) p w)
  have e : (⟨(Lib.trimPrefix (suf s k).data.toList p.data.toList).toArray⟩ : ByteArray) = suf s k := by
    apply WideShapes.bytes_inj
    rw [suf_data]
    unfold Lib.trimPrefix
    rw [if_neg (by rw [h]; decide)]
  rw [e, suf_data, h] at hc
  exact hc
theorem word_suf (s : ByteArray) (hs : s.size ≤ maxLen) (k : Nat) (w : World) : Calls Tryz.prog 73 #[.string (suf s k)] w fun e w' => e = .returned (.int .i64 (wordN (s.data.toList.drop k) : Nat)) ∧ w = w' := by
  have := word_any (suf s k) (by rw [suf_size]; omega) w
  rwa [suf_data] at this
theorem hasPrefix_suf (s p : ByteArray) (k : Nat) (w : World) : Calls Tryz.prog 37 #[.string (suf s k), .string p] w fun e w' => e = .returned (.bool (Lib.hasPrefix (s.data.toList.drop k) p.data.toList)) ∧ w = w' := by
  have := hasPrefix_any (suf s k) p w
  rwa [suf_data] at this
theorem indexByte_suf (s : ByteArray) (k : Nat) (c : UInt8) (w : World) : Calls Tryz.prog 36 #[.string (suf s k), .int .u8 (c.toNat : Int)] w fun e w' => e = .returned (.int .i64 (Lib.indexByte (s.data.toList.drop k) c)) ∧ w = w' := by
  have := indexByte_any (suf s k) c w
  rwa [suf_data] at this

/-! ### the lines of a long text -/
def matchE (name l : Bytes) : Bool := Lib.hasPrefix l name && wordN l == name.length
theorem ends_true (name l : Bytes) : endsN name true l = if matchE name l then some 0 else endsN name false l := by
  cases l with
  | nil => unfold endsN matchE; simp
  | cons c r => rw [endsN, endsN]; simp [matchE]
theorem ends_miss (name : Bytes) (l : Bytes) (h : Lib.indexByte l 10 = -1) : endsN name false l = none := by
  induction l with
  | nil => rw [endsN]; simp
  | cons c r ih =>
    unfold Lib.indexByte at h
    by_cases hc : c = 10
    · subst hc; simp at h
    · rw [if_neg (by simpa using hc)] at h
      by_cases hr : Lib.indexByte r 10 = -1
      · rw [endsN]
        have : (c == 10) = false := by simpa using hc
        rw [this, ih hr]; simp
      · rw [if_neg (by simpa using hr)] at h
        have := Lib.indexByte_ge r 10
        omega
theorem ends_hit (name : Bytes) (l : Bytes) (i : Nat) (h : Lib.indexByte l 10 = i) : endsN name false l = (endsN name true (l.drop (i + 1))).map (· + (i + 1)) := by
  induction l generalizing i with
  | nil => simp [Lib.indexByte] at h
  | cons c r ih =>
    unfold Lib.indexByte at h
    by_cases hc : c = 10
    · subst hc
      simp at h
      obtain rfl : i = 0 := by omega
      rw [endsN]; simp
    · rw [if_neg (by simpa using hc)] at h
      by_cases hr : Lib.indexByte r 10 = -1
      · rw [if_pos (by simpa using hr)] at h; omega
      · rw [if_neg (by simpa using hr)] at h
        obtain ⟨j, rfl⟩ : ∃ j, i = j + 1 := ⟨i - 1, by have := Lib.indexByte_ge r 10; omega⟩
        have e := ih j (by omega)
        have hc' : (c == 10) = false := by simpa using hc
        rw [endsN, hc', e]
        simp only [Bool.false_and, Bool.false_eq_true, if_false, List.drop_succ_cons]
        cases endsN name true (r.drop (j + 1)) <;> simp <;> omega
theorem index_lt (l : Bytes) (i : Nat) (h : Lib.indexByte l 10 = i) : i < l.length := by
  induction l generalizing i with
  | nil => simp [Lib.indexByte] at h
  | cons c r ih =>
    unfold Lib.indexByte at h
    by_cases hc : c = 10
    · subst hc
      simp at h
      obtain rfl : i = 0 := by omega
      simp
    · rw [if_neg (by simpa using hc)] at h
      by_cases hr : Lib.indexByte r 10 = -1
      · rw [if_pos (by simpa using hr)] at h; omega
      · rw [if_neg (by simpa using hr)] at h
        have := ih (i - 1) (by have := Lib.indexByte_ge r 10; omega)
        simp; omega
/-- What a long text has, told from the line that begins at byte j. -/
def LongAt (s : ByteArray) (name : Bytes) (n j : Nat) : Prop := longN s.data.toList = match endsN name true (s.data.toList.drop j) with | some i => j + i + n | none => s.size
theorem long_end {s : ByteArray} {name : Bytes} {n j : Nat} (h : LongAt s name n j) (hm : matchE name (s.data.toList.drop j) = true) : longN s.data.toList = j + n := by
  unfold LongAt at h
  rw [ends_true, if_pos hm] at h
  simpa using h
theorem long_all {s : ByteArray} {name : Bytes} {n j : Nat} (h : LongAt s name n j) (hm : matchE name (s.data.toList.drop j) = false) (hi : Lib.indexByte (s.data.toList.drop j) 10 = -1) : longN s.data.toList = s.size := by
  unfold LongAt at h
  rw [ends_true, if_neg (by rw [hm]; decide), ends_miss _ _ hi] at h
  exact h
theorem long_next {s : ByteArray} {name : Bytes} {n j i : Nat} (h : LongAt s name n j) (hm : matchE name (s.data.toList.drop j) = false) (hi : Lib.indexByte (s.data.toList.drop j) 10 = i) : LongAt s name n (j + (i + 1)) := by
  unfold LongAt at *
  rw [ends_true, if_neg (by rw [hm]; decide), ends_hit _ _ i hi, List.drop_drop] at h
  rw [h]
  cases endsN name true (s.data.toList.drop (j + (i + 1))) <;> simp <;> omega

theorem longH_no (l : Bytes) (h : Lib.hasPrefix l [60, 60, 60] = false) : longN l = 0 := by
  have e : longH l = (0, 0, 0) := by unfold longH; rw [if_neg (by rw [h]; decide)]
  unfold longN; rw [e]; rfl
/-- The head of a long text, read off its four tests. -/
theorem longH_eq (l : Bytes) (q n : Nat) (h : Lib.hasPrefix l [60, 60, 60] = true) (hq : (if Lib.hasPrefix (l.drop 3) [39] = true then 1 else 0) = q) (hn : wordN (l.drop (3 + q)) = n) :
    longH l = if n = 0 then (0, 0, 0) else if (decide (q = 1) && !Lib.hasPrefix (l.drop (3 + q + n)) [39]) = true then (0, 0, 0) else if Lib.hasPrefix (l.drop (3 + q + n + q)) [10] = true then (3 + q, n, 3 + q + n + q + 1) else (0, 0, 0) := by
  unfold longH
  rw [if_pos h]
  simp only [hq, hn]

theorem cutPrefix_suf (s p : ByteArray) (k : Nat) (b : Bool) (h : Lib.hasPrefix (s.data.toList.drop k) p.data.toList = b) (w : World) : Calls Tryz.prog 33 #[.string (suf s k), .string p] w fun e w' => e = .returned (.tuple #[.string (suf s (k + if b = true then p.size else 0)), .bool b]) ∧ w = w' := by
  cases b with
  | true => exact cutPrefix_yes s p k h w
  | false => exact cutPrefix_no s p k h w
theorem longN_no {l : Bytes} (h : longH l = (0, 0, 0)) : longN l = 0 := by
  unfold longN; rw [h]; rfl
theorem longN_at {s nm : ByteArray} {k n j : Nat} (h : longH s.data.toList = (k, n, j)) (hn : n ≠ 0) (hm : nm.data.toList = (s.data.toList.drop k).take n) : LongAt s nm.data.toList n j := by
  unfold LongAt longN
  rw [h]
  simp only
  rw [if_neg hn, hm, Lib.size_eq]
  cases endsN (List.take n (List.drop k s.data.toList)) true (List.drop j s.data.toList) <;> rfl
theorem pre_le {l p : Bytes} (h : Lib.hasPrefix l p = true) : p.length ≤ l.length := by
  rcases Nat.lt_or_ge l.length p.length with h1 | h1
  · rw [← Lib.hasPrefix_of_take, decide_eq_false (by omega)] at h
    simp at h
  · exact h1

theorem name_of (s : ByteArray) (k n : Nat) : ((suf s k).extract 0 n).data.toList = (s.data.toList.drop k).take n := by
  rw [Lib.extract_data, suf_data]; simp
theorem name_size (s : ByteArray) (k n : Nat) (h : k + n ≤ s.size) : ((suf s k).extract 0 n).data.toList.length = n := by
  rw [name_of, List.length_take, List.length_drop]
  have := Lib.size_eq s
  omega
theorem match_of (nm l : Bytes) (n : Nat) (h : nm.length = n) (b : Bool) (c : Bool) (h1 : Lib.hasPrefix l nm = b) (h2 : (decide (wordN l = n)) = c) : matchE nm l = (b && c) := by
  unfold matchE; rw [h1, h, ← h2]; rfl
theorem index_cases (l : Bytes) : Lib.indexByte l 10 = -1 ∨ ∃ i : Nat, Lib.indexByte l 10 = i := by
  have := Lib.indexByte_ge l 10
  rcases Int.lt_or_le (Lib.indexByte l 10) 0 with h | h
  · exact .inl (by omega)
  · exact .inr ⟨(Lib.indexByte l 10).toNat, by omega⟩

set_option maxRecDepth 100000 in
set_option maxHeartbeats 4000000 in
theorem long_plain (s : ByteArray) (hs : s.size ≤ 1152921504606846976) (k1 : Lib.hasPrefix s.data.toList [60, 60, 60] = true) (k2 : Lib.hasPrefix (s.data.toList.drop 3) [39] = false) (w : World) : Calls Tryz.prog 52 #[.string s] w fun e w' => e = .returned (.int .i64 (longN s.data.toList : Nat)) ∧ w = w' := by
  have hml : s.size ≤ maxLen := by unfold maxLen; omega
  have Hml := Lib.hid hml; clear hml
  have hl3 : 3 ≤ s.size := by have := pre_le k1; have := Lib.size_eq s; simp at *; omega
  have Hc := Lib.hid (cutPrefix_suf s ⟨#[60, 60, 60]⟩ 0 true k1)
  rw [suf_zero] at Hc
  have Hc2 := Lib.hid (cutPrefix_suf s ⟨#[39]⟩ 3 false k2)
  obtain ⟨n, hn⟩ : ∃ n, wordN (s.data.toList.drop 3) = n := ⟨_, rfl⟩
  obtain ⟨c3, h3⟩ : ∃ c, Lib.hasPrefix (s.data.toList.drop (3 + n)) [10] = c := ⟨_, rfl⟩
  have hH := longH_eq s.data.toList 0 n k1 (by rw [k2]; rfl) hn
  have Hc3 := Lib.hid (cutPrefix_suf s ⟨#[10]⟩ (3 + n) c3 h3)
  have hnl : 3 + n ≤ s.size := by
    have := wordN_le (s.data.toList.drop 3)
    rw [hn, List.length_drop] at this
    have := Lib.size_eq s
    omega
  have HW := Lib.hid (word_suf s Hml.out 3)
  rw [hn] at HW
  have hnI : (n : Int) ≤ ((suf s 3).size : Int) := by rw [suf_size]; omega
  have hsl : (suf s 3).extract n (suf s 3).size = suf s (3 + n) := suf_suf s 3 n
  clear k1 k2
  obtain ⟨nm, hnm⟩ : ∃ nm, (suf s 3).extract 0 n = nm := ⟨_, rfl⟩
  have HN1 := Lib.hid (name_of s 3 n)
  have HN2 := Lib.hid (name_size s 3 n hnl)
  rw [hnm] at HN1 HN2
  replace hH : longH s.data.toList = if n = 0 then (0, 0, 0) else if c3 = true then (3, n, 3 + n + 1) else (0, 0, 0) := by
    rw [hH, show 3 + 0 + n + 0 = 3 + n from rfl, h3]; rfl
  have HH := Lib.hid hH; clear hH hn
  go_enter Tryz.func52, Tryz.ntmps52
  go_wp2_with fail
  refine (Hc.out _).mono ?_
  rintro e w1 ⟨rfl, rfl⟩
  go_wp2_with fail
  refine (Hc2.out _).mono ?_
  rintro e w1 ⟨rfl, rfl⟩
  go_wp2_with fail
  refine (HW.out _).mono ?_
  rintro e w1 ⟨rfl, rfl⟩
  go_wp2_with fail
  refine (Hc3.out _).mono ?_
  rintro e w1 ⟨rfl, rfl⟩
  by_cases h0 : n = 0
  · have HR : Hid (longN s.data.toList = 0) := longN_no (by rw [HH.out, if_pos h0])
    have h0' : ((n : Int) == 0) = true := by simp; omega
    clear h0
    go_wp2_with fail
    all_goals
      go_ret
      exact ⟨ret_int (by rw [HR.out]; rfl), rfl⟩
  · have h0' : ((n : Int) == 0) = false := by simp; omega
    cases c3 with
    | false =>
      have HR : Hid (longN s.data.toList = 0) := longN_no (by rw [HH.out, if_neg h0, if_neg (by decide)])
      go_wp2_with fail
      go_ret
      exact ⟨ret_int (by rw [HR.out]; rfl), rfl⟩
    | true =>
      have HL : Hid (LongAt s nm.data.toList n (3 + n + 1)) := longN_at (by rw [HH.out, if_neg h0, if_pos rfl]) h0 HN1.out
      have hj0 : 3 + n + 1 ≤ s.size := by have := pre_le h3; rw [List.length_drop] at this; have := Lib.size_eq s; simp at *; omega
      clear h3
      go_wp2_with fail
      go_loopg [3] (s.size - (3 + n + 1)) (fun g r wx => w = wx ∧ ∃ j : Nat, j + g = s.size ∧ r = .string (suf s j) ∧ Hid (LongAt s nm.data.toList n j))
      case atStart => exact ⟨rfl, 3 + n + 1, by omega, rfl, HL⟩
      case round =>
        obtain ⟨rfl, j, hjg, rfl, Hj⟩ := hrel
        have hszj : ((suf s j).size : Int) = (s.size : Int) - j := by rw [suf_size]; omega
        obtain ⟨b, hb⟩ : ∃ b, Lib.hasPrefix (s.data.toList.drop j) nm.data.toList = b := ⟨_, rfl⟩
        obtain ⟨c, hc⟩ : ∃ c, decide (wordN (s.data.toList.drop j) = n) = c := ⟨_, rfl⟩
        have hm := match_of nm.data.toList (s.data.toList.drop j) n HN2.out b c hb hc
        have HP := Lib.hid (hasPrefix_suf s nm j)
        rw [hb] at HP
        have HV := Lib.hid (word_suf s Hml.out j)
        obtain ⟨m, hmw⟩ : ∃ m, wordN (s.data.toList.drop j) = m := ⟨_, rfl⟩
        rw [hmw] at HV hc
        have hcI : ((m : Int) == (n : Int)) = c := by rw [← hc, Bool.eq_iff_iff]; simp; omega
        clear hb hc hmw
        by_cases hd : (b && c) = true
        · rw [hd] at hm
          have HR := Lib.hid (long_end Hj.out hm)
          simp only [Bool.and_eq_true] at hd
          obtain ⟨rfl, rfl⟩ := hd
          clear hm
          go_wp2_with (first | (go_at_call 37; refine (HP.out _).mono ?_; rintro e w1 ⟨rfl, rfl⟩) | (go_at_call 73; refine (HV.out _).mono ?_; rintro e w1 ⟨rfl, rfl⟩))
          go_ret
          exact ⟨ret_int (by rw [HR.out]; push_cast; omega), rfl⟩
        · have hm' : matchE nm.data.toList (s.data.toList.drop j) = false := by rw [hm]; simpa using hd
          have HI := Lib.hid (indexByte_suf s j 10)
          clear hm
          rcases index_cases (s.data.toList.drop j) with hi | ⟨i, hi⟩
          · have HR := Lib.hid (long_all Hj.out hm' hi)
            rw [hi] at HI
            clear hi hm'
            cases b with
            | false =>
              clear hd
              go_wp2_with (first | (go_at_call 37; refine (HP.out _).mono ?_; rintro e w1 ⟨rfl, rfl⟩) | (go_at_call 73; refine (HV.out _).mono ?_; rintro e w1 ⟨rfl, rfl⟩) | (go_at_call 36; refine (HI.out _).mono ?_; rintro e w1 ⟨rfl, rfl⟩))
              go_ret
              exact ⟨ret_int (by rw [HR.out]), rfl⟩
            | true =>
              cases c with
              | true => exact absurd rfl hd
              | false =>
                clear hd
                go_wp2_with (first | (go_at_call 37; refine (HP.out _).mono ?_; rintro e w1 ⟨rfl, rfl⟩) | (go_at_call 73; refine (HV.out _).mono ?_; rintro e w1 ⟨rfl, rfl⟩) | (go_at_call 36; refine (HI.out _).mono ?_; rintro e w1 ⟨rfl, rfl⟩))
                go_ret
                exact ⟨ret_int (by rw [HR.out]), rfl⟩
          · have HR := Lib.hid (long_next Hj.out hm' hi)
            have hil := index_lt _ _ hi
            rw [List.length_drop, ← Lib.size_eq] at hil
            have hneg : ((i : Int) < 0) = False := by simp
            have hsl2 : (suf s j).extract (i + 1) (suf s j).size = suf s (j + (i + 1)) := suf_suf s j (i + 1)
            rw [hi] at HI
            clear hi hm'
            cases b with
            | false =>
              clear hd
              go_wp2_with (first | (go_at_call 37; refine (HP.out _).mono ?_; rintro e w1 ⟨rfl, rfl⟩) | (go_at_call 73; refine (HV.out _).mono ?_; rintro e w1 ⟨rfl, rfl⟩) | (go_at_call 36; refine (HI.out _).mono ?_; rintro e w1 ⟨rfl, rfl⟩))
              go_roundg (gk - (i + 1))
              case rel => exact ⟨rfl, j + (i + 1), by omega, rfl, HR⟩
              case measure => omega
            | true =>
              cases c with
              | true => exact absurd rfl hd
              | false =>
                clear hd
                go_wp2_with (first | (go_at_call 37; refine (HP.out _).mono ?_; rintro e w1 ⟨rfl, rfl⟩) | (go_at_call 73; refine (HV.out _).mono ?_; rintro e w1 ⟨rfl, rfl⟩) | (go_at_call 36; refine (HI.out _).mono ?_; rintro e w1 ⟨rfl, rfl⟩))
                go_roundg (gk - (i + 1))
                case rel => exact ⟨rfl, j + (i + 1), by omega, rfl, HR⟩
                case measure => omega

set_option maxRecDepth 100000 in
set_option maxHeartbeats 4000000 in
theorem long_quoted (s : ByteArray) (hs : s.size ≤ 1152921504606846976) (k1 : Lib.hasPrefix s.data.toList [60, 60, 60] = true) (k2 : Lib.hasPrefix (s.data.toList.drop 3) [39] = true) (w : World) : Calls Tryz.prog 52 #[.string s] w fun e w' => e = .returned (.int .i64 (longN s.data.toList : Nat)) ∧ w = w' := by
  have hml : s.size ≤ maxLen := by unfold maxLen; omega
  have Hml := Lib.hid hml; clear hml
  have hl3 : 4 ≤ s.size := by have := pre_le k2; rw [List.length_drop] at this; have := Lib.size_eq s; simp at *; omega
  have Hc := Lib.hid (cutPrefix_suf s ⟨#[60, 60, 60]⟩ 0 true k1)
  rw [suf_zero] at Hc
  have Hc2 := Lib.hid (cutPrefix_suf s ⟨#[39]⟩ 3 true k2)
  obtain ⟨n, hn⟩ : ∃ n, wordN (s.data.toList.drop 4) = n := ⟨_, rfl⟩
  obtain ⟨c2, h2⟩ : ∃ c, Lib.hasPrefix (s.data.toList.drop (4 + n)) [39] = c := ⟨_, rfl⟩
  have hH := longH_eq s.data.toList 1 n k1 (by rw [k2]; rfl) hn
  have Hc4 := Lib.hid (cutPrefix_suf s ⟨#[39]⟩ (4 + n) c2 h2)
  have hnl : 4 + n ≤ s.size := by
    have := wordN_le (s.data.toList.drop 4)
    rw [hn, List.length_drop] at this
    have := Lib.size_eq s
    omega
  have HW := Lib.hid (word_suf s Hml.out 4)
  rw [hn] at HW
  have hnI : (n : Int) ≤ ((suf s 4).size : Int) := by rw [suf_size]; omega
  have hsl : (suf s 4).extract n (suf s 4).size = suf s (4 + n) := suf_suf s 4 n
  clear k1 k2
  obtain ⟨nm, hnm⟩ : ∃ nm, (suf s 4).extract 0 n = nm := ⟨_, rfl⟩
  have HN1 := Lib.hid (name_of s 4 n)
  have HN2 := Lib.hid (name_size s 4 n hnl)
  rw [hnm] at HN1 HN2
  clear hn
  cases c2 with
  | false =>
    obtain ⟨c3, h3⟩ : ∃ c, Lib.hasPrefix (s.data.toList.drop (4 + n)) [10] = c := ⟨_, rfl⟩
    have Hc3 := Lib.hid (cutPrefix_suf s ⟨#[10]⟩ (4 + n) c3 h3)
    have HR : Hid (longN s.data.toList = 0) := longN_no (by rw [hH, show 3 + 1 + n = 4 + n from rfl, h2]; split <;> rfl)
    clear hH h2 h3
    go_enter Tryz.func52, Tryz.ntmps52
    go_wp2_with fail
    refine (Hc.out _).mono ?_
    rintro e w1 ⟨rfl, rfl⟩
    go_wp2_with fail
    refine (Hc2.out _).mono ?_
    rintro e w1 ⟨rfl, rfl⟩
    go_wp2_with fail
    refine (HW.out _).mono ?_
    rintro e w1 ⟨rfl, rfl⟩
    go_wp2_with fail
    refine (Hc4.out _).mono ?_
    rintro e w1 ⟨rfl, rfl⟩
    go_wp2_with fail
    refine (Hc3.out _).mono ?_
    rintro e w1 ⟨rfl, rfl⟩
    go_wp2_with fail
    all_goals
      go_ret
      exact ⟨ret_int (by rw [HR.out]; rfl), rfl⟩
  | true =>
    obtain ⟨c3, h3⟩ : ∃ c, Lib.hasPrefix (s.data.toList.drop (4 + n + 1)) [10] = c := ⟨_, rfl⟩
    have Hc3 := Lib.hid (cutPrefix_suf s ⟨#[10]⟩ (4 + n + 1) c3 h3)
    replace hH : longH s.data.toList = if n = 0 then (0, 0, 0) else if c3 = true then (4, n, 4 + n + 1 + 1) else (0, 0, 0) := by
      rw [hH, show 3 + 1 + n = 4 + n from rfl, h2, h3]; rfl
    have HH := Lib.hid hH; clear hH h2
    go_enter Tryz.func52, Tryz.ntmps52
    go_wp2_with fail
    refine (Hc.out _).mono ?_
    rintro e w1 ⟨rfl, rfl⟩
    go_wp2_with fail
    refine (Hc2.out _).mono ?_
    rintro e w1 ⟨rfl, rfl⟩
    go_wp2_with fail
    refine (HW.out _).mono ?_
    rintro e w1 ⟨rfl, rfl⟩
    go_wp2_with fail
    refine (Hc4.out _).mono ?_
    rintro e w1 ⟨rfl, rfl⟩
    go_wp2_with fail
    refine (Hc3.out _).mono ?_
    rintro e w1 ⟨rfl, rfl⟩
    by_cases h0 : n = 0
    · have HR : Hid (longN s.data.toList = 0) := longN_no (by rw [HH.out, if_pos h0])
      have h0' : ((n : Int) == 0) = true := by simp; omega
      clear h0
      go_wp2_with fail
      all_goals
        go_ret
        exact ⟨ret_int (by rw [HR.out]; rfl), rfl⟩
    · have h0' : ((n : Int) == 0) = false := by simp; omega
      cases c3 with
      | false =>
        have HR : Hid (longN s.data.toList = 0) := longN_no (by rw [HH.out, if_neg h0, if_neg (by decide)])
        go_wp2_with fail
        go_ret
        exact ⟨ret_int (by rw [HR.out]; rfl), rfl⟩
      | true =>
        have HL : Hid (LongAt s nm.data.toList n (4 + n + 1 + 1)) := longN_at (by rw [HH.out, if_neg h0, if_pos rfl]) h0 HN1.out
        have hj0 : 4 + n + 1 + 1 ≤ s.size := by have := pre_le h3; rw [List.length_drop] at this; have := Lib.size_eq s; simp at *; omega
        clear h3
        go_wp2_with fail
        go_loopg [3] (s.size - (4 + n + 1 + 1)) (fun g r wx => w = wx ∧ ∃ j : Nat, j + g = s.size ∧ r = .string (suf s j) ∧ Hid (LongAt s nm.data.toList n j))
        case atStart => exact ⟨rfl, 4 + n + 1 + 1, by omega, rfl, HL⟩
        case round =>
          obtain ⟨rfl, j, hjg, rfl, Hj⟩ := hrel
          have hszj : ((suf s j).size : Int) = (s.size : Int) - j := by rw [suf_size]; omega
          obtain ⟨b, hb⟩ : ∃ b, Lib.hasPrefix (s.data.toList.drop j) nm.data.toList = b := ⟨_, rfl⟩
          obtain ⟨c, hc⟩ : ∃ c, decide (wordN (s.data.toList.drop j) = n) = c := ⟨_, rfl⟩
          have hm := match_of nm.data.toList (s.data.toList.drop j) n HN2.out b c hb hc
          have HP := Lib.hid (hasPrefix_suf s nm j)
          rw [hb] at HP
          have HV := Lib.hid (word_suf s Hml.out j)
          obtain ⟨m, hmw⟩ : ∃ m, wordN (s.data.toList.drop j) = m := ⟨_, rfl⟩
          rw [hmw] at HV hc
          have hcI : ((m : Int) == (n : Int)) = c := by rw [← hc, Bool.eq_iff_iff]; simp; omega
          clear hb hc hmw
          by_cases hd : (b && c) = true
          · rw [hd] at hm
            have HR := Lib.hid (long_end Hj.out hm)
            simp only [Bool.and_eq_true] at hd
            obtain ⟨rfl, rfl⟩ := hd
            clear hm
            go_wp2_with (first | (go_at_call 37; refine (HP.out _).mono ?_; rintro e w1 ⟨rfl, rfl⟩) | (go_at_call 73; refine (HV.out _).mono ?_; rintro e w1 ⟨rfl, rfl⟩))
            go_ret
            exact ⟨ret_int (by rw [HR.out]; push_cast; omega), rfl⟩
          · have hm' : matchE nm.data.toList (s.data.toList.drop j) = false := by rw [hm]; simpa using hd
            have HI := Lib.hid (indexByte_suf s j 10)
            clear hm
            rcases index_cases (s.data.toList.drop j) with hi | ⟨i, hi⟩
            · have HR := Lib.hid (long_all Hj.out hm' hi)
              rw [hi] at HI
              clear hi hm'
              cases b with
              | false =>
                clear hd
                go_wp2_with (first | (go_at_call 37; refine (HP.out _).mono ?_; rintro e w1 ⟨rfl, rfl⟩) | (go_at_call 73; refine (HV.out _).mono ?_; rintro e w1 ⟨rfl, rfl⟩) | (go_at_call 36; refine (HI.out _).mono ?_; rintro e w1 ⟨rfl, rfl⟩))
                go_ret
                exact ⟨ret_int (by rw [HR.out]), rfl⟩
              | true =>
                cases c with
                | true => exact absurd rfl hd
                | false =>
                  clear hd
                  go_wp2_with (first | (go_at_call 37; refine (HP.out _).mono ?_; rintro e w1 ⟨rfl, rfl⟩) | (go_at_call 73; refine (HV.out _).mono ?_; rintro e w1 ⟨rfl, rfl⟩) | (go_at_call 36; refine (HI.out _).mono ?_; rintro e w1 ⟨rfl, rfl⟩))
                  go_ret
                  exact ⟨ret_int (by rw [HR.out]), rfl⟩
            · have HR := Lib.hid (long_next Hj.out hm' hi)
              have hil := index_lt _ _ hi
              rw [List.length_drop, ← Lib.size_eq] at hil
              have hneg : ((i : Int) < 0) = False := by simp
              have hsl2 : (suf s j).extract (i + 1) (suf s j).size = suf s (j + (i + 1)) := suf_suf s j (i + 1)
              rw [hi] at HI
              clear hi hm'
              cases b with
              | false =>
                clear hd
                go_wp2_with (first | (go_at_call 37; refine (HP.out _).mono ?_; rintro e w1 ⟨rfl, rfl⟩) | (go_at_call 73; refine (HV.out _).mono ?_; rintro e w1 ⟨rfl, rfl⟩) | (go_at_call 36; refine (HI.out _).mono ?_; rintro e w1 ⟨rfl, rfl⟩))
                go_roundg (gk - (i + 1))
                case rel => exact ⟨rfl, j + (i + 1), by omega, rfl, HR⟩
                case measure => omega
              | true =>
                cases c with
                | true => exact absurd rfl hd
                | false =>
                  clear hd
                  go_wp2_with (first | (go_at_call 37; refine (HP.out _).mono ?_; rintro e w1 ⟨rfl, rfl⟩) | (go_at_call 73; refine (HV.out _).mono ?_; rintro e w1 ⟨rfl, rfl⟩) | (go_at_call 36; refine (HI.out _).mono ?_; rintro e w1 ⟨rfl, rfl⟩))
                  go_roundg (gk - (i + 1))
                  case rel => exact ⟨rfl, j + (i + 1), by omega, rfl, HR⟩
                  case measure => omega

theorem long_any (s : ByteArray) (hs : s.size ≤ 1152921504606846976) (w : World) : Calls Tryz.prog 52 #[.string s] w fun e w' => e = .returned (.int .i64 (longN s.data.toList : Nat)) ∧ w = w' := by
  cases k1 : Lib.hasPrefix s.data.toList [60, 60, 60] with
  | false =>
    rw [longH_no _ k1]
    have hc := cutPrefix_no s ⟨#[60, 60, 60]⟩ 0 k1
    rw [suf_zero] at hc
    have Hc := Lib.hid hc; clear hc k1
    go_enter Tryz.func52, Tryz.ntmps52
    go_wp2_with (go_at_call 33; refine (Hc.out _).mono ?_; rintro e w' ⟨rfl, rfl⟩)
    go_ret
    exact ⟨rfl, rfl⟩
  | true =>
    cases k2 : Lib.hasPrefix (s.data.toList.drop 3) [39] with
    | false => exact long_plain s hs k1 k2 w
    | true => exact long_quoted s hs k1 k2 w
end Go.Proofs.YteajmgkdiioflaaGreatDoor
