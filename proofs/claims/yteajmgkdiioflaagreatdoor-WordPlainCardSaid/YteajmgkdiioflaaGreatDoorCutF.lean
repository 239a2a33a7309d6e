/- Plain laws of code, and the walk of cut.code. -/
import Derived.Test.YteajmgkdiioflaaGreatDoorCutE
import Derived.Test.YteajmgkdiioflaaGreatDoorCutB
import Derived.Lib.IndexMore
namespace Go.Proofs.YteajmgkdiioflaaGreatDoor
open Go.RowKit

theorem textT_len (q : UInt8) : ∀ (n : Nat) (l : Bytes), l.length ≤ n → textT q l ≤ l.length := by
  intro n
  induction n with
  | zero => intro l h; have : l = [] := List.eq_nil_of_length_eq_zero (by omega); subst this; rw [textT]; exact Nat.le_refl _
  | succ n ih =>
    intro l h
    cases l with
    | nil => rw [textT]; exact Nat.le_refl _
    | cons c r =>
      rw [textT_cons]
      split
      · cases r with
        | nil => simp
        | cons d r' => simp only [List.length_cons] at *; have := ih r' (by omega); omega
      · split
        · simp
        · simp only [List.length_cons] at *; have := ih r (by omega); omega
theorem textN_len (l : Bytes) : textN l ≤ l.length := by
  cases l with
  | nil => exact Nat.le_refl _
  | cons q r => have := textT_len q r.length r (Nat.le_refl _); simp only [textN, List.length_cons]; omega
theorem textN_pos (c : UInt8) (r : Bytes) : 1 ≤ textN (c :: r) := by simp only [textN]; omega
theorem lineN_len (l : Bytes) : lineN l ≤ l.length := by
  induction l with
  | nil => exact Nat.le_refl _
  | cons c r ih => rw [lineN]; split <;> simp only [List.length_cons] <;> omega
theorem pre_cons (c p : UInt8) (r q : Bytes) : Lib.hasPrefix (c :: r) (p :: q) = (c == p && Lib.hasPrefix r q) := by
  unfold Lib.hasPrefix
  rw [Bool.eq_iff_iff]; simp [List.cons_prefix_cons]; intro _; exact eq_comm
theorem endsN_len (name : Bytes) : ∀ (l : Bytes) (b : Bool) (i : Nat), endsN name b l = some i → i + name.length ≤ l.length
  | [], b, i, h => by
    unfold endsN at h
    split at h
    · rename_i hc
      injection h with h
      simp only [Bool.and_eq_true] at hc
      have := pre_le hc.1.2
      omega
    · exact absurd h (by simp)
  | c :: r, b, i, h => by
    unfold endsN at h
    split at h
    · rename_i hc
      injection h with h
      simp only [Bool.and_eq_true] at hc
      have := pre_le hc.1.2
      omega
    · cases he : endsN name (c == 10) r with
      | none => rw [he] at h; exact absurd h (by simp)
      | some k =>
        rw [he] at h
        simp at h
        have := endsN_len name r _ k he
        simp only [List.length_cons]
        omega
theorem longH_len (l : Bytes) : (longH l).1 + (longH l).2.1 ≤ l.length := by
  unfold longH
  split
  · obtain ⟨q, hq⟩ : ∃ q, (if Lib.hasPrefix (l.drop 3) [39] = true then 1 else 0) = q := ⟨_, rfl⟩
    simp only [hq]
    split
    · simp
    · split
      · simp
      · split
        · have := wordN_le (l.drop (3 + q))
          rw [List.length_drop] at this
          simp only
          omega
        · simp
  · simp
theorem longN_len (l : Bytes) : longN l ≤ l.length := by
  unfold longN
  have hk := longH_len l
  generalize longH l = p at *
  obtain ⟨k, n, j⟩ := p
  simp only at *
  split
  · omega
  · rename_i hn
    split
    · rename_i i he
      have := endsN_len _ _ _ _ he
      rw [List.length_take, List.length_drop, List.length_drop] at this
      omega
    · omega
theorem stepN_len (l : Bytes) : stepN l ≤ l.length := by
  cases l with
  | nil => exact Nat.le_refl _
  | cons c r =>
    unfold stepN
    simp only
    split
    · exact textN_len _
    · split
      · rename_i hp
        have := pre_le hp
        have h2 := Lib.index_room ((c :: r).drop 2) [42, 47]
        split
        · exact Nat.le_refl _
        · rename_i hi
          have := h2 (by omega)
          rw [List.length_drop] at this
          simp only [List.length_cons, List.length_nil] at *
          omega
      · split
        · exact lineN_len _
        · have := longN_len (c :: r)
          simp only [List.length_cons] at *
          omega
theorem stepN_pos (c : UInt8) (r : Bytes) : 1 ≤ stepN (c :: r) := by
  unfold stepN
  simp only
  split
  · exact textN_pos c r
  · split
    · split
      · simp
      · omega
    · split
      · rename_i h1
        rw [lineN]
        have : ¬ ((decide (c = 10) || Lib.hasPrefix (c :: r) [63, 62]) = true) := by
          rw [pre_cons] at h1 ⊢
          simp only [Bool.or_eq_true, decide_eq_true_eq, Bool.and_eq_true, beq_iff_eq] at h1 ⊢
          rcases h1 with rfl | ⟨rfl, -⟩ <;> simp
        rw [if_neg this]
        omega
      · omega
theorem codeF_fuel : ∀ (n : Nat) (l : Bytes) (f : Nat), l.length ≤ n → l.length ≤ f → codeF f l = codeF l.length l := by
  intro n
  induction n with
  | zero =>
    intro l f h hf
    have : l = [] := List.eq_nil_of_length_eq_zero (by omega)
    subst this
    cases f <;> simp [codeF]
  | succ n ih =>
    intro l f h hf
    cases l with
    | nil => cases f <;> simp [codeF]
    | cons c r =>
      cases f with
      | zero => simp at hf
      | succ f =>
        have hp := stepN_pos c r
        simp only [List.length_cons] at *
        rw [codeF, codeF]
        have hd : ((c :: r).drop (stepN (c :: r))).length ≤ r.length := by rw [List.length_drop]; simp only [List.length_cons]; omega
        rw [ih _ f (by omega) (by omega), ih _ r.length (by omega) (by omega)]
theorem codeN_nil : codeN [] = 0 := rfl
theorem codeN_close {l : Bytes} (h : Lib.hasPrefix l [63, 62] = true) : codeN l = 0 := by
  unfold codeN
  cases l with
  | nil => rfl
  | cons c r => rw [List.length_cons, codeF, if_neg (by simp), if_pos h]
theorem codeN_step {l : Bytes} (hl : l ≠ []) (h : Lib.hasPrefix l [63, 62] = false) : codeN l = stepN l + codeN (l.drop (stepN l)) := by
  unfold codeN
  cases l with
  | nil => exact absurd rfl hl
  | cons c r =>
    have hp := stepN_pos c r
    rw [List.length_cons, codeF, if_neg hl, if_neg (by rw [h]; decide)]
    rw [codeF_fuel r.length _ r.length (by rw [List.length_drop]; simp only [List.length_cons]; omega) (by rw [List.length_drop]; simp only [List.length_cons]; omega)]
theorem codeN_len : ∀ (n : Nat) (l : Bytes), l.length ≤ n → codeN l ≤ l.length := by
  intro n
  induction n with
  | zero =>
    intro l h
    have : l = [] := List.eq_nil_of_length_eq_zero (by omega)
    subst this; exact Nat.le_refl _
  | succ n ih =>
    intro l h
    cases l with
    | nil => exact Nat.le_refl _
    | cons c r =>
      cases hc : Lib.hasPrefix (c :: r) [63, 62] with
      | true => rw [codeN_close hc]; omega
      | false =>
        rw [codeN_step (by simp) hc]
        have h1 := stepN_pos c r
        have h2 := stepN_len (c :: r)
        have h3 := ih ((c :: r).drop (stepN (c :: r))) (by rw [List.length_drop]; omega)
        rw [List.length_drop] at h3
        omega
theorem codeN_le (l : Bytes) : codeN l ≤ l.length := codeN_len _ l (Nat.le_refl _)

/-! ### the walk -/
/-- The bytes of code, told from byte i on. -/
def CodeAt (s : ByteArray) (b i : Nat) : Prop := codeN (s.data.toList.drop b) + b = i + codeN (s.data.toList.drop i)
theorem code_next {s : ByteArray} {b i m : Nat} (h : CodeAt s b i) (hi : i < s.size) (hp : Lib.hasPrefix (s.data.toList.drop i) [63, 62] = false) (hm : stepN (s.data.toList.drop i) = m) : CodeAt s b (i + m) := by
  unfold CodeAt at *
  rw [h, codeN_step (by rw [drop_cons s i hi]; simp) hp, hm, List.drop_drop]
  omega
theorem code_close {s : ByteArray} {b i : Nat} (h : CodeAt s b i) (hp : Lib.hasPrefix (s.data.toList.drop i) [63, 62] = true) : codeN (s.data.toList.drop b) + b = i := by
  unfold CodeAt at h
  rw [h, codeN_close hp]; rfl
theorem code_all {s : ByteArray} {b i : Nat} (h : CodeAt s b i) (hi : s.size ≤ i) : codeN (s.data.toList.drop b) + b = i := by
  unfold CodeAt at h
  rw [h, List.drop_eq_nil_of_le (by have := Lib.size_eq s; omega)]; rfl
theorem step_text (s : ByteArray) (i : Nat) (hi : i < s.size) (h : s[i] = 39 ∨ s[i] = 34) : stepN (s.data.toList.drop i) = textN (s.data.toList.drop i) := by
  rw [drop_cons s i hi]; unfold stepN; simp only
  rw [if_pos (by simpa using h)]
theorem step_note (s : ByteArray) (i : Nat) (hi : i < s.size) (h : ¬ (s[i] = 39 ∨ s[i] = 34)) (hp : Lib.hasPrefix (s.data.toList.drop i) [47, 42] = true) : stepN (s.data.toList.drop i) = if Lib.index (s.data.toList.drop (i + 2)) [42, 47] < 0 then s.size - i else (Lib.index (s.data.toList.drop (i + 2)) [42, 47]).toNat + 4 := by
  rw [← List.drop_drop]
  have hl : (s.data.toList.drop i).length = s.size - i := by rw [List.length_drop, Lib.size_eq]
  rw [drop_cons s i hi] at *; unfold stepN; simp only
  rw [if_neg (by simpa using h), if_pos hp, hl]
theorem step_line (s : ByteArray) (i : Nat) (hi : i < s.size) (h : ¬ (s[i] = 39 ∨ s[i] = 34)) (hp : Lib.hasPrefix (s.data.toList.drop i) [47, 42] = false) (hc : s[i] = 35 ∨ Lib.hasPrefix (s.data.toList.drop i) [47, 47] = true) : stepN (s.data.toList.drop i) = lineN (s.data.toList.drop i) := by
  rw [drop_cons s i hi] at *; unfold stepN; simp only
  rw [if_neg (by simpa using h), if_neg (by rw [hp]; decide), if_pos (by simpa using hc)]
theorem step_else (s : ByteArray) (i : Nat) (hi : i < s.size) (h : ¬ (s[i] = 39 ∨ s[i] = 34)) (hp : Lib.hasPrefix (s.data.toList.drop i) [47, 42] = false) (hc : ¬ (s[i] = 35 ∨ Lib.hasPrefix (s.data.toList.drop i) [47, 47] = true)) : stepN (s.data.toList.drop i) = max (longN (s.data.toList.drop i)) 1 := by
  rw [drop_cons s i hi] at *; unfold stepN; simp only
  rw [if_neg (by simpa using h), if_neg (by rw [hp]; decide), if_neg (by simpa using hc)]
def LineFrom (s : ByteArray) (i j : Nat) : Prop := lineN (s.data.toList.drop i) + i = lineN (s.data.toList.drop j) + j
theorem line_next {s : ByteArray} {i j : Nat} (h : LineFrom s i j) (hj : j < s.size) (h1 : s[j] ≠ 10) (h2 : Lib.hasPrefix (s.data.toList.drop j) [63, 62] = false) : LineFrom s i (j + 1) := by
  unfold LineFrom at *
  rw [drop_cons s j hj] at h h2
  rw [lineN, if_neg (by rw [h2]; simpa using h1)] at h
  omega
theorem line_stop {s : ByteArray} {i j : Nat} (h : LineFrom s i j) (hj : j < s.size) (h1 : s[j] = 10 ∨ Lib.hasPrefix (s.data.toList.drop j) [63, 62] = true) : lineN (s.data.toList.drop i) + i = j := by
  unfold LineFrom at *
  rw [drop_cons s j hj] at h h1
  rw [lineN, if_pos (by simpa using h1)] at h
  omega
theorem line_all {s : ByteArray} {i j : Nat} (h : LineFrom s i j) (hj : s.size ≤ j) : lineN (s.data.toList.drop i) + i = j := by
  unfold LineFrom at *
  rw [show List.drop j s.data.toList = [] from List.drop_eq_nil_of_le (by have := Lib.size_eq s; omega)] at h
  simpa [lineN] using h

theorem text_suf (s : ByteArray) (i : Nat) (hi : i < s.size) (hs : s.size ≤ 65536) (w : World) : Calls Tryz.prog 51 #[.string (suf s i)] w fun e w' => e = .returned (.int .i64 (textN (s.data.toList.drop i) : Nat)) ∧ w = w' := by
  have := text_any (suf s i) (by rw [suf_size]; omega) (by rw [suf_size]; omega) w
  rwa [suf_data] at this
theorem long_suf (s : ByteArray) (i : Nat) (hs : s.size ≤ 65536) (w : World) : Calls Tryz.prog 52 #[.string (suf s i)] w fun e w' => e = .returned (.int .i64 (longN (s.data.toList.drop i) : Nat)) ∧ w = w' := by
  have := long_any (suf s i) (by rw [suf_size]; omega) w
  rwa [suf_data] at this
theorem index_suf (s sub : ByteArray) (i : Nat) (hs : s.size ≤ 65536) (m : Int) (w : World) (hm : w.cell? ⟨0, 0, none⟩ = some (.int .i64 m)) : Calls Tryz.prog 38 #[.string (suf s i), .string sub] w fun e w' => e = .returned (.int .i64 (Lib.index (s.data.toList.drop i) sub.data.toList)) ∧ w = w' := by
  have := callsSym (Tryz.strings_Index (suf s i) sub m w (by rw [suf_size]; omega) hm)
  rwa [suf_data] at this
theorem suf_get0 (s : ByteArray) (k : Nat) (h : k < s.size) : ∀ h', (suf s k)[0]'h' = s[k] := fun h' => suf_get s k h h'

set_option maxRecDepth 100000 in
set_option maxHeartbeats 4000000 in
theorem code_any (s : ByteArray) (hs : s.size ≤ 65536) (m : Int) (w : World) (hm : w.cell? ⟨0, 0, none⟩ = some (.int .i64 m)) : Calls Tryz.prog 31 #[.string s] w fun e w' => e = .returned (.int .i64 (codeN s.data.toList : Nat)) ∧ w = w' := by
  have Hm := Lib.hid hm; clear hm
  go_enter Tryz.func31, Tryz.ntmps31
  go_wp2_with fail
  refine wp_scope_straight ?_
  go_wp2_with fail
  go_step3
  go_wp2_with fail
  go_loopg [3] s.size (fun g r wx => w = wx ∧ ∃ i : Nat, i + g = s.size ∧ r = .int .i64 i ∧ Hid (CodeAt s 0 i))
  case atStart => exact ⟨rfl, 0, by omega, rfl, by show CodeAt s 0 0; unfold CodeAt; simp⟩
  case round =>
    obtain ⟨rfl, i, hig, rfl, Hi⟩ := hrel
    by_cases hlt : i < s.size
    · have hsl : s.extract i s.size = suf s i := rfl
      cases k1 : Lib.hasPrefix (s.data.toList.drop i) [63, 62] with
      | true =>
        have HR := Lib.hid (code_close Hi.out k1)
        have HP := Lib.hid (hasPrefix_suf s ⟨#[63, 62]⟩ i)
        rw [k1] at HP
        clear k1
        go_wp2_with fail
        refine (HP.out _).mono ?_
        rintro e w1 ⟨rfl, rfl⟩
        go_wp2_with fail
        try rw [Exit.noGoto_ret]
        go_ret
        exact ⟨ret_int (by have := HR.out; rw [List.drop_zero] at this; omega), rfl⟩
      | false =>
        have HP := Lib.hid (hasPrefix_suf s ⟨#[63, 62]⟩ i)
        rw [k1] at HP
        have HN := Lib.hid (fun m => code_next (m := m) Hi.out hlt k1)
        have hszi : ((suf s i).size : Int) = (s.size : Int) - i := by rw [suf_size]; omega
        have hpos : (0 : Int) < ((suf s i).size : Int) := by omega
        have hg0 := suf_get0 s i hlt
        have hcb : (s[i].toNat : Int) ≤ 255 := by have := s[i].toNat_lt; omega
        clear k1
        obtain ⟨b39, h39⟩ : ∃ b, ((s[i].toNat : Int) == 39) = b := ⟨_, rfl⟩
        obtain ⟨b34, h34⟩ : ∃ b, ((s[i].toNat : Int) == 34) = b := ⟨_, rfl⟩
        have hquo : (s[i] = 39 ∨ s[i] = 34) ↔ (b39 || b34) = true := by
          rw [← h39, ← h34, ← UInt8.toNat_inj, ← UInt8.toNat_inj]; simp; omega
        by_cases hq : (b39 || b34) = true
        · have hst := step_text s i hlt (hquo.2 hq)
          have HT := Lib.hid (text_suf s i hlt hs)
          obtain ⟨n, hn⟩ : ∃ n, textN (s.data.toList.drop i) = n := ⟨_, rfl⟩
          have hnl : i + n ≤ s.size := by have := textN_len (s.data.toList.drop i); rw [hn, List.length_drop] at this; have := Lib.size_eq s; omega
          have hn1 : 1 ≤ n := by rw [← hn, drop_cons s i hlt]; exact textN_pos _ _
          rw [hn] at HT hst
          have HR := Lib.hid (HN.out n hst)
          clear hn hst hquo
          cases b39 with
          | true =>
            clear hq
            go_wp2_with (first | (go_at_call 37; first | (refine (HP.out _).mono ?_; rintro e w1 ⟨rfl, rfl⟩) | (refine (HP2.out _).mono ?_; rintro e w1 ⟨rfl, rfl⟩) | (refine (HP3.out _).mono ?_; rintro e w1 ⟨rfl, rfl⟩)) | (go_at_call 51; refine (HT.out _).mono ?_; rintro e w1 ⟨rfl, rfl⟩) | (go_at_call 38; refine (HI.out _ Hm.out).mono ?_; rintro e w1 ⟨rfl, rfl⟩) | (go_at_call 52; refine (HLo.out _).mono ?_; rintro e w1 ⟨rfl, rfl⟩))
            go_roundg (gk - n)
            case rel => exact ⟨rfl, i + n, by omega, by go_num, HR⟩
            case measure => omega
          | false =>
            cases b34 with
            | false => exact absurd hq (by decide)
            | true =>
              clear hq
              go_wp2_with (first | (go_at_call 37; first | (refine (HP.out _).mono ?_; rintro e w1 ⟨rfl, rfl⟩) | (refine (HP2.out _).mono ?_; rintro e w1 ⟨rfl, rfl⟩) | (refine (HP3.out _).mono ?_; rintro e w1 ⟨rfl, rfl⟩)) | (go_at_call 51; refine (HT.out _).mono ?_; rintro e w1 ⟨rfl, rfl⟩) | (go_at_call 38; refine (HI.out _ Hm.out).mono ?_; rintro e w1 ⟨rfl, rfl⟩) | (go_at_call 52; refine (HLo.out _).mono ?_; rintro e w1 ⟨rfl, rfl⟩))
              go_roundg (gk - n)
              case rel => exact ⟨rfl, i + n, by omega, by go_num, HR⟩
              case measure => omega
        · have hq' : ¬ (s[i] = 39 ∨ s[i] = 34) := fun h => hq (hquo.1 h)
          simp only [Bool.or_eq_true, not_or, Bool.not_eq_true] at hq
          obtain ⟨rfl, rfl⟩ := hq
          clear hquo
          cases k2 : Lib.hasPrefix (s.data.toList.drop i) [47, 42] with
          | true =>
            have HP2 := Lib.hid (hasPrefix_suf s ⟨#[47, 42]⟩ i)
            rw [k2] at HP2
            have hst := step_note s i hlt hq' k2
            have hsz2 : i + 2 ≤ s.size := by have := pre_le k2; rw [List.length_drop] at this; have := Lib.size_eq s; simp at *; omega
            have hsl2 : (suf s i).extract 2 (suf s i).size = suf s (i + 2) := suf_suf s i 2
            have HI := Lib.hid (index_suf s ⟨#[42, 47]⟩ (i + 2) hs m)
            have hroom := Lib.index_room (s.data.toList.drop (i + 2)) [42, 47]
            clear k2 hq'
            rw [show (⟨#[42, 47]⟩ : ByteArray).data.toList = [42, 47] from rfl] at HI
            generalize Lib.index (s.data.toList.drop (i + 2)) [42, 47] = r at *
            have hroom' : 0 ≤ r → r + 2 ≤ (s.size : Int) - (i + 2 : Nat) := fun h => by
              have := hroom h; rw [List.length_drop, ← Lib.size_eq] at this; simp only [List.length_cons, List.length_nil] at this; omega
            clear hroom
            by_cases hr : r < 0
            · have HR := Lib.hid (code_all (HN.out (s.size - i) (by rw [hst, if_pos hr])) (by omega))
              clear hst hroom'
              go_wp2_with (first | (go_at_call 37; first | (refine (HP.out _).mono ?_; rintro e w1 ⟨rfl, rfl⟩) | (refine (HP2.out _).mono ?_; rintro e w1 ⟨rfl, rfl⟩) | (refine (HP3.out _).mono ?_; rintro e w1 ⟨rfl, rfl⟩)) | (go_at_call 51; refine (HT.out _).mono ?_; rintro e w1 ⟨rfl, rfl⟩) | (go_at_call 38; refine (HI.out _ Hm.out).mono ?_; rintro e w1 ⟨rfl, rfl⟩) | (go_at_call 52; refine (HLo.out _).mono ?_; rintro e w1 ⟨rfl, rfl⟩))
              try rw [Exit.noGoto_ret]
              go_ret
              exact ⟨ret_int (by have := HR.out; rw [List.drop_zero] at this; omega), rfl⟩
            · obtain ⟨n, rfl⟩ : ∃ n : Nat, r = n := ⟨r.toNat, by omega⟩
              have HR := Lib.hid (HN.out (n + 4) (by rw [hst, if_neg hr]; rfl))
              have hn4 : i + (n + 4) ≤ s.size := by have := hroom' (by omega); omega
              clear hst hroom' hr
              have hneg : ((n : Int) < 0) = False := by simp
              go_wp2_with (first | (go_at_call 37; first | (refine (HP.out _).mono ?_; rintro e w1 ⟨rfl, rfl⟩) | (refine (HP2.out _).mono ?_; rintro e w1 ⟨rfl, rfl⟩) | (refine (HP3.out _).mono ?_; rintro e w1 ⟨rfl, rfl⟩)) | (go_at_call 51; refine (HT.out _).mono ?_; rintro e w1 ⟨rfl, rfl⟩) | (go_at_call 38; refine (HI.out _ Hm.out).mono ?_; rintro e w1 ⟨rfl, rfl⟩) | (go_at_call 52; refine (HLo.out _).mono ?_; rintro e w1 ⟨rfl, rfl⟩))
              go_roundg (gk - (n + 4))
              case rel => exact ⟨rfl, i + (n + 4), by omega, by go_num, HR⟩
              case measure => omega
          | false =>
            have HP2 := Lib.hid (hasPrefix_suf s ⟨#[47, 42]⟩ i)
            rw [k2] at HP2
            obtain ⟨b35, h35⟩ : ∃ b, ((s[i].toNat : Int) == 35) = b := ⟨_, rfl⟩
            obtain ⟨b47, h47⟩ : ∃ b, Lib.hasPrefix (s.data.toList.drop i) [47, 47] = b := ⟨_, rfl⟩
            have HP3 := Lib.hid (hasPrefix_suf s ⟨#[47, 47]⟩ i)
            rw [show (⟨#[47, 47]⟩ : ByteArray).data.toList = [47, 47] from rfl, h47] at HP3
            have hsh : (s[i] = 35 ∨ Lib.hasPrefix (s.data.toList.drop i) [47, 47] = true) ↔ (b35 || b47) = true := by
              have h' : (s[i] = 35) ↔ b35 = true := by rw [← h35, ← UInt8.toNat_inj]; simp; omega
              rw [h', h47]; simp
            by_cases hc : (b35 || b47) = true
            · have Hst := Lib.hid (step_line s i hlt hq' k2 (hsh.2 hc))
              have HS1 : Hid (1 ≤ stepN (s.data.toList.drop i)) := by
                show 1 ≤ stepN (s.data.toList.drop i)
                rw [drop_cons s i hlt]; exact stepN_pos _ _
              clear hsh hq' k2 h47
              obtain ⟨wo, rfl⟩ : ∃ wo : World, wo = w := ⟨_, rfl⟩
              cases b35 with
              | true =>
                clear hc
                go_wp2_with (first | (go_at_call 37; first | (refine (HP.out _).mono ?_; rintro e w1 ⟨rfl, rfl⟩) | (refine (HP2.out _).mono ?_; rintro e w1 ⟨rfl, rfl⟩) | (refine (HP3.out _).mono ?_; rintro e w1 ⟨rfl, rfl⟩)))
                go_loopg [3] gk (fun g r wx => wo = wx ∧ ∃ j : Nat, j + g = s.size ∧ i ≤ j ∧ r = .int .i64 j ∧ Hid (LineFrom s i j))
                case atStart => exact ⟨rfl, i, by omega, by omega, rfl, rfl⟩
                case round =>
                  obtain ⟨rfl, j, hjg, hij, rfl, Hj⟩ := hrel
                  by_cases hjl : j < s.size
                  · have hslj : s.extract j s.size = suf s j := rfl
                    have hcj : (s[j].toNat : Int) ≤ 255 := by have := s[j].toNat_lt; omega
                    obtain ⟨b10, h10⟩ : ∃ b, ((s[j].toNat : Int) != 10) = b := ⟨_, rfl⟩
                    have h10' : s[j] = 10 ↔ b10 = false := by rw [← h10, ← UInt8.toNat_inj]; simp; omega
                    obtain ⟨bp, hp⟩ : ∃ b, Lib.hasPrefix (s.data.toList.drop j) [63, 62] = b := ⟨_, rfl⟩
                    have HP4 := Lib.hid (hasPrefix_suf s ⟨#[63, 62]⟩ j)
                    rw [show (⟨#[63, 62]⟩ : ByteArray).data.toList = [63, 62] from rfl, hp] at HP4
                    by_cases hgo : b10 = true ∧ bp = false
                    · have HJ := Lib.hid (line_next Hj.out hjl (fun h => by have := h10'.1 h; rw [hgo.1] at this; exact absurd this (by decide)) (by rw [hp, hgo.2]))
                      obtain ⟨rfl, rfl⟩ := hgo
                      clear hp h10'
                      go_wp2_with (first | (go_at_call 37; refine (HP4.out _).mono ?_; rintro e w1 ⟨rfl, rfl⟩))
                      go_roundg (gk - 1)
                      case rel => exact ⟨rfl, j + 1, by omega, by omega, by go_num, HJ⟩
                      case measure => omega
                    · have HJ := Lib.hid (line_stop Hj.out hjl (by
                        cases b10 with
                        | false => exact .inl (h10'.2 rfl)
                        | true =>
                          cases bp with
                          | true => exact .inr hp
                          | false => exact absurd ⟨rfl, rfl⟩ hgo))
                      clear hp h10'
                      cases b10 with
                      | false =>
                        clear hgo
                        have hpl : i + 1 ≤ j := by have := HJ.out; have := HS1.out; have := Hst.out; omega
                        have HR := Lib.hid (HN.out (j - i) (by have := HJ.out; have := Hst.out; omega))
                        rw [show i + (j - i) = j by omega] at HR
                        go_wp2_with (first | (go_at_call 37; refine (HP4.out _).mono ?_; rintro e w1 ⟨rfl, rfl⟩))
                        go_roundg (s.size - j)
                        case rel => exact ⟨rfl, j, by omega, rfl, HR⟩
                        case measure => omega
                      | true =>
                        cases bp with
                        | false => exact absurd ⟨rfl, rfl⟩ hgo
                        | true =>
                          clear hgo
                          have hpl : i + 1 ≤ j := by have := HJ.out; have := HS1.out; have := Hst.out; omega
                          have HR := Lib.hid (HN.out (j - i) (by have := HJ.out; have := Hst.out; omega))
                          rw [show i + (j - i) = j by omega] at HR
                          go_wp2_with (first | (go_at_call 37; refine (HP4.out _).mono ?_; rintro e w1 ⟨rfl, rfl⟩))
                          go_roundg (s.size - j)
                          case rel => exact ⟨rfl, j, by omega, rfl, HR⟩
                          case measure => omega
                  · obtain rfl : j = s.size := by omega
                    have HJ := Lib.hid (line_all Hj.out (Nat.le_refl _))
                    have hpl : i + 1 ≤ s.size := by have := HJ.out; have := HS1.out; omega
                    have HR := Lib.hid (HN.out (s.size - i) (by have := HJ.out; have := Hst.out; omega))
                    rw [show i + (s.size - i) = s.size by omega] at HR
                    go_wp2_with fail
                    go_roundg (s.size - s.size)
                    case rel => exact ⟨rfl, s.size, by omega, rfl, HR⟩
                    case measure => omega
              | false =>
                cases b47 with
                | false => exact absurd hc (by decide)
                | true =>
                  clear hc
                  go_wp2_with (first | (go_at_call 37; first | (refine (HP.out _).mono ?_; rintro e w1 ⟨rfl, rfl⟩) | (refine (HP2.out _).mono ?_; rintro e w1 ⟨rfl, rfl⟩) | (refine (HP3.out _).mono ?_; rintro e w1 ⟨rfl, rfl⟩)))
                  go_loopg [3] gk (fun g r wx => wo = wx ∧ ∃ j : Nat, j + g = s.size ∧ i ≤ j ∧ r = .int .i64 j ∧ Hid (LineFrom s i j))
                  case atStart => exact ⟨rfl, i, by omega, by omega, rfl, rfl⟩
                  case round =>
                    obtain ⟨rfl, j, hjg, hij, rfl, Hj⟩ := hrel
                    by_cases hjl : j < s.size
                    · have hslj : s.extract j s.size = suf s j := rfl
                      have hcj : (s[j].toNat : Int) ≤ 255 := by have := s[j].toNat_lt; omega
                      obtain ⟨b10, h10⟩ : ∃ b, ((s[j].toNat : Int) != 10) = b := ⟨_, rfl⟩
                      have h10' : s[j] = 10 ↔ b10 = false := by rw [← h10, ← UInt8.toNat_inj]; simp; omega
                      obtain ⟨bp, hp⟩ : ∃ b, Lib.hasPrefix (s.data.toList.drop j) [63, 62] = b := ⟨_, rfl⟩
                      have HP4 := Lib.hid (hasPrefix_suf s ⟨#[63, 62]⟩ j)
                      rw [show (⟨#[63, 62]⟩ : ByteArray).data.toList = [63, 62] from rfl, hp] at HP4
                      by_cases hgo : b10 = true ∧ bp = false
                      · have HJ := Lib.hid (line_next Hj.out hjl (fun h => by have := h10'.1 h; rw [hgo.1] at this; exact absurd this (by decide)) (by rw [hp, hgo.2]))
                        obtain ⟨rfl, rfl⟩ := hgo
                        clear hp h10'
                        go_wp2_with (first | (go_at_call 37; refine (HP4.out _).mono ?_; rintro e w1 ⟨rfl, rfl⟩))
                        go_roundg (gk - 1)
                        case rel => exact ⟨rfl, j + 1, by omega, by omega, by go_num, HJ⟩
                        case measure => omega
                      · have HJ := Lib.hid (line_stop Hj.out hjl (by
                          cases b10 with
                          | false => exact .inl (h10'.2 rfl)
                          | true =>
                            cases bp with
                            | true => exact .inr hp
                            | false => exact absurd ⟨rfl, rfl⟩ hgo))
                        clear hp h10'
                        cases b10 with
                        | false =>
                          clear hgo
                          have hpl : i + 1 ≤ j := by have := HJ.out; have := HS1.out; have := Hst.out; omega
                          have HR := Lib.hid (HN.out (j - i) (by have := HJ.out; have := Hst.out; omega))
                          rw [show i + (j - i) = j by omega] at HR
                          go_wp2_with (first | (go_at_call 37; refine (HP4.out _).mono ?_; rintro e w1 ⟨rfl, rfl⟩))
                          go_roundg (s.size - j)
                          case rel => exact ⟨rfl, j, by omega, rfl, HR⟩
                          case measure => omega
                        | true =>
                          cases bp with
                          | false => exact absurd ⟨rfl, rfl⟩ hgo
                          | true =>
                            clear hgo
                            have hpl : i + 1 ≤ j := by have := HJ.out; have := HS1.out; have := Hst.out; omega
                            have HR := Lib.hid (HN.out (j - i) (by have := HJ.out; have := Hst.out; omega))
                            rw [show i + (j - i) = j by omega] at HR
                            go_wp2_with (first | (go_at_call 37; refine (HP4.out _).mono ?_; rintro e w1 ⟨rfl, rfl⟩))
                            go_roundg (s.size - j)
                            case rel => exact ⟨rfl, j, by omega, rfl, HR⟩
                            case measure => omega
                    · obtain rfl : j = s.size := by omega
                      have HJ := Lib.hid (line_all Hj.out (Nat.le_refl _))
                      have hpl : i + 1 ≤ s.size := by have := HJ.out; have := HS1.out; omega
                      have HR := Lib.hid (HN.out (s.size - i) (by have := HJ.out; have := Hst.out; omega))
                      rw [show i + (s.size - i) = s.size by omega] at HR
                      go_wp2_with fail
                      go_roundg (s.size - s.size)
                      case rel => exact ⟨rfl, s.size, by omega, rfl, HR⟩
                      case measure => omega
            · have hc' : ¬ (s[i] = 35 ∨ Lib.hasPrefix (s.data.toList.drop i) [47, 47] = true) := fun h => hc (hsh.1 h)
              have hst := step_else s i hlt hq' k2 hc'
              simp only [Bool.or_eq_true, not_or, Bool.not_eq_true] at hc
              obtain ⟨rfl, rfl⟩ := hc
              have HLo := Lib.hid (long_suf s i hs)
              have hln := longN_len (s.data.toList.drop i)
              rw [List.length_drop, ← Lib.size_eq] at hln
              clear hsh hc' k2 hq' h47
              generalize longN (s.data.toList.drop i) = n at *
              have HR := Lib.hid (HN.out (max n 1) hst)
              have hmx : i + max n 1 ≤ s.size := by omega
              clear hst
              go_wp2_with (first | (go_at_call 37; first | (refine (HP.out _).mono ?_; rintro e w1 ⟨rfl, rfl⟩) | (refine (HP2.out _).mono ?_; rintro e w1 ⟨rfl, rfl⟩) | (refine (HP3.out _).mono ?_; rintro e w1 ⟨rfl, rfl⟩)) | (go_at_call 51; refine (HT.out _).mono ?_; rintro e w1 ⟨rfl, rfl⟩) | (go_at_call 38; refine (HI.out _ Hm.out).mono ?_; rintro e w1 ⟨rfl, rfl⟩) | (go_at_call 52; refine (HLo.out _).mono ?_; rintro e w1 ⟨rfl, rfl⟩))
              go_roundg (gk - max n 1)
              case rel => exact ⟨rfl, i + max n 1, by omega, by go_num, HR⟩
              case measure => omega
    · obtain rfl : i = s.size := by omega
      have HR := Lib.hid (code_all Hi.out (Nat.le_refl _))
      go_wp2_with fail
      try rw [Exit.noGoto_ret]
      go_ret
      exact ⟨ret_int (by have := HR.out; rw [List.drop_zero] at this; omega), rfl⟩
end Go.Proofs.YteajmgkdiioflaaGreatDoor
