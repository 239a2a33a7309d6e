/- CutPlain: the plain law and the walk. -/
import Derived.Test.YtohbbgghkinnhaaDoorCutJ
namespace Go.Proofs.YtohbbgghkinnhaaDoor
open Go.RowKit

/-- No byte of l begins a tag. -/
def NoTag (l : Bytes) : Prop := ∀ i, Lib.hasPrefix (l.drop i) [60, 63] = false
theorem pre_two (l : Bytes) (h : Lib.hasPrefix l [60, 63] = false) : (tagN l).2 = 0 := by
  unfold tagN
  rw [if_neg, if_neg]
  · rw [h]; simp
  · cases l with
    | nil => decide
    | cons c r =>
      cases r with
      | nil => rw [pre_cons]; simp [Lib.hasPrefix]
      | cons d r =>
        rw [pre_cons, pre_cons] at h ⊢
        simp only [Lib.hasPrefix, List.isPrefixOf, Bool.and_true] at h
        intro h'
        simp only [Bool.and_eq_true] at h'
        rw [h'.1, h'.2.1] at h
        exact absurd h (by decide)
theorem cut_plain_from (l : Bytes) (h : NoTag l) : ∀ (n i : Nat), l.length - i ≤ n → cutR l i 0 = htmlP 0 l.length := by
  intro n
  induction n with
  | zero => intro i hi; exact cutR_end (by omega)
  | succ n ih =>
    intro i hi
    by_cases hl : l.length ≤ i
    · exact cutR_end hl
    · rw [cutR_none (by omega) (pre_two _ (h i))]
      exact ih (i + 1) (by omega)
theorem cut_plain (l : Bytes) (h : NoTag l) : cut3 l = htmlP 0 l.length := cut_plain_from l h l.length 0 (by omega)
/-- No tag begins ahead of byte k. -/
def NoTagTo (s : ByteArray) (k : Nat) : Prop := ∀ i, i < k → Lib.hasPrefix (s.data.toList.drop i) [60, 63] = false
theorem pre_at (s : ByteArray) (k : Nat) (h : k + 1 < s.size) : Lib.hasPrefix (s.data.toList.drop k) [60, 63] = (s[k] == 60 && s[k + 1] == 63) := by
  rw [drop_cons s k (by omega), drop_cons s (k + 1) h, pre_cons, pre_cons]
  simp [Lib.hasPrefix]
theorem noTag_all (s : ByteArray) (k : Nat) (h : NoTagTo s k) (hk : s.size ≤ k + 1) : NoTag s.data.toList := fun i => by
  by_cases hi : i < k
  · exact h i hi
  · cases hp : Lib.hasPrefix (s.data.toList.drop i) [60, 63] with
    | false => rfl
    | true =>
      have := pre_le hp
      rw [List.length_drop, ← Lib.size_eq] at this
      simp at this
      omega

set_option maxRecDepth 100000 in
set_option maxHeartbeats 2000000 in
theorem plain_any (s : ByteArray) (hs : s.size ≤ maxLen) (m : Int) (w : World) (hL : Lib2 m w) : Calls Tryd.prog 5 #[.string s] w fun e w' => e = .returned (.bool true) ∧ Below w.heap.size w w' := by
  have Hml := Lib.hid hs
  unfold maxLen at hs
  have HL := Lib.hid hL; clear hL
  go_enter Tryd.func5, Tryd.ntmps5
  go_wp2_with fail
  go_loopg [3] s.size (fun g r wx => w = wx ∧ ∃ i : Nat, i + g = s.size ∧ (i = 0 ∨ i < s.size) ∧ r = .int .i64 i ∧ Hid (NoTagTo s i))
  case atStart => exact ⟨rfl, 0, by omega, .inl rfl, rfl, fun j hj => absurd hj (by omega)⟩
  case round =>
    obtain ⟨rfl, i, hig, hi0, rfl, Hi⟩ := hrel
    by_cases hlt : i + 1 < s.size
    · have hltI : (i : Int) + 1 < (s.size : Int) := by omega
      have hi1 : (i : Int) < (s.size : Int) := by omega
      have e0 := pre_at s i hlt
      obtain ⟨b1, h1⟩ : ∃ b, ((s[i].toNat : Int) == 60) = b := ⟨_, rfl⟩
      obtain ⟨b2, h2⟩ : ∃ b, ((s[i + 1].toNat : Int) == 63) = b := ⟨_, rfl⟩
      have f1 : (s[i] == 60) = b1 := by rw [← h1, Bool.eq_iff_iff]; simp [← UInt8.toNat_inj]; omega
      have f2 : (s[i + 1] == 63) = b2 := by rw [← h2, Bool.eq_iff_iff]; simp [← UInt8.toNat_inj]; omega
      rw [f1, f2] at e0
      clear f1 f2
      by_cases hb : (b1 && b2) = true
      · simp only [Bool.and_eq_true] at hb
        obtain ⟨rfl, rfl⟩ := hb
        clear e0
        go_wp2_with (go_at_call 11; refine (alive_any m _ HL.out).mono ?_; rintro e w1 ⟨rfl, hb1⟩)
        go_ret
        exact ⟨rfl, hb1⟩
      · have HN : Hid (NoTagTo s (i + 1)) := fun j hj => by
          rcases Nat.lt_or_ge j i with h | h
          · exact Hi.out j h
          · obtain rfl : j = i := by omega
            rw [e0]; simpa using hb
        clear e0
        cases b1 with
        | false =>
          clear hb
          go_wp2_with fail
          go_roundg (gk - 1)
          case rel => exact ⟨rfl, i + 1, by omega, by omega, by go_num, HN⟩
          case measure => omega
        | true =>
          cases b2 with
          | true => exact absurd rfl hb
          | false =>
            clear hb
            go_wp2_with fail
            go_roundg (gk - 1)
            case rel => exact ⟨rfl, i + 1, by omega, by omega, by go_num, HN⟩
            case measure => omega
    · have hno := noTag_all s i Hi.out (by omega)
      have hE := cut_plain _ hno
      rw [← Lib.size_eq] at hE
      have HE := Lib.hid hE
      clear hE hno
      have hltI : ¬ ((i : Int) + 1 < (s.size : Int)) := by omega
      by_cases hbig : 65536 < s.size
      · have hbI : (65536 : Int) < (s.size : Int) := by omega
        have HC := Lib.hid (cut_long s hbig Hml.out w)
        clear HE hbig
        go_wp2_with fail
        refine HC.out.mono ?_
        rintro e w1 ⟨rfl, hb1⟩
        have HL1 := Lib.hid (HL.out.below hb1)
        go_wp2_with (go_at_call 11; refine (alive_any m _ HL1.out).mono ?_; rintro e w2 ⟨rfl, hb2⟩)
        go_ret
        exact ⟨rfl, hb1.trans (hb2.mono hb1.size)⟩
      · have HC := Lib.hid (cut_any s (by omega) m w HL.out)
        rw [HE.out] at HC
        by_cases hz : s.size = 0
        · have e : htmlP 0 s.size = [] := if_neg (by omega)
          rw [e] at HC
          have k6 : s.toList.isEmpty = true := by
            rw [Lib.toList_data, List.isEmpty_iff]; exact List.eq_nil_of_length_eq_zero (by have := Lib.size_eq s; omega)
          clear HE e hbig
          go_wp2_with fail
          refine HC.out.mono ?_
          rintro e w1 ⟨v, rfl, hp, hb1⟩
          obtain ⟨A, cap, rfl, _⟩ := hp.shape
          have HL1 := Lib.hid (HL.out.below hb1)
          clear hp
          go_wp2_with (go_at_call 11; refine (alive_any m _ HL1.out).mono ?_; rintro e w2 ⟨rfl, hb2⟩)
          go_ret
          exact ⟨rfl, hb1.trans (hb2.mono hb1.size)⟩
        · have e : htmlP 0 s.size = [⟨1, 0, s.size⟩] := if_pos (by omega)
          rw [e] at HC
          have k6 : s.toList.isEmpty = false := by
            rw [Lib.toList_data]
            cases h : s.data.toList with
            | nil => have := Lib.size_eq s; rw [h] at this; exact absurd this hz
            | cons _ _ => rfl
          clear HE e hbig
          go_wp2_with fail
          refine HC.out.mono ?_
          rintro e w1 ⟨v, rfl, hp, hb1⟩
          obtain ⟨A, cap, rfl, hcells⟩ := hp.shape
          obtain ⟨g, rfl, _, p0, p1, p2⟩ := hcells 0 (by simp)
          have hall : s.extract 0 s.size = s := suf_zero s
          have p0' : w1.cell? ⟨g, 0, none⟩ = some (.int .i64 1) := p0
          have p1' : w1.cell? ⟨g, 1, none⟩ = some (.string (s.extract 0 s.size)) := p1
          have p2' : w1.cell? ⟨g, 2, none⟩ = some (.int .i64 0) := p2
          rw [hall] at p1'
          have HL1 := Lib.hid (HL.out.below hb1)
          clear hp hcells p0 p1 p2 hall
          go_wp2_with (go_at_call 11; refine (alive_any m _ HL1.out).mono ?_; rintro e w2 ⟨rfl, hb2⟩)
          go_ret
          exact ⟨rfl, hb1.trans (hb2.mono hb1.size)⟩
end Go.Proofs.YtohbbgghkinnhaaDoor
