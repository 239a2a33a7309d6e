/- The walks of the reference: Long, Ends. -/
import Derived.Test.YtohbbgghkinnhaaDoorCutP
import Derived.Deep.LoopGhost
namespace Go.Proofs.YtohbbgghkinnhaaDoor
open Go.RowKit

theorem ret_int3 {a b c a' b' c' : Int} (h1 : a = a') (h2 : b = b') (h3 : c = c') : Ending.returned (.tuple #[.int .i64 a, .int .i64 b, .int .i64 c]) = .returned (.tuple #[.int .i64 a', .int .i64 b', .int .i64 c']) := by rw [h1, h2, h3]
theorem at_int (s : ByteArray) (hs : s.size ≤ 65536) (x : Int) (i : Nat) (hx : x = (i : Int)) (hi : i ≤ 200000) (t : ByteArray) (ht : 0 < t.size) (ht2 : t.size ≤ 65536) (b : Bool) (h : Lib.hasPrefix (s.data.toList.drop i) t.data.toList = b) (w : World) :
    Calls Tryd.prog 22 #[.string s, .int .i64 x, .string t] w fun e w' => e = .returned (.bool b) ∧ w = w' := by
  subst hx; exact at_is s hs i hi t ht ht2 b h w
theorem rword_int (s : ByteArray) (hs : s.size ≤ 65536) (x : Int) (i : Nat) (hx : x = (i : Int)) (hi : i ≤ 200000) (n : Nat) (h : wordN (s.data.toList.drop i) = n) (w : World) :
    Calls Tryd.prog 44 #[.string s, .int .i64 x] w fun e w' => e = .returned (.int .i64 (n : Int)) ∧ w = w' := by
  subst hx; subst h; exact rword_any s (by omega) i (by omega) w

/-- What Long answers at byte i. -/
def longR (l : Bytes) (i : Nat) : Nat × Nat × Nat := if (longH (l.drop i)).2.1 = 0 then (0, 0, 0) else (i + (longH (l.drop i)).1, (longH (l.drop i)).2.1, i + (longH (l.drop i)).2.2)
theorem longR_no {l : Bytes} {i : Nat} (h : longH (l.drop i) = (0, 0, 0)) : longR l i = (0, 0, 0) := by unfold longR; rw [h]; rfl
theorem longR_eq (l : Bytes) (i q n : Nat) (h : Lib.hasPrefix (l.drop i) [60, 60, 60] = true) (hq : (if Lib.hasPrefix (l.drop (i + 3)) [39] = true then 1 else 0) = q) (hn : wordN (l.drop (i + (3 + q))) = n) :
    longR l i = if n = 0 then (0, 0, 0) else if (decide (q = 1) && !Lib.hasPrefix (l.drop (i + (3 + q + n))) [39]) = true then (0, 0, 0) else if Lib.hasPrefix (l.drop (i + (3 + q + n + q))) [10] = true then (i + (3 + q), n, i + (3 + q + n + q + 1)) else (0, 0, 0) := by
  have := longH_eq (l.drop i) q n h (by rw [List.drop_drop]; exact hq) (by rw [List.drop_drop]; exact hn)
  rw [List.drop_drop, List.drop_drop] at this
  by_cases h0 : n = 0
  · rw [if_pos h0] at this ⊢; exact longR_no this
  · rw [if_neg h0] at this ⊢
    by_cases h1 : (decide (q = 1) && !Lib.hasPrefix (l.drop (i + (3 + q + n))) [39]) = true
    · rw [if_pos h1] at this ⊢; exact longR_no this
    · rw [if_neg h1] at this ⊢
      by_cases h2 : Lib.hasPrefix (l.drop (i + (3 + q + n + q))) [10] = true
      · rw [if_pos h2] at this ⊢; unfold longR; rw [this]; simp only; rw [if_neg h0]
      · rw [if_neg h2] at this ⊢; exact longR_no this

set_option maxRecDepth 100000 in
set_option maxHeartbeats 4000000 in
theorem rlong_any (s : ByteArray) (hs : s.size ≤ 65536) (i : Nat) (hi : i ≤ s.size) (w : World) :
    Calls Tryd.prog 34 #[.string s, .int .i64 (i : Int)] w fun e w' => e = .returned (.tuple #[.int .i64 ((longR s.data.toList i).1 : Nat), .int .i64 ((longR s.data.toList i).2.1 : Nat), .int .i64 ((longR s.data.toList i).2.2 : Nat)]) ∧ w = w' := by
  obtain ⟨b0, k0⟩ : ∃ b, Lib.hasPrefix (s.data.toList.drop i) [60, 60, 60] = b := ⟨_, rfl⟩
  have HA := Lib.hid (at_int s hs (i : Int) i rfl (by omega) ⟨#[60, 60, 60]⟩ (by decide) (by decide) b0 k0)
  cases b0 with
  | false =>
    have HR := Lib.hid (longR_no (l := s.data.toList) (i := i) (by unfold longH; rw [if_neg (by rw [k0]; decide)]))
    clear k0
    go_enter Tryd.func34, Tryd.ntmps34
    go_wp2_with (go_at_call 22; refine (HA.out _).mono ?_; rintro e w1 ⟨rfl, rfl⟩)
    go_ret3
    exact ⟨ret_int3 (by rw [HR.out]; rfl) (by rw [HR.out]; rfl) (by rw [HR.out]; rfl), rfl⟩
  | true =>
    obtain ⟨b1, k1⟩ : ∃ b, Lib.hasPrefix (s.data.toList.drop (i + 3)) [39] = b := ⟨_, rfl⟩
    have HB := Lib.hid (at_int s hs ((i : Int) + 3) (i + 3) (by omega) (by omega) ⟨#[39]⟩ (by decide) (by decide) b1 k1)
    cases b1 with
    | false =>
      obtain ⟨n, hn⟩ : ∃ n, wordN (s.data.toList.drop (i + 3)) = n := ⟨_, rfl⟩
      have hnl : n ≤ 65536 := by have := wordN_le (s.data.toList.drop (i + 3)); rw [List.length_drop, ← Lib.size_eq] at this; omega
      have HW := Lib.hid (rword_int s hs ((i : Int) + 3) (i + 3) (by omega) (by omega) n hn)
      have hR := longR_eq s.data.toList i 0 n k0 (by rw [k1]; rfl) hn
      rw [show i + (3 + 0 + n + 0) = i + 3 + n by omega, show i + (3 + 0) = i + 3 by omega, show i + (3 + 0 + n + 0 + 1) = i + 3 + n + 1 by omega] at hR
      obtain ⟨b3, k3⟩ : ∃ b, Lib.hasPrefix (s.data.toList.drop (i + 3 + n)) [10] = b := ⟨_, rfl⟩
      have HD := Lib.hid (at_int s hs ((i : Int) + 3 + (n : Int)) (i + 3 + n) (by omega) (by omega) ⟨#[10]⟩ (by decide) (by decide) b3 k3)
      rw [k3] at hR
      clear k0 k1 k3 hn
      by_cases hn0 : n = 0
      · rw [if_pos hn0] at hR
        have HR := Lib.hid hR
        have g0 : ((n : Int) == 0) = true := by simp; omega
        clear hR hn0
        go_enter Tryd.func34, Tryd.ntmps34
        go_wp2_with fail
        refine (HA.out _).mono ?_; rintro e w1 ⟨rfl, rfl⟩
        go_wp2_with fail
        refine (HB.out _).mono ?_; rintro e w1 ⟨rfl, rfl⟩
        go_wp2_with fail
        refine (HW.out _).mono ?_; rintro e w1 ⟨rfl, rfl⟩
        go_wp2_with fail
        go_ret3
        exact ⟨ret_int3 (by rw [HR.out]; rfl) (by rw [HR.out]; rfl) (by rw [HR.out]; rfl), rfl⟩
      · rw [if_neg hn0, if_neg (by simp)] at hR
        have HR := Lib.hid hR
        have g0 : ((n : Int) == 0) = false := by simp; omega
        clear hR hn0
        cases b3 with
        | false =>
          go_enter Tryd.func34, Tryd.ntmps34
          go_wp2_with fail
          refine (HA.out _).mono ?_; rintro e w1 ⟨rfl, rfl⟩
          go_wp2_with fail
          refine (HB.out _).mono ?_; rintro e w1 ⟨rfl, rfl⟩
          go_wp2_with fail
          refine (HW.out _).mono ?_; rintro e w1 ⟨rfl, rfl⟩
          go_wp2_with fail
          refine (HD.out _).mono ?_; rintro e w1 ⟨rfl, rfl⟩
          go_wp2_with fail
          go_ret3
          exact ⟨ret_int3 (by rw [HR.out]; rfl) (by rw [HR.out]; rfl) (by rw [HR.out]; rfl), rfl⟩
        | true =>
          go_enter Tryd.func34, Tryd.ntmps34
          go_wp2_with fail
          refine (HA.out _).mono ?_; rintro e w1 ⟨rfl, rfl⟩
          go_wp2_with fail
          refine (HB.out _).mono ?_; rintro e w1 ⟨rfl, rfl⟩
          go_wp2_with fail
          refine (HW.out _).mono ?_; rintro e w1 ⟨rfl, rfl⟩
          go_wp2_with fail
          refine (HD.out _).mono ?_; rintro e w1 ⟨rfl, rfl⟩
          go_wp2_with fail
          go_ret3
          exact ⟨ret_int3 (by rw [HR.out]; simp) (by rw [HR.out]; simp) (by rw [HR.out]; simp <;> omega), rfl⟩
    | true =>
      obtain ⟨n, hn⟩ : ∃ n, wordN (s.data.toList.drop (i + 3 + 1)) = n := ⟨_, rfl⟩
      have hnl : n ≤ 65536 := by have := wordN_le (s.data.toList.drop (i + 3 + 1)); rw [List.length_drop, ← Lib.size_eq] at this; omega
      have HW := Lib.hid (rword_int s hs ((i : Int) + 3 + 1) (i + 3 + 1) (by omega) (by omega) n hn)
      have hR := longR_eq s.data.toList i 1 n k0 (by rw [k1]; rfl) hn
      rw [show i + (3 + 1 + n + 1) = i + 3 + 1 + n + 1 by omega, show i + (3 + 1 + n) = i + 3 + 1 + n by omega, show i + (3 + 1) = i + 3 + 1 by omega, show i + (3 + 1 + n + 1 + 1) = i + 3 + 1 + n + 1 + 1 by omega] at hR
      obtain ⟨b2, k2⟩ : ∃ b, Lib.hasPrefix (s.data.toList.drop (i + 3 + 1 + n)) [39] = b := ⟨_, rfl⟩
      have HC := Lib.hid (at_int s hs ((i : Int) + 3 + 1 + (n : Int)) (i + 3 + 1 + n) (by omega) (by omega) ⟨#[39]⟩ (by decide) (by decide) b2 k2)
      obtain ⟨b3, k3⟩ : ∃ b, Lib.hasPrefix (s.data.toList.drop (i + 3 + 1 + n + 1)) [10] = b := ⟨_, rfl⟩
      have HD := Lib.hid (at_int s hs ((i : Int) + 3 + 1 + (n : Int) + 1) (i + 3 + 1 + n + 1) (by omega) (by omega) ⟨#[10]⟩ (by decide) (by decide) b3 k3)
      rw [k3, k2] at hR
      clear k0 k1 k2 k3 hn
      by_cases hn0 : n = 0
      · rw [if_pos hn0] at hR
        have HR := Lib.hid hR
        have g0 : ((n : Int) == 0) = true := by simp; omega
        clear hR hn0
        go_enter Tryd.func34, Tryd.ntmps34
        go_wp2_with fail
        refine (HA.out _).mono ?_; rintro e w1 ⟨rfl, rfl⟩
        go_wp2_with fail
        refine (HB.out _).mono ?_; rintro e w1 ⟨rfl, rfl⟩
        go_wp2_with fail
        refine (HW.out _).mono ?_; rintro e w1 ⟨rfl, rfl⟩
        go_wp2_with fail
        go_ret3
        exact ⟨ret_int3 (by rw [HR.out]; rfl) (by rw [HR.out]; rfl) (by rw [HR.out]; rfl), rfl⟩
      · rw [if_neg hn0] at hR
        have g0 : ((n : Int) == 0) = false := by simp; omega
        clear hn0
        cases b2 with
        | false =>
          rw [if_pos (by decide)] at hR
          have HR := Lib.hid hR
          clear hR
          go_enter Tryd.func34, Tryd.ntmps34
          go_wp2_with fail
          refine (HA.out _).mono ?_; rintro e w1 ⟨rfl, rfl⟩
          go_wp2_with fail
          refine (HB.out _).mono ?_; rintro e w1 ⟨rfl, rfl⟩
          go_wp2_with fail
          refine (HW.out _).mono ?_; rintro e w1 ⟨rfl, rfl⟩
          go_wp2_with fail
          refine (HC.out _).mono ?_; rintro e w1 ⟨rfl, rfl⟩
          go_wp2_with fail
          go_ret3
          exact ⟨ret_int3 (by rw [HR.out]; rfl) (by rw [HR.out]; rfl) (by rw [HR.out]; rfl), rfl⟩
        | true =>
          rw [if_neg (by decide)] at hR
          have HR := Lib.hid hR
          clear hR
          cases b3 with
          | false =>
            go_enter Tryd.func34, Tryd.ntmps34
            go_wp2_with fail
            refine (HA.out _).mono ?_; rintro e w1 ⟨rfl, rfl⟩
            go_wp2_with fail
            refine (HB.out _).mono ?_; rintro e w1 ⟨rfl, rfl⟩
            go_wp2_with fail
            refine (HW.out _).mono ?_; rintro e w1 ⟨rfl, rfl⟩
            go_wp2_with fail
            refine (HC.out _).mono ?_; rintro e w1 ⟨rfl, rfl⟩
            go_wp2_with fail
            refine (HD.out _).mono ?_; rintro e w1 ⟨rfl, rfl⟩
            go_wp2_with fail
            go_ret3
            exact ⟨ret_int3 (by rw [HR.out]; rfl) (by rw [HR.out]; rfl) (by rw [HR.out]; rfl), rfl⟩
          | true =>
            go_enter Tryd.func34, Tryd.ntmps34
            go_wp2_with fail
            refine (HA.out _).mono ?_; rintro e w1 ⟨rfl, rfl⟩
            go_wp2_with fail
            refine (HB.out _).mono ?_; rintro e w1 ⟨rfl, rfl⟩
            go_wp2_with fail
            refine (HW.out _).mono ?_; rintro e w1 ⟨rfl, rfl⟩
            go_wp2_with fail
            refine (HC.out _).mono ?_; rintro e w1 ⟨rfl, rfl⟩
            go_wp2_with fail
            refine (HD.out _).mono ?_; rintro e w1 ⟨rfl, rfl⟩
            go_wp2_with fail
            go_ret3
            exact ⟨ret_int3 (by rw [HR.out]; simp) (by rw [HR.out]; simp) (by rw [HR.out]; simp <;> omega), rfl⟩

/-! ### Ends -/
/-- Where a long text of this name ends, from byte k on ('b': a line begins there); -1: nowhere. -/
def endsI (l name : Bytes) (b : Bool) (k : Nat) : Int := match endsN name b (l.drop k) with | some i => ((k + i : Nat) : Int) | none => -1
theorem endsN_nil (name : Bytes) (hn : name ≠ []) (b : Bool) : endsN name b [] = none := by
  rw [endsN, if_neg]
  intro h
  simp only [Bool.and_eq_true] at h
  have := pre_le h.1.2
  exact hn (List.eq_nil_of_length_eq_zero (by simpa using this))
theorem endsI_hit {l name : Bytes} {k : Nat} (h : matchE name (l.drop k) = true) : endsI l name true k = k := by
  unfold endsI; rw [ends_true, if_pos h]; rfl
theorem endsI_miss {l name : Bytes} {k : Nat} (h : matchE name (l.drop k) = false) : endsI l name true k = endsI l name false k := by
  unfold endsI; rw [ends_true, if_neg (by rw [h]; decide)]
theorem endsI_step {s : ByteArray} {name : Bytes} {k : Nat} (hk : k < s.size) (b : Bool) (hb : (s[k] == 10) = b) : endsI s.data.toList name false k = endsI s.data.toList name b (k + 1) := by
  unfold endsI
  rw [drop_cons s k hk, endsN, if_neg (by simp), hb]
  cases endsN name b (s.data.toList.drop (k + 1)) with
  | none => rfl
  | some i => simp only [Option.map_some]; omega
theorem endsI_past {s : ByteArray} {name : Bytes} {k : Nat} (hn : name ≠ []) (hk : s.size ≤ k) (b : Bool) : endsI s.data.toList name b k = -1 := by
  unfold endsI
  rw [List.drop_eq_nil_of_le (by have := Lib.size_eq s; omega), endsN_nil name hn]

def EndsIs (s nm : ByteArray) (R : Int) (b : Bool) (k : Nat) : Prop := R = endsI s.data.toList nm.data.toList b k

set_option maxRecDepth 100000 in
set_option maxHeartbeats 4000000 in
theorem rends_any (s : ByteArray) (hs : s.size ≤ 65536) (nm : ByteArray) (hn0 : 0 < nm.size) (hn1 : nm.size ≤ 65536) (j : Nat) (hj : j ≤ s.size + 1) (w : World) :
    Calls Tryd.prog 35 #[.string s, .string nm, .int .i64 (j : Int)] w fun e w' => e = .returned (.int .i64 (endsI s.data.toList nm.data.toList true j)) ∧ w = w' := by
  have hne : Hid (nm.data.toList ≠ []) := by
    show nm.data.toList ≠ []
    intro h; have h2 := Lib.size_eq nm; rw [h, List.length_nil] at h2; omega
  obtain ⟨R, hR⟩ : ∃ R, R = endsI s.data.toList nm.data.toList true j := ⟨_, rfl⟩
  have HR : Hid (EndsIs s nm R true j) := hR
  rw [← hR]
  clear hR
  go_enter Tryd.func35, Tryd.ntmps35
  go_wp2_with fail
  go_loopg [2] (s.size + 2 - j) (fun g r wx => w = wx ∧ ∃ k : Nat, k + g = s.size + 2 ∧ k ≤ s.size + 1 ∧ r = .int .i64 k ∧ Hid (EndsIs s nm R true k))
  case atStart => exact ⟨rfl, j, Nat.add_sub_of_le (by omega), hj, rfl, HR⟩
  case round =>
    obtain ⟨rfl, k, hkg, hk, rfl, Hk⟩ := hrel
    clear HR hj
    by_cases hlt : k ≤ s.size
    · have hltI : (k : Int) ≤ (s.size : Int) := by omega
      obtain ⟨b1, k1⟩ : ∃ b, Lib.hasPrefix (s.data.toList.drop k) nm.data.toList = b := ⟨_, rfl⟩
      obtain ⟨n, hn⟩ : ∃ n, wordN (s.data.toList.drop k) = n := ⟨_, rfl⟩
      have HA := Lib.hid (at_is s hs k (by omega) nm hn0 hn1 b1 k1)
      have HW := Lib.hid (rword_int s hs (k : Int) k rfl (by omega) n hn)
      by_cases hm : b1 = true ∧ n = nm.size
      · have HE : Hid (R = (k : Int)) := Hk.out.trans (endsI_hit (by unfold matchE; rw [k1, hn, hm.1, hm.2, Lib.size_eq nm]; simp))
        obtain ⟨rfl, hm2⟩ := hm
        have g1 : ((n : Int) == (nm.size : Int)) = true := by simp; omega
        clear k1 hn hm2
        go_wp2_with fail
        refine (HA.out _).mono ?_; rintro e w1 ⟨rfl, rfl⟩
        go_wp2_with fail
        refine (HW.out _).mono ?_; rintro e w1 ⟨rfl, rfl⟩
        go_wp2_with fail
        go_ret
        exact ⟨ret_int HE.out.symm, rfl⟩
      · have HE : Hid (EndsIs s nm R false k) := Hk.out.trans (endsI_miss (by
          unfold matchE; rw [k1, hn, Lib.size_eq nm] at *
          cases b1 with
          | false => rfl
          | true => simp only [Bool.true_and, beq_eq_false_iff_ne]; intro h; exact hm ⟨rfl, h⟩))
        have hxx : b1 = true → ((n : Int) == (nm.size : Int)) = false := fun h => by
          rw [beq_eq_false_iff_ne]; intro h2; exact hm ⟨h, by omega⟩
        clear k1 hn hm Hk
        obtain ⟨wo, rfl⟩ : ∃ wo : World, wo = w := ⟨_, rfl⟩
        cases b1 with
        | false =>
          clear hxx
          go_wp2_with fail
          refine (HA.out _).mono ?_; rintro e w1 ⟨rfl, rfl⟩
          go_wp2_with fail
          go_loopg [2] (s.size - k) (fun g r wx => wo = wx ∧ ∃ i : Nat, i + g = s.size ∧ k ≤ i ∧ r = .int .i64 i ∧ Hid (EndsIs s nm R false i))
          case atStart => exact ⟨rfl, k, by omega, by omega, rfl, HE⟩
          case round =>
            obtain ⟨rfl, i, hig, hki, rfl, Hi⟩ := hrel
            by_cases hil : i < s.size
            · obtain ⟨b10, h10⟩ : ∃ b, (s[i] == 10) = b := ⟨_, rfl⟩
              have HN : Hid (EndsIs s nm R b10 (i + 1)) := Hi.out.trans (endsI_step hil b10 h10)
              have h10' : ((s[i].toNat : Int) != 10) = !b10 := by
                rw [← h10, bne, Bool.not_inj_iff, Bool.eq_iff_iff, beq_iff_eq, beq_iff_eq, ← UInt8.toNat_inj]
                show _ ↔ _ = 10
                omega
              clear h10
              cases b10 with
              | false =>
                have h10'' : ((s[i].toNat : Int) != 10) = true := h10'
                clear h10'
                go_wp2_with fail
                go_roundg (gk - 1)
                case rel => exact ⟨rfl, i + 1, by omega, by omega, by go_num, HN⟩
                case measure => omega
              | true =>
                have h10'' : ((s[i].toNat : Int) != 10) = false := h10'
                clear h10'
                go_wp2_with fail
                go_roundg (s.size + 2 - (i + 1))
                case rel => exact ⟨rfl, i + 1, by omega, by omega, by go_num, HN⟩
                case measure => omega
            · obtain rfl : i = s.size := by omega
              have HN : Hid (EndsIs s nm R true (s.size + 1)) := by
                have h1 := endsI_past (s := s) (name := nm.data.toList) (k := s.size) hne.out (Nat.le_refl _) false
                have h2 := endsI_past (s := s) (name := nm.data.toList) (k := s.size + 1) hne.out (by omega) true
                exact Hi.out.trans (h1.trans h2.symm)
              go_wp2_with fail
              go_roundg 1
              case rel => exact ⟨rfl, s.size + 1, by omega, by omega, by go_num, HN⟩
              case measure => omega
        | true =>
          have hxx' := hxx rfl
          clear hxx
          go_wp2_with fail
          refine (HA.out _).mono ?_; rintro e w1 ⟨rfl, rfl⟩
          go_wp2_with fail
          refine (HW.out _).mono ?_; rintro e w1 ⟨rfl, rfl⟩
          go_wp2_with fail
          go_loopg [2] (s.size - k) (fun g r wx => wo = wx ∧ ∃ i : Nat, i + g = s.size ∧ k ≤ i ∧ r = .int .i64 i ∧ Hid (EndsIs s nm R false i))
          case atStart => exact ⟨rfl, k, by omega, by omega, rfl, HE⟩
          case round =>
            obtain ⟨rfl, i, hig, hki, rfl, Hi⟩ := hrel
            by_cases hil : i < s.size
            · obtain ⟨b10, h10⟩ : ∃ b, (s[i] == 10) = b := ⟨_, rfl⟩
              have HN : Hid (EndsIs s nm R b10 (i + 1)) := Hi.out.trans (endsI_step hil b10 h10)
              have h10' : ((s[i].toNat : Int) != 10) = !b10 := by
                rw [← h10, bne, Bool.not_inj_iff, Bool.eq_iff_iff, beq_iff_eq, beq_iff_eq, ← UInt8.toNat_inj]
                show _ ↔ _ = 10
                omega
              clear h10
              cases b10 with
              | false =>
                have h10'' : ((s[i].toNat : Int) != 10) = true := h10'
                clear h10'
                go_wp2_with fail
                go_roundg (gk - 1)
                case rel => exact ⟨rfl, i + 1, by omega, by omega, by go_num, HN⟩
                case measure => omega
              | true =>
                have h10'' : ((s[i].toNat : Int) != 10) = false := h10'
                clear h10'
                go_wp2_with fail
                go_roundg (s.size + 2 - (i + 1))
                case rel => exact ⟨rfl, i + 1, by omega, by omega, by go_num, HN⟩
                case measure => omega
            · obtain rfl : i = s.size := by omega
              have HN : Hid (EndsIs s nm R true (s.size + 1)) := by
                have h1 := endsI_past (s := s) (name := nm.data.toList) (k := s.size) hne.out (Nat.le_refl _) false
                have h2 := endsI_past (s := s) (name := nm.data.toList) (k := s.size + 1) hne.out (by omega) true
                exact Hi.out.trans (h1.trans h2.symm)
              go_wp2_with fail
              go_roundg 1
              case rel => exact ⟨rfl, s.size + 1, by omega, by omega, by go_num, HN⟩
              case measure => omega
    · have hltI : ¬ ((k : Int) ≤ (s.size : Int)) := by omega
      have HE : Hid (R = -1) := Hk.out.trans (endsI_past hne.out (by omega) true)
      go_wp2_with fail
      go_ret
      exact ⟨ret_int HE.out.symm, rfl⟩
end Go.Proofs.YtohbbgghkinnhaaDoor
