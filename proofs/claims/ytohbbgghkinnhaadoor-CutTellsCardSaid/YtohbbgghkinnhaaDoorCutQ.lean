/- CutTells: the walks of Ended, Line and first. -/
import Derived.Test.YtohbbgghkinnhaaDoorCutN
import Derived.Test.YtohbbgghkinnhaaDoorCutW
import Derived.Test.YtohbbgghkinnhaaDoorApps
namespace Go.Proofs.YtohbbgghkinnhaaDoor
open Go.RowKit

/-! ### Ended -/
theorem pre_app : ∀ (t u l : Bytes), Lib.hasPrefix l (t ++ u) = (Lib.hasPrefix l t && Lib.hasPrefix (l.drop t.length) u)
  | [], u, l => by simp [Lib.hasPrefix]
  | c :: t, u, [] => by simp [Lib.hasPrefix]
  | c :: t, u, d :: l => by
    rw [List.cons_append, pre_cons, pre_cons, pre_app t u l, List.length_cons, List.drop_succ_cons, Bool.and_assoc]
/-- Is a piece with this text at this byte ended? -/
def endedB (l : Bytes) (at_ : Int) (t : Bytes) : Bool := decide (0 ≤ at_) && decide (at_ ≤ l.length) && Lib.hasPrefix (l.drop at_.toNat) (t ++ [63, 62])

def EndedPost (s : ByteArray) (x : Int) (t : ByteArray) (w : World) (e : Ending) (w' : World) : Prop := e = .returned (.bool (endedB s.data.toList x t.data.toList)) ∧ Below w.heap.size w w'
theorem app_data (t : ByteArray) : (t ++ ⟨#[63, 62]⟩ : ByteArray).data.toList = t.data.toList ++ [63, 62] := by
  rw [ByteArray.data_append, Array.toList_append]

theorem callsFlip {P : Program} {f : FuncId} {args : Array Value} {w : World} {v : Ending} (h : Calls P f args w fun e w' => e = v ∧ w = w') : Calls P f args w fun e w' => e = v ∧ w' = w := h.mono fun _ _ ⟨a, b⟩ => ⟨a, b.symm⟩

set_option maxRecDepth 100000 in
set_option maxHeartbeats 4000000 in
theorem ended_any (s : ByteArray) (hs : s.size ≤ 140737488351232) (kd x : Int) (t : ByteArray) (ht : t.size ≤ 140737488351232) (w : World) :
    Calls Tryd.prog 13 #[.string s, .agg #[.int .i64 kd, .string t, .int .i64 x]] w (EndedPost s x t w) := by
  have hlen := Lib.size_eq s
  have Hb : Hid (Below w.heap.size w (w.alloc (.cells #[.int .i64 kd, .string t, .int .i64 x] 32))) := (Below.refl _ _).alloc (Nat.le_refl _) _
  by_cases h0 : 0 ≤ x
  · by_cases h1 : x ≤ (s.size : Int)
    · obtain ⟨a, rfl⟩ : ∃ a : Nat, x = a := ⟨x.toNat, by omega⟩
      have HE : Hid (endedB s.data.toList (a : Int) t.data.toList = Lib.hasPrefix (s.data.toList.drop a) (t ++ ⟨#[63, 62]⟩ : ByteArray).data.toList) := by
        show _ = _
        unfold endedB
        rw [decide_eq_true h0, decide_eq_true (by omega), app_data]; rfl
      have hsuf : s.extract a s.size = suf s a := rfl
      have HP := Lib.hid (fun w => callsFlip (hasPrefix_suf s (t ++ ⟨#[63, 62]⟩) a w))
      clear hlen
      generalize Lib.hasPrefix (s.data.toList.drop a) (t ++ ⟨#[63, 62]⟩ : ByteArray).data.toList = b at *
      have g0 : decide ((0 : Int) ≤ (a : Int)) = true := by simp
      have g1 : decide ((a : Int) ≤ (s.size : Int)) = true := by simp; omega
      go_enter Tryd.func13, Tryd.ntmps13
      go_wp2_with fail
      go_quiet ((go_at_call 25; exact Calls.quiet_of_same (HP.out _)))
      go_wp2_with fail
      go_ret
      exact ⟨ret_bool HE.out.symm, below_drewN Hb.out _⟩
    · have HE : Hid (endedB s.data.toList x t.data.toList = false) := by
        show _ = _
        unfold endedB
        rw [decide_eq_true h0, decide_eq_false (show ¬ x ≤ (s.data.toList.length : Int) by omega)]; rfl
      have g0 : decide ((0 : Int) ≤ x) = true := decide_eq_true h0
      have g1 : decide (x ≤ (s.size : Int)) = false := decide_eq_false h1
      clear hlen h1
      go_enter Tryd.func13, Tryd.ntmps13
      go_wp2_with fail
      go_quiet (fail)
      go_wp2_with fail
      go_ret
      exact ⟨ret_bool HE.out.symm, below_drewN Hb.out _⟩
  · have HE : Hid (endedB s.data.toList x t.data.toList = false) := by
      show _ = _
      unfold endedB
      rw [decide_eq_false h0]; rfl
    have g0 : decide ((0 : Int) ≤ x) = false := decide_eq_false h0
    clear hlen h0
    go_enter Tryd.func13, Tryd.ntmps13
    go_wp2_with fail
    go_quiet (fail)
    go_wp2_with fail
    go_ret
    exact ⟨ret_bool HE.out.symm, below_drewN Hb.out _⟩

set_option maxRecDepth 100000 in
set_option maxHeartbeats 4000000 in
theorem rended_any (s : ByteArray) (hs : s.size ≤ 140737488351232) (kd x : Int) (t : ByteArray) (ht : t.size ≤ 140737488351232) (w : World) :
    Calls Tryd.prog 14 #[.string s, .agg #[.int .i64 kd, .string t, .int .i64 x]] w (EndedPost s x t w) := by
  have hlen := Lib.size_eq s
  have hlt := Lib.size_eq t
  have Hb : Hid (Below w.heap.size w (w.alloc (.cells #[.int .i64 kd, .string t, .int .i64 x] 32))) := (Below.refl _ _).alloc (Nat.le_refl _) _
  by_cases h0 : 0 ≤ x
  · by_cases h1 : x ≤ (s.size : Int)
    · obtain ⟨a, rfl⟩ : ∃ a : Nat, x = a := ⟨x.toNat, by omega⟩
      have HE : Hid (endedB s.data.toList (a : Int) t.data.toList = (Lib.hasPrefix (s.data.toList.drop a) t.data.toList && Lib.hasPrefix (s.data.toList.drop (a + t.size)) [63, 62])) := by
        show _ = _
        unfold endedB
        rw [decide_eq_true h0, decide_eq_true (by omega), pre_app, List.drop_drop, hlt]; rfl
      have HA := Lib.hid (at_any s (by omega) a (by omega) t (by omega) (.inl (by omega)))
      have hB := at_any s (by omega) (a + t.size) (by omega) ⟨#[63, 62]⟩ (by decide) (.inr (by decide))
      have hcast : ((a + t.size : Nat) : Int) = (a : Int) + (t.size : Int) := by simp
      rw [hcast] at hB
      have HB := Lib.hid hB
      clear hlen hlt hB hcast
      rw [show atB s.data.toList a t.data.toList = Lib.hasPrefix (s.data.toList.drop a) t.data.toList from rfl] at HA
      rw [show atB s.data.toList (a + t.size) (⟨#[63, 62]⟩ : ByteArray).data.toList = Lib.hasPrefix (s.data.toList.drop (a + t.size)) [63, 62] from rfl] at HB
      generalize Lib.hasPrefix (s.data.toList.drop a) t.data.toList = b1 at *
      generalize Lib.hasPrefix (s.data.toList.drop (a + t.size)) [63, 62] = b2 at *
      cases b1 with
      | true =>
        go_enter Tryd.func14, Tryd.ntmps14
        go_wp2_with fail
        refine (HA.out _).mono ?_; rintro e w1 ⟨rfl, rfl⟩
        go_wp2_with fail
        refine (HB.out _).mono ?_; rintro e w1 ⟨rfl, rfl⟩
        go_wp2_with fail
        go_ret
        exact ⟨ret_bool (by rw [HE.out]; simp), Hb.out⟩
      | false =>
        go_enter Tryd.func14, Tryd.ntmps14
        go_wp2_with fail
        refine (HA.out _).mono ?_; rintro e w1 ⟨rfl, rfl⟩
        go_wp2_with fail
        go_ret
        exact ⟨ret_bool (by rw [HE.out]; simp), Hb.out⟩
    · have HE : Hid (endedB s.data.toList x t.data.toList = false) := by
        show _ = _
        unfold endedB
        rw [decide_eq_true h0, decide_eq_false (show ¬ x ≤ (s.data.toList.length : Int) by omega)]; rfl
      clear hlen hlt
      go_enter Tryd.func14, Tryd.ntmps14
      go_wp2_with fail
      go_ret
      exact ⟨ret_bool HE.out.symm, Hb.out⟩
  · have HE : Hid (endedB s.data.toList x t.data.toList = false) := by
      show _ = _
      unfold endedB
      rw [decide_eq_false h0]; rfl
    clear hlen hlt
    go_enter Tryd.func14, Tryd.ntmps14
    go_wp2_with fail
    go_ret
    exact ⟨ret_bool HE.out.symm, Hb.out⟩

/-! ### Line -/
theorem count_snoc (l : Bytes) (c : UInt8) : Lib.countByte (l ++ [c]) 10 = Lib.countByte l 10 + if c = 10 then 1 else 0 := by
  have h1 := Lib.count_foldl 10 (l ++ [c]) 0
  have h2 := Lib.count_foldl 10 l 0
  rw [List.foldl_append, h2] at h1
  simp only [List.foldl_cons, List.foldl_nil] at h1
  by_cases h : c = 10
  · rw [if_pos h]; subst h; simp at h1; omega
  · rw [if_neg h]; have : (c == 10) = false := by simpa using h
    rw [this] at h1; simp at h1; omega
theorem count_le (l : Bytes) : Lib.countByte l 10 ≤ l.length := List.count_le_length

set_option maxRecDepth 100000 in
set_option maxHeartbeats 4000000 in
theorem rline_any (s : ByteArray) (hs : s.size ≤ 140737488351232) (x : Int) (w : World) : Calls Tryd.prog 16 #[.string s, .int .i64 x] w fun e w' => e = .returned (.int .i64 (lineOf s.data.toList x)) ∧ w = w' := by
  obtain ⟨n, hn⟩ : ∃ n : Nat, min (max x 0) (s.size : Int) = n := ⟨(min (max x 0) (s.size : Int)).toNat, by omega⟩
  have hR : lineOf s.data.toList x = 1 + (Lib.countByte (s.data.toList.take n) 10 : Nat) := by
    unfold lineOf
    rw [← Lib.size_eq, hn]
    have := count_le (s.data.toList.take n)
    rw [List.length_take, ← Lib.size_eq] at this
    rw [Int.toNat_natCast]
    exact IntWalk.wrap64_in (1 + (Lib.countByte (s.data.toList.take n) 10 : Nat) : Int) (by omega)
  have HR := Lib.hid hR
  clear hR
  have hn1 : n ≤ s.size := by omega
  have hnx : ∀ k : Nat, k < n → (k : Int) < x := fun k hk => by omega
  have hnx2 : n < s.size → ¬ ((n : Int) < x) := fun h => by omega
  clear hn
  have HX := Lib.hid hnx
  have HX2 := Lib.hid hnx2
  clear hnx hnx2
  go_enter Tryd.func16, Tryd.ntmps16
  go_wp2_with fail
  go_loop [5, 6] (fun c i => ∃ k : Nat, k ≤ n ∧ i = .int .i64 (k : Nat) ∧ c = .int .i64 (1 + (Lib.countByte (s.data.toList.take k) 10 : Nat))) (fun _ i => n - (intOf i).toNat)
  case atStart => exact ⟨0, Nat.zero_le _, rfl, rfl⟩
  case round =>
    obtain ⟨k, hk, rfl, rfl⟩ := hrel
    have hcl := count_le (s.data.toList.take k)
    have hlk : (s.data.toList.take k).length ≤ k := List.length_take_le _ _
    by_cases hlt : k < n
    · have hks : k < s.size := by omega
      have hksI : (k : Int) < (s.size : Int) := by omega
      have hkx := HX.out k hlt
      have hsn : Hid (Lib.countByte (s.data.toList.take (k + 1)) 10 = Lib.countByte (s.data.toList.take k) 10 + if s[k] = 10 then 1 else 0) := by
        show _ = _
        rw [List.take_succ_eq_append_getElem (by have := Lib.size_eq s; omega), count_snoc]; rfl
      generalize Lib.countByte (s.data.toList.take k) 10 = c at *
      by_cases h10 : s[k] = 10
      · have g10 : ((s[k].toNat : Int) == 10) = true := by rw [h10]; rfl
        have HS : Hid (Lib.countByte (s.data.toList.take (k + 1)) 10 = c + 1) := by show _ = _; rw [hsn.out, if_pos h10]
        clear h10 hsn
        go_wp2_with fail
        go_round
        case rel => exact ⟨k + 1, by omega, by go_num, by rw [HS.out]; go_num⟩
        case measure => simp [intOf]; omega
      · have g10 : ((s[k].toNat : Int) == 10) = false := ne_byte (b := 10) h10
        have HS : Hid (Lib.countByte (s.data.toList.take (k + 1)) 10 = c) := by show _ = _; rw [hsn.out, if_neg h10]; rfl
        clear h10 hsn
        go_wp2_with fail
        go_round
        case rel => exact ⟨k + 1, by omega, by go_num, by rw [HS.out]⟩
        case measure => simp [intOf]; omega
    · obtain rfl : k = n := by omega
      generalize Lib.countByte (s.data.toList.take k) 10 = c at *
      by_cases hks : k < s.size
      · have hksI : (k : Int) < (s.size : Int) := by omega
        have hkx : decide ((k : Int) < x) = false := decide_eq_false (by have := HX2.out hks; omega)
        go_wp2_with fail
        go_ret
        exact ⟨ret_int HR.out.symm, rfl⟩
      · have hksI : ¬ ((k : Int) < (s.size : Int)) := by omega
        go_wp2_with fail
        go_ret
        exact ⟨ret_int HR.out.symm, rfl⟩

/-! ### first -/
theorem Reads.take_ {w : World} {B size n m : Nat} {A : Option Addr} {xs : List Value} (h : Reads w B size A n xs) (hm : m ≤ n) : Reads w B size A m (xs.take (m * size)) :=
  ⟨by rw [List.length_take, h.1]; exact Nat.min_eq_left (Nat.mul_le_mul_right _ hm), fun h0 => by
    obtain ⟨ad, e, hb, hc⟩ := h.2 (by omega)
    refine ⟨ad, e, hb, fun j u hu => hc j u ?_⟩
    rw [List.getElem?_take] at hu
    split at hu
    · exact hu
    · cases hu⟩
theorem pcells_take (s : ByteArray) (L : List P3) (m : Nat) (hm : m ≤ L.length) : (L.take m).flatMap (pcCells s) = (L.flatMap (pcCells s)).take (m * 3) := by
  have e : L.flatMap (pcCells s) = (L.take m).flatMap (pcCells s) ++ (L.drop m).flatMap (pcCells s) := by
    rw [← List.flatMap_append, List.take_append_drop]
  have hl : ((L.take m).flatMap (pcCells s)).length = m * 3 := by rw [pcells_len, List.length_take, Nat.min_eq_left hm]
  rw [e, ← hl, List.take_left]
/-- The first pieces. -/
def fewL (s : ByteArray) : List P3 := if 65536 < s.size then [] else (cut3 s.data.toList).take 20
theorem few_le (s : ByteArray) : (fewL s).length ≤ 20 := by
  unfold fewL; split
  · simp
  · rw [List.length_take]; omega
def FirstPost (s : ByteArray) (w : World) (e : Ending) (w' : World) : Prop :=
  ∃ A c, e = .returned (.slice A ((fewL s).length : Nat) c) ∧ Reads w' w'.heap.size 3 A (fewL s).length ((fewL s).flatMap (pcCells s)) ∧ Below w.heap.size w w'

set_option maxRecDepth 100000 in
set_option maxHeartbeats 4000000 in
theorem first_any (s : ByteArray) (hml : s.size ≤ maxLen) (w : World) : Calls Tryd.prog 12 #[.string s] w (FirstPost s w) := by
  by_cases hs : 65536 < s.size
  · have HR := Lib.hid (rcut_long s hs hml w)
    have HF : Hid (FirstPost s w (.returned (.slice none 0 0)) w) := by
      have e : fewL s = [] := if_pos hs
      refine ⟨none, 0, by rw [e]; rfl, by rw [e]; exact Reads.none_, Below.refl _ _⟩
    clear hs
    go_enter Tryd.func12, Tryd.ntmps12
    go_wp2_with fail
    refine HR.out.mono ?_
    rintro e w1 ⟨rfl, rfl⟩
    go_wp2_with fail
    go_ret
    exact HF.out
  · have HR := Lib.hid (rcut_any s (by omega) w)
    have hfew := cut3_few s (by omega)
    go_enter Tryd.func12, Tryd.ntmps12
    go_wp2_with fail
    refine HR.out.mono ?_
    rintro e w1 ⟨v, rfl, hp, hb⟩
    have Hb := Lib.hid hb
    obtain ⟨L, hL⟩ : ∃ L, cut3 s.data.toList = L := ⟨_, rfl⟩
    have Hf : Hid (fewL s = L.take 20) := by show _ = _; unfold fewL; rw [if_neg hs, hL]
    rw [hL] at hp hfew
    clear hb HR hL hs
    unfold PiecesAt at hp
    have hp' := hp
    rcases hp with ⟨hx, ⟨rfl, hz⟩ | ⟨g, cap, cur, rfl, hg, hh, hnc, hcm, hcs, htk⟩⟩
    · have HF : Hid (FirstPost s w (.returned (.slice none 0 0)) w1) := by
        have e : fewL s = [] := by rw [Hf.out, List.eq_nil_of_length_eq_zero hz]; rfl
        refine ⟨none, 0, by rw [e]; rfl, by rw [e]; exact Reads.none_, Hb.out⟩
      clear hx hp' hz Hf hfew
      go_wp2_with fail
      go_ret
      exact HF.out
    · have HP := Lib.hid (Reads.of_own hp')
      clear hx hg hh hcs htk hp'
      unfold maxLen at hcm
      obtain ⟨m, hm⟩ : ∃ m : Nat, min (L.length : Int) 20 = m := ⟨min L.length 20, by omega⟩
      have hmL : m ≤ L.length := by omega
      have hmc : (m : Int) ≤ (cap : Int) := by omega
      have HF : Hid (FirstPost s w (.returned (.slice (some ⟨g, 0, none⟩) m cap)) w1) := by
        have et : fewL s = L.take m := by
          rw [Hf.out]
          rcases Nat.le_total L.length 20 with h | h
          · have : m = L.length := by omega
            rw [this, List.take_of_length_le h, List.take_of_length_le (Nat.le_refl _)]
          · have : m = 20 := by omega
            rw [this]
        have el : (fewL s).length = m := by rw [et, List.length_take]; omega
        refine ⟨some ⟨g, 0, none⟩, cap, by rw [el], ?_, Hb.out⟩
        rw [el, et, pcells_take s L m hmL]
        exact HP.out.take_ hmL
      clear Hf Hb HP
      go_wp2_with fail
      go_ret
      exact HF.out
end Go.Proofs.YtohbbgghkinnhaaDoor
