/- Keywords: the reference's teller. -/
import Derived.Test.YteajmgkdiioflaaGreatDoorWordC
namespace Go.Proofs.YteajmgkdiioflaaGreatDoor
open Go.RowKit

theorem contains_no (l t : Bytes) (ht : t ≠ []) (h : ∀ i, i < l.length → atB l i t = false) : Lib.contains l t = false := by
  unfold Lib.contains
  rw [decide_eq_false_iff_not]
  intro h0
  rcases Lib.index_spec l t with ⟨h1, _⟩ | ⟨j, h1, h2, h3, _⟩
  · omega
  · rcases Nat.lt_or_ge j l.length with hj | hj
    · have := h j hj
      have h3' : atB l j t = true := h3
      rw [h3'] at this; cases this
    · have hd : l.drop j = [] := List.drop_eq_nil_of_le hj
      unfold Lib.occAt at h3
      rw [hd] at h3
      cases t with
      | nil => exact ht rfl
      | cons a t => simp at h3
theorem contains_yes (l t : Bytes) (i : Nat) (hi : i ≤ l.length) (h : atB l i t = true) : Lib.contains l t = true := by
  unfold Lib.contains
  rw [decide_eq_true_eq]
  rcases Lib.index_spec l t with ⟨_, h2⟩ | ⟨j, h1, _⟩
  · have := h2 i hi
    have h' : Lib.occAt l t i = true := h
    rw [h'] at this; cases this
  · omega
theorem keys_len : keysL.length = 323 := by decide +kernel

set_option maxRecDepth 100000 in
set_option maxHeartbeats 2000000 in
theorem rkey_any (s : ByteArray) (hs : s.size ≤ 140737488351232) (w : World) :
    Calls Tryz.prog 11 #[.string s] w fun e w' => e = .returned (.bool (keyL s.data.toList)) ∧ Below w.heap.size w w' := by
  have HS := Lib.hid (small_any s (by omega) w)
  have hsl := Lib.size_eq s
  have hls : (⟨(s.data.toList.map lowB).toArray⟩ : ByteArray).size = s.size := by rw [Lib.size_eq]; simp
  have hld : (⟨(s.data.toList.map lowB).toArray⟩ : ByteArray).data.toList = s.data.toList.map lowB := by simp
  have hlz : ((⟨(s.data.toList.map lowB).toArray⟩ : ByteArray).toList == ([] : List UInt8)) = (s.data.toList == []) := by
    rw [ByteArray.toList_eq, hld]
    cases s.data.toList <;> rfl
  have hw0 : wordN ((⟨(s.data.toList.map lowB).toArray⟩ : ByteArray).data.toList.drop 0) = wordN s.data.toList := by rw [hld, List.drop_zero, wordN_low]
  have HW := Lib.hid (fun w => rword_any ⟨(s.data.toList.map lowB).toArray⟩ (by omega) 0 (by omega) w)
  rw [hw0] at HW
  have Hcon : Hid ((32 :: (s.data.toList.map lowB ++ [32]) : Bytes) = (⟨#[32]⟩ ++ (⟨(s.data.toList.map lowB).toArray⟩ : ByteArray) ++ ⟨#[32]⟩ : ByteArray).data.toList) := by show _ = _; simp
  have HK := Lib.hid (show keyL s.data.toList = _ by unfold keyL; rfl)
  generalize hgl : (⟨(s.data.toList.map lowB).toArray⟩ : ByteArray) = L at *
  have HX := Lib.hid hld
  clear hld hgl hw0
  cases hz : (s.data.toList == ([] : List UInt8)) with
  | true =>
    rw [hz] at hlz
    have Hk : Hid (keyL s.data.toList = false) := by
      show _ = _
      rw [HK.out, if_pos (by simpa using hz)]
    clear hz HK hsl
    go_enter Tryz.func11, Tryz.ntmps11
    go_wp2_with (go_at_call 22; refine HS.out.mono ?_; rintro e w1 ⟨rfl, hb1⟩; have HB1 := Lib.hid hb1; clear hb1)
    go_ret
    exact ⟨by rw [Hk.out]; rfl, HB1.out⟩
  | false =>
    rw [hz] at hlz
    have hne : s.data.toList ≠ [] := by simpa using hz
    have hle := wordN_le s.data.toList
    by_cases hn : wordN s.data.toList = s.size
    · have Hk : Hid (keyL s.data.toList = Lib.contains keysL (32 :: (s.data.toList.map lowB ++ [32]))) := by
        show _ = _
        rw [HK.out, if_neg hne, if_pos (by omega)]
      rw [hn] at HW
      have hnI : ((s.size : Int) != (L.size : Int)) = false := by simp [hls]
      have one32 : (⟨#[32]⟩ : ByteArray).size = 1 := rfl
      have HA : Hid (∀ (K : ByteArray) (_ : K.data.toList = keysL) (i : Nat) (_ : i < 323) (w : World) (b : Bool) (_ : atB keysL i (32 :: (s.data.toList.map lowB ++ [32])) = b),
          Calls Tryz.prog 24 #[.string K, .int .i64 (i : Int), .string (⟨#[32]⟩ ++ L ++ ⟨#[32]⟩)] w fun e w' => e = .returned (.bool b) ∧ w = w') := by
        intro K hK i hi w b hb
        have hKs : K.size = 323 := by rw [Lib.size_eq, hK]; exact keys_len
        have := at_any K (by omega) i (by omega) (⟨#[32]⟩ ++ L ++ ⟨#[32]⟩) (by rw [ByteArray.size_append, ByteArray.size_append, one32]; omega) (.inr (by rw [ByteArray.size_append, ByteArray.size_append, one32]; omega)) w
        rw [hK, ← Hcon.out, hb] at this
        exact this
      have hsz : L.size ≤ 140737488351232 := by omega
      clear hz HK hsl hle hn hne
      go_enter Tryz.func11, Tryz.ntmps11
      go_wp2_with (first
        | (go_at_call 22; refine HS.out.mono ?_; rintro e w1 ⟨rfl, hb1⟩; have HB1 := Lib.hid hb1; clear hb1)
        | (go_at_call 23; refine (HW.out _).mono ?_; rintro e w2 ⟨rfl, rfl⟩))
      go_loopw [4] (fun x wx => ∃ k : Nat, k ≤ 323 ∧ x = .int .i64 k ∧ w1 = wx ∧ Hid (∀ j, j < k → atB keysL j (32 :: (s.data.toList.map lowB ++ [32])) = false)) (fun x _ => 323 - (intOf x).toNat)
      case atStart => exact ⟨0, Nat.zero_le _, rfl, rfl, fun j hj => absurd hj (by omega)⟩
      case round =>
        obtain ⟨k, hk, rfl, rfl, HN⟩ := hrel
        by_cases hlt : k < 323
        · have hltI : (k : Int) < 323 := by omega
          obtain ⟨b, hb⟩ : ∃ b, atB keysL k (32 :: (s.data.toList.map lowB ++ [32])) = b := ⟨_, rfl⟩
          have Hb := Lib.hid hb
          clear hb
          cases b with
          | true =>
            have Hfin : Hid (Lib.contains keysL (32 :: (s.data.toList.map lowB ++ [32])) = true) := contains_yes _ _ k (by rw [keys_len]; omega) Hb.out
            go_wp2_with (go_at_call 24; refine (HA.out _ (by kernel_rfl) k hlt _ true Hb.out).mono ?_; rintro e w3 ⟨rfl, rfl⟩)
            go_ret
            exact ⟨by rw [Hk.out, Hfin.out]; rfl, HB1.out⟩
          | false =>
            have HN2 : Hid (∀ j, j < k + 1 → atB keysL j (32 :: (s.data.toList.map lowB ++ [32])) = false) := fun j hj => by
              rcases Nat.lt_or_ge j k with h | h
              · exact HN.out j h
              · obtain rfl : j = k := by omega
                exact Hb.out
            go_wp2_with (go_at_call 24; refine (HA.out _ (by kernel_rfl) k hlt _ false Hb.out).mono ?_; rintro e w3 ⟨rfl, rfl⟩)
            go_roundw
            case rel => exact ⟨k + 1, by omega, by go_num, by first | rfl | trivial, HN2.out⟩
            case measure => simp [intOf] <;> omega
        · obtain rfl : k = 323 := by omega
          have Hfin : Hid (Lib.contains keysL (32 :: (s.data.toList.map lowB ++ [32])) = false) := contains_no _ _ (by simp) (fun i hi => HN.out i (by rw [keys_len] at hi; exact hi))
          go_wp2_with fail
          go_ret
          exact ⟨by rw [Hk.out, Hfin.out]; rfl, HB1.out⟩
    · have Hk : Hid (keyL s.data.toList = false) := by
        show _ = _
        rw [HK.out, if_neg hne, if_neg (by omega)]
      have hnI : ((wordN s.data.toList : Int) != (L.size : Int)) = true := by simp; omega
      clear hz HK hsl hne hn hle
      generalize (wordN s.data.toList : Int) = n at *
      go_enter Tryz.func11, Tryz.ntmps11
      go_wp2_with (first
        | (go_at_call 22; refine HS.out.mono ?_; rintro e w1 ⟨rfl, hb1⟩; have HB1 := Lib.hid hb1; clear hb1)
        | (go_at_call 23; refine (HW.out _).mono ?_; rintro e w2 ⟨rfl, rfl⟩))
      go_ret
      exact ⟨by rw [Hk.out]; rfl, HB1.out⟩
end Go.Proofs.YteajmgkdiioflaaGreatDoor
