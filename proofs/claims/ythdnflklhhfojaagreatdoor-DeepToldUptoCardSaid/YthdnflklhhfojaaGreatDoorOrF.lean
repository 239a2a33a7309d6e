/- conv.value, Numeric, numeric, Text and the document's Text: the walks. -/
import Derived.Test.YthdnflklhhfojaaGreatDoorOrE
import Derived.Test.YthdnflklhhfojaaGreatDoorMxA
import Derived.Shelf.Strconv.ErrVarParseInt
namespace Go.Proofs.YthdnflklhhfojaaGreatDoor
open Go Go.RowKit
namespace Dp
open Go.Proofs.YthdnflklhhfojaaGreatDoor.Nm (skipB skipD signB digitB blankB signed1 headD minusB satF numericL beginL itoa_any)
set_option maxRecDepth 100000 in
theorem value_any (d : ByteArray) (hd : d.size ≤ 281474976710656) (v : Int) (h : valE d.data.toList v) (w : World) (hL : LibS w) : Calls Tryz.prog 159 #[.string d] w fun e w' => e = .returned (.int .i64 v) ∧ Below w.heap.size w w' := by
  have HP : Hid (Calls Tryz.prog 180 #[.string d, .int .i64 10, .int .i64 64] w fun e w' => (∃ er, e = .returned (.tuple #[.int .i64 v, er])) ∧ Below w.heap.size w w') := by
    show Calls _ _ _ _ _
    rcases h with h | ⟨h, hv⟩
    · refine (Tryz.strconv_ParseInt_10_at64_ok d (by omega) v h w).mono ?_
      rintro e w' ⟨rfl, rfl | ⟨t, rfl⟩⟩
      · exact ⟨⟨_, rfl⟩, Below.refl _ _⟩
      · exact ⟨⟨_, rfl⟩, Joins.below_bytesWorld _ _ _ _ (Nat.le_refl _)⟩
    · obtain ⟨tq, q, hu⟩ := hL.rng
      refine (Tryz.strconv_ParseInt_10_at64_range_var d hd h tq q w hu).mono ?_
      rintro e w' ⟨N, rfl, -, -, hb⟩
      rw [hv]
      exact ⟨⟨_, rfl⟩, hb⟩
  clear h hL
  go_enter Tryz.func159, Tryz.ntmps159
  go_wp2_with (go_at_call 180; refine HP.out.mono ?_; rintro e w1 ⟨⟨er, rfl⟩, hb⟩)
  go_ret
  exact ⟨rfl, hb⟩
set_option maxRecDepth 100000 in
theorem cnumeric_any (s : ByteArray) (hs : s.size ≤ 281474976710656) (w : World) (hL : LibS w) : Calls Tryz.prog 137 #[.string s] w fun e w' => e = .returned (.tuple #[.int .i64 ((numericL s.data.toList).getD 0), .bool (numericL s.data.toList).isSome]) ∧ Below w.heap.size w w' := by
  have HS := Lib.hid (split_any s hs w)
  have hLL := Lib.hid hL
  have hlen : (skipB s.data.toList).length ≤ 281474976710656 := by
    have h := (List.dropWhile_suffix (p := blankB) (l := s.data.toList)).length_le
    unfold skipB
    rw [show s.data.toList.length = s.size by simp] at h
    omega
  have hnum : numericL s.data.toList = if headD (signed1 (skipB s.data.toList)) = true then (if skipB (skipD (signed1 (skipB s.data.toList))) = [] then some (satF (minusB (skipB s.data.toList)) 0 (signed1 (skipB s.data.toList))) else none) else none := by
    unfold numericL beginL
    by_cases h : headD (signed1 (skipB s.data.toList)) = true
    · rw [if_pos h, if_pos h]
      cases skipB (skipD (signed1 (skipB s.data.toList))) with
      | nil => rfl
      | cons a r => rfl
    · rw [if_neg h, if_neg h]
  rw [hnum]
  clear hnum hL hs
  generalize skipB s.data.toList = L at *
  by_cases hh : headD (signed1 L) = true
  · obtain ⟨hv, hdr⟩ := lead_val L hh
    have hsp : splitV L = .tuple #[.string ⟨(L.take (pre L)).toArray⟩, .string ⟨(skipB (L.drop (pre L))).toArray⟩, .bool true] := by unfold splitV; rw [hh, if_pos rfl]
    rw [hsp, hdr] at HS
    rw [if_pos hh]
    have hX : (⟨(L.take (pre L)).toArray⟩ : ByteArray).data.toList = L.take (pre L) := by simp
    have hXs : (⟨(L.take (pre L)).toArray⟩ : ByteArray).size ≤ 281474976710656 := by
      show (L.take (pre L)).toArray.size ≤ _
      have := (List.take_prefix (pre L) L).length_le
      have h2 : (L.take (pre L)).toArray.size = (L.take (pre L)).length := List.size_toArray ..
      omega
    rw [← hX] at hv
    have HV := Lib.hid (fun w1 h1 => value_any _ hXs _ hv w1 h1)
    clear hv hX hXs hsp hdr hlen hh
    generalize (⟨(L.take (pre L)).toArray⟩ : ByteArray) = X at *
    generalize satF (minusB L) 0 (signed1 L) = m at *
    generalize skipB (skipD (signed1 L)) = R at *
    by_cases hr : R = []
    · subst hr
      rw [if_pos rfl]
      go_enter Tryz.func137, Tryz.ntmps137
      go_wp2_with (first | (go_at_call 158; refine HS.out.mono ?_; rintro e w1 ⟨rfl, hb⟩; have HB := Lib.hid hb; have HL1 := Lib.hid (hLL.out.below hb); clear hb) | (go_at_call 159; refine (HV.out _ HL1.out).mono ?_; rintro e w2 ⟨rfl, hb2⟩))
      go_ret2
      exact ⟨rfl, HB.out.trans (hb2.mono HB.out.size)⟩
    · rw [if_neg hr]
      have hn : ¬ (⟨R.toArray⟩ : ByteArray).size = 0 := by
        show ¬ R.toArray.size = 0
        intro h
        rw [List.size_toArray] at h
        exact hr (List.eq_nil_of_length_eq_zero h)
      have bt := empty_no hn
      generalize (⟨R.toArray⟩ : ByteArray) = Y at *
      clear hn hr
      go_enter Tryz.func137, Tryz.ntmps137
      go_wp2_with (first | (go_at_call 158; refine HS.out.mono ?_; rintro e w1 ⟨rfl, hb⟩; have HB := Lib.hid hb; clear hb))
      go_ret2
      exact ⟨rfl, HB.out⟩
  · have hsp : splitV L = .tuple #[.string ⟨#[]⟩, .string ⟨#[]⟩, .bool false] := by unfold splitV; rw [if_neg hh]
    rw [hsp] at HS
    rw [if_neg hh]
    clear hsp hh hlen
    go_enter Tryz.func137, Tryz.ntmps137
    go_wp2_with (first | (go_at_call 158; refine HS.out.mono ?_; rintro e w1 ⟨rfl, hb⟩; have HB := Lib.hid hb; clear hb))
    go_ret2
    exact ⟨rfl, HB.out⟩
/-- The number that conv.numeric tells, be it one or not. -/
def numI (k n : Int) (t : ByteArray) : Int := if k = 3 then (numericL t.data.toList).getD 0 else n
section
variable (n : Int) (t : ByteArray) (A : Option Addr) (l c : Nat) (w : World)
set_option maxRecDepth 100000 in
theorem cnum_any (k : Int) (hk : k = 0 ∨ k = 2 ∨ k = 3) (ht : t.size ≤ 281474976710656) (hL : LibS w) : Calls Tryz.prog 109 #[.agg #[.int .i64 k, .int .i64 n, .string t, .slice A l c]] w fun e w' => e = .returned (.tuple #[.int .i64 (numI k n t), .bool (numP k n t).isSome]) ∧ Below w.heap.size w w' := by
  have HB0 := Lib.hid ((Below.refl w.heap.size w).alloc (Nat.le_refl _) (.cells #[.int .i64 k, .int .i64 n, .string t, .slice A l c] 27))
  rcases hk with rfl | rfl | rfl
  · go_enter Tryz.func109, Tryz.ntmps109
    go_wp2_with fail
    go_quiet (fail)
    go_wp2_with fail
    go_ret2
    exact ⟨rfl, drewN' HB0.out _⟩
  · go_enter Tryz.func109, Tryz.ntmps109
    go_wp2_with fail
    go_quiet (fail)
    go_wp2_with fail
    go_ret2
    exact ⟨rfl, drewN' HB0.out _⟩
  · have HN := Lib.hid (cnumeric_any t ht (w.alloc (.cells #[.int .i64 3, .int .i64 n, .string t, .slice A l c] 27)) (hL.below HB0.out))
    have e : numP 3 n t = numericL t.data.toList := rfl
    have e2 : numI 3 n t = (numericL t.data.toList).getD 0 := rfl
    rw [e, e2]
    clear ht hL e e2
    generalize numericL t.data.toList = q at *
    go_enter Tryz.func109, Tryz.ntmps109
    go_wp2_with (go_at_call 137; refine HN.out.mono ?_; rintro e w1 ⟨rfl, hb⟩)
    go_ret2
    exact ⟨rfl, HB0.out.trans (hb.mono HB0.out.size)⟩
theorem cdigits_any (h0 : In64 n) (hL : LibS w) : Calls Tryz.prog 56 #[.int .i64 n] w fun e w' => e = .returned (.string ⟨(Lib.itoa n).toArray⟩) ∧ Below w.heap.size w w' := by
  have HI := Lib.hid (itoa_any n h0.1 h0.2 w hL)
  clear h0 hL
  go_enter Tryz.func56, Tryz.ntmps56
  go_wp2_with (go_at_call 94; refine HI.out.mono ?_; rintro e w1 ⟨rfl, hb⟩)
  go_ret
  exact ⟨rfl, hb⟩
set_option maxRecDepth 100000 in
theorem ctext_any (k : Int) (hk : k = 0 ∨ k = 2 ∨ k = 3) (h0 : In64 n) (hL : LibS w) : Calls Tryz.prog 92 #[.agg #[.int .i64 k, .int .i64 n, .string t, .slice A l c]] w fun e w' => e = .returned (.tuple #[.string (textP k n t), .int .i64 0]) ∧ Below w.heap.size w w' := by
  have HB0 := Lib.hid ((Below.refl w.heap.size w).alloc (Nat.le_refl _) (.cells #[.int .i64 k, .int .i64 n, .string t, .slice A l c] 27))
  rcases hk with rfl | rfl | rfl
  · go_enter Tryz.func92, Tryz.ntmps92
    go_wp2_with fail
    go_ret2
    exact ⟨rfl, HB0.out⟩
  · have HI := Lib.hid (cdigits_any n (w.alloc (.cells #[.int .i64 2, .int .i64 n, .string t, .slice A l c] 27)) h0 (hL.below HB0.out))
    have e : textP 2 n t = ⟨(Lib.itoa n).toArray⟩ := rfl
    rw [e]
    clear h0 hL
    go_enter Tryz.func92, Tryz.ntmps92
    go_wp2_with (go_at_call 56; refine HI.out.mono ?_; rintro e w1 ⟨rfl, hb⟩)
    go_ret2
    exact ⟨rfl, HB0.out.trans (hb.mono HB0.out.size)⟩
  · go_enter Tryz.func92, Tryz.ntmps92
    go_wp2_with fail
    go_ret2
    exact ⟨rfl, HB0.out⟩
end
end Dp
end Go.Proofs.YthdnflklhhfojaaGreatDoor
