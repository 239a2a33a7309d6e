/- conv.split: the walk. -/
import Derived.Test.YthdnflklhhfojaaGreatDoorOrC
import Derived.Test.YthdnflklhhfojaaGreatDoorHeld
import Derived.Carry
namespace Go.Proofs.YthdnflklhhfojaaGreatDoor
open Go Go.RowKit
namespace Dp
open Go.Proofs.YthdnflklhhfojaaGreatDoor.Nm (skipB skipD signB digitB blankB signed1 headD minusB)
theorem trim_list (l : List UInt8) (w : World) : Calls Tryz.prog 179 #[.string ⟨l.toArray⟩, .string blanks] w fun e w' => e = .returned (.string ⟨(skipB l).toArray⟩) ∧ Below w.heap.size w w' := trim_any ⟨l.toArray⟩ w
theorem signed1_cons (c : UInt8) (r : List UInt8) : signed1 (c :: r) = if signB c = true then r else c :: r := rfl
theorem headD_cons (c : UInt8) (r : List UInt8) : headD (c :: r) = digitB c := rfl
theorem head_zero {l : List UInt8} (h : pre l = 0) : headD (signed1 l) = false := by
  cases l with
  | nil => rfl
  | cons c r =>
    rw [pre_cons] at h
    split at h
    · omega
    · rename_i hn
      simp only [Bool.or_eq_true, not_or, Bool.not_eq_true] at hn
      rw [signed1_cons, if_neg (by rw [hn.1]; decide), headD_cons]
      exact hn.2
theorem head_sign {c : UInt8} {r : List UInt8} (h : pre (c :: r) = 1) (hs : signB c = true) : headD (signed1 (c :: r)) = false := by
  rw [pre_cons, hs] at h
  simp only [Bool.true_or, if_true] at h
  rw [signed1_cons, if_pos hs]
  cases r with
  | nil => rfl
  | cons d r =>
    rw [headD_cons]
    cases hd : digitB d with
    | false => rfl
    | true =>
      rw [List.takeWhile_cons, hd] at h
      simp at h
theorem head_ok {c : UInt8} {r : List UInt8} (h0 : pre (c :: r) ≠ 0) (h1 : ¬ (pre (c :: r) = 1 ∧ signB c = true)) : headD (signed1 (c :: r)) = true := by
  rw [pre_cons] at h0 h1
  rw [signed1_cons]
  cases hs : signB c with
  | true =>
    rw [hs] at h0 h1
    simp only [Bool.true_or, if_true, and_true] at h0 h1
    rw [if_pos rfl]
    cases r with
    | nil => simp at h1
    | cons d r =>
      rw [headD_cons]
      cases hd : digitB d with
      | true => rfl
      | false =>
        rw [List.takeWhile_cons, hd] at h1
        simp at h1
  | false =>
    rw [hs] at h0
    simp only [Bool.false_or] at h0
    rw [if_neg (by decide), headD_cons]
    cases hd : digitB c with
    | true => rfl
    | false =>
      rw [hd] at h0
      simp at h0
theorem take_ext (u : ByteArray) (e : Nat) : u.extract 0 e = ⟨(u.data.toList.take e).toArray⟩ := by
  apply ByteArray.ext
  rw [← Array.toList_inj]
  simp
theorem drop_ext (u : ByteArray) (e : Nat) : u.extract e u.size = ⟨(u.data.toList.drop e).toArray⟩ := by
  apply ByteArray.ext
  rw [← Array.toList_inj, ByteArray.data_extract, Array.toList_extract, List.extract_eq_take_drop, List.toList_toArray]
  exact List.take_of_length_le (by rw [List.length_drop, Array.length_toList]; exact Nat.le_refl _)
set_option maxRecDepth 100000 in
set_option maxHeartbeats 2000000 in
theorem split_any (s : ByteArray) (hs : s.size ≤ 281474976710656) (w : World) : Calls Tryz.prog 158 #[.string s] w fun e w' => e = .returned (splitV (skipB s.data.toList)) ∧ Below w.heap.size w w' := by
  have HT := Lib.hid (trim_any s w)
  have hsz : (skipB s.data.toList).length ≤ s.size := by
    have h := (List.dropWhile_suffix (p := blankB) (l := s.data.toList)).length_le
    unfold skipB
    rw [show s.data.toList.length = s.size by simp] at h
    exact h
  obtain ⟨u, hu, hl⟩ : ∃ u : ByteArray, (⟨(skipB s.data.toList).toArray⟩ : ByteArray) = u ∧ skipB s.data.toList = u.data.toList := ⟨_, rfl, by simp⟩
  rw [hu] at HT
  rw [hl] at hsz ⊢
  have hus : u.size ≤ 281474976710656 := by
    have : u.data.toList.length = u.size := by simp
    omega
  have HTL := Lib.hid (fun w => trim_list (u.data.toList.drop (pre u.data.toList)) w)
  have hpl := pre_le u.data.toList
  rw [show u.data.toList.length = u.size by simp] at hpl
  have hv0 : pre u.data.toList = 0 → splitV u.data.toList = .tuple #[.string ⟨#[]⟩, .string ⟨#[]⟩, .bool false] := fun h => by unfold splitV; rw [head_zero h]; rfl
  have hcons : ∀ h : 0 < u.size, u.data.toList = u[0] :: u.data.toList.drop 1 := fun h => by
    have h' : 0 < u.data.toList.length := by simpa using h
    have := List.drop_eq_getElem_cons h'
    rw [List.drop_zero] at this
    exact this
  have hv1 : ∀ h : 0 < u.size, pre u.data.toList = 1 → signB u[0] = true → splitV u.data.toList = .tuple #[.string ⟨#[]⟩, .string ⟨#[]⟩, .bool false] := fun h h1 h2 => by
    unfold splitV
    rw [hcons h] at h1 ⊢
    rw [head_sign h1 h2]
    rfl
  have hv2 : ∀ h : 0 < u.size, pre u.data.toList ≠ 0 → ¬ (pre u.data.toList = 1 ∧ signB u[0] = true) → splitV u.data.toList = .tuple #[.string ⟨(u.data.toList.take (pre u.data.toList)).toArray⟩, .string ⟨(skipB (u.data.toList.drop (pre u.data.toList))).toArray⟩, .bool true] := fun h h1 h2 => by
    unfold splitV
    have : headD (signed1 u.data.toList) = true := by
      rw [hcons h] at h1 h2 ⊢
      exact head_ok h1 h2
    rw [this, if_pos rfl]
  have ht0 := take_ext u (pre u.data.toList)
  have hd0 := drop_ext u (pre u.data.toList)
  obtain ⟨V, hV⟩ : ∃ V, splitV u.data.toList = V := ⟨_, rfl⟩
  rw [hV] at hv0 hv1 hv2 ⊢
  clear hV hcons
  have HTL2 := HTL
  have HVS := Lib.hid (And.intro hv0 (And.intro hv1 (And.intro hv2 (And.intro ht0 hd0))))
  clear hu hl hsz hv0 hv1 hv2 ht0 hd0 HTL
  go_enter Tryz.func158, Tryz.ntmps158
  go_upto_block 0 with (go_at_call 179; refine HT.out.mono ?_; rintro e w1 ⟨rfl, hb1⟩; have HB := Lib.hid hb1; clear hb1)
  go_cut [5] (fun x wx => x = .int .i64 ((pre u.data.toList : Nat) : Int) ∧ Hid (Below w.heap.size w wx))
  case first =>
    clear HTL2 HVS
    go_wp2_with fail
    go_loopw [5] (fun x5 wx => ∃ j : Nat, j ≤ u.size ∧ x5 = .int .i64 j ∧ wx = w1.iter u j ∧ Hid (Scan u.data.toList j)) (fun _ wx => u.size - wx.iterPos w1.heap.size)
    case atStart => exact ⟨0, Nat.zero_le _, rfl, rfl, .inl rfl⟩
    case round =>
      obtain ⟨j, hj, rfl, rfl, HS⟩ := hrel
      by_cases hlt : j < u.size
      · have hnx := fun ty => run_next_any (P := Tryz.prog) w1 u j ty hlt
        have hlt' : (j : Int) < (u.size : Int) := by omega
        have hc : u.data.toList[j]? = some u[j] := by
          rw [List.getElem?_eq_getElem (by simpa using hlt)]
          rfl
        by_cases ha : u[j].toNat < 128
        · rw [decode_ascii u j hlt ha] at hnx
          simp only at hnx
          have HB2 := Lib.hid (HB.out.alloc HB.out.size (.stringIter u (j + 1)))
          obtain ⟨x, hxx⟩ : ∃ x : Int, (u[j].toNat : Int) = x := ⟨_, rfl⟩
          rw [hxx] at hnx
          by_cases hdig : 48 ≤ u[j].toNat ∧ u[j].toNat ≤ 57
          · have HS2 := Lib.hid (HS.out.digit hc (by unfold digitB; simp; omega))
            have g1 : decide (x < 48) = false := by simp; omega
            have g2 : decide (57 < x) = false := by simp; omega
            clear HS hc HB2
            go_wp2_with fail
            go_roundw
            case rel => exact ⟨j + 1, by omega, by go_num, by trivial, HS2⟩
            case measure => simp <;> omega
          · have hnd : digitB u[j] = false := by unfold digitB; simp; omega
            by_cases hj0 : j = 0
            · subst hj0
              by_cases hsg : u[0].toNat = 45 ∨ u[0].toNat = 43
              · have HS2 := Lib.hid (Scan.sign hc (by unfold signB; simp; exact hsg))
                rcases hsg with hsg | hsg
                · obtain rfl : x = 45 := by omega
                  clear HS hc HB2
                  go_wp2_with fail
                  go_roundw
                  case rel => exact ⟨1, by omega, by go_num, by trivial, HS2⟩
                  case measure => simp <;> omega
                · obtain rfl : x = 43 := by omega
                  clear HS hc HB2
                  go_wp2_with fail
                  go_roundw
                  case rel => exact ⟨1, by omega, by go_num, by trivial, HS2⟩
                  case measure => simp <;> omega
              · have HP : Hid (pre u.data.toList = 0) := by
                  exact Scan.stop0 (l := u.data.toList) (fun c h => by
                    rw [hc] at h
                    cases h
                    rw [hnd, Bool.or_false]
                    unfold signB
                    simp
                    omega)
                have e45 : (x != 45) = true := by simp; omega
                have e43 : (x != 43) = true := by simp; omega
                clear HS hc
                by_cases h48 : x < 48
                · go_wp2_with fail
                  go_meet
                  exact ⟨by rw [HP.out] <;> rfl, HB2.out⟩
                · have h57 : 57 < x := by omega
                  go_wp2_with fail
                  go_meet
                  exact ⟨by rw [HP.out] <;> rfl, HB2.out⟩
            · have HP := Lib.hid (HS.out.stop (by omega) (fun c h => by
                rw [hc] at h
                cases h
                exact hnd))
              have hjp : (0 : Int) < (j : Int) := by omega
              clear HS hc
              by_cases h48 : x < 48
              · go_wp2_with fail
                go_meet
                exact ⟨by rw [HP.out] <;> rfl, HB2.out⟩
              · have h57 : 57 < x := by omega
                go_wp2_with fail
                go_meet
                exact ⟨by rw [HP.out] <;> rfl, HB2.out⟩
        · have hh := decode_high u j hlt (by omega)
          have HB2 := Lib.hid (HB.out.alloc HB.out.size (.stringIter u (j + (Utf8.decode u j).2)))
          have hnd : digitB u[j] = false := by unfold digitB; simp; omega
          obtain ⟨x, hxx⟩ : ∃ x : Int, ((Utf8.decode u j).1 : Int) = x := ⟨_, rfl⟩
          rw [hxx] at hnx
          have h57 : 57 < x := by omega
          have h48 : ¬ x < 48 := by omega
          have e45 : (x != 45) = true := by simp; omega
          have e43 : (x != 43) = true := by simp; omega
          generalize (Utf8.decode u j).2 = st at *
          clear hh
          by_cases hj0 : j = 0
          · subst hj0
            have HB2 : Hid (Below w.heap.size w (w1.iter u st)) := by
              have := HB2.out
              rw [Nat.zero_add] at this
              exact this
            have HP : Hid (pre u.data.toList = 0) := by
              exact Scan.stop0 (l := u.data.toList) (fun c h => by
                rw [hc] at h
                cases h
                rw [hnd, Bool.or_false]
                unfold signB
                simp
                omega)
            clear HS hc
            go_wp2_with fail
            go_meet
            exact ⟨by rw [HP.out] <;> rfl, HB2.out⟩
          · have HP := Lib.hid (HS.out.stop (by omega) (fun c h => by
              rw [hc] at h
              cases h
              exact hnd))
            have hjp : (0 : Int) < (j : Int) := by omega
            clear HS hc
            go_wp2_with fail
            go_meet
            exact ⟨by rw [HP.out] <;> rfl, HB2.out⟩
      · have hnx := fun ty => run_next_end (P := Tryz.prog) w1 u j ty hlt
        have hju : j = u.size := by omega
        have HB2 := Lib.hid (HB.out.alloc HB.out.size (.stringIter u j))
        have hno : ∀ c, u.data.toList[j]? = some c → digitB c = false := fun c h => by
          rw [List.getElem?_eq_none (by simp; omega)] at h
          cases h
        have HP : Hid (pre u.data.toList = j) := by
          by_cases hj0 : j = 0
          · rw [hj0]
            exact Scan.stop0 (fun c h => by
              rw [← hj0, List.getElem?_eq_none (by simp; omega)] at h
              cases h)
          · exact HS.out.stop (by omega) hno
        clear HS hno hju
        go_wp2_with fail
        go_meet
        exact ⟨by rw [HP.out] <;> rfl, HB2.out⟩
  case rest =>
    obtain ⟨rfl, HB⟩ := hcut
    obtain ⟨hv0, hv1, hv2, ht0, hd0⟩ := HVS.out
    have HTL := HTL2
    clear HVS HT HTL2
    generalize (skipB (u.data.toList.drop (pre u.data.toList))) = R at *
    generalize pre u.data.toList = E at *
    generalize (⟨(u.data.toList.take E).toArray⟩ : ByteArray) = X1 at *
    generalize (⟨(u.data.toList.drop E).toArray⟩ : ByteArray) = X2 at *
    by_cases h0 : E = 0
    · obtain rfl := hv0 h0
      subst h0
      clear hv1 hv2 HTL hv0
      go_wp2_with fail
      go_ret3
      exact ⟨rfl, HB.out⟩
    · have hu0 : 0 < u.size := by omega
      have hu0' : (0 : Int) < (u.size : Int) := by omega
      have b0 : ((E : Int) == 0) = false := by simp; omega
      by_cases h1 : E = 1 ∧ signB u[0] = true
      · obtain rfl := hv1 hu0 h1.1 h1.2
        obtain ⟨rfl, hsg⟩ := h1
        clear hv1 hv2 HTL hv0 b0
        have hsg2 : (u[0].toNat : Int) = 45 ∨ (u[0].toNat : Int) = 43 := by
          unfold signB at hsg
          simp at hsg
          omega
        rcases hsg2 with hx | hx
        · go_wp2_with fail
          go_ret3
          exact ⟨rfl, HB.out⟩
        · go_wp2_with fail
          go_ret3
          exact ⟨rfl, HB.out⟩
      · obtain rfl := hv2 hu0 h0 h1
        have hE0 : (0 : Int) ≤ (E : Int) := by omega
        have hEl : (E : Int) ≤ (u.size : Int) := by omega
        have HBD := Lib.hid (show Below w.heap.size w wc.drew from ⟨HB.out.os, HB.out.tape, HB.out.output, HB.out.size, HB.out.block⟩)
        clear hv0 hv1 hv2
        by_cases h2 : E = 1
        · obtain ⟨x, hxx⟩ : ∃ x : Int, (u[0].toNat : Int) = x := ⟨_, rfl⟩
          have hns : ¬ signB u[0] = true := fun h => h1 ⟨h2, h⟩
          have e45 : (x == 45) = false := by
            unfold signB at hns
            simp at hns ⊢
            omega
          have e43 : (x == 43) = false := by
            unfold signB at hns
            simp at hns ⊢
            omega
          subst h2
          have h1u : (1 : Int) ≤ (u.size : Int) := by omega
          clear h1 hns b0
          go_wp2_with fail
          refine wp_region_held_drew (S := (fun _ => True)) (by kernel_rfl) ?_ (fun hHeld => ?_)
          · exact trivial
          refine wpAnyH_take (i := 0) (v := ?v1) Held.op0 (by kernel_rfl) (by kernel_rfl) (by kernel_rfl) (fun _ _ _ h => h) (Or.inl ⟨by rfl, ?hy1⟩) (by assumption) ?rest1
          case hy1 => (intro wq hSq; (try dsimp only at hSq); first | (go_simp; done) | (go_simp; with_reducible rfl))
          try simp only [Act.put, List.setIfInBounds_toArray, List.set_cons_zero, List.set_cons_succ]
          refine wpAnyH_take (i := 1) (v := ?v2) Held.op1 (by kernel_rfl) (by kernel_rfl) (by kernel_rfl) (fun _ _ _ h => h) (Or.inl ⟨by rfl, ?hy2⟩) (by assumption) ?rest2
          case hy2 => (intro wq hSq; (try dsimp only at hSq); first | (go_simp; done) | (go_simp; with_reducible rfl))
          try simp only [Act.put, List.setIfInBounds_toArray, List.set_cons_zero, List.set_cons_succ]
          refine wpAnyH_take (i := 2) (v := ?v3) Held.op2 (by kernel_rfl) (by kernel_rfl) (by kernel_rfl) (fun _ _ _ h => h) (Or.inl ⟨by rfl, ?hy3⟩) (by assumption) ?rest3
          case hy3 => (intro wq hSq; (try dsimp only at hSq); first | (go_simp; done) | (go_simp; with_reducible rfl))
          try simp only [Act.put, List.setIfInBounds_toArray, List.set_cons_zero, List.set_cons_succ]
          refine wpAnyH_take (i := 3) (v := ?v4) Held.op3 (by kernel_rfl) (by kernel_rfl) (by kernel_rfl) (fun _ _ _ h => h) (Or.inl ⟨by rfl, ?hy4⟩) (by assumption) ?rest4
          case hy4 => (intro wq hSq; (try dsimp only at hSq); first | (go_simp; done) | (go_simp; with_reducible rfl))
          try simp only [Act.put, List.setIfInBounds_toArray, List.set_cons_zero, List.set_cons_succ]
          refine wpAnyH_take (i := 4) (v := ?v5) Held.op4 (by kernel_rfl) (by kernel_rfl) (by kernel_rfl) (fun _ _ _ h => h) (Or.inl ⟨by rfl, ?hy5⟩) (by assumption) ?rest5
          case hy5 => (intro wq hSq; (try dsimp only at hSq); first | (go_simp; done) | (go_simp; with_reducible rfl))
          try simp only [Act.put, List.setIfInBounds_toArray, List.set_cons_zero, List.set_cons_succ]
          refine wpAnyH_take (i := 5) (v := ?v6) Held.op5 (by kernel_rfl) (by kernel_rfl) (by kernel_rfl) (fun _ _ _ h => h) (Or.inl ⟨by rfl, ?hy6⟩) (by assumption) ?rest6
          case hy6 => (intro wq hSq; (try dsimp only at hSq); first | (go_simp; done) | (go_simp; with_reducible rfl))
          try simp only [Act.put, List.setIfInBounds_toArray, List.set_cons_zero, List.set_cons_succ]
          refine wpAnyH_ready (rs := [6]) (by kernel_rfl) (by simp) ?_
          refine AllReadyH.cons Held.op6 (fun K hK => ?_) AllReadyH.nil
          go_simp
          go_at_call 179; refine (HTL.out _).mono ?_; rintro e w5 ⟨rfl, hb5⟩; have HB5 := Lib.hid (HBD.out.trans (hb5.mono HBD.out.size)); clear hb5
          try (go_wp2_with fail)
          refine hK.out _ _ ?_ (fun hHeld => ?_)
          · exact trivial
          clear hK K
          try simp only [Act.put, List.setIfInBounds_toArray, List.set_cons_zero, List.set_cons_succ]
          refine wpAnyH_take (i := 7) (v := ?v8) Held.op7 (by kernel_rfl) (by kernel_rfl) (by kernel_rfl) (fun _ _ _ h => h) (Or.inl ⟨by rfl, ?hy8⟩) (by assumption) ?rest8
          case hy8 => (intro wq hSq; (try dsimp only at hSq); first | (go_simp; done) | (go_simp; with_reducible rfl))
          try simp only [Act.put, List.setIfInBounds_toArray, List.set_cons_zero, List.set_cons_succ]
          refine wpAnyH_take (i := 8) (v := ?v9) Held.op8 (by kernel_rfl) (by kernel_rfl) (by kernel_rfl) (fun _ _ _ h => h) (Or.inl ⟨by rfl, ?hy9⟩) (by assumption) ?rest9
          case hy9 => (intro wq hSq; (try dsimp only at hSq); first | (go_simp; done) | (go_simp; with_reducible rfl))
          try simp only [Act.put, List.setIfInBounds_toArray, List.set_cons_zero, List.set_cons_succ]
          refine wpAnyH_take (i := 9) (v := ?v10) Held.op9 (by kernel_rfl) (by kernel_rfl) (by kernel_rfl) (fun _ _ _ h => h) (Or.inl ⟨by rfl, ?hy10⟩) (by assumption) ?rest10
          case hy10 => (intro wq hSq; (try dsimp only at hSq); first | (go_simp; done) | (go_simp; with_reducible rfl))
          try simp only [Act.put, List.setIfInBounds_toArray, List.set_cons_zero, List.set_cons_succ]
          refine wpAnyH_done (by kernel_rfl) ?_ _
          go_wp2_with fail
          go_ret3
          exact ⟨rfl, HB5.out⟩
        · have b1 : ((E : Int) == 1) = false := by simp; omega
          clear h1
          go_wp2_with fail
          refine wp_region_held_drew (S := (fun _ => True)) (by kernel_rfl) ?_ (fun hHeld => ?_)
          · exact trivial
          refine wpAnyH_take (i := 0) (v := ?v11) Held.op0 (by kernel_rfl) (by kernel_rfl) (by kernel_rfl) (fun _ _ _ h => h) (Or.inl ⟨by rfl, ?hy11⟩) (by assumption) ?rest11
          case hy11 => (intro wq hSq; (try dsimp only at hSq); first | (go_simp; done) | (go_simp; with_reducible rfl))
          try simp only [Act.put, List.setIfInBounds_toArray, List.set_cons_zero, List.set_cons_succ]
          refine wpAnyH_take (i := 1) (v := ?v12) Held.op1 (by kernel_rfl) (by kernel_rfl) (by kernel_rfl) (fun _ _ _ h => h) (Or.inl ⟨by rfl, ?hy12⟩) (by assumption) ?rest12
          case hy12 => (intro wq hSq; (try dsimp only at hSq); first | (go_simp; done) | (go_simp; with_reducible rfl))
          try simp only [Act.put, List.setIfInBounds_toArray, List.set_cons_zero, List.set_cons_succ]
          refine wpAnyH_take (i := 2) (v := ?v13) Held.op2 (by kernel_rfl) (by kernel_rfl) (by kernel_rfl) (fun _ _ _ h => h) (Or.inl ⟨by rfl, ?hy13⟩) (by assumption) ?rest13
          case hy13 => (intro wq hSq; (try dsimp only at hSq); first | (go_simp; done) | (go_simp; with_reducible rfl))
          try simp only [Act.put, List.setIfInBounds_toArray, List.set_cons_zero, List.set_cons_succ]
          refine wpAnyH_take (i := 3) (v := ?v14) Held.op3 (by kernel_rfl) (by kernel_rfl) (by kernel_rfl) (fun _ _ _ h => h) (Or.inl ⟨by rfl, ?hy14⟩) (by assumption) ?rest14
          case hy14 => (intro wq hSq; (try dsimp only at hSq); first | (go_simp; done) | (go_simp; with_reducible rfl))
          try simp only [Act.put, List.setIfInBounds_toArray, List.set_cons_zero, List.set_cons_succ]
          refine wpAnyH_take (i := 4) (v := ?v15) Held.op4 (by kernel_rfl) (by kernel_rfl) (by kernel_rfl) (fun _ _ _ h => h) (Or.inl ⟨by rfl, ?hy15⟩) (by assumption) ?rest15
          case hy15 => (intro wq hSq; (try dsimp only at hSq); first | (go_simp; done) | (go_simp; with_reducible rfl))
          try simp only [Act.put, List.setIfInBounds_toArray, List.set_cons_zero, List.set_cons_succ]
          refine wpAnyH_take (i := 5) (v := ?v16) Held.op5 (by kernel_rfl) (by kernel_rfl) (by kernel_rfl) (fun _ _ _ h => h) (Or.inl ⟨by rfl, ?hy16⟩) (by assumption) ?rest16
          case hy16 => (intro wq hSq; (try dsimp only at hSq); first | (go_simp; done) | (go_simp; with_reducible rfl))
          try simp only [Act.put, List.setIfInBounds_toArray, List.set_cons_zero, List.set_cons_succ]
          refine wpAnyH_ready (rs := [6]) (by kernel_rfl) (by simp) ?_
          refine AllReadyH.cons Held.op6 (fun K hK => ?_) AllReadyH.nil
          go_simp
          go_at_call 179; refine (HTL.out _).mono ?_; rintro e w5 ⟨rfl, hb5⟩; have HB5 := Lib.hid (HBD.out.trans (hb5.mono HBD.out.size)); clear hb5
          try (go_wp2_with fail)
          refine hK.out _ _ ?_ (fun hHeld => ?_)
          · exact trivial
          clear hK K
          try simp only [Act.put, List.setIfInBounds_toArray, List.set_cons_zero, List.set_cons_succ]
          refine wpAnyH_take (i := 7) (v := ?v18) Held.op7 (by kernel_rfl) (by kernel_rfl) (by kernel_rfl) (fun _ _ _ h => h) (Or.inl ⟨by rfl, ?hy18⟩) (by assumption) ?rest18
          case hy18 => (intro wq hSq; (try dsimp only at hSq); first | (go_simp; done) | (go_simp; with_reducible rfl))
          try simp only [Act.put, List.setIfInBounds_toArray, List.set_cons_zero, List.set_cons_succ]
          refine wpAnyH_take (i := 8) (v := ?v19) Held.op8 (by kernel_rfl) (by kernel_rfl) (by kernel_rfl) (fun _ _ _ h => h) (Or.inl ⟨by rfl, ?hy19⟩) (by assumption) ?rest19
          case hy19 => (intro wq hSq; (try dsimp only at hSq); first | (go_simp; done) | (go_simp; with_reducible rfl))
          try simp only [Act.put, List.setIfInBounds_toArray, List.set_cons_zero, List.set_cons_succ]
          refine wpAnyH_take (i := 9) (v := ?v20) Held.op9 (by kernel_rfl) (by kernel_rfl) (by kernel_rfl) (fun _ _ _ h => h) (Or.inl ⟨by rfl, ?hy20⟩) (by assumption) ?rest20
          case hy20 => (intro wq hSq; (try dsimp only at hSq); first | (go_simp; done) | (go_simp; with_reducible rfl))
          try simp only [Act.put, List.setIfInBounds_toArray, List.set_cons_zero, List.set_cons_succ]
          refine wpAnyH_done (by kernel_rfl) ?_ _
          go_wp2_with fail
          go_ret3
          exact ⟨rfl, HB5.out⟩
end Dp
end Go.Proofs.YthdnflklhhfojaaGreatDoor
