/- url.Dec: the walk. -/
import Derived.Test.YtgpemnmopogppaaGreatDoorZUrDaQ
namespace Go.Proofs.YtgpemnmopogppaaGreatDoor
open Go Go.RowKit
namespace Url
set_option maxRecDepth 100000 in
set_option maxHeartbeats 2000000 in
theorem dec_any (s : ByteArray) (hs : s.size ≤ 16777216) (w : World) : Calls Tryz.prog 29 #[.string s] w fun e w' => e = .returned (.string ⟨(decF s.data.toList).toArray⟩) ∧ Below w.heap.size w w' := by
  have hr0 : decF s.data.toList = rest s 0 := rfl
  rw [hr0]
  have HI0 := Lib.hid (isB_new w)
  have HB0 := Lib.hid ((Below.refl w.heap.size w).alloc (Nat.le_refl _) (.cells #[.pointer none, .slice none 0 0] 73))
  have HW := Lib.hid (fun b l c w1 (h : IsB b l w1) h2 h3 => Bd.byte b b (Lib.byteCells l) c w1 h h2 h3)
  have HG := Lib.hid (fun b l w1 (h : IsB b l w1) h3 => Tryz.Builder_String_any_k b b l w1 h h3)
  have HH := Lib.hid hexy_any
  clear hr0
  go_enter Tryz.func29, Tryz.ntmps29
  go_wp2_with fail
  go_loopw [4] (fun xi wx => ∃ (j : Nat) (acc : List UInt8), j ≤ s.size ∧ xi = .int .i64 j ∧ Hid (IsB w.heap.size acc wx) ∧ Hid (acc ++ rest s j = rest s 0) ∧ Hid (acc.length ≤ j) ∧ Hid (Below w.heap.size w wx)) (fun xi _ => s.size - (match xi with | .int _ q => q | _ => 0).toNat)
  case atStart => exact ⟨0, [], Nat.zero_le _, rfl, HI0, by simp [Hid], Nat.le_refl _, HB0⟩
  case round =>
    obtain ⟨j, acc, hj, rfl, HI, HR, HL, HB⟩ := hrel
    clear HB0 HI0
    by_cases hlt : j < s.size
    · have hlt' : (j : Int) < (s.size : Int) := by omega
      have hc := s[j].toNat_lt
      have hcl : (Lib.byteCells acc).length + 1 ≤ 140737488355328 := by
        rw [Lib.byteCells_length]
        have := HL.out
        omega
      have HC1 := Lib.hid hcl
      have hx0 : (0 : Int) ≤ (s[j].toNat : Int) := by omega
      have hx1 : (s[j].toNat : Int) < 256 := by omega
      obtain ⟨x, hxx⟩ : ∃ x : Int, (s[j].toNat : Int) = x := ⟨_, rfl⟩
      rw [hxx] at hx0 hx1
      clear hcl
      by_cases h43 : x = 43
      · subst h43
        have HR2 : Hid ((acc ++ [32]) ++ rest s (j + 1) = rest s 0) := by
          show _ = _
          rw [← HR.out, rest_plus s j hlt hxx]
          simp
        have HL2 : Hid ((acc ++ [32]).length ≤ j + 1) := by
          show _ ≤ _
          have := HL.out
          rw [List.length_append, List.length_singleton]
          omega
        have HN : Hid (∀ w1, Lib.IsBuilderF 73 5 w.heap.size w.heap.size (Lib.byteCells acc ++ [.int .u8 32]) w1 → IsB w.heap.size (acc ++ [32]) w1) := by
          intro w1 hz
          unfold IsB
          rw [Lib.byteCells_append]
          show Lib.IsBuilderF _ _ _ _ (_ ++ [.int .u8 ((32 : UInt8).toNat : Int)]) w1
          rw [show ((32 : UInt8).toNat : Int) = 32 by rfl]
          exact hz
        clear HR
        go_wp2_with (go_at_call 40; refine (HW.out _ _ _ _ HI.out HC1.out HB.out.size).mono ?_; rintro e w1 ⟨rfl, hi1, hb1, -⟩; have HB1 := Lib.hid (HB.out.trans hb1); clear hb1)
        go_roundw
        case rel => exact ⟨j + 1, _, by omega, by go_num, HN.out _ hi1, HR2, HL2, HB1⟩
        case measure => simp <;> omega
      · have e43 : (x == 43) = false := by simpa using h43
        by_cases h37 : x = 37
        · subst h37
          by_cases h2 : j + 2 < s.size
          · have h2' : (j : Int) + 2 < (s.size : Int) := by omega
            have hw1 : IntKind.i64.wrap ((j : Int) + 1) = (j : Int) + 1 := IntWalk.i64_in _ (by omega)
            have hw2 : IntKind.i64.wrap ((j : Int) + 2) = (j : Int) + 2 := IntWalk.i64_in _ (by omega)
            have ha1 : hxAt s (j + 1) = hx s[j + 1] := dif_pos (by omega)
            have ha2 : hxAt s (j + 2) = hx s[j + 2] := dif_pos h2
            have hR3 := rest_hex s j hlt hxx h2
            have hR1 := rest_no s j hlt hxx
            rw [ha1, ha2] at hR1
            have q1 := hx_eq s[j + 1]
            have q2 := hx_eq s[j + 2]
            have y10 : 0 ≤ (s[j + 1].toNat : Int) ∧ (s[j + 1].toNat : Int) < 256 := by have := s[j + 1].toNat_lt; omega
            have y20 : 0 ≤ (s[j + 2].toNat : Int) ∧ (s[j + 2].toNat : Int) < 256 := by have := s[j + 2].toNat_lt; omega
            have b1 := hx_lt s[j + 1]
            have b2 := hx_lt s[j + 2]
            obtain ⟨y1, hy1⟩ : ∃ y : Int, (s[j + 1].toNat : Int) = y := ⟨_, rfl⟩
            obtain ⟨y2, hy2⟩ : ∃ y : Int, (s[j + 2].toNat : Int) = y := ⟨_, rfl⟩
            rw [hy1] at q1 y10
            rw [hy2] at q2 y20
            generalize hx s[j + 1] = g1 at *
            generalize hx s[j + 2] = g2 at *
            replace q1 := q1.symm
            replace q2 := q2.symm
            have HR3 := Lib.hid hR3
            have HR1 := Lib.hid hR1
            clear hR3 hR1 ha1 ha2
            by_cases n1 : g1 < 0
            · have d1 : decide (0 ≤ g1) = false := by simp; omega
              have HR2 : Hid ((acc ++ [s[j]]) ++ rest s (j + 1) = rest s 0) := by
                show _ = _
                rw [← HR.out, HR1.out (.inl n1)]
                simp
              have HL2 : Hid ((acc ++ [s[j]]).length ≤ j + 1) := by
                show _ ≤ _
                have := HL.out
                rw [List.length_append, List.length_singleton]
                omega
              have HN : Hid (∀ w1, Lib.IsBuilderF 73 5 w.heap.size w.heap.size (Lib.byteCells acc ++ [.int .u8 37]) w1 → IsB w.heap.size (acc ++ [s[j]]) w1) := by
                intro w1 hz
                unfold IsB
                rw [Lib.byteCells_append]
                show Lib.IsBuilderF _ _ _ _ (_ ++ [.int .u8 ((s[j] : UInt8).toNat : Int)]) w1
                rw [show ((s[j] : UInt8).toNat : Int) = 37 by exact hxx]
                exact hz
              clear HR HR1 HR3 n1
              go_wp2_with (first | (go_at_call 69; refine (HH.out _ (by omega) (by omega) _).mono ?_; rintro e w1 ⟨rfl, rfl⟩) | (go_at_call 40; refine (HW.out _ _ _ _ HI.out HC1.out HB.out.size).mono ?_; rintro e w1 ⟨rfl, hi1, hb1, -⟩; have HB1 := Lib.hid (HB.out.trans hb1); clear hb1))
              go_roundw
              case rel => exact ⟨j + 1, _, by omega, by go_num, HN.out _ hi1, HR2, HL2, HB1⟩
              case measure => simp <;> omega
            · obtain ⟨h, rfl⟩ : ∃ h : Nat, g1 = (h : Int) := ⟨g1.toNat, by omega⟩
              have d1 : (0 : Int) ≤ (h : Int) := by omega
              by_cases n2 : g2 < 0
              · have d2 : decide (0 ≤ g2) = false := by simp; omega
                have HR2 : Hid ((acc ++ [s[j]]) ++ rest s (j + 1) = rest s 0) := by
                  show _ = _
                  rw [← HR.out, HR1.out (.inr n2)]
                  simp
                have HL2 : Hid ((acc ++ [s[j]]).length ≤ j + 1) := by
                  show _ ≤ _
                  have := HL.out
                  rw [List.length_append, List.length_singleton]
                  omega
                have HN : Hid (∀ w1, Lib.IsBuilderF 73 5 w.heap.size w.heap.size (Lib.byteCells acc ++ [.int .u8 37]) w1 → IsB w.heap.size (acc ++ [s[j]]) w1) := by
                  intro w1 hz
                  unfold IsB
                  rw [Lib.byteCells_append]
                  show Lib.IsBuilderF _ _ _ _ (_ ++ [.int .u8 ((s[j] : UInt8).toNat : Int)]) w1
                  rw [show ((s[j] : UInt8).toNat : Int) = 37 by exact hxx]
                  exact hz
                clear HR HR1 HR3 n2
                go_wp2_with (first | (go_at_call 69; refine (HH.out _ (by omega) (by omega) _).mono ?_; rintro e w1 ⟨rfl, rfl⟩) | (go_at_call 69; refine (HH.out _ (by omega) (by omega) _).mono ?_; rintro e w1 ⟨rfl, rfl⟩) | (go_at_call 40; refine (HW.out _ _ _ _ HI.out HC1.out HB.out.size).mono ?_; rintro e w1 ⟨rfl, hi1, hb1, -⟩; have HB1 := Lib.hid (HB.out.trans hb1); clear hb1))
                go_roundw
                case rel => exact ⟨j + 1, _, by omega, by go_num, HN.out _ hi1, HR2, HL2, HB1⟩
                case measure => simp <;> omega
              · obtain ⟨l, rfl⟩ : ∃ l : Nat, g2 = (l : Int) := ⟨g2.toNat, by omega⟩
                have d2 : (0 : Int) ≤ (l : Int) := by omega
                have j1a : (0 : Int) ≤ (j : Int) + 1 := by omega
                have j1b : (j : Int) + 1 < (s.size : Int) := by omega
                have j2a : (0 : Int) ≤ (j : Int) + 2 := by omega
                have hyg1 : ∀ (k : Nat) (hk : k < s.size), k = j + 1 → (s[k].toNat : Int) = y1 := fun k hk e => by subst e; exact hy1
                have hyg2 : ∀ (k : Nat) (hk : k < s.size), k = j + 2 → (s[k].toNat : Int) = y2 := fun k hk e => by subst e; exact hy2
                have hyt1 := hyg1 ((j : Int) + 1).toNat (by omega) (by omega)
                have hyt2 := hyg2 ((j : Int) + 2).toNat (by omega) (by omega)
                clear hyg1 hyg2
                have hor := or_nib h l (by omega) (by omega)
                have hws : IntKind.i64.wrap ((h : Int) * 16) = (h : Int) * 16 := IntWalk.i64_in _ (by omega)
                have hwu : IntKind.u8.wrap (16 * (h : Int) + (l : Int)) = 16 * (h : Int) + (l : Int) := IntWalk.u8_in _ (by omega)
                have HID := Lib.hid (show IsB w.heap.size acc wr.drew from HI.out)
                have HBD := Lib.hid (show Below w.heap.size w wr.drew from ⟨HB.out.os, HB.out.tape, HB.out.output, HB.out.size, HB.out.block⟩)
                have HR2 : Hid ((acc ++ [UInt8.ofNat (16 * h + l)]) ++ rest s (j + 3) = rest s 0) := by
                  show _ = _
                  rw [← HR.out, (show rest s j = UInt8.ofNat (16 * h + l) :: rest s (j + 3) from by simpa using HR3.out d1 d2)]
                  simp
                have HL2 : Hid ((acc ++ [UInt8.ofNat (16 * h + l)]).length ≤ j + 3) := by
                  show _ ≤ _
                  have := HL.out
                  rw [List.length_append, List.length_singleton]
                  omega
                have HN : Hid (∀ w1, Lib.IsBuilderF 73 5 w.heap.size w.heap.size (Lib.byteCells acc ++ [.int .u8 (16 * (h : Int) + (l : Int))]) w1 → IsB w.heap.size (acc ++ [(UInt8.ofNat (16 * h + l))]) w1) := by
                  intro w1 hz
                  unfold IsB
                  rw [Lib.byteCells_append]
                  show Lib.IsBuilderF _ _ _ _ (_ ++ [.int .u8 (((UInt8.ofNat (16 * h + l)) : UInt8).toNat : Int)]) w1
                  rw [show (((UInt8.ofNat (16 * h + l)) : UInt8).toNat : Int) = (16 * (h : Int) + (l : Int)) by rw [UInt8.toNat_ofNat']; omega]
                  exact hz
                clear HR HR1 HR3
                go_wp2_with (go_at_call 69; refine (HH.out _ (by omega) (by omega) _).mono ?_; rintro e w1 ⟨rfl, rfl⟩)
                refine wp_region_held_drew (S := (fun _ => True)) (by kernel_rfl) ?_ (fun hHeld => ?_)
                · exact trivial
                refine wpAnyH_take (i := 0) (v := ?v1) Held.op0 (by kernel_rfl) (by kernel_rfl) (by kernel_rfl) (fun _ _ _ h => h) (Or.inl ⟨by rfl, ?hy1⟩) (by assumption) ?rest1
                case hy1 => (intro wq hSq; (try dsimp only at hSq); first | (go_simp; done) | (go_simp; with_reducible rfl))
                try simp only [Act.put, List.setIfInBounds_toArray, List.set_cons_zero, List.set_cons_succ]
                refine wpAnyH_take (i := 1) (v := ?v2) Held.op1 (by kernel_rfl) (by kernel_rfl) (by kernel_rfl) (fun _ _ _ h => h) (Or.inl ⟨by rfl, ?hy2⟩) (by assumption) ?rest2
                case hy2 => (intro wq hSq; (try dsimp only at hSq); first | (go_simp; done) | (go_simp; with_reducible rfl))
                try simp only [Act.put, List.setIfInBounds_toArray, List.set_cons_zero, List.set_cons_succ]
                refine wpAnyH_take (i := 2) (v := ?v3) Held.op2 (by kernel_rfl) (by kernel_rfl) (by kernel_rfl) (fun _ _ _ h => h) (Or.inl ⟨by rfl, ?hy3⟩) (by assumption) ?rest3
                case hy3 => (intro wq hSq; (try dsimp only at hSq); first | (go_simp; done) | (go_simp; with_reducible rfl))
                try simp only [Act.put, List.setIfInBounds_toArray, List.set_cons_zero, List.set_cons_succ]
                refine wpAnyH_take (i := 3) (v := ?v4) Held.op3 (by kernel_rfl) (by kernel_rfl) (by kernel_rfl) (fun _ _ _ h => h) (Or.inl ⟨by rfl, ?hy4⟩) (by assumption) ?rest4
                case hy4 => (intro wq hSq; (try dsimp only at hSq); first | (go_simp; done) | (go_simp; with_reducible rfl))
                try simp only [Act.put, List.setIfInBounds_toArray, List.set_cons_zero, List.set_cons_succ]
                refine wpAnyH_take (i := 6) (v := ?v5) Held.op6 (by kernel_rfl) (by kernel_rfl) (by kernel_rfl) (fun _ _ _ h => h) (Or.inl ⟨by rfl, ?hy5⟩) (by assumption) ?rest5
                case hy5 => (intro wq hSq; (try dsimp only at hSq); first | (go_simp; done) | (go_simp; with_reducible rfl))
                try simp only [Act.put, List.setIfInBounds_toArray, List.set_cons_zero, List.set_cons_succ]
                refine wpAnyH_take (i := 7) (v := ?v6) Held.op7 (by kernel_rfl) (by kernel_rfl) (by kernel_rfl) (fun _ _ _ h => h) (Or.inl ⟨by rfl, ?hy6⟩) (by assumption) ?rest6
                case hy6 => (intro wq hSq; (try dsimp only at hSq); first | (go_simp; done) | (go_simp; with_reducible rfl))
                try simp only [Act.put, List.setIfInBounds_toArray, List.set_cons_zero, List.set_cons_succ]
                refine wpAnyH_take (i := 8) (v := ?v7) Held.op8 (by kernel_rfl) (by kernel_rfl) (by kernel_rfl) (fun _ _ _ h => h) (Or.inl ⟨by rfl, ?hy7⟩) (by assumption) ?rest7
                case hy7 => (intro wq hSq; (try dsimp only at hSq); first | (go_simp; done) | (go_simp; with_reducible rfl))
                try simp only [Act.put, List.setIfInBounds_toArray, List.set_cons_zero, List.set_cons_succ]
                refine wpAnyH_take (i := 9) (v := ?v8) Held.op9 (by kernel_rfl) (by kernel_rfl) (by kernel_rfl) (fun _ _ _ h => h) (Or.inl ⟨by rfl, ?hy8⟩) (by assumption) ?rest8
                case hy8 => (intro wq hSq; (try dsimp only at hSq); first | (go_simp; done) | (go_simp; with_reducible rfl))
                try simp only [Act.put, List.setIfInBounds_toArray, List.set_cons_zero, List.set_cons_succ]
                refine wpAnyH_ready (rs := [4]) (by kernel_rfl) (by simp) ?_
                refine AllReadyH.cons Held.op4 (fun K hK => ?_) AllReadyH.nil
                go_simp
                go_at_call 69; refine (HH.out _ (by omega) (by omega) _).mono ?_; rintro e w1 ⟨rfl, rfl⟩
                try (go_wp2_with fail)
                refine hK.out _ _ ?_ (fun hHeld => ?_)
                · exact trivial
                clear hK K
                try simp only [Act.put, List.setIfInBounds_toArray, List.set_cons_zero, List.set_cons_succ]
                refine wpAnyH_take (i := 5) (v := ?v10) Held.op5 (by kernel_rfl) (by kernel_rfl) (by kernel_rfl) (fun _ _ _ h => h) (Or.inl ⟨by rfl, ?hy10⟩) (by assumption) ?rest10
                case hy10 => (intro wq hSq; (try dsimp only at hSq); first | (go_simp; done) | (go_simp; with_reducible rfl))
                try simp only [Act.put, List.setIfInBounds_toArray, List.set_cons_zero, List.set_cons_succ]
                refine wpAnyH_ready (rs := [10]) (by kernel_rfl) (by simp) ?_
                refine AllReadyH.cons Held.op10 (fun K hK => ?_) AllReadyH.nil
                go_simp
                go_at_call 69; refine (HH.out _ (by omega) (by omega) _).mono ?_; rintro e w1 ⟨rfl, rfl⟩
                try (go_wp2_with fail)
                refine hK.out _ _ ?_ (fun hHeld => ?_)
                · exact trivial
                clear hK K
                try simp only [Act.put, List.setIfInBounds_toArray, List.set_cons_zero, List.set_cons_succ]
                refine wpAnyH_take (i := 11) (v := ?v12) Held.op11 (by kernel_rfl) (by kernel_rfl) (by kernel_rfl) (fun _ _ _ h => h) (Or.inl ⟨by rfl, ?hy12⟩) (by assumption) ?rest12
                case hy12 => (intro wq hSq; (try dsimp only at hSq); first | (go_simp; done) | (go_simp; with_reducible rfl))
                try simp only [Act.put, List.setIfInBounds_toArray, List.set_cons_zero, List.set_cons_succ]
                refine wpAnyH_take (i := 12) (v := ?v13) Held.op12 (by kernel_rfl) (by kernel_rfl) (by kernel_rfl) (fun _ _ _ h => h) (Or.inl ⟨by rfl, ?hy13⟩) (by assumption) ?rest13
                case hy13 => (intro wq hSq; (try dsimp only at hSq); first | (go_simp; done) | (go_simp; with_reducible rfl))
                try simp only [Act.put, List.setIfInBounds_toArray, List.set_cons_zero, List.set_cons_succ]
                refine wpAnyH_ready (rs := [13]) (by kernel_rfl) (by simp) ?_
                refine AllReadyH.cons Held.op13 (fun K hK => ?_) AllReadyH.nil
                go_simp
                go_at_call 40; refine (HW.out _ _ _ _ HID.out HC1.out HBD.out.size).mono ?_; rintro e w1 ⟨rfl, hi1, hb1, -⟩; have HB1 := Lib.hid (HBD.out.trans hb1); clear hb1
                try (go_wp2_with fail)
                refine hK.out _ _ ?_ (fun hHeld => ?_)
                · exact trivial
                clear hK K
                try simp only [Act.put, List.setIfInBounds_toArray, List.set_cons_zero, List.set_cons_succ]
                refine wpAnyH_done (by kernel_rfl) ?_ _
                go_wp2_with fail
                go_roundw
                case rel => exact ⟨j + 3, _, by omega, by go_num, HN.out _ hi1, HR2, HL2, HB1⟩
                case measure => simp <;> omega
          · have h2' : ¬ (j : Int) + 2 < (s.size : Int) := by omega
            have hw2 : IntKind.i64.wrap ((j : Int) + 2) = (j : Int) + 2 := IntWalk.i64_in _ (by omega)
            have hno := rest_no s j hlt hxx (.inr (by unfold hxAt; rw [dif_neg (by omega)]; omega))
            have HR2 : Hid ((acc ++ [s[j]]) ++ rest s (j + 1) = rest s 0) := by
              show _ = _
              rw [← HR.out, hno]
              simp
            have HL2 : Hid ((acc ++ [s[j]]).length ≤ j + 1) := by
              show _ ≤ _
              have := HL.out
              rw [List.length_append, List.length_singleton]
              omega
            have HN : Hid (∀ w1, Lib.IsBuilderF 73 5 w.heap.size w.heap.size (Lib.byteCells acc ++ [.int .u8 37]) w1 → IsB w.heap.size (acc ++ [s[j]]) w1) := by
              intro w1 hz
              unfold IsB
              rw [Lib.byteCells_append]
              show Lib.IsBuilderF _ _ _ _ (_ ++ [.int .u8 ((s[j] : UInt8).toNat : Int)]) w1
              rw [show ((s[j] : UInt8).toNat : Int) = 37 by exact hxx]
              exact hz
            clear HR hno
            go_wp2_with (go_at_call 40; refine (HW.out _ _ _ _ HI.out HC1.out HB.out.size).mono ?_; rintro e w1 ⟨rfl, hi1, hb1, -⟩; have HB1 := Lib.hid (HB.out.trans hb1); clear hb1)
            go_roundw
            case rel => exact ⟨j + 1, _, by omega, by go_num, HN.out _ hi1, HR2, HL2, HB1⟩
            case measure => simp <;> omega
        · have e37 : (x == 37) = false := by simpa using h37
          have hno := rest_other s j hlt (by rw [hxx]; exact h43) (by rw [hxx]; exact h37)
          have HR2 : Hid ((acc ++ [s[j]]) ++ rest s (j + 1) = rest s 0) := by
            show _ = _
            rw [← HR.out, hno]
            simp
          have HL2 : Hid ((acc ++ [s[j]]).length ≤ j + 1) := by
            show _ ≤ _
            have := HL.out
            rw [List.length_append, List.length_singleton]
            omega
          have HN : Hid (∀ w1, Lib.IsBuilderF 73 5 w.heap.size w.heap.size (Lib.byteCells acc ++ [.int .u8 x]) w1 → IsB w.heap.size (acc ++ [s[j]]) w1) := by
            intro w1 hz
            unfold IsB
            rw [Lib.byteCells_append]
            show Lib.IsBuilderF _ _ _ _ (_ ++ [.int .u8 ((s[j] : UInt8).toNat : Int)]) w1
            rw [show ((s[j] : UInt8).toNat : Int) = x by exact hxx]
            exact hz
          clear HR hno
          go_wp2_with (go_at_call 40; refine (HW.out _ _ _ _ HI.out HC1.out HB.out.size).mono ?_; rintro e w1 ⟨rfl, hi1, hb1, -⟩; have HB1 := Lib.hid (HB.out.trans hb1); clear hb1)
          go_roundw
          case rel => exact ⟨j + 1, _, by omega, by go_num, HN.out _ hi1, HR2, HL2, HB1⟩
          case measure => simp <;> omega
    · obtain rfl : j = s.size := by omega
      have hall : acc = rest s 0 := by rw [← HR.out, rest_end, List.append_nil]
      rw [hall] at HI
      clear hall HR
      go_wp2_with (go_at_call 42; refine (HG.out _ _ _ HI.out HB.out.size).mono ?_; rintro e w1 ⟨rfl, -, hb1, -⟩; have HB1 := Lib.hid (HB.out.trans hb1); clear hb1)
      go_ret
      exact ⟨rfl, HB1.out⟩
end Url
end Go.Proofs.YtgpemnmopogppaaGreatDoor
