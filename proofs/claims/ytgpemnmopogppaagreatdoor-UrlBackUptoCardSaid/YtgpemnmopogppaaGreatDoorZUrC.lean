/- url.Enc: the walk. -/
import Derived.Test.YtgpemnmopogppaaGreatDoorZUrAQ
import Derived.Still
import Derived.StillTactics
import Derived.StillTail
import Derived.BigQuiet
import Derived.Laws.DeepStrings4
namespace Go.Proofs.YtgpemnmopogppaaGreatDoor
open Go Go.RowKit
namespace Url
theorem encL_snoc (l : List UInt8) (c : UInt8) : encL (l ++ [c]) = encL l ++ encC c := by
  induction l with
  | nil => simp [encL]
  | cons a l ih => simp [encL, ih, List.append_assoc]
theorem encL_take (s : ByteArray) (j : Nat) (h : j < s.size) : encL (s.data.toList.take (j + 1)) = encL (s.data.toList.take j) ++ encC s[j] := by
  have hj : j < s.data.toList.length := by simpa using h
  rw [List.take_succ_eq_append_getElem hj, encL_snoc]
  rfl
theorem encC_plain {c : UInt8} (h : plainI (c.toNat : Int) = true) : encC c = [c] := by unfold encC; rw [plain_eq, h]; rfl
theorem encC_blank {c : UInt8} (h : c.toNat = 32) : encC c = [43] := by
  obtain rfl : c = 32 := by rw [← UInt8.toNat_inj]; exact h
  decide
theorem encC_other {c : UInt8} (h : plainI (c.toNat : Int) = false) (h2 : ¬ c.toNat = 32) : encC c = [37, digit (c.toNat / 16), digit (c.toNat % 16)] := by
  unfold encC
  rw [plain_eq, h]
  have : (c == 32) = false := by
    simp only [beq_eq_false_iff_ne, ne_eq]
    intro e
    subst e
    exact h2 rfl
  rw [this]
  rfl
theorem region_tail {P : Program} {id : Nat} {Q : Exit → Act → World → Prop} {a : Act} {w : World} {l : List Oper} (n : Nat) (hm : P.follows .mixedOrders = true) (hB : Region.lexTailB .any l.toArray n = true)
    (h : wpStill P l.toArray w.drew (fun a' => wpList P l.toArray Q (l.drop n) a' w.drew) (l.take n) a) : (Code.region id l.toArray true).wp P Q a w := wp_region_still_tail n hm hB h
abbrev IsB (b : Nat) (l : List UInt8) (w : World) : Prop := Lib.IsBuilderF 73 5 b b (Lib.byteCells l) w
theorem isB_new (w : World) : IsB w.heap.size [] (w.alloc (.cells #[.pointer none, .slice none 0 0] 73)) :=
  .inl ⟨Nat.le_refl _, .slice none 0 0, heap_alloc_new w _, World.ownsRowF_nil _ _ _ _, by simp [Value.ownBlock]⟩
theorem low_fin : ∀ n : Fin 256, bits BinOp.and .u8 (n.val : Int) 15 = ((n.val % 16 : Nat) : Int) := by decide +kernel
theorem low (n : Nat) (h : n < 256) : bits BinOp.and .u8 (n : Int) 15 = ((n % 16 : Nat) : Int) := low_fin ⟨n, h⟩
theorem nib_fin : ∀ n : Fin 16, ((⟨#[48, 49, 50, 51, 52, 53, 54, 55, 56, 57, 65, 66, 67, 68, 69, 70]⟩ : ByteArray).extract n.val (n.val + 1)).data.toList = [digit n.val] := by decide +kernel
theorem nib (n : Nat) (h : n < 16) : (⟨#[48, 49, 50, 51, 52, 53, 54, 55, 56, 57, 65, 66, 67, 68, 69, 70]⟩ : ByteArray).extract n (n + 1) = ⟨#[digit n]⟩ := by
  have := nib_fin ⟨n, h⟩
  simp only at this
  apply ByteArray.ext
  rw [← Array.toList_inj, this]
set_option maxRecDepth 100000 in
set_option maxHeartbeats 4000000 in
theorem enc_any (s : ByteArray) (hs : s.size ≤ 16777216) (w : World) : Calls Tryz.prog 18 #[.string s] w fun e w' => e = .returned (.string ⟨(encL s.data.toList).toArray⟩) ∧ Below w.heap.size w w' := by
  have HI0 := Lib.hid (isB_new w)
  have HB0 := Lib.hid ((Below.refl w.heap.size w).alloc (Nat.le_refl _) (.cells #[.pointer none, .slice none 0 0] 73))
  have HW := Lib.hid (fun b l c w1 (h : IsB b l w1) h2 h3 => Bd.byte b b (Lib.byteCells l) c w1 h h2 h3)
  have HS := Lib.hid (fun b l t w1 (h : IsB b l w1) h2 h3 => Bd.text b b (Lib.byteCells l) t w1 h h2 h3)
  have HG := Lib.hid (fun b l w1 (h : IsB b l w1) h3 => Tryz.Builder_String_any_k b b l w1 h h3)
  go_enter Tryz.func18, Tryz.ntmps18
  go_wp2_with fail
  go_loopw [8] (fun xi wx => ∃ (j : Nat), j ≤ s.size ∧ xi = .int .i64 j ∧ Hid (IsB w.heap.size (encL (s.data.toList.take j)) wx) ∧ Hid (Below w.heap.size w wx)) (fun xi _ => s.size - (match xi with | .int _ q => q | _ => 0).toNat)
  case atStart => exact ⟨0, Nat.zero_le _, rfl, HI0, HB0⟩
  case round =>
    obtain ⟨j, hj, rfl, HI, HB⟩ := hrel
    clear HB0 HI0
    by_cases hlt : j < s.size
    · have hlt' : (j : Int) < (s.size : Int) := by omega
      have hc := s[j].toNat_lt
      have hcl : (Lib.byteCells (encL (s.data.toList.take j))).length + 3 ≤ 140737488355328 := by
        rw [Lib.byteCells_length]
        have h1 := encL_len (s.data.toList.take j)
        have h2 : (s.data.toList.take j).length ≤ j := by rw [List.length_take]; exact Nat.min_le_left _ _
        omega
      have HC1 := Lib.hid (show (Lib.byteCells (encL (s.data.toList.take j))).length + 1 ≤ 140737488355328 by omega)
      have HC3 := Lib.hid hcl
      have HE := Lib.hid (encL_take s j hlt)
      have hx0 : (0 : Int) ≤ (s[j].toNat : Int) := by omega
      have hx1 : (s[j].toNat : Int) < 256 := by omega
      obtain ⟨x, hxx⟩ : ∃ x : Int, (s[j].toNat : Int) = x := ⟨_, rfl⟩
      rw [hxx] at hx0 hx1
      have hpl := @encC_plain s[j]
      have hbl := @encC_blank s[j]
      have hot := @encC_other s[j]
      rw [hxx] at hpl hot
      have HOT := Lib.hid hot
      have HBL := Lib.hid hbl
      have HPL := Lib.hid hpl
      clear hcl hpl hot hbl
      by_cases hs65 : x < 65
      · by_cases hs48 : x < 48
        · by_cases hq45 : x = 45
          · have g97 : decide ((97 : Int) ≤ x) = false := by simp; omega
            have l122 : decide (x ≤ 122) = true := by simp; omega
            have g65 : decide ((65 : Int) ≤ x) = false := by simp; omega
            have l90 : decide (x ≤ 90) = true := by simp; omega
            have g48 : decide ((48 : Int) ≤ x) = false := by simp; omega
            have l57 : decide (x ≤ 57) = true := by simp; omega
            have e45 : (x == 45) = true := by simp; omega
            have e95 : (x == 95) = false := by simp; omega
            have e46 : (x == 46) = false := by simp; omega
            have e32 : (x == 32) = false := by simp; omega
            have hp : plainI x = true := by unfold plainI; simp only [*]; rfl
            have HN : Hid (∀ w1, Lib.IsBuilderF 73 5 w.heap.size w.heap.size (Lib.byteCells (encL (s.data.toList.take j)) ++ [.int .u8 45]) w1 → IsB w.heap.size (encL (s.data.toList.take (j + 1))) w1) := by
              intro w1 h
              unfold IsB
              have ex : (s[j].toNat : Int) = 45 := by omega
              rw [HE.out, HPL.out hp, Lib.byteCells_append]
              show Lib.IsBuilderF _ _ _ _ (_ ++ [.int .u8 (s[j].toNat : Int)]) w1
              rw [ex]
              exact h
            clear HOT HBL HPL HE
            go_wp2_with (go_at_call 40; refine (HW.out _ _ _ _ HI.out HC1.out HB.out.size).mono ?_; rintro e w1 ⟨rfl, hi1, hb1, -⟩; have HB1 := Lib.hid (HB.out.trans hb1); clear hb1)
            go_roundw
            case rel => exact ⟨j + 1, by omega, by go_num, HN.out _ hi1, HB1⟩
            case measure => simp <;> omega
          · by_cases hq46 : x = 46
            · have g97 : decide ((97 : Int) ≤ x) = false := by simp; omega
              have l122 : decide (x ≤ 122) = true := by simp; omega
              have g65 : decide ((65 : Int) ≤ x) = false := by simp; omega
              have l90 : decide (x ≤ 90) = true := by simp; omega
              have g48 : decide ((48 : Int) ≤ x) = false := by simp; omega
              have l57 : decide (x ≤ 57) = true := by simp; omega
              have e45 : (x == 45) = false := by simp; omega
              have e95 : (x == 95) = false := by simp; omega
              have e46 : (x == 46) = true := by simp; omega
              have e32 : (x == 32) = false := by simp; omega
              have hp : plainI x = true := by unfold plainI; simp only [*]; rfl
              have HN : Hid (∀ w1, Lib.IsBuilderF 73 5 w.heap.size w.heap.size (Lib.byteCells (encL (s.data.toList.take j)) ++ [.int .u8 46]) w1 → IsB w.heap.size (encL (s.data.toList.take (j + 1))) w1) := by
                intro w1 h
                unfold IsB
                have ex : (s[j].toNat : Int) = 46 := by omega
                rw [HE.out, HPL.out hp, Lib.byteCells_append]
                show Lib.IsBuilderF _ _ _ _ (_ ++ [.int .u8 (s[j].toNat : Int)]) w1
                rw [ex]
                exact h
              clear HOT HBL HPL HE
              go_wp2_with (go_at_call 40; refine (HW.out _ _ _ _ HI.out HC1.out HB.out.size).mono ?_; rintro e w1 ⟨rfl, hi1, hb1, -⟩; have HB1 := Lib.hid (HB.out.trans hb1); clear hb1)
              go_roundw
              case rel => exact ⟨j + 1, by omega, by go_num, HN.out _ hi1, HB1⟩
              case measure => simp <;> omega
            · by_cases hq32 : x = 32
              · have g97 : decide ((97 : Int) ≤ x) = false := by simp; omega
                have l122 : decide (x ≤ 122) = true := by simp; omega
                have g65 : decide ((65 : Int) ≤ x) = false := by simp; omega
                have l90 : decide (x ≤ 90) = true := by simp; omega
                have g48 : decide ((48 : Int) ≤ x) = false := by simp; omega
                have l57 : decide (x ≤ 57) = true := by simp; omega
                have e45 : (x == 45) = false := by simp; omega
                have e95 : (x == 95) = false := by simp; omega
                have e46 : (x == 46) = false := by simp; omega
                have e32 : (x == 32) = true := by simp; omega
                have HN : Hid (∀ w1, Lib.IsBuilderF 73 5 w.heap.size w.heap.size (Lib.byteCells (encL (s.data.toList.take j)) ++ [.int .u8 43]) w1 → IsB w.heap.size (encL (s.data.toList.take (j + 1))) w1) := by
                  intro w1 h
                  unfold IsB
                  rw [HE.out, HBL.out (by omega), Lib.byteCells_append]
                  exact h
                clear HOT HBL HPL HE
                go_wp2_with (go_at_call 40; refine (HW.out _ _ _ _ HI.out HC1.out HB.out.size).mono ?_; rintro e w1 ⟨rfl, hi1, hb1, -⟩; have HB1 := Lib.hid (HB.out.trans hb1); clear hb1)
                go_roundw
                case rel => exact ⟨j + 1, by omega, by go_num, HN.out _ hi1, HB1⟩
                case measure => simp <;> omega
              · have g97 : decide ((97 : Int) ≤ x) = false := by simp; omega
                have l122 : decide (x ≤ 122) = true := by simp; omega
                have g65 : decide ((65 : Int) ≤ x) = false := by simp; omega
                have l90 : decide (x ≤ 90) = true := by simp; omega
                have g48 : decide ((48 : Int) ≤ x) = false := by simp; omega
                have l57 : decide (x ≤ 57) = true := by simp; omega
                have e45 : (x == 45) = false := by simp; omega
                have e95 : (x == 95) = false := by simp; omega
                have e46 : (x == 46) = false := by simp; omega
                have e32 : (x == 32) = false := by simp; omega
                have hp : plainI x = false := by unfold plainI; simp only [*]; rfl
                obtain ⟨H, hHn, hH, hH16⟩ : ∃ H : Nat, s[j].toNat / 16 = H ∧ x / 16 = (H : Int) ∧ H < 16 := ⟨_, rfl, by omega, by omega⟩
                obtain ⟨L, hLn, hL, hL16⟩ : ∃ L : Nat, s[j].toNat % 16 = L ∧ bits BinOp.and .u8 x 15 = (L : Int) ∧ L < 16 := ⟨_, rfl, by rw [← hxx]; exact low _ hc, by omega⟩
                have hw1 : IntKind.u8.wrap ((H : Int) + 1) = (H : Int) + 1 := IntWalk.u8_in _ (by omega)
                have hb0 : (0 : Int) ≤ (H : Int) := by omega
                have hb1 : (H : Int) ≤ (H : Int) + 1 := by omega
                have hb2 : (H : Int) + 1 ≤ 16 := by omega
                have hxt := nib H hH16
                have hw2 : IntKind.u8.wrap ((L : Int) + 1) = (L : Int) + 1 := IntWalk.u8_in _ (by omega)
                have hc0 : (0 : Int) ≤ (L : Int) := by omega
                have hc1 : (L : Int) ≤ (L : Int) + 1 := by omega
                have hc2 : (L : Int) + 1 ≤ 16 := by omega
                have hxl := nib L hL16
                have HN : Hid (∀ w1, Lib.IsBuilderF 73 5 w.heap.size w.heap.size (Lib.byteCells (encL (s.data.toList.take j)) ++ Lib.strCells ((⟨#[37]⟩ : ByteArray) ++ ⟨#[digit H]⟩ ++ ⟨#[digit L]⟩)) w1 → IsB w.heap.size (encL (s.data.toList.take (j + 1))) w1) := by
                  intro w1 h
                  unfold IsB
                  rw [HE.out, HOT.out hp (by omega), Lib.byteCells_append, hHn, hLn]
                  exact h
                have HC4 : Hid ((Lib.byteCells (encL (s.data.toList.take j))).length + ((⟨#[37]⟩ : ByteArray) ++ ⟨#[digit H]⟩ ++ ⟨#[digit L]⟩).size ≤ 140737488355328) := HC3.out
                have HID := Lib.hid (show IsB w.heap.size (encL (s.data.toList.take j)) wr.drew from HI.out)
                have HBD := Lib.hid (show Below w.heap.size w wr.drew from ⟨HB.out.os, HB.out.tape, HB.out.output, HB.out.size, HB.out.block⟩)
                clear HOT HBL HPL HE hHn hLn
                go_wp2_with fail
                refine region_tail 14 (by kernel_rfl) (by kernel_rfl) ?_
                simp only [List.take_succ_cons, List.take_zero, List.drop_succ_cons, List.drop_zero]
                repeat still_step
                refine wpStill_nil ?_
                go_wp2_with (go_at_call 41; refine (HS.out _ _ _ _ HID.out HC4.out HBD.out.size).mono ?_; rintro e w1 ⟨rfl, hi1, hb1, -⟩; have HB1 := Lib.hid (HBD.out.trans hb1); clear hb1)
                go_roundw
                case rel => exact ⟨j + 1, by omega, by go_num, HN.out _ hi1, HB1⟩
                case measure => simp <;> omega
        · by_cases hs58 : x < 58
          · have g97 : decide ((97 : Int) ≤ x) = false := by simp; omega
            have l122 : decide (x ≤ 122) = true := by simp; omega
            have g65 : decide ((65 : Int) ≤ x) = false := by simp; omega
            have l90 : decide (x ≤ 90) = true := by simp; omega
            have g48 : decide ((48 : Int) ≤ x) = true := by simp; omega
            have l57 : decide (x ≤ 57) = true := by simp; omega
            have e45 : (x == 45) = false := by simp; omega
            have e95 : (x == 95) = false := by simp; omega
            have e46 : (x == 46) = false := by simp; omega
            have e32 : (x == 32) = false := by simp; omega
            have hp : plainI x = true := by unfold plainI; simp only [*]; rfl
            have HN : Hid (∀ w1, Lib.IsBuilderF 73 5 w.heap.size w.heap.size (Lib.byteCells (encL (s.data.toList.take j)) ++ [.int .u8 x]) w1 → IsB w.heap.size (encL (s.data.toList.take (j + 1))) w1) := by
              intro w1 h
              unfold IsB
              have ex : (s[j].toNat : Int) = x := by omega
              rw [HE.out, HPL.out hp, Lib.byteCells_append]
              show Lib.IsBuilderF _ _ _ _ (_ ++ [.int .u8 (s[j].toNat : Int)]) w1
              rw [ex]
              exact h
            clear HOT HBL HPL HE
            go_wp2_with (go_at_call 40; refine (HW.out _ _ _ _ HI.out HC1.out HB.out.size).mono ?_; rintro e w1 ⟨rfl, hi1, hb1, -⟩; have HB1 := Lib.hid (HB.out.trans hb1); clear hb1)
            go_roundw
            case rel => exact ⟨j + 1, by omega, by go_num, HN.out _ hi1, HB1⟩
            case measure => simp <;> omega
          · have g97 : decide ((97 : Int) ≤ x) = false := by simp; omega
            have l122 : decide (x ≤ 122) = true := by simp; omega
            have g65 : decide ((65 : Int) ≤ x) = false := by simp; omega
            have l90 : decide (x ≤ 90) = true := by simp; omega
            have g48 : decide ((48 : Int) ≤ x) = true := by simp; omega
            have l57 : decide (x ≤ 57) = false := by simp; omega
            have e45 : (x == 45) = false := by simp; omega
            have e95 : (x == 95) = false := by simp; omega
            have e46 : (x == 46) = false := by simp; omega
            have e32 : (x == 32) = false := by simp; omega
            have hp : plainI x = false := by unfold plainI; simp only [*]; rfl
            obtain ⟨H, hHn, hH, hH16⟩ : ∃ H : Nat, s[j].toNat / 16 = H ∧ x / 16 = (H : Int) ∧ H < 16 := ⟨_, rfl, by omega, by omega⟩
            obtain ⟨L, hLn, hL, hL16⟩ : ∃ L : Nat, s[j].toNat % 16 = L ∧ bits BinOp.and .u8 x 15 = (L : Int) ∧ L < 16 := ⟨_, rfl, by rw [← hxx]; exact low _ hc, by omega⟩
            have hw1 : IntKind.u8.wrap ((H : Int) + 1) = (H : Int) + 1 := IntWalk.u8_in _ (by omega)
            have hb0 : (0 : Int) ≤ (H : Int) := by omega
            have hb1 : (H : Int) ≤ (H : Int) + 1 := by omega
            have hb2 : (H : Int) + 1 ≤ 16 := by omega
            have hxt := nib H hH16
            have hw2 : IntKind.u8.wrap ((L : Int) + 1) = (L : Int) + 1 := IntWalk.u8_in _ (by omega)
            have hc0 : (0 : Int) ≤ (L : Int) := by omega
            have hc1 : (L : Int) ≤ (L : Int) + 1 := by omega
            have hc2 : (L : Int) + 1 ≤ 16 := by omega
            have hxl := nib L hL16
            have HN : Hid (∀ w1, Lib.IsBuilderF 73 5 w.heap.size w.heap.size (Lib.byteCells (encL (s.data.toList.take j)) ++ Lib.strCells ((⟨#[37]⟩ : ByteArray) ++ ⟨#[digit H]⟩ ++ ⟨#[digit L]⟩)) w1 → IsB w.heap.size (encL (s.data.toList.take (j + 1))) w1) := by
              intro w1 h
              unfold IsB
              rw [HE.out, HOT.out hp (by omega), Lib.byteCells_append, hHn, hLn]
              exact h
            have HC4 : Hid ((Lib.byteCells (encL (s.data.toList.take j))).length + ((⟨#[37]⟩ : ByteArray) ++ ⟨#[digit H]⟩ ++ ⟨#[digit L]⟩).size ≤ 140737488355328) := HC3.out
            have HID := Lib.hid (show IsB w.heap.size (encL (s.data.toList.take j)) wr.drew from HI.out)
            have HBD := Lib.hid (show Below w.heap.size w wr.drew from ⟨HB.out.os, HB.out.tape, HB.out.output, HB.out.size, HB.out.block⟩)
            clear HOT HBL HPL HE hHn hLn
            go_wp2_with fail
            refine region_tail 14 (by kernel_rfl) (by kernel_rfl) ?_
            simp only [List.take_succ_cons, List.take_zero, List.drop_succ_cons, List.drop_zero]
            repeat still_step
            refine wpStill_nil ?_
            go_wp2_with (go_at_call 41; refine (HS.out _ _ _ _ HID.out HC4.out HBD.out.size).mono ?_; rintro e w1 ⟨rfl, hi1, hb1, -⟩; have HB1 := Lib.hid (HBD.out.trans hb1); clear hb1)
            go_roundw
            case rel => exact ⟨j + 1, by omega, by go_num, HN.out _ hi1, HB1⟩
            case measure => simp <;> omega
      · by_cases hs97 : x < 97
        · by_cases hs91 : x < 91
          · have g97 : decide ((97 : Int) ≤ x) = false := by simp; omega
            have l122 : decide (x ≤ 122) = true := by simp; omega
            have g65 : decide ((65 : Int) ≤ x) = true := by simp; omega
            have l90 : decide (x ≤ 90) = true := by simp; omega
            have g48 : decide ((48 : Int) ≤ x) = true := by simp; omega
            have l57 : decide (x ≤ 57) = false := by simp; omega
            have e45 : (x == 45) = false := by simp; omega
            have e95 : (x == 95) = false := by simp; omega
            have e46 : (x == 46) = false := by simp; omega
            have e32 : (x == 32) = false := by simp; omega
            have hp : plainI x = true := by unfold plainI; simp only [*]; rfl
            have HN : Hid (∀ w1, Lib.IsBuilderF 73 5 w.heap.size w.heap.size (Lib.byteCells (encL (s.data.toList.take j)) ++ [.int .u8 x]) w1 → IsB w.heap.size (encL (s.data.toList.take (j + 1))) w1) := by
              intro w1 h
              unfold IsB
              have ex : (s[j].toNat : Int) = x := by omega
              rw [HE.out, HPL.out hp, Lib.byteCells_append]
              show Lib.IsBuilderF _ _ _ _ (_ ++ [.int .u8 (s[j].toNat : Int)]) w1
              rw [ex]
              exact h
            clear HOT HBL HPL HE
            go_wp2_with (go_at_call 40; refine (HW.out _ _ _ _ HI.out HC1.out HB.out.size).mono ?_; rintro e w1 ⟨rfl, hi1, hb1, -⟩; have HB1 := Lib.hid (HB.out.trans hb1); clear hb1)
            go_roundw
            case rel => exact ⟨j + 1, by omega, by go_num, HN.out _ hi1, HB1⟩
            case measure => simp <;> omega
          · by_cases hq95 : x = 95
            · have g97 : decide ((97 : Int) ≤ x) = false := by simp; omega
              have l122 : decide (x ≤ 122) = true := by simp; omega
              have g65 : decide ((65 : Int) ≤ x) = true := by simp; omega
              have l90 : decide (x ≤ 90) = false := by simp; omega
              have g48 : decide ((48 : Int) ≤ x) = true := by simp; omega
              have l57 : decide (x ≤ 57) = false := by simp; omega
              have e45 : (x == 45) = false := by simp; omega
              have e95 : (x == 95) = true := by simp; omega
              have e46 : (x == 46) = false := by simp; omega
              have e32 : (x == 32) = false := by simp; omega
              have hp : plainI x = true := by unfold plainI; simp only [*]; rfl
              have HN : Hid (∀ w1, Lib.IsBuilderF 73 5 w.heap.size w.heap.size (Lib.byteCells (encL (s.data.toList.take j)) ++ [.int .u8 95]) w1 → IsB w.heap.size (encL (s.data.toList.take (j + 1))) w1) := by
                intro w1 h
                unfold IsB
                have ex : (s[j].toNat : Int) = 95 := by omega
                rw [HE.out, HPL.out hp, Lib.byteCells_append]
                show Lib.IsBuilderF _ _ _ _ (_ ++ [.int .u8 (s[j].toNat : Int)]) w1
                rw [ex]
                exact h
              clear HOT HBL HPL HE
              go_wp2_with (go_at_call 40; refine (HW.out _ _ _ _ HI.out HC1.out HB.out.size).mono ?_; rintro e w1 ⟨rfl, hi1, hb1, -⟩; have HB1 := Lib.hid (HB.out.trans hb1); clear hb1)
              go_roundw
              case rel => exact ⟨j + 1, by omega, by go_num, HN.out _ hi1, HB1⟩
              case measure => simp <;> omega
            · have g97 : decide ((97 : Int) ≤ x) = false := by simp; omega
              have l122 : decide (x ≤ 122) = true := by simp; omega
              have g65 : decide ((65 : Int) ≤ x) = true := by simp; omega
              have l90 : decide (x ≤ 90) = false := by simp; omega
              have g48 : decide ((48 : Int) ≤ x) = true := by simp; omega
              have l57 : decide (x ≤ 57) = false := by simp; omega
              have e45 : (x == 45) = false := by simp; omega
              have e95 : (x == 95) = false := by simp; omega
              have e46 : (x == 46) = false := by simp; omega
              have e32 : (x == 32) = false := by simp; omega
              have hp : plainI x = false := by unfold plainI; simp only [*]; rfl
              obtain ⟨H, hHn, hH, hH16⟩ : ∃ H : Nat, s[j].toNat / 16 = H ∧ x / 16 = (H : Int) ∧ H < 16 := ⟨_, rfl, by omega, by omega⟩
              obtain ⟨L, hLn, hL, hL16⟩ : ∃ L : Nat, s[j].toNat % 16 = L ∧ bits BinOp.and .u8 x 15 = (L : Int) ∧ L < 16 := ⟨_, rfl, by rw [← hxx]; exact low _ hc, by omega⟩
              have hw1 : IntKind.u8.wrap ((H : Int) + 1) = (H : Int) + 1 := IntWalk.u8_in _ (by omega)
              have hb0 : (0 : Int) ≤ (H : Int) := by omega
              have hb1 : (H : Int) ≤ (H : Int) + 1 := by omega
              have hb2 : (H : Int) + 1 ≤ 16 := by omega
              have hxt := nib H hH16
              have hw2 : IntKind.u8.wrap ((L : Int) + 1) = (L : Int) + 1 := IntWalk.u8_in _ (by omega)
              have hc0 : (0 : Int) ≤ (L : Int) := by omega
              have hc1 : (L : Int) ≤ (L : Int) + 1 := by omega
              have hc2 : (L : Int) + 1 ≤ 16 := by omega
              have hxl := nib L hL16
              have HN : Hid (∀ w1, Lib.IsBuilderF 73 5 w.heap.size w.heap.size (Lib.byteCells (encL (s.data.toList.take j)) ++ Lib.strCells ((⟨#[37]⟩ : ByteArray) ++ ⟨#[digit H]⟩ ++ ⟨#[digit L]⟩)) w1 → IsB w.heap.size (encL (s.data.toList.take (j + 1))) w1) := by
                intro w1 h
                unfold IsB
                rw [HE.out, HOT.out hp (by omega), Lib.byteCells_append, hHn, hLn]
                exact h
              have HC4 : Hid ((Lib.byteCells (encL (s.data.toList.take j))).length + ((⟨#[37]⟩ : ByteArray) ++ ⟨#[digit H]⟩ ++ ⟨#[digit L]⟩).size ≤ 140737488355328) := HC3.out
              have HID := Lib.hid (show IsB w.heap.size (encL (s.data.toList.take j)) wr.drew from HI.out)
              have HBD := Lib.hid (show Below w.heap.size w wr.drew from ⟨HB.out.os, HB.out.tape, HB.out.output, HB.out.size, HB.out.block⟩)
              clear HOT HBL HPL HE hHn hLn
              go_wp2_with fail
              refine region_tail 14 (by kernel_rfl) (by kernel_rfl) ?_
              simp only [List.take_succ_cons, List.take_zero, List.drop_succ_cons, List.drop_zero]
              repeat still_step
              refine wpStill_nil ?_
              go_wp2_with (go_at_call 41; refine (HS.out _ _ _ _ HID.out HC4.out HBD.out.size).mono ?_; rintro e w1 ⟨rfl, hi1, hb1, -⟩; have HB1 := Lib.hid (HBD.out.trans hb1); clear hb1)
              go_roundw
              case rel => exact ⟨j + 1, by omega, by go_num, HN.out _ hi1, HB1⟩
              case measure => simp <;> omega
        · by_cases hs123 : x < 123
          · have g97 : decide ((97 : Int) ≤ x) = true := by simp; omega
            have l122 : decide (x ≤ 122) = true := by simp; omega
            have g65 : decide ((65 : Int) ≤ x) = true := by simp; omega
            have l90 : decide (x ≤ 90) = false := by simp; omega
            have g48 : decide ((48 : Int) ≤ x) = true := by simp; omega
            have l57 : decide (x ≤ 57) = false := by simp; omega
            have e45 : (x == 45) = false := by simp; omega
            have e95 : (x == 95) = false := by simp; omega
            have e46 : (x == 46) = false := by simp; omega
            have e32 : (x == 32) = false := by simp; omega
            have hp : plainI x = true := by unfold plainI; simp only [*]; rfl
            have HN : Hid (∀ w1, Lib.IsBuilderF 73 5 w.heap.size w.heap.size (Lib.byteCells (encL (s.data.toList.take j)) ++ [.int .u8 x]) w1 → IsB w.heap.size (encL (s.data.toList.take (j + 1))) w1) := by
              intro w1 h
              unfold IsB
              have ex : (s[j].toNat : Int) = x := by omega
              rw [HE.out, HPL.out hp, Lib.byteCells_append]
              show Lib.IsBuilderF _ _ _ _ (_ ++ [.int .u8 (s[j].toNat : Int)]) w1
              rw [ex]
              exact h
            clear HOT HBL HPL HE
            go_wp2_with (go_at_call 40; refine (HW.out _ _ _ _ HI.out HC1.out HB.out.size).mono ?_; rintro e w1 ⟨rfl, hi1, hb1, -⟩; have HB1 := Lib.hid (HB.out.trans hb1); clear hb1)
            go_roundw
            case rel => exact ⟨j + 1, by omega, by go_num, HN.out _ hi1, HB1⟩
            case measure => simp <;> omega
          · have g97 : decide ((97 : Int) ≤ x) = true := by simp; omega
            have l122 : decide (x ≤ 122) = false := by simp; omega
            have g65 : decide ((65 : Int) ≤ x) = true := by simp; omega
            have l90 : decide (x ≤ 90) = false := by simp; omega
            have g48 : decide ((48 : Int) ≤ x) = true := by simp; omega
            have l57 : decide (x ≤ 57) = false := by simp; omega
            have e45 : (x == 45) = false := by simp; omega
            have e95 : (x == 95) = false := by simp; omega
            have e46 : (x == 46) = false := by simp; omega
            have e32 : (x == 32) = false := by simp; omega
            have hp : plainI x = false := by unfold plainI; simp only [*]; rfl
            obtain ⟨H, hHn, hH, hH16⟩ : ∃ H : Nat, s[j].toNat / 16 = H ∧ x / 16 = (H : Int) ∧ H < 16 := ⟨_, rfl, by omega, by omega⟩
            obtain ⟨L, hLn, hL, hL16⟩ : ∃ L : Nat, s[j].toNat % 16 = L ∧ bits BinOp.and .u8 x 15 = (L : Int) ∧ L < 16 := ⟨_, rfl, by rw [← hxx]; exact low _ hc, by omega⟩
            have hw1 : IntKind.u8.wrap ((H : Int) + 1) = (H : Int) + 1 := IntWalk.u8_in _ (by omega)
            have hb0 : (0 : Int) ≤ (H : Int) := by omega
            have hb1 : (H : Int) ≤ (H : Int) + 1 := by omega
            have hb2 : (H : Int) + 1 ≤ 16 := by omega
            have hxt := nib H hH16
            have hw2 : IntKind.u8.wrap ((L : Int) + 1) = (L : Int) + 1 := IntWalk.u8_in _ (by omega)
            have hc0 : (0 : Int) ≤ (L : Int) := by omega
            have hc1 : (L : Int) ≤ (L : Int) + 1 := by omega
            have hc2 : (L : Int) + 1 ≤ 16 := by omega
            have hxl := nib L hL16
            have HN : Hid (∀ w1, Lib.IsBuilderF 73 5 w.heap.size w.heap.size (Lib.byteCells (encL (s.data.toList.take j)) ++ Lib.strCells ((⟨#[37]⟩ : ByteArray) ++ ⟨#[digit H]⟩ ++ ⟨#[digit L]⟩)) w1 → IsB w.heap.size (encL (s.data.toList.take (j + 1))) w1) := by
              intro w1 h
              unfold IsB
              rw [HE.out, HOT.out hp (by omega), Lib.byteCells_append, hHn, hLn]
              exact h
            have HC4 : Hid ((Lib.byteCells (encL (s.data.toList.take j))).length + ((⟨#[37]⟩ : ByteArray) ++ ⟨#[digit H]⟩ ++ ⟨#[digit L]⟩).size ≤ 140737488355328) := HC3.out
            have HID := Lib.hid (show IsB w.heap.size (encL (s.data.toList.take j)) wr.drew from HI.out)
            have HBD := Lib.hid (show Below w.heap.size w wr.drew from ⟨HB.out.os, HB.out.tape, HB.out.output, HB.out.size, HB.out.block⟩)
            clear HOT HBL HPL HE hHn hLn
            go_wp2_with fail
            refine region_tail 14 (by kernel_rfl) (by kernel_rfl) ?_
            simp only [List.take_succ_cons, List.take_zero, List.drop_succ_cons, List.drop_zero]
            repeat still_step
            refine wpStill_nil ?_
            go_wp2_with (go_at_call 41; refine (HS.out _ _ _ _ HID.out HC4.out HBD.out.size).mono ?_; rintro e w1 ⟨rfl, hi1, hb1, -⟩; have HB1 := Lib.hid (HBD.out.trans hb1); clear hb1)
            go_roundw
            case rel => exact ⟨j + 1, by omega, by go_num, HN.out _ hi1, HB1⟩
            case measure => simp <;> omega
    · obtain rfl : j = s.size := by omega
      have hall : s.data.toList.take s.size = s.data.toList := List.take_of_length_le (by simp)
      rw [hall] at HI
      clear hall
      go_wp2_with (go_at_call 42; refine (HG.out _ _ _ HI.out HB.out.size).mono ?_; rintro e w1 ⟨rfl, -, hb1, -⟩; have HB1 := Lib.hid (HB.out.trans hb1); clear hb1)
      go_ret
      exact ⟨rfl, HB1.out⟩
end Url
end Go.Proofs.YtgpemnmopogppaaGreatDoor
