/- StrsFinds: the walk of the law. -/
import Derived.Test.YtjojfnhdegiebaaGreatDoorFnG
namespace Go.Proofs.YtjojfnhdegiebaaGreatDoor
open Go.RowKit

set_option maxRecDepth 100000 in
set_option maxHeartbeats 1000000 in
theorem sfinds_any (s t : ByteArray) (hs : s.size < 4294967281) (m : Int) (w : World) (hL : LibS m w) : Calls Tryz.prog 5 #[.string s, .string t] w fun e w' => e = .returned (.bool true) ∧ Below w.heap.size w w' := by
  have H5 := Lib.hid (fun w hL => alive_any m w hL)
  have HL := Lib.hid hL
  clear hL
  have HP := Lib.hid (fun w hL g cap hA => call_pos s t hs m w hL g cap hA)
  have HC := Lib.hid (fun w hL g cap hA => call_con s t hs m w hL g cap hA)
  by_cases h0 : 0 ≤ Lib.index s.data.toList t.data.toList
  · have hct : Lib.contains s.data.toList t.data.toList = true := decide_eq_true h0
    rw [if_pos h0, if_pos h0] at HP
    rw [hct, if_pos rfl] at HC
    obtain ⟨n, hn, hroom, hsl, hno⟩ := find_at s t h0
    rw [hn] at HP
    have hnn : ¬ ((n : Int) < 0) := by omega
    have hw1 : IntKind.i64.wrap ((n : Int) + (t.size : Int)) = (n : Int) + (t.size : Int) := IntWalk.i64_in _ (by omega)
    have hgt : ¬ ((s.size : Int) < (n : Int) + (t.size : Int)) := by omega
    have htn : ((n : Int) + (t.size : Int)).toNat = n + t.size := by omega
    have hnt : ((n : Int)).toNat = n := by omega
    clear h0 hct
    by_cases hpos : 0 < t.size
    · have hcf := hno hpos
      have htl : t.toList.isEmpty = false := by
        rw [Lib.toList_data]
        cases h : t.data.toList with
        | nil => have := Lib.size_eq t; rw [h] at this; exact absurd this (Nat.ne_of_gt hpos)
        | cons _ _ => rfl
      obtain ⟨u, hu⟩ : ∃ u, s.extract 0 (n + t.size - 1) = u := ⟨_, rfl⟩
      rw [hu] at hcf
      have hus : u.size < 4294967281 := by rw [← hu, ByteArray.size_extract]; omega
      have HU := Lib.hid (fun w hL g cap hA => call_con u t hus m w hL g cap hA)
      rw [hcf, if_neg (by decide)] at HU
      have hw2 : IntKind.i64.wrap ((n : Int) + (t.size : Int) - 1) = (n : Int) + (t.size : Int) - 1 := IntWalk.i64_in _ (by omega)
      have hmx : max ((n : Int) + (t.size : Int) - 1) 0 = (n : Int) + (t.size : Int) - 1 := by omega
      have htn2 : ((n : Int) + (t.size : Int) - 1).toNat = n + t.size - 1 := by omega
      clear hcf hno hn
      go_enter Tryz.func5, Tryz.ntmps5
      go_wp2_with fail
      refine (rtext_any s _).mono ?_
      rintro e w1 ⟨rfl, hb1⟩
      have HB1 := Lib.hid hb1
      clear hb1
      go_wp2_with fail
      refine (rtext_any t _).mono ?_
      rintro e w2 ⟨rfl, hb2⟩
      have HB2 := Lib.hid (HB1.out.trans (hb2.mono HB1.out.size))
      clear hb2 HB1
      go_wp2_with fail
      have HB3 := Lib.hid (HB2.out.alloc HB2.out.size (.cells #[.int .i64 3, .int .i64 0, .string s, .slice none 0 0, .int .i64 3, .int .i64 0, .string t, .slice none 0 0] 25))
      refine (HP.out _ (HL.out.below HB3.out) w2.heap.size 2 (args2 w2 3 0 3 0 s t)).mono ?_
      rintro e w3 ⟨rfl, hb3⟩
      have HB4 := Lib.hid (HB3.out.trans (hb3.mono HB3.out.size))
      clear hb3 HB3 HB2
      go_wp2_with fail
      have HX := Lib.hid (Blk.new w3 25 #[.int .i64 2, .int .i64 (n : Int), .string ⟨#[]⟩, .slice none 0 0])
      have HB5 := Lib.hid (HB4.out.alloc HB4.out.size (.cells #[.int .i64 2, .int .i64 (n : Int), .string ⟨#[]⟩, .slice none 0 0] 25))
      generalize w3.alloc (.cells #[.int .i64 2, .int .i64 (n : Int), .string ⟨#[]⟩, .slice none 0 0] 25) = w4 at *
      clear HB4
      refine (rtext_any s _).mono ?_
      rintro e w5 ⟨rfl, hb5⟩
      have HX5 := Lib.hid (blk_below HX.out hb5)
      have HB6 := Lib.hid (HB5.out.trans (hb5.mono HB5.out.size))
      clear hb5 HB5 HX
      go_wp2_with fail
      refine (rtext_any t _).mono ?_
      rintro e w6 ⟨rfl, hb6⟩
      have HX6 := Lib.hid (blk_below HX5.out hb6)
      have HB7 := Lib.hid (HB6.out.trans (hb6.mono HB6.out.size))
      clear hb6 HB6 HX5
      go_wp2_with fail
      have HB8 := Lib.hid (HB7.out.alloc HB7.out.size (.cells #[.int .i64 3, .int .i64 0, .string s, .slice none 0 0, .int .i64 3, .int .i64 0, .string t, .slice none 0 0] 25))
      have HX7 := Lib.hid (HX6.out.alloc (.cells #[.int .i64 3, .int .i64 0, .string s, .slice none 0 0, .int .i64 3, .int .i64 0, .string t, .slice none 0 0] 25))
      refine (HC.out _ (HL.out.below HB8.out) w6.heap.size 2 (args2 w6 3 0 3 0 s t)).mono ?_
      rintro e w7 ⟨rfl, hb7⟩
      have HB9 := Lib.hid (HB8.out.trans (hb7.mono HB8.out.size))
      have HX8 := Lib.hid (blk_below HX7.out hb7)
      have HX9 := Lib.hid (HX8.out.alloc (.cells #[.int .i64 1, .int .i64 1, .string ⟨#[]⟩, .slice none 0 0] 25))
      have HC9 := Lib.hid (Blk.new w7 25 #[.int .i64 1, .int .i64 1, .string ⟨#[]⟩, .slice none 0 0])
      have HB10 := Lib.hid (HB9.out.alloc HB9.out.size (.cells #[.int .i64 1, .int .i64 1, .string ⟨#[]⟩, .slice none 0 0] 25))
      clear hb7 HB8 HB7 HX6 HX7 HX8 HB9
      have k0 : (w7.alloc (.cells #[.int .i64 1, .int .i64 1, .string ⟨#[]⟩, .slice none 0 0] 25)).cell? ⟨w3.heap.size, 0, none⟩ = some (.int .i64 2) := HX9.out.cell 0
      have k1 : (w7.alloc (.cells #[.int .i64 1, .int .i64 1, .string ⟨#[]⟩, .slice none 0 0] 25)).cell? ⟨w3.heap.size, 1, none⟩ = some (.int .i64 (n : Int)) := HX9.out.cell 1
      have c1 : (w7.alloc (.cells #[.int .i64 1, .int .i64 1, .string ⟨#[]⟩, .slice none 0 0] 25)).cell? ⟨w7.heap.size, 1, none⟩ = some (.int .i64 1) := HC9.out.cell 1
      go_wp2_with fail
      refine (H5.out _ (HL.out.below HB10.out)).mono ?_
      rintro e w8 ⟨rfl, hb8⟩
      have HB11 := Lib.hid (HB10.out.trans (hb8.mono HB10.out.size))
      have HX10 := Lib.hid (blk_below HX9.out hb8)
      clear k0 k1 c1 HB10 HX9 HC9 hb8
      have k0 : w8.cell? ⟨w3.heap.size, 0, none⟩ = some (.int .i64 2) := HX10.out.cell 0
      have k1 : w8.cell? ⟨w3.heap.size, 1, none⟩ = some (.int .i64 (n : Int)) := HX10.out.cell 1
      go_wp2_with fail
      refine (rtext_any u _).mono ?_
      rintro e w9 ⟨rfl, hb9⟩
      have HB12 := Lib.hid (HB11.out.trans (hb9.mono HB11.out.size))
      clear hb9 HB11 k0 k1 HX10
      go_wp2_with fail
      refine (rtext_any t _).mono ?_
      rintro e w10 ⟨rfl, hb10⟩
      have HB13 := Lib.hid (HB12.out.trans (hb10.mono HB12.out.size))
      clear hb10 HB12
      go_wp2_with fail
      have HB14 := Lib.hid (HB13.out.alloc HB13.out.size (.cells #[.int .i64 3, .int .i64 0, .string u, .slice none 0 0, .int .i64 3, .int .i64 0, .string t, .slice none 0 0] 25))
      refine (HU.out _ (HL.out.below HB14.out) w10.heap.size 2 (args2 w10 3 0 3 0 u t)).mono ?_
      rintro e w11 ⟨rfl, hb11⟩
      have HB15 := Lib.hid (HB14.out.trans (hb11.mono HB14.out.size))
      have HC16 := Lib.hid (Blk.new w11 25 #[.int .i64 1, .int .i64 0, .string ⟨#[]⟩, .slice none 0 0])
      have HB16 := Lib.hid (HB15.out.alloc HB15.out.size (.cells #[.int .i64 1, .int .i64 0, .string ⟨#[]⟩, .slice none 0 0] 25))
      have c1 : (w11.alloc (.cells #[.int .i64 1, .int .i64 0, .string ⟨#[]⟩, .slice none 0 0] 25)).cell? ⟨w11.heap.size, 1, none⟩ = some (.int .i64 0) := HC16.out.cell 1
      go_wp2_with fail
      go_ret
      exact ⟨rfl, HB16.out⟩
    · have hz : t.size = 0 := by omega
      have htd : t.data.toList = [] := List.eq_nil_of_length_eq_zero (by have := Lib.size_eq t; omega)
      have htl : t.toList.isEmpty = true := by rw [Lib.toList_data, htd]; rfl
      have hn0 : n = 0 := by rw [htd, Lib.index_empty] at hn; omega
      subst hn0
      have hu : ByteArray.empty = t := by apply ByteArray.ext; apply Array.toList_inj.1; rw [htd]; rfl
      have hus : t.size < 4294967281 := by omega
      have HU := Lib.hid (fun w hL g cap hA => call_con t t hus m w hL g cap hA)
      have hcc : Lib.contains t.data.toList t.data.toList = true := by
        rw [htd]; unfold Lib.contains; rw [Lib.index_empty]; rfl
      rw [hcc, if_pos rfl] at HU
      have hw2 : IntKind.i64.wrap (((0 : Nat) : Int) + (t.size : Int) - 1) = ((0 : Nat) : Int) + (t.size : Int) - 1 := IntWalk.i64_in _ (by omega)
      have hmx : max (((0 : Nat) : Int) + (t.size : Int) - 1) 0 = 0 := by omega
      have hmx2 : (max (-1 : Int) 0).toNat = 0 := by decide
      clear hcc hno hn htd
      go_enter Tryz.func5, Tryz.ntmps5
      go_wp2_with fail
      refine (rtext_any s _).mono ?_
      rintro e w1 ⟨rfl, hb1⟩
      have HB1 := Lib.hid hb1
      clear hb1
      go_wp2_with fail
      refine (rtext_any t _).mono ?_
      rintro e w2 ⟨rfl, hb2⟩
      have HB2 := Lib.hid (HB1.out.trans (hb2.mono HB1.out.size))
      clear hb2 HB1
      go_wp2_with fail
      have HB3 := Lib.hid (HB2.out.alloc HB2.out.size (.cells #[.int .i64 3, .int .i64 0, .string s, .slice none 0 0, .int .i64 3, .int .i64 0, .string t, .slice none 0 0] 25))
      refine (HP.out _ (HL.out.below HB3.out) w2.heap.size 2 (args2 w2 3 0 3 0 s t)).mono ?_
      rintro e w3 ⟨rfl, hb3⟩
      have HB4 := Lib.hid (HB3.out.trans (hb3.mono HB3.out.size))
      clear hb3 HB3 HB2
      go_wp2_with fail
      have HX := Lib.hid (Blk.new w3 25 #[.int .i64 2, .int .i64 ((0 : Nat) : Int), .string ⟨#[]⟩, .slice none 0 0])
      have HB5 := Lib.hid (HB4.out.alloc HB4.out.size (.cells #[.int .i64 2, .int .i64 ((0 : Nat) : Int), .string ⟨#[]⟩, .slice none 0 0] 25))
      generalize w3.alloc (.cells #[.int .i64 2, .int .i64 ((0 : Nat) : Int), .string ⟨#[]⟩, .slice none 0 0] 25) = w4 at *
      clear HB4
      refine (rtext_any s _).mono ?_
      rintro e w5 ⟨rfl, hb5⟩
      have HX5 := Lib.hid (blk_below HX.out hb5)
      have HB6 := Lib.hid (HB5.out.trans (hb5.mono HB5.out.size))
      clear hb5 HB5 HX
      go_wp2_with fail
      refine (rtext_any t _).mono ?_
      rintro e w6 ⟨rfl, hb6⟩
      have HX6 := Lib.hid (blk_below HX5.out hb6)
      have HB7 := Lib.hid (HB6.out.trans (hb6.mono HB6.out.size))
      clear hb6 HB6 HX5
      go_wp2_with fail
      have HB8 := Lib.hid (HB7.out.alloc HB7.out.size (.cells #[.int .i64 3, .int .i64 0, .string s, .slice none 0 0, .int .i64 3, .int .i64 0, .string t, .slice none 0 0] 25))
      have HX7 := Lib.hid (HX6.out.alloc (.cells #[.int .i64 3, .int .i64 0, .string s, .slice none 0 0, .int .i64 3, .int .i64 0, .string t, .slice none 0 0] 25))
      refine (HC.out _ (HL.out.below HB8.out) w6.heap.size 2 (args2 w6 3 0 3 0 s t)).mono ?_
      rintro e w7 ⟨rfl, hb7⟩
      have HB9 := Lib.hid (HB8.out.trans (hb7.mono HB8.out.size))
      have HX8 := Lib.hid (blk_below HX7.out hb7)
      have HX9 := Lib.hid (HX8.out.alloc (.cells #[.int .i64 1, .int .i64 1, .string ⟨#[]⟩, .slice none 0 0] 25))
      have HC9 := Lib.hid (Blk.new w7 25 #[.int .i64 1, .int .i64 1, .string ⟨#[]⟩, .slice none 0 0])
      have HB10 := Lib.hid (HB9.out.alloc HB9.out.size (.cells #[.int .i64 1, .int .i64 1, .string ⟨#[]⟩, .slice none 0 0] 25))
      clear hb7 HB8 HB7 HX6 HX7 HX8 HB9
      have k0 : (w7.alloc (.cells #[.int .i64 1, .int .i64 1, .string ⟨#[]⟩, .slice none 0 0] 25)).cell? ⟨w3.heap.size, 0, none⟩ = some (.int .i64 2) := HX9.out.cell 0
      have k1 : (w7.alloc (.cells #[.int .i64 1, .int .i64 1, .string ⟨#[]⟩, .slice none 0 0] 25)).cell? ⟨w3.heap.size, 1, none⟩ = some (.int .i64 ((0 : Nat) : Int)) := HX9.out.cell 1
      have c1 : (w7.alloc (.cells #[.int .i64 1, .int .i64 1, .string ⟨#[]⟩, .slice none 0 0] 25)).cell? ⟨w7.heap.size, 1, none⟩ = some (.int .i64 1) := HC9.out.cell 1
      go_wp2_with fail
      refine (H5.out _ (HL.out.below HB10.out)).mono ?_
      rintro e w8 ⟨rfl, hb8⟩
      have HB11 := Lib.hid (HB10.out.trans (hb8.mono HB10.out.size))
      have HX10 := Lib.hid (blk_below HX9.out hb8)
      clear k0 k1 c1 HB10 HX9 HC9 hb8
      have k0 : w8.cell? ⟨w3.heap.size, 0, none⟩ = some (.int .i64 2) := HX10.out.cell 0
      have k1 : w8.cell? ⟨w3.heap.size, 1, none⟩ = some (.int .i64 ((0 : Nat) : Int)) := HX10.out.cell 1
      go_wp2_with fail
      refine (rtext_any t _).mono ?_
      rintro e w9 ⟨rfl, hb9⟩
      have HB12 := Lib.hid (HB11.out.trans (hb9.mono HB11.out.size))
      clear hb9 HB11 k0 k1 HX10
      go_wp2_with fail
      refine (rtext_any t _).mono ?_
      rintro e w10 ⟨rfl, hb10⟩
      have HB13 := Lib.hid (HB12.out.trans (hb10.mono HB12.out.size))
      clear hb10 HB12
      go_wp2_with fail
      have HB14 := Lib.hid (HB13.out.alloc HB13.out.size (.cells #[.int .i64 3, .int .i64 0, .string t, .slice none 0 0, .int .i64 3, .int .i64 0, .string t, .slice none 0 0] 25))
      refine (HU.out _ (HL.out.below HB14.out) w10.heap.size 2 (args2 w10 3 0 3 0 t t)).mono ?_
      rintro e w11 ⟨rfl, hb11⟩
      have HB15 := Lib.hid (HB14.out.trans (hb11.mono HB14.out.size))
      have HC16 := Lib.hid (Blk.new w11 25 #[.int .i64 1, .int .i64 1, .string ⟨#[]⟩, .slice none 0 0])
      have HB16 := Lib.hid (HB15.out.alloc HB15.out.size (.cells #[.int .i64 1, .int .i64 1, .string ⟨#[]⟩, .slice none 0 0] 25))
      have c1 : (w11.alloc (.cells #[.int .i64 1, .int .i64 1, .string ⟨#[]⟩, .slice none 0 0] 25)).cell? ⟨w11.heap.size, 1, none⟩ = some (.int .i64 1) := HC16.out.cell 1
      go_wp2_with fail
      go_ret
      exact ⟨rfl, HB16.out⟩
  · have hcf : Lib.contains s.data.toList t.data.toList = false := by unfold Lib.contains; simpa using h0
    rw [if_neg h0, if_neg h0] at HP
    rw [hcf, if_neg (by decide)] at HC
    clear h0 hcf
    go_enter Tryz.func5, Tryz.ntmps5
    go_wp2_with fail
    refine (rtext_any s _).mono ?_
    rintro e w1 ⟨rfl, hb1⟩
    have HB1 := Lib.hid hb1
    clear hb1
    go_wp2_with fail
    refine (rtext_any t _).mono ?_
    rintro e w2 ⟨rfl, hb2⟩
    have HB2 := Lib.hid (HB1.out.trans (hb2.mono HB1.out.size))
    clear hb2 HB1
    go_wp2_with fail
    have HB3 := Lib.hid (HB2.out.alloc HB2.out.size (.cells #[.int .i64 3, .int .i64 0, .string s, .slice none 0 0, .int .i64 3, .int .i64 0, .string t, .slice none 0 0] 25))
    refine (HP.out _ (HL.out.below HB3.out) w2.heap.size 2 (args2 w2 3 0 3 0 s t)).mono ?_
    rintro e w3 ⟨rfl, hb3⟩
    have HB4 := Lib.hid (HB3.out.trans (hb3.mono HB3.out.size))
    clear hb3 HB3 HB2
    go_wp2_with fail
    have HX := Lib.hid (Blk.new w3 25 #[.int .i64 1, .int .i64 0, .string ⟨#[]⟩, .slice none 0 0])
    have HB5 := Lib.hid (HB4.out.alloc HB4.out.size (.cells #[.int .i64 1, .int .i64 0, .string ⟨#[]⟩, .slice none 0 0] 25))
    generalize w3.alloc (.cells #[.int .i64 1, .int .i64 0, .string ⟨#[]⟩, .slice none 0 0] 25) = w4 at *
    clear HB4
    refine (rtext_any s _).mono ?_
    rintro e w5 ⟨rfl, hb5⟩
    have HX5 := Lib.hid (blk_below HX.out hb5)
    have HB6 := Lib.hid (HB5.out.trans (hb5.mono HB5.out.size))
    clear hb5 HB5 HX
    go_wp2_with fail
    refine (rtext_any t _).mono ?_
    rintro e w6 ⟨rfl, hb6⟩
    have HX6 := Lib.hid (blk_below HX5.out hb6)
    have HB7 := Lib.hid (HB6.out.trans (hb6.mono HB6.out.size))
    clear hb6 HB6 HX5
    go_wp2_with fail
    have HB8 := Lib.hid (HB7.out.alloc HB7.out.size (.cells #[.int .i64 3, .int .i64 0, .string s, .slice none 0 0, .int .i64 3, .int .i64 0, .string t, .slice none 0 0] 25))
    have HX7 := Lib.hid (HX6.out.alloc (.cells #[.int .i64 3, .int .i64 0, .string s, .slice none 0 0, .int .i64 3, .int .i64 0, .string t, .slice none 0 0] 25))
    refine (HC.out _ (HL.out.below HB8.out) w6.heap.size 2 (args2 w6 3 0 3 0 s t)).mono ?_
    rintro e w7 ⟨rfl, hb7⟩
    have HB9 := Lib.hid (HB8.out.trans (hb7.mono HB8.out.size))
    have HX8 := Lib.hid (blk_below HX7.out hb7)
    have HX9 := Lib.hid (HX8.out.alloc (.cells #[.int .i64 1, .int .i64 0, .string ⟨#[]⟩, .slice none 0 0] 25))
    have HC9 := Lib.hid (Blk.new w7 25 #[.int .i64 1, .int .i64 0, .string ⟨#[]⟩, .slice none 0 0])
    have HB10 := Lib.hid (HB9.out.alloc HB9.out.size (.cells #[.int .i64 1, .int .i64 0, .string ⟨#[]⟩, .slice none 0 0] 25))
    clear hb7 HB8 HB7 HX6 HX7 HX8 HB9
    have k0 : (w7.alloc (.cells #[.int .i64 1, .int .i64 0, .string ⟨#[]⟩, .slice none 0 0] 25)).cell? ⟨w3.heap.size, 0, none⟩ = some (.int .i64 1) := HX9.out.cell 0
    have k1 : (w7.alloc (.cells #[.int .i64 1, .int .i64 0, .string ⟨#[]⟩, .slice none 0 0] 25)).cell? ⟨w3.heap.size, 1, none⟩ = some (.int .i64 0) := HX9.out.cell 1
    have c1 : (w7.alloc (.cells #[.int .i64 1, .int .i64 0, .string ⟨#[]⟩, .slice none 0 0] 25)).cell? ⟨w7.heap.size, 1, none⟩ = some (.int .i64 0) := HC9.out.cell 1
    go_wp2_with fail
    refine (H5.out _ (HL.out.below HB10.out)).mono ?_
    rintro e w8 ⟨rfl, hb8⟩
    have HB11 := Lib.hid (HB10.out.trans (hb8.mono HB10.out.size))
    have HX10 := Lib.hid (blk_below HX9.out hb8)
    clear k0 k1 c1 HB10 HX9 HC9 hb8
    have k0 : w8.cell? ⟨w3.heap.size, 0, none⟩ = some (.int .i64 1) := HX10.out.cell 0
    go_wp2_with fail
    go_ret
    exact ⟨rfl, HB11.out⟩
end Go.Proofs.YtjojfnhdegiebaaGreatDoor
