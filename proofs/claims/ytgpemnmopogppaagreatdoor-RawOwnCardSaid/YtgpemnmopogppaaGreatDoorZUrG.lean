import Derived.Test.YtgpemnmopogppaaGreatDoorZUrDaQ
set_option maxRecDepth 1000000
set_option maxHeartbeats 16000000
namespace Go.Proofs.YtgpemnmopogppaaGreatDoor
open Go.Proofs.Tryz
open Go Go.RowKit
namespace Url
theorem hxAt_lt (s : ByteArray) (i : Nat) : hxAt s i < 16 ∧ -1 ≤ hxAt s i := by
 unfold hxAt
 split
 · exact hx_lt _
 · omega
theorem hxAt_pos {s : ByteArray} {i : Nat} (h : 0 ≤ hxAt s i) : i < s.size := by
 unfold hxAt at h
 split at h
 · assumption
 · omega
theorem rdec_any (s : ByteArray) (hs : s.size ≤ 16777216) (w : World) : Calls prog 32 #[.string s] w fun e w' => e = .returned (.string ⟨(decF s.data.toList).toArray⟩) ∧ Below w.heap.size w w' := by
 have hr0 : decF s.data.toList = rest s 0 := rfl
 rw [hr0]
 obtain ⟨i0, hi0, hz0, hz1, hz2⟩ := info_parts u8_info
 have HU := lH (And.intro hi0 (And.intro hz0 (And.intro hz1 hz2)))
 have HH := lH (fun i h0 w => rhexy_any s (by omega) i h0 w)
 clear hr0 hi0 hz0 hz1 hz2
 go_enter func32, ntmps32
 go_wp2_with fail
 go_loopw [3, 4] (fun xv xi wx => ∃ (j : Nat) (acc : List UInt8) (v : Value), j ≤ s.size ∧ xi = .int .i64 j ∧ xv = v ∧ Hid (RowB w.heap.size v acc wx) ∧ Hid (acc ++ rest s j = rest s 0) ∧ Hid (acc.length ≤ j) ∧ Hid (Below w.heap.size w wx)) (fun _ xi _ => s.size - (match xi with | .int _ q => q | _ => 0).toNat)
 case atStart => exact ⟨0, [], _, Nat.zero_le _, rfl, rfl, World.ownsRow_nil _ _ _ _, by simp [Hid], Nat.le_refl _, Below.refl _ _⟩
 case round =>
  obtain ⟨j, acc, xv, hj, rfl, hxv, HI, HR, HL, HB⟩ := hrel
  have hxv := hxv.symm
  subst hxv
  by_cases hlt : j < s.size
  · have hlt' : (j : Int) < (s.size : Int) := by omega
    have hc := s[j].toNat_lt
    have hx0 : (0 : Int) ≤ (s[j].toNat : Int) := by omega
    have hx1 : (s[j].toNat : Int) < 256 := by omega
    obtain ⟨x, hxx⟩ : ∃ x : Int, (s[j].toNat : Int) = x := ⟨_, rfl⟩
    rw [hxx] at hx0 hx1
    have ht1 : ((j : Int) + 1).toNat = j + 1 := by omega
    have ht2 : ((j : Int) + 2).toNat = j + 2 := by omega
    have b1 := hxAt_lt s (j + 1)
    have b2 := hxAt_lt s (j + 2)
    have hR1 := rest_no s j hlt
    have hR3 : ∀ (_ : (s[j].toNat : Int) = 37) (ha : 0 ≤ hxAt s (j + 1)) (hb : 0 ≤ hxAt s (j + 2)), j + 2 < s.size ∧ rest s j = UInt8.ofNat (16 * (hxAt s (j + 1)).toNat + (hxAt s (j + 2)).toNat) :: rest s (j + 3) := by
     intro h37 ha hb
     have p2 := hxAt_pos hb
     have e1 : hxAt s (j + 1) = hx s[j + 1] := dif_pos (by omega)
     have e2 : hxAt s (j + 2) = hx s[j + 2] := dif_pos p2
     rw [e1] at ha ⊢
     rw [e2] at hb ⊢
     exact ⟨p2, rest_hex s j hlt h37 p2 ha hb⟩
    obtain ⟨g1, hg1⟩ : ∃ g, hxAt s (j + 1) = g := ⟨_, rfl⟩
    obtain ⟨g2, hg2⟩ : ∃ g, hxAt s (j + 2) = g := ⟨_, rfl⟩
    rw [hg1] at b1 hR1 hR3
    rw [hg2] at b2 hR1 hR3
    have hg1t : hxAt s ((j : Int) + 1).toNat = g1 := by rw [ht1]; exact hg1
    have hg2t : hxAt s ((j : Int) + 2).toNat = g2 := by rw [ht2]; exact hg2
    have HR1 := lH hR1
    have HR3 := lH hR3
    have hw1 : IntKind.i64.wrap ((j : Int) + 1) = (j : Int) + 1 := IntWalk.i64_in _ (by omega)
    have hw2 : IntKind.i64.wrap ((j : Int) + 2) = (j : Int) + 2 := IntWalk.i64_in _ (by omega)
    clear hR1 hR3
    by_cases h43 : x = 43
    · subst h43
      have HR2 : Hid ((acc ++ [32]) ++ rest s (j + 1) = rest s 0) := by
       show _ = _
       rw [← HR.out, rest_plus s j hlt hxx]
       simp
      have HL2 : Hid ((acc ++ [32]).length ≤ j + 1) := by
       show _ ≤ _
       have := HL.out
       rw [List.length_append, List.length_singleton]
       omega
      have HN : Hid (∀ w1 v, w1.ownsRow w.heap.size 5 1 v (acc.length + 1) (Lib.byteCells acc ++ [.int .u8 32]) → RowB w.heap.size v (acc ++ [32]) w1) := by
       intro w1 v hz
       unfold RowB
       rw [Lib.byteCells_append, List.length_append]
       show w1.ownsRow _ _ _ _ _ (_ ++ [.int .u8 ((32 : UInt8).toNat : Int)])
       rw [show ((32 : UInt8).toNat : Int) = 32 by rfl]
       exact hz
      clear HR HR1 HR3
      go_wp2_with (first | (go_at_call 72; refine (HH.out _ (by omega) _).mono ?_; rintro e w1 ⟨rfl, rfl⟩) | (at_builtin; refine wpList_append_own _ rfl _ _ 71 rfl w.heap.size 5 i0 (.int .u8 0) 1 1 underlying71 HU.out.1 HU.out.2.1 HU.out.2.2.1 HU.out.2.2.2 rfl (by decide) _ _ _ rfl (HI.out.alloc _) ⟨wr.heap.size, 0, none⟩ 1 1 [.int .u8 32] rfl rfl (World.news_of_block (cs := ([.int .u8 32]).toArray) (t := 5) (fr := (0, 0)) (heap_alloc_new wr _)) (by simp [Value.oneCell']) (by have := HL.out; unfold maxLen; omega) (by have := HL.out; omega) (by have := HB.out.size; simp; omega) ?_; intro v' w2 hown hgr _))
      have HN2 := lH (HN.out _ _ hown)
      have HB2 := lH ((HB.out.alloc HB.out.size (.cells #[.int .u8 32] 5)).grown hgr (by have := HB.out.size; simp; omega) (fun k hk => (HI.out.lt k hk).1))
      clear hown hgr
      go_wp2_with fail
      go_roundw
      case rel => exact ⟨j + 1, _, _, by omega, by go_num, rfl, HN2, HR2, HL2, HB2⟩
      case measure => simp <;> omega
    · have e43 : (x == 43) = false := by simpa using h43
      by_cases h37 : x = 37
      · subst h37
        by_cases n1 : g1 < 0
        · have d1 : decide (0 ≤ g1) = false := by simp; omega
          have HR2 : Hid ((acc ++ [s[j]]) ++ rest s (j + 1) = rest s 0) := by
           show _ = _
           rw [← HR.out, HR1.out hxx (.inl n1)]
           simp
          have HL2 : Hid ((acc ++ [s[j]]).length ≤ j + 1) := by
           show _ ≤ _
           have := HL.out
           rw [List.length_append, List.length_singleton]
           omega
          have HN : Hid (∀ w1 v, w1.ownsRow w.heap.size 5 1 v (acc.length + 1) (Lib.byteCells acc ++ [.int .u8 37]) → RowB w.heap.size v (acc ++ [s[j]]) w1) := by
           intro w1 v hz
           unfold RowB
           rw [Lib.byteCells_append, List.length_append]
           show w1.ownsRow _ _ _ _ _ (_ ++ [.int .u8 ((s[j] : UInt8).toNat : Int)])
           rw [show ((s[j] : UInt8).toNat : Int) = 37 by exact hxx]
           exact hz
          clear HR HR1 HR3 n1
          go_wp2_with (first | (go_at_call 72; refine (HH.out _ (by omega) _).mono ?_; rintro e w1 ⟨rfl, rfl⟩) | (at_builtin; refine wpList_append_own _ rfl _ _ 71 rfl w.heap.size 5 i0 (.int .u8 0) 1 1 underlying71 HU.out.1 HU.out.2.1 HU.out.2.2.1 HU.out.2.2.2 rfl (by decide) _ _ _ rfl (HI.out.alloc _) ⟨wr.heap.size, 0, none⟩ 1 1 [.int .u8 37] rfl rfl (World.news_of_block (cs := ([.int .u8 37]).toArray) (t := 5) (fr := (0, 0)) (heap_alloc_new wr _)) (by simp [Value.oneCell']) (by have := HL.out; unfold maxLen; omega) (by have := HL.out; omega) (by have := HB.out.size; simp; omega) ?_; intro v' w2 hown hgr _))
          have HN2 := lH (HN.out _ _ hown)
          have HB2 := lH ((HB.out.alloc HB.out.size (.cells #[.int .u8 37] 5)).grown hgr (by have := HB.out.size; simp; omega) (fun k hk => (HI.out.lt k hk).1))
          clear hown hgr
          go_wp2_with fail
          go_roundw
          case rel => exact ⟨j + 1, _, _, by omega, by go_num, rfl, HN2, HR2, HL2, HB2⟩
          case measure => simp <;> omega
        · obtain ⟨h, rfl⟩ : ∃ h : Nat, g1 = (h : Int) := ⟨g1.toNat, by omega⟩
          have d1 : (0 : Int) ≤ (h : Int) := by omega
          by_cases n2 : g2 < 0
          · have d2 : decide (0 ≤ g2) = false := by simp; omega
            have HR2 : Hid ((acc ++ [s[j]]) ++ rest s (j + 1) = rest s 0) := by
             show _ = _
             rw [← HR.out, HR1.out hxx (.inr n2)]
             simp
            have HL2 : Hid ((acc ++ [s[j]]).length ≤ j + 1) := by
             show _ ≤ _
             have := HL.out
             rw [List.length_append, List.length_singleton]
             omega
            have HN : Hid (∀ w1 v, w1.ownsRow w.heap.size 5 1 v (acc.length + 1) (Lib.byteCells acc ++ [.int .u8 37]) → RowB w.heap.size v (acc ++ [s[j]]) w1) := by
             intro w1 v hz
             unfold RowB
             rw [Lib.byteCells_append, List.length_append]
             show w1.ownsRow _ _ _ _ _ (_ ++ [.int .u8 ((s[j] : UInt8).toNat : Int)])
             rw [show ((s[j] : UInt8).toNat : Int) = 37 by exact hxx]
             exact hz
            clear HR HR1 HR3 n2
            go_wp2_with (first | (go_at_call 72; refine (HH.out _ (by omega) _).mono ?_; rintro e w1 ⟨rfl, rfl⟩) | (at_builtin; refine wpList_append_own _ rfl _ _ 71 rfl w.heap.size 5 i0 (.int .u8 0) 1 1 underlying71 HU.out.1 HU.out.2.1 HU.out.2.2.1 HU.out.2.2.2 rfl (by decide) _ _ _ rfl (HI.out.alloc _) ⟨wr.heap.size, 0, none⟩ 1 1 [.int .u8 37] rfl rfl (World.news_of_block (cs := ([.int .u8 37]).toArray) (t := 5) (fr := (0, 0)) (heap_alloc_new wr _)) (by simp [Value.oneCell']) (by have := HL.out; unfold maxLen; omega) (by have := HL.out; omega) (by have := HB.out.size; simp; omega) ?_; intro v' w2 hown hgr _))
            have HN2 := lH (HN.out _ _ hown)
            have HB2 := lH ((HB.out.alloc HB.out.size (.cells #[.int .u8 37] 5)).grown hgr (by have := HB.out.size; simp; omega) (fun k hk => (HI.out.lt k hk).1))
            clear hown hgr
            go_wp2_with fail
            go_roundw
            case rel => exact ⟨j + 1, _, _, by omega, by go_num, rfl, HN2, HR2, HL2, HB2⟩
            case measure => simp <;> omega
          · obtain ⟨l, rfl⟩ : ∃ l : Nat, g2 = (l : Int) := ⟨g2.toNat, by omega⟩
            have d2 : (0 : Int) ≤ (l : Int) := by omega
            have hws : IntKind.i64.wrap (16 * (h : Int)) = 16 * (h : Int) := IntWalk.i64_in _ (by omega)
            have hwt : IntKind.i64.wrap (16 * (h : Int) + (l : Int)) = 16 * (h : Int) + (l : Int) := IntWalk.i64_in _ (by omega)
            have hwu : IntKind.u8.wrap (16 * (h : Int) + (l : Int)) = 16 * (h : Int) + (l : Int) := IntWalk.u8_in _ (by omega)
            obtain ⟨hj3, hr3⟩ := HR3.out hxx d1 d2
            have hr4 : rest s j = UInt8.ofNat (16 * h + l) :: rest s (j + 3) := by simpa using hr3
            clear hr3
            have HR2 : Hid ((acc ++ [UInt8.ofNat (16 * h + l)]) ++ rest s (j + 3) = rest s 0) := by
             show _ = _
             rw [← HR.out, hr4]
             simp
            have HL2 : Hid ((acc ++ [UInt8.ofNat (16 * h + l)]).length ≤ j + 3) := by
             show _ ≤ _
             have := HL.out
             rw [List.length_append, List.length_singleton]
             omega
            have HN : Hid (∀ w1 v, w1.ownsRow w.heap.size 5 1 v (acc.length + 1) (Lib.byteCells acc ++ [.int .u8 (16 * (h : Int) + (l : Int))]) → RowB w.heap.size v (acc ++ [(UInt8.ofNat (16 * h + l))]) w1) := by
             intro w1 v hz
             unfold RowB
             rw [Lib.byteCells_append, List.length_append]
             show w1.ownsRow _ _ _ _ _ (_ ++ [.int .u8 (((UInt8.ofNat (16 * h + l)) : UInt8).toNat : Int)])
             rw [show (((UInt8.ofNat (16 * h + l)) : UInt8).toNat : Int) = (16 * (h : Int) + (l : Int)) by rw [UInt8.toNat_ofNat']; omega]
             exact hz
            clear HR HR1 HR3 hr4
            go_wp2_with (first | (go_at_call 72; refine (HH.out _ (by omega) _).mono ?_; rintro e w1 ⟨rfl, rfl⟩) | (at_builtin; refine wpList_append_own _ rfl _ _ 71 rfl w.heap.size 5 i0 (.int .u8 0) 1 1 underlying71 HU.out.1 HU.out.2.1 HU.out.2.2.1 HU.out.2.2.2 rfl (by decide) _ _ _ rfl (HI.out.alloc _) ⟨wr.heap.size, 0, none⟩ 1 1 [.int .u8 (16 * (h : Int) + (l : Int))] rfl rfl (World.news_of_block (cs := ([.int .u8 (16 * (h : Int) + (l : Int))]).toArray) (t := 5) (fr := (0, 0)) (heap_alloc_new wr _)) (by simp [Value.oneCell']) (by have := HL.out; unfold maxLen; omega) (by have := HL.out; omega) (by have := HB.out.size; simp; omega) ?_; intro v' w2 hown hgr _))
            have HN2 := lH (HN.out _ _ hown)
            have HB2 := lH ((HB.out.alloc HB.out.size (.cells #[.int .u8 (16 * (h : Int) + (l : Int))] 5)).grown hgr (by have := HB.out.size; simp; omega) (fun k hk => (HI.out.lt k hk).1))
            clear hown hgr
            go_wp2_with fail
            go_roundw
            case rel => exact ⟨j + 3, _, _, by omega, by go_num, rfl, HN2, HR2, HL2, HB2⟩
            case measure => simp <;> omega
      · have e37 : (x == 37) = false := by simpa using h37
        have hno := rest_other s j hlt (by rw [hxx]; exact h43) (by rw [hxx]; exact h37)
        have HR2 : Hid ((acc ++ [s[j]]) ++ rest s (j + 1) = rest s 0) := by
         show _ = _
         rw [← HR.out, hno]
         simp
        have HL2 : Hid ((acc ++ [s[j]]).length ≤ j + 1) := by
         show _ ≤ _
         have := HL.out
         rw [List.length_append, List.length_singleton]
         omega
        have HN : Hid (∀ w1 v, w1.ownsRow w.heap.size 5 1 v (acc.length + 1) (Lib.byteCells acc ++ [.int .u8 x]) → RowB w.heap.size v (acc ++ [s[j]]) w1) := by
         intro w1 v hz
         unfold RowB
         rw [Lib.byteCells_append, List.length_append]
         show w1.ownsRow _ _ _ _ _ (_ ++ [.int .u8 ((s[j] : UInt8).toNat : Int)])
         rw [show ((s[j] : UInt8).toNat : Int) = x by exact hxx]
         exact hz
        clear HR hno HR1 HR3
        go_wp2_with (first | (go_at_call 72; refine (HH.out _ (by omega) _).mono ?_; rintro e w1 ⟨rfl, rfl⟩) | (at_builtin; refine wpList_append_own _ rfl _ _ 71 rfl w.heap.size 5 i0 (.int .u8 0) 1 1 underlying71 HU.out.1 HU.out.2.1 HU.out.2.2.1 HU.out.2.2.2 rfl (by decide) _ _ _ rfl (HI.out.alloc _) ⟨wr.heap.size, 0, none⟩ 1 1 [.int .u8 x] rfl rfl (World.news_of_block (cs := ([.int .u8 x]).toArray) (t := 5) (fr := (0, 0)) (heap_alloc_new wr _)) (by simp [Value.oneCell']) (by have := HL.out; unfold maxLen; omega) (by have := HL.out; omega) (by have := HB.out.size; simp; omega) ?_; intro v' w2 hown hgr _))
        have HN2 := lH (HN.out _ _ hown)
        have HB2 := lH ((HB.out.alloc HB.out.size (.cells #[.int .u8 x] 5)).grown hgr (by have := HB.out.size; simp; omega) (fun k hk => (HI.out.lt k hk).1))
        clear hown hgr
        go_wp2_with fail
        go_roundw
        case rel => exact ⟨j + 1, _, _, by omega, by go_num, rfl, HN2, HR2, HL2, HB2⟩
        case measure => simp <;> omega
  · obtain rfl : j = s.size := by omega
    have hall : acc = rest s 0 := by rw [← HR.out, rest_end, List.append_nil]
    rw [hall] at HI
    have hconv := row_back HI.out
    obtain ⟨A, c, rfl⟩ := row_slice HI.out
    clear hall HR HU HH
    go_wp2_with fail
    go_ret
    exact ⟨rfl, HB.out⟩
end Url
end Go.Proofs.YtgpemnmopogppaaGreatDoor
