/- WordPlain: the walk of the law. -/
import Derived.Test.YteajmgkdiioflaaGreatDoorPlC
import Derived.Test.YteajmgkdiioflaaGreatDoorAliveW
namespace Go.Proofs.YteajmgkdiioflaaGreatDoor
open Go.RowKit

/-- What the laws of this seat ask of the world. -/
structure LibP (m : Int) (w : World) : Prop where
  libw : LibW m w
  fold : FoldAt w
theorem LibP.below {m : Int} {w w' : World} (h : LibP m w) (hb : Below w.heap.size w w') : LibP m w' := ⟨h.libw.below hb, fold_below h.fold hb⟩
theorem LibP.lib2 {m : Int} {w : World} (h : LibP m w) : Lib2 m w := ⟨h.fold, h.libw.max⟩

set_option maxRecDepth 100000 in
set_option maxHeartbeats 2000000 in
theorem tokens_long (s : ByteArray) (hbig : 65536 < s.size) (hs : s.size ≤ maxLen) (w : World) :
    Calls Tryz.prog 7 #[.string s] w fun e w' => e = .returned (.tuple #[.slice none 0 0, .agg #[.int .i64 2, .int .i64 0]]) ∧ Below w.heap.size w w' := by
  have HC := Lib.hid (fun w => cut_long s hbig hs w)
  go_enter Tryz.func7, Tryz.ntmps7
  go_wp2_with fail
  refine (HC.out _).mono ?_
  rintro e w1 ⟨rfl, hb1⟩
  have HB := Lib.hid ((Below.refl w.heap.size w).alloc (Nat.le_refl _) (.cells #[.int .i64 0, .int .i64 0] 25))
  have HB2 := Lib.hid (HB.out.trans (hb1.mono HB.out.size))
  have hF : Blk w1 w.heap.size 25 #[.int .i64 0, .int .i64 0] := (Blk.new w _ _).keeps (Keeps.of_below (S := fun _ => False) hb1) id
  have f0 : w1.cell? ⟨w.heap.size, 0, none⟩ = some (.int .i64 0) := hF.cell 0
  have f1 : w1.cell? ⟨w.heap.size, 1, none⟩ = some (.int .i64 0) := hF.cell 1
  have z0 := hF.frozen 0
  have z1 := hF.frozen 1
  clear hb1 HB hF
  go_wp2_with fail
  refine bodyPost_ret (v := .tuple #[.slice none 0 0, .agg #[.int .i64 2, .int .i64 0]]) (by simp [results, Tryz.results7, go_sem, f0, f1]) rfl ?_
  exact ⟨rfl, (HB2.out.setCell (Nat.le_refl _) _).setCell (Nat.le_refl _) _⟩

set_option maxRecDepth 100000 in
set_option maxHeartbeats 2000000 in
theorem wplain_any (s : ByteArray) (hs : s.size ≤ maxLen) (m : Int) (w : World) (hL : LibP m w) : Calls Tryz.prog 5 #[.string s] w fun e w' => e = .returned (.bool true) ∧ Below w.heap.size w w' := by
  have Hml := Lib.hid hs
  unfold maxLen at hs
  have HL := Lib.hid hL; clear hL
  go_enter Tryz.func5, Tryz.ntmps5
  go_wp2_with fail
  go_loopg [3] s.size (fun g r wx => w = wx ∧ ∃ i : Nat, i + g = s.size ∧ (i = 0 ∨ i < s.size) ∧ r = .int .i64 i ∧ Hid (NoTagTo s i))
  case atStart => exact ⟨rfl, 0, by omega, .inl rfl, rfl, fun j hj => absurd hj (by omega)⟩
  case round =>
    obtain ⟨rfl, i, hig, hi0, rfl, Hi⟩ := hrel
    by_cases hlt : i + 1 < s.size
    · have hltI : (i : Int) + 1 < (s.size : Int) := by omega
      have hi1 : (i : Int) < (s.size : Int) := by omega
      have e0 := pre_at s i hlt
      obtain ⟨b1, h1⟩ : ∃ b, ((s[i].toNat : Int) == 60) = b := ⟨_, rfl⟩
      obtain ⟨b2, h2⟩ : ∃ b, ((s[i + 1].toNat : Int) == 63) = b := ⟨_, rfl⟩
      have f1 : (s[i] == 60) = b1 := by rw [← h1, Bool.eq_iff_iff]; simp [← UInt8.toNat_inj]; omega
      have f2 : (s[i + 1] == 63) = b2 := by rw [← h2, Bool.eq_iff_iff]; simp [← UInt8.toNat_inj]; omega
      rw [f1, f2] at e0
      clear f1 f2
      by_cases hb : (b1 && b2) = true
      · simp only [Bool.and_eq_true] at hb
        obtain ⟨rfl, rfl⟩ := hb
        clear e0
        go_wp2_with (go_at_call 8; refine (alive_any m _ HL.out.libw).mono ?_; rintro e w1 ⟨rfl, hb1⟩)
        go_ret
        exact ⟨rfl, hb1⟩
      · have HN : Hid (NoTagTo s (i + 1)) := fun j hj => by
          rcases Nat.lt_or_ge j i with h | h
          · exact Hi.out j h
          · obtain rfl : j = i := by omega
            rw [e0]; simpa using hb
        clear e0
        cases b1 with
        | false =>
          clear hb
          go_wp2_with fail
          go_roundg (gk - 1)
          case rel => exact ⟨rfl, i + 1, by omega, by omega, by go_num, HN⟩
          case measure => omega
        | true =>
          cases b2 with
          | true => exact absurd rfl hb
          | false =>
            clear hb
            go_wp2_with fail
            go_roundg (gk - 1)
            case rel => exact ⟨rfl, i + 1, by omega, by omega, by go_num, HN⟩
            case measure => omega
    · have hno := noTag_all s i Hi.out (by omega)
      have hltI : ¬ ((i : Int) + 1 < (s.size : Int)) := by omega
      by_cases hbig : 65536 < s.size
      · have hbI : (65536 : Int) < (s.size : Int) := by omega
        have HC := Lib.hid (tokens_long s hbig Hml.out w)
        clear hbig
        go_wp2_with fail
        refine HC.out.mono ?_
        rintro e w1 ⟨rfl, hb0⟩
        have hb1 := hb0.alloc hb0.size (.cells #[.int .i64 2, .int .i64 0] 25)
        have HL1 := Lib.hid (HL.out.below hb1)
        go_wp2_with (go_at_call 8; refine (alive_any m _ HL1.out.libw).mono ?_; rintro e w2 ⟨rfl, hb2⟩)
        go_ret
        exact ⟨rfl, hb1.trans (hb2.mono hb1.size)⟩
      · by_cases hz : s.size = 0
        · have HC := Lib.hid (tokens_none s hz m w HL.out.lib2)
          have k6 : s.toList.isEmpty = true := by
            rw [Lib.toList_data, List.isEmpty_iff]; exact List.eq_nil_of_length_eq_zero (by have := Lib.size_eq s; omega)
          clear hbig
          go_wp2_with fail
          refine HC.out.mono ?_
          rintro e w1 ⟨rfl, hb0⟩
          have hb1 := hb0.alloc hb0.size (.cells #[.int .i64 0, .int .i64 0] 25)
          have HL1 := Lib.hid (HL.out.below hb1)
          go_wp2_with (go_at_call 8; refine (alive_any m _ HL1.out.libw).mono ?_; rintro e w2 ⟨rfl, hb2⟩)
          go_ret
          exact ⟨rfl, hb1.trans (hb2.mono hb1.size)⟩
        · have HC := Lib.hid (tokens_one s (by omega) (by omega) hno m w HL.out.lib2)
          have k6 : s.toList.isEmpty = false := by
            rw [Lib.toList_data]
            cases h : s.data.toList with
            | nil => have := Lib.size_eq s; rw [h] at this; exact absurd this hz
            | cons _ _ => rfl
          clear hbig
          go_wp2_with fail
          refine HC.out.mono ?_
          rintro e w1 ⟨v, rfl, hown0, hb0⟩
          have hb1 := hb0.alloc hb0.size (.cells #[.int .i64 0, .int .i64 0] 25)
          have hown := hown0.alloc (.cells #[.int .i64 0, .int .i64 0] 25)
          clear hown0
          obtain ⟨g, cap, rfl, _, _⟩ := hown.form (by omega)
          have p0 : (w1.alloc (.cells #[.int .i64 0, .int .i64 0] 25)).cell? ⟨g, 0, none⟩ = some (.int .i64 1) := (hown.cellAt 0 (by omega)).trans rfl
          have p1 : (w1.alloc (.cells #[.int .i64 0, .int .i64 0] 25)).cell? ⟨g, 1, none⟩ = some (.string s) := (hown.cellAt 1 (by omega)).trans rfl
          have p5 : (w1.alloc (.cells #[.int .i64 0, .int .i64 0] 25)).cell? ⟨g, 5, none⟩ = some (.int .i64 1) := (hown.cellAt 5 (by omega)).trans rfl
          have HL1 := Lib.hid (HL.out.below hb1)
          clear hown
          go_wp2_with (go_at_call 8; refine (alive_any m _ HL1.out.libw).mono ?_; rintro e w2 ⟨rfl, hb2⟩)
          go_ret
          exact ⟨rfl, hb1.trans (hb2.mono hb1.size)⟩
end Go.Proofs.YteajmgkdiioflaaGreatDoor
