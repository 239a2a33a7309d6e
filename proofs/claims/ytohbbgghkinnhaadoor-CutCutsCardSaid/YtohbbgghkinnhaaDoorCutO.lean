/- CutCuts: the walks of the reference's Same and of the law. -/
import Derived.Test.YtohbbgghkinnhaaDoorCutN
import Derived.Test.YtohbbgghkinnhaaDoorCutW
namespace Go.Proofs.YtohbbgghkinnhaaDoor
open Go.RowKit

set_option maxRecDepth 100000 in
set_option maxHeartbeats 4000000 in
theorem same_any (s : ByteArray) (L : List P3) (hl : L.length ≤ 200000) (b1 b2 : Nat) (v1 v2 : Value) (w : World) (h1 : PiecesAt w b1 s v1 L) (h2 : PiecesAt w b2 s v2 L) :
    Calls Tryd.prog 10 #[v1, v2] w fun e w' => e = .returned (.bool true) ∧ Below w.heap.size w w' := by
  obtain ⟨A1, cap1, rfl, hc1⟩ := h1.shape
  obtain ⟨A2, cap2, rfl, hc2⟩ := h2.shape
  have H1 := Lib.hid hc1
  have H2 := Lib.hid hc2
  clear h1 h2 hc1 hc2
  go_enter Tryd.func10, Tryd.ntmps10
  go_wp2_with fail
  go_loopw [5] (fun i wx => ∃ k : Nat, k ≤ L.length ∧ i = .int .i64 (k : Nat) ∧ Hid (Below w.heap.size w wx)) (fun i _ => L.length - (intOf i).toNat)
  case atStart => exact ⟨0, Nat.zero_le _, rfl, Below.refl _ _⟩
  case round =>
    obtain ⟨k, hk, rfl, HB⟩ := hrel
    by_cases hlt : k < L.length
    · obtain ⟨g1, rfl, _, p0, p1, p2⟩ := H1.out k hlt
      obtain ⟨g2, rfl, _, r0, r1, r2⟩ := H2.out k hlt
      have hgl := World.block_lt_of_cell? w _ p0
      have hgl2 := World.block_lt_of_cell? w _ r0
      have q0 := (HB.out.cell (p := ⟨g1, k * 3, none⟩) hgl).trans p0
      have q1 := (HB.out.cell (p := ⟨g1, k * 3 + 1, none⟩) hgl).trans p1
      have q2 := (HB.out.cell (p := ⟨g1, k * 3 + 2, none⟩) hgl).trans p2
      have t0 := (HB.out.cell (p := ⟨g2, k * 3, none⟩) hgl2).trans r0
      have t1 := (HB.out.cell (p := ⟨g2, k * 3 + 1, none⟩) hgl2).trans r1
      have t2 := (HB.out.cell (p := ⟨g2, k * 3 + 2, none⟩) hgl2).trans r2
      clear p0 p1 p2 r0 r1 r2 hgl hgl2 H1 H2
      generalize L.getD k default = p at *
      obtain ⟨kd, a, b⟩ := p
      simp only at *
      generalize s.extract a b = tx at *
      have hkI : (k : Int) < (L.length : Int) := by omega
      go_wp2_with fail
      go_quiet (fail)
      go_wp2_with fail
      go_roundw
      case rel => exact ⟨k + 1, by omega, by go_num, below_drewN HB.out _⟩
      case measure => simp [intOf]; omega
    · obtain rfl : k = L.length := by omega
      go_wp2_with fail
      go_ret
      exact ⟨rfl, HB.out⟩

theorem pieces_nil (w : World) (s : ByteArray) : PiecesAt w w.heap.size s (.slice none 0 0) [] := World.ownsRow_nil _ _ _ _

set_option maxRecDepth 100000 in
set_option maxHeartbeats 4000000 in
theorem cuts_any (s : ByteArray) (hs : s.size ≤ maxLen) (m : Int) (w : World) (hL : Lib2 m w) : Calls Tryd.prog 3 #[.string s] w fun e w' => e = .returned (.bool true) ∧ Below w.heap.size w w' := by
  have Hml := Lib.hid hs
  unfold maxLen at hs
  have HL := Lib.hid hL; clear hL
  by_cases hbig : 65536 < s.size
  · have hbI : (65536 : Int) < (s.size : Int) := by omega
    have HC := Lib.hid (cut_long s hbig Hml.out w)
    have HR := Lib.hid (rcut_long s hbig Hml.out)
    clear hbig
    go_enter Tryd.func3, Tryd.ntmps3
    go_wp2_with fail
    refine HC.out.mono ?_
    rintro e w1 ⟨rfl, hb1⟩
    have HL1 := Lib.hid (HL.out.below hb1)
    have Hb1 := Lib.hid hb1
    clear hb1 HC
    go_wp2_with fail
    refine (HR.out _).mono ?_
    rintro e w2 ⟨rfl, rfl⟩
    go_wp2_with fail
    refine (same_any s [] (by simp) _ _ _ _ _ (pieces_nil w1 s) (pieces_nil w1 s)).mono ?_
    rintro e w2 ⟨rfl, hb2⟩
    have HL2 := Lib.hid (HL1.out.below hb2)
    have Hb2 := Lib.hid (Hb1.out.trans (hb2.mono Hb1.out.size))
    clear hb2
    go_wp2_with (go_at_call 11; refine (alive_any m _ HL2.out).mono ?_; rintro e w3 ⟨rfl, hb3⟩)
    go_ret
    exact ⟨rfl, Hb2.out.trans (hb3.mono Hb2.out.size)⟩
  · have HC := Lib.hid (cut_any s (by omega) m w HL.out)
    have HR := Lib.hid (rcut_any s (by omega))
    have hfew := cut3_few s (by omega)
    clear hbig
    go_enter Tryd.func3, Tryd.ntmps3
    go_wp2_with fail
    refine HC.out.mono ?_
    rintro e w1 ⟨v1, rfl, hp1, hb1⟩
    have HL1 := Lib.hid (HL.out.below hb1)
    have Hb1 := Lib.hid hb1
    have HP1 := Lib.hid hp1
    clear hb1 HC hp1
    go_wp2_with fail
    refine (HR.out _).mono ?_
    rintro e w2 ⟨v2, rfl, hp2, hb2⟩
    have HL2 := Lib.hid (HL1.out.below hb2)
    have Hb2 := Lib.hid (Hb1.out.trans (hb2.mono Hb1.out.size))
    have HP3 := Lib.hid (HP1.out.below hb2)
    have HP2 := Lib.hid hp2
    clear hb2 hp2 HP1 HR
    go_wp2_with fail
    refine (same_any s _ (by omega) _ _ _ _ _ HP3.out HP2.out).mono ?_
    rintro e w3 ⟨rfl, hb3⟩
    have HL3 := Lib.hid (HL2.out.below hb3)
    have Hb3 := Lib.hid (Hb2.out.trans (hb3.mono Hb2.out.size))
    clear hb3
    go_wp2_with (go_at_call 11; refine (alive_any m _ HL3.out).mono ?_; rintro e w4 ⟨rfl, hb4⟩)
    go_ret
    exact ⟨rfl, Hb3.out.trans (hb4.mono Hb3.out.size)⟩
end Go.Proofs.YtohbbgghkinnhaaDoor
