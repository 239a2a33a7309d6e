/- word.Tokens at a file without a tag: one piece. -/
import Derived.Test.YteajmgkdiioflaaGreatDoorPlB
namespace Go.Proofs.YteajmgkdiioflaaGreatDoor
open Go.RowKit

theorem own_le {w : World} {B B' : Nat} {e : TypeId} {size n : Nat} {v : Value} {xs : List Value} (h : w.ownsRow B e size v n xs) (hb : B' ≤ B) : w.ownsRow B' e size v n xs :=
  ⟨h.1, h.2.imp id (fun ⟨g, cap, cur, a, b, c⟩ => ⟨g, cap, cur, a, Nat.le_trans hb b, c⟩)⟩
theorem cut3_plain (s : ByteArray) (hn : NoTag s.data.toList) (hs : 0 < s.size) : cut3 s.data.toList = [⟨1, 0, s.size⟩] := by
  rw [cut_plain _ hn, ← Lib.size_eq]
  unfold htmlP
  rw [if_pos hs]
set_option maxRecDepth 100000 in
set_option maxHeartbeats 2000000 in
theorem tokens_one (s : ByteArray) (hs : 0 < s.size) (hmax : s.size ≤ 65536) (hn : NoTag s.data.toList) (m : Int) (w : World) (hL : Lib2 m w) :
    Calls Tryz.prog 7 #[.string s] w fun e w' => ∃ v, e = .returned (.tuple #[v, .agg #[.int .i64 0, .int .i64 0]]) ∧ w'.ownsRow w.heap.size 31 6 v 1 (tokCells s 1) ∧ Below w.heap.size w w' := by
  have HL := Lib.hid (hL.below ((Below.refl w.heap.size w).alloc (Nat.le_refl _) (.cells #[.int .i64 0, .int .i64 0] 25)))
  have HC := Lib.hid (cut_any s hmax m _ HL.out)
  rw [cut3_plain s hn hs] at HC
  clear hL
  go_enter Tryz.func7, Tryz.ntmps7
  go_wp2_with fail
  refine HC.out.mono ?_
  rintro e w1 ⟨v, rfl, hp, hb1⟩
  obtain ⟨A, cap, rfl, hget⟩ := hp.shape
  obtain ⟨g, rfl, hg1, k0, k1, k2⟩ := hget 0 (by simp)
  have he : s.extract 0 s.size = s := by simp
  replace k0 : w1.cell? ⟨g, 0, none⟩ = some (.int .i64 1) := k0
  replace k1 : w1.cell? ⟨g, 1, none⟩ = some (.string s) := by rw [← he]; exact k1
  replace k2 : w1.cell? ⟨g, 2, none⟩ = some (.int .i64 0) := k2
  have hz1 := hb1.size
  have HB := Lib.hid ((Below.refl w.heap.size w).alloc (Nat.le_refl _) (.cells #[.int .i64 0, .int .i64 0] 25))
  have HB2 := Lib.hid (HB.out.trans (hb1.mono HB.out.size))
  have HB3 := Lib.hid (HB2.out.alloc HB2.out.size (.cells #[.string ⟨#[]⟩, .int .i64 0, .slice none 0 0, .int .i64 0, .int .i64 0, .int .i64 0, .int .i64 0] 41))
  have hF : Blk w1 w.heap.size 25 #[.int .i64 0, .int .i64 0] := (Blk.new w _ _).keeps (Keeps.of_below (S := fun _ => False) hb1) id
  have HF := Lib.hid (hF.alloc (.cells #[.string ⟨#[]⟩, .int .i64 0, .slice none 0 0, .int .i64 0, .int .i64 0, .int .i64 0, .int .i64 0] 41))
  have HR := Lib.hid (Blk.new w1 41 #[.string ⟨#[]⟩, .int .i64 0, .slice none 0 0, .int .i64 0, .int .i64 0, .int .i64 0, .int .i64 0])
  have hgl : g < w1.heap.size := by
    rcases Nat.lt_or_ge g w1.heap.size with h | h
    · exact h
    · rw [World.cell?, Array.getElem?_eq_none h] at k0; cases k0
  have HK := Lib.hid (And.intro ((World.cell?_alloc_lt w1 (.cells #[.string ⟨#[]⟩, .int .i64 0, .slice none 0 0, .int .i64 0, .int .i64 0, .int .i64 0, .int .i64 0] 41) ⟨g, 0, none⟩ hgl).trans k0) (And.intro
    ((World.cell?_alloc_lt w1 (.cells #[.string ⟨#[]⟩, .int .i64 0, .slice none 0 0, .int .i64 0, .int .i64 0, .int .i64 0, .int .i64 0] 41) ⟨g, 1, none⟩ hgl).trans k1)
    ((World.cell?_alloc_lt w1 (.cells #[.string ⟨#[]⟩, .int .i64 0, .slice none 0 0, .int .i64 0, .int .i64 0, .int .i64 0, .int .i64 0] 41) ⟨g, 2, none⟩ hgl).trans k2)))
  clear hb1 hp HB HB2 k0 k1 k2
  go_wp2_with fail
  go_loopg [23] 2 (fun n r wx => (n = 2 ∧ r = .int .i64 0 ∧ wx = w1.alloc (.cells #[.string ⟨#[]⟩, .int .i64 0, .slice none 0 0, .int .i64 0, .int .i64 0, .int .i64 0, .int .i64 0] 41)) ∨
    (n = 1 ∧ r = .int .i64 1 ∧ Below w.heap.size w wx ∧ Blk wx w.heap.size 25 #[.int .i64 0, .int .i64 0] ∧ ∃ v, wx.ownsRow (w.heap.size + 1) 31 6 v 1 (tokCells s 1) ∧ wx.cell? ⟨w1.heap.size, 2, none⟩ = some v))
  case atStart => exact .inl ⟨rfl, rfl, rfl⟩
  case round =>
    rcases hrel with ⟨rfl, rfl, rfl⟩ | ⟨rfl, rfl, hB, hFa, v, hown, hv⟩
    · generalize hw2 : w1.alloc (.cells #[.string ⟨#[]⟩, .int .i64 0, .slice none 0 0, .int .i64 0, .int .i64 0, .int .i64 0, .int .i64 0] 41) = w2 at *
      obtain ⟨p0, p1, p2⟩ := HK.out
      have HP := Lib.hid (Blk.new w2 43 #[.int .i64 1, .string s, .int .i64 0])
      have HR3 := Lib.hid (HR.out.alloc (.cells #[.int .i64 1, .string s, .int .i64 0] 43))
      have HF3 := Lib.hid (HF.out.alloc (.cells #[.int .i64 1, .string s, .int .i64 0] 43))
      have HB4 := Lib.hid (HB3.out.alloc HB3.out.size (.cells #[.int .i64 1, .string s, .int .i64 0] 43))
      have hlt2 : w1.heap.size < w2.heap.size := HR.out.lt
      have hlt0 : w.heap.size < w1.heap.size := hF.lt
      clear hw2 hF
      go_upto_region 1 with (fail)
      generalize hw3 : w2.alloc (.cells #[.int .i64 1, .string s, .int .i64 0] 43) = w3 at *
      have q0 : w3.cell? ⟨w2.heap.size, 0, none⟩ = some (.int .i64 1) := HP.out.cell 0
      have q1 : w3.cell? ⟨w2.heap.size, 1, none⟩ = some (.string s) := HP.out.cell 1
      have q2 : w3.cell? ⟨w2.heap.size, 2, none⟩ = some (.int .i64 0) := HP.out.cell 2
      have r0 : w3.cell? ⟨w1.heap.size, 0, none⟩ = some (.string ⟨#[]⟩) := HR3.out.cell 0
      have r1 : w3.cell? ⟨w1.heap.size, 1, none⟩ = some (.int .i64 0) := HR3.out.cell 1
      have t0 := HR3.out.frozen 0
      have t1 := HR3.out.frozen 1
      clear hw3
      have hwr : IntKind.i64.wrap (s.size : Int) = (s.size : Int) := IntWalk.i64_in _ (by omega)
      have hst : ((s.size : Int)).toNat = s.size := by omega
      go_cut [] (fun wx => wx = (w3.drew.setCell ⟨w1.heap.size, 0, none⟩ (.string s)).setCell ⟨w1.heap.size, 1, none⟩ (.int .i64 0))
      case first =>
        go_region_law (fail)
        all_goals
          go_wp2_with fail
          go_meet
          exact rfl
      case rest =>
        obtain rfl := hcut
        have HP4 := Lib.hid ((HP.out.drew.far (p := ⟨w1.heap.size, 0, none⟩) (by simp; omega) (.string s)).far (p := ⟨w1.heap.size, 1, none⟩) (by simp; omega) (.int .i64 0))
        have HR4 := Lib.hid ((HR3.out.drew.set_ 0 (.string s)).set_ 1 (.int .i64 0))
        have HF4 := Lib.hid ((HF3.out.drew.far (p := ⟨w1.heap.size, 0, none⟩) (by simp; omega) (.string s)).far (p := ⟨w1.heap.size, 1, none⟩) (by simp; omega) (.int .i64 0))
        have HB5 := Lib.hid (((HB4.out.drew).setCell (p := ⟨w1.heap.size, 0, none⟩) (by simp; omega) (.string s)).setCell (p := ⟨w1.heap.size, 1, none⟩) (by simp; omega) (.int .i64 0))
        generalize (w3.drew.setCell ⟨w1.heap.size, 0, none⟩ (.string s)).setCell ⟨w1.heap.size, 1, none⟩ (.int .i64 0) = w4 at *
        clear q0 q1 q2 t0 t1 r0 r1 HP HR3 HF3 HB4
        have q0 : w4.cell? ⟨w2.heap.size, 0, none⟩ = some (.int .i64 1) := HP4.out.cell 0
        have q1 : w4.cell? ⟨w2.heap.size, 1, none⟩ = some (.string s) := HP4.out.cell 1
        have q2 : w4.cell? ⟨w2.heap.size, 2, none⟩ = some (.int .i64 0) := HP4.out.cell 2
        have HA := Lib.hid (add_first s s 1 w1.heap.size)
        go_wp2_with (refine (HA.out _ HR4.out).mono ?_)
        rintro e w5 ⟨rfl, v, hown, hv, hk5⟩
        have hle : w.heap.size ≤ w4.heap.size := HB5.out.size
        have HB6 := Lib.hid (HB5.out.trans (hk5.below hle (fun i e => by subst e; omega)))
        have HF6 := Lib.hid (HF4.out.keeps hk5 (by omega))
        have HO := Lib.hid (own_le hown (Nat.succ_le_of_lt HF4.out.lt))
        have HV := Lib.hid hv
        clear hown hv hk5 HB5 HF4
        go_wp2_with fail
        go_roundg (1)
        case rel => exact .inr ⟨rfl, rfl, HB6.out, HF6.out, v, HO.out, HV.out⟩
        case measure => omega
    · have f0 : _ := hFa.cell 0
      have f1 := hFa.cell 1
      have z0 := hFa.frozen 0
      have z1 := hFa.frozen 1
      go_wp2_with fail
      refine bodyPost_ret (v := .tuple #[v, .agg #[.int .i64 0, .int .i64 0]]) (by simp [results, Tryz.results7, go_sem, f0, f1]) rfl ?_
      have h1 := ownsRow_setCell_below (ownsRow_setCell_below hown (a := ⟨w.heap.size, 0, none⟩) (by simp) (.int .i64 0)) (a := ⟨w.heap.size, 1, none⟩) (by simp) (.int .i64 0)
      exact ⟨v, rfl, own_le h1 (Nat.le_succ _), (hB.setCell (Nat.le_refl _) _).setCell (Nat.le_refl _) _⟩
end Go.Proofs.YteajmgkdiioflaaGreatDoor
