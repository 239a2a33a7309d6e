/- ostlerref10.Text: the walk. -/
import Derived.Test.YtnbhaokbaonjkaaGreatDoorRvG
import Derived.Test.YtnbhaokbaonjkaaGreatDoorRwV
namespace Go.Proofs.YtnbhaokbaonjkaaGreatDoor
open Go Go.RowKit
namespace Rv
open Go.Proofs.YtnbhaokbaonjkaaGreatDoor.Rw
section
variable (m p y b : ByteArray) (A : Option Addr) (c : Nat) (us : List (ByteArray × ByteArray)) (w : World)
set_option maxRecDepth 100000 in
set_option maxHeartbeats 8000000 in
theorem rtextX (hA : PairsAt w w.heap.size A us) (hn : us.length ≤ 1000000000) (hz : (textB m p y b us).length ≤ 1000000000) (hz2 : p.size + y.size + b.size + m.size ≤ 1000000000) :
    Calls Tryz.prog 11 #[.agg #[.string m, .string p, .string y, .slice A us.length c, .string b]] w fun e w' => ∃ X k, e = .returned (.tuple #[.string X, .int .i64 k]) ∧ Below w.heap.size w w' ∧ Hid (TextR m p y b us X k) := by
  have HA := Lib.hid hA
  have x0 := (Blk.new w 39 #[.string m, .string p, .string y, .slice A us.length c, .string b])
  have b0 := ((Below.refl w.heap.size w).alloc (Nat.le_refl _) (.cells #[.string m, .string p, .string y, .slice A us.length c, .string b] 39))
  have HX := Lib.hid x0; have HB := Lib.hid b0
  have HT := Lib.hid (fun w' (h : Below w.heap.size w w') => rtext_any m p y b A c us w' ((hA.below' h).up h.size) hn hz hz2)
  obtain ⟨T, HTe⟩ : ∃ T, Hid (textB m p y b us = T) := ⟨_, rfl⟩
  rw [HTe.out] at HT hz
  have hPs := fun w' => rparse_any (Rw.bytes T) (by rw [bytes_size]; omega) w'
  rw [bytes_list] at hPs
  have HPs := Lib.hid hPs
  clear x0 b0 hA hPs
  go_enter Tryz.func11, Tryz.ntmps11
  go_upto_region 1 with (fail)
  generalize hw1 : w.alloc (.cells #[.string m, .string p, .string y, .slice A us.length c, .string b] 39) = w1 at *
  clear hw1
  have c0 : w1.cell? ⟨w.heap.size, 0, none⟩ = some (.string m) := HX.out.cell 0
  have c1 : w1.cell? ⟨w.heap.size, 1, none⟩ = some (.string p) := HX.out.cell 1
  have c2 : w1.cell? ⟨w.heap.size, 2, none⟩ = some (.string y) := HX.out.cell 2
  have c3 : w1.cell? ⟨w.heap.size, 3, none⟩ = some (.slice A us.length c) := HX.out.cell 3
  have c4 : w1.cell? ⟨w.heap.size, 4, none⟩ = some (.string b) := HX.out.cell 4
  go_wp2_with (go_at_call 29; refine (HT.out _ HB.out).mono ?_; rintro e w3 ⟨rfl, hb3⟩; have HB3 := Lib.hid (HB.out.trans (hb3.mono HB.out.size)); have HX3 := Lib.hid (blk_below HX.out hb3); clear hb3)
  refine (HPs.out _).mono ?_
  rintro e w4 ⟨hb4, ⟨q, A2, d, hq, hql, hqa, rfl⟩ | ⟨hq, why, fat, hw, rfl⟩⟩
  · unfold reqV
    have HB4 := Lib.hid (HB3.out.trans (hb4.mono HB3.out.size))
    have HX4 := Lib.hid (blk_below HX3.out hb4)
    have HQ6 := Lib.hid ((Blk.new w4 39 #[.string (Rw.bytes q.method), .string (Rw.bytes q.path), .string (Rw.bytes q.query), .slice A2 q.heads.length d, .string (Rw.bytes q.body)]).alloc (.cells #[.int .i64 0, .int .i64 0] 46))
    have hf6 := Blk.new (w4.alloc (.cells #[.string (Rw.bytes q.method), .string (Rw.bytes q.path), .string (Rw.bytes q.query), .slice A2 q.heads.length d, .string (Rw.bytes q.body)] 39)) 46 #[.int .i64 0, .int .i64 0]
    rw [show (w4.alloc (.cells #[.string (Rw.bytes q.method), .string (Rw.bytes q.path), .string (Rw.bytes q.query), .slice A2 q.heads.length d, .string (Rw.bytes q.body)] 39)).heap.size = w4.heap.size + 1 by simp] at hf6
    have HF6 := Lib.hid hf6
    have ha5 := ((Below.refl w4.heap.size w4).alloc (Nat.le_refl _) (.cells #[.string (Rw.bytes q.method), .string (Rw.bytes q.path), .string (Rw.bytes q.query), .slice A2 q.heads.length d, .string (Rw.bytes q.body)] 39)).alloc (by simp) (.cells #[.int .i64 0, .int .i64 0] 46)
    have HX6 := Lib.hid (blk_below HX4.out ha5)
    have HB6 := Lib.hid (HB4.out.trans (ha5.mono HB4.out.size))
    have HPq := Lib.hid (hqa.below ha5)
    have HPu := Lib.hid ((HA.out.below' HB6.out).up HB6.out.size)
    have HQq := Lib.hid hq
    have HSm := Lib.hid (rsame10 (Rw.bytes q.method) (Rw.bytes q.path) (Rw.bytes q.query) (Rw.bytes q.body) m p y b A2 A d c (strs q.heads) us ((w4.alloc (.cells #[.string (Rw.bytes q.method), .string (Rw.bytes q.path), .string (Rw.bytes q.query), .slice A2 q.heads.length d, .string (Rw.bytes q.body)] 39)).alloc (.cells #[.int .i64 0, .int .i64 0] 46)) HPq.out HPu.out (by simp [strs]; omega) hn)
    rw [show (strs q.heads).length = q.heads.length by simp [strs]] at HSm
    clear hq hqa hf6 ha5 hb4 HX4 HB4 HX3 HB3 HX HB c0 c1 c2 c3 c4 HPs HT
    have x0 : ((w4.alloc (.cells #[.string (Rw.bytes q.method), .string (Rw.bytes q.path), .string (Rw.bytes q.query), .slice A2 q.heads.length d, .string (Rw.bytes q.body)] 39)).alloc (.cells #[.int .i64 0, .int .i64 0] 46)).cell? ⟨w.heap.size, 0, none⟩ = some (.string m) := HX6.out.cell 0
    have x1 : ((w4.alloc (.cells #[.string (Rw.bytes q.method), .string (Rw.bytes q.path), .string (Rw.bytes q.query), .slice A2 q.heads.length d, .string (Rw.bytes q.body)] 39)).alloc (.cells #[.int .i64 0, .int .i64 0] 46)).cell? ⟨w.heap.size, 1, none⟩ = some (.string p) := HX6.out.cell 1
    have x2 : ((w4.alloc (.cells #[.string (Rw.bytes q.method), .string (Rw.bytes q.path), .string (Rw.bytes q.query), .slice A2 q.heads.length d, .string (Rw.bytes q.body)] 39)).alloc (.cells #[.int .i64 0, .int .i64 0] 46)).cell? ⟨w.heap.size, 2, none⟩ = some (.string y) := HX6.out.cell 2
    have x3 : ((w4.alloc (.cells #[.string (Rw.bytes q.method), .string (Rw.bytes q.path), .string (Rw.bytes q.query), .slice A2 q.heads.length d, .string (Rw.bytes q.body)] 39)).alloc (.cells #[.int .i64 0, .int .i64 0] 46)).cell? ⟨w.heap.size, 3, none⟩ = some (.slice A us.length c) := HX6.out.cell 3
    have x4 : ((w4.alloc (.cells #[.string (Rw.bytes q.method), .string (Rw.bytes q.path), .string (Rw.bytes q.query), .slice A2 q.heads.length d, .string (Rw.bytes q.body)] 39)).alloc (.cells #[.int .i64 0, .int .i64 0] 46)).cell? ⟨w.heap.size, 4, none⟩ = some (.string b) := HX6.out.cell 4
    have y0 : ((w4.alloc (.cells #[.string (Rw.bytes q.method), .string (Rw.bytes q.path), .string (Rw.bytes q.query), .slice A2 q.heads.length d, .string (Rw.bytes q.body)] 39)).alloc (.cells #[.int .i64 0, .int .i64 0] 46)).cell? ⟨w4.heap.size, 0, none⟩ = some (.string (Rw.bytes q.method)) := HQ6.out.cell 0
    have y1 : ((w4.alloc (.cells #[.string (Rw.bytes q.method), .string (Rw.bytes q.path), .string (Rw.bytes q.query), .slice A2 q.heads.length d, .string (Rw.bytes q.body)] 39)).alloc (.cells #[.int .i64 0, .int .i64 0] 46)).cell? ⟨w4.heap.size, 1, none⟩ = some (.string (Rw.bytes q.path)) := HQ6.out.cell 1
    have y2 : ((w4.alloc (.cells #[.string (Rw.bytes q.method), .string (Rw.bytes q.path), .string (Rw.bytes q.query), .slice A2 q.heads.length d, .string (Rw.bytes q.body)] 39)).alloc (.cells #[.int .i64 0, .int .i64 0] 46)).cell? ⟨w4.heap.size, 2, none⟩ = some (.string (Rw.bytes q.query)) := HQ6.out.cell 2
    have y3 : ((w4.alloc (.cells #[.string (Rw.bytes q.method), .string (Rw.bytes q.path), .string (Rw.bytes q.query), .slice A2 q.heads.length d, .string (Rw.bytes q.body)] 39)).alloc (.cells #[.int .i64 0, .int .i64 0] 46)).cell? ⟨w4.heap.size, 3, none⟩ = some (.slice A2 q.heads.length d) := HQ6.out.cell 3
    have y4 : ((w4.alloc (.cells #[.string (Rw.bytes q.method), .string (Rw.bytes q.path), .string (Rw.bytes q.query), .slice A2 q.heads.length d, .string (Rw.bytes q.body)] 39)).alloc (.cells #[.int .i64 0, .int .i64 0] 46)).cell? ⟨w4.heap.size, 4, none⟩ = some (.string (Rw.bytes q.body)) := HQ6.out.cell 4
    have f0 : ((w4.alloc (.cells #[.string (Rw.bytes q.method), .string (Rw.bytes q.path), .string (Rw.bytes q.query), .slice A2 q.heads.length d, .string (Rw.bytes q.body)] 39)).alloc (.cells #[.int .i64 0, .int .i64 0] 46)).cell? ⟨w4.heap.size + 1, 0, none⟩ = some (.int .i64 0) := HF6.out.cell 0
    have f1 : ((w4.alloc (.cells #[.string (Rw.bytes q.method), .string (Rw.bytes q.path), .string (Rw.bytes q.query), .slice A2 q.heads.length d, .string (Rw.bytes q.body)] 39)).alloc (.cells #[.int .i64 0, .int .i64 0] 46)).cell? ⟨w4.heap.size + 1, 1, none⟩ = some (.int .i64 0) := HF6.out.cell 1
    cases hS : sameQ (Rw.bytes q.method) (Rw.bytes q.path) (Rw.bytes q.query) (Rw.bytes q.body) m p y b (strs q.heads) us with
    | false =>
      rw [hS] at HSm
      have HSs := Lib.hid hS
      clear hS
      go_wp2_with (go_at_call 14; refine HSm.out.mono ?_; rintro e w7 ⟨rfl, hb7⟩; have HB7 := Lib.hid (HB6.out.trans (hb7.mono HB6.out.size)); clear hb7)
      go_ret2
      exact ⟨_, _, rfl, HB7.out, .inr ⟨rfl, rfl, fun q' hq' => by rw [HTe.out] at hq'; have e9 := HQq.out.symm.trans hq'; injection e9 with e9; rw [← e9]; exact HSs.out⟩⟩
    | true =>
      rw [hS] at HSm
      have HSs := Lib.hid hS
      clear hS
      go_wp2_with (go_at_call 14; refine HSm.out.mono ?_; rintro e w7 ⟨rfl, hb7⟩; have HB7 := Lib.hid (HB6.out.trans (hb7.mono HB6.out.size)); clear hb7)
      go_ret2
      exact ⟨_, _, rfl, HB7.out, .inl ⟨rfl, by rw [HTe.out], q, by rw [HTe.out]; exact HQq.out, HSs.out⟩⟩
  · unfold req0
    have HB4 := Lib.hid (HB3.out.trans (hb4.mono HB3.out.size))
    have HX4 := Lib.hid (blk_below HX3.out hb4)
    have HQ6 := Lib.hid ((Blk.new w4 39 #[.string ⟨#[]⟩, .string ⟨#[]⟩, .string ⟨#[]⟩, .slice none 0 0, .string ⟨#[]⟩]).alloc (.cells #[.int .i64 why, .int .i64 fat] 46))
    have hf6 := Blk.new (w4.alloc (.cells #[.string ⟨#[]⟩, .string ⟨#[]⟩, .string ⟨#[]⟩, .slice none 0 0, .string ⟨#[]⟩] 39)) 46 #[.int .i64 why, .int .i64 fat]
    rw [show (w4.alloc (.cells #[.string ⟨#[]⟩, .string ⟨#[]⟩, .string ⟨#[]⟩, .slice none 0 0, .string ⟨#[]⟩] 39)).heap.size = w4.heap.size + 1 by simp] at hf6
    have HF6 := Lib.hid hf6
    have ha5 := ((Below.refl w4.heap.size w4).alloc (Nat.le_refl _) (.cells #[.string ⟨#[]⟩, .string ⟨#[]⟩, .string ⟨#[]⟩, .slice none 0 0, .string ⟨#[]⟩] 39)).alloc (by simp) (.cells #[.int .i64 why, .int .i64 fat] 46)
    have HX6 := Lib.hid (blk_below HX4.out ha5)
    have HB6 := Lib.hid (HB4.out.trans (ha5.mono HB4.out.size))
    have HNq := Lib.hid hq
    clear hq hf6 ha5 hb4 HX4 HB4 HX3 HB3 HX HB c0 c1 c2 c3 c4 HPs HT
    have hwb : (why == 0) = false := beq_eq_false_iff_ne.2 hw
    have f0 : ((w4.alloc (.cells #[.string ⟨#[]⟩, .string ⟨#[]⟩, .string ⟨#[]⟩, .slice none 0 0, .string ⟨#[]⟩] 39)).alloc (.cells #[.int .i64 why, .int .i64 fat] 46)).cell? ⟨w4.heap.size + 1, 0, none⟩ = some (.int .i64 why) := HF6.out.cell 0
    have f1 : ((w4.alloc (.cells #[.string ⟨#[]⟩, .string ⟨#[]⟩, .string ⟨#[]⟩, .slice none 0 0, .string ⟨#[]⟩] 39)).alloc (.cells #[.int .i64 why, .int .i64 fat] 46)).cell? ⟨w4.heap.size + 1, 1, none⟩ = some (.int .i64 fat) := HF6.out.cell 1
    go_wp2_with fail
    go_ret2
    exact ⟨_, _, rfl, HB6.out, .inr ⟨rfl, rfl, fun q' hq' => by rw [HTe.out] at hq'; exact absurd (HNq.out.symm.trans hq') (by simp)⟩⟩
end
end Rv
end Go.Proofs.YtnbhaokbaonjkaaGreatDoor
