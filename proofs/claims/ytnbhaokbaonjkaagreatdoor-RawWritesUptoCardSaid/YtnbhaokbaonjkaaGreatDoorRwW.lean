/- RawBack: the law's walk. -/
import Derived.Test.YtnbhaokbaonjkaaGreatDoorRwV
namespace Go.Proofs.YtnbhaokbaonjkaaGreatDoor
open Go Go.RowKit
namespace Rw
theorem parse_size {s : Bytes} {q : Rq} (h : parseN s = some q) : s.length ≤ 65536 := by
  unfold parseN at h
  by_cases hl : 65536 < s.length
  · rw [if_pos hl] at h; cases h
  · omega
theorem rq_sizes (q : Rq) : q.method.length + q.path.length + q.query.length + q.body.length ≤ (textN q).length := by
  have h : q.path.length + q.query.length ≤ (targetN q).length := by
    unfold targetN
    split
    · next h => rw [h]; simp
    · simp only [List.length_append, List.length_cons]; omega
  unfold textN
  simp only [List.length_append]
  omega
section
variable (m p y b s : ByteArray) (A : Option Addr) (c : Nat) (us : List (ByteArray × ByteArray)) (w : World)
set_option maxRecDepth 100000 in
set_option maxHeartbeats 8000000 in
theorem rawBack_any (hA : PairsAt w w.heap.size A us) (hn : us.length ≤ 100000000) (hz : (textB m p y b us).length ≤ 1000000000) (hz2 : p.size + y.size + b.size + m.size ≤ 1000000000) (hs : s.size ≤ 9223372036854700000) (hL : LibR w) :
    Calls Tryz.prog 5 #[.agg #[.string m, .string p, .string y, .slice A us.length c, .string b], .string s] w fun e w' => e = .returned (.bool true) ∧ Below w.heap.size w w' := by
  have HA := Lib.hid hA
  have HL := Lib.hid (fun w' (h : Below w.heap.size w w') => hL.below h)
  have HX := Lib.hid (Blk.new w 39 #[.string m, .string p, .string y, .slice A us.length c, .string b])
  have HB := Lib.hid ((Below.refl w.heap.size w).alloc (Nat.le_refl _) (.cells #[.string m, .string p, .string y, .slice A us.length c, .string b] 39))
  have HT := Lib.hid (fun w' (h : Below w.heap.size w w') => textX m p y b A c us w' ((hA.below' h).up h.size) (by omega) hz hz2 (hL.below h).p)
  have HTz : Hid ((textB m p y b us).length ≤ 1000000000) := hz
  have HPs := Lib.hid (fun w' (h : Below w.heap.size w w') => parse_any s (by omega) w' (hL.below h).p)
  have HAl := Lib.hid (fun w' (h : Below w.heap.size w w') => alive10 w' (hL.below h).lib)
  clear hA hL hz
  go_enter Tryz.func5, Tryz.ntmps5
  go_upto_if 20 with (go_at_call 10; refine (HT.out _ HB.out).mono ?_; rintro e w1 ⟨X, k, rfl, hb1, htr⟩; have HTr := Lib.hid htr.out; have HB1 := Lib.hid (HB.out.trans (hb1.mono HB.out.size)); have HX1 := Lib.hid (blk_below HX.out hb1); clear hb1 htr)
  go_cut [] (fun wx => Below w.heap.size w wx)
  case first =>
    rcases HTr.out with ⟨rfl, hX, q0, hq0, hs0⟩ | ⟨rfl, -, -⟩
    · have HPa := Lib.hid (parse_any X (by rw [hX, bytes_size]; have := HTz.out; omega) w1 (HL.out w1 HB1.out).p)
      have hXl : X.data.toList = textB m p y b us := by rw [hX, bytes_list]
      rw [hXl] at HPa
      have HS0 := Lib.hid hs0
      have HQ0 := Lib.hid hq0
      clear hX hXl hq0 hs0 HTr
      go_wp2_with fail
      refine HPa.out.mono ?_
      rintro e w2 ⟨hb2, ⟨q, A2, d, hq, hql, hqa, rfl⟩ | ⟨hq, why, fat, hw, rfl⟩⟩
      · obtain rfl : q0 = q := by have := HQ0.out.symm.trans hq; injection this
        unfold reqV
        have HB2 := Lib.hid (HB1.out.trans (hb2.mono HB1.out.size))
        have HX2 := Lib.hid (blk_below HX1.out hb2)
        have HQ3 := Lib.hid ((Blk.new w2 39 #[.string (bytes q0.method), .string (bytes q0.path), .string (bytes q0.query), .slice A2 q0.heads.length d, .string (bytes q0.body)]).alloc (.cells #[.int .i64 0, .int .i64 0] 46))
        have hf3 := Blk.new (w2.alloc (.cells #[.string (bytes q0.method), .string (bytes q0.path), .string (bytes q0.query), .slice A2 q0.heads.length d, .string (bytes q0.body)] 39)) 46 #[.int .i64 0, .int .i64 0]
        rw [show (w2.alloc (.cells #[.string (bytes q0.method), .string (bytes q0.path), .string (bytes q0.query), .slice A2 q0.heads.length d, .string (bytes q0.body)] 39)).heap.size = w2.heap.size + 1 by simp] at hf3
        have HF3 := Lib.hid hf3
        have ha3 := ((Below.refl w2.heap.size w2).alloc (Nat.le_refl _) (.cells #[.string (bytes q0.method), .string (bytes q0.path), .string (bytes q0.query), .slice A2 q0.heads.length d, .string (bytes q0.body)] 39)).alloc (by simp) (.cells #[.int .i64 0, .int .i64 0] 46)
        have HA3 := Lib.hid ha3
        have HB3 := Lib.hid (HB2.out.trans (ha3.mono HB2.out.size))
        clear hf3 ha3
        have HX3 := Lib.hid (blk_below HX2.out HA3.out)
        have HPq := Lib.hid (hqa.below HA3.out)
        have HPu := Lib.hid ((HA.out.below' HB3.out).up HB3.out.size)
        have HSm := Lib.hid (rsame10 (bytes q0.method) (bytes q0.path) (bytes q0.query) (bytes q0.body) m p y b A2 A d c (strs q0.heads) us ((w2.alloc (.cells #[.string (bytes q0.method), .string (bytes q0.path), .string (bytes q0.query), .slice A2 q0.heads.length d, .string (bytes q0.body)] 39)).alloc (.cells #[.int .i64 0, .int .i64 0] 46)) HPq.out HPu.out (by simp [strs]; omega) (by omega))
        rw [HS0.out, show (strs q0.heads).length = q0.heads.length by simp [strs]] at HSm
        have y0 : ((w2.alloc (.cells #[.string (bytes q0.method), .string (bytes q0.path), .string (bytes q0.query), .slice A2 q0.heads.length d, .string (bytes q0.body)] 39)).alloc (.cells #[.int .i64 0, .int .i64 0] 46)).cell? ⟨w2.heap.size, 0, none⟩ = some (.string (bytes q0.method)) := HQ3.out.cell 0
        have y1 : ((w2.alloc (.cells #[.string (bytes q0.method), .string (bytes q0.path), .string (bytes q0.query), .slice A2 q0.heads.length d, .string (bytes q0.body)] 39)).alloc (.cells #[.int .i64 0, .int .i64 0] 46)).cell? ⟨w2.heap.size, 1, none⟩ = some (.string (bytes q0.path)) := HQ3.out.cell 1
        have y2 : ((w2.alloc (.cells #[.string (bytes q0.method), .string (bytes q0.path), .string (bytes q0.query), .slice A2 q0.heads.length d, .string (bytes q0.body)] 39)).alloc (.cells #[.int .i64 0, .int .i64 0] 46)).cell? ⟨w2.heap.size, 2, none⟩ = some (.string (bytes q0.query)) := HQ3.out.cell 2
        have y3 : ((w2.alloc (.cells #[.string (bytes q0.method), .string (bytes q0.path), .string (bytes q0.query), .slice A2 q0.heads.length d, .string (bytes q0.body)] 39)).alloc (.cells #[.int .i64 0, .int .i64 0] 46)).cell? ⟨w2.heap.size, 3, none⟩ = some (.slice A2 q0.heads.length d) := HQ3.out.cell 3
        have y4 : ((w2.alloc (.cells #[.string (bytes q0.method), .string (bytes q0.path), .string (bytes q0.query), .slice A2 q0.heads.length d, .string (bytes q0.body)] 39)).alloc (.cells #[.int .i64 0, .int .i64 0] 46)).cell? ⟨w2.heap.size, 4, none⟩ = some (.string (bytes q0.body)) := HQ3.out.cell 4
        have x0 : ((w2.alloc (.cells #[.string (bytes q0.method), .string (bytes q0.path), .string (bytes q0.query), .slice A2 q0.heads.length d, .string (bytes q0.body)] 39)).alloc (.cells #[.int .i64 0, .int .i64 0] 46)).cell? ⟨w.heap.size, 0, none⟩ = some (.string m) := HX3.out.cell 0
        have x1 : ((w2.alloc (.cells #[.string (bytes q0.method), .string (bytes q0.path), .string (bytes q0.query), .slice A2 q0.heads.length d, .string (bytes q0.body)] 39)).alloc (.cells #[.int .i64 0, .int .i64 0] 46)).cell? ⟨w.heap.size, 1, none⟩ = some (.string p) := HX3.out.cell 1
        have x2 : ((w2.alloc (.cells #[.string (bytes q0.method), .string (bytes q0.path), .string (bytes q0.query), .slice A2 q0.heads.length d, .string (bytes q0.body)] 39)).alloc (.cells #[.int .i64 0, .int .i64 0] 46)).cell? ⟨w.heap.size, 2, none⟩ = some (.string y) := HX3.out.cell 2
        have x3 : ((w2.alloc (.cells #[.string (bytes q0.method), .string (bytes q0.path), .string (bytes q0.query), .slice A2 q0.heads.length d, .string (bytes q0.body)] 39)).alloc (.cells #[.int .i64 0, .int .i64 0] 46)).cell? ⟨w.heap.size, 3, none⟩ = some (.slice A us.length c) := HX3.out.cell 3
        have x4 : ((w2.alloc (.cells #[.string (bytes q0.method), .string (bytes q0.path), .string (bytes q0.query), .slice A2 q0.heads.length d, .string (bytes q0.body)] 39)).alloc (.cells #[.int .i64 0, .int .i64 0] 46)).cell? ⟨w.heap.size, 4, none⟩ = some (.string b) := HX3.out.cell 4
        have f0 : ((w2.alloc (.cells #[.string (bytes q0.method), .string (bytes q0.path), .string (bytes q0.query), .slice A2 q0.heads.length d, .string (bytes q0.body)] 39)).alloc (.cells #[.int .i64 0, .int .i64 0] 46)).cell? ⟨w2.heap.size + 1, 0, none⟩ = some (.int .i64 0) := HF3.out.cell 0
        have f1 : ((w2.alloc (.cells #[.string (bytes q0.method), .string (bytes q0.path), .string (bytes q0.query), .slice A2 q0.heads.length d, .string (bytes q0.body)] 39)).alloc (.cells #[.int .i64 0, .int .i64 0] 46)).cell? ⟨w2.heap.size + 1, 1, none⟩ = some (.int .i64 0) := HF3.out.cell 1
        clear HPa HT HPs HAl HX HX1 HX2 HB HA
        go_wp2_with (go_at_call 14; refine HSm.out.mono ?_; rintro e w4 ⟨rfl, hb4⟩; have HB4 := Lib.hid (HB3.out.trans (hb4.mono HB3.out.size)); clear hb4)
        go_meet
        exact HB4.out
      · exact absurd (HQ0.out.symm.trans hq) (by simp)
    · go_wp2_with fail
      go_meet
      exact HB1.out
  case rest =>
    have HC := Lib.hid hcut
    clear hcut HX HX1 HB HB1 HTr HT HA
    go_wp2_with fail
    refine (HPs.out _ HC.out).mono ?_
    rintro e w2 ⟨hb2, ⟨q, A2, d, hq, hql, hqa, rfl⟩ | ⟨hq, why, fat, hw, rfl⟩⟩
    · unfold reqV
      have HB2 := Lib.hid (HC.out.trans (hb2.mono HC.out.size))
      have HQ3 := Lib.hid ((Blk.new w2 39 #[.string (bytes q.method), .string (bytes q.path), .string (bytes q.query), .slice A2 q.heads.length d, .string (bytes q.body)]).alloc (.cells #[.int .i64 0, .int .i64 0] 46))
      have hf3 := Blk.new (w2.alloc (.cells #[.string (bytes q.method), .string (bytes q.path), .string (bytes q.query), .slice A2 q.heads.length d, .string (bytes q.body)] 39)) 46 #[.int .i64 0, .int .i64 0]
      rw [show (w2.alloc (.cells #[.string (bytes q.method), .string (bytes q.path), .string (bytes q.query), .slice A2 q.heads.length d, .string (bytes q.body)] 39)).heap.size = w2.heap.size + 1 by simp] at hf3
      have HF3 := Lib.hid hf3
      have ha3 := ((Below.refl w2.heap.size w2).alloc (Nat.le_refl _) (.cells #[.string (bytes q.method), .string (bytes q.path), .string (bytes q.query), .slice A2 q.heads.length d, .string (bytes q.body)] 39)).alloc (by simp) (.cells #[.int .i64 0, .int .i64 0] 46)
      have HA3 := Lib.hid ha3
      have HB3 := Lib.hid (HB2.out.trans (ha3.mono HB2.out.size))
      clear hf3 ha3
      have y0 : ((w2.alloc (.cells #[.string (bytes q.method), .string (bytes q.path), .string (bytes q.query), .slice A2 q.heads.length d, .string (bytes q.body)] 39)).alloc (.cells #[.int .i64 0, .int .i64 0] 46)).cell? ⟨w2.heap.size, 0, none⟩ = some (.string (bytes q.method)) := HQ3.out.cell 0
      have y1 : ((w2.alloc (.cells #[.string (bytes q.method), .string (bytes q.path), .string (bytes q.query), .slice A2 q.heads.length d, .string (bytes q.body)] 39)).alloc (.cells #[.int .i64 0, .int .i64 0] 46)).cell? ⟨w2.heap.size, 1, none⟩ = some (.string (bytes q.path)) := HQ3.out.cell 1
      have y2 : ((w2.alloc (.cells #[.string (bytes q.method), .string (bytes q.path), .string (bytes q.query), .slice A2 q.heads.length d, .string (bytes q.body)] 39)).alloc (.cells #[.int .i64 0, .int .i64 0] 46)).cell? ⟨w2.heap.size, 2, none⟩ = some (.string (bytes q.query)) := HQ3.out.cell 2
      have y3 : ((w2.alloc (.cells #[.string (bytes q.method), .string (bytes q.path), .string (bytes q.query), .slice A2 q.heads.length d, .string (bytes q.body)] 39)).alloc (.cells #[.int .i64 0, .int .i64 0] 46)).cell? ⟨w2.heap.size, 3, none⟩ = some (.slice A2 q.heads.length d) := HQ3.out.cell 3
      have y4 : ((w2.alloc (.cells #[.string (bytes q.method), .string (bytes q.path), .string (bytes q.query), .slice A2 q.heads.length d, .string (bytes q.body)] 39)).alloc (.cells #[.int .i64 0, .int .i64 0] 46)).cell? ⟨w2.heap.size, 4, none⟩ = some (.string (bytes q.body)) := HQ3.out.cell 4
      have f0 : ((w2.alloc (.cells #[.string (bytes q.method), .string (bytes q.path), .string (bytes q.query), .slice A2 q.heads.length d, .string (bytes q.body)] 39)).alloc (.cells #[.int .i64 0, .int .i64 0] 46)).cell? ⟨w2.heap.size + 1, 0, none⟩ = some (.int .i64 0) := HF3.out.cell 0
      have f1 : ((w2.alloc (.cells #[.string (bytes q.method), .string (bytes q.path), .string (bytes q.query), .slice A2 q.heads.length d, .string (bytes q.body)] 39)).alloc (.cells #[.int .i64 0, .int .i64 0] 46)).cell? ⟨w2.heap.size + 1, 1, none⟩ = some (.int .i64 0) := HF3.out.cell 1
      have hsz := parse_size hq
      obtain ⟨hbk, -⟩ := back hq
      have hrs := rq_sizes q
      have HT2 := Lib.hid (textX (bytes q.method) (bytes q.path) (bytes q.query) (bytes q.body) A2 d (strs q.heads) ((w2.alloc (.cells #[.string (bytes q.method), .string (bytes q.path), .string (bytes q.query), .slice A2 q.heads.length d, .string (bytes q.body)] 39)).alloc (.cells #[.int .i64 0, .int .i64 0] 46)) (hqa.below HA3.out) (by simp [strs]; omega) (by rw [textB_rq]; omega) (by simp only [bytes_size]; omega) (HL.out _ HB3.out).p)
      rw [show (strs q.heads).length = q.heads.length by simp [strs]] at HT2
      have HPu := Lib.hid (fun w' (h : Below ((w2.alloc (.cells #[.string (bytes q.method), .string (bytes q.path), .string (bytes q.query), .slice A2 q.heads.length d, .string (bytes q.body)] 39)).alloc (.cells #[.int .i64 0, .int .i64 0] 46)).heap.size ((w2.alloc (.cells #[.string (bytes q.method), .string (bytes q.path), .string (bytes q.query), .slice A2 q.heads.length d, .string (bytes q.body)] 39)).alloc (.cells #[.int .i64 0, .int .i64 0] 46)) w') => (hqa.below HA3.out).below h)
      have HHq := Lib.hid hq
      have HSl := Lib.hid (Lib.size_eq s)
      clear hq hqa hb2 HPs HA3
      go_upto_if 50 with (go_at_call 10; refine HT2.out.mono ?_; rintro e w4 ⟨X2, k2, rfl, hb4, htr⟩; have HTr2 := Lib.hid htr.out; have HB4 := Lib.hid (HB3.out.trans (hb4.mono HB3.out.size)); have HQ4 := Lib.hid (blk_below HQ3.out hb4); have HPu4 := Lib.hid (HPu.out _ hb4); clear hb4 htr)
      rcases HTr2.out with ⟨rfl, hX2, q2, hq2, hs2⟩ | ⟨rfl, hX2, hno⟩
      · have HPa := Lib.hid (parse_any X2 (by rw [hX2, bytes_size, textB_rq]; omega) w4 (HL.out w4 HB4.out).p)
        have hXl : X2.data.toList = textB (bytes q.method) (bytes q.path) (bytes q.query) (bytes q.body) (strs q.heads) := by rw [hX2, bytes_list]
        rw [hXl] at HPa
        have HS2 := Lib.hid hs2
        have HQ2 := Lib.hid hq2
        clear hX2 hXl hq2 hs2 HTr2 HT2 y0 y1 y2 y3 y4 f0 f1
        go_wp2_with fail
        refine HPa.out.mono ?_
        rintro e w5 ⟨hb5, ⟨q3, A3, d3, hq3, hql3, hqa3, rfl⟩ | ⟨hq3, why, fat, hw, rfl⟩⟩
        · obtain rfl : q2 = q3 := by have := HQ2.out.symm.trans hq3; injection this
          unfold reqV
          have HB5 := Lib.hid (HB4.out.trans (hb5.mono HB4.out.size))
          have HQ5 := Lib.hid (blk_below HQ4.out hb5)
          have HQ6 := Lib.hid ((Blk.new w5 39 #[.string (bytes q2.method), .string (bytes q2.path), .string (bytes q2.query), .slice A3 q2.heads.length d3, .string (bytes q2.body)]).alloc (.cells #[.int .i64 0, .int .i64 0] 46))
          have hf6 := Blk.new (w5.alloc (.cells #[.string (bytes q2.method), .string (bytes q2.path), .string (bytes q2.query), .slice A3 q2.heads.length d3, .string (bytes q2.body)] 39)) 46 #[.int .i64 0, .int .i64 0]
          rw [show (w5.alloc (.cells #[.string (bytes q2.method), .string (bytes q2.path), .string (bytes q2.query), .slice A3 q2.heads.length d3, .string (bytes q2.body)] 39)).heap.size = w5.heap.size + 1 by simp] at hf6
          have HF6 := Lib.hid hf6
          have ha6 := ((Below.refl w5.heap.size w5).alloc (Nat.le_refl _) (.cells #[.string (bytes q2.method), .string (bytes q2.path), .string (bytes q2.query), .slice A3 q2.heads.length d3, .string (bytes q2.body)] 39)).alloc (by simp) (.cells #[.int .i64 0, .int .i64 0] 46)
          have HA6 := Lib.hid ha6
          have HB6 := Lib.hid (HB5.out.trans (ha6.mono HB5.out.size))
          clear hf6 ha6
          have HQ6b := Lib.hid (blk_below HQ5.out HA6.out)
          have HPq := Lib.hid (hqa3.below HA6.out)
          have HPu6 := Lib.hid ((HPu4.out.below hb5).below HA6.out)
          have HSm := Lib.hid (rsame10 (bytes q2.method) (bytes q2.path) (bytes q2.query) (bytes q2.body) (bytes q.method) (bytes q.path) (bytes q.query) (bytes q.body) A3 A2 d3 d (strs q2.heads) (strs q.heads) ((w5.alloc (.cells #[.string (bytes q2.method), .string (bytes q2.path), .string (bytes q2.query), .slice A3 q2.heads.length d3, .string (bytes q2.body)] 39)).alloc (.cells #[.int .i64 0, .int .i64 0] 46)) HPq.out HPu6.out (by simp [strs]; omega) (by simp [strs]; omega))
          rw [HS2.out, show (strs q2.heads).length = q2.heads.length by simp [strs], show (strs q.heads).length = q.heads.length by simp [strs]] at HSm
          have y0 : ((w5.alloc (.cells #[.string (bytes q2.method), .string (bytes q2.path), .string (bytes q2.query), .slice A3 q2.heads.length d3, .string (bytes q2.body)] 39)).alloc (.cells #[.int .i64 0, .int .i64 0] 46)).cell? ⟨w5.heap.size, 0, none⟩ = some (.string (bytes q2.method)) := HQ6.out.cell 0
          have y1 : ((w5.alloc (.cells #[.string (bytes q2.method), .string (bytes q2.path), .string (bytes q2.query), .slice A3 q2.heads.length d3, .string (bytes q2.body)] 39)).alloc (.cells #[.int .i64 0, .int .i64 0] 46)).cell? ⟨w5.heap.size, 1, none⟩ = some (.string (bytes q2.path)) := HQ6.out.cell 1
          have y2 : ((w5.alloc (.cells #[.string (bytes q2.method), .string (bytes q2.path), .string (bytes q2.query), .slice A3 q2.heads.length d3, .string (bytes q2.body)] 39)).alloc (.cells #[.int .i64 0, .int .i64 0] 46)).cell? ⟨w5.heap.size, 2, none⟩ = some (.string (bytes q2.query)) := HQ6.out.cell 2
          have y3 : ((w5.alloc (.cells #[.string (bytes q2.method), .string (bytes q2.path), .string (bytes q2.query), .slice A3 q2.heads.length d3, .string (bytes q2.body)] 39)).alloc (.cells #[.int .i64 0, .int .i64 0] 46)).cell? ⟨w5.heap.size, 3, none⟩ = some (.slice A3 q2.heads.length d3) := HQ6.out.cell 3
          have y4 : ((w5.alloc (.cells #[.string (bytes q2.method), .string (bytes q2.path), .string (bytes q2.query), .slice A3 q2.heads.length d3, .string (bytes q2.body)] 39)).alloc (.cells #[.int .i64 0, .int .i64 0] 46)).cell? ⟨w5.heap.size, 4, none⟩ = some (.string (bytes q2.body)) := HQ6.out.cell 4
          have x0 : ((w5.alloc (.cells #[.string (bytes q2.method), .string (bytes q2.path), .string (bytes q2.query), .slice A3 q2.heads.length d3, .string (bytes q2.body)] 39)).alloc (.cells #[.int .i64 0, .int .i64 0] 46)).cell? ⟨w2.heap.size, 0, none⟩ = some (.string (bytes q.method)) := HQ6b.out.cell 0
          have x1 : ((w5.alloc (.cells #[.string (bytes q2.method), .string (bytes q2.path), .string (bytes q2.query), .slice A3 q2.heads.length d3, .string (bytes q2.body)] 39)).alloc (.cells #[.int .i64 0, .int .i64 0] 46)).cell? ⟨w2.heap.size, 1, none⟩ = some (.string (bytes q.path)) := HQ6b.out.cell 1
          have x2 : ((w5.alloc (.cells #[.string (bytes q2.method), .string (bytes q2.path), .string (bytes q2.query), .slice A3 q2.heads.length d3, .string (bytes q2.body)] 39)).alloc (.cells #[.int .i64 0, .int .i64 0] 46)).cell? ⟨w2.heap.size, 2, none⟩ = some (.string (bytes q.query)) := HQ6b.out.cell 2
          have x3 : ((w5.alloc (.cells #[.string (bytes q2.method), .string (bytes q2.path), .string (bytes q2.query), .slice A3 q2.heads.length d3, .string (bytes q2.body)] 39)).alloc (.cells #[.int .i64 0, .int .i64 0] 46)).cell? ⟨w2.heap.size, 3, none⟩ = some (.slice A2 q.heads.length d) := HQ6b.out.cell 3
          have x4 : ((w5.alloc (.cells #[.string (bytes q2.method), .string (bytes q2.path), .string (bytes q2.query), .slice A3 q2.heads.length d3, .string (bytes q2.body)] 39)).alloc (.cells #[.int .i64 0, .int .i64 0] 46)).cell? ⟨w2.heap.size, 4, none⟩ = some (.string (bytes q.body)) := HQ6b.out.cell 4
          have f0 : ((w5.alloc (.cells #[.string (bytes q2.method), .string (bytes q2.path), .string (bytes q2.query), .slice A3 q2.heads.length d3, .string (bytes q2.body)] 39)).alloc (.cells #[.int .i64 0, .int .i64 0] 46)).cell? ⟨w5.heap.size + 1, 0, none⟩ = some (.int .i64 0) := HF6.out.cell 0
          have f1 : ((w5.alloc (.cells #[.string (bytes q2.method), .string (bytes q2.path), .string (bytes q2.query), .slice A3 q2.heads.length d3, .string (bytes q2.body)] 39)).alloc (.cells #[.int .i64 0, .int .i64 0] 46)).cell? ⟨w5.heap.size + 1, 1, none⟩ = some (.int .i64 0) := HF6.out.cell 1
          clear HPa HB4 HB5 HQ4 HQ5 HPq HPu6 HPu4 HPu HQ3 HF3
          go_wp2_with (first
            | (go_at_call 14; refine HSm.out.mono ?_; rintro e w7 ⟨rfl, hb7⟩; have HB7 := Lib.hid (HB6.out.trans (hb7.mono HB6.out.size)); clear hb7)
            | (go_at_call 12; refine (HAl.out _ HB7.out).mono ?_; rintro e w8 ⟨rfl, hb8⟩; have HB8 := Lib.hid (HB7.out.trans (hb8.mono HB7.out.size)); clear hb8))
          go_ret
          exact ⟨rfl, HB8.out⟩
        · exact absurd (HQ2.out.symm.trans hq3) (by simp)
      · have hrd := text_read HHq.out (.inr ⟨rfl, hX2, hno⟩) (by decide)
        rw [← HSl.out] at hrd
        have hsz2 : s.size ≤ 65536 := by rw [HSl.out]; exact hsz
        clear hX2 hno HTr2 hbk hrs hsz HT2 HPu HPu4 y0 y1 y2 y3 y4 f0 f1
        have y2 : w4.cell? ⟨w2.heap.size, 2, none⟩ = some (.string (bytes q.query)) := HQ4.out.cell 2
        have y3 : w4.cell? ⟨w2.heap.size, 3, none⟩ = some (.slice A2 q.heads.length d) := HQ4.out.cell 3
        have hwr : IntKind.i64.wrap ((s.size : Int) + (q.heads.length : Int)) = (s.size : Int) + (q.heads.length : Int) := IntWalk.i64_in _ (by omega)
        by_cases hbig : 65536 < s.size + q.heads.length
        · have hbI : (65536 : Int) < (s.size : Int) + (q.heads.length : Int) := by omega
          clear hrd
          go_wp2_with fail
          go_ret
          exact ⟨rfl, HB4.out⟩
        · have hbI : ¬ ((65536 : Int) < (s.size : Int) + (q.heads.length : Int)) := by omega
          have hqe : q.query = [] := hrd.resolve_left hbig
          have he : (bytes q.query).toList.isEmpty = true := by rw [hqe, Lib.toList_data, bytes_list]; rfl
          clear hrd hqe
          go_wp2_with (go_at_call 12; refine (HAl.out _ HB4.out).mono ?_; rintro e w8 ⟨rfl, hb8⟩; have HB8 := Lib.hid (HB4.out.trans (hb8.mono HB4.out.size)); clear hb8)
          go_ret
          exact ⟨rfl, HB8.out⟩
    · unfold req0
      have HB2 := Lib.hid (HC.out.trans (hb2.mono HC.out.size))
      have HQ3 := Lib.hid ((Blk.new w2 39 #[.string ⟨#[]⟩, .string ⟨#[]⟩, .string ⟨#[]⟩, .slice none 0 0, .string ⟨#[]⟩]).alloc (.cells #[.int .i64 why, .int .i64 fat] 46))
      have hf3 := Blk.new (w2.alloc (.cells #[.string ⟨#[]⟩, .string ⟨#[]⟩, .string ⟨#[]⟩, .slice none 0 0, .string ⟨#[]⟩] 39)) 46 #[.int .i64 why, .int .i64 fat]
      rw [show (w2.alloc (.cells #[.string ⟨#[]⟩, .string ⟨#[]⟩, .string ⟨#[]⟩, .slice none 0 0, .string ⟨#[]⟩] 39)).heap.size = w2.heap.size + 1 by simp] at hf3
      have HF3 := Lib.hid hf3
      have ha3 := ((Below.refl w2.heap.size w2).alloc (Nat.le_refl _) (.cells #[.string ⟨#[]⟩, .string ⟨#[]⟩, .string ⟨#[]⟩, .slice none 0 0, .string ⟨#[]⟩] 39)).alloc (by simp) (.cells #[.int .i64 why, .int .i64 fat] 46)
      have HA3 := Lib.hid ha3
      have HB3 := Lib.hid (HB2.out.trans (ha3.mono HB2.out.size))
      clear hf3 ha3
      have f0 : ((w2.alloc (.cells #[.string ⟨#[]⟩, .string ⟨#[]⟩, .string ⟨#[]⟩, .slice none 0 0, .string ⟨#[]⟩] 39)).alloc (.cells #[.int .i64 why, .int .i64 fat] 46)).cell? ⟨w2.heap.size + 1, 0, none⟩ = some (.int .i64 why) := HF3.out.cell 0
      have f1 : ((w2.alloc (.cells #[.string ⟨#[]⟩, .string ⟨#[]⟩, .string ⟨#[]⟩, .slice none 0 0, .string ⟨#[]⟩] 39)).alloc (.cells #[.int .i64 why, .int .i64 fat] 46)).cell? ⟨w2.heap.size + 1, 1, none⟩ = some (.int .i64 fat) := HF3.out.cell 1
      have hwb : (why == 0) = false := beq_eq_false_iff_ne.2 hw
      clear HPs HA3 hb2
      go_wp2_with (go_at_call 12; refine (HAl.out _ HB3.out).mono ?_; rintro e w4 ⟨rfl, hb4⟩; have HB4 := Lib.hid (HB3.out.trans (hb4.mono HB3.out.size)); clear hb4)
      go_ret
      exact ⟨rfl, HB4.out⟩
end
end Rw
end Go.Proofs.YtnbhaokbaonjkaaGreatDoor
