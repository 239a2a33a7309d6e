/- ostlerref10.text: the walk. -/
import Derived.Test.YtnbhaokbaonjkaaGreatDoorRvF
namespace Go.Proofs.YtnbhaokbaonjkaaGreatDoor
open Go Go.RowKit
namespace Rv
open Go.Proofs.YtnbhaokbaonjkaaGreatDoor.Rw
theorem RowX.drew {B : Nat} {v : Value} {l : Bytes} {w : World} (h : RowX B v l w) : RowX B v l w.drew := h
theorem RowX.back {B : Nat} {v : Value} {l : Bytes} {w : World} (h : RowX B v l w) : (convert 67 9 v).run Tryz.prog w = .ok (.string (Rw.bytes l)) w := by
  rcases h with h | ⟨g, cap, cur, fz, rfl, -, hb, -, -, -, -, htk⟩
  · rcases h.2 with ⟨rfl, h0⟩ | ⟨g, cap, cur, rfl, _⟩
    · obtain rfl := List.eq_nil_of_length_eq_zero h0
      simp [convert, go_sem]
      rfl
    · refine run_convert_bytes_back w _ _ 5 ⟨g, 0, none⟩ cap l Tryz.underlying67 Tryz.underlying5 Tryz.underlying9 fun j hj => ?_
      exact h.cells (g := g) rfl j _ (by simp [Lib.byteCells, List.getElem?_map, List.getElem?_eq_getElem hj])
  · refine run_convert_bytes_back w _ _ 5 ⟨g, 0, none⟩ cap l Tryz.underlying67 Tryz.underlying5 Tryz.underlying9 fun j hj => ?_
    rw [addr_row, cell_of_row w g j cur _ fz hb]
    have hu : (Lib.byteCells l)[j]? = some (.int .u8 (l[j].toNat : Int)) := by simp [Lib.byteCells, List.getElem?_map, List.getElem?_eq_getElem hj]
    rw [← htk, List.getElem?_take, if_pos hj] at hu
    simpa using hu
theorem row_from (B : Nat) (s : ByteArray) (w : World) (hB : B ≤ w.heap.size) (hs : s.size ≤ 1000000000) : ∃ v w', (convert 9 67 (.string s)).run Tryz.prog w = .ok v w' ∧ RowX B v s.data.toList w' ∧ Below w.heap.size w w' := by
  have hr := run_bytes_of_string (P := Tryz.prog) w 9 67 5 s Tryz.underlying9 Tryz.underlying67 Tryz.underlying5
  have hge := grownCap_ge w s.size 0 5
  have hcm := grownCap_le_maxLen w s.size 0 5 (by unfold maxLen; omega)
  generalize grownCap w s.size 0 5 = cap at hr hge hcm
  have hsz : (bytesRow s cap).size = cap := by
    unfold bytesRow
    simp only [Array.size_append, Array.size_map, Array.size_replicate]
    have : s.data.size = s.size := rfl
    omega
  have hss := Lib.size_eq s
  rw [hsz] at hr
  refine ⟨_, _, hr, .inr ⟨w.heap.size, cap, bytesRow s cap, (cap, cap + 1), by rw [← hss], hB, heap_alloc_new w.drew _, Nat.le_refl _, by omega, hcm, hsz, ?_⟩, ⟨rfl, rfl, rfl, by simp, fun k hk => heap_alloc_old w.drew _ hk⟩⟩
  have hc : (bytesRow s cap).toList = Lib.byteCells s.data.toList ++ List.replicate (cap - s.size) (.int .u8 0) := by
    unfold bytesRow Lib.byteCells
    simp
  rw [hc, ← Lib.byteCells_length s.data.toList]
  exact List.take_left
theorem wp_app_X {o : Oper} {a : Act} {w : World} {K : Act → World → Prop} {Q : Exit → Act → World → Prop} (s x : Operand)
    (ho : o.op = .call { callee := .builtin .append, args := #[s, x], argTypes := #[67, 9] })
    (B : Nat) (v : Value) (l : Bytes) (hs : a.eval s = v) (h : RowX B v l w) (hB : B ≤ w.heap.size) (t : ByteArray) (hx : a.eval x = .string t) (hlen : l.length + t.size ≤ 1000000000)
    (hK : ∀ v' w', RowX B v' (l ++ t.data.toList) w' → Below B w w' → K (a.put o.dst v') w') : o.wp Tryz.prog a w K Q := by
  obtain ⟨v', w', row, hrun, h2, h3, h4⟩ := run_app_X h hB o.type t hlen
  unfold Oper.wp execOp
  simp only [ho, resolve, invoke, builtin, Sem.run_bind, Sem.run_pure, Result.andThen_ok, List.map_toArray, List.map_cons, List.map_nil, hs, hx, hrun]
  exact hK v' w' h2 ((Below.refl B w).grown h3 hB h4)
theorem wpList_app_X {ops : Array Oper} {rest : List Oper} {o : Oper} {a : Act} {w : World} {Q : Exit → Act → World → Prop} (hgd : o.guard = none) (s x : Operand)
    (ho : o.op = .call { callee := .builtin .append, args := #[s, x], argTypes := #[67, 9] })
    (B : Nat) (v : Value) (l : Bytes) (hs : a.eval s = v) (h : RowX B v l w) (hB : B ≤ w.heap.size) (t : ByteArray) (hx : a.eval x = .string t) (hlen : l.length + t.size ≤ 1000000000)
    (hK : ∀ v' w', RowX B v' (l ++ t.data.toList) w' → Below B w w' → wpList Tryz.prog ops Q rest (a.put o.dst v') w') : wpList Tryz.prog ops Q (o :: rest) a w :=
  wpList_plain hgd fun _ hK' => wp_app_X s x ho B v l hs h hB t hx hlen fun v' w' h1 h2 => hK' _ _ (hK v' w' h1 h2)
theorem step_app_X {ops : Array Oper} {o : Oper} {a : Act} {w : World} {K : Act → World → Prop} {Q : Exit → Act → World → Prop} {E : Prop} (hgd : o.guard = none) (s x : Operand)
    (ho : o.op = .call { callee := .builtin .append, args := #[s, x], argTypes := #[67, 9] })
    (B : Nat) (v : Value) (l : Bytes) (hs : a.eval s = v) (h : RowX B v l w) (hB : B ≤ w.heap.size) (t : ByteArray) (hx : a.eval x = .string t) (hlen : l.length + t.size ≤ 1000000000)
    (hK : ∀ v' w', RowX B v' (l ++ t.data.toList) w' → Below B w w' → K (a.put o.dst v') w') : if Region.wanted o (yielded ops a.tmps) = true then Oper.wp Tryz.prog o a w K Q else E := by
  have hw : Region.wanted o (yielded ops a.tmps) = true := by simp [Region.wanted, hgd]
  rw [if_pos hw]
  exact wp_app_X s x ho B v l hs h hB t hx hlen hK
section
variable (m p y b : ByteArray) (A : Option Addr) (c : Nat) (us : List (ByteArray × ByteArray)) (w : World)
set_option maxRecDepth 100000 in
set_option maxHeartbeats 8000000 in
theorem rtext_any (hA : PairsAt w w.heap.size A us) (hn : us.length ≤ 1000000000) (hz : (textB m p y b us).length ≤ 1000000000) (hz2 : p.size + y.size + b.size + m.size ≤ 1000000000) :
    Calls Tryz.prog 29 #[.agg #[.string m, .string p, .string y, .slice A us.length c, .string b]] w fun e w' => e = .returned (.string (Rw.bytes (textB m p y b us))) ∧ Below w.heap.size w w' := by
  have HA := Lib.hid hA
  have hft : (firstB m p y).length + (headsB us).length + (2 + b.size) = (textB m p y b us).length := by
    unfold textB
    rw [List.length_append, List.length_append, ← Lib.size_eq (⟨#[13, 10]⟩ ++ b)]
    simp [ByteArray.size_append]
    rfl
  have x0 := (Blk.new w 39 #[.string m, .string p, .string y, .slice A us.length c, .string b])
  have b0 := ((Below.refl w.heap.size w).alloc (Nat.le_refl _) (.cells #[.string m, .string p, .string y, .slice A us.length c, .string b] 39))
  have hfl : (firstB m p y).length = (m ++ ⟨#[32]⟩ ++ p : ByteArray).size + (if y.toList.isEmpty = true then 0 else 1 + y.size) + 11 := by
    unfold firstB targetB
    rw [← Lib.size_eq]
    have e1 : (⟨#[63]⟩ : ByteArray).size = 1 := rfl
    have e2 : (⟨#[32, 72, 84, 84, 80, 47, 49, 46, 49, 13, 10]⟩ : ByteArray).size = 11 := rfl
    split <;> simp only [ByteArray.size_append, e1, e2] <;> omega
  have hfe : firstB m p y = (if y.toList.isEmpty = true then (m ++ ⟨#[32]⟩ ++ p : ByteArray).data.toList else (m ++ ⟨#[32]⟩ ++ p : ByteArray).data.toList ++ (⟨#[63]⟩ ++ y : ByteArray).data.toList) ++ (⟨#[32, 72, 84, 84, 80, 47, 49, 46, 49, 13, 10]⟩ : ByteArray).data.toList := by
    unfold firstB targetB
    split <;> simp
  have HX := Lib.hid x0; have HB := Lib.hid b0
  obtain ⟨T, HT⟩ : ∃ T, Hid (textB m p y b us = T) := ⟨_, rfl⟩
  rw [HT.out] at hft hz ⊢
  have HFt := Lib.hid hft; have HFl := Lib.hid hfl; have HFe := Lib.hid hfe
  clear x0 b0 hA hft hfl hfe
  go_enter Tryz.func29, Tryz.ntmps29
  go_upto_region 1 with (fail)
  generalize hw1 : w.alloc (.cells #[.string m, .string p, .string y, .slice A us.length c, .string b] 39) = w1 at *
  clear hw1
  have c0 : w1.cell? ⟨w.heap.size, 0, none⟩ = some (.string m) := HX.out.cell 0
  have c1 : w1.cell? ⟨w.heap.size, 1, none⟩ = some (.string p) := HX.out.cell 1
  obtain ⟨v2, w2, hcv, hr2, hb2⟩ := row_from w1.heap.size (m ++ ⟨#[32]⟩ ++ p) w1 (Nat.le_refl _) (by have := HFl.out; have := HFt.out; omega)
  have HR2 := Lib.hid hr2
  have HB2 := Lib.hid hb2
  have HX2 := Lib.hid (blk_below HX.out hb2)
  have c2 : w2.cell? ⟨w.heap.size, 2, none⟩ = some (.string y) := HX2.out.cell 2
  have g1 : ¬ 9223372036854775807 < m.size + 1 := by omega
  have g2 : ¬ 9223372036854775807 < m.size + 1 + p.size := by omega
  have g3 : ¬ 9223372036854775807 < 1 + y.size := by omega
  clear hr2 hb2
  obtain ⟨G, HG⟩ : ∃ G, Hid ((if y.toList.isEmpty = true then (m ++ ⟨#[32]⟩ ++ p : ByteArray).data.toList else (m ++ ⟨#[32]⟩ ++ p : ByteArray).data.toList ++ (⟨#[63]⟩ ++ y : ByteArray).data.toList) = G) := ⟨_, rfl⟩
  rw [HG.out] at HFe
  go_upto_if 14 with fail
  go_cut [3] (fun x wx => Hid (RowX w1.heap.size x G wx) ∧ Hid (Below w1.heap.size w1 wx))
  case first =>
    have hG := HG.out
    cases he : y.toList.isEmpty with
    | true =>
      rw [he, if_pos rfl] at hG
      clear HG
      subst hG
      go_wp2_with fail
      go_meet
      exact ⟨HR2, HB2⟩
    | false =>
      rw [he, if_neg (by decide)] at hG
      clear HG
      have HGe := Lib.hid hG
      clear hG
      have HLn : Hid ((m ++ ⟨#[32]⟩ ++ p : ByteArray).data.toList.length + (⟨#[63]⟩ ++ y : ByteArray).size ≤ 1000000000) := by
        show _ ≤ _
        have h1 := HFl.out
        have h2 := HFt.out
        rw [he, if_neg (by decide)] at h1
        have e3 : (⟨#[63]⟩ ++ y : ByteArray).size = 1 + y.size := by rw [ByteArray.size_append]; rfl
        rw [← Lib.size_eq, e3]
        omega
      go_wp2_with (at_builtin; refine wpList_app_X rfl _ _ rfl w1.heap.size _ _ rfl HR2.out HB2.out.size _ rfl HLn.out ?_; intro v3 w3 hr3 hb3; have HR3 := Lib.hid hr3; have HB3 := Lib.hid (HB2.out.trans hb3); clear hr3 hb3)
      go_meet
      exact ⟨by rw [← HGe.out]; exact HR3.out, HB3.out⟩
  case rest =>
    obtain ⟨HR, HBc⟩ := hcut
    clear HR2 HB2 HX2 c0 c1 c2 hcv g1 g2 g3 HG HFl
    have HXc := Lib.hid (blk_below HX.out HBc.out)
    have HLn : Hid (G.length + (⟨#[32, 72, 84, 84, 80, 47, 49, 46, 49, 13, 10]⟩ : ByteArray).size ≤ 1000000000) := by
      show _ ≤ _
      have h1 := congrArg List.length HFe.out
      have h2 := HFt.out
      rw [List.length_append, ← Lib.size_eq] at h1
      omega
    have c3 : wc.cell? ⟨w.heap.size, 3, none⟩ = some (.slice A us.length c) := HXc.out.cell 3
    go_wp2_with (at_builtin; refine wpList_app_X rfl _ _ rfl w1.heap.size _ _ rfl HR.out HBc.out.size _ rfl HLn.out ?_; intro v3 w3 hr3 hb3; rw [← HFe.out] at hr3; have HR3 := Lib.hid hr3; have HB3 := Lib.hid (HBc.out.trans hb3); clear hr3 hb3)
    go_loopw [3, 4] (fun xv xi wx => ∃ k : Nat, k ≤ us.length ∧ xi = .int .i64 k ∧ Hid (Below w1.heap.size w1 wx) ∧ Hid (RowX w1.heap.size xv (firstB m p y ++ headsB (us.take k)) wx)) (fun _ xi _ => us.length - (ixOf xi).toNat)
    case atStart => exact ⟨0, Nat.zero_le _, rfl, HB3, Lib.hid (by simpa [headsB] using HR3.out)⟩
    case round =>
      clear HB3 HR3 HXc c3 HBc HR HLn
      obtain ⟨k, hk, rfl, HBr, HRr⟩ := hrel
      have HXr := Lib.hid (blk_below HX.out HBr.out)
      have c3 : wr.cell? ⟨w.heap.size, 3, none⟩ = some (.slice A us.length c) := HXr.out.cell 3
      by_cases hlt : k < us.length
      · have hI : (k : Int) < (us.length : Int) := by omega
        have hI0 : (0 : Int) ≤ (k : Int) := by omega
        obtain ⟨g1, o1, rfl, hg1, hc1⟩ := HA.out (by omega)
        have HBw := Lib.hid (HB.out.trans (HBr.out.mono HB.out.size))
        have q1 := (HBw.out.cell (p := ⟨g1, o1 + k * 2, none⟩) hg1).trans (hc1 k hlt).1
        have q2 := (HBw.out.cell (p := ⟨g1, o1 + k * 2 + 1, none⟩) hg1).trans (hc1 k hlt).2
        have HS := Lib.hid (headsB_step hlt)
        have hle := headsB_le hlt
        rw [lineB_size] at hle
        have hb8 := HFt.out
        have HLn : Hid ((firstB m p y ++ headsB (us.take k)).length + ((us.getD k default).1 ++ ⟨#[58, 32]⟩ ++ (us.getD k default).2 ++ ⟨#[13, 10]⟩ : ByteArray).size ≤ 1000000000) := by
          show _ ≤ _
          rw [List.length_append, show ((us.getD k default).1 ++ ⟨#[58, 32]⟩ ++ (us.getD k default).2 ++ ⟨#[13, 10]⟩ : ByteArray).size = (lineB (us.getD k default)).length from Lib.size_eq _, lineB_size]
          omega
        have g1' : ¬ 9223372036854775807 < (us.getD k default).1.size + 2 := by omega
        have g2' : ¬ 9223372036854775807 < (us.getD k default).1.size + 2 + (us.getD k default).2.size := by omega
        have g3' : ¬ 9223372036854775807 < (us.getD k default).1.size + 2 + (us.getD k default).2.size + 2 := by omega
        have HLi : Hid (lineB (us.getD k default) = ((us.getD k default).1 ++ ⟨#[58, 32]⟩ ++ (us.getD k default).2 ++ ⟨#[13, 10]⟩ : ByteArray).data.toList) := rfl
        clear hc1 hle hb8 HA
        generalize us.getD k default = u at *
        obtain ⟨u1, u2⟩ := u
        dsimp only at q1 q2 g1' g2' g3' HLn HLi
        have c3' : wr.drew.cell? ⟨w.heap.size, 3, none⟩ = some (.slice (some ⟨g1, o1, none⟩) us.length c) := c3
        have HRd := Lib.hid (show RowX w1.heap.size _ _ wr.drew from HRr.out)
        have HBd := Lib.hid (show Below w1.heap.size w1 wr.drew from ⟨HBr.out.os, HBr.out.tape, HBr.out.output, HBr.out.size, HBr.out.block⟩)
        go_wp2_with fail
        refine wp_region_still_tail 16 (by kernel_rfl) (by kernel_rfl) ?_
        simp only [List.take_succ_cons, List.take_zero, List.drop_succ_cons, List.drop_zero]
        repeat still_step
        refine wpStill_nil ?_
        go_wp2_with (at_builtin; refine wpList_app_X rfl _ _ rfl w1.heap.size _ _ rfl HRd.out HBd.out.size _ rfl HLn.out ?_; intro v4 w4 hr4 hb4; rw [List.append_assoc, ← HLi.out, ← HS.out] at hr4; have HR4 := Lib.hid hr4; have HB4 := Lib.hid (HBd.out.trans hb4); clear hr4 hb4)
        go_roundw
        case rel => exact ⟨k + 1, by omega, by go_num, HB4, HR4⟩
        case measure => simp [ixOf] <;> omega
      · have hI : ¬ ((k : Int) < (us.length : Int)) := by omega
        obtain rfl : k = us.length := by omega
        rw [List.take_length] at HRr
        have c4 : wr.cell? ⟨w.heap.size, 4, none⟩ = some (.string b) := HXr.out.cell 4
        have HLn1 : Hid ((firstB m p y ++ headsB us).length + (⟨#[13, 10]⟩ : ByteArray).size ≤ 1000000000) := by
          show _ ≤ _
          have h2 := HFt.out
          have e1 : (⟨#[13, 10]⟩ : ByteArray).size = 2 := rfl
          rw [List.length_append, e1]
          omega
        have HLn2 : Hid (((firstB m p y ++ headsB us) ++ (⟨#[13, 10]⟩ : ByteArray).data.toList).length + b.size ≤ 1000000000) := by
          show _ ≤ _
          have h2 := HFt.out
          have e1 : (⟨#[13, 10]⟩ : ByteArray).size = 2 := rfl
          rw [List.length_append, List.length_append, ← Lib.size_eq, e1]
          omega
        have HTe : Hid (((firstB m p y ++ headsB us) ++ (⟨#[13, 10]⟩ : ByteArray).data.toList) ++ b.data.toList = T) := by
          show _ = _
          rw [← HT.out]
          unfold textB
          simp
        have HRd := Lib.hid (show RowX w1.heap.size _ _ wr.drew from HRr.out)
        have HBd := Lib.hid (show Below w1.heap.size w1 wr.drew from ⟨HBr.out.os, HBr.out.tape, HBr.out.output, HBr.out.size, HBr.out.block⟩)
        go_wp2_with fail
        go_region_law (first
          | (refine step_app_X rfl _ _ rfl w1.heap.size _ _ rfl HRd.out HBd.out.size _ rfl HLn1.out ?_; intro v4 w4 hr4 hb4; have HR4 := Lib.hid hr4; have HB4 := Lib.hid (HBd.out.trans hb4); have c4' := (Lib.hid (blk_below HX.out HB4.out)).out.cell 4; clear hr4 hb4)
          | (refine step_app_X rfl _ _ rfl w1.heap.size _ _ rfl HR4.out HB4.out.size _ rfl HLn2.out ?_; intro v5 w5 hr5 hb5; rw [HTe.out] at hr5; have hcv5 := hr5.back; have HB5 := Lib.hid (HB4.out.trans hb5); clear hr5 hb5))
        all_goals
          go_wp2_with fail
          go_ret
          exact ⟨rfl, HB.out.trans (HB5.out.mono HB.out.size)⟩
end
end Rv
end Go.Proofs.YtnbhaokbaonjkaaGreatDoor
