/- raw.Text: the walk. -/
import Derived.Test.YtnbhaokbaonjkaaGreatDoorRwE
import Derived.Test.YtnbhaokbaonjkaaGreatDoorBld
namespace Go.Proofs.YtnbhaokbaonjkaaGreatDoor
open Go Go.RowKit
namespace Rw
/-! ### the builder -/
abbrev BuAt (B b : Nat) (l : List UInt8) (w : World) : Prop := Lib.IsBuilderF 69 5 B b (Lib.byteCells l) w
theorem row_below {w w' : World} {B : Nat} {e : TypeId} {v : Value} {n : Nat} {xs : List Value} (h : w.ownsRowF B e 1 v n xs) (hb : Below w.heap.size w w') : w'.ownsRowF B e 1 v n xs := by
  refine ⟨h.1, ?_⟩
  rcases h.2 with h2 | ⟨g, cap, cur, fz, h1, h2, h3, h4⟩
  · exact .inl h2
  · exact .inr ⟨g, cap, cur, fz, h1, h2, by rw [hb.block g (Array.getElem?_eq_some_iff.1 h3).1]; exact h3, h4⟩
theorem at_below {T e : TypeId} {B b : Nat} {p : Value} {bs : List Value} {w w' : World} (h : Lib.BuilderAtF T e B b p bs w) (hb : Below w.heap.size w w') : Lib.BuilderAtF T e B b p bs w' := by
  obtain ⟨hB, v, hbk, hown, hne⟩ := h
  exact ⟨hB, v, by rw [hb.block b (Array.getElem?_eq_some_iff.1 hbk).1]; exact hbk, row_below hown hb, hne⟩
theorem BuAt.below {B b : Nat} {l : List UInt8} {w w' : World} (h : BuAt B b l w) (hb : Below w.heap.size w w') : BuAt B b l w' := by
  rcases h with h | h
  · exact .inl (at_below h hb)
  · exact .inr (at_below h hb)
theorem BuAt.lt {B b : Nat} {l : List UInt8} {w : World} (h : BuAt B b l w) : b < w.heap.size := by
  rcases h with h | h
  · exact h.lt
  · exact h.lt
theorem others_below {e : TypeId} {b : Option Nat} {w w' : World} (hb : Below w.heap.size w w') : Lib.OthersKept e b w w' := fun k o hk _ _ => by
  rw [hb.block k (Array.getElem?_eq_some_iff.1 hk).1]
  exact hk
theorem blk_kept {w w' : World} {k b : Nat} {t : TypeId} {cs : Array Value} (h : Blk w k t cs) (hk : Lib.OthersKept 5 (some b) w w') (hne : k ≠ b) (ht : t ≠ 5) : Blk w' k t cs :=
  hk k _ h (fun e => hne (Option.some.inj e)) (fun c fz e => ht (by injection e))
theorem bu_new (B : Nat) (w : World) (hB : B ≤ w.heap.size) : BuAt B w.heap.size [] (w.alloc (.cells #[.pointer none, .slice none 0 0] 69)) :=
  .inl ⟨hB, .slice none 0 0, heap_alloc_new w _, World.ownsRowF_nil _ _ _ _, by simp [Value.ownBlock]⟩
theorem write_any (B b : Nat) (l : List UInt8) (s : ByteArray) (w : World) (h : BuAt B b l w) (hlen : l.length + s.size ≤ 140737488355328) (hBw : B ≤ w.heap.size) :
    Calls Tryz.prog 25 #[.pointer (some ⟨b, 0, none⟩), .string s] w fun e w' => ∃ v, e = .returned v ∧ v = .tuple #[.int .i64 s.size, .nilIface] ∧ BuAt B b (l ++ s.data.toList) w' ∧ Below B w w' ∧ Lib.OthersKept 5 (some b) w w' := by
  refine (Bd.text B b (Lib.byteCells l) s w h (by rw [Lib.byteCells_length]; exact hlen) hBw).mono ?_
  rintro e w' ⟨rfl, h1, h2, h3⟩
  refine ⟨_, rfl, rfl, ?_, h2, h3⟩
  rw [Lib.strCells_eq, ← Lib.byteCells_append] at h1
  exact h1
theorem str_any (B b : Nat) (l : Bytes) (w : World) (h : BuAt B b l w) (hBw : B ≤ w.heap.size) : Calls Tryz.prog 27 #[.pointer (some ⟨b, 0, none⟩)] w fun e w' => e = .returned (.string (bytes l)) ∧ BuAt B b l w' ∧ Below B w w' ∧ Lib.OthersKept 5 (some b) w w' :=
  Any.Builder_String_any_k Tryz.lays169 Tryz.Builder_Extra_169 B b l w h hBw
def targetB (p y : ByteArray) : ByteArray := if y.toList.isEmpty = true then p else p ++ ⟨#[63]⟩ ++ y
section
variable (m p y b : ByteArray) (A : Option Addr) (n c : Nat) (w : World)
set_option maxRecDepth 100000 in
theorem target_any (hp : p.size ≤ 1000000000) (hy : y.size ≤ 1000000000) :
    Calls Tryz.prog 26 #[.agg #[.string m, .string p, .string y, .slice A n c, .string b]] w fun e w' => ∃ v, e = .returned v ∧ v = .string (targetB p y) ∧ Below w.heap.size w w' := by
  have HB := Lib.hid ((Below.refl w.heap.size w).alloc (Nat.le_refl _) (.cells #[.string m, .string p, .string y, .slice A n c, .string b] 39))
  have g1 : ¬ 9223372036854775807 < p.size + 1 := by omega
  have g2 : ¬ 9223372036854775807 < p.size + 1 + y.size := by omega
  unfold targetB
  cases he : y.toList.isEmpty with
  | true =>
    rw [if_pos rfl]
    go_enter Tryz.func26, Tryz.ntmps26
    go_wp2_with fail
    go_ret
    exact ⟨_, rfl, rfl, HB.out⟩
  | false =>
    rw [if_neg (by decide)]
    go_enter Tryz.func26, Tryz.ntmps26
    go_wp2_with fail
    go_ret
    exact ⟨_, rfl, rfl, HB.out⟩
theorem target_in (args : Array Value) (w : World) : (callFunc 26 args).run Tryz.prog w = .ok (.enter 26 args) w := enters_of Tryz.func26 (by kernel_rfl) rfl args w
theorem write_in (args : Array Value) (w : World) : (callFunc 25 args).run Tryz.prog w = .ok (.enter 25 args) w := enters_of Tryz.func25 (by kernel_rfl) rfl args w
end
def lineB (u : ByteArray × ByteArray) : Bytes := ((u.1 ++ ⟨#[58, 32]⟩ ++ u.2 ++ ⟨#[13, 10]⟩ : ByteArray)).data.toList
def headsB (us : List (ByteArray × ByteArray)) : Bytes := us.flatMap lineB
def firstB (m p y : ByteArray) : Bytes := ((m ++ ⟨#[32]⟩ ++ targetB p y ++ ⟨#[32, 72, 84, 84, 80, 47, 49, 46, 49, 13, 10]⟩ : ByteArray)).data.toList
def textB (m p y b : ByteArray) (us : List (ByteArray × ByteArray)) : Bytes := (firstB m p y ++ headsB us) ++ ((⟨#[13, 10]⟩ ++ b : ByteArray)).data.toList
theorem headsB_step {us : List (ByteArray × ByteArray)} {k : Nat} (h : k < us.length) : headsB (us.take (k + 1)) = headsB (us.take k) ++ lineB (us.getD k default) := by
  unfold headsB
  rw [List.take_succ_eq_append_getElem h, List.flatMap_append, show us.getD k default = us[k] by simp [h]]
  simp
theorem headsB_le {us : List (ByteArray × ByteArray)} {k : Nat} (h : k < us.length) : (headsB (us.take k)).length + (lineB (us.getD k default)).length ≤ (headsB us).length := by
  have h1 := headsB_step h
  have h2 : us = us.take (k + 1) ++ us.drop (k + 1) := (List.take_append_drop _ _).symm
  have h3 : headsB us = headsB (us.take (k + 1)) ++ headsB (us.drop (k + 1)) := by
    conv => lhs; rw [h2]
    unfold headsB
    rw [List.flatMap_append]
  rw [h3, h1, List.length_append, List.length_append]
  omega
theorem lineB_size (u : ByteArray × ByteArray) : (lineB u).length = u.1.size + 2 + u.2.size + 2 := by
  unfold lineB
  rw [← Lib.size_eq]
  simp [ByteArray.size_append]
  rfl
section
variable (m p y b : ByteArray) (A : Option Addr) (c : Nat) (us : List (ByteArray × ByteArray)) (w : World)
set_option maxRecDepth 100000 in
set_option maxHeartbeats 8000000 in
theorem text_any (hA : PairsAt w w.heap.size A us) (hn : us.length ≤ 1000000000) (hz : (textB m p y b us).length ≤ 1000000000) (hz2 : p.size + y.size + b.size + m.size ≤ 1000000000) (hL : LibP w) :
    Calls Tryz.prog 10 #[.agg #[.string m, .string p, .string y, .slice A us.length c, .string b]] w fun e w' => Below w.heap.size w w' ∧ ((∃ q, parseN (textB m p y b us) = some q ∧ sameQ (bytes q.method) (bytes q.path) (bytes q.query) (bytes q.body) m p y b (strs q.heads) us = true ∧ e = .returned (.tuple #[.string (bytes (textB m p y b us)), .int .i64 0])) ∨
      ((∀ q, parseN (textB m p y b us) = some q → sameQ (bytes q.method) (bytes q.path) (bytes q.query) (bytes q.body) m p y b (strs q.heads) us = false) ∧ e = .returned (.tuple #[.string ⟨#[]⟩, .int .i64 1]))) := by
  have HA := Lib.hid hA
  have HL := Lib.hid hL
  have hft : (firstB m p y).length + (headsB us).length + (2 + b.size) = (textB m p y b us).length := by
    unfold textB
    rw [List.length_append, List.length_append, ← Lib.size_eq (⟨#[13, 10]⟩ ++ b)]
    simp [ByteArray.size_append]
    rfl
  have hfs : (m ++ ⟨#[32]⟩ ++ targetB p y ++ ⟨#[32, 72, 84, 84, 80, 47, 49, 46, 49, 13, 10]⟩ : ByteArray).size = (firstB m p y).length := Lib.size_eq _
  have hts : (targetB p y).size ≤ p.size + 1 + y.size := by
    unfold targetB
    split
    · omega
    · rw [ByteArray.size_append, ByteArray.size_append]
      exact Nat.le_refl _
  have x0 := (Blk.new w 39 #[.string m, .string p, .string y, .slice A us.length c, .string b]).alloc (.cells #[.pointer none, .slice none 0 0] 69)
  have x1 := bu_new w.heap.size (w.alloc (.cells #[.string m, .string p, .string y, .slice A us.length c, .string b] 39)) (by simp)
  have b0 := ((Below.refl w.heap.size w).alloc (Nat.le_refl _) (.cells #[.string m, .string p, .string y, .slice A us.length c, .string b] 39)).alloc (by simp) (.cells #[.pointer none, .slice none 0 0] 69)
  rw [show (w.alloc (.cells #[.string m, .string p, .string y, .slice A us.length c, .string b] 39)).heap.size = w.heap.size + 1 by simp] at x1
  have HX := Lib.hid x0; have HU := Lib.hid x1; have HB := Lib.hid b0
  obtain ⟨T, HT⟩ : ∃ T, Hid (textB m p y b us = T) := ⟨_, rfl⟩
  rw [HT.out] at hft hz ⊢
  have HFt := Lib.hid hft; have HFs := Lib.hid hfs; have HTs := Lib.hid hts
  have hf1 : (firstB m p y).length ≤ 1000000000 := by omega
  clear x0 x1 b0 hA hL hfs hft hts
  go_enter Tryz.func10, Tryz.ntmps10
  go_wp2_with fail
  generalize (w.alloc (.cells #[.string m, .string p, .string y, .slice A us.length c, .string b] 39)).alloc (.cells #[.pointer none, .slice none 0 0] 69) = w1 at *
  go_cut [] (fun wx => Blk wx w.heap.size 39 #[.string m, .string p, .string y, .slice A us.length c, .string b] ∧ BuAt w.heap.size (w.heap.size + 1) (firstB m p y) wx ∧ Below w.heap.size w wx)
  case first =>
    have c0 : w1.cell? ⟨w.heap.size, 0, none⟩ = some (.string m) := HX.out.cell 0
    have c1 : w1.cell? ⟨w.heap.size, 1, none⟩ = some (.string p) := HX.out.cell 1
    have c2 : w1.cell? ⟨w.heap.size, 2, none⟩ = some (.string y) := HX.out.cell 2
    have c3 : w1.cell? ⟨w.heap.size, 3, none⟩ = some (.slice A us.length c) := HX.out.cell 3
    have c4 : w1.cell? ⟨w.heap.size, 4, none⟩ = some (.string b) := HX.out.cell 4
    have g1 : ¬ 9223372036854775807 < m.size + 1 := by omega
    have g2 : ¬ 9223372036854775807 < m.size + 1 + (targetB p y).size := by have := HTs.out; omega
    have g3 : ¬ 9223372036854775807 < m.size + 1 + (targetB p y).size + 11 := by have := HTs.out; omega
    have HT := Lib.hid (fun w => target_any m p y b A us.length c w (by omega) (by omega))
    go_region_law (first
      | (refine step_callP rfl 26 _ _ rfl #[.agg #[.string m, .string p, .string y, .slice A us.length c, .string b]] (by simp [Act.eval, Act.put]) (target_in _ _) _ (HT.out _) ?_; rintro v w2 ⟨rfl, hb2⟩; have d0 := (hb2.cell (p := ⟨w.heap.size, 0, none⟩) HX.out.lt).trans c0)
      | (refine step_callP rfl 25 _ _ rfl #[.pointer (some ⟨w.heap.size + 1, 0, none⟩), .string (m ++ ⟨#[32]⟩ ++ targetB p y ++ ⟨#[32, 72, 84, 84, 80, 47, 49, 46, 49, 13, 10]⟩)] (by simp [Act.eval, Act.put]) (write_in _ _) _ (write_any w.heap.size (w.heap.size + 1) [] _ w2 (HU.out.below (show Below w1.heap.size w1 w2 from ⟨hb2.os, hb2.tape, hb2.output, hb2.size, hb2.block⟩)) (by rw [HFs.out]; simp; omega) (Nat.le_trans HB.out.size hb2.size)) ?_; rintro v w3 ⟨rfl, hu3, hb3, hk3⟩))
    all_goals
      go_wp2_with fail
      go_meet
      exact ⟨blk_kept (blk_below HX.out (show Below w1.heap.size w1 w2 from ⟨hb2.os, hb2.tape, hb2.output, hb2.size, hb2.block⟩)) hk3 (by omega) (by decide), by simpa [firstB] using hu3, HB.out.trans (((show Below w1.heap.size w1 w2 from ⟨hb2.os, hb2.tape, hb2.output, hb2.size, hb2.block⟩).mono HB.out.size).trans hb3)⟩
  case rest =>
    obtain ⟨hx2, hu2, hb2⟩ := hcut
    clear HX HU HB
    have HX := Lib.hid hx2; have HU := Lib.hid hu2; have HB := Lib.hid hb2
    clear hx2 hu2 hb2

    have c3 : wc.cell? ⟨w.heap.size, 3, none⟩ = some (.slice A us.length c) := HX.out.cell 3
    go_wp2_with fail
    clear c3
    go_loopw [20] (fun x wx => ∃ k : Nat, k ≤ us.length ∧ x = .int .i64 k ∧ Hid (Below w.heap.size w wx) ∧ Hid (Blk wx w.heap.size 39 #[.string m, .string p, .string y, .slice A us.length c, .string b]) ∧ Hid (BuAt w.heap.size (w.heap.size + 1) (firstB m p y ++ headsB (us.take k)) wx)) (fun x _ => us.length - (ixOf x).toNat)
    case atStart => exact ⟨0, Nat.zero_le _, rfl, HB, HX, Lib.hid (by simpa [headsB] using HU.out)⟩
    case round =>
      clear HB HX HU
      obtain ⟨k, hk, rfl, HB, HX, HU⟩ := hrel
      by_cases hlt : k < us.length
      · have hI : (k : Int) < (us.length : Int) := by omega
        have hI0 : (0 : Int) ≤ (k : Int) := by omega
        obtain ⟨g1, o1, rfl, hg1, hc1⟩ := HA.out (by omega)
        have q1 := (HB.out.cell (p := ⟨g1, o1 + k * 2, none⟩) hg1).trans (hc1 k hlt).1
        have q2 := (HB.out.cell (p := ⟨g1, o1 + k * 2 + 1, none⟩) hg1).trans (hc1 k hlt).2
        have HS := Lib.hid (headsB_step hlt)
        have hle := headsB_le hlt
        rw [lineB_size] at hle
        have hb8 := HFt.out
        have HLn : Hid ((firstB m p y ++ headsB (us.take k)).length + ((us.getD k default).1 ++ ⟨#[58, 32]⟩ ++ (us.getD k default).2 ++ ⟨#[13, 10]⟩ : ByteArray).size ≤ 140737488355328) := by
          show _ ≤ _
          rw [List.length_append, show ((us.getD k default).1 ++ ⟨#[58, 32]⟩ ++ (us.getD k default).2 ++ ⟨#[13, 10]⟩ : ByteArray).size = (lineB (us.getD k default)).length from Lib.size_eq _, lineB_size]
          omega
        have g1' : ¬ 9223372036854775807 < (us.getD k default).1.size + 2 := by omega
        have g2' : ¬ 9223372036854775807 < (us.getD k default).1.size + 2 + (us.getD k default).2.size := by omega
        have g3' : ¬ 9223372036854775807 < (us.getD k default).1.size + 2 + (us.getD k default).2.size + 2 := by omega
        have HLi : Hid (lineB (us.getD k default) = ((us.getD k default).1 ++ ⟨#[58, 32]⟩ ++ (us.getD k default).2 ++ ⟨#[13, 10]⟩ : ByteArray).data.toList) := rfl
        have HU1 := Lib.hid (HU.out.below ((Below.refl wr.heap.size wr).alloc (Nat.le_refl _) (.cells #[.string (us.getD k default).1, .string (us.getD k default).2] 76)))
        have HX1 := Lib.hid (HX.out.alloc (.cells #[.string (us.getD k default).1, .string (us.getD k default).2] 76))
        have HB1 := Lib.hid (HB.out.alloc HB.out.size (.cells #[.string (us.getD k default).1, .string (us.getD k default).2] 76))
        clear hc1 hle hb8 HA
        generalize us.getD k default = u at *
        obtain ⟨u1, u2⟩ := u
        dsimp only at q1 q2 g1' g2' g3' HLn HLi HU1 HX1 HB1
        go_wp2_with (go_at_call 25; refine (write_any w.heap.size (w.heap.size + 1) _ _ _ HU1.out HLn.out HB1.out.size).mono ?_; rintro e w3 ⟨_, rfl, rfl, hu3, hb3, hk3⟩)
        go_roundw
        case rel => exact ⟨k + 1, by omega, by go_num, HB1.out.trans hb3, blk_kept HX1.out hk3 (by omega) (by decide), Lib.hid (by rw [HS.out, ← List.append_assoc, HLi.out]; exact hu3)⟩
        case measure => simp [ixOf] <;> omega
      · have hI : ¬ ((k : Int) < (us.length : Int)) := by omega
        obtain rfl : k = us.length := by omega
        rw [List.take_length] at HU
        have c4 : wr.cell? ⟨w.heap.size, 4, none⟩ = some (.string b) := HX.out.cell 4
        have g1' : ¬ 9223372036854775807 < 2 + b.size := by omega
        -- behind the loop (mkrwt.py)
        have HLast : Hid ((firstB m p y ++ headsB us).length + (⟨#[13, 10]⟩ ++ b : ByteArray).size ≤ 140737488355328) := by
          show _ ≤ _
          have := HFt.out
          have e : (⟨#[13, 10]⟩ ++ b : ByteArray).size = 2 + b.size := by rw [ByteArray.size_append]; rfl
          rw [List.length_append, e]
          omega
        have HT2 : Hid ((firstB m p y ++ headsB us) ++ (⟨#[13, 10]⟩ ++ b : ByteArray).data.toList = T) := HT.out
        have HTz : Hid (T.length ≤ 1000000000) := hz
        clear HT hz HFt
        go_wp2_with (first
          | (go_at_call 25; refine (write_any w.heap.size (w.heap.size + 1) _ _ _ HU.out HLast.out HB.out.size).mono ?_; rintro e w3 ⟨_, rfl, rfl, hu3, hb3, hk3⟩; rw [HT2.out] at hu3; have HU3 := Lib.hid hu3; have HB3 := Lib.hid (HB.out.trans hb3); have HX3 := Lib.hid (blk_kept HX.out hk3 (by omega) (by decide)); clear hu3 hb3 hk3)
          | (go_at_call 27; refine (str_any w.heap.size (w.heap.size + 1) _ _ HU3.out HB3.out.size).mono ?_; rintro e w4 ⟨rfl, hu4, hb4, hk4⟩; have HU4 := Lib.hid hu4; have HB4 := Lib.hid (HB3.out.trans hb4); have HX4 := Lib.hid (blk_kept HX3.out hk4 (by omega) (by decide)); clear hu4 hb4 hk4))
        have HPa := Lib.hid (parse_any (bytes T) (by rw [bytes_size]; have := HTz.out; omega) w4 (HL.out.below HB4.out))
        rw [bytes_list] at HPa
        refine HPa.out.mono ?_
        rintro e w5 ⟨hb5, ⟨q, A2, d, hq, hql, hqa, rfl⟩ | ⟨hq, why, fat, hw, rfl⟩⟩
        · have HB5 := Lib.hid (HB4.out.trans (hb5.mono HB4.out.size))
          have HX5 := Lib.hid (blk_below HX4.out hb5)
          have HU5 := Lib.hid (HU4.out.below hb5)
          unfold reqV
          have HQ6 := Lib.hid ((Blk.new w5 39 #[.string (bytes q.method), .string (bytes q.path), .string (bytes q.query), .slice A2 q.heads.length d, .string (bytes q.body)]).alloc (.cells #[.int .i64 0, .int .i64 0] 46))
          have hf6 := Blk.new (w5.alloc (.cells #[.string (bytes q.method), .string (bytes q.path), .string (bytes q.query), .slice A2 q.heads.length d, .string (bytes q.body)] 39)) 46 #[.int .i64 0, .int .i64 0]
          rw [show (w5.alloc (.cells #[.string (bytes q.method), .string (bytes q.path), .string (bytes q.query), .slice A2 q.heads.length d, .string (bytes q.body)] 39)).heap.size = w5.heap.size + 1 by simp] at hf6
          have HF6 := Lib.hid hf6
          have ha5 := ((Below.refl w5.heap.size w5).alloc (Nat.le_refl _) (.cells #[.string (bytes q.method), .string (bytes q.path), .string (bytes q.query), .slice A2 q.heads.length d, .string (bytes q.body)] 39)).alloc (by simp) (.cells #[.int .i64 0, .int .i64 0] 46)
          have HX6 := Lib.hid (blk_below HX5.out ha5)
          have HU6 := Lib.hid (HU5.out.below ha5)
          have HB6 := Lib.hid (HB5.out.trans (ha5.mono HB5.out.size))
          have HPq := Lib.hid ((hqa.below ha5))
          have HPu := Lib.hid ((HA.out.below' HB6.out).up (Nat.le_trans HB6.out.size (Nat.le_refl _)))
          have HQq := Lib.hid hq
          clear hq hqa
          clear hf6 ha5 hb5 HX5 HU5 HB5 HX4 HU4 HB4 HPa HX HU HB HU3 HB3 HX3 c4 g1'
          have x0 : ((w5.alloc (.cells #[.string (bytes q.method), .string (bytes q.path), .string (bytes q.query), .slice A2 q.heads.length d, .string (bytes q.body)] 39)).alloc (.cells #[.int .i64 0, .int .i64 0] 46)).cell? ⟨w.heap.size, 0, none⟩ = some (.string m) := HX6.out.cell 0
          have x1 : ((w5.alloc (.cells #[.string (bytes q.method), .string (bytes q.path), .string (bytes q.query), .slice A2 q.heads.length d, .string (bytes q.body)] 39)).alloc (.cells #[.int .i64 0, .int .i64 0] 46)).cell? ⟨w.heap.size, 1, none⟩ = some (.string p) := HX6.out.cell 1
          have x2 : ((w5.alloc (.cells #[.string (bytes q.method), .string (bytes q.path), .string (bytes q.query), .slice A2 q.heads.length d, .string (bytes q.body)] 39)).alloc (.cells #[.int .i64 0, .int .i64 0] 46)).cell? ⟨w.heap.size, 2, none⟩ = some (.string y) := HX6.out.cell 2
          have x3 : ((w5.alloc (.cells #[.string (bytes q.method), .string (bytes q.path), .string (bytes q.query), .slice A2 q.heads.length d, .string (bytes q.body)] 39)).alloc (.cells #[.int .i64 0, .int .i64 0] 46)).cell? ⟨w.heap.size, 3, none⟩ = some (.slice A us.length c) := HX6.out.cell 3
          have x4 : ((w5.alloc (.cells #[.string (bytes q.method), .string (bytes q.path), .string (bytes q.query), .slice A2 q.heads.length d, .string (bytes q.body)] 39)).alloc (.cells #[.int .i64 0, .int .i64 0] 46)).cell? ⟨w.heap.size, 4, none⟩ = some (.string b) := HX6.out.cell 4
          have y0 : ((w5.alloc (.cells #[.string (bytes q.method), .string (bytes q.path), .string (bytes q.query), .slice A2 q.heads.length d, .string (bytes q.body)] 39)).alloc (.cells #[.int .i64 0, .int .i64 0] 46)).cell? ⟨w5.heap.size, 0, none⟩ = some (.string (bytes q.method)) := HQ6.out.cell 0
          have y1 : ((w5.alloc (.cells #[.string (bytes q.method), .string (bytes q.path), .string (bytes q.query), .slice A2 q.heads.length d, .string (bytes q.body)] 39)).alloc (.cells #[.int .i64 0, .int .i64 0] 46)).cell? ⟨w5.heap.size, 1, none⟩ = some (.string (bytes q.path)) := HQ6.out.cell 1
          have y2 : ((w5.alloc (.cells #[.string (bytes q.method), .string (bytes q.path), .string (bytes q.query), .slice A2 q.heads.length d, .string (bytes q.body)] 39)).alloc (.cells #[.int .i64 0, .int .i64 0] 46)).cell? ⟨w5.heap.size, 2, none⟩ = some (.string (bytes q.query)) := HQ6.out.cell 2
          have y3 : ((w5.alloc (.cells #[.string (bytes q.method), .string (bytes q.path), .string (bytes q.query), .slice A2 q.heads.length d, .string (bytes q.body)] 39)).alloc (.cells #[.int .i64 0, .int .i64 0] 46)).cell? ⟨w5.heap.size, 3, none⟩ = some (.slice A2 q.heads.length d) := HQ6.out.cell 3
          have y4 : ((w5.alloc (.cells #[.string (bytes q.method), .string (bytes q.path), .string (bytes q.query), .slice A2 q.heads.length d, .string (bytes q.body)] 39)).alloc (.cells #[.int .i64 0, .int .i64 0] 46)).cell? ⟨w5.heap.size, 4, none⟩ = some (.string (bytes q.body)) := HQ6.out.cell 4
          have f0 : ((w5.alloc (.cells #[.string (bytes q.method), .string (bytes q.path), .string (bytes q.query), .slice A2 q.heads.length d, .string (bytes q.body)] 39)).alloc (.cells #[.int .i64 0, .int .i64 0] 46)).cell? ⟨w5.heap.size + 1, 0, none⟩ = some (.int .i64 0) := HF6.out.cell 0
          have f1 : ((w5.alloc (.cells #[.string (bytes q.method), .string (bytes q.path), .string (bytes q.query), .slice A2 q.heads.length d, .string (bytes q.body)] 39)).alloc (.cells #[.int .i64 0, .int .i64 0] 46)).cell? ⟨w5.heap.size + 1, 1, none⟩ = some (.int .i64 0) := HF6.out.cell 1
          cases e0 : ((bytes q.method).toList == m.toList) with
          | false =>
            have hno : sameQ (bytes q.method) (bytes q.path) (bytes q.query) (bytes q.body) m p y b (strs q.heads) us = false := by unfold sameQ; rw [e0]; simp
            have HNo := Lib.hid hno
            clear hno
            go_wp2_with fail
            go_ret2
            exact ⟨HB6.out, .inr ⟨fun q' hq' => by have e9 := HQq.out.symm.trans hq'; injection e9 with e9; rw [← e9]; exact HNo.out, rfl⟩⟩
          | true =>
            cases e1 : ((bytes q.path).toList == p.toList) with
            | false =>
              have hno : sameQ (bytes q.method) (bytes q.path) (bytes q.query) (bytes q.body) m p y b (strs q.heads) us = false := by unfold sameQ; rw [e0, e1]; simp
              have HNo := Lib.hid hno
              clear hno
              go_wp2_with fail
              go_ret2
              exact ⟨HB6.out, .inr ⟨fun q' hq' => by have e9 := HQq.out.symm.trans hq'; injection e9 with e9; rw [← e9]; exact HNo.out, rfl⟩⟩
            | true =>
              cases e2 : ((bytes q.query).toList == y.toList) with
              | false =>
                have hno : sameQ (bytes q.method) (bytes q.path) (bytes q.query) (bytes q.body) m p y b (strs q.heads) us = false := by unfold sameQ; rw [e0, e1, e2]; simp
                have HNo := Lib.hid hno
                clear hno
                go_wp2_with fail
                go_ret2
                exact ⟨HB6.out, .inr ⟨fun q' hq' => by have e9 := HQq.out.symm.trans hq'; injection e9 with e9; rw [← e9]; exact HNo.out, rfl⟩⟩
              | true =>
                cases e3 : ((bytes q.body).toList == b.toList) with
                | false =>
                  have hno : sameQ (bytes q.method) (bytes q.path) (bytes q.query) (bytes q.body) m p y b (strs q.heads) us = false := by unfold sameQ; rw [e0, e1, e2, e3]; simp
                  have HNo := Lib.hid hno
                  clear hno
                  go_wp2_with fail
                  go_ret2
                  exact ⟨HB6.out, .inr ⟨fun q' hq' => by have e9 := HQq.out.symm.trans hq'; injection e9 with e9; rw [← e9]; exact HNo.out, rfl⟩⟩
                | true =>
                  have HEq := Lib.hid (fun w' (h : Below ((w5.alloc (.cells #[.string (bytes q.method), .string (bytes q.path), .string (bytes q.query), .slice A2 q.heads.length d, .string (bytes q.body)] 39)).alloc (.cells #[.int .i64 0, .int .i64 0] 46)).heap.size ((w5.alloc (.cells #[.string (bytes q.method), .string (bytes q.path), .string (bytes q.query), .slice A2 q.heads.length d, .string (bytes q.body)] 39)).alloc (.cells #[.int .i64 0, .int .i64 0] 46)) w') => equal_any A2 A d c (strs q.heads) us w' (HPq.out.below h) (((HPu.out).up (Nat.le_refl _)).below h) (by simp [strs]; omega) hn)
                  rw [show (strs q.heads).length = q.heads.length by simp [strs]] at HEq
                  cases e4 : decide (strs q.heads = us) with
                  | false =>
                    rw [e4] at HEq
                    have hno : sameQ (bytes q.method) (bytes q.path) (bytes q.query) (bytes q.body) m p y b (strs q.heads) us = false := by unfold sameQ; rw [e0, e1, e2, e3, e4]; simp
                    have HNo := Lib.hid hno
                    clear hno e4
                    go_wp2_with (go_at_call 28; refine (HEq.out _ (Below.refl _ _)).mono ?_; rintro e w7 ⟨rfl, hb7⟩; have HB7 := Lib.hid (HB6.out.trans (hb7.mono HB6.out.size)); clear hb7)
                    go_ret2
                    exact ⟨HB7.out, .inr ⟨fun q' hq' => by have e9 := HQq.out.symm.trans hq'; injection e9 with e9; rw [← e9]; exact HNo.out, rfl⟩⟩
                  | true =>
                    rw [e4] at HEq
                    have hys : sameQ (bytes q.method) (bytes q.path) (bytes q.query) (bytes q.body) m p y b (strs q.heads) us = true := by unfold sameQ; rw [e0, e1, e2, e3, e4]; simp
                    have HYs := Lib.hid hys
                    clear hys e4
                    go_wp2_with (first
                      | (go_at_call 28; refine (HEq.out _ (Below.refl _ _)).mono ?_; rintro e w7 ⟨rfl, hb7⟩; have HB7 := Lib.hid (HB6.out.trans (hb7.mono HB6.out.size)); have HU7 := Lib.hid (HU6.out.below hb7); clear hb7)
                      | (go_at_call 27; refine (str_any w.heap.size (w.heap.size + 1) _ _ HU7.out HB7.out.size).mono ?_; rintro e w8 ⟨rfl, -, hb8, -⟩; have HB8 := Lib.hid (HB7.out.trans hb8); clear hb8))
                    go_ret2
                    exact ⟨HB8.out, .inl ⟨q, HQq.out, HYs.out, rfl⟩⟩
        · have HB5 := Lib.hid (HB4.out.trans (hb5.mono HB4.out.size))
          have HX5 := Lib.hid (blk_below HX4.out hb5)
          have HU5 := Lib.hid (HU4.out.below hb5)
          unfold req0
          have HQ6 := Lib.hid ((Blk.new w5 39 #[.string ⟨#[]⟩, .string ⟨#[]⟩, .string ⟨#[]⟩, .slice none 0 0, .string ⟨#[]⟩]).alloc (.cells #[.int .i64 why, .int .i64 fat] 46))
          have hf6 := Blk.new (w5.alloc (.cells #[.string ⟨#[]⟩, .string ⟨#[]⟩, .string ⟨#[]⟩, .slice none 0 0, .string ⟨#[]⟩] 39)) 46 #[.int .i64 why, .int .i64 fat]
          rw [show (w5.alloc (.cells #[.string ⟨#[]⟩, .string ⟨#[]⟩, .string ⟨#[]⟩, .slice none 0 0, .string ⟨#[]⟩] 39)).heap.size = w5.heap.size + 1 by simp] at hf6
          have HF6 := Lib.hid hf6
          have ha5 := ((Below.refl w5.heap.size w5).alloc (Nat.le_refl _) (.cells #[.string ⟨#[]⟩, .string ⟨#[]⟩, .string ⟨#[]⟩, .slice none 0 0, .string ⟨#[]⟩] 39)).alloc (by simp) (.cells #[.int .i64 why, .int .i64 fat] 46)
          have HX6 := Lib.hid (blk_below HX5.out ha5)
          have HU6 := Lib.hid (HU5.out.below ha5)
          have HB6 := Lib.hid (HB5.out.trans (ha5.mono HB5.out.size))
          clear hf6 ha5 hb5 HX5 HU5 HB5 HX4 HU4 HB4 HPa HX HU HB HU3 HB3 HX3 c4 g1'
          have hwb : (why == 0) = false := beq_eq_false_iff_ne.2 hw
          have HNq := Lib.hid hq
          clear hq
          have f0 : ((w5.alloc (.cells #[.string ⟨#[]⟩, .string ⟨#[]⟩, .string ⟨#[]⟩, .slice none 0 0, .string ⟨#[]⟩] 39)).alloc (.cells #[.int .i64 why, .int .i64 fat] 46)).cell? ⟨w5.heap.size + 1, 0, none⟩ = some (.int .i64 why) := HF6.out.cell 0
          have f1 : ((w5.alloc (.cells #[.string ⟨#[]⟩, .string ⟨#[]⟩, .string ⟨#[]⟩, .slice none 0 0, .string ⟨#[]⟩] 39)).alloc (.cells #[.int .i64 why, .int .i64 fat] 46)).cell? ⟨w5.heap.size + 1, 1, none⟩ = some (.int .i64 fat) := HF6.out.cell 1
          go_wp2_with fail
          go_ret2
          exact ⟨HB6.out, .inr ⟨fun q' hq' => absurd (HNq.out.symm.trans hq') (by simp), rfl⟩⟩
end
end Rw
end Go.Proofs.YtnbhaokbaonjkaaGreatDoor
