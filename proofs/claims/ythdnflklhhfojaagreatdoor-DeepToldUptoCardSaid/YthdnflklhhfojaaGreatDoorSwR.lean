/- ostlerref08.quoted, key: the walks. -/
import Derived.Test.YthdnflklhhfojaaGreatDoorSwA
import Derived.Test.YthdnflklhhfojaaGreatDoorApps
import Derived.Test.YthdnflklhhfojaaGreatDoorNmD
import Derived.Test.YthdnflklhhfojaaGreatDoorDpC
import Derived.Laws.IdiomStrings
import Derived.Laws.OwnMore
import Derived.Lib.UnsafeStr
import Derived.Lib.Builder
import Derived.Lib.SlBytesConst
import Derived.Laws.Append
import Derived.Laws.AppendOwn
namespace Go.Proofs.YthdnflklhhfojaaGreatDoor
open Go Go.RowKit
namespace Sw
open Go.Proofs.YthdnflklhhfojaaGreatDoor.Dp (drewN')
abbrev RowB (B : Nat) (v : Value) (l : List UInt8) (w : World) : Prop := w.ownsRow B 5 1 v l.length (Lib.byteCells l)
set_option maxRecDepth 100000 in
theorem row_back {B : Nat} {v : Value} {l : List UInt8} {w : World} (h : RowB B v l w) : (convert 43 9 v).run Tryz.prog w = .ok (.string ⟨l.toArray⟩) w := by
  rcases h.2 with ⟨rfl, h0⟩ | ⟨g, cap, cur, rfl, _⟩
  · obtain rfl := List.eq_nil_of_length_eq_zero h0
    simp [convert, go_sem]
    rfl
  · refine run_convert_bytes_back w _ _ 5 ⟨g, 0, none⟩ cap l Tryz.underlying43 Tryz.underlying5 Tryz.underlying9 fun j hj => ?_
    exact h.cells (g := g) rfl j _ (by simp [Lib.byteCells, List.getElem?_map, List.getElem?_eq_getElem hj])
theorem row_slice {B : Nat} {v : Value} {l : List UInt8} {w : World} (h : RowB B v l w) : ∃ A c, v = .slice A l.length c := by
  rcases h.2 with ⟨rfl, h0⟩ | ⟨g, cap, cur, rfl, _⟩
  · exact ⟨none, 0, by rw [h0]⟩
  · exact ⟨_, _, rfl⟩
theorem row_app {B : Nat} {v : Value} {l m : List UInt8} {w : World} (h : w.ownsRow B 5 1 v (l.length + m.length) (Lib.byteCells l ++ Lib.byteCells m)) : RowB B v (l ++ m) w := by
  unfold RowB
  rw [List.length_append, Lib.byteCells_append]
  exact h
/-- A row of bytes that may be written on: the call's own, or a literal's, full. -/
def RowQ (B : Nat) (v : Value) (l : List UInt8) (w : World) : Prop :=
  RowB B v l w ∨ ∃ g, v = .slice (some ⟨g, 0, none⟩) l.length l.length ∧ B ≤ g ∧ ∀ j u, (Lib.byteCells l)[j]? = some u → w.cell? ⟨g, j, none⟩ = some u
theorem RowQ.alloc {B : Nat} {v : Value} {l : List UInt8} {w : World} (h : RowQ B v l w) (o : Obj) : RowQ B v l (w.alloc o) := by
  rcases h with h | ⟨g, e, hB, hc⟩
  · exact .inl (World.ownsRow.alloc h o)
  · exact .inr ⟨g, e, hB, fun j u hu => Lib.cell?_alloc_marked o (hc j u hu)⟩
theorem run_append_Q {B : Nat} {v : Value} {l : List UInt8} {w : World} (h : RowQ B v l w) (hB : B ≤ w.heap.size) (ty : TypeId) (ad : Addr) (c : Nat) (news : List UInt8) (hn0 : 0 < news.length)
    (hnews : ∀ j u, (Lib.byteCells news)[j]? = some u → w.cell? (ad.add j) = some u) (hlen : l.length + news.length ≤ 140737488355328) :
    ∃ v' w' row, (Builtin.append_ #[43, 43] ty #[v, .slice (some ad) news.length c]).run Tryz.prog w = .ok v' w' ∧ RowB B v' (l ++ news) w' ∧ w.grownBy w' row ∧ ∀ k, row = some k → B ≤ k := by
  obtain ⟨i0, hi0, hz0, hz1, hz2⟩ := info_parts Nm.u8_info
  have h1 : ∀ u ∈ Lib.byteCells news, u.oneCell' = true := by
    intro u hu
    unfold Lib.byteCells at hu
    obtain ⟨y, _, rfl⟩ := List.mem_map.1 hu
    rfl
  rcases h with h | ⟨g, rfl, hg, hc⟩
  · obtain ⟨v', w', a1, a2, a3, -⟩ := run_append_own (P := Tryz.prog) w B 43 ty 5 i0 (.int .u8 0) 1 1 Tryz.underlying43 hi0 hz0 hz1 hz2 rfl (by decide) v l.length (Lib.byteCells l) h ad news.length c (Lib.byteCells news) (by rw [Lib.byteCells_length, Nat.mul_one]) hnews h1 (by unfold maxLen; omega) (by omega) hB
    exact ⟨v', w', _, a1, row_app a2, a3, fun k hk => (h.lt k hk).1⟩
  · have hr := run_append_grow (P := Tryz.prog) w 43 ty 5 i0 (.int .u8 0) Tryz.underlying43 hi0 hz0 ⟨g, 0, none⟩ l.length l.length (Lib.byteCells l) (by rw [Lib.byteCells_length, hz1, Nat.mul_one])
      (fun j u hu => by
        have := hc j u hu
        unfold Addr.add
        split
        · rename_i hj
          subst hj
          exact this
        · simpa using this) ad news.length c (Lib.byteCells news) (by rw [Lib.byteCells_length, hz1, Nat.mul_one]) hnews (by omega) (by omega) (growslice_fits (by omega) (by rw [hz2]; omega))
    have hge := grownCap_ge w (l.length + news.length) l.length 5
    have hcm : grownCap w (l.length + news.length) l.length 5 ≤ maxLen := grownCap_le_maxLen w _ _ _ (by unfold maxLen; omega)
    generalize grownCap w (l.length + news.length) l.length 5 = cap at hr hge hcm
    refine ⟨_, _, none, hr, ?_, ⟨rfl, rfl, rfl, by simp, fun k hk _ => heap_alloc_old w.drew _ hk⟩, fun k hk => by cases hk⟩
    have hz : (Builtin.zeroCells (Value.int IntKind.u8 0).cells (cap - (l.length + news.length))).size = cap - (l.length + news.length) := by simp [Builtin.zeroCells, Value.cells]
    refine ⟨by rw [Lib.byteCells_length, Nat.mul_one], .inr ⟨w.heap.size, cap, _, by rw [List.length_append], hB, heap_alloc_new w.drew _, by rw [List.length_append]; exact hge, hcm, ?_, ?_⟩⟩
    · simp only [Array.size_append, List.size_toArray, Lib.byteCells_length, hz]
      omega
    · rw [Array.toList_append, Array.toList_append, Nat.mul_one, List.take_append_of_le_length (by simp [Lib.byteCells_length])]
      rw [List.take_of_length_le (by simp [Lib.byteCells_length]), Lib.byteCells_append]
theorem wpList_append_Q {w : World} {ops : Array Oper} {rest : List Oper} {o : Oper} {a : Act} {Q : Exit → Act → World → Prop} (hgd : o.guard = none) (s x : Operand)
    (ho : o.op = .call { callee := .builtin .append, args := #[s, x], argTypes := #[43, 43] })
    (B : Nat) (v : Value) (l : List UInt8) (hs : a.eval s = v) (h : RowQ B v l w) (hB : B ≤ w.heap.size)
    (ad : Addr) (m c : Nat) (news : List UInt8) (hx : a.eval x = .slice (some ad) m c) (hm : news.length = m) (hn0 : 0 < m) (hnews : ∀ j u, (Lib.byteCells news)[j]? = some u → w.cell? (ad.add j) = some u)
    (hlen : l.length + m ≤ 140737488355328)
    (hK : ∀ v' w' row, RowB B v' (l ++ news) w' → w.grownBy w' row → (∀ k, row = some k → B ≤ k) → wpList Tryz.prog ops Q rest (a.put o.dst v') w') : wpList Tryz.prog ops Q (o :: rest) a w := by
  subst hm
  refine wpList_plain hgd fun _ hK' => ?_
  obtain ⟨v', w', row, hrun, h2, h3, h4⟩ := run_append_Q h hB o.type ad c news hn0 hnews hlen
  unfold Oper.wp execOp
  simp only [ho, resolve, invoke, builtin, Sem.run_bind, Sem.run_pure, Result.andThen_ok, List.map_toArray, List.map_cons, List.map_nil, hs, hx, hrun]
  exact hK' _ _ (hK v' w' row h2 h3 h4)
theorem escL_snoc : ∀ (l : List UInt8) (c : UInt8), escL (l ++ [c]) = escL l ++ (if c.toNat = 39 ∨ c.toNat = 92 then [92, c] else [c])
  | [], c => by
    rw [List.nil_append, escL, escL]
    split <;> rfl
  | a :: l, c => by
    rw [List.cons_append, escL, escL, escL_snoc l c]
    split <;> rfl
theorem escL_take (s : ByteArray) (j : Nat) (h : j < s.size) : escL (s.data.toList.take (j + 1)) = escL (s.data.toList.take j) ++ (if s[j].toNat = 39 ∨ s[j].toNat = 92 then [92, s[j]] else [s[j]]) := by
  have hj : j < s.data.toList.length := by simpa using h
  rw [List.take_succ_eq_append_getElem hj, escL_snoc]
  rfl
set_option maxRecDepth 100000 in
set_option maxHeartbeats 1000000 in
theorem rquoted_any (s : ByteArray) (hs : s.size ≤ 1048576) (w : World) : Calls Tryz.prog 60 #[.string s] w fun e w' => e = .returned (.string ⟨(quoteL s.data.toList).toArray⟩) ∧ Below w.heap.size w w' := by
  obtain ⟨i0, hi0, hz0, hz1, hz2⟩ := info_parts Nm.u8_info
  have HU := Lib.hid (And.intro hi0 (And.intro hz0 (And.intro hz1 hz2)))
  clear hi0 hz0 hz1 hz2
  have HB0 := Lib.hid ((Below.refl w.heap.size w).alloc (Nat.le_refl _) (.cells #[.int .u8 39] 5 (1, 2)))
  have HR0 : Hid (RowQ w.heap.size (.slice (some ⟨w.heap.size, 0, none⟩) 1 1) (39 :: escL (s.data.toList.take 0)) (w.alloc (.cells #[.int .u8 39] 5 (1, 2)))) := by
    refine .inr ⟨w.heap.size, by rw [List.take_zero]; rfl, Nat.le_refl _, fun j u hu => ?_⟩
    rw [List.take_zero] at hu
    have hj : j = 0 := by
      have := (List.getElem?_eq_some_iff.1 hu).1
      simp [Lib.byteCells, escL] at this
      exact this
    subst hj
    have e : u = .int .u8 39 := by
      simp [Lib.byteCells, escL] at hu
      exact hu.symm
    subst e
    rw [Lib.cell_of_heap (heap_alloc_new w _)]
    rfl
  have hcv0 := Lib.run_convert_bytes_const (P := Tryz.prog) w 43 5 #[.int .u8 39] 1 1 Tryz.underlying43 Tryz.underlying5
  rw [show (#[Value.int .u8 39] : Array Value).size = 1 from rfl] at hcv0
  go_enter Tryz.func60, Tryz.ntmps60
  go_wp2_with fail
  go_loopw [3, 4] (fun xv xi wx => ∃ (j : Nat) (v : Value), j ≤ s.size ∧ xi = .int .i64 j ∧ xv = v ∧ Hid (RowQ w.heap.size v (39 :: escL (s.data.toList.take j)) wx) ∧ Hid (Below w.heap.size w wx)) (fun _ xi _ => s.size - (match xi with | .int _ q => q | _ => 0).toNat)
  case atStart => exact ⟨0, _, Nat.zero_le _, rfl, rfl, HR0, HB0⟩
  case round =>
    obtain ⟨j, xv, hj, rfl, hxv, HI, HB⟩ := hrel
    have hxv := hxv.symm
    subst hxv
    clear HR0 HB0
    have HC3 := Lib.hid (show (39 :: escL (s.data.toList.take j)).length + 3 ≤ 140737488355328 by
      have h1 := escL_len (s.data.toList.take j)
      have h2 : (s.data.toList.take j).length ≤ j := by rw [List.length_take]; exact Nat.min_le_left _ _
      simp only [List.length_cons]
      omega)
    by_cases hlt : j < s.size
    · have hlt' : (j : Int) < (s.size : Int) := by omega
      have hc := s[j].toNat_lt
      have HE := Lib.hid (escL_take s j hlt)
      have hx0 : (0 : Int) ≤ (s[j].toNat : Int) := by omega
      have hx1 : (s[j].toNat : Int) < 256 := by omega
      by_cases hq : s[j].toNat = 39 ∨ s[j].toNat = 92
      · have HN : Hid (∀ w1 v, RowB w.heap.size v ((39 :: escL (s.data.toList.take j)) ++ [92, s[j]]) w1 → RowB w.heap.size v (39 :: escL (s.data.toList.take (j + 1))) w1) := by
          intro w1 v h
          rw [HE.out, if_pos hq]
          exact h
        have HQ : Hid (s[j].toNat = 39 ∨ s[j].toNat = 92) := hq
        clear HE
        have hq' : s[j].toNat = 39 ∨ s[j].toNat = 92 := HQ.out
        clear hq HQ
        rcases hq' with hq | hq
        · obtain ⟨x, hxx, hx8⟩ : ∃ x : UInt8, s[j] = x ∧ x.toNat = 39 := ⟨_, rfl, hq⟩
          obtain rfl : x = 39 := by rw [← UInt8.toNat_inj]; exact hx8
          have hxi : (s[j].toNat : Int) = 39 := by rw [hxx]; rfl
          rw [hxx] at HN
          clear hx8 hq hxx
          go_wp2_with (at_builtin; first | (refine wpList_append_Q rfl _ _ rfl w.heap.size _ _ rfl (HI.out.alloc _) (by have := HB.out.size; simp; omega) ⟨wr.heap.size, 0, none⟩ 1 1 [92] rfl rfl (by decide) (World.news_of_block (cs := #[.int .u8 92]) (t := 5) (fr := (0, 0)) (heap_alloc_new wr _)) (by have := HC3.out; omega) ?_; intro v1 w1 row1 hown1 hgr1 hrow1; have HI1 : Hid (RowQ w.heap.size v1 ((39 :: escL (s.data.toList.take j)) ++ [92]) w1) := .inl hown1; have HB1 := Lib.hid ((HB.out.alloc HB.out.size (.cells #[.int .u8 92] 5)).grown hgr1 (by have := HB.out.size; simp; omega) hrow1); have HC4 := Lib.hid (show ((39 :: escL (s.data.toList.take j)) ++ [(92 : UInt8)]).length + 2 ≤ 140737488355328 by have := HC3.out; rw [List.length_append]; simp only [List.length_cons, List.length_nil] at this ⊢; omega); clear hown1 hgr1 hrow1) | (refine wpList_append_Q rfl _ _ rfl w.heap.size _ _ rfl (HI1.out.alloc _) (by have := HB1.out.size; simp; omega) ⟨w1.heap.size, 0, none⟩ 1 1 [39] rfl rfl (by decide) (World.news_of_block (cs := #[.int .u8 39]) (t := 5) (fr := (0, 0)) (heap_alloc_new w1 _)) (by have := HC4.out; omega) ?_; intro v2 w2 row2 hown2 hgr2 hrow2))
          have HN2 : Hid (RowQ w.heap.size v2 (39 :: escL (s.data.toList.take (j + 1))) w2) := .inl (HN.out _ _ (by rw [List.append_assoc] at hown2; exact hown2))
          have HB2 := Lib.hid ((HB1.out.alloc HB1.out.size (.cells #[.int .u8 39] 5)).grown hgr2 (by have := HB1.out.size; simp; omega) hrow2)
          clear hown2 hgr2 hrow2
          go_wp2_with fail
          go_roundw
          case rel => exact ⟨j + 1, _, by omega, by go_num, rfl, HN2, HB2⟩
          case measure => simp <;> omega
        · obtain ⟨x, hxx, hx8⟩ : ∃ x : UInt8, s[j] = x ∧ x.toNat = 92 := ⟨_, rfl, hq⟩
          obtain rfl : x = 92 := by rw [← UInt8.toNat_inj]; exact hx8
          have hxi : (s[j].toNat : Int) = 92 := by rw [hxx]; rfl
          rw [hxx] at HN
          clear hx8 hq hxx
          go_wp2_with (at_builtin; first | (refine wpList_append_Q rfl _ _ rfl w.heap.size _ _ rfl (HI.out.alloc _) (by have := HB.out.size; simp; omega) ⟨wr.heap.size, 0, none⟩ 1 1 [92] rfl rfl (by decide) (World.news_of_block (cs := #[.int .u8 92]) (t := 5) (fr := (0, 0)) (heap_alloc_new wr _)) (by have := HC3.out; omega) ?_; intro v1 w1 row1 hown1 hgr1 hrow1; have HI1 : Hid (RowQ w.heap.size v1 ((39 :: escL (s.data.toList.take j)) ++ [92]) w1) := .inl hown1; have HB1 := Lib.hid ((HB.out.alloc HB.out.size (.cells #[.int .u8 92] 5)).grown hgr1 (by have := HB.out.size; simp; omega) hrow1); have HC4 := Lib.hid (show ((39 :: escL (s.data.toList.take j)) ++ [(92 : UInt8)]).length + 2 ≤ 140737488355328 by have := HC3.out; rw [List.length_append]; simp only [List.length_cons, List.length_nil] at this ⊢; omega); clear hown1 hgr1 hrow1) | (refine wpList_append_Q rfl _ _ rfl w.heap.size _ _ rfl (HI1.out.alloc _) (by have := HB1.out.size; simp; omega) ⟨w1.heap.size, 0, none⟩ 1 1 [92] rfl rfl (by decide) (World.news_of_block (cs := #[.int .u8 92]) (t := 5) (fr := (0, 0)) (heap_alloc_new w1 _)) (by have := HC4.out; omega) ?_; intro v2 w2 row2 hown2 hgr2 hrow2))
          have HN2 : Hid (RowQ w.heap.size v2 (39 :: escL (s.data.toList.take (j + 1))) w2) := .inl (HN.out _ _ (by rw [List.append_assoc] at hown2; exact hown2))
          have HB2 := Lib.hid ((HB1.out.alloc HB1.out.size (.cells #[.int .u8 92] 5)).grown hgr2 (by have := HB1.out.size; simp; omega) hrow2)
          clear hown2 hgr2 hrow2
          go_wp2_with fail
          go_roundw
          case rel => exact ⟨j + 1, _, by omega, by go_num, rfl, HN2, HB2⟩
          case measure => simp <;> omega
      · have HN : Hid (∀ w1 v, RowB w.heap.size v ((39 :: escL (s.data.toList.take j)) ++ [s[j]]) w1 → RowB w.heap.size v (39 :: escL (s.data.toList.take (j + 1))) w1) := by
          intro w1 v h
          rw [HE.out, if_neg hq]
          exact h
        have e39 : ((s[j].toNat : Int) == 39) = false := by simp; omega
        have e92 : ((s[j].toNat : Int) == 92) = false := by simp; omega
        clear HE
        go_wp2_with (at_builtin; refine wpList_append_Q rfl _ _ rfl w.heap.size _ _ rfl (HI.out.alloc _) (by have := HB.out.size; simp; omega) ⟨wr.heap.size, 0, none⟩ 1 1 [s[j]] rfl rfl (by decide) (World.news_of_block (cs := #[.int .u8 (s[j].toNat : Int)]) (t := 5) (fr := (0, 0)) (heap_alloc_new wr _)) (by have := HC3.out; omega) ?_; intro v' w2 row hown hgr hrow)
        have HN2 : Hid (RowQ w.heap.size v' (39 :: escL (s.data.toList.take (j + 1))) w2) := .inl (HN.out _ _ hown)
        have HB2 := Lib.hid ((HB.out.alloc HB.out.size (.cells #[.int .u8 (s[j].toNat : Int)] 5)).grown hgr (by have := HB.out.size; simp; omega) hrow)
        clear hown hgr hrow
        go_wp2_with fail
        go_roundw
        case rel => exact ⟨j + 1, _, by omega, by go_num, rfl, HN2, HB2⟩
        case measure => simp <;> omega
    · obtain rfl : j = s.size := by omega
      have hall : s.data.toList.take s.size = s.data.toList := List.take_of_length_le (by simp)
      rw [hall] at HI HC3
      clear hall
      have HF : Hid (∀ w1 v, RowB w.heap.size v ((39 :: escL s.data.toList) ++ [39]) w1 → (convert 43 9 v).run Tryz.prog w1 = .ok (.string ⟨(quoteL s.data.toList).toArray⟩) w1) := fun w1 v h => row_back h
      go_wp2_with (at_builtin; refine wpList_append_Q rfl _ _ rfl w.heap.size _ _ rfl (HI.out.alloc _) (by have := HB.out.size; simp; omega) ⟨wr.heap.size, 0, none⟩ 1 1 [39] rfl rfl (by decide) (World.news_of_block (cs := #[.int .u8 39]) (t := 5) (fr := (0, 0)) (heap_alloc_new wr _)) (by have := HC3.out; omega) ?_; intro v' w2 row hown hgr hrow; have hcv := HF.out _ _ hown; have HB2 := Lib.hid ((HB.out.alloc HB.out.size (.cells #[.int .u8 39] 5)).grown hgr (by have := HB.out.size; simp; omega) hrow); clear hown hgr hrow)
      go_ret
      exact ⟨rfl, HB2.out⟩
theorem rkey_any (b : Bool) (i : Int) (s : ByteArray) (hi : In64 i) (hs : s.size ≤ 1048576) (w : World) : Calls Tryz.prog 61 #[.agg #[.bool b, .int .i64 i, .string s]] w fun e w' => e = .returned (.string ⟨(keyL b i s).toArray⟩) ∧ Below w.heap.size w w' := by
  have HB0 := Lib.hid ((Below.refl w.heap.size w).alloc (Nat.le_refl _) (.cells #[.bool b, .int .i64 i, .string s] 63))
  unfold keyL
  cases b with
  | true =>
    have HQ := Lib.hid (fun w => rquoted_any s hs w)
    rw [if_pos rfl]
    clear hs hi
    go_enter Tryz.func61, Tryz.ntmps61
    go_wp2_with (go_at_call 60; refine (HQ.out _).mono ?_; rintro e w1 ⟨rfl, hb⟩)
    go_ret
    exact ⟨rfl, HB0.out.trans (hb.mono HB0.out.size)⟩
  | false =>
    have HQ := Lib.hid (fun w => Nm.rdigits_any i hi.1 hi.2 w)
    rw [if_neg (by decide)]
    clear hs hi
    go_enter Tryz.func61, Tryz.ntmps61
    go_wp2_with (go_at_call 59; refine (HQ.out _).mono ?_; rintro e w1 ⟨rfl, hb⟩)
    go_ret
    exact ⟨rfl, HB0.out.trans (hb.mono HB0.out.size)⟩
end Sw
end Go.Proofs.YthdnflklhhfojaaGreatDoor
