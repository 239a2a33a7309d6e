/- StrsCut: the walk of the law. -/
import Derived.Test.YtjojfnhdegiebaaGreatDoorFnD
namespace Go.Proofs.YtjojfnhdegiebaaGreatDoor
open Go.RowKit

theorem args_get {w : World} {cs : Array Value} {T : TypeId} {vs : List PV} (h : ∀ i, i < vs.length → cs[i * 4]? = some (.int .i64 (vs.getD i default).1) ∧ cs[i * 4 + 1]? = some (.int .i64 (vs.getD i default).2.1) ∧ cs[i * 4 + 2]? = some (.string (vs.getD i default).2.2) ∧ cs[i * 4 + 3]? = some (.slice none 0 0)) :
    ArgsAt (w.alloc (.cells cs T)) w.heap.size vs := by
  refine ⟨by simp, fun i hi => ?_⟩
  have hb := Blk.new w T cs
  obtain ⟨a, b, c, d⟩ := h i hi
  exact ⟨(hb.cell _).trans a, (hb.cell _).trans b, (hb.cell _).trans c, (hb.cell _).trans d⟩
theorem args1 (w : World) (k0 n0 : Int) (t0 : ByteArray) : ArgsAt (w.alloc (.cells #[.int .i64 k0, .int .i64 n0, .string t0, .slice none 0 0] 25)) w.heap.size [(k0, n0, t0)] := args_get fun i hi => by
  match i, hi with
  | 0, _ => exact ⟨rfl, rfl, rfl, rfl⟩
theorem args2 (w : World) (k0 n0 k1 n1 : Int) (t0 t1 : ByteArray) : ArgsAt (w.alloc (.cells #[.int .i64 k0, .int .i64 n0, .string t0, .slice none 0 0, .int .i64 k1, .int .i64 n1, .string t1, .slice none 0 0] 25)) w.heap.size [(k0, n0, t0), (k1, n1, t1)] := args_get fun i hi => by
  match i, hi with
  | 0, _ => exact ⟨rfl, rfl, rfl, rfl⟩
  | 1, _ => exact ⟨rfl, rfl, rfl, rfl⟩
theorem args3 (w : World) (k0 n0 k1 n1 k2 n2 : Int) (t0 t1 t2 : ByteArray) : ArgsAt (w.alloc (.cells #[.int .i64 k0, .int .i64 n0, .string t0, .slice none 0 0, .int .i64 k1, .int .i64 n1, .string t1, .slice none 0 0, .int .i64 k2, .int .i64 n2, .string t2, .slice none 0 0] 25)) w.heap.size [(k0, n0, t0), (k1, n1, t1), (k2, n2, t2)] := args_get fun i hi => by
  match i, hi with
  | 0, _ => exact ⟨rfl, rfl, rfl, rfl⟩
  | 1, _ => exact ⟨rfl, rfl, rfl, rfl⟩
  | 2, _ => exact ⟨rfl, rfl, rfl, rfl⟩
set_option maxRecDepth 100000 in
theorem rtext_any (t : ByteArray) (w : World) : Calls Tryz.prog 9 #[.string t] w fun e w' => e = .returned (.agg #[.int .i64 3, .int .i64 0, .string t, .slice none 0 0]) ∧ Below w.heap.size w w' := by
  have B := (Below.refl w.heap.size w).alloc (Nat.le_refl _) (.cells #[.int .i64 3, .int .i64 0, .string t, .slice none 0 0] 25)
  have HN := Blk.new w 25 #[.int .i64 3, .int .i64 0, .string t, .slice none 0 0]
  go_enter Tryz.func9, Tryz.ntmps9
  go_wp2_with fail
  generalize w.alloc (.cells #[.int .i64 3, .int .i64 0, .string t, .slice none 0 0] 25) = w1 at *
  have e0 : w1.cell? ⟨w.heap.size, 0, none⟩ = _ := HN.cell 0
  have e1 : w1.cell? ⟨w.heap.size, 1, none⟩ = _ := HN.cell 1
  have e2 : w1.cell? ⟨w.heap.size, 2, none⟩ = _ := HN.cell 2
  have e3 : w1.cell? ⟨w.heap.size, 3, none⟩ = _ := HN.cell 3
  simp at e0 e1 e2 e3
  refine bodyPost_ret (v := .agg #[.int .i64 3, .int .i64 0, .string t, .slice none 0 0]) (by simp [results, Tryz.results9, go_sem, e0, e1, e2, e3]) rfl ?_
  exact ⟨rfl, B⟩
set_option maxRecDepth 100000 in
theorem rnumber_any (n : Int) (w : World) : Calls Tryz.prog 11 #[.int .i64 n] w fun e w' => e = .returned (.agg #[.int .i64 2, .int .i64 n, .string ⟨#[]⟩, .slice none 0 0]) ∧ Below w.heap.size w w' := by
  have B := (Below.refl w.heap.size w).alloc (Nat.le_refl _) (.cells #[.int .i64 2, .int .i64 n, .string ⟨#[]⟩, .slice none 0 0] 25)
  have HN := Blk.new w 25 #[.int .i64 2, .int .i64 n, .string ⟨#[]⟩, .slice none 0 0]
  go_enter Tryz.func11, Tryz.ntmps11
  go_wp2_with fail
  generalize w.alloc (.cells #[.int .i64 2, .int .i64 n, .string ⟨#[]⟩, .slice none 0 0] 25) = w1 at *
  have e0 : w1.cell? ⟨w.heap.size, 0, none⟩ = _ := HN.cell 0
  have e1 : w1.cell? ⟨w.heap.size, 1, none⟩ = _ := HN.cell 1
  have e2 : w1.cell? ⟨w.heap.size, 2, none⟩ = _ := HN.cell 2
  have e3 : w1.cell? ⟨w.heap.size, 3, none⟩ = _ := HN.cell 3
  simp at e0 e1 e2 e3
  refine bodyPost_ret (v := .agg #[.int .i64 2, .int .i64 n, .string ⟨#[]⟩, .slice none 0 0]) (by simp [results, Tryz.results11, go_sem, e0, e1, e2, e3]) rfl ?_
  exact ⟨rfl, B⟩
theorem call_sub3 (s : ByteArray) (hs : s.size ≤ 65536) (n : Int) (h0 : 0 ≤ n) (m : Int) (w : World) (hL : LibS m w) (g cap : Nat) (hA : ArgsAt w g [(3, 0, s), (2, 0, ⟨#[]⟩), (2, n, ⟨#[]⟩)]) :
    Calls Tryz.prog 8 #[.string ⟨#[115, 117, 98, 115, 116, 114]⟩, .slice (some ⟨g, 0, none⟩) 3 cap] w fun e w' => e = .returned (.tuple #[.agg #[.int .i64 3, .int .i64 0, .string (s.extract 0 (min n.toNat s.size)), .slice none 0 0], .int .i64 0]) ∧ Below w.heap.size w w' :=
  call_any ⟨#[115, 117, 98, 115, 116, 114]⟩ ⟨#[115, 105, 105]⟩ 2 false 40 (fun _ ca => ca = #[]) [(3, 0, s), (2, 0, ⟨#[]⟩), (2, n, ⟨#[]⟩)] 3 0 (s.extract 0 (min n.toNat s.size)) m w hL g cap
    (fun w' b h => by obtain ⟨es, clock, hb, h1, _⟩ := h; obtain ⟨i, h1⟩ := h1; exact ⟨es, clock, i, #[], hb, h1, rfl⟩) (fun _ _ _ h _ => h) (Nat.le_of_ble_eq_true rfl) (Nat.le_of_ble_eq_true rfl) (by decide)
    (fun i hi => by match i, hi with | 0, _ => exact ⟨of_decide_eq_true rfl, of_decide_eq_true rfl⟩ | 1, _ => exact ⟨of_decide_eq_true rfl, of_decide_eq_true rfl⟩ | 2, _ => exact ⟨of_decide_eq_true rfl, of_decide_eq_true rfl⟩) (by decide) hA (by simp; omega)
    (fun args w => enters_of Tryz.func40 (by kernel_rfl) rfl args w)
    (fun w' ca hL' hA' hc => by subst hc; exact substr_three s (by unfold maxLen; omega) n h0 g cap w' hA')
theorem call_sub2 (s : ByteArray) (hs : s.size ≤ 65536) (n : Int) (h0 : 0 ≤ n) (m : Int) (w : World) (hL : LibS m w) (g cap : Nat) (hA : ArgsAt w g [(3, 0, s), (2, n, ⟨#[]⟩)]) :
    Calls Tryz.prog 8 #[.string ⟨#[115, 117, 98, 115, 116, 114]⟩, .slice (some ⟨g, 0, none⟩) 2 cap] w fun e w' => e = .returned (.tuple #[.agg #[.int .i64 3, .int .i64 0, .string (s.extract n.toNat s.size), .slice none 0 0], .int .i64 0]) ∧ Below w.heap.size w w' :=
  call_any ⟨#[115, 117, 98, 115, 116, 114]⟩ ⟨#[115, 105, 105]⟩ 2 false 40 (fun _ ca => ca = #[]) [(3, 0, s), (2, n, ⟨#[]⟩)] 3 0 (s.extract n.toNat s.size) m w hL g cap
    (fun w' b h => by obtain ⟨es, clock, hb, h1, _⟩ := h; obtain ⟨i, h1⟩ := h1; exact ⟨es, clock, i, #[], hb, h1, rfl⟩) (fun _ _ _ h _ => h) (Nat.le_of_ble_eq_true rfl) (Nat.le_of_ble_eq_true rfl) (by decide)
    (fun i hi => by match i, hi with | 0, _ => exact ⟨of_decide_eq_true rfl, of_decide_eq_true rfl⟩ | 1, _ => exact ⟨of_decide_eq_true rfl, of_decide_eq_true rfl⟩ ) (by decide) hA (by simp; omega)
    (fun args w => enters_of Tryz.func40 (by kernel_rfl) rfl args w)
    (fun w' ca hL' hA' hc => by subst hc; exact substr_two s (by unfold maxLen; omega) n h0 g cap w' hA')
theorem call_len (s : ByteArray) (m : Int) (w : World) (hL : LibS m w) (g cap : Nat) (hA : ArgsAt w g [(3, 0, s)]) :
    Calls Tryz.prog 8 #[.string ⟨#[115, 116, 114, 108, 101, 110]⟩, .slice (some ⟨g, 0, none⟩) 1 cap] w fun e w' => e = .returned (.tuple #[.agg #[.int .i64 2, .int .i64 s.size, .string ⟨#[]⟩, .slice none 0 0], .int .i64 0]) ∧ Below w.heap.size w w' :=
  call_any ⟨#[115, 116, 114, 108, 101, 110]⟩ ⟨#[115]⟩ 1 false 21 (fun _ ca => ca = #[]) [(3, 0, s)] 2 s.size ⟨#[]⟩ m w hL g cap
    (fun w' b h => by obtain ⟨es, clock, hb, _, _, h1, _⟩ := h; obtain ⟨i, h1⟩ := h1; exact ⟨es, clock, i, #[], hb, h1, rfl⟩) (fun _ _ _ h _ => h) (Nat.le_of_ble_eq_true rfl) (Nat.le_of_ble_eq_true rfl) (by decide)
    (fun i hi => by match i, hi with | 0, _ => exact ⟨of_decide_eq_true rfl, of_decide_eq_true rfl⟩ ) (by decide) hA (by decide)
    (fun args w => enters_of Tryz.func21 (by kernel_rfl) rfl args w)
    (fun w' ca hL' hA' hc => by subst hc; exact strlen_do s g cap w' hA')
set_option maxRecDepth 100000 in
set_option maxHeartbeats 1000000 in
theorem scut_any (s : ByteArray) (n : Int) (hs : s.size ≤ maxLen) (m : Int) (w : World) (hL : LibS m w) : Calls Tryz.prog 4 #[.string s, .int .i64 n] w fun e w' => e = .returned (.bool true) ∧ Below w.heap.size w w' := by
  have H5 := Lib.hid (fun w hL => alive_any m w hL)
  have HL := Lib.hid hL
  clear hL
  by_cases hn : n < 0
  · go_enter Tryz.func4, Tryz.ntmps4
    go_wp2_with fail
    refine (H5.out _ HL.out).mono ?_
    rintro e w1 ⟨rfl, hb1⟩
    go_wp2_with fail
    refine (H5.out _ (HL.out.below hb1)).mono ?_
    rintro e w2 ⟨rfl, hb2⟩
    go_wp2_with fail
    go_ret
    exact ⟨rfl, hb1.trans (hb2.mono hb1.size)⟩
  · have hn0 : 0 ≤ n := by omega
    by_cases hbig : 65536 < s.size
    · have hbI : (65536 : Int) < (s.size : Int) := by omega
      clear hbig
      go_enter Tryz.func4, Tryz.ntmps4
      go_wp2_with fail
      refine (H5.out _ HL.out).mono ?_
      rintro e w1 ⟨rfl, hb1⟩
      go_wp2_with fail
      refine (H5.out _ (HL.out.below hb1)).mono ?_
      rintro e w2 ⟨rfl, hb2⟩
      go_wp2_with fail
      go_ret
      exact ⟨rfl, hb1.trans (hb2.mono hb1.size)⟩
    · have hbI : ¬ ((65536 : Int) < (s.size : Int)) := by omega
      have hs6 : s.size ≤ 65536 := by omega
      obtain ⟨x, hx⟩ : ∃ x, s.extract 0 (min n.toNat s.size) = x := ⟨_, rfl⟩
      obtain ⟨y, hy⟩ : ∃ y, s.extract n.toNat s.size = y := ⟨_, rfl⟩
      have hxs : (x.size : Int) = min n (s.size : Int) := by rw [← hx]; simp; omega
      have hxy : x ++ y = s := by
        rw [← hx, ← hy]
        apply ByteArray.ext
        have hd : s.data.size = s.size := rfl
        by_cases hk : n.toNat ≤ s.size
        · rw [Nat.min_eq_left hk]
          simp [ByteArray.data_append, ByteArray.data_extract, Array.extract_append_extract, hd]
        · have : s.extract n.toNat s.size = ⟨#[]⟩ := by apply ByteArray.ext; simp; omega
          rw [this, Nat.min_eq_right (by omega)]
          simp
      have hsz : x.size + y.size = s.size := by rw [← hxy]; simp [ByteArray.size_append]
      have hszm : x.size + y.size ≤ maxLen := by omega
      go_enter Tryz.func4, Tryz.ntmps4
      go_wp2_with fail
      refine (H5.out _ HL.out).mono ?_
      rintro e w1 ⟨rfl, hb1⟩
      have HB1 := Lib.hid hb1
      clear hb1
      go_wp2_with fail
      refine (rtext_any s _).mono ?_
      rintro e w2 ⟨rfl, hb2⟩
      have HB2 := Lib.hid (HB1.out.trans (hb2.mono HB1.out.size))
      clear hb2 HB1
      go_wp2_with fail
      refine (rnumber_any 0 _).mono ?_
      rintro e w3 ⟨rfl, hb3⟩
      have HB3 := Lib.hid (HB2.out.trans (hb3.mono HB2.out.size))
      clear hb3 HB2
      go_wp2_with fail
      refine (rnumber_any n _).mono ?_
      rintro e w4 ⟨rfl, hb4⟩
      have HB4 := Lib.hid (HB3.out.trans (hb4.mono HB3.out.size))
      clear hb4 HB3
      go_wp2_with fail
      have HB5 := Lib.hid (HB4.out.alloc HB4.out.size (.cells #[.int .i64 3, .int .i64 0, .string s, .slice none 0 0, .int .i64 2, .int .i64 0, .string ⟨#[]⟩, .slice none 0 0, .int .i64 2, .int .i64 n, .string ⟨#[]⟩, .slice none 0 0] 25))
      have HC1 := Lib.hid (call_sub3 s hs6 n hn0 m _ (HL.out.below HB5.out) w4.heap.size 3 (args3 w4 3 0 2 0 2 n s ⟨#[]⟩ ⟨#[]⟩))
      rw [hx] at HC1
      refine HC1.out.mono ?_
      rintro e w5 ⟨rfl, hb5⟩
      have HB6 := Lib.hid (HB5.out.trans (hb5.mono HB5.out.size))
      clear hb5 HB5 HB4 HC1
      go_wp2_with fail
      have HX := Lib.hid (Blk.new w5 25 #[.int .i64 3, .int .i64 0, .string x, .slice none 0 0])
      have HB7 := Lib.hid (HB6.out.alloc HB6.out.size (.cells #[.int .i64 3, .int .i64 0, .string x, .slice none 0 0] 25))
      have hl5 : w.heap.size ≤ w5.heap.size := HB6.out.size
      generalize w5.alloc (.cells #[.int .i64 3, .int .i64 0, .string x, .slice none 0 0] 25) = w6 at *
      clear HB6
      refine (rtext_any s _).mono ?_
      rintro e w7 ⟨rfl, hb7⟩
      have HX7 := Lib.hid (blk_below HX.out hb7)
      have HB8 := Lib.hid (HB7.out.trans (hb7.mono HB7.out.size))
      clear hb7 HB7 HX
      go_wp2_with fail
      refine (rnumber_any n _).mono ?_
      rintro e w8 ⟨rfl, hb8⟩
      have HX8 := Lib.hid (blk_below HX7.out hb8)
      have HB9 := Lib.hid (HB8.out.trans (hb8.mono HB8.out.size))
      clear hb8 HB8 HX7
      go_wp2_with fail
      have HB10 := Lib.hid (HB9.out.alloc HB9.out.size (.cells #[.int .i64 3, .int .i64 0, .string s, .slice none 0 0, .int .i64 2, .int .i64 n, .string ⟨#[]⟩, .slice none 0 0] 25))
      have HX9 := Lib.hid (HX8.out.alloc (.cells #[.int .i64 3, .int .i64 0, .string s, .slice none 0 0, .int .i64 2, .int .i64 n, .string ⟨#[]⟩, .slice none 0 0] 25))
      have HC2 := Lib.hid (call_sub2 s hs6 n hn0 m _ (HL.out.below HB10.out) w8.heap.size 2 (args2 w8 3 0 2 n s ⟨#[]⟩))
      rw [hy] at HC2
      refine HC2.out.mono ?_
      rintro e w9 ⟨rfl, hb9⟩
      have HB11 := Lib.hid (HB10.out.trans (hb9.mono HB10.out.size))
      have HX10 := Lib.hid (blk_below HX9.out hb9)
      have HX11 := Lib.hid (HX10.out.alloc (.cells #[.int .i64 3, .int .i64 0, .string y, .slice none 0 0] 25))
      have HY := Lib.hid (Blk.new w9 25 #[.int .i64 3, .int .i64 0, .string y, .slice none 0 0])
      have HB12 := Lib.hid (HB11.out.alloc HB11.out.size (.cells #[.int .i64 3, .int .i64 0, .string y, .slice none 0 0] 25))
      clear hb9 HB10 HB9 HX8 HX9 HX10 HB11 HC2
      have k0 : (w9.alloc (.cells #[.int .i64 3, .int .i64 0, .string y, .slice none 0 0] 25)).cell? ⟨w5.heap.size, 0, none⟩ = some (.int .i64 3) := HX11.out.cell 0
      have k1 : (w9.alloc (.cells #[.int .i64 3, .int .i64 0, .string y, .slice none 0 0] 25)).cell? ⟨w5.heap.size, 1, none⟩ = some (.int .i64 0) := HX11.out.cell 1
      have k2 : (w9.alloc (.cells #[.int .i64 3, .int .i64 0, .string y, .slice none 0 0] 25)).cell? ⟨w5.heap.size, 2, none⟩ = some (.string x) := HX11.out.cell 2
      have k3 : (w9.alloc (.cells #[.int .i64 3, .int .i64 0, .string y, .slice none 0 0] 25)).cell? ⟨w5.heap.size, 3, none⟩ = some (.slice none 0 0) := HX11.out.cell 3
      go_wp2_with fail
      have hz10 : w9.heap.size + 1 = (w9.alloc (.cells #[.int .i64 3, .int .i64 0, .string y, .slice none 0 0] 25)).heap.size := by simp
      generalize w9.alloc (.cells #[.int .i64 3, .int .i64 0, .string y, .slice none 0 0] 25) = w10 at *
      rw [hz10]
      clear k0 k1 k2 k3
      have HB13 := Lib.hid (HB12.out.alloc HB12.out.size (.cells #[.int .i64 3, .int .i64 0, .string x, .slice none 0 0] 25))
      have HX12 := Lib.hid (HX11.out.alloc (.cells #[.int .i64 3, .int .i64 0, .string x, .slice none 0 0] 25))
      have HY12 := Lib.hid (HY.out.alloc (.cells #[.int .i64 3, .int .i64 0, .string x, .slice none 0 0] 25))
      refine (call_len x m _ (HL.out.below HB13.out) w10.heap.size 1 (args1 w10 3 0 x)).mono ?_
      rintro e w11 ⟨rfl, hb11⟩
      have HB14 := Lib.hid (HB13.out.trans (hb11.mono HB13.out.size))
      have HX13 := Lib.hid (blk_below HX12.out hb11)
      have HY13 := Lib.hid (blk_below HY12.out hb11)
      clear hb11 HB13 HB12 HX11 HX12 HY HY12
      have HX14 := Lib.hid (HX13.out.alloc (.cells #[.int .i64 2, .int .i64 (min n (s.size : Int)), .string ⟨#[]⟩, .slice none 0 0] 25))
      have HY14 := Lib.hid (HY13.out.alloc (.cells #[.int .i64 2, .int .i64 (min n (s.size : Int)), .string ⟨#[]⟩, .slice none 0 0] 25))
      have HC14 := Lib.hid (Blk.new w11 25 #[.int .i64 2, .int .i64 (min n (s.size : Int)), .string ⟨#[]⟩, .slice none 0 0])
      have q2 : (w11.alloc (.cells #[.int .i64 2, .int .i64 (min n (s.size : Int)), .string ⟨#[]⟩, .slice none 0 0] 25)).cell? ⟨w5.heap.size, 2, none⟩ = some (.string x) := HX14.out.cell 2
      have r2 : (w11.alloc (.cells #[.int .i64 2, .int .i64 (min n (s.size : Int)), .string ⟨#[]⟩, .slice none 0 0] 25)).cell? ⟨w9.heap.size, 2, none⟩ = some (.string y) := HY14.out.cell 2
      have c1 : (w11.alloc (.cells #[.int .i64 2, .int .i64 (min n (s.size : Int)), .string ⟨#[]⟩, .slice none 0 0] 25)).cell? ⟨w11.heap.size, 1, none⟩ = some (.int .i64 (min n (s.size : Int))) := HC14.out.cell 1
      have HB15 := Lib.hid (HB14.out.alloc HB14.out.size (.cells #[.int .i64 2, .int .i64 (min n (s.size : Int)), .string ⟨#[]⟩, .slice none 0 0] 25))
      go_wp2_with fail
      go_ret
      exact ⟨rfl, HB15.out⟩
end Go.Proofs.YtjojfnhdegiebaaGreatDoor
