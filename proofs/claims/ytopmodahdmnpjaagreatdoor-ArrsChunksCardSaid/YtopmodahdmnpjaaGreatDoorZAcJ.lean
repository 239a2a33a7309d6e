/- arrs.Call of array_values, array_merge and array_chunk. -/
import Derived.Test.YtopmodahdmnpjaaGreatDoorZAcI
import Derived.Test.YtopmodahdmnpjaaGreatDoorZAcF
import Derived.Test.YtopmodahdmnpjaaGreatDoorZAcGQ
namespace Go.Proofs.YtopmodahdmnpjaaGreatDoor
open Go Go.RowKit
namespace As
open Dp
set_option maxRecDepth 100000 in
theorem taken_a (k n : Int) (t : ByteArray) (A : Option Addr) (l c : Nat) (rb : Bool) (w : World) (hR : ∀ wy, Below w.heap.size w wy → Calls Tryz.prog 14 #[.agg #[.int .i64 k, .int .i64 n, .string t, .slice A l c]] wy fun e w' => e = .returned (.bool rb) ∧ Below wy.heap.size wy w') :
    Calls Tryz.prog 13 #[.int .u8 97, .agg #[.int .i64 k, .int .i64 n, .string t, .slice A l c]] w fun e w' => e = .returned (.bool (decide (k = 4) && rb)) ∧ Below w.heap.size w w' := by
  have HB := Lib.hid ((Below.refl w.heap.size w).alloc (Nat.le_refl _) (.cells #[.int .i64 k, .int .i64 n, .string t, .slice A l c] 24))
  have HR := Lib.hid hR
  clear hR
  by_cases hk : k = 4
  · subst hk
    rw [decide_eq_true rfl, Bool.true_and]
    go_enter Tryz.func13, Tryz.ntmps13
    go_wp2_with (go_at_call 14; refine (HR.out _ HB.out).mono ?_; rintro e w1 ⟨rfl, hb⟩; have HB1 := Lib.hid (HB.out.trans (hb.mono HB.out.size)); clear hb)
    go_ret
    exact ⟨rfl, HB1.out⟩
  · have hd : decide (k = 4) = false := decide_eq_false hk
    rw [hd, Bool.false_and]
    go_enter Tryz.func13, Tryz.ntmps13
    go_wp2_with fail
    go_ret
    exact ⟨rfl, HB.out⟩
set_option maxRecDepth 100000 in
theorem taken_i (n : Int) (t : ByteArray) (A : Option Addr) (l c : Nat) (w : World) :
    Calls Tryz.prog 13 #[.int .u8 105, .agg #[.int .i64 2, .int .i64 n, .string t, .slice A l c]] w fun e w' => e = .returned (.bool true) ∧ Below w.heap.size w w' := by
  have HB := Lib.hid ((Below.refl w.heap.size w).alloc (Nat.le_refl _) (.cells #[.int .i64 2, .int .i64 n, .string t, .slice A l c] 24))
  go_enter Tryz.func13, Tryz.ntmps13
  go_wp2_with fail
  go_ret
  exact ⟨rfl, HB.out⟩
set_option maxRecDepth 100000 in
theorem rchunk_no (w : World) (g ac : Nat) (n : Int) (t : ByteArray) (A : Option Addr) (l c : Nat) (hg : g < w.heap.size) (hn : n < 1) (h4 : w.cell? ⟨g, 4, none⟩ = some (.int .i64 2)) (h5 : w.cell? ⟨g, 5, none⟩ = some (.int .i64 n)) (h6 : w.cell? ⟨g, 6, none⟩ = some (.string t)) (h7 : w.cell? ⟨g, 7, none⟩ = some (.slice A l c)) :
    Calls Tryz.prog 40 #[.slice (some ⟨g, 0, none⟩) 2 ac] w fun e w2 => e = .returned (.tuple #[.agg #[.int .i64 0, .int .i64 0, .string ⟨#[]⟩, .slice none 0 0], .int .i64 1]) ∧ Below w.heap.size w w2 := by
  have hs1 : (w.alloc (.cells #[.slice (some ⟨g, 0, none⟩) 2 ac] 49)).heap.size = w.heap.size + 1 := by simp
  have hB2 := ((Below.refl w.heap.size w).alloc (Nat.le_refl _) (.cells #[.slice (some ⟨g, 0, none⟩) 2 ac] 49)).alloc (by rw [hs1]; omega) (.cells #[.int .i64 0, .int .i64 0, .string ⟨#[]⟩, .slice none 0 0] 24)
  have HAr := Lib.hid ((Blk.new w 49 #[.slice (some ⟨g, 0, none⟩) 2 ac]).alloc (.cells #[.int .i64 0, .int .i64 0, .string ⟨#[]⟩, .slice none 0 0] 24))
  have hRs := Blk.new (w.alloc (.cells #[.slice (some ⟨g, 0, none⟩) 2 ac] 49)) 24 #[.int .i64 0, .int .i64 0, .string ⟨#[]⟩, .slice none 0 0]
  rw [hs1] at hRs
  have HRs := Lib.hid hRs
  have HB2 := Lib.hid hB2
  have HN := Lib.hid (n_arg _ g ac n t A l c ((hB2.cell (p := ⟨g, 4, none⟩) hg).trans h4) ((hB2.cell (p := ⟨g, 5, none⟩) hg).trans h5) ((hB2.cell (p := ⟨g, 6, none⟩) hg).trans h6) ((hB2.cell (p := ⟨g, 7, none⟩) hg).trans h7))
  clear hs1 hB2 hRs h4 h5 h6 h7
  go_enter Tryz.func40, Tryz.ntmps40
  go_upto_region 1 with fail
  generalize (w.alloc (.cells #[.slice (some ⟨g, 0, none⟩) 2 ac] 49)).alloc (.cells #[.int .i64 0, .int .i64 0, .string ⟨#[]⟩, .slice none 0 0] 24) = w2 at *
  have a0 := HAr.out.cell 0
  go_wp2_with (first
    | (go_at_call 64; refine HN.out.mono ?_; rintro e w3 ⟨rfl, hb3⟩; have HR3 := Lib.hid (blk_below HRs.out hb3); have HB3 := Lib.hid (HB2.out.trans (hb3.mono HB2.out.size)); clear hb3)
    | (go_at_call 12; refine (wrong_any _ _).mono ?_; rintro e w4 ⟨rfl, hb4⟩; have HR4 := Lib.hid (blk_below HR3.out hb4); have HB4 := Lib.hid (HB3.out.trans (hb4.mono HB3.out.size)); clear hb4; have q0 := HR4.out.frozen 0; have q1 := HR4.out.frozen 1; have q2 := HR4.out.frozen 2; have q3 := HR4.out.frozen 3; have r0 := HR4.out.cell 0; have r1 := HR4.out.cell 1; have r2 := HR4.out.cell 2; have r3 := HR4.out.cell 3))
  have HS4 := store4 HR4.out (.int .i64 0) (.int .i64 0) (.string ⟨#[]⟩) (.slice none 0 0)
  have HBf := HB4.out.trans (HS4.2.below (B := w.heap.size) HB4.out.size (fun j e => by omega))
  generalize ((((w4.setCell ⟨w.heap.size + 1, 0, none⟩ (.int .i64 0)).setCell ⟨w.heap.size + 1, 1, none⟩ (.int .i64 0)).setCell ⟨w.heap.size + 1, 2, none⟩ (.string ⟨#[]⟩)).setCell ⟨w.heap.size + 1, 3, none⟩ (.slice none 0 0)) = w9 at *
  have e0 : w9.cell? ⟨w.heap.size + 1, 0, none⟩ = some (.int .i64 0) := HS4.1.cell 0
  have e1 : w9.cell? ⟨w.heap.size + 1, 1, none⟩ = some (.int .i64 0) := HS4.1.cell 1
  have e2 : w9.cell? ⟨w.heap.size + 1, 2, none⟩ = some (.string ⟨#[]⟩) := HS4.1.cell 2
  have e3 : w9.cell? ⟨w.heap.size + 1, 3, none⟩ = some (.slice none 0 0) := HS4.1.cell 3
  refine bodyPost_ret (v := .tuple #[.agg #[.int .i64 0, .int .i64 0, .string ⟨#[]⟩, .slice none 0 0], .int .i64 1]) (by simp [results, Tryz.results40, go_sem, e0, e1, e2, e3]) rfl ?_
  exact ⟨rfl, HBf⟩
theorem vat_list {w : World} {base : Nat} {sv : Value} {ps : List PI} {rl : List GI} (n : Int) (ho : w.ownsRow base 34 7 sv ps.length (rowC ps)) (hm : ps.map PI.it = rl) (hv : ∀ q ∈ ps, VAt w w.heap.size q.gv q.val) :
    ∃ A c, sv = .slice A rl.length c ∧ VAt w w.heap.size (.mk 4 n ⟨#[]⟩ rl) (.agg #[.int .i64 4, .int .i64 n, .string ⟨#[]⟩, .slice A rl.length c]) := by
  obtain ⟨A, c, rfl⟩ := own_form0 ho
  have hlen : ps.length = rl.length := by rw [← hm, List.length_map]
  have h := vin_own (S := (· < w.heap.size)) ho (fun g e => by
    subst e
    exact (ho.lt g rfl).2) (fun q hq => VIn.of (hv q hq)) 4 n ⟨#[]⟩
  rw [hm, hlen] at h
  exact ⟨A, c, by rw [hlen], h.at_ (fun _ _ h => h) (fun _ h => h)⟩
theorem vok_at {w w2 : World} {B : Nat} {ps : List PI} (h : ∀ q ∈ ps, Vok w B q) (hb : Below B w w2) (hB : B ≤ w.heap.size) : ∀ q ∈ ps, VAt w2 w2.heap.size q.gv q.val := fun q hq =>
  vat_below (h q hq).2.1 hb (Nat.le_trans hB hb.size) (Nat.le_trans hB hb.size)
set_option maxRecDepth 100000 in
set_option maxHeartbeats 4000000 in
theorem call_vals (na : Int) (ta : ByteArray) (l : List GI) (A : Option Addr) (c : Nat) (w : World) (hLS : ∀ wz, Below w.heap.size w wz → LibS wz) (gb cap : Nat) (hX : VAt w w.heap.size (.mk 4 na ta l) (.agg #[.int .i64 4, .int .i64 na, .string ta, .slice A l.length c]))
    (hf : Fit (.mk 4 na ta l)) (hs : Sml (.mk 4 na ta l)) (hr : rightB (.mk 4 na ta l) = true) (hA : ArgsA w gb [(4, na, ta, A, l.length, c)]) :
    Calls Tryz.prog 5 #[.string (Ev.mkS [97, 114, 114, 97, 121, 95, 118, 97, 108, 117, 101, 115]), .slice (some ⟨gb, 0, none⟩) 1 cap] w fun e w' => Below w.heap.size w w' ∧ ∃ A' c', e = .returned (.tuple #[.agg #[.int .i64 4, .int .i64 l.length, .string ⟨#[]⟩, .slice A' l.length c'], .int .i64 0]) ∧
      VIn w' (fun b => w.heap.size ≤ b ∧ b < w'.heap.size) (.mk 4 l.length ⟨#[]⟩ (renum l 0)) (.agg #[.int .i64 4, .int .i64 l.length, .string ⟨#[]⟩, .slice A' l.length c']) := by
  have hl := right_len hr
  have hrr := right_take hr l.length
  rw [List.take_length] at hrr
  obtain ⟨hfi, hsi⟩ : (∀ (i : Nat) (it : GI), l[i]? = some it → Fit it.val) ∧ (∀ (i : Nat) (it : GI), l[i]? = some it → Sml it.val) := by
    cases hf with
    | mk _ _ _ _ _ _ _ _ h2 =>
      cases hs with
      | mk _ _ _ _ _ h => exact ⟨h2, h⟩
  have h := call_gen (fun G => G = .mk 4 l.length ⟨#[]⟩ (renum l 0)) (fun G hG => by subst hG; exact ⟨fit_renum l _ (by unfold In64; omega) hl hfi, sml_renum l _ hl hsi⟩) (fun _ => False) (fun _ h => h.elim) (Ev.mkS [97, 114, 114, 97, 121, 95, 118, 97, 108, 117, 101, 115]) (Ev.mkS [97]) 1 false 23 [(4, na, ta, A, l.length, c)] (fun _ => true) 0 w trivial hLS gb cap
    (fun w' b h => by
      obtain ⟨es, clock, hm, -, -, ⟨i, f⟩⟩ := h
      exact ⟨es, clock, i, hm, f⟩)
    (Nat.le_refl _) (.inl (Nat.le_refl _)) (Nat.le_refl _) (by show 1 ≤ 1000; omega) (by show 1 ≤ 1000; omega)
    (fun i hi k hk hke wz hz => by
      have hi' : i < 1 := hi
      obtain rfl : i = 0 := by omega
      obtain rfl : k = 0 := by rw [hke]; exact Nat.zero_min _
      have ht := taken_a 4 na ta A l.length c true wz (fun wy hy => by
        have hq := right_any (Nat.le_refl _) hLS hX hf wy (hz.trans (hy.mono hz.size))
        rw [hr] at hq
        exact hq)
      exact ht)
    hA (fun args w => enter_ofD Tryz.func23 (by kernel_rfl) rfl args w)
    (fun _ w1 hl1 hb1 => by
      obtain ⟨a0, a1, a2, a3⟩ := (hA.below hb1 (Nat.le_refl _)).2 0 (Nat.zero_lt_one)
      cases hX with
      | mk _ _ _ _ _ _ b off C hc hn hAa hi hv =>
      refine (rvals_any (Nat.le_refl _) hLS l A c b off C hAa hi hv hfi hsi hl w1 hb1 gb cap 4 na ta (Nat.lt_of_lt_of_le hA.1 hb1.size) (by simpa using a0) (by simpa using a1) (by simpa using a2) (by simpa using a3)).mono ?_
      rintro e w2 ⟨sv2, ps, rfl, hm, ho, hvk, hb⟩
      obtain ⟨A2, c2, rfl, hv2⟩ := vat_list (l.length : Int) ho hm (vok_at hvk (hb1.trans (hb.mono hb1.size)) (Nat.le_refl _))
      exact ⟨hb, .inr ⟨A2, c2, _, _, rfl, hv2, rfl⟩⟩)
  refine h.mono ?_
  rintro e w' ⟨hb, ⟨⟨i, _, hi⟩, _⟩ | ⟨_, ⟨er, he, _⟩ | ⟨rn, rl, hG, hno, _⟩ | ⟨A2, c2, rn, rl, hG, _, rfl, hv⟩⟩⟩
  · cases hi
  · exact he.elim
  · rw [hG, hrr] at hno
    cases hno
  · injection hG with _ e1 _ e2
    subst e1 e2
    rw [renum_len] at hv
    refine ⟨hb, A2, c2, ?_, hv⟩
    rw [renum_len]
    rfl
def two {α : Type} (a b : α) : Nat → α
  | 0 => a
  | _ => b
set_option maxRecDepth 100000 in
set_option maxHeartbeats 4000000 in
theorem call_merge (n1 n2 : Int) (t1 t2 : ByteArray) (l1 l2 : List GI) (A1 A2 : Option Addr) (c1 c2 : Nat) (w : World) (hLS : ∀ wz, Below w.heap.size w wz → LibS wz) (gb cap : Nat)
    (hX1 : VAt w w.heap.size (.mk 4 n1 t1 l1) (.agg #[.int .i64 4, .int .i64 n1, .string t1, .slice A1 l1.length c1])) (hX2 : VAt w w.heap.size (.mk 4 n2 t2 l2) (.agg #[.int .i64 4, .int .i64 n2, .string t2, .slice A2 l2.length c2]))
    (hf1 : Fit (.mk 4 n1 t1 l1)) (hf2 : Fit (.mk 4 n2 t2 l2)) (hs1 : Sml (.mk 4 n1 t1 l1)) (hs2 : Sml (.mk 4 n2 t2 l2)) (hr1 : rightB (.mk 4 n1 t1 l1) = true) (hr2 : rightB (.mk 4 n2 t2 l2) = true)
    (hnt1 : ∀ (i : Nat) (it : GI), l1[i]? = some it → it.isText = false) (hnt2 : ∀ (i : Nat) (it : GI), l2[i]? = some it → it.isText = false)
    (hr : rightB (.mk 4 ((l1 ++ l2).length : Nat) ⟨#[]⟩ (renum (l1 ++ l2) 0)) = true) (hA : ArgsA w gb [(4, n1, t1, A1, l1.length, c1), (4, n2, t2, A2, l2.length, c2)]) :
    Calls Tryz.prog 5 #[.string (Ev.mkS [97, 114, 114, 97, 121, 95, 109, 101, 114, 103, 101]), .slice (some ⟨gb, 0, none⟩) 2 cap] w fun e w' => Below w.heap.size w w' ∧ ∃ A' c', e = .returned (.tuple #[.agg #[.int .i64 4, .int .i64 (l1 ++ l2).length, .string ⟨#[]⟩, .slice A' (l1 ++ l2).length c'], .int .i64 0]) ∧
      VIn w' (fun b => w.heap.size ≤ b ∧ b < w'.heap.size) (.mk 4 (l1 ++ l2).length ⟨#[]⟩ (renum (l1 ++ l2) 0)) (.agg #[.int .i64 4, .int .i64 (l1 ++ l2).length, .string ⟨#[]⟩, .slice A' (l1 ++ l2).length c']) := by
  have hl : (l1 ++ l2).length ≤ 2048 := by have := right_len hr; rwa [renum_len] at this
  have hcat : cat (two l1 l2) 2 = l1 ++ l2 := by simp [cat, two]
  have items : ∀ {n : Int} {t : ByteArray} {l : List GI}, Fit (.mk 4 n t l) → Sml (.mk 4 n t l) → (∀ (i : Nat) (it : GI), l[i]? = some it → Fit it.val) ∧ (∀ (i : Nat) (it : GI), l[i]? = some it → Sml it.val) := fun hf hs => by
    cases hf with
    | mk _ _ _ _ _ _ _ _ h2 =>
      cases hs with
      | mk _ _ _ _ _ h => exact ⟨h2, h⟩
  obtain ⟨hfi1, hsi1⟩ := items hf1 hs1
  obtain ⟨hfi2, hsi2⟩ := items hf2 hs2
  have happ : ∀ {P : GI → Prop}, (∀ (i : Nat) (it : GI), l1[i]? = some it → P it) → (∀ (i : Nat) (it : GI), l2[i]? = some it → P it) → ∀ (i : Nat) (it : GI), (l1 ++ l2)[i]? = some it → P it := fun h1 h2 i it h => by
    by_cases hi : i < l1.length
    · rw [List.getElem?_append_left hi] at h
      exact h1 i it h
    · rw [List.getElem?_append_right (by omega)] at h
      exact h2 _ it h
  have h := call_gen (fun G => G = .mk 4 (l1 ++ l2).length ⟨#[]⟩ (renum (l1 ++ l2) 0)) (fun G hG => by subst hG; exact ⟨fit_renum _ _ (by unfold In64; omega) hl (happ hfi1 hfi2), sml_renum _ _ hl (happ hsi1 hsi2)⟩) (fun _ => False) (fun _ h => h.elim) (Ev.mkS [97, 114, 114, 97, 121, 95, 109, 101, 114, 103, 101]) (Ev.mkS [97]) 1 true 24 [(4, n1, t1, A1, l1.length, c1), (4, n2, t2, A2, l2.length, c2)] (fun _ => true) 0 w trivial hLS gb cap
    (fun w' b h => by
      obtain ⟨es, clock, hm, -, ⟨i, f⟩, -⟩ := h
      exact ⟨es, clock, i, hm, f⟩)
    (by show 1 ≤ 2; omega) (.inr rfl) (Nat.le_refl _) (by show 1 ≤ 1000; omega) (by show 2 ≤ 1000; omega)
    (fun i hi k hk hke wz hz => by
      obtain rfl : k = 0 := by rw [hke]; exact Nat.min_zero _
      have hi' : i < 2 := hi
      match i, hi' with
      | 0, _ =>
        have ht := taken_a 4 n1 t1 A1 l1.length c1 true wz (fun wy hy => by
          have hq := right_any (Nat.le_refl _) hLS hX1 hf1 wy (hz.trans (hy.mono hz.size))
          rw [hr1] at hq
          exact hq)
        exact ht
      | 1, _ =>
        have ht := taken_a 4 n2 t2 A2 l2.length c2 true wz (fun wy hy => by
          have hq := right_any (Nat.le_refl _) hLS hX2 hf2 wy (hz.trans (hy.mono hz.size))
          rw [hr2] at hq
          exact hq)
        exact ht)
    hA (fun args w => enter_ofD Tryz.func24 (by kernel_rfl) rfl args w)
    (fun _ w1 hl1 hb1 => by
      have hA1 := hA.below hb1 (Nat.le_refl _)
      have hq0 := hA1.2 0 (by show 0 < 2; omega)
      have hq1 := hA1.2 1 (by show 1 < 2; omega)
      have hm := rmerge_any (w := w) (B := w.heap.size) (Nat.le_refl _) hLS (two l1 l2) (two A1 A2) (two c1 c2) (fun i hi => by
        match i, hi with
        | 0, _ =>
          cases hX1 with
          | mk _ _ _ _ _ _ b off C hc hn hAa hi hv => exact ⟨⟨b, off, C, hAa, hi, hv⟩, hfi1, hsi1, hnt1⟩
        | 1, _ =>
          cases hX2 with
          | mk _ _ _ _ _ _ b off C hc hn hAa hi hv => exact ⟨⟨b, off, C, hAa, hi, hv⟩, hfi2, hsi2, hnt2⟩) (by rw [hcat]; exact hl) w1 hb1 gb cap (two 4 4) (two n1 n2) (two t1 t2) (Nat.lt_of_lt_of_le hA.1 hb1.size) (fun i hi => by
        match i, hi with
        | 0, _ => exact hq0
        | 1, _ => exact hq1)
      rw [hcat] at hm
      refine hm.mono ?_
      rintro e w2 ⟨sv2, ps, rfl, hm, ho, hvk, hb⟩
      obtain ⟨A3, c3, rfl, hv2⟩ := vat_list ((l1 ++ l2).length : Int) ho hm (vok_at hvk (hb1.trans (hb.mono hb1.size)) (Nat.le_refl _))
      exact ⟨hb, .inr ⟨A3, c3, _, _, rfl, hv2, rfl⟩⟩)
  refine h.mono ?_
  rintro e w' ⟨hb, ⟨⟨i, _, hi⟩, _⟩ | ⟨_, ⟨er, he, _⟩ | ⟨rn, rl, hG, hno, _⟩ | ⟨A3, c3, rn, rl, hG, _, rfl, hv⟩⟩⟩
  · cases hi
  · exact he.elim
  · rw [hG, hr] at hno
    cases hno
  · injection hG with _ e1 _ e2
    subst e1 e2
    rw [renum_len] at hv
    refine ⟨hb, A3, c3, ?_, hv⟩
    rw [renum_len]
    rfl
/-- The pieces' list. -/
def chunksL (n : Int) (l : List GI) : List GI := renum ((parts (min n 2048).toNat l.length).map (chunkV l)) 0
theorem chunks_fit (n : Int) (l : List GI) (hn : 1 ≤ n) (hl : l.length ≤ 2048) (h1 : ∀ (i : Nat) (it : GI), l[i]? = some it → Fit it.val) (h2 : ∀ (i : Nat) (it : GI), l[i]? = some it → Sml it.val) : Fit (.mk 4 (chunksL n l).length ⟨#[]⟩ (chunksL n l)) ∧ Sml (.mk 4 (chunksL n l).length ⟨#[]⟩ (chunksL n l)) ∧ (chunksL n l).length ≤ 2048 := by
  have hle : ((parts (min n 2048).toNat l.length).map (chunkV l)).length ≤ 2048 := by
    rw [List.length_map]
    have := partsF_len (min n 2048).toNat l.length l.length 0
    unfold parts
    omega
  have hc : (chunksL n l).length ≤ 2048 := by rw [chunksL, renum_len]; exact hle
  have hx : ∀ (i : Nat) (it : GI), ((parts (min n 2048).toNat l.length).map (chunkV l))[i]? = some it → Fit it.val ∧ Sml it.val := fun i it h => by
    rw [List.getElem?_map] at h
    obtain ⟨x, _, rfl⟩ := Option.map_eq_some_iff.1 h
    have hlp : ((l.drop x.1).take x.2).length ≤ 2048 := by rw [List.length_take, List.length_drop]; omega
    exact ⟨fit_renum _ _ (by unfold In64; omega) hlp (fun i it h => h1 _ it (piece_get l x i it h)), sml_renum _ _ hlp (fun i it h => h2 _ it (piece_get l x i it h))⟩
  exact ⟨fit_renum _ _ (by unfold In64; omega) hle (fun i it h => (hx i it h).1), sml_renum _ _ hle (fun i it h => (hx i it h).2), hc⟩
set_option maxRecDepth 100000 in
set_option maxHeartbeats 4000000 in
theorem call_chunk (k na n : Int) (ta : ByteArray) (l : List GI) (A : Option Addr) (c : Nat) (w : World) (hLS : ∀ wz, Below w.heap.size w wz → LibS wz) (gb cap : Nat) (hX : VAt w w.heap.size (.mk k na ta l) (.agg #[.int .i64 k, .int .i64 na, .string ta, .slice A l.length c]))
    (hf : Fit (.mk k na ta l)) (hs : Sml (.mk k na ta l)) (hA : ArgsA w gb [(k, na, ta, A, l.length, c), (2, n, ⟨#[]⟩, none, 0, 0)]) :
    Calls Tryz.prog 5 #[.string (Ev.mkS [97, 114, 114, 97, 121, 95, 99, 104, 117, 110, 107]), .slice (some ⟨gb, 0, none⟩) 2 cap] w fun e w' => Below w.heap.size w w' ∧
      ((∃ er : Int, e = .returned (.tuple #[.agg #[.int .i64 0, .int .i64 0, .string ⟨#[]⟩, .slice none 0 0], .int .i64 er]) ∧ er ≠ 0 ∧ (k ≠ 4 ∨ rightB (.mk k na ta l) = false ∨ n < 1 ∨ er = 1)) ∨
       (k = 4 ∧ rightB (.mk 4 na ta l) = true ∧ 1 ≤ n ∧ rightB (.mk 4 (chunksL n l).length ⟨#[]⟩ (chunksL n l)) = true ∧ ∃ A' c', e = .returned (.tuple #[.agg #[.int .i64 4, .int .i64 (chunksL n l).length, .string ⟨#[]⟩, .slice A' (chunksL n l).length c'], .int .i64 0]) ∧
      VIn w' (fun b => w.heap.size ≤ b ∧ b < w'.heap.size) (.mk 4 (chunksL n l).length ⟨#[]⟩ (chunksL n l)) (.agg #[.int .i64 4, .int .i64 (chunksL n l).length, .string ⟨#[]⟩, .slice A' (chunksL n l).length c']))) := by
  obtain ⟨hfi, hsi⟩ : (∀ (i : Nat) (it : GI), l[i]? = some it → Fit it.val) ∧ (∀ (i : Nat) (it : GI), l[i]? = some it → Sml it.val) := by
    cases hf with
    | mk _ _ _ _ _ _ _ _ h2 =>
      cases hs with
      | mk _ _ _ _ _ h => exact ⟨h2, h⟩
  have h := call_gen (fun G => k = 4 ∧ rightB (.mk k na ta l) = true ∧ 1 ≤ n ∧ G = .mk 4 (chunksL n l).length ⟨#[]⟩ (chunksL n l)) (fun G hG => by
      obtain ⟨rfl, h1, h2, rfl⟩ := hG
      obtain ⟨q1, q2, _⟩ := chunks_fit n l h2 (right_len h1) hfi hsi
      exact ⟨q1, q2⟩) (fun er => er = 1 ∧ n < 1) (fun er h => by have := h.1; omega) (Ev.mkS [97, 114, 114, 97, 121, 95, 99, 104, 117, 110, 107]) (Ev.mkS [97, 105, 114]) 2 false 40 [(k, na, ta, A, l.length, c), (2, n, ⟨#[]⟩, none, 0, 0)] (two (decide (k = 4) && rightB (.mk k na ta l)) true) 0 w trivial hLS gb cap
    (fun w' b h => by
      obtain ⟨es, clock, hm, ⟨i, f⟩, -, -⟩ := h
      exact ⟨es, clock, i, hm, f⟩)
    (Nat.le_refl _) (.inl (by show 2 ≤ 3; omega)) (by show 1 ≤ 3; omega) (by show 3 ≤ 1000; omega) (by show 2 ≤ 1000; omega)
    (fun i hi kk hk hke wz hz => by
      have hi' : i < 2 := hi
      have hke' : kk = min i 2 := hke
      match i, hi' with
      | 0, _ =>
        obtain rfl : kk = 0 := by rw [hke']; rfl
        have ht := taken_a k na ta A l.length c _ wz (fun wy hy => right_any (Nat.le_refl _) hLS hX hf wy (hz.trans (hy.mono hz.size)))
        exact ht
      | 1, _ =>
        obtain rfl : kk = 1 := by rw [hke']; rfl
        have ht := taken_i n ⟨#[]⟩ none 0 0 wz
        exact ht)
    hA (fun args w => enter_ofD Tryz.func40 (by kernel_rfl) rfl args w)
    (fun hall w1 hl1 hb1 => by
      have ht0 : (decide (k = 4) && rightB (.mk k na ta l)) = true := hall 0 (by show 0 < 2; omega)
      simp only [Bool.and_eq_true, decide_eq_true_eq] at ht0
      obtain ⟨hk4, hr⟩ := ht0
      subst hk4
      have hl := right_len hr
      have hA1 := hA.below hb1 (Nat.le_refl _)
      obtain ⟨a0, a1, a2, a3⟩ := hA1.2 0 (by show 0 < 2; omega)
      obtain ⟨b0, b1, b2, b3⟩ := hA1.2 1 (by show 1 < 2; omega)
      by_cases hn : n < 1
      · refine (rchunk_no w1 gb cap n ⟨#[]⟩ none 0 0 hA1.1 hn (by simpa using b0) (by simpa using b1) (by simpa using b2) (by simpa using b3)).mono ?_
        rintro e w2 ⟨rfl, hb⟩
        exact ⟨hb, .inl ⟨1, ⟨rfl, hn⟩, rfl⟩⟩
      · cases hX with
        | mk _ _ _ _ _ _ b off C hc hnn hAa hi hv =>
        refine (rchunk_any (w := w) (B := w.heap.size) (Nat.le_refl _) hLS l A c b off C hc hAa hi hv hfi hsi hl n (by omega) w1 hb1 gb cap 4 na ta ⟨#[]⟩ none 0 0 hA1.1 (by simpa using a0) (by simpa using a1) (by simpa using a2) (by simpa using a3) (by simpa using b0) (by simpa using b1) (by simpa using b2) (by simpa using b3)).mono ?_
        rintro e w2 ⟨sv2, ps, rfl, hm, ho, hvk, hb, hsz⟩
        have hpl : ps.length = (chunksL n l).length := by
          have := congrArg List.length hm
          rwa [List.length_map] at this
        obtain ⟨A3, c3, rfl, hv2⟩ := vat_list ((chunksL n l).length : Int) ho hm (fun q hq => (hvk q hq).2.at_ hsz)
        refine ⟨hb, .inr ⟨A3, c3, _, _, ?_, hv2, rfl, hr, by omega, rfl⟩⟩
        rw [hpl]
        rfl)
  refine h.mono ?_
  rintro e w' ⟨hb, ⟨⟨i, hi, hf0⟩, rfl⟩ | ⟨_, ⟨er, ⟨he1, he2⟩, rfl⟩ | ⟨rn, rl, hG, hno, rfl⟩ | ⟨A3, c3, rn, rl, hG, hyes, rfl, hv⟩⟩⟩
  · refine ⟨hb, .inl ⟨15, rfl, by omega, ?_⟩⟩
    have hi' : i < 2 := hi
    match i, hi' with
    | 0, _ =>
      have h0 : (decide (k = 4) && rightB (.mk k na ta l)) = false := hf0
      by_cases hk : k = 4
      · rw [decide_eq_true hk, Bool.true_and] at h0
        exact .inr (.inl h0)
      · exact .inl hk
    | 1, _ => cases hf0
  · exact ⟨hb, .inl ⟨er, rfl, by omega, .inr (.inr (.inl he2))⟩⟩
  · exact ⟨hb, .inl ⟨1, rfl, by omega, .inr (.inr (.inr rfl))⟩⟩
  · obtain ⟨rfl, h1, h2, hG⟩ := hG
    injection hG with _ e1 _ e2
    subst e1 e2
    exact ⟨hb, .inr ⟨rfl, h1, h2, hyes, A3, c3, rfl, hv⟩⟩
end As
end Go.Proofs.YtopmodahdmnpjaaGreatDoor
