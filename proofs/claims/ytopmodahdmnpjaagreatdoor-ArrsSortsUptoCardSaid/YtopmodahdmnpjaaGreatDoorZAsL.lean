/- arrs.Call("sort"), arrs.Call("rsort") at a row of numbers. -/
import Derived.Test.YtopmodahdmnpjaaGreatDoorZAsC
namespace Go.Proofs.YtopmodahdmnpjaaGreatDoor
open Go Go.RowKit Go.Ev
namespace As
open Dp
theorem vat_own {w : World} {base : Nat} {sv : Value} {ps : List PI} {vs : List Int} (hO : w.ownsRow base 34 7 sv ps.length (rowC ps)) (hN : ∀ q ∈ ps, NIt q) (he : ps.map PI.it = numI vs 0) (hl : ps.length ≤ 2048) :
    ∃ A c, sv = .slice A (numI vs 0).length c ∧ VAt w w.heap.size (numG vs) (.agg #[.int .i64 4, .int .i64 vs.length, .string ⟨#[]⟩, .slice A (numI vs 0).length c]) := by
  have hlen : (numI vs 0).length = ps.length := by rw [← he, List.length_map]
  obtain ⟨A, c, rfl⟩ := own_form0 hO
  have hget : ∀ (i : Nat) (it : GI), (numI vs 0)[i]? = some it → ∃ q, ps[i]? = some q ∧ it = q.it ∧ NIt q := fun i it h => by
    rw [← he, List.getElem?_map] at h
    cases hq : ps[i]? with
    | none => rw [hq] at h; cases h
    | some q =>
      rw [hq] at h
      injection h with h
      exact ⟨q, rfl, h.symm, hN q (List.mem_of_getElem? hq)⟩
  have hfm : ps.length ≤ c ∧ ∃ g, 0 < ps.length → A = some ⟨g, 0, none⟩ ∧ g < w.heap.size := by
    rcases hO.2 with ⟨e, h0⟩ | ⟨g, cap, cur, e, _, hg, h1, _⟩
    · exact ⟨by omega, 0, fun h => by omega⟩
    · injection e with e _ e2
      exact ⟨by omega, g, fun _ => ⟨e, (Array.getElem?_eq_some_iff.1 hg).1⟩⟩
  obtain ⟨hc, g, hg⟩ := hfm
  obtain ⟨C, hC⟩ : ∃ C : Nat → Value, ∀ i q, ps[i]? = some q → C i = q.val := ⟨fun i => match ps[i]? with | some q => q.val | none => .int .i64 0, fun i q h => by simp only [h]⟩
  refine ⟨A, c, by rw [hlen], ?_⟩
  refine .mk 4 vs.length ⟨#[]⟩ (numI vs 0) A c g 0 C (by omega) (by omega) (fun h => hg (by omega)) (fun i it h => ?_) (fun i it h => ?_)
  · obtain ⟨q, hq, rfl, _⟩ := hget i it h
    have hi := (List.getElem?_eq_some_iff.1 hq).1
    obtain ⟨e, _⟩ := hg (by omega)
    rw [e] at hO
    have hr := item_row hO rfl hq
    rw [hC i q hq, Nat.zero_add]
    exact ⟨hr 0 (by decide), hr 1 (by decide), hr 2 (by decide), _, _, _, _, rfl, hr 3 (by decide), hr 4 (by decide), hr 5 (by decide), hr 6 (by decide)⟩
  · obtain ⟨q, hq, rfl, q1, q2, q3, _⟩ := hget i it h
    rw [hC i q hq]
    obtain ⟨qb, qi, qs, qk, qn, qt, ql, qA, qc⟩ := q
    simp only at q1 q2 q3
    subst q1 q2 q3
    exact vat_num _ _ _ _ _
theorem sml_num (l : List Int) (hl : l.length ≤ 2048) : Sml (numG l) :=
  .mk _ _ _ _ (by rw [numI_len]; omega) (fun i it h => by
    have hi := (List.getElem?_eq_some_iff.1 h).1
    rw [numI_len] at hi
    rw [numI_get l 0 i _ (List.getElem?_eq_getElem hi)] at h
    injection h with h
    subst h
    exact sml_i)
set_option maxRecDepth 100000 in
theorem taken_list (n : Int) (t : ByteArray) (A : Option Addr) (l c : Nat) (w : World) (hR : ∀ wy, Below w.heap.size w wy → Calls Tryz.prog 14 #[.agg #[.int .i64 4, .int .i64 n, .string t, .slice A l c]] wy fun e w' => e = .returned (.bool true) ∧ Below wy.heap.size wy w') :
    Calls Tryz.prog 13 #[.int .u8 97, .agg #[.int .i64 4, .int .i64 n, .string t, .slice A l c]] w fun e w' => e = .returned (.bool true) ∧ Below w.heap.size w w' := by
  have HB := Lib.hid ((Below.refl w.heap.size w).alloc (Nat.le_refl _) (.cells #[.int .i64 4, .int .i64 n, .string t, .slice A l c] 24))
  have HR := Lib.hid hR
  clear hR
  go_enter Tryz.func13, Tryz.ntmps13
  go_wp2_with (go_at_call 14; refine (HR.out _ HB.out).mono ?_; rintro e w1 ⟨rfl, hb⟩; have HB1 := Lib.hid (HB.out.trans (hb.mono HB.out.size)); clear hb)
  go_ret
  exact ⟨rfl, HB1.out⟩
set_option maxRecDepth 100000 in
set_option maxHeartbeats 4000000 in
theorem fn_9 {av : Value} {w : World} {ns : List Int} {L : Int} (h : ∀ wz, Below w.heap.size w wz → Calls Tryz.prog 54 #[av, .bool false, .bool false, .bool false] wz fun e w2 => ∃ vs sv2 ps, SortOf false ns vs ∧ e = .returned (.tuple #[.agg #[.int .i64 4, .int .i64 L, .string ⟨#[]⟩, sv2], .int .i64 0]) ∧ ps.map PI.it = numI vs 0 ∧ w2.ownsRow wz.heap.size 34 7 sv2 ps.length (rowC ps) ∧ (∀ q ∈ ps, NIt q) ∧ Below wz.heap.size wz w2) :
    Calls Tryz.prog 53 #[av] w fun e w2 => ∃ vs sv2 ps, SortOf false ns vs ∧ e = .returned (.tuple #[.agg #[.int .i64 4, .int .i64 L, .string ⟨#[]⟩, sv2], .int .i64 0]) ∧ ps.map PI.it = numI vs 0 ∧ w2.ownsRow w.heap.size 34 7 sv2 ps.length (rowC ps) ∧ (∀ q ∈ ps, NIt q) ∧ Below w.heap.size w w2 := by
  have hal := (Below.refl w.heap.size w).alloc (Nat.le_refl _) (.cells #[.int .i64 0, .int .i64 0, .string ⟨#[]⟩, .slice none 0 0] 24)
  have HB := Lib.hid hal
  have HZ := Lib.hid (Blk.new w 24 #[.int .i64 0, .int .i64 0, .string ⟨#[]⟩, .slice none 0 0])
  have hs1 : (w.alloc (.cells #[.int .i64 0, .int .i64 0, .string ⟨#[]⟩, .slice none 0 0] 24)).heap.size = w.heap.size + 1 := by simp
  have H1 := h _ hal
  rw [hs1] at H1
  have H := Lib.hid H1
  clear h hal H1
  go_enter Tryz.func53, Tryz.ntmps53
  go_wp2_with (go_at_call 54; refine H.out.mono ?_; rintro e w4 ⟨vs, sv2, ps, hso, rfl, hm, ho, hn, hb4⟩; have HSo := Lib.hid hso; have HM := Lib.hid hm; have HO := Lib.hid ho; have HN := Lib.hid hn; have HB4 := Lib.hid hb4; have HZ4 := Lib.hid (HZ.out.below hb4 (Nat.lt_succ_self _)); clear hso hm ho hn hb4; have z1 : w4.cell? ⟨w.heap.size, 0, none⟩ = some (.int .i64 0) := HZ4.out.cell 0; have z2 : w4.cell? ⟨w.heap.size, 1, none⟩ = some (.int .i64 0) := HZ4.out.cell 1; have z3 : w4.cell? ⟨w.heap.size, 2, none⟩ = some (.string ⟨#[]⟩) := HZ4.out.cell 2; have z4 : w4.cell? ⟨w.heap.size, 3, none⟩ = some (.slice none 0 0) := HZ4.out.cell 3; have zf0 := HZ4.out.frozen 0; have zf1 := HZ4.out.frozen 1; have zf2 := HZ4.out.frozen 2; have zf3 := HZ4.out.frozen 3; obtain ⟨A4, c4, rfl⟩ := own_form0 HO.out)
  have HS4 := Lib.hid (store4 HZ4.out (.int .i64 4) (.int .i64 L) (.string ⟨#[]⟩) (.slice A4 ps.length c4))
  have hOf := own_keeps HO.out HS4.out.2 (fun e => by have := (HO.out.lt _ e.symm).1; omega)
  have hBf := (HB.out.trans (HB4.out.mono (Nat.le_succ _))).trans (HS4.out.2.below (Nat.le_trans (Nat.le_succ _) (Nat.le_trans (Nat.le_of_eq hs1.symm) HB4.out.size)) (fun j e => by omega))
  generalize (((w4.setCell ⟨w.heap.size, 0, none⟩ (.int .i64 4)).setCell ⟨w.heap.size, 1, none⟩ (.int .i64 L)).setCell ⟨w.heap.size, 2, none⟩ (.string ⟨#[]⟩)).setCell ⟨w.heap.size, 3, none⟩ (.slice A4 ps.length c4) = wf at *
  have e0 : wf.cell? ⟨w.heap.size, 0, none⟩ = some (.int .i64 4) := HS4.out.1.cell 0
  have e1 : wf.cell? ⟨w.heap.size, 1, none⟩ = some (.int .i64 L) := HS4.out.1.cell 1
  have e2 : wf.cell? ⟨w.heap.size, 2, none⟩ = some (.string ⟨#[]⟩) := HS4.out.1.cell 2
  have e3 : wf.cell? ⟨w.heap.size, 3, none⟩ = some (.slice A4 ps.length c4) := HS4.out.1.cell 3
  refine bodyPost_ret (v := .tuple #[.agg #[.int .i64 4, .int .i64 L, .string ⟨#[]⟩, .slice A4 ps.length c4], .int .i64 0]) (by simp [results, Tryz.results53, go_sem, e0, e1, e2, e3]) rfl ?_
  exact ⟨_, _, ps, HSo.out, rfl, HM.out, own_le2 hOf (Nat.le_succ _), HN.out, hBf⟩
set_option maxRecDepth 100000 in
set_option maxHeartbeats 4000000 in
theorem fn_10 {av : Value} {w : World} {ns : List Int} {L : Int} (h : ∀ wz, Below w.heap.size w wz → Calls Tryz.prog 54 #[av, .bool true, .bool false, .bool false] wz fun e w2 => ∃ vs sv2 ps, SortOf true ns vs ∧ e = .returned (.tuple #[.agg #[.int .i64 4, .int .i64 L, .string ⟨#[]⟩, sv2], .int .i64 0]) ∧ ps.map PI.it = numI vs 0 ∧ w2.ownsRow wz.heap.size 34 7 sv2 ps.length (rowC ps) ∧ (∀ q ∈ ps, NIt q) ∧ Below wz.heap.size wz w2) :
    Calls Tryz.prog 55 #[av] w fun e w2 => ∃ vs sv2 ps, SortOf true ns vs ∧ e = .returned (.tuple #[.agg #[.int .i64 4, .int .i64 L, .string ⟨#[]⟩, sv2], .int .i64 0]) ∧ ps.map PI.it = numI vs 0 ∧ w2.ownsRow w.heap.size 34 7 sv2 ps.length (rowC ps) ∧ (∀ q ∈ ps, NIt q) ∧ Below w.heap.size w w2 := by
  have hal := (Below.refl w.heap.size w).alloc (Nat.le_refl _) (.cells #[.int .i64 0, .int .i64 0, .string ⟨#[]⟩, .slice none 0 0] 24)
  have HB := Lib.hid hal
  have HZ := Lib.hid (Blk.new w 24 #[.int .i64 0, .int .i64 0, .string ⟨#[]⟩, .slice none 0 0])
  have hs1 : (w.alloc (.cells #[.int .i64 0, .int .i64 0, .string ⟨#[]⟩, .slice none 0 0] 24)).heap.size = w.heap.size + 1 := by simp
  have H1 := h _ hal
  rw [hs1] at H1
  have H := Lib.hid H1
  clear h hal H1
  go_enter Tryz.func55, Tryz.ntmps55
  go_wp2_with (go_at_call 54; refine H.out.mono ?_; rintro e w4 ⟨vs, sv2, ps, hso, rfl, hm, ho, hn, hb4⟩; have HSo := Lib.hid hso; have HM := Lib.hid hm; have HO := Lib.hid ho; have HN := Lib.hid hn; have HB4 := Lib.hid hb4; have HZ4 := Lib.hid (HZ.out.below hb4 (Nat.lt_succ_self _)); clear hso hm ho hn hb4; have z1 : w4.cell? ⟨w.heap.size, 0, none⟩ = some (.int .i64 0) := HZ4.out.cell 0; have z2 : w4.cell? ⟨w.heap.size, 1, none⟩ = some (.int .i64 0) := HZ4.out.cell 1; have z3 : w4.cell? ⟨w.heap.size, 2, none⟩ = some (.string ⟨#[]⟩) := HZ4.out.cell 2; have z4 : w4.cell? ⟨w.heap.size, 3, none⟩ = some (.slice none 0 0) := HZ4.out.cell 3; have zf0 := HZ4.out.frozen 0; have zf1 := HZ4.out.frozen 1; have zf2 := HZ4.out.frozen 2; have zf3 := HZ4.out.frozen 3; obtain ⟨A4, c4, rfl⟩ := own_form0 HO.out)
  have HS4 := Lib.hid (store4 HZ4.out (.int .i64 4) (.int .i64 L) (.string ⟨#[]⟩) (.slice A4 ps.length c4))
  have hOf := own_keeps HO.out HS4.out.2 (fun e => by have := (HO.out.lt _ e.symm).1; omega)
  have hBf := (HB.out.trans (HB4.out.mono (Nat.le_succ _))).trans (HS4.out.2.below (Nat.le_trans (Nat.le_succ _) (Nat.le_trans (Nat.le_of_eq hs1.symm) HB4.out.size)) (fun j e => by omega))
  generalize (((w4.setCell ⟨w.heap.size, 0, none⟩ (.int .i64 4)).setCell ⟨w.heap.size, 1, none⟩ (.int .i64 L)).setCell ⟨w.heap.size, 2, none⟩ (.string ⟨#[]⟩)).setCell ⟨w.heap.size, 3, none⟩ (.slice A4 ps.length c4) = wf at *
  have e0 : wf.cell? ⟨w.heap.size, 0, none⟩ = some (.int .i64 4) := HS4.out.1.cell 0
  have e1 : wf.cell? ⟨w.heap.size, 1, none⟩ = some (.int .i64 L) := HS4.out.1.cell 1
  have e2 : wf.cell? ⟨w.heap.size, 2, none⟩ = some (.string ⟨#[]⟩) := HS4.out.1.cell 2
  have e3 : wf.cell? ⟨w.heap.size, 3, none⟩ = some (.slice A4 ps.length c4) := HS4.out.1.cell 3
  refine bodyPost_ret (v := .tuple #[.agg #[.int .i64 4, .int .i64 L, .string ⟨#[]⟩, .slice A4 ps.length c4], .int .i64 0]) (by simp [results, Tryz.results55, go_sem, e0, e1, e2, e3]) rfl ?_
  exact ⟨_, _, ps, HSo.out, rfl, HM.out, own_le2 hOf (Nat.le_succ _), HN.out, hBf⟩
set_option maxRecDepth 100000 in
set_option maxHeartbeats 1000000 in
theorem call_sort (ns : List Int) (hns : ns.length ≤ 2000) (h64 : ∀ x ∈ ns, In64 x) (m : Int) (w : World) (hL : LibA m w) (hLS : ∀ wz, Below w.heap.size w wz → LibS wz) (A1 : Option Addr) (c1 : Nat) (g cap : Nat)
    (hX : VAt w w.heap.size (numG ns) (.agg #[.int .i64 4, .int .i64 ns.length, .string ⟨#[]⟩, .slice A1 (numI ns 0).length c1]))
    (hA : ArgsA w g [(4, ns.length, ⟨#[]⟩, A1, (numI ns 0).length, c1)]) :
    Calls Tryz.prog 5 #[.string (mkS [115, 111, 114, 116]), .slice (some ⟨g, 0, none⟩) 1 cap] w fun e w' => Below w.heap.size w w' ∧ ∃ A c vs, SortOf false ns vs ∧ e = .returned (.tuple #[.agg #[.int .i64 4, .int .i64 vs.length, .string ⟨#[]⟩, .slice A (numI vs 0).length c], .int .i64 0]) ∧ VIn w' (fun b => w.heap.size ≤ b ∧ b < w'.heap.size) (numG vs) (.agg #[.int .i64 4, .int .i64 vs.length, .string ⟨#[]⟩, .slice A (numI vs 0).length c]) := by
  have hfit : Fit (numG ns) := fit_num ns (by omega) h64
  have hrg := right_num ns (by omega)
  have h := call_list (fun G => ∃ vs, SortOf false ns vs ∧ G = numG vs) (fun G hG => by
      obtain ⟨vs, hs, rfl⟩ := hG
      have hl := hs.length
      exact ⟨fit_num vs (by omega) (fun x hx => h64 x (hs.perm.subset hx)), sml_num vs (by omega), right_num vs (by omega)⟩)
    (mkS [115, 111, 114, 116]) (mkS [97]) 1 false 53 (fun _ ca => ca = #[]) [(4, ns.length, ⟨#[]⟩, A1, (numI ns 0).length, c1)] m w hL hLS g cap
    (fun w' b h => by
      obtain ⟨es, clock, hm, ⟨i, f5⟩, -⟩ := h
      exact ⟨es, clock, i, _, hm, f5, rfl⟩)
    (fun _ _ _ h _ => h) (Nat.le_refl _) (Nat.le_refl _) (by show 1 ≤ 1000; omega)
    (fun i hi h1 wz hz => by
      have h1' : i < 1 := h1
      obtain rfl : i = 0 := by omega
      exact taken_list ns.length ⟨#[]⟩ A1 (numI ns 0).length c1 wz (fun wy hy => by
        have hr := right_any (Nat.le_refl _) hLS hX hfit wy (hz.trans (hy.mono hz.size))
        rw [hrg] at hr
        exact hr))
    hA (fun args w => enter_of Tryz.func53 (by kernel_rfl) rfl args w)
    (fun w1 ca hl1 hb1 hc => by
      subst hc
      have hA1 := hA.below hb1 (Nat.le_refl _)
      refine (fn_9 (av := .slice (some ⟨g, 0, none⟩) 1 cap) (ns := ns) (L := (numI ns 0).length) (w := w1) (fun wz hz => ?_)).mono ?_
      · have hAz := hA1.below hz (Nat.le_refl _)
        obtain ⟨a0, a1, a2, a3⟩ := hAz.2 0 (Nat.zero_lt_one)
        cases hX with
        | mk _ _ _ _ _ _ b off C hc hn hAa hi hv =>
        exact sorted_any (Nat.le_refl _) hLS ns (numI ns 0) (numI_len ns 0) A1 c1 b off C hAa hi hv
          (fun i it h => by
            have hi := (List.getElem?_eq_some_iff.1 h).1
            rw [numI_len] at hi
            rw [numI_get ns 0 i _ (List.getElem?_eq_getElem hi)] at h
            injection h with h
            subst h
            exact ⟨_, List.getElem?_eq_getElem hi, h64 _ (List.getElem_mem hi), rfl⟩)
          (by rw [numI_len]; omega) false wz (hb1.trans (hz.mono hb1.size)) g 0 cap 4 ns.length ⟨#[]⟩ hAz.1 (by simpa using a0) (by simpa using a1) (by simpa using a2) (by simpa using a3)
      · rintro e w2 ⟨vs, sv2, ps, hs, rfl, hm, ho, hn, hb⟩
        have hvl : ps.length = vs.length := by
          have := congrArg List.length hm
          rwa [List.length_map, numI_len] at this
        have hsl := hs.length
        obtain ⟨A, c, rfl, hv⟩ := vat_own ho hn hm (by omega)
        have e1 : ((numI ns 0).length : Int) = (vs.length : Int) := by rw [numI_len, hsl]
        refine ⟨A, c, vs.length, numI vs 0, ?_, hv, ⟨vs, hs, rfl⟩, hb⟩
        rw [e1]
        rfl)
  refine h.mono ?_
  rintro e w' ⟨hb, A, c, rn, rl, rfl, hv, ⟨vs, hs, hG⟩⟩
  unfold numG at hG
  injection hG with _ hr _ hl
  subst hr hl
  exact ⟨hb, A, c, vs, hs, rfl, hv⟩
set_option maxRecDepth 100000 in
set_option maxHeartbeats 1000000 in
theorem call_rsort (ns : List Int) (hns : ns.length ≤ 2000) (h64 : ∀ x ∈ ns, In64 x) (m : Int) (w : World) (hL : LibA m w) (hLS : ∀ wz, Below w.heap.size w wz → LibS wz) (A1 : Option Addr) (c1 : Nat) (g cap : Nat)
    (hX : VAt w w.heap.size (numG ns) (.agg #[.int .i64 4, .int .i64 ns.length, .string ⟨#[]⟩, .slice A1 (numI ns 0).length c1]))
    (hA : ArgsA w g [(4, ns.length, ⟨#[]⟩, A1, (numI ns 0).length, c1)]) :
    Calls Tryz.prog 5 #[.string (mkS [114, 115, 111, 114, 116]), .slice (some ⟨g, 0, none⟩) 1 cap] w fun e w' => Below w.heap.size w w' ∧ ∃ A c vs, SortOf true ns vs ∧ e = .returned (.tuple #[.agg #[.int .i64 4, .int .i64 vs.length, .string ⟨#[]⟩, .slice A (numI vs 0).length c], .int .i64 0]) ∧ VIn w' (fun b => w.heap.size ≤ b ∧ b < w'.heap.size) (numG vs) (.agg #[.int .i64 4, .int .i64 vs.length, .string ⟨#[]⟩, .slice A (numI vs 0).length c]) := by
  have hfit : Fit (numG ns) := fit_num ns (by omega) h64
  have hrg := right_num ns (by omega)
  have h := call_list (fun G => ∃ vs, SortOf true ns vs ∧ G = numG vs) (fun G hG => by
      obtain ⟨vs, hs, rfl⟩ := hG
      have hl := hs.length
      exact ⟨fit_num vs (by omega) (fun x hx => h64 x (hs.perm.subset hx)), sml_num vs (by omega), right_num vs (by omega)⟩)
    (mkS [114, 115, 111, 114, 116]) (mkS [97]) 1 false 55 (fun _ ca => ca = #[]) [(4, ns.length, ⟨#[]⟩, A1, (numI ns 0).length, c1)] m w hL hLS g cap
    (fun w' b h => by
      obtain ⟨es, clock, hm, -, ⟨i, f5⟩⟩ := h
      exact ⟨es, clock, i, _, hm, f5, rfl⟩)
    (fun _ _ _ h _ => h) (Nat.le_refl _) (Nat.le_refl _) (by show 1 ≤ 1000; omega)
    (fun i hi h1 wz hz => by
      have h1' : i < 1 := h1
      obtain rfl : i = 0 := by omega
      exact taken_list ns.length ⟨#[]⟩ A1 (numI ns 0).length c1 wz (fun wy hy => by
        have hr := right_any (Nat.le_refl _) hLS hX hfit wy (hz.trans (hy.mono hz.size))
        rw [hrg] at hr
        exact hr))
    hA (fun args w => enter_of Tryz.func55 (by kernel_rfl) rfl args w)
    (fun w1 ca hl1 hb1 hc => by
      subst hc
      have hA1 := hA.below hb1 (Nat.le_refl _)
      refine (fn_10 (av := .slice (some ⟨g, 0, none⟩) 1 cap) (ns := ns) (L := (numI ns 0).length) (w := w1) (fun wz hz => ?_)).mono ?_
      · have hAz := hA1.below hz (Nat.le_refl _)
        obtain ⟨a0, a1, a2, a3⟩ := hAz.2 0 (Nat.zero_lt_one)
        cases hX with
        | mk _ _ _ _ _ _ b off C hc hn hAa hi hv =>
        exact sorted_any (Nat.le_refl _) hLS ns (numI ns 0) (numI_len ns 0) A1 c1 b off C hAa hi hv
          (fun i it h => by
            have hi := (List.getElem?_eq_some_iff.1 h).1
            rw [numI_len] at hi
            rw [numI_get ns 0 i _ (List.getElem?_eq_getElem hi)] at h
            injection h with h
            subst h
            exact ⟨_, List.getElem?_eq_getElem hi, h64 _ (List.getElem_mem hi), rfl⟩)
          (by rw [numI_len]; omega) true wz (hb1.trans (hz.mono hb1.size)) g 0 cap 4 ns.length ⟨#[]⟩ hAz.1 (by simpa using a0) (by simpa using a1) (by simpa using a2) (by simpa using a3)
      · rintro e w2 ⟨vs, sv2, ps, hs, rfl, hm, ho, hn, hb⟩
        have hvl : ps.length = vs.length := by
          have := congrArg List.length hm
          rwa [List.length_map, numI_len] at this
        have hsl := hs.length
        obtain ⟨A, c, rfl, hv⟩ := vat_own ho hn hm (by omega)
        have e1 : ((numI ns 0).length : Int) = (vs.length : Int) := by rw [numI_len, hsl]
        refine ⟨A, c, vs.length, numI vs 0, ?_, hv, ⟨vs, hs, rfl⟩, hb⟩
        rw [e1]
        rfl)
  refine h.mono ?_
  rintro e w' ⟨hb, A, c, rn, rl, rfl, hv, ⟨vs, hs, hG⟩⟩
  unfold numG at hG
  injection hG with _ hr _ hl
  subst hr hl
  exact ⟨hb, A, c, vs, hs, rfl, hv⟩
end As
end Go.Proofs.YtopmodahdmnpjaaGreatDoor
