/- DeepOwn: the law's walk. -/
import Derived.Test.YtnbhaokbaonjkaaGreatDoorDoM
import Derived.Test.YtnbhaokbaonjkaaGreatDoorMx08
namespace Go.Proofs.YtnbhaokbaonjkaaGreatDoor
open Go Go.RowKit
namespace Dp
theorem setG_len {gs : List GI} {nx : Int} {it : GI} {p : List GI × Int} (h : setG gs nx it = some p) (hg : gs.length ≤ 2048) : p.1.length ≤ 2048 := by
  unfold setG at h
  split at h
  · injection h with h
    subst h
    simpa using hg
  · split at h
    · cases h
    · injection h with h
      subst h
      simp
      omega
theorem makeG_len : ∀ (l gs : List GI) (nx : Int) (p : List GI × Int), makeG l gs nx = some p → gs.length ≤ 2048 → p.1.length ≤ 2048
  | [], gs, nx, p, h, hg => by
    rw [makeG] at h
    injection h with h
    subst h
    exact hg
  | it :: r, gs, nx, p, h, hg => by
    rw [makeG] at h
    cases hs : setG gs nx it with
    | none =>
      rw [hs] at h
      cases h
    | some q =>
      rw [hs] at h
      exact makeG_len r q.1 q.2 p h (setG_len hs hg)
theorem madeG_form (l : List GI) : ∃ k n gs e, madeG l = (.mk k n ⟨#[]⟩ gs, e) ∧ gs.length ≤ 2048 := by
  unfold madeG
  cases h : makeG l [] 0 with
  | none => exact ⟨0, 0, [], 1, rfl, Nat.zero_le _⟩
  | some p =>
    simp only
    by_cases hr : rightB (.mk 4 p.2 ⟨#[]⟩ p.1) = true
    · rw [if_pos hr]
      exact ⟨4, p.2, p.1, 0, rfl, makeG_len l [] 0 p h (Nat.zero_le _)⟩
    · rw [if_neg hr]
      exact ⟨0, 0, [], 1, rfl, Nat.zero_le _⟩
/-- Seven cells stored in a row. -/
abbrev put7 (w : World) (g o : Nat) : World :=
  ((((((w.setCell ⟨g, o, none⟩ (.bool false)).setCell ⟨g, o + 1, none⟩ (.int .i64 (-77))).setCell ⟨g, o + 2, none⟩ (.string ⟨#[]⟩)).setCell ⟨g, o + 3, none⟩ (.int .i64 0)).setCell ⟨g, o + 3 + 1, none⟩ (.int .i64 0)).setCell ⟨g, o + 3 + 2, none⟩ (.string ⟨#[]⟩)).setCell ⟨g, o + 3 + 3, none⟩ (.slice none 0 0)
theorem put7_keeps (w : World) (g o : Nat) : Keeps (fun j => j = g) w (put7 w g o) :=
  ((((((set_keeps w g o _).trans (set_keeps _ g (o + 1) _)).trans (set_keeps _ g (o + 2) _)).trans (set_keeps _ g (o + 3) _)).trans (set_keeps _ g (o + 3 + 1) _)).trans (set_keeps _ g (o + 3 + 2) _)).trans (set_keeps _ g (o + 3 + 3) _)
theorem put7_own {w : World} {base g cap n : Nat} {e : TypeId} {xs : List Value} (h : w.ownsRow base e 7 (.slice (some ⟨g, 0, none⟩) n cap) n xs) (o : Nat) : ∃ ys, (put7 w g o).ownsRow base e 7 (.slice (some ⟨g, 0, none⟩) n cap) n ys :=
  ⟨_, (((((((h.stored o (.bool false)).1.stored (o + 1) (.int .i64 (-77))).1.stored (o + 2) (.string ⟨#[]⟩)).1.stored (o + 3) (.int .i64 0)).1.stored (o + 3 + 1) (.int .i64 0)).1.stored (o + 3 + 2) (.string ⟨#[]⟩)).1.stored (o + 3 + 3) (.slice none 0 0)).1⟩
theorem some_cells {w : World} {base g cap n : Nat} {e : TypeId} {xs : List Value} (h : w.ownsRow base e 7 (.slice (some ⟨g, 0, none⟩) n cap) n xs) (j r : Nat) (hj : j < n) (hr : r < 7) : ∃ u, w.cell? ⟨g, j * 7 + r, none⟩ = some u := by
  have hl : j * 7 + r < xs.length := by rw [h.1]; omega
  exact ⟨xs[j * 7 + r], addr_add0 (h.cells (g := g) rfl (j * 7 + r) _ (List.getElem?_eq_getElem hl))⟩
theorem vin_go {W3 w4 w5 W6 : World} {S : Nat → Prop} {o : Option Nat} {g : GV} {v : Value} (h : VIn W3 S g v) (h4 : Below W3.heap.size W3 w4) (h5 : Keeps (fun b => some b = o) w4 w5) (h6 : Below w5.heap.size w5 W6) (hS : ∀ b, S b → b < W3.heap.size ∧ some b ≠ o) : VIn W6 S g v :=
  h.keep (fun _ h => h) fun q hq => by
    have h1 := (hS _ hq).1
    have h2 := h4.size
    have h3 := h5.size
    exact ((h6.cell (by omega)).trans (h5.cell (by omega) (hS _ hq).2)).trans (h4.cell h1)
theorem reads_two {w : World} {g : Nat} {t : TypeId} (h : Blk w g t #[.bool false, .int .i64 0, .string ⟨#[]⟩, .int .i64 0, .int .i64 0, .string ⟨#[]⟩, .slice none 0 0, .bool false, .int .i64 0, .string ⟨#[]⟩, .int .i64 0, .int .i64 0, .string ⟨#[]⟩, .slice none 0 0]) : Reads w w.heap.size 7 (some ⟨g, 0, none⟩) 2 (rowC [zeroPI, zeroPI]) := by
  refine ⟨rfl, fun _ => ⟨⟨g, 0, none⟩, rfl, h.lt, fun j u hu => ?_⟩⟩
  have hj : j < 14 := (List.getElem?_eq_some_iff.1 hu).1
  have e : ((⟨g, 0, none⟩ : Addr).add j) = ⟨g, j, none⟩ := by
    unfold Addr.add
    by_cases h0 : j = 0
    · subst h0; rfl
    · simp [h0]
  rw [e, h.cell]
  simpa [rowC, PI.cells, zeroPI] using hu
theorem row_vin {w W : World} {B : Nat} {base : Nat} {A : Option Addr} {c m : Nat} {ps : List PI} (ho : W.ownsRow base 34 7 (.slice A m c) ps.length (rowC ps)) (hm : ps.length = m) (hb : Below B w W) (hBw : B ≤ w.heap.size) (hv : ∀ q ∈ ps, VAt w B q.gv q.val) (k n : Int) : VIn W (fun b => (b < B ∨ base ≤ b) ∧ b < W.heap.size) (.mk k n ⟨#[]⟩ (ps.map PI.it)) (.agg #[.int .i64 k, .int .i64 n, .string ⟨#[]⟩, .slice A m c]) := by
  subst hm
  exact vin_row ho (fun b h1 h2 => ⟨.inr h1, h2⟩) (fun p hp => (VIn.of (hv p hp)).keep (fun b hb' => ⟨.inl hb', Nat.lt_of_lt_of_le hb' (Nat.le_trans hBw hb.size)⟩) fun q hq => hb.cell hq) k n ⟨#[]⟩
section
variable {w : World}
set_option maxRecDepth 100000 in
set_option maxHeartbeats 4000000 in
theorem deepOwn_any (l : List GI) (A : Option Addr) (c bb off : Nat) (C : Nat → Value) (hA : 0 < l.length → A = some ⟨bb, off, none⟩ ∧ bb < w.heap.size)
    (hi : ∀ i it, l[i]? = some it → ItemAt w bb (off + i * 7) it (C i)) (hv : ∀ i it, l[i]? = some it → VAt w w.heap.size it.val (C i)) (hF : ∀ (i : Nat) (it : GI), l[i]? = some it → In64 it.int ∧ it.text.size ≤ 140737488351232)
    (hft : ∀ (i : Nat) (it : GI), l[i]? = some it → Fit it.val) (hsm : ∀ (i : Nat) (it : GI), l[i]? = some it → Sml it.val) (hl : l.length * 88 ≤ 140737488351232) (hL : LibS w) :
    Calls Tryz.prog 3 #[.slice A l.length c] w fun e w' => e = .returned (.bool true) ∧ Below w.heap.size w w' := by
  have hLib := fun (w' : World) (hb : Below w.heap.size w w') => hL.below' hb (Nat.le_refl _)
  obtain ⟨k, n, gs, er, hm, hgl⟩ := madeG_form l
  have HM : Hid (∀ w' : World, Below w.heap.size w w' → Calls Tryz.prog 6 #[.slice A l.length c] w' fun e w'' => ∃ A1 c1 ps, e = .returned (.tuple #[.agg #[.int .i64 k, .int .i64 n, .string ⟨#[]⟩, .slice A1 gs.length c1], .int .i64 er]) ∧ ps.map PI.it = gs ∧ RowSt w'.heap.size w'' (.slice A1 gs.length c1) ps ∧ Below w'.heap.size w' w'') := fun w' hb => (make_any (Nat.le_refl _) hLib l A c bb off C hA hi hv hF hft hsm hl w' hb).mono fun e w'' ⟨k1, n1, sv, ps, e1, h1, h2, h3, h4⟩ => by
    rw [hm] at h2
    injection h2 with h5 h6
    injection h5 with h7 h8 _ h9
    subst h6 h7 h8
    obtain ⟨A1, c1, rfl⟩ := h3.form
    have hpl : ps.length = gs.length := by rw [h9]; simp
    rw [hpl] at h1 h3
    exact ⟨A1, c1, ps, h1, h9.symm, h3, h4⟩
  have HRM : Hid (∀ w' : World, Below w.heap.size w w' → Calls Tryz.prog 7 #[.slice A l.length c] w' fun e w'' => ∃ A1 c1 ps, e = .returned (.tuple #[.agg #[.int .i64 k, .int .i64 n, .string ⟨#[]⟩, .slice A1 gs.length c1], .int .i64 er]) ∧ ps.map PI.it = gs ∧ w''.ownsRow w'.heap.size 34 7 (.slice A1 gs.length c1) ps.length (rowC ps) ∧ (∀ q ∈ ps, VAt w w.heap.size q.gv q.val) ∧ Below w'.heap.size w' w'') := fun w' hb => (rmake_any (Nat.le_refl _) l A c bb off C hA hi hv hF hft hsm hl w' hb).mono fun e w'' ⟨k1, n1, sv, ps, e1, h1, h2, h3, h4, h5⟩ => by
    rw [hm] at h2
    injection h2 with h5' h6
    injection h5' with h7 h8 _ h9
    subst h6 h7 h8
    obtain ⟨A1, c1, rfl⟩ := own_form h3
    have hpl : ps.length = gs.length := by rw [h9]; simp
    rw [hpl] at h1
    have h3' : w''.ownsRow w'.heap.size 34 7 (.slice A1 gs.length c1) ps.length (rowC ps) := by rw [← hpl]; exact h3
    exact ⟨A1, c1, ps, h1, h9.symm, h3', h4, h5⟩
  have HAl := Lib.hid (fun (w' : World) (hb : Below w.heap.size w w') => alive08 w' (hLib w' hb))
  have HRw : Hid (∀ (wz : World) (x x' : Value), VAt wz wz.heap.size (.mk k n ⟨#[]⟩ gs) x → VAt wz wz.heap.size (.mk k n ⟨#[]⟩ gs) x' → Calls Tryz.prog 8 #[x, x'] wz fun e w'' => e = .returned (.bool true) ∧ Below wz.heap.size wz w'') := fun wz x x' h h' => raw_same (Nat.le_refl _) h h' wz (Below.refl _ _)
  have hrf := Below.refl w.heap.size w
  clear hA hi hv hF hft hsm hL hLib hm
  have HM1 := HM.out w hrf
  go_enter Tryz.func3, Tryz.ntmps3
  go_upto_region 2 with (go_at_call 6; refine HM1.mono ?_; rintro e w1 ⟨A1, c1, ps1, rfl, hg1, hr1, hb1⟩; have HB1 := Lib.hid hb1; have HR1 := Lib.hid hr1; have HG1 := Lib.hid hg1; clear hb1 hr1 hg1)
  have hal := fun (wz : World) (o : Obj) => (Below.refl wz.heap.size wz).alloc (Nat.le_refl _) o
  have HAL := Lib.hid hal
  have hM2 := HM.out (w1.alloc (.cells #[.int .i64 k, .int .i64 n, .string ⟨#[]⟩, .slice A1 gs.length c1] 24)) (HB1.out.alloc HB1.out.size _)
  have hsx : (w1.alloc (.cells #[.int .i64 k, .int .i64 n, .string ⟨#[]⟩, .slice A1 gs.length c1] 24)).heap.size = w1.heap.size + 1 := by simp
  rw [hsx] at hM2
  clear HM1 hal
  go_upto_region 3 with (go_at_call 6; refine hM2.mono ?_; rintro e w2 ⟨A2, c2, ps2, rfl, hg2, hr2, hb2⟩; have HB2 := Lib.hid ((HAL.out w1 (.cells #[.int .i64 k, .int .i64 n, .string ⟨#[]⟩, .slice A1 gs.length c1] 24)).trans (hb2.mono (Nat.le_succ _))); have HX2 := Lib.hid ((Blk.new w1 24 #[.int .i64 k, .int .i64 n, .string ⟨#[]⟩, .slice A1 gs.length c1]).below hb2 (Nat.lt_succ_self _)); have HR2 := Lib.hid hr2; have HG2 := Lib.hid hg2; clear hb2 hr2 hg2)
  have hBw2 : Below w.heap.size w w2 := HB1.out.trans (HB2.out.mono HB1.out.size)
  have hM3 := HRM.out (w2.alloc (.cells #[.int .i64 k, .int .i64 n, .string ⟨#[]⟩, .slice A2 gs.length c2] 24)) (hBw2.alloc hBw2.size _)
  have hsy : (w2.alloc (.cells #[.int .i64 k, .int .i64 n, .string ⟨#[]⟩, .slice A2 gs.length c2] 24)).heap.size = w2.heap.size + 1 := by simp
  rw [hsy] at hM3
  clear hM2 hsx
  go_upto_region 4 with (go_at_call 7; refine hM3.mono ?_; rintro e w3 ⟨A3, c3, ps3, rfl, hg3, ho3, hv3, hb3⟩; have HB3 := Lib.hid ((HAL.out w2 (.cells #[.int .i64 k, .int .i64 n, .string ⟨#[]⟩, .slice A2 gs.length c2] 24)).trans (hb3.mono (Nat.le_succ _))); have HY3 := Lib.hid ((Blk.new w2 24 #[.int .i64 k, .int .i64 n, .string ⟨#[]⟩, .slice A2 gs.length c2]).below hb3 (Nat.lt_succ_self _)); have HO3 := Lib.hid ho3; have HV3 := Lib.hid hv3; have HG3 := Lib.hid hg3; clear hb3 ho3 hv3 hg3)
  have hs1 := HB1.out.size
  have hs2 := HB2.out.size
  have hs3 := HB3.out.size
  have HX3 := Lib.hid (blk_below (blk_below HX2.out HB3.out) (HAL.out w3 (.cells #[.int .i64 k, .int .i64 n, .string ⟨#[]⟩, .slice A3 gs.length c3] 24)))
  have HY3' := Lib.hid (blk_below HY3.out (HAL.out w3 (.cells #[.int .i64 k, .int .i64 n, .string ⟨#[]⟩, .slice A3 gs.length c3] 24)))
  have HW3 := Lib.hid (Blk.new w3 24 #[.int .i64 k, .int .i64 n, .string ⟨#[]⟩, .slice A3 gs.length c3])
  have hBw3 : Below w.heap.size w w3 := hBw2.trans (HB3.out.mono (Nat.le_trans hs1 hs2))
  have hl1 : ps1.length = gs.length := by rw [← HG1.out]; simp
  have hl3 : ps3.length = gs.length := by rw [← HG3.out]; simp
  have hvx := (((HR1.out.below HB2.out).below HB3.out).below (HAL.out w3 (.cells #[.int .i64 k, .int .i64 n, .string ⟨#[]⟩, .slice A3 gs.length c3] 24))).vin k n ⟨#[]⟩
  have hvy := ((HR2.out.below HB3.out).below (HAL.out w3 (.cells #[.int .i64 k, .int .i64 n, .string ⟨#[]⟩, .slice A3 gs.length c3] 24))).vin k n ⟨#[]⟩
  have hvw := row_vin (own_below HO3.out (HAL.out w3 (.cells #[.int .i64 k, .int .i64 n, .string ⟨#[]⟩, .slice A3 gs.length c3] 24))) hl3 (hBw3.alloc hBw3.size (.cells #[.int .i64 k, .int .i64 n, .string ⟨#[]⟩, .slice A3 gs.length c3] 24)) (Nat.le_refl _) HV3.out k n
  rw [HG1.out] at hvx
  rw [HG2.out] at hvy
  rw [HG3.out] at hvw
  have HO1 : Hid ((w3.alloc (.cells #[.int .i64 k, .int .i64 n, .string ⟨#[]⟩, .slice A3 gs.length c3] 24)).ownsRow w.heap.size 34 7 (.slice A1 gs.length c1) gs.length (rowC ps1)) := by
    have h := (((HR1.out.below HB2.out).below HB3.out).below (HAL.out w3 (.cells #[.int .i64 k, .int .i64 n, .string ⟨#[]⟩, .slice A3 gs.length c3] 24))).owns
    rw [hl1] at h
    exact h
  have hown1 : ∀ b, some b = Value.ownBlock (.slice A1 gs.length c1) → w.heap.size ≤ b ∧ b < w1.heap.size := fun b e => HR1.out.owns.lt b e.symm
  have hsw : (w3.alloc (.cells #[.int .i64 k, .int .i64 n, .string ⟨#[]⟩, .slice A3 gs.length c3] 24)).heap.size = w3.heap.size + 1 := by simp
  have HBW := Lib.hid (hBw3.alloc hBw3.size (.cells #[.int .i64 k, .int .i64 n, .string ⟨#[]⟩, .slice A3 gs.length c3] 24))
  generalize w3.alloc (.cells #[.int .i64 k, .int .i64 n, .string ⟨#[]⟩, .slice A3 gs.length c3] 24) = W3 at *
  have HVx := Lib.hid hvx
  have HVy := Lib.hid hvy
  have HVw := Lib.hid hvw
  have hR1 := HRw.out W3 _ _ (HVx.out.at_ (fun b _ h => h.2) (fun b h => h.2)) (HVw.out.at_ (fun b _ h => h.2) (fun b h => h.2))
  have x0 : W3.cell? ⟨w1.heap.size, 0, none⟩ = some (.int .i64 k) := HX3.out.cell 0
  have x1 : W3.cell? ⟨w1.heap.size, 1, none⟩ = some (.int .i64 n) := HX3.out.cell 1
  have x2 : W3.cell? ⟨w1.heap.size, 2, none⟩ = some (.string ⟨#[]⟩) := HX3.out.cell 2
  have x3 : W3.cell? ⟨w1.heap.size, 3, none⟩ = some (.slice A1 gs.length c1) := HX3.out.cell 3
  have y0 : W3.cell? ⟨w3.heap.size, 0, none⟩ = some (.int .i64 k) := HW3.out.cell 0
  have y1 : W3.cell? ⟨w3.heap.size, 1, none⟩ = some (.int .i64 n) := HW3.out.cell 1
  have y2 : W3.cell? ⟨w3.heap.size, 2, none⟩ = some (.string ⟨#[]⟩) := HW3.out.cell 2
  have y3 : W3.cell? ⟨w3.heap.size, 3, none⟩ = some (.slice A3 gs.length c3) := HW3.out.cell 3
  clear hvx hvy hvw hM3 hsy HX2 HY3 HR2 HO3 HV3 HB3 HB2 HB1 hBw2 hBw3 HG1 HG2 HG3
  go_upto_region 6 with (go_at_call 8; refine hR1.mono ?_; rintro e w4 ⟨rfl, hb4⟩; have HB4 := Lib.hid hb4; clear hb4)
  clear hR1 x0 x1 x2 x3 y0 y1 y2 y3
  have hs4 := HB4.out.size
  have HX4 := Lib.hid (blk_below HX3.out HB4.out)
  have HO4 := Lib.hid (own_below HO1.out HB4.out)
  have x3 : w4.cell? ⟨w1.heap.size, 3, none⟩ = some (.slice A1 gs.length c1) := HX4.out.cell 3
  clear HO1 HX3
  have HK0 : Hid (Keeps (fun b => some b = Value.ownBlock (.slice A1 gs.length c1)) w4 w4) := Keeps.refl _ _
  have HX0 : Hid (∃ xs, w4.ownsRow w.heap.size 34 7 (.slice A1 gs.length c1) gs.length xs) := ⟨_, HO4.out⟩
  go_wp2_with fail
  go_loopw [39] (fun xi wx => ∃ (j : Nat), j ≤ gs.length ∧ xi = .int .i64 j ∧ Hid (Keeps (fun b => some b = Value.ownBlock (.slice A1 gs.length c1)) w4 wx) ∧ Hid (∃ xs, wx.ownsRow w.heap.size 34 7 (.slice A1 gs.length c1) gs.length xs)) (fun xi _ => gs.length - (ixOf xi).toNat)
  case atStart => exact ⟨0, Nat.zero_le _, rfl, HK0, HX0⟩
  case round =>
    obtain ⟨j, hj, rfl, HK, HX⟩ := hrel
    clear HK0 HX0 x3
    obtain ⟨xs, hxs⟩ := HX.out
    have HXr := Lib.hid (HX4.out.keeps HK.out (fun e => by have := (hown1 _ e).2; omega))
    have x3 : wr.cell? ⟨w1.heap.size, 3, none⟩ = some (.slice A1 gs.length c1) := HXr.out.cell 3
    by_cases hlt : j < gs.length
    · obtain ⟨g1, cap, hv, hg1a, hg1b⟩ := hxs.form (by omega)
      injection hv with e1 _ e3
      subst e1 e3
      obtain ⟨u0, p0⟩ : ∃ u, wr.cell? ⟨g1, j * 7, none⟩ = some u := some_cells hxs j 0 hlt (by decide)
      obtain ⟨u1, p1⟩ := some_cells hxs j 1 hlt (by decide)
      obtain ⟨u2, p2⟩ := some_cells hxs j 2 hlt (by decide)
      obtain ⟨u3, p3⟩ := some_cells hxs j 3 hlt (by decide)
      obtain ⟨u4, p4⟩ := some_cells hxs j 4 hlt (by decide)
      obtain ⟨u5, p5⟩ := some_cells hxs j 5 hlt (by decide)
      obtain ⟨u6, p6⟩ := some_cells hxs j 6 hlt (by decide)
      have f0 := hxs.frozenAt (j * 7)
      have f1 := hxs.frozenAt (j * 7 + 1)
      have f2 := hxs.frozenAt (j * 7 + 2)
      have f3 := hxs.frozenAt (j * 7 + 3)
      have f4 := hxs.frozenAt (j * 7 + 4)
      have f5 := hxs.frozenAt (j * 7 + 5)
      have f6 := hxs.frozenAt (j * 7 + 6)
      have hIx : (j : Int) < (gs.length : Int) := by omega
      have HKn : Hid (Keeps (fun b => some b = Value.ownBlock (.slice (some ⟨g1, 0, none⟩) gs.length c1)) w4 (put7 wr g1 (j * 7))) := HK.out.trans ((put7_keeps wr g1 (j * 7)).mono (fun b _ e => by rw [e]; rfl))
      have HXn : Hid (∃ xs, (put7 wr g1 (j * 7)).ownsRow w.heap.size 34 7 (.slice (some ⟨g1, 0, none⟩) gs.length c1) gs.length xs) := put7_own hxs (j * 7)
      clear hxs HX HK HXr HVx HVy HVw HRw HM HRM HAl HAL HO4
      go_wp2_with fail
      go_roundw
      case rel => exact ⟨j + 1, by omega, by go_num, HKn, HXn⟩
      case measure => simp [ixOf] <;> omega
    · obtain rfl : j = gs.length := by omega
      obtain ⟨i0, hi0, hz0, hz1, hz2⟩ := info_parts item_info
      have HOr := Lib.hid hxs
      have hsr := HK.out.size
      have HLr := Lib.hid (Blk.new wr 34 #[.bool false, .int .i64 0, .string ⟨#[]⟩, .int .i64 0, .int .i64 0, .string ⟨#[]⟩, .slice none 0 0, .bool false, .int .i64 0, .string ⟨#[]⟩, .int .i64 0, .int .i64 0, .string ⟨#[]⟩, .slice none 0 0])
      clear hxs HX HO4 HXr
      go_upto_region 12 with (at_builtin; refine wpList_append_any _ rfl (.tmp 50) (.tmp 53) _ rfl w.heap.size 34 i0 _ 7 88 Tryz.underlying22 hi0 hz0 hz1 hz2 rfl (by decide) (.slice A1 gs.length c1) gs.length xs rfl (HOr.out.alloc _) _ (some ⟨wr.heap.size, 0, none⟩) 2 2 (rowC [zeroPI, zeroPI]) rfl (reads_two HLr.out) (rowC_one _) (by unfold maxLen; omega) (by omega) (by simp; omega) ?_; intro v5 w5 hown5 hg5 hor5; have HG5 := Lib.hid hg5; clear hown5 hg5 hor5)
      have HK5 : Hid (Keeps (fun b => some b = Value.ownBlock (.slice A1 gs.length c1)) w4 w5) := HK.out.trans (((Keeps.refl _ wr).alloc _).trans (Keeps.of_grown HG5.out (fun gg e => e.symm)))
      have HB5 : Hid (Below w.heap.size w w5) := (HBW.out.trans (HB4.out.mono (by omega))).trans (HK5.out.below (by omega) (fun b e => (hown1 b e).1))
      have hs5 := HK5.out.size
      have hM6 := HM.out w5 HB5.out
      clear HG5 HLr HOr HK hi0 hz0 hz1 hz2
      go_upto_region 13 with (go_at_call 6; refine hM6.mono ?_; rintro e w6 ⟨A6, c6, ps6, rfl, hg6, hr6, hb6⟩; have HB6 := Lib.hid hb6; have HR6 := Lib.hid hr6; have HG6 := Lib.hid hg6; clear hb6 hr6 hg6)
      have HB7 := Lib.hid (HB6.out.trans ((HAL.out w6 (.cells #[.int .i64 k, .int .i64 n, .string ⟨#[]⟩, .slice A6 gs.length c6] 24)).mono HB6.out.size))
      have HZ7 := Lib.hid (Blk.new w6 24 #[.int .i64 k, .int .i64 n, .string ⟨#[]⟩, .slice A6 gs.length c6])
      have hvz := (HR6.out.below (HAL.out w6 (.cells #[.int .i64 k, .int .i64 n, .string ⟨#[]⟩, .slice A6 gs.length c6] 24))).vin k n ⟨#[]⟩
      rw [HG6.out] at hvz
      have HVz := Lib.hid hvz
      have hs6 := HB6.out.size
      have hsz : (w6.alloc (.cells #[.int .i64 k, .int .i64 n, .string ⟨#[]⟩, .slice A6 gs.length c6] 24)).heap.size = w6.heap.size + 1 := by simp
      clear hM6 hvz HR6 HG6 HB6
      generalize w6.alloc (.cells #[.int .i64 k, .int .i64 n, .string ⟨#[]⟩, .slice A6 gs.length c6] 24) = W6 at *
      have HY7 := Lib.hid (blk_below ((blk_below HY3'.out HB4.out).keeps HK5.out (fun e => by have := (hown1 _ e).2; omega)) HB7.out)
      have HW7 := Lib.hid (blk_below ((blk_below HW3.out HB4.out).keeps HK5.out (fun e => by have := (hown1 _ e).2; omega)) HB7.out)
      have HVy7 := Lib.hid (vin_go HVy.out HB4.out HK5.out HB7.out (fun b hS => ⟨hS.2, fun e => by have := (hown1 _ e).2; have := hS.1; omega⟩))
      have HVw7 := Lib.hid (vin_go HVw.out HB4.out HK5.out HB7.out (fun b hS => ⟨hS.2, fun e => by have := hown1 _ e; have := hS.1; omega⟩))
      have hs7 := HB7.out.size
      have HRy := HRw.out W6 _ _ (HVy7.out.at_ (fun b _ h => by have := h.2; omega) (fun b h => by have := h.2; omega)) (HVw7.out.at_ (fun b _ h => by have := h.2; omega) (fun b h => by have := h.2; omega))
      have HBW6 := Lib.hid (HB5.out.trans (HB7.out.mono (by omega)))
      have y0 : W6.cell? ⟨w2.heap.size, 0, none⟩ = some (.int .i64 k) := HY7.out.cell 0
      have y1 : W6.cell? ⟨w2.heap.size, 1, none⟩ = some (.int .i64 n) := HY7.out.cell 1
      have y2 : W6.cell? ⟨w2.heap.size, 2, none⟩ = some (.string ⟨#[]⟩) := HY7.out.cell 2
      have y3 : W6.cell? ⟨w2.heap.size, 3, none⟩ = some (.slice A2 gs.length c2) := HY7.out.cell 3
      have v0 : W6.cell? ⟨w3.heap.size, 0, none⟩ = some (.int .i64 k) := HW7.out.cell 0
      have v1 : W6.cell? ⟨w3.heap.size, 1, none⟩ = some (.int .i64 n) := HW7.out.cell 1
      have v2 : W6.cell? ⟨w3.heap.size, 2, none⟩ = some (.string ⟨#[]⟩) := HW7.out.cell 2
      have v3 : W6.cell? ⟨w3.heap.size, 3, none⟩ = some (.slice A3 gs.length c3) := HW7.out.cell 3
      clear HVx HVy HVw HM HRM HAL HK5 HB4 HB5 HX4 HY3' HW3
      go_wp2_with (first
        | (go_at_call 8; refine HRy.mono ?_; rintro e w7 ⟨rfl, hb7⟩; clear HRy
           have HZ8 := Lib.hid (blk_below HZ7.out hb7); have HW8 := Lib.hid (blk_below HW7.out hb7)
           have hs8 := hb7.size
           have HRz := HRw.out w7 _ _ ((HVz.out.under hb7 (fun b h => h.2)).at_ (fun b _ h => by have := h.2; omega) (fun b h => by have := h.2; omega)) ((HVw7.out.under hb7 (fun b h => by have := h.2; omega)).at_ (fun b _ h => by have := h.2; omega) (fun b h => by have := h.2; omega))
           have HBW7 := Lib.hid (HBW6.out.trans (hb7.mono HBW6.out.size))
           have z0 : w7.cell? ⟨w6.heap.size, 0, none⟩ = some (.int .i64 k) := HZ8.out.cell 0
           have z1 : w7.cell? ⟨w6.heap.size, 1, none⟩ = some (.int .i64 n) := HZ8.out.cell 1
           have z2 : w7.cell? ⟨w6.heap.size, 2, none⟩ = some (.string ⟨#[]⟩) := HZ8.out.cell 2
           have z3 : w7.cell? ⟨w6.heap.size, 3, none⟩ = some (.slice A6 gs.length c6) := HZ8.out.cell 3
           have t0 : w7.cell? ⟨w3.heap.size, 0, none⟩ = some (.int .i64 k) := HW8.out.cell 0
           have t1 : w7.cell? ⟨w3.heap.size, 1, none⟩ = some (.int .i64 n) := HW8.out.cell 1
           have t2 : w7.cell? ⟨w3.heap.size, 2, none⟩ = some (.string ⟨#[]⟩) := HW8.out.cell 2
           have t3 : w7.cell? ⟨w3.heap.size, 3, none⟩ = some (.slice A3 gs.length c3) := HW8.out.cell 3
           clear hb7)
        | (go_at_call 8; refine HRz.mono ?_; rintro e w8 ⟨rfl, hb8⟩; clear HRz; have HBW8 := Lib.hid (HBW7.out.trans (hb8.mono HBW7.out.size)); clear hb8)
        | (go_at_call 9; refine (HAl.out _ HBW8.out).mono ?_; rintro e w9 ⟨rfl, hb9⟩; have HBW9 := Lib.hid (HBW8.out.trans (hb9.mono HBW8.out.size)); clear hb9))
      go_ret
      exact ⟨rfl, HBW9.out⟩
end
end Dp
end Go.Proofs.YtnbhaokbaonjkaaGreatDoor
