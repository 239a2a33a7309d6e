/- ostlerref10: the reader's head: the walk. -/
import Derived.Test.YtnbhaokbaonjkaaGreatDoorRvB
import Derived.Deep.DeepCutAuto
namespace Go.Proofs.YtnbhaokbaonjkaaGreatDoor
open Go.RowKit
namespace Rv
open Go.Proofs.YtnbhaokbaonjkaaGreatDoor.Rw
theorem gd (s : ByteArray) (k : Nat) (h : k < s.data.toList.length) : s.data.toList.getD k 0 = s.data.toList[k] := by rw [List.getD_eq_getElem?_getD, List.getElem?_eq_getElem h]; rfl
theorem gd2 (s : ByteArray) (k : Nat) (h : k < s.size) : s.data.toList.getD k 0 = s[k] := by
  rw [gd s k (by rw [← Lib.size_eq]; exact h)]
  simp [ByteArray.getElem_eq_getElem_data]
theorem head_none {L : Bytes} {at_ : Nat} (h : (wordS L namedB 64 (some at_)).bind (mustN L [58]) = none) : headN L at_ = none := by
  unfold headN
  simp only [wordS] at h
  by_cases h0 : whileN L namedB 64 at_ = at_
  · simp [h0]
  · rw [if_neg h0] at h
    have h1 : mustN L [58] (whileN L namedB 64 at_) = none := h
    simp [h0, h1]
theorem head_some {L : Bytes} {at_ a1 : Nat} (h : (wordS L namedB 64 (some at_)).bind (mustN L [58]) = some a1) : headN L at_ = (mustN L [13, 10] (whileN L valuedB L.length (whileN L blankB L.length a1))).map fun z => (piece L at_ (whileN L namedB 64 at_), trimR (piece L (whileN L blankB L.length a1) (whileN L valuedB L.length (whileN L blankB L.length a1))), whileN L blankB L.length a1, z) := by
  unfold headN
  simp only [wordS] at h
  by_cases h0 : whileN L namedB 64 at_ = at_
  · rw [if_pos h0] at h; cases h
  · rw [if_neg h0] at h
    have h1 : mustN L [58] (whileN L namedB 64 at_) = some a1 := h
    simp only [h0, if_false, h1]
    cases mustN L [13, 10] (whileN L valuedB L.length (whileN L blankB L.length a1)) <;> rfl
theorem piece_snoc {L : Bytes} {a k : Nat} (hk : k < L.length) (ha : a ≤ k) : piece L a (k + 1) = piece L a k ++ [L[k]] := by
  unfold piece
  rw [show k + 1 - a = (k - a) + 1 by omega, List.take_succ_eq_append_getElem (by rw [List.length_drop]; omega)]
  congr 2
  rw [List.getElem_drop]
  simp only [show a + (k - a) = k by omega]
theorem piece_trim (L : Bytes) (a e : Nat) : piece L a (a + (trimR (piece L a e)).length) = trimR (piece L a e) := by
  have h := trimR_take (piece L a e)
  have hl := trimR_len (piece L a e)
  generalize hn : (trimR (piece L a e)).length = n at h hl ⊢
  rw [h]
  unfold piece at hl ⊢
  rw [show a + n - a = n by omega, List.take_take]
  rw [List.length_take] at hl
  rw [Nat.min_eq_left (by omega)]
/-- What head answers. -/
def HeadR (L : Bytes) (at_ : Nat) (X1 X2 : ByteArray) (f : Nat) : Prop := ∀ n v f' z, headN L at_ = some (n, v, f', z) → X1 = Rw.bytes n ∧ X2 = Rw.bytes v ∧ f = f'
theorem piece_size (L : Bytes) (a b : Nat) : (piece L a b).length ≤ L.length := by
  unfold piece
  rw [List.length_take, List.length_drop]
  omega
/-- What head holds. -/
structure HdS (w wx : World) (s : ByteArray) (g a : Nat) (why fat : Int) (R B : Nat) (X1 : ByteArray) : Prop where
  k : Keeps (· = g) w wx
  rd : RvAt wx g s a why fat
  res : Blk wx R 76 #[.string ⟨#[]⟩, .string ⟨#[]⟩]
  par : Blk wx B 76 #[.string X1, .string ⟨#[]⟩]
  ne : R ≠ g
  ne2 : B ≠ g
  ne3 : R ≠ B
section
variable {s : ByteArray} {g a R B : Nat} {why fat : Int} {X1 : ByteArray} {w wx wy : World}
theorem HdS.drewN (h : HdS w wx s g a why fat R B X1) (n : Nat) : HdS w (wx.drewN n) s g a why fat R B X1 := ⟨h.k.drewN n, h.rd.drewN n, h.res.drewN n, h.par.drewN n, h.ne, h.ne2, h.ne3⟩
theorem HdS.step {a' : Nat} {why' fat' : Int} (h : HdS w wx s g a why fat R B X1) (hk : Keeps (· = g) wx wy) (hr : RvAt wy g s a' why' fat') : HdS w wy s g a' why' fat' R B X1 := ⟨h.k.trans hk, hr, h.res.keeps hk h.ne, h.par.keeps hk h.ne2, h.ne, h.ne2, h.ne3⟩
theorem HdS.told (h : HdS w wx s g a why fat R B X1) (X2 : ByteArray) : Keeps (· = g) w (wx.setCell ⟨B, 1, none⟩ (.string X2)) → Blk (wx.setCell ⟨B, 1, none⟩ (.string X2)) B 76 #[.string X1, .string X2] ∧ Blk (wx.setCell ⟨B, 1, none⟩ (.string X2)) R 76 #[.string ⟨#[]⟩, .string ⟨#[]⟩] ∧ RvAt (wx.setCell ⟨B, 1, none⟩ (.string X2)) g s a why fat := fun _ =>
  ⟨h.par.set_ 1 _, h.res.far (p := ⟨B, 1, none⟩) h.ne3 _, h.rd.far (p := ⟨B, 1, none⟩) (Ne.symm h.ne2) _⟩
theorem HdS.move {a' : Nat} (h : HdS w wx s g a why fat R B X1) : HdS w (wx.setCell ⟨g, 1, none⟩ (.int .i64 (a' : Int))) s g a' why fat R B X1 := h.step ((Keeps.refl (· = g) wx).setCell (p := ⟨g, 1, none⟩) (.inl rfl) _) (h.rd.set_ 1 _)
end
section
variable (s : ByteArray) (g : Nat)
set_option maxRecDepth 100000 in
set_option maxHeartbeats 8000000 in
theorem head_any (a : Nat) (w : World) (h : RvAt w g s a 0 0) (hs : s.size ≤ 1000000) (ha : a ≤ s.size) :
    Calls Tryz.prog 53 #[.pointer (some ⟨g, 0, none⟩)] w fun e w' => ∃ X1 X2 f, e = .returned (.tuple #[.agg #[.string X1, .string X2], .int .i64 ((f : Nat) : Int)]) ∧ X1.size ≤ s.size ∧ f ≤ s.size ∧ Hid (HeadR s.data.toList a X1 X2 f) ∧ Keeps (· = g) w w' ∧ ∃ a' why fat, Hid (Ok ((headN s.data.toList a).map (·.2.2.2)) a' why fat) ∧ a' ≤ s.size ∧ Hid (RvAt w' g s a' why fat) := by
  have HWe := Lib.hid (fun a why fat st ho w h => well_any s g a why fat st ho w h)
  have HM := Lib.hid (fun t a why fat st ho w h ht ha => must_any s g t a why fat st ho w h hs ht ha)
  have HSz := Lib.hid (Lib.size_eq s)
  have HB0 := Lib.hid (((Below.refl w.heap.size w).alloc (Nat.le_refl _) (.cells #[.string ⟨#[]⟩, .string ⟨#[]⟩] 76)))
  have HR0 := Lib.hid (Blk.new w 76 #[.string ⟨#[]⟩, .string ⟨#[]⟩])
  have H0 := Lib.hid (h.alloc (.cells #[.string ⟨#[]⟩, .string ⟨#[]⟩] 76))
  have hlt := h.lt
  have HK0 := Lib.hid ((Keeps.refl (· = g) w).alloc (.cells #[.string ⟨#[]⟩, .string ⟨#[]⟩] 76))
  have HWo := Lib.hid (fun w h => word_t s g 64 a 0 0 (some a) (.inl ⟨rfl, rfl, rfl⟩) w h hs (by decide) ha)
  clear h
  go_enter Tryz.func53, Tryz.ntmps53
  go_wp2_with fail
  generalize w.alloc (.cells #[.string ⟨#[]⟩, .string ⟨#[]⟩] 76) = w0 at *
  refine (HWo.out w0 H0.out).mono ?_
  rintro e w1 ⟨X1, rfl, HX1, hk1, a1, why1, fat1, HO1, -, ha1, HB1⟩
  have hk01 := ((Keeps.refl (· = g) w).alloc (.cells #[.string ⟨#[]⟩, .string ⟨#[]⟩] 76))
  have HP1 := Lib.hid (Blk.new w1 76 #[.string X1, .string ⟨#[]⟩])
  have hx1 : X1.size ≤ s.size := by
    rw [HX1.out, Rw.bytes_size, HSz.out]
    exact piece_size _ _ _
  have hsz1 := hk1.size
  have hlt1 := HR0.out.lt
  have HS1 : Hid (HdS w (w1.alloc (.cells #[.string X1, .string ⟨#[]⟩] 76)) s g a1 why1 fat1 w.heap.size w1.heap.size X1) :=
    ⟨(HK0.out.trans hk1).alloc _, HB1.out.alloc _, (HR0.out.keeps hk1 (by omega)).alloc _, HP1.out, by omega, by omega, by omega⟩
  have hB4x : w.heap.size ≤ w1.heap.size := by omega
  have HM1 := Lib.hid (HM.out ⟨#[58]⟩ a1 why1 fat1 _ HO1.out _ HS1.out.rd (by decide) ha1)
  clear hk01 hk1 HB1 HP1 HB0 HR0 H0 HWo HK0
  go_wp2_with fail
  refine HM1.out.mono ?_
  rintro e w3 ⟨rfl, hk3, a2, why2, fat2, HO2, -, ha2, HB2⟩
  have HS2 := Lib.hid (HS1.out.step hk3 HB2.out)
  generalize w1.heap.size = B4 at *
  clear hk3 HB2 HM1 HS1 HO1
  have hB4 : w.heap.size ≤ B4 := hB4x
  have hst2 : (wordS s.data.toList namedB 64 (some a)).bind (mustN s.data.toList (⟨#[58]⟩ : ByteArray).data.toList) = (wordS s.data.toList namedB 64 (some a)).bind (mustN s.data.toList [58]) := rfl
  rw [hst2] at HO2
  clear hst2
  have HWe2 := Lib.hid (fun w h => HWe.out a2 why2 fat2 _ HO2.out w h)
  -- behind the colon (mkrvc.py)
  rcases HO2.out with ⟨rfl, rfl, hst⟩ | ⟨hw2, hst⟩
  · have hhs := head_some hst
    have hX1b : X1 = Rw.bytes (piece s.data.toList a (whileN s.data.toList namedB 64 a)) := HX1.out
    have HWt := Lib.hid (fun (k : Nat) (w : World) (h : RvAt w g s k 0 0) => (show Calls Tryz.prog 52 #[.pointer (some ⟨g, 0, none⟩)] w fun e w' => e = .returned (.bool true) ∧ w' = w from HWe.out k 0 0 (some k) (.inl ⟨rfl, rfl, rfl⟩) w h))
    have HH := Lib.hid hhs
    have HXb := Lib.hid hX1b
    clear hhs hX1b HWe2 HO2 hst HX1
    obtain ⟨F, HF⟩ : ∃ z, Hid (whileN s.data.toList blankB s.data.toList.length a2 = z) := ⟨_, rfl⟩
    rw [HF.out] at HH
    have hF0 := while_ge s.data.toList blankB s.data.toList.length a2
    have hF1 := while_le blankB s.data.toList.length (show a2 ≤ s.data.toList.length by rw [← HSz.out]; exact ha2)
    rw [HF.out] at hF0 hF1
    rw [← HSz.out] at hF1
    go_wp2_with fail
    go_loopg [] (s.size - a2) (fun gk wx => ∃ k : Nat, gk + k = s.size ∧ Hid (HdS w wx s g k 0 0 w.heap.size B4 X1) ∧ Hid (∃ r, whileN s.data.toList blankB r k = F ∧ s.data.toList.length ≤ r + k))
    case atStart => exact ⟨a2, by omega, HS2, _, HF.out, by omega⟩
    case round =>
      clear HS2
      obtain ⟨k, hgk, HS3, HR⟩ := hrel
      have c0 : wr.cell? ⟨g, 0, none⟩ = some (.string s) := HS3.out.rd.cell 0
      have c1 : wr.cell? ⟨g, 1, none⟩ = some (.int .i64 (k : Int)) := HS3.out.rd.cell 1
      have z1 := HS3.out.rd.frozen 1
      have hk0 : (0 : Int) ≤ (k : Int) := by omega
      by_cases hks : k < s.size ∧ blankB (s.data.toList.getD k 0) = true
      · obtain ⟨hks, hbl⟩ := hks
        have hJ : (k : Int) < (s.size : Int) := by omega
        have hlt' : k < s.data.toList.length := by rw [← HSz.out]; exact hks
        have HR2 : Hid (∃ r, whileN s.data.toList blankB r (k + 1) = F ∧ s.data.toList.length ≤ r + (k + 1)) := by
          obtain ⟨r, h1, h2⟩ := HR.out
          refine ⟨r - 1, ?_, by omega⟩
          have := while_step blankB (r - 1) hlt'
          rw [show r - 1 + 1 = r by omega, h1, if_pos (by rw [← gd s k hlt']; exact hbl)] at this
          exact this.symm
        have hb2 : blankB s[k] = true := by rw [← gd2 s k hks]; exact hbl
        have h1 : IntKind.i64.wrap ((k : Int) + 1) = ((k + 1 : Nat) : Int) := by rw [IntWalk.i64_in _ (by omega)]; rfl
        clear HR hbl
        generalize hc : s[k] = c at *
        have hc1 := c.toNat_lt
        cases e32 : ((c.toNat : Int) == 32) with
        | true =>
          go_wp2_with fail
          go_quiet (first | (go_at_call 52; exact Calls.quiet_of_same (HWt.out _ _ (HS3.out.rd.drewN _))))
          go_wp2_with fail
          go_roundg (gk - 1)
          case rel => exact ⟨k + 1, by omega, (HS3.out.drewN _).move (a' := k + 1), HR2.out⟩
          case measure => omega
        | false =>
          have e9 : ((c.toNat : Int) == 9) = true := by
            unfold blankB at hb2
            have : ¬ c.toNat = 32 := by intro e; simp [e] at e32
            simp [this] at hb2
            simp [hb2]
          go_wp2_with fail
          go_quiet (first | (go_at_call 52; exact Calls.quiet_of_same (HWt.out _ _ (HS3.out.rd.drewN _))))
          go_wp2_with fail
          go_roundg (gk - 1)
          case rel => exact ⟨k + 1, by omega, (HS3.out.drewN _).move (a' := k + 1), HR2.out⟩
          case measure => omega
      · have hkF : k = F := by
          obtain ⟨r, h1, h2⟩ := HR.out
          by_cases hk2 : k < s.size
          · have hlt' : k < s.data.toList.length := by rw [← HSz.out]; exact hk2
            have := while_step blankB (r - 1) hlt'
            rw [show r - 1 + 1 = r by omega, h1, if_neg (by intro e; exact hks ⟨hk2, by rw [gd s k hlt']; exact e⟩)] at this
            exact this.symm
          · rw [while_end blankB r (by rw [← HSz.out]; omega)] at h1
            exact h1
        subst hkF
        clear HR
        go_wp2_with fail
        go_cut [49] (fun x wx => x = .bool false ∧ Hid (HdS w wx s g k 0 0 w.heap.size B4 X1))
        case first =>
          by_cases hk2 : k < s.size
          · have hJ : (k : Int) < (s.size : Int) := by omega
            have hlt' : k < s.data.toList.length := by rw [← HSz.out]; exact hk2
            have hb2 : blankB s[k] = false := by
              cases hq : blankB s[k] with
              | false => rfl
              | true => exact absurd ⟨hk2, by rw [gd2 s k hk2]; exact hq⟩ hks
            clear hks
            generalize hc : s[k] = c at *
            have hc1 := c.toNat_lt
            have e32 : ((c.toNat : Int) == 32) = false := by
              unfold blankB at hb2
              simp at hb2 ⊢
              omega
            have e9 : ((c.toNat : Int) == 9) = false := by
              unfold blankB at hb2
              simp at hb2 ⊢
              omega
            go_quiet (first | (go_at_call 52; exact Calls.quiet_of_same (HWt.out _ _ (HS3.out.rd.drewN _))))
            go_wp2_with fail
            go_meet
            exact ⟨rfl, Lib.hid (HS3.out.drewN _)⟩
          · have hJ : ¬ ((k : Int) < (s.size : Int)) := by omega
            go_quiet (first | (go_at_call 52; exact Calls.quiet_of_same (HWt.out _ _ (HS3.out.rd.drewN _))))
            go_wp2_with fail
            go_meet
            exact ⟨rfl, Lib.hid (HS3.out.drewN _)⟩
        case rest =>
          obtain ⟨rfl, HS4⟩ := hcut
          clear HS3 c0 c1 z1 hks
          have c1 : wc.cell? ⟨g, 1, none⟩ = some (.int .i64 (k : Int)) := HS4.out.rd.cell 1
          obtain ⟨G, HG⟩ : ∃ z, Hid (whileN s.data.toList valuedB s.data.toList.length k = z) := ⟨_, rfl⟩
          rw [HG.out] at HH
          have hG0 := while_ge s.data.toList valuedB s.data.toList.length k
          have hG1 := while_le valuedB s.data.toList.length (show k ≤ s.data.toList.length by rw [← HSz.out]; exact hF1)
          rw [HG.out] at hG0 hG1
          rw [← HSz.out] at hG1
          go_wp2_with fail
          clear c1
          go_loopg [6] (s.size - k) (fun gk x wx => ∃ e t : Nat, gk + e = s.size ∧ k ≤ e ∧ t ≤ e ∧ k ≤ t ∧ x = .int .i64 (t : Int) ∧ Hid (HdS w wx s g e 0 0 w.heap.size B4 X1) ∧ Hid (t = k + (trimR (piece s.data.toList k e)).length) ∧ Hid (∃ r, whileN s.data.toList valuedB r e = G ∧ s.data.toList.length ≤ r + e))
          case atStart => exact ⟨k, k, by omega, Nat.le_refl _, Nat.le_refl _, Nat.le_refl _, rfl, HS4, Lib.hid (by rw [piece_none]; rfl), _, HG.out, by omega⟩
          case round =>
            clear HS4
            obtain ⟨e, t, hge, hke, hte, hkt, rfl, HS5, HTt, HR⟩ := hrel
            have c0 : wr.cell? ⟨g, 0, none⟩ = some (.string s) := HS5.out.rd.cell 0
            have c1 : wr.cell? ⟨g, 1, none⟩ = some (.int .i64 (e : Int)) := HS5.out.rd.cell 1
            have z1 := HS5.out.rd.frozen 1
            have he0 : (0 : Int) ≤ (e : Int) := by omega
            by_cases hes : e < s.size ∧ valuedB (s.data.toList.getD e 0) = true
            · obtain ⟨hes, hvl⟩ := hes
              have hJ : (e : Int) < (s.size : Int) := by omega
              have hlt' : e < s.data.toList.length := by rw [← HSz.out]; exact hes
              have HR2 : Hid (∃ r, whileN s.data.toList valuedB r (e + 1) = G ∧ s.data.toList.length ≤ r + (e + 1)) := by
                obtain ⟨r, h1, h2⟩ := HR.out
                refine ⟨r - 1, ?_, by omega⟩
                have := while_step valuedB (r - 1) hlt'
                rw [show r - 1 + 1 = r by omega, h1, if_pos (by rw [← gd s e hlt']; exact hvl)] at this
                exact this.symm
              have hv2 : valuedB s[e] = true := by rw [← gd2 s e hes]; exact hvl
              have hsn := piece_snoc hlt' hke
              rw [← gd s e hlt', gd2 s e hes] at hsn
              have htr := trimR_snoc (piece s.data.toList k e) s[e]
              rw [← hsn] at htr
              have hpl : (piece s.data.toList k e).length = e - k := by
                unfold piece
                rw [List.length_take, List.length_drop]
                omega
              have HTr := Lib.hid htr
              have HPl := Lib.hid hpl
              have h1 : IntKind.i64.wrap ((e : Int) + 1) = ((e + 1 : Nat) : Int) := by rw [IntWalk.i64_in _ (by omega)]; rfl
              clear HR hvl htr hsn hpl
              generalize hc : s[e] = c at *
              have hc1 := c.toNat_lt
              have HVc := Lib.hid (fun w => rvalued_any _ rfl c w)
              rw [hv2] at HVc
              by_cases hbl : blankB c = true
              · have HTt2 : Hid (t = k + (trimR (piece s.data.toList k (e + 1))).length) := by show _ = _; rw [HTr.out, if_pos hbl]; exact HTt.out
                cases e32 : ((c.toNat : Int) == 32) with
                | true =>
                  have n32 : ((c.toNat : Int) != 32) = false := by rw [bne, e32]; rfl
                  go_wp2_with fail
                  go_quiet (first | (go_at_call 52; exact Calls.quiet_of_same (HWt.out _ _ (HS5.out.rd.drewN _))) | (go_at_call 89; exact Calls.quiet_of_same (HVc.out _)))
                  have HS6 := Lib.hid (HS5.out.drewN nq)
                  generalize wr.drewN nq = w6 at *
                  clear c0 c1 z1 HS5
                  have c0 : w6.cell? ⟨g, 0, none⟩ = some (.string s) := HS6.out.rd.cell 0
                  have c1 : w6.cell? ⟨g, 1, none⟩ = some (.int .i64 (e : Int)) := HS6.out.rd.cell 1
                  have z1 := HS6.out.rd.frozen 1
                  go_wp2_with fail
                  go_quiet (fail)
                  go_wp2_with fail
                  go_roundg (gk - 1)
                  case rel => exact ⟨e + 1, t, by omega, by omega, by omega, by omega, by go_num, (HS6.out.drewN _).move (a' := e + 1), HTt2, HR2.out⟩
                  case measure => omega
                | false =>
                  have n32 : ((c.toNat : Int) != 32) = true := by rw [bne, e32]; rfl
                  have n9 : ((c.toNat : Int) != 9) = false := by
                    unfold blankB at hbl
                    have : ¬ c.toNat = 32 := by intro e; simp [e] at e32
                    simp [this] at hbl
                    simp [hbl]
                  go_wp2_with fail
                  go_quiet (first | (go_at_call 52; exact Calls.quiet_of_same (HWt.out _ _ (HS5.out.rd.drewN _))) | (go_at_call 89; exact Calls.quiet_of_same (HVc.out _)))
                  have HS6 := Lib.hid (HS5.out.drewN nq)
                  generalize wr.drewN nq = w6 at *
                  clear c0 c1 z1 HS5
                  have c0 : w6.cell? ⟨g, 0, none⟩ = some (.string s) := HS6.out.rd.cell 0
                  have c1 : w6.cell? ⟨g, 1, none⟩ = some (.int .i64 (e : Int)) := HS6.out.rd.cell 1
                  have z1 := HS6.out.rd.frozen 1
                  go_wp2_with fail
                  go_quiet (fail)
                  go_wp2_with fail
                  go_roundg (gk - 1)
                  case rel => exact ⟨e + 1, t, by omega, by omega, by omega, by omega, by go_num, (HS6.out.drewN _).move (a' := e + 1), HTt2, HR2.out⟩
                  case measure => omega
              · have hbf : blankB c = false := by simpa using hbl
                have HTt2 : Hid (e + 1 = k + (trimR (piece s.data.toList k (e + 1))).length) := by
                  show _ = _
                  rw [HTr.out, if_neg hbl]
                  unfold piece
                  rw [List.length_take, List.length_drop]
                  omega
                have n32 : ((c.toNat : Int) != 32) = true := by
                  unfold blankB at hbf
                  simp at hbf ⊢
                  omega
                have n9 : ((c.toNat : Int) != 9) = true := by
                  unfold blankB at hbf
                  simp at hbf ⊢
                  omega
                go_wp2_with fail
                go_quiet (first | (go_at_call 52; exact Calls.quiet_of_same (HWt.out _ _ (HS5.out.rd.drewN _))) | (go_at_call 89; exact Calls.quiet_of_same (HVc.out _)))
                have HS6 := Lib.hid (HS5.out.drewN nq)
                generalize wr.drewN nq = w6 at *
                clear c0 c1 z1 HS5
                have c0 : w6.cell? ⟨g, 0, none⟩ = some (.string s) := HS6.out.rd.cell 0
                have c1 : w6.cell? ⟨g, 1, none⟩ = some (.int .i64 (e : Int)) := HS6.out.rd.cell 1
                have z1 := HS6.out.rd.frozen 1
                go_wp2_with fail
                go_quiet (fail)
                go_wp2_with fail
                go_roundg (gk - 1)
                case rel => exact ⟨e + 1, e + 1, by omega, by omega, by omega, by omega, by go_num, (HS6.out.drewN _).move (a' := e + 1), HTt2, HR2.out⟩
                case measure => omega
            · have heG : e = G := by
                obtain ⟨r, h1, h2⟩ := HR.out
                by_cases hk2 : e < s.size
                · have hlt' : e < s.data.toList.length := by rw [← HSz.out]; exact hk2
                  have := while_step valuedB (r - 1) hlt'
                  rw [show r - 1 + 1 = r by omega, h1, if_neg (by intro q; exact hes ⟨hk2, by rw [gd s e hlt']; exact q⟩)] at this
                  exact this.symm
                · rw [while_end valuedB r (by rw [← HSz.out]; omega)] at h1
                  exact h1
              subst heG
              clear HR
              go_wp2_with fail
              go_cut [87] (fun x wx => x = .bool false ∧ Hid (HdS w wx s g e 0 0 w.heap.size B4 X1))
              case first =>
                by_cases hk2 : e < s.size
                · have hJ : (e : Int) < (s.size : Int) := by omega
                  have hb2 : valuedB s[e] = false := by
                    cases hq : valuedB s[e] with
                    | false => rfl
                    | true => exact absurd ⟨hk2, by rw [gd2 s e hk2]; exact hq⟩ hes
                  clear hes
                  generalize hc : s[e] = c at *
                  have hc1 := c.toNat_lt
                  have HVc := Lib.hid (fun w => rvalued_any _ rfl c w)
                  rw [hb2] at HVc
                  go_quiet (first | (go_at_call 52; exact Calls.quiet_of_same (HWt.out _ _ (HS5.out.rd.drewN _))) | (go_at_call 89; exact Calls.quiet_of_same (HVc.out _)))
                  go_wp2_with fail
                  go_meet
                  exact ⟨rfl, Lib.hid (HS5.out.drewN _)⟩
                · have hJ : ¬ ((e : Int) < (s.size : Int)) := by omega
                  go_quiet (first | (go_at_call 52; exact Calls.quiet_of_same (HWt.out _ _ (HS5.out.rd.drewN _))))
                  go_wp2_with fail
                  go_meet
                  exact ⟨rfl, Lib.hid (HS5.out.drewN _)⟩
              case rest =>
                obtain ⟨rfl, HS6⟩ := hcut
                clear HS5 c0 c1 z1 hes
                have c0 : wc.cell? ⟨g, 0, none⟩ = some (.string s) := HS6.out.rd.cell 0
                have hq0 : (0 : Int) ≤ (k : Int) := by omega
                have hq1 : (k : Int) ≤ (t : Int) := by omega
                have hq2 : (t : Int) ≤ (s.size : Int) := by omega
                have HX2 : Hid (s.extract k t = Rw.bytes (trimR (piece s.data.toList k e))) := by
                  show _ = _
                  rw [extract_piece, HTt.out, piece_trim]
                have HO6 : Hid (Ok (some e) e 0 0) := Lib.hid (.inl ⟨rfl, rfl, rfl⟩)
                obtain ⟨X2, hX2⟩ : ∃ X2, s.extract k t = X2 := ⟨_, rfl⟩
                rw [hX2] at HX2
                have b1 := HS6.out.par.frozen 1
                have b0c : wc.cell? ⟨B4, 0, none⟩ = some (.string X1) := HS6.out.par.cell 0
                have b1c : wc.cell? ⟨B4, 1, none⟩ = some (.string ⟨#[]⟩) := HS6.out.par.cell 1
                have HT6 := Lib.hid (HS6.out.told (X2) ((HS6.out.k).setCell (p := ⟨B4, 1, none⟩) (.inr (by omega)) _))
                have HK6 := Lib.hid ((HS6.out.k).setCell (p := ⟨B4, 1, none⟩) (.inr (by omega)) (.string (X2)))
                have hRg := HS6.out.ne
                have hBg := HS6.out.ne2
                go_wp2_with (go_at_call 51; refine (HM.out ⟨#[13, 10]⟩ e 0 0 _ HO6.out _ HT6.out.2.2 (by decide) (by omega)).mono ?_; rintro e w7 ⟨rfl, hk7, a7, why7, fat7, HO7, -, ha7, HB7⟩; have HP7 := Lib.hid (HT6.out.1.keeps hk7 hBg); have HR7 := Lib.hid (HT6.out.2.1.keeps hk7 hRg); have HK7 := Lib.hid (HK6.out.trans hk7); have p0 : w7.cell? ⟨B4, 0, none⟩ = some (.string X1) := HP7.out.cell 0; have p1 : w7.cell? ⟨B4, 1, none⟩ = some (.string (X2)) := HP7.out.cell 1; have r0 : w7.cell? ⟨w.heap.size, 0, none⟩ = some (.string ⟨#[]⟩) := HR7.out.cell 0; have r1 : w7.cell? ⟨w.heap.size, 1, none⟩ = some (.string ⟨#[]⟩) := HR7.out.cell 1; have q0 := HR7.out.frozen 0; have q1 := HR7.out.frozen 1; clear hk7)
                have HR8 := Lib.hid ((HR7.out.set_ 0 (.string X1)).set_ 1 (.string (X2)))
                have HK8 := Lib.hid ((HK7.out.setCell (p := ⟨w.heap.size, 0, none⟩) (.inr (Nat.le_refl _)) (.string X1)).setCell (p := ⟨w.heap.size, 1, none⟩) (.inr (Nat.le_refl _)) (.string (X2)))
                have HB8 := Lib.hid ((HB7.out.far (p := ⟨w.heap.size, 0, none⟩) (Ne.symm hRg) (.string X1)).far (p := ⟨w.heap.size, 1, none⟩) (Ne.symm hRg) (.string (X2)))
                generalize (w7.setCell ⟨w.heap.size, 0, none⟩ (.string X1)).setCell ⟨w.heap.size, 1, none⟩ (.string (X2)) = w8 at *
                clear p0 p1 r0 r1 q0 q1
                have r0 : w8.cell? ⟨w.heap.size, 0, none⟩ = some (.string X1) := HR8.out.cell 0
                have r1 : w8.cell? ⟨w.heap.size, 1, none⟩ = some (.string (X2)) := HR8.out.cell 1
                refine bodyPost_ret (v := .tuple #[.agg #[.string X1, .string (X2)], .int .i64 ((k : Nat) : Int)]) (by simp [results, Tryz.results53, go_sem, r0, r1]) rfl ?_
                refine ⟨X1, X2, k, rfl, hx1, hF1, ?_, HK8.out, a7, why7, fat7, ?_, ha7, HB8⟩
                · intro n v f z hn
                  rw [HH.out] at hn
                  obtain ⟨z', hz', he'⟩ := Option.map_eq_some_iff.1 hn
                  simp only [Prod.mk.injEq] at he'
                  obtain ⟨rfl, rfl, rfl, rfl⟩ := he'
                  exact ⟨HXb.out, HX2.out, rfl⟩
                · rw [HH.out, Option.map_map]
                  have := HO7.out
                  have e9 : (some e).bind (mustN s.data.toList (⟨#[13, 10]⟩ : ByteArray).data.toList) = mustN s.data.toList [13, 10] e := rfl
                  rw [e9] at this
                  show Ok _ _ _ _
                  rw [show ((fun x : Bytes × Bytes × Nat × Nat => x.2.2.2) ∘ fun z => (piece s.data.toList a (whileN s.data.toList namedB 64 a), trimR (piece s.data.toList k e), k, z)) = id from rfl, Option.map_id]
                  exact this
  · have hhn := head_none hst
    rw [hst] at HWe2 HO2
    have HWf := Lib.hid (fun w h => (show Calls Tryz.prog 52 #[.pointer (some ⟨g, 0, none⟩)] w fun e w' => e = .returned (.bool false) ∧ w' = w from HWe2.out w h))
    have hq0 : (0 : Int) ≤ (a2 : Int) := by omega
    have hq1 : (a2 : Int) ≤ (s.size : Int) := by omega
    clear HWe2 hst HX1
    go_wp2_with fail
    go_loopg [] 0 (fun _ wx => Hid (HdS w wx s g a2 why2 fat2 w.heap.size B4 X1))
    case atStart => exact HS2
    case round =>
      clear HS2
      have HS2 := hrel
      have c1 : wr.cell? ⟨g, 1, none⟩ = some (.int .i64 (a2 : Int)) := HS2.out.rd.cell 1
      go_wp2_with fail
      go_quiet (first | (go_at_call 52; exact Calls.quiet_of_same (HWf.out _ (HS2.out.rd.drewN _))))
      have HS3 := Lib.hid (HS2.out.drewN nq)
      generalize wr.drewN nq = w4 at *
      clear c1 HS2 hrel
      have c1 : w4.cell? ⟨g, 1, none⟩ = some (.int .i64 (a2 : Int)) := HS3.out.rd.cell 1
      go_wp2_with fail
      go_loopg [6] 0 (fun _ x wx => x = .int .i64 (a2 : Int) ∧ Hid (HdS w wx s g a2 why2 fat2 w.heap.size B4 X1))
      case atStart => exact ⟨rfl, HS3⟩
      case round =>
        clear HS3 c1
        obtain ⟨rfl, HS4⟩ := hrel
        go_wp2_with fail
        go_quiet (first | (go_at_call 52; exact Calls.quiet_of_same (HWf.out _ (HS4.out.rd.drewN _))))
        have HS5 := Lib.hid (HS4.out.drewN nq)
        generalize wr.drewN nq = w5 at *
        clear HS4
        have c0 : w5.cell? ⟨g, 0, none⟩ = some (.string s) := HS5.out.rd.cell 0
        have b1 := HS5.out.par.frozen 1
        have b0c : w5.cell? ⟨B4, 0, none⟩ = some (.string X1) := HS5.out.par.cell 0
        have b1c : w5.cell? ⟨B4, 1, none⟩ = some (.string ⟨#[]⟩) := HS5.out.par.cell 1
        have HT6 := Lib.hid (HS5.out.told (⟨#[]⟩) ((HS5.out.k).setCell (p := ⟨B4, 1, none⟩) (.inr (by omega)) _))
        have HK6 := Lib.hid ((HS5.out.k).setCell (p := ⟨B4, 1, none⟩) (.inr (by omega)) (.string (⟨#[]⟩)))
        have hRg := HS5.out.ne
        have hBg := HS5.out.ne2
        go_wp2_with (go_at_call 51; refine (HM.out ⟨#[13, 10]⟩ a2 why2 fat2 _ HO2.out _ HT6.out.2.2 (by decide) (by omega)).mono ?_; rintro e w7 ⟨rfl, hk7, a7, why7, fat7, HO7, -, ha7, HB7⟩; have HP7 := Lib.hid (HT6.out.1.keeps hk7 hBg); have HR7 := Lib.hid (HT6.out.2.1.keeps hk7 hRg); have HK7 := Lib.hid (HK6.out.trans hk7); have p0 : w7.cell? ⟨B4, 0, none⟩ = some (.string X1) := HP7.out.cell 0; have p1 : w7.cell? ⟨B4, 1, none⟩ = some (.string (⟨#[]⟩)) := HP7.out.cell 1; have r0 : w7.cell? ⟨w.heap.size, 0, none⟩ = some (.string ⟨#[]⟩) := HR7.out.cell 0; have r1 : w7.cell? ⟨w.heap.size, 1, none⟩ = some (.string ⟨#[]⟩) := HR7.out.cell 1; have q0 := HR7.out.frozen 0; have q1 := HR7.out.frozen 1; clear hk7)
        have HR8 := Lib.hid ((HR7.out.set_ 0 (.string X1)).set_ 1 (.string (⟨#[]⟩)))
        have HK8 := Lib.hid ((HK7.out.setCell (p := ⟨w.heap.size, 0, none⟩) (.inr (Nat.le_refl _)) (.string X1)).setCell (p := ⟨w.heap.size, 1, none⟩) (.inr (Nat.le_refl _)) (.string (⟨#[]⟩)))
        have HB8 := Lib.hid ((HB7.out.far (p := ⟨w.heap.size, 0, none⟩) (Ne.symm hRg) (.string X1)).far (p := ⟨w.heap.size, 1, none⟩) (Ne.symm hRg) (.string (⟨#[]⟩)))
        generalize (w7.setCell ⟨w.heap.size, 0, none⟩ (.string X1)).setCell ⟨w.heap.size, 1, none⟩ (.string (⟨#[]⟩)) = w8 at *
        clear p0 p1 r0 r1 q0 q1
        have r0 : w8.cell? ⟨w.heap.size, 0, none⟩ = some (.string X1) := HR8.out.cell 0
        have r1 : w8.cell? ⟨w.heap.size, 1, none⟩ = some (.string (⟨#[]⟩)) := HR8.out.cell 1
        refine bodyPost_ret (v := .tuple #[.agg #[.string X1, .string (⟨#[]⟩)], .int .i64 ((a2 : Nat) : Int)]) (by simp [results, Tryz.results53, go_sem, r0, r1]) rfl ?_
        refine ⟨X1, ⟨#[]⟩, a2, rfl, hx1, ha2, ?_, HK8.out, a7, why7, fat7, ?_, ha7, HB8⟩
        · intro n v f z hn
          rw [hhn] at hn; cases hn
        · rw [hhn]
          exact HO7
end
end Rv
end Go.Proofs.YtnbhaokbaonjkaaGreatDoor
