/- list.List of values: Copy, All, and the function that All answers, which goes over the items as they were: the walks. -/
import Derived.Test.YtnbhaokbaonjkaaGreatDoorDoG
namespace Go.Proofs.YtnbhaokbaonjkaaGreatDoor
open Go Go.RowKit
namespace Dp
theorem KL.blk {A B : World} {b : Nat} {cs : Array Value} (h : KL A B) (hb : Blk A b 90 cs) : Blk B b 90 cs := h.same b _ hb ⟨cs, (0, 0), .inl rfl⟩
theorem KL.row {A B : World} {base n : Nat} {sv : Value} {xs : List Value} (h : KL A B) (ho : A.ownsRow base 94 7 sv n xs) : B.ownsRow base 94 7 sv n xs := by
  refine ⟨ho.1, ?_⟩
  rcases ho.2 with h0 | ⟨g, cap, cur, e, hb, hg, r⟩
  · exact .inl h0
  · exact .inr ⟨g, cap, cur, e, hb, h.same g _ hg ⟨cur, (0, 0), .inr rfl⟩, r⟩
def encP (p : PI) : Array Value := #[.agg #[.bool p.b, .int .i64 p.i, .string p.s], p.val]
section
set_option maxRecDepth 100000 in
theorem copy_any {w : World} {base b mb : Nat} {sh : Bool} {sv : Value} {ps : List PI} {nx : Int} (h : LstAt base w b mb sh sv ps nx) : Calls Tryz.prog 40 #[.pointer (some ⟨b, 0, none⟩)] w fun e w' => e = .returned (.pointer (some ⟨w.heap.size, 0, none⟩)) ∧ w' = (w.setCell ⟨b, 1, none⟩ (.bool true)).alloc (.cells #[.bool true, .bool true, sv, .map (some mb), .int .i64 nx] 90) := by
  obtain ⟨A, c, rfl⟩ := h.form
  have HK := Lib.hid (ok_any w b h.cells.1)
  have HS := h.blk.set_ 1 (.bool true)
  have e0 : (w.setCell ⟨b, 1, none⟩ (.bool true)).cell? ⟨b, 0, none⟩ = some (.bool true) := HS.cell 0
  have e1 : (w.setCell ⟨b, 1, none⟩ (.bool true)).cell? ⟨b, 1, none⟩ = some (.bool true) := HS.cell 1
  have e2 : (w.setCell ⟨b, 1, none⟩ (.bool true)).cell? ⟨b, 2, none⟩ = some (.slice A ps.length c) := HS.cell 2
  have e3 : (w.setCell ⟨b, 1, none⟩ (.bool true)).cell? ⟨b, 3, none⟩ = some (.map (some mb)) := HS.cell 3
  have e4 : (w.setCell ⟨b, 1, none⟩ (.bool true)).cell? ⟨b, 4, none⟩ = some (.int .i64 nx) := HS.cell 4
  have c1 : w.cell? ⟨b, 1, none⟩ = some (.bool sh) := h.cells.2.1
  have f1 := h.blk.frozen 1
  clear h HS
  go_enter Tryz.func40, Tryz.ntmps40
  go_wp2_with (go_at_call 36; refine HK.out.mono ?_; rintro e w' ⟨rfl, rfl⟩)
  go_ret
  first | exact ⟨rfl, rfl⟩ | exact ⟨by simp, rfl⟩
set_option maxRecDepth 100000 in
theorem all_any (w : World) (b : Nat) : Calls Tryz.prog 18 #[.pointer (some ⟨b, 0, none⟩)] w fun e w' => e = .returned (.func (.func 39) #[] #[.pointer (some ⟨w.heap.size, 0, none⟩)]) ∧ w' = w.alloc (.cells #[.pointer (some ⟨b, 0, none⟩)] 51) := by
  go_enter Tryz.func18, Tryz.ntmps18
  go_wp2_with fail
  go_ret
  exact ⟨rfl, rfl⟩
set_option maxRecDepth 100000 in
set_option maxHeartbeats 2000000 in
theorem all1_in {base bx b mb l : Nat} {sv : Value} {ps : List PI} {nx : Int} (hn : ps.length ≤ 2048) (J : List PI → World → Prop) (W : World) (hbx : W.cell? ⟨bx, 0, none⟩ = some (.pointer (some ⟨b, 0, none⟩))) (hL : LstAt base W b mb false sv ps nx)
    (hJ : ∀ pre A B, J pre A → Keeps (fun j => j = b) A B → J pre B) (hY : ∀ pre x W1, J pre W1 → pre ++ [x] <+: ps → YieldAt Fence.wide 4 Tryz.prog l (encP x) W1 fun e W' => e = .returned (.bool true) ∧ J (pre ++ [x]) W' ∧ KL W1 W') (h0 : J [] W) :
    CallsIn Fence.wide 5 Tryz.prog 39 #[.func (.yield l) #[] #[], .pointer (some ⟨bx, 0, none⟩)] W fun e W' => (∃ v, e = .returned v) ∧ J ps W' := by
  obtain ⟨A, c, rfl⟩ := hL.form
  obtain ⟨W2, hW2⟩ : ∃ z, Hid (z = (W.setCell ⟨b, 1, none⟩ (.bool true)).alloc (.cells #[.bool true, .bool true, .slice A ps.length c, .map (some mb), .int .i64 nx] 90)) := ⟨_, rfl⟩
  have HK := Lib.hid (ok_any W b hL.cells.1)
  have HC : Hid (Calls Tryz.prog 40 #[.pointer (some ⟨b, 0, none⟩)] W fun e w' => e = .returned (.pointer (some ⟨W.heap.size, 0, none⟩)) ∧ w' = W2) := by
    show Calls _ _ _ _ _
    rw [hW2.out]
    exact copy_any hL
  have hbl := hL.blk.lt
  have HW2 : Hid (Blk W2 W.heap.size 90 #[.bool true, .bool true, .slice A ps.length c, .map (some mb), .int .i64 nx]) := by
    show Blk _ _ _ _
    rw [hW2.out]
    have := Blk.new (W.setCell ⟨b, 1, none⟩ (.bool true)) 90 #[.bool true, .bool true, .slice A ps.length c, .map (some mb), .int .i64 nx]
    simpa using this
  have HO2 : Hid (W2.ownsRow base 94 7 (.slice A ps.length c) ps.length (rowC ps)) := by
    show World.ownsRow _ _ _ _ _ _ _
    rw [hW2.out]
    exact (own_keeps hL.owns (set_keeps W b 1 (.bool true)) (row_ne hL.owns hL.blk (by decide))).alloc _
  have HJ2 : Hid (J [] W2) := by
    show J _ _
    rw [hW2.out]
    exact hJ _ _ _ h0 ((set_keeps W b 1 _).trans (Keeps.of_below ((Below.refl _ _).alloc (Nat.le_refl _) _)))
  have HJ := Lib.hid hJ
  have HY := Lib.hid hY
  clear hW2 hL hJ hY h0
  have q2 : W2.cell? ⟨W.heap.size, 2, none⟩ = some (.slice A ps.length c) := HW2.out.cell 2
  refine callsIn_of_wp Tryz.func39 rfl trivial ?_ rfl
  simp only [Tryz.ntmps39, List.size_toArray, List.length_cons, List.length_nil, Nat.reduceAdd, Nat.reduceSub, Array.replicate_succ, Array.replicate_zero, List.push_toArray, List.append_toArray, List.nil_append, List.cons_append]
  gi_wp2_with (first
    | (refine ⟨trivial, ?_⟩; gi_at_call 36; refine (callsIn_wide.2 HK.out).mono ?_; rintro e w' ⟨rfl, he⟩; subst he)
    | (refine ⟨trivial, ?_⟩; gi_at_call 40; refine (callsIn_wide.2 HC.out).mono ?_; rintro e w' ⟨rfl, rfl⟩))
  gi_loopw [16] (fun xi wr => ∃ j : Nat, j ≤ ps.length ∧ xi = .int .i64 j ∧ Hid (J (ps.take j) wr) ∧ Hid (wr.ownsRow base 94 7 (.slice A ps.length c) ps.length (rowC ps))) (fun xi _ => ps.length - (ixOf xi).toNat)
  case atStart => exact ⟨0, Nat.zero_le _, rfl, HJ2, HO2⟩
  case round =>
    obtain ⟨j, hj, rfl, HJr, HOr⟩ := hrel
    clear HJ2 HO2
    by_cases hlt : j < ps.length
    · obtain ⟨p, hp⟩ : ∃ p, ps[j]? = some p := ⟨_, List.getElem?_eq_getElem hlt⟩
      obtain ⟨g, cap, hv, hbg, hgl⟩ := HOr.out.form (by omega)
      injection hv with e1 _ e3
      subst e1 e3
      have hTk : ps.take (j + 1) = ps.take j ++ [p] := by rw [List.take_add_one, hp]; rfl
      have hc : ∀ r, r < 7 → ∀ u, p.cells[r]? = some u → wr.cell? ⟨g, j * 7 + r, none⟩ = some u := fun r hr u hu => addr_add0 (HOr.out.cells (g := g) rfl (j * 7 + r) u ((rowC_get ps j p hp r hr).trans hu))
      have s0 : wr.cell? ⟨g, j * 7, none⟩ = some (.bool p.b) := hc 0 (by decide) _ rfl
      have s1 := hc 1 (by decide) _ rfl
      have s2 := hc 2 (by decide) _ rfl
      have s3 := hc 3 (by decide) _ rfl
      have s4 := hc 4 (by decide) _ rfl
      have s5 := hc 5 (by decide) _ rfl
      have s6 := hc 6 (by decide) _ rfl
      have hal := (Below.refl wr.heap.size wr).alloc (Nat.le_refl _) (.cells #[.bool p.b, .int .i64 p.i, .string p.s, .int .i64 p.k, .int .i64 p.n, .string p.t, .slice p.A p.l.length p.c] 94)
      obtain ⟨fn, tmps, assign, body, hy, hR⟩ := HY.out (ps.take j) p _ (HJ.out _ _ _ HJr.out (Keeps.of_below hal)) (by rw [← hTk]; exact List.take_prefix _ _)
      dsimp only [encP, PI.val] at hy
      have HOi := Lib.hid (own_below HOr.out hal)
      have HR := Lib.hid hR
      have hIx : (j : Int) < (ps.length : Int) := by omega
      clear hR hal hc HJr HOr
      gi_wp2
      refine HR.out.mono ?_
      rintro e W3 ⟨rfl, hJ3, hk3⟩
      have HJ3 : Hid (J (ps.take (j + 1)) W3) := by
        show J _ _
        rw [hTk]
        exact hJ3
      have HO3 := Lib.hid (hk3.row HOi.out)
      clear hJ3 hk3 HOi HR hy hTk s0 s1 s2 s3 s4 s5 s6
      gi_wp2
      go_roundw
      case rel => exact ⟨j + 1, by omega, by go_num, HJ3, HO3⟩
      case measure => simp [ixOf] <;> omega
    · obtain rfl : j = ps.length := by omega
      have HJe := HJr
      rw [List.take_length] at HJe
      gi_wp2
      go_end0
      exact ⟨⟨_, rfl⟩, HJe.out⟩
end
end Dp
end Go.Proofs.YtnbhaokbaonjkaaGreatDoor
