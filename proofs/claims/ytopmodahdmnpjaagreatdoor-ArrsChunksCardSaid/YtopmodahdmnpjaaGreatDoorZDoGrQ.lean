/- A region that draws its order of evaluation, in a round of a range over a function: what holds of it in a function's own frame holds in the round's. -/
import Derived.Test.YtopmodahdmnpjaaGreatDoorZAppsQ
import Derived.TacticsInMore
import Derived.LoopIn
import Derived.Test.YtopmodahdmnpjaaGreatDoorZDoF
namespace Go.Proofs.YtopmodahdmnpjaaGreatDoor
open Go Go.RowKit
namespace Dp
section
variable {P : Program} {ops : Array Oper} {Q : Exit → Act → World → Prop} {md : Region.Mode} {l n : Nat}
def notDefer (o : Oper) : Bool := match o.op with
  | .defer _ => false
  | _ => true
theorem rowsIn_of {row : String} {args : Array Value} {w : World} {R : Value → World → Prop} (h : Rows P row args w R) : RowsIn (Fence.wide.inRound l) n P row args w R := fun c cs _ => by
  obtain ⟨v, w', r, s⟩ := h c cs
  exact ⟨v, w', r, stepsIn_wide.2 s⟩
theorem wpIn_of_wp {o : Oper} (hd : notDefer o = true) (_hQ : ¬ LetsOut Q) {a : Act} {w : World} {K : Act → World → Prop} (h : o.wp P a w K Q) : o.wpIn (Fence.wide.inRound l) n P a w K Q := by
  refine ⟨fun _ _ => trivial, ?_⟩
  have hs : o.semAt (Fence.wide.inRound l).round a.eval = execOp a.eval o := Oper.semAt_eq _ _ _ (fun c hc => by simp [notDefer, hc] at hd)
  rw [hs]
  unfold Oper.wp at h
  have hdep : (Fence.wide.inRound l).depth.isSome = true → 1 ≤ n := fun h => by simp [Fence.wide] at h
  generalize (execOp a.eval o).run P w = r at *
  cases r with
  | ok x w' =>
    cases x <;> simp only [Oper.upon, Oper.uponIn] at h ⊢
    case value u => exact h
    case skip => exact h
    case defer d => exact h
    case enter f args => exact ⟨hdep, CallsIn.inRound l (callsIn_wide.2 (h.mono (fun e w'' he => by cases e <;> exact he)))⟩
    case row row args => exact ⟨hdep, rowsIn_of h⟩
  | halt x w' => cases x <;> simp only [Oper.upon, Oper.uponIn] at h ⊢ <;> exact h
theorem wpOpIn_of_wpOp (hd : ∀ (i : Nat) (o : Oper), ops[i]? = some o → notDefer o = true) (hQ : ¬ LetsOut Q) {i : Nat} {a : Act} {w : World} {K K' : Act → World → Prop} (hK : ∀ a w, K a w → K' a w) (h : wpOp P ops Q i K a w) : wpOpIn (Fence.wide.inRound l) n P ops Q i K' a w := by
  unfold wpOp at h
  unfold wpOpIn
  cases ho : ops[i]? with
  | none =>
    rw [ho] at h
    exact hK _ _ h
  | some o =>
    rw [ho] at h
    simp only at h ⊢
    by_cases hw : Region.wanted o (yielded ops a.tmps) = true
    · rw [if_pos hw] at h ⊢
      rcases h with h | h
      · exact Oper.wpIn_mono hK (wpIn_of_wp (hd i o ho) hQ h)
      · exact absurd h.2 hQ
    · rw [if_neg hw] at h ⊢
      exact ⟨fun _ _ => trivial, hK _ _ h⟩
theorem wpAnyIn_of_wpAny (hd : ∀ (i : Nat) (o : Oper), ops[i]? = some o → notDefer o = true) (hQ : ¬ LetsOut Q) : ∀ (fuel : Nat) (listed : Array Bool) (a : Act) (w : World), wpAny P md ops Q fuel listed a w → wpAnyIn (Fence.wide.inRound l) n P md ops Q fuel listed a w
  | 0, _, _, _, h => h
  | fuel + 1, _listed, _a, _w, h => ⟨h.1, fun i hi => wpOpIn_of_wpOp hd hQ (fun a w => wpAnyIn_of_wpAny hd hQ fuel _ a w) (h.2 i hi)⟩
theorem all_notDefer (h : ops.all notDefer = true) : ∀ (i : Nat) (o : Oper), ops[i]? = some o → notDefer o = true := fun i o ho => by
  rw [Array.all_eq_true] at h
  obtain ⟨hi, rfl⟩ := Array.getElem?_eq_some_iff.1 ho
  exact h i hi
/-- A region in a round, a condition S on the world being kept all along. -/
theorem region_round {id : Nat} {S : World → Prop} {a : Act} {w : World} (hm : P.follows .mixedOrders = true) (hd : ops.all notDefer = true) (hQ : ¬ LetsOut Q) (hS : S w.drew)
    (h : S w.drew → wpAnyH P .any ops Q S ops.size (Array.replicate ops.size false) a w.drew) : (Code.region id ops true).wpIn (Fence.wide.inRound l) n P Q a w :=
  wpIn_region_any hm (wpAnyIn_of_wpAny (all_notDefer hd) hQ _ _ _ _ (wpAny_of_held _ _ _ _ (h hS)))
end
end Dp
end Go.Proofs.YtopmodahdmnpjaaGreatDoor
/- A region that draws its order of evaluation, in a round: DoGr; the range over a list: DoF. -/

/- list.List of values: Copy, All, and the function that All answers, which goes over the items as they were: the walks. -/
namespace Go.Proofs.YtopmodahdmnpjaaGreatDoor
open Go Go.RowKit
namespace Dp
theorem KL.blk {A B : World} {b : Nat} {cs : Array Value} (h : KL A B) (hb : Blk A b 130 cs) : Blk B b 130 cs := h.same b _ hb ⟨cs, (0, 0), .inl rfl⟩
theorem KL.row {A B : World} {base n : Nat} {sv : Value} {xs : List Value} (h : KL A B) (ho : A.ownsRow base 136 7 sv n xs) : B.ownsRow base 136 7 sv n xs := by
  refine ⟨ho.1, ?_⟩
  rcases ho.2 with h0 | ⟨g, cap, cur, e, hb, hg, r⟩
  · exact .inl h0
  · exact .inr ⟨g, cap, cur, e, hb, h.same g _ hg ⟨cur, (0, 0), .inr rfl⟩, r⟩
def encP (p : PI) : Array Value := #[.agg #[.bool p.b, .int .i64 p.i, .string p.s], p.val]
section
set_option maxRecDepth 100000 in
theorem copy_any {w : World} {base b mb : Nat} {sh : Bool} {sv : Value} {ps : List PI} {nx : Int} (h : LstAt base w b mb sh sv ps nx) : Calls Tryz.prog 192 #[.pointer (some ⟨b, 0, none⟩)] w fun e w' => e = .returned (.pointer (some ⟨w.heap.size, 0, none⟩)) ∧ w' = (w.setCell ⟨b, 1, none⟩ (.bool true)).alloc (.cells #[.bool true, .bool true, sv, .map (some mb), .int .i64 nx] 130) := by
  obtain ⟨A, c, rfl⟩ := h.form
  have HK := Lib.hid (ok_any w b h.cells.1)
  have HS := h.blk.set_ 1 (.bool true)
  have e0 : (w.setCell ⟨b, 1, none⟩ (.bool true)).cell? ⟨b, 0, none⟩ = some (.bool true) := HS.cell 0
  have e1 : (w.setCell ⟨b, 1, none⟩ (.bool true)).cell? ⟨b, 1, none⟩ = some (.bool true) := HS.cell 1
  have e2 : (w.setCell ⟨b, 1, none⟩ (.bool true)).cell? ⟨b, 2, none⟩ = some (.slice A ps.length c) := HS.cell 2
  have e3 : (w.setCell ⟨b, 1, none⟩ (.bool true)).cell? ⟨b, 3, none⟩ = some (.map (some mb)) := HS.cell 3
  have e4 : (w.setCell ⟨b, 1, none⟩ (.bool true)).cell? ⟨b, 4, none⟩ = some (.int .i64 nx) := HS.cell 4
  have c1 : w.cell? ⟨b, 1, none⟩ = some (.bool sh) := h.cells.2.1
  have f1 := h.blk.frozen 1
  clear h HS
  go_enter Tryz.func192, Tryz.ntmps192
  go_wp2_with (go_at_call 142; refine HK.out.mono ?_; rintro e w' ⟨rfl, rfl⟩)
  go_ret
  first | exact ⟨rfl, rfl⟩ | exact ⟨by simp, rfl⟩
set_option maxRecDepth 100000 in
theorem all_any (w : World) (b : Nat) : Calls Tryz.prog 144 #[.pointer (some ⟨b, 0, none⟩)] w fun e w' => e = .returned (.func (.func 191) #[] #[.pointer (some ⟨w.heap.size, 0, none⟩)]) ∧ w' = w.alloc (.cells #[.pointer (some ⟨b, 0, none⟩)] 74) := by
  go_enter Tryz.func144, Tryz.ntmps144
  go_wp2_with fail
  go_ret
  exact ⟨rfl, rfl⟩
set_option maxRecDepth 100000 in
set_option maxHeartbeats 2000000 in
theorem all1_in {base bx b mb l : Nat} {sv : Value} {ps : List PI} {nx : Int} (hn : ps.length ≤ 2048) (J : List PI → World → Prop) (W : World) (hbx : W.cell? ⟨bx, 0, none⟩ = some (.pointer (some ⟨b, 0, none⟩))) (hL : LstAt base W b mb false sv ps nx)
    (hJ : ∀ pre A B, J pre A → Keeps (fun j => j = b) A B → J pre B) (hY : ∀ pre x W1, J pre W1 → pre ++ [x] <+: ps → YieldAt Fence.wide 4 Tryz.prog l (encP x) W1 fun e W' => e = .returned (.bool true) ∧ J (pre ++ [x]) W' ∧ KL W1 W') (h0 : J [] W) :
    CallsIn Fence.wide 5 Tryz.prog 191 #[.func (.yield l) #[] #[], .pointer (some ⟨bx, 0, none⟩)] W fun e W' => (∃ v, e = .returned v) ∧ J ps W' := by
  obtain ⟨A, c, rfl⟩ := hL.form
  obtain ⟨W2, hW2⟩ : ∃ z, Hid (z = (W.setCell ⟨b, 1, none⟩ (.bool true)).alloc (.cells #[.bool true, .bool true, .slice A ps.length c, .map (some mb), .int .i64 nx] 130)) := ⟨_, rfl⟩
  have HK := Lib.hid (ok_any W b hL.cells.1)
  have HC : Hid (Calls Tryz.prog 192 #[.pointer (some ⟨b, 0, none⟩)] W fun e w' => e = .returned (.pointer (some ⟨W.heap.size, 0, none⟩)) ∧ w' = W2) := by
    show Calls _ _ _ _ _
    rw [hW2.out]
    exact copy_any hL
  have hbl := hL.blk.lt
  have HW2 : Hid (Blk W2 W.heap.size 130 #[.bool true, .bool true, .slice A ps.length c, .map (some mb), .int .i64 nx]) := by
    show Blk _ _ _ _
    rw [hW2.out]
    have := Blk.new (W.setCell ⟨b, 1, none⟩ (.bool true)) 130 #[.bool true, .bool true, .slice A ps.length c, .map (some mb), .int .i64 nx]
    simpa using this
  have HO2 : Hid (W2.ownsRow base 136 7 (.slice A ps.length c) ps.length (rowC ps)) := by
    show World.ownsRow _ _ _ _ _ _ _
    rw [hW2.out]
    exact (own_keeps hL.owns (set_keeps W b 1 (.bool true)) (row_ne hL.owns hL.blk (by decide))).alloc _
  have HJ2 : Hid (J [] W2) := by
    show J _ _
    rw [hW2.out]
    exact hJ _ _ _ h0 ((set_keeps W b 1 _).trans (Keeps.of_below ((Below.refl _ _).alloc (Nat.le_refl _) _)))
  have HJ := Lib.hid hJ
  have HY := Lib.hid hY
  clear hW2 hL hJ hY h0
  have q2 : W2.cell? ⟨W.heap.size, 2, none⟩ = some (.slice A ps.length c) := HW2.out.cell 2
  refine callsIn_of_wp Tryz.func191 rfl trivial ?_ rfl
  simp only [Tryz.ntmps191, List.size_toArray, List.length_cons, List.length_nil, Nat.reduceAdd, Nat.reduceSub, Array.replicate_succ, Array.replicate_zero, List.push_toArray, List.append_toArray, List.nil_append, List.cons_append]
  gi_wp2_with (first
    | (refine ⟨trivial, ?_⟩; gi_at_call 142; refine (callsIn_wide.2 HK.out).mono ?_; rintro e w' ⟨rfl, he⟩; subst he)
    | (refine ⟨trivial, ?_⟩; gi_at_call 192; refine (callsIn_wide.2 HC.out).mono ?_; rintro e w' ⟨rfl, rfl⟩))
  gi_loopw [16] (fun xi wr => ∃ j : Nat, j ≤ ps.length ∧ xi = .int .i64 j ∧ Hid (J (ps.take j) wr) ∧ Hid (wr.ownsRow base 136 7 (.slice A ps.length c) ps.length (rowC ps))) (fun xi _ => ps.length - (ixOf xi).toNat)
  case atStart => exact ⟨0, Nat.zero_le _, rfl, HJ2, HO2⟩
  case round =>
    obtain ⟨j, hj, rfl, HJr, HOr⟩ := hrel
    clear HJ2 HO2
    by_cases hlt : j < ps.length
    · obtain ⟨p, hp⟩ : ∃ p, ps[j]? = some p := ⟨_, List.getElem?_eq_getElem hlt⟩
      obtain ⟨g, cap, hv, hbg, hgl⟩ := HOr.out.form (by omega)
      injection hv with e1 _ e3
      subst e1 e3
      have hTk : ps.take (j + 1) = ps.take j ++ [p] := by rw [List.take_add_one, hp]; rfl
      have hc : ∀ r, r < 7 → ∀ u, p.cells[r]? = some u → wr.cell? ⟨g, j * 7 + r, none⟩ = some u := fun r hr u hu => addr_add0 (HOr.out.cells (g := g) rfl (j * 7 + r) u ((rowC_get ps j p hp r hr).trans hu))
      have s0 : wr.cell? ⟨g, j * 7, none⟩ = some (.bool p.b) := hc 0 (by decide) _ rfl
      have s1 := hc 1 (by decide) _ rfl
      have s2 := hc 2 (by decide) _ rfl
      have s3 := hc 3 (by decide) _ rfl
      have s4 := hc 4 (by decide) _ rfl
      have s5 := hc 5 (by decide) _ rfl
      have s6 := hc 6 (by decide) _ rfl
      have hal := (Below.refl wr.heap.size wr).alloc (Nat.le_refl _) (.cells #[.bool p.b, .int .i64 p.i, .string p.s, .int .i64 p.k, .int .i64 p.n, .string p.t, .slice p.A p.l.length p.c] 136)
      obtain ⟨fn, tmps, assign, body, hy, hR⟩ := HY.out (ps.take j) p _ (HJ.out _ _ _ HJr.out (Keeps.of_below hal)) (by rw [← hTk]; exact List.take_prefix _ _)
      dsimp only [encP, PI.val] at hy
      have HOi := Lib.hid (own_below HOr.out hal)
      have HR := Lib.hid hR
      have hIx : (j : Int) < (ps.length : Int) := by omega
      clear hR hal hc HJr HOr
      gi_wp2
      refine HR.out.mono ?_
      rintro e W3 ⟨rfl, hJ3, hk3⟩
      have HJ3 : Hid (J (ps.take (j + 1)) W3) := by
        show J _ _
        rw [hTk]
        exact hJ3
      have HO3 := Lib.hid (hk3.row HOi.out)
      clear hJ3 hk3 HOi HR hy hTk s0 s1 s2 s3 s4 s5 s6
      gi_wp2
      go_roundw
      case rel => exact ⟨j + 1, by omega, by go_num, HJ3, HO3⟩
      case measure => simp [ixOf] <;> omega
    · obtain rfl : j = ps.length := by omega
      have HJe := HJr
      rw [List.take_length] at HJe
      gi_wp2
      go_end0
      exact ⟨⟨_, rfl⟩, HJe.out⟩
end
end Dp
end Go.Proofs.YtopmodahdmnpjaaGreatDoor
