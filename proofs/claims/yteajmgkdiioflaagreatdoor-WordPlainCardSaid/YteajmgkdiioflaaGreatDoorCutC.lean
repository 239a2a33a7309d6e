/- strings.EqualFold at "php": what cut.tag asks. -/
import Derived.Test.YteajmgkdiioflaaGreatDoorCutB
import Derived.Deep.LoopGhost
import Derived.ScopeJumps
import Derived.WalkMore
import Derived.Lib.Walk
import Derived.Laws.BitsAllLaws
namespace Go.Proofs.YteajmgkdiioflaaGreatDoor
open Go.RowKit

/-- The four entries of Go's table of ASCII letters' other cases that are read here. -/
def FoldAt (w : World) : Prop := w.cell? ⟨1, 112, none⟩ = some (.int .u16 80) ∧ w.cell? ⟨1, 80, none⟩ = some (.int .u16 112) ∧ w.cell? ⟨1, 104, none⟩ = some (.int .u16 72) ∧ w.cell? ⟨1, 72, none⟩ = some (.int .u16 104)

theorem fold_112 (w : World) (h : FoldAt w) : Calls Tryz.prog 72 #[.int .i32 112] w fun e w' => e = .returned (.int .i32 80) ∧ w = w' := by
  obtain ⟨h1, _⟩ := h
  go_enter Tryz.func72, Tryz.ntmps72
  go_wp2
  go_ret
  exact ⟨rfl, rfl⟩
theorem fold_80 (w : World) (h : FoldAt w) : Calls Tryz.prog 72 #[.int .i32 80] w fun e w' => e = .returned (.int .i32 112) ∧ w = w' := by
  obtain ⟨_, h1, _⟩ := h
  go_enter Tryz.func72, Tryz.ntmps72
  go_wp2
  go_ret
  exact ⟨rfl, rfl⟩
theorem fold_104 (w : World) (h : FoldAt w) : Calls Tryz.prog 72 #[.int .i32 104] w fun e w' => e = .returned (.int .i32 72) ∧ w = w' := by
  obtain ⟨_, _, h1, _⟩ := h
  go_enter Tryz.func72, Tryz.ntmps72
  go_wp2
  go_ret
  exact ⟨rfl, rfl⟩
theorem fold_72 (w : World) (h : FoldAt w) : Calls Tryz.prog 72 #[.int .i32 72] w fun e w' => e = .returned (.int .i32 104) ∧ w = w' := by
  obtain ⟨_, _, _, h1⟩ := h
  go_enter Tryz.func72, Tryz.ntmps72
  go_wp2
  go_ret
  exact ⟨rfl, rfl⟩

theorem or_high (x y : UInt8) (h : 128 ≤ x.toNat) : 128 ≤ bits .or .u8 (x.toNat : Int) (y.toNat : Int) := by
  rw [u8_or_nat _ _ x.toNat_lt y.toNat_lt]
  have := @Nat.left_le_or x.toNat y.toNat
  omega
theorem or_low (x y : UInt8) (h : x.toNat < 128) (h' : y.toNat < 128) : bits .or .u8 (x.toNat : Int) (y.toNat : Int) < 128 := by
  rw [u8_or_nat _ _ x.toNat_lt y.toNat_lt]
  have := Nat.or_lt_two_pow (n := 7) h h'
  omega

/-- A scope with one label to which the run jumps forward: the code behind the label is walked where the jump is met. -/
theorem wp_scope_forward {P : Program} {a : Act} {w : World} {Q : Exit → Act → World → Prop} {c rest : Code} (l : Nat) (hf : findLabel c l = some rest)
    (first : c.wp P (Exit.jump l (fun a' w' => rest.wp P (Exit.noGoto Q) a' w') Q) a w) : (Code.scope c).wp P Q a w :=
  wp_scope_jumps l (fun a' w' => rest.wp P (Exit.noGoto Q) a' w') (fun _ _ => 0) hf first (fun _ _ h => Code.wp_mono (fun e a w h => by cases e <;> first | exact h | exact (h : False).elim) h)

theorem fold_below {w w' : World} (h : FoldAt w) (hb : Below w.heap.size w w') : FoldAt w' := by
  have hlt : 1 < w.heap.size := World.block_lt_of_cell? w _ h.1
  exact ⟨(hb.cell (p := ⟨1, 112, none⟩) hlt).trans h.1, (hb.cell (p := ⟨1, 80, none⟩) hlt).trans h.2.1, (hb.cell (p := ⟨1, 104, none⟩) hlt).trans h.2.2.1, (hb.cell (p := ⟨1, 72, none⟩) hlt).trans h.2.2.2⟩
theorem below_iter (w : World) (s : ByteArray) (n : Nat) : Below w.heap.size w (w.iter s n) := (Below.refl _ _).alloc (Nat.le_refl _) _

/-- The two letters, and their other cases. -/
theorem fold_pair (y : UInt8) (hy : y = 112 ∨ y = 104) : ∃ z : Int, z < y.toNat ∧ z < 128 ∧ 0 ≤ z ∧ (∀ w, FoldAt w → Calls Tryz.prog 72 #[.int .i32 (y.toNat : Int)] w fun e w' => e = .returned (.int .i32 z) ∧ w = w') ∧
    (∀ w, FoldAt w → Calls Tryz.prog 72 #[.int .i32 z] w fun e w' => e = .returned (.int .i32 (y.toNat : Int)) ∧ w = w') := by
  rcases hy with rfl | rfl
  · exact ⟨80, by decide, by decide, by decide, fold_112, fold_80⟩
  · exact ⟨72, by decide, by decide, by decide, fold_104, fold_72⟩

set_option maxRecDepth 100000 in
set_option maxHeartbeats 4000000 in
theorem fold_high (s t : ByteArray) (hs : s.size = 3) (ht : t.size = 3) (hty : ∀ k (h : k < t.size), t[k] = 112 ∨ t[k] = 104) (hh : ∃ j, ∃ h : j < s.size, 128 ≤ s[j].toNat) (w : World) (hF : FoldAt w) :
    Calls Tryz.prog 50 #[.string s, .string t] w fun e w' => e = .returned (.bool false) ∧ Below w.heap.size w w' := by
  have HF := Lib.hid hF; clear hF
  have HY := Lib.hid hty; clear hty
  have HH := Lib.hid hh; clear hh
  have hs1 : (s.size : Int) = 3 := by omega
  have ht1 : (t.size : Int) = 3 := by omega
  have hs2 : s.size = 3 := hs
  clear hs
  go_enter Tryz.func50, Tryz.ntmps50
  go_wp2_with fail
  refine wp_scope_forward 0 rfl ?_
  go_wp2_with fail
  go_loopg [5] 3 (fun g s5 wx => w = wx ∧ ∃ i : Nat, i + g = 3 ∧ s5 = .int .i64 i ∧ Hid (∃ j, ∃ h : j < s.size, i ≤ j ∧ 128 ≤ s[j].toNat))
  case atStart =>
    obtain ⟨j, h, hj⟩ := HH.out
    exact ⟨rfl, 0, by omega, rfl, j, h, by omega, hj⟩
  case round =>
    obtain ⟨rfl, i, hig, rfl, Hi⟩ := hrel
    cases gk with
    | zero =>
      exfalso
      obtain ⟨j, h, h1, h2⟩ := Hi.out
      omega
    | succ g =>
      have hi3 : (i : Int) < 3 := by omega
      have his : i < s.size := by omega
      have hit : i < t.size := by omega
      have his1 : (i : Int) < (s.size : Int) := by omega
      obtain ⟨x, hx⟩ : ∃ x : UInt8, s[i] = x := ⟨_, rfl⟩
      obtain ⟨y, hy⟩ : ∃ y : UInt8, t[i] = y := ⟨_, rfl⟩
      have hyy := HY.out i hit
      rw [hy] at hyy
      have hy128 : y.toNat < 128 := by rcases hyy with rfl | rfl <;> decide
      by_cases hx128 : 128 ≤ x.toNat
      · have hor := or_high x y hx128
        obtain ⟨z, z1, z2, z3, f1, f2⟩ := fold_pair y hyy
        have F1 := Lib.hid f1; clear f1
        have F2 := Lib.hid f2; clear f2
        have hlen1 : (s.extract i 3).size = 3 - i := by rw [ByteArray.size_extract]; omega
        have hpos : 0 < (s.extract i 3).size := by omega
        have hb0 : (s.extract i 3)[0] = x := by rw [← hx]; simp [ByteArray.getElem_extract]
        have hdec := decode_high (s.extract i 3) 0 hpos (by rw [hb0]; exact hx128)
        have hnx := fun ty => run_next_any (P := Tryz.prog) w (s.extract i 3) 0 ty hpos
        have hdl := decode_le (s.extract i 3) 0
        have hy0 : (t.extract i 3).data.toList[0]? = some y := by
          rw [Lib.data_getElem? _ 0 (by rw [ByteArray.size_extract]; omega), ← hy]; simp [ByteArray.getElem_extract]
        have HY0 := Lib.hid hy0; clear hy0
        generalize (Utf8.decode (s.extract i 3) 0).1 = r at *
        generalize (Utf8.decode (s.extract i 3) 0).2 = n2 at *
        have hr1 : (128 : Int) ≤ (r : Int) := by omega
        have hr2 : (r : Int) ≤ 2147483647 := by omega
        have HBI := Lib.hid (below_iter w (s.extract i 3) (0 + n2))
        have hlen2 : (t.extract i 3).size = 3 - i := by rw [ByteArray.size_extract]; omega
        have hlen3 : ((t.extract i 3).size : Int) = 3 - (i : Int) := by omega
        have hne0 : (((t.extract i 3).size : Int) == 0) = false := by simp; omega
        have g1 : ((y.toNat : Int) == (r : Int)) = false := by simp; omega
        have g2 : (z != (y.toNat : Int)) = true := by simp; omega
        have g3 : ((y.toNat : Int) != (y.toNat : Int)) = false := by simp
        clear hdec hdl hb0 hlen1 hyy hlen3
        go_wp2_with fail
        go_step3
        simp only [Exit.then, Exit.inBlock, Exit.jump]
        refine ⟨rfl, ?_⟩
        go_wp2_with fail
        refine wp_loop_rounds 1 ?_
        rw [rounds_succ]
        go_wp2_with fail
        refine (callsSym (Tryz.utf8_DecodeRuneInString_ascii (t.extract i 3) y _ HY0.out hy128)).mono ?_
        rintro e w1 ⟨rfl, rfl⟩
        have g4 : (y.toNat : Int) < (r : Int) := by omega
        have g5 : (1 : Int) ≤ ((t.extract i 3).size : Int) := by omega
        go_wp2_with fail
        refine (F1.out _ (fold_below HF.out (by simpa using HBI.out))).mono ?_
        rintro e w1 ⟨rfl, rfl⟩
        go_wp2_with fail
        refine wp_loop_rounds 2 ?_
        rw [rounds_succ]
        have g6 : z < (r : Int) := by omega
        go_wp2_with fail
        refine (F2.out _ (fold_below HF.out (by simpa using HBI.out))).mono ?_
        rintro e w1 ⟨rfl, rfl⟩
        go_wp2_with fail
        rw [rounds_succ]
        go_wp2_with fail
        try rw [Exit.noGoto_ret]
        go_ret
        exact ⟨rfl, by simpa using HBI.out⟩
      · have hx128' : x.toNat < 128 := by omega
        have hor := or_low x y hx128' hy128
        have Hx := Lib.hid hx
        have hnj : Hid (∃ j, ∃ h : j < s.size, i + 1 ≤ j ∧ 128 ≤ s[j].toNat) := by
          obtain ⟨j, h, h1, h2⟩ := Hi.out
          refine ⟨j, h, ?_, h2⟩
          rcases Nat.lt_or_ge i j with h' | h'
          · exact h'
          · obtain rfl : j = i := by omega
            rw [Hx.out] at h2
            omega
        clear hyy
        go_wp2_with fail
        all_goals first
          | (go_roundg g
             case measure => omega
             case rel => exact ⟨rfl, i + 1, by omega, by first | rfl | simp, hnj.out⟩)
          | (try simp only [Exit.jump]
             go_ret
             exact ⟨rfl, Below.refl _ _⟩)

theorem lift8 {p : UInt8 → Bool} (h : ∀ n : Fin 256, p (UInt8.ofNat n.val) = true) (x : UInt8) : p x = true := by
  have := h ⟨x.toNat, x.toNat_lt⟩
  simpa using this
theorem foldEq_p (x : UInt8) : Lib.foldEq x 112 = (lowB x == 112) := by
  have := lift8 (p := fun x => Lib.foldEq x 112 == (lowB x == 112)) (by decide +kernel) x
  simpa using this
theorem foldEq_h (x : UInt8) : Lib.foldEq x 104 = (lowB x == 104) := by
  have := lift8 (p := fun x => Lib.foldEq x 104 == (lowB x == 104)) (by decide +kernel) x
  simpa using this
theorem low_high (x : UInt8) (h : 128 ≤ x.toNat) : 128 ≤ (lowB x).toNat := by
  have := lift8 (p := fun x => decide (128 ≤ x.toNat → 128 ≤ (lowB x).toNat)) (by decide +kernel) x
  simp only [decide_eq_true_eq] at this
  exact this h
theorem three (s : ByteArray) (h : s.size = 3) : s.data.toList = [s[0], s[1], s[2]] := by
  have e0 := Lib.data_getElem? s 0 (by omega)
  have e1 := Lib.data_getElem? s 1 (by omega)
  have e2 := Lib.data_getElem? s 2 (by omega)
  have hl := Lib.size_eq s
  rw [h] at hl
  match hd : s.data.toList, hl with
  | [a, b, c], _ =>
    rw [hd] at e0 e1 e2
    simp at e0 e1 e2
    rw [e0, e1, e2]
theorem php_fold (s : ByteArray) (h : s.size = 3) : Lib.equalFold s.data.toList [112, 104, 112] = phpB s.data.toList := by
  rw [three s h]
  unfold phpB
  simp only [Lib.equalFold, List.map_cons, List.map_nil, foldEq_p, foldEq_h, Bool.and_true]
  rw [Bool.eq_iff_iff]
  simp
theorem php_high (s : ByteArray) (h : s.size = 3) (hh : ∃ j, ∃ h : j < s.size, 128 ≤ s[j].toNat) : phpB s.data.toList = false := by
  rw [three s h]
  unfold phpB
  obtain ⟨j, hj, h1⟩ := hh
  have hl := low_high _ h1
  rw [beq_eq_false_iff_ne]
  intro e
  simp only [List.map_cons, List.map_nil, List.cons.injEq, and_true] at e
  obtain ⟨e0, e1, e2⟩ := e
  match j, hj with
  | 0, _ => rw [e0] at hl; exact absurd hl (by decide)
  | 1, _ => rw [e1] at hl; exact absurd hl (by decide)
  | 2, _ => rw [e2] at hl; exact absurd hl (by decide)
  | j + 3, _ => omega

theorem fold_any (s : ByteArray) (hs : s.size = 3) (w : World) (hF : FoldAt w) :
    Calls Tryz.prog 50 #[.string s, .string ⟨#[112, 104, 112]⟩] w fun e w' => e = .returned (.bool (phpB s.data.toList)) ∧ Below w.heap.size w w' := by
  by_cases hh : ∃ j, ∃ h : j < s.size, 128 ≤ s[j].toNat
  · rw [php_high s hs hh]
    refine fold_high s ⟨#[112, 104, 112]⟩ hs rfl (fun k h => ?_) hh w hF
    match k, h with
    | 0, _ => exact .inl rfl
    | 1, _ => exact .inr rfl
    | 2, _ => exact .inl rfl
    | k + 3, h => exact absurd h (by show ¬ k + 3 < 3; omega)
  · have ha : ∀ (j : Nat) b, s.data.toList[j]? = some b → b.toNat < 128 := fun j b hb => by
      have hj : j < s.size := by
        rw [Lib.size_eq]; exact (List.getElem?_eq_some_iff.1 hb).1
      rw [Lib.data_getElem? s j hj] at hb
      injection hb with hb
      subst hb
      rcases Nat.lt_or_ge s[j].toNat 128 with h | h
      · exact h
      · exact absurd ⟨j, hj, h⟩ hh
    have h := Tryz.strings_EqualFold s ⟨#[112, 104, 112]⟩ w (by omega) ha (fun j b hb => by
      match j, hb with
      | 0, hb => simp at hb; subst hb; decide
      | 1, hb => simp at hb; subst hb; decide
      | 2, hb => simp at hb; subst hb; decide
      | j + 3, hb => simp at hb)
    refine h.mono fun e w' ⟨he, hw⟩ => ⟨?_, by rw [hw]; exact Below.refl _ _⟩
    rw [he]
    exact ret_bool (php_fold s hs)
end Go.Proofs.YteajmgkdiioflaaGreatDoor
