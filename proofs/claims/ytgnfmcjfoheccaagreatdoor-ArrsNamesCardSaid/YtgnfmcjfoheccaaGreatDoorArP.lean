/- The document's names; a call without arguments. -/
import Derived.Test.YtgnfmcjfoheccaaGreatDoorArO
namespace Go.Proofs.YtgnfmcjfoheccaaGreatDoor
open Go Go.Ev Go.RowKit
set_option maxRecDepth 1000000
noncomputable def rnRun : R := call envB 20000 13 [] ⟨0, .e⟩
noncomputable def strsAt (st : St) (id : Nat) : List (List Nat) → Nat → Bool
  | [], _ => true
  | nm :: l, i => match cellAt st id i with
    | some (.str s) => strEq nm s && strsAt st id l (Nat.succ i)
    | _ => false
noncomputable def rnOk : R → Bool
  | some (.sl id off len esz _, st) => Nat.beq off 0 && Nat.beq len 47 && Nat.beq esz 1 && strsAt st id sortedN 0
  | _ => false
theorem rn_ok : rnOk rnRun = true := by kernel_rfl
theorem strsAt_get {st : St} {id : Nat} : ∀ (l : List (List Nat)) (i : Nat), strsAt st id l i = true → ∀ j nm, l[j]? = some nm → cellAt st id (i + j) = some (.str nm) := by
  intro l
  induction l with
  | nil => intro i _ j nm h; simp at h
  | cons a l ih =>
    intro i h j nm hj
    unfold strsAt at h
    split at h
    · rename_i s heq
      obtain ⟨h1, h2⟩ := Bool.and_eq_true_iff.1 h
      cases j with
      | zero => simp at hj; subst hj; rw [Nat.add_zero, heq, strEq_same h1]
      | succ j => simp at hj; have := ih (i + 1) h2 j nm hj; rw [show i + (j + 1) = i + 1 + j by omega]; exact this
    · cases h
theorem rn_any {m : Int} (w : World) (hL : LibS m w) : Calls Tryz.prog 13 #[] w fun e w' => ∃ g c, e = .returned (.slice (some ⟨g, 0, none⟩) 47 c) ∧ (∀ i nm, sortedN[i]? = some nm → w'.cell? ⟨g, i, none⟩ = some (.string (mkS nm))) ∧ Below w.heap.size w w' := by
  letI : Base := ⟨w⟩
  have h := rn_ok
  cases hc : rnRun with
  | none => rw [hc] at h; cases h
  | some p =>
    obtain ⟨v, st⟩ := p
    rw [hc] at h
    unfold rnOk at h
    split at h
    · rename_i id off len esz cap st' heq
      cases heq
      simp only [Bool.and_eq_true] at h
      obtain ⟨⟨⟨h1, h2⟩, h3⟩, h4⟩ := h
      obtain rfl := Nat.eq_of_beq_eq_true h1
      obtain rfl := Nat.eq_of_beq_eq_true h2
      refine (call_rep (envB_ok hL) hc #[] w (Below.refl _ _) .nil).mono ?_
      rintro e w' ⟨φ, x, rfl, hv, hR, hbl⟩
      have key : ∀ b κ, φ id = some (b, κ) → ∀ i nm, sortedN[i]? = some nm → w'.cell? ⟨b, i, none⟩ = some (.string (mkS nm)) := by
        intro b κ hφ i nm hi
        have := strsAt_get sortedN 0 h4 i nm hi
        rw [Nat.zero_add] at this
        obtain ⟨y, y1, y2⟩ := cellAt_sound hR hφ this
        cases y2
        exact y1
      cases hv with
      | slk _ _ _ _ c b κ hφ hl hk => exact ⟨b, c, rfl, key b κ hφ, hbl⟩
      | slo _ _ _ _ c b κ hφ hl he hk => exact ⟨b, c, rfl, key b κ hφ, hbl⟩
    · cases h

set_option maxRecDepth 100000 in
theorem wrong_any (n : Int) (w : World) : Calls Tryz.prog 15 #[.int .i64 n] w fun e w' => e = .returned (.tuple #[.agg #[.int .i64 0, .int .i64 0, .string ⟨#[]⟩, .slice none 0 0], .int .i64 n]) ∧ Below w.heap.size w w' := by
  have B := (Below.refl w.heap.size w).alloc (Nat.le_refl _) (.cells #[.int .i64 0, .int .i64 0, .string ⟨#[]⟩, .slice none 0 0] 24)
  have HN := Blk.new w 24 #[.int .i64 0, .int .i64 0, .string ⟨#[]⟩, .slice none 0 0]
  go_enter Tryz.func15, Tryz.ntmps15
  go_wp2_with fail
  generalize w.alloc (.cells #[.int .i64 0, .int .i64 0, .string ⟨#[]⟩, .slice none 0 0] 24) = w1 at *
  have e0 : w1.cell? ⟨w.heap.size, 0, none⟩ = _ := HN.cell 0
  have e1 : w1.cell? ⟨w.heap.size, 1, none⟩ = _ := HN.cell 1
  have e2 : w1.cell? ⟨w.heap.size, 2, none⟩ = _ := HN.cell 2
  have e3 : w1.cell? ⟨w.heap.size, 3, none⟩ = _ := HN.cell 3
  simp at e0 e1 e2 e3
  refine bodyPost_ret (v := .tuple #[.agg #[.int .i64 0, .int .i64 0, .string ⟨#[]⟩, .slice none 0 0], .int .i64 n]) (by simp [results, Tryz.results15, go_sem, e0, e1, e2, e3]) rfl ?_
  exact ⟨rfl, B⟩
set_option maxRecDepth 100000 in
set_option maxHeartbeats 1000000 in
theorem call_none (nm : List Nat) (hnm : nm ∈ names) (m : Int) (w : World) (hL : LibS m w) : Calls Tryz.prog 6 #[.string (mkS nm), .slice none 0 0] w fun e w' => e = .returned (.tuple #[.agg #[.int .i64 0, .int .i64 0, .string ⟨#[]⟩, .slice none 0 0], .int .i64 16]) ∧ Below w.heap.size w w' := by
  have H := Lib.hid (fn_any (w.alloc (.cells #[.int .i64 0, .int .i64 0, .string ⟨#[]⟩, .slice none 0 0] 24)) (hL.below ((Below.refl w.heap.size w).alloc (Nat.le_refl _) _)))
  have HW := Lib.hid (fun w => wrong_any 16 w)
  generalize hk : mkS nm = key at *
  go_enter Tryz.func6, Tryz.ntmps6
  go_wp2_with fail
  refine H.out.mono ?_
  rintro e w1 ⟨b, rfl, hfn, hb1⟩
  obtain ⟨es, clock, hmp, hall⟩ := hfn
  obtain ⟨tk, k, many, f, fi, ca, i0, hfd⟩ := hall nm hnm
  rw [hk] at hfd
  have hlook := Lib.hid (look_run hmp hfd)
  have HN := Lib.hid (Blk.new w1 46 #[.string ⟨#[]⟩, .int .i64 0, .bool false, .nilFunc])
  have z0 := HN.out.frozen 0
  have z1 := HN.out.frozen 1
  have z2 := HN.out.frozen 2
  have z3 := HN.out.frozen 3
  have n0 : (w1.alloc (.cells #[.string ⟨#[]⟩, .int .i64 0, .bool false, .nilFunc] 46)).cell? ⟨w1.heap.size, 0, none⟩ = some (.string ⟨#[]⟩) := HN.out.cell 0
  have n1 : (w1.alloc (.cells #[.string ⟨#[]⟩, .int .i64 0, .bool false, .nilFunc] 46)).cell? ⟨w1.heap.size, 1, none⟩ = some (.int .i64 0) := HN.out.cell 1
  have n2 : (w1.alloc (.cells #[.string ⟨#[]⟩, .int .i64 0, .bool false, .nilFunc] 46)).cell? ⟨w1.heap.size, 2, none⟩ = some (.bool false) := HN.out.cell 2
  have n3 : (w1.alloc (.cells #[.string ⟨#[]⟩, .int .i64 0, .bool false, .nilFunc] 46)).cell? ⟨w1.heap.size, 3, none⟩ = some .nilFunc := HN.out.cell 3
  have hlook2 := Lib.hid (look_run (w := w1.alloc (.cells #[.string ⟨#[]⟩, .int .i64 0, .bool false, .nilFunc] 46)) ((Below.heap_alloc w1 _ b (by have := (Array.getElem?_eq_some_iff.1 hmp).1; exact this)).trans hmp) hfd)
  have hno1 : (0 : Int) < ((k : Nat) : Int) + 1 := by omega
  have hV0 : Blk w1 w.heap.size 24 #[.int .i64 0, .int .i64 0, .string ⟨#[]⟩, .slice none 0 0] := (Blk.new w _ _).keeps (Keeps.of_below (S := fun _ => False) hb1) id
  have hb0 := (Below.refl w.heap.size w).alloc (Nat.le_refl _) (.cells #[.int .i64 0, .int .i64 0, .string ⟨#[]⟩, .slice none 0 0] 24)
  have HB2 := Lib.hid (hb0.trans (hb1.mono hb0.size))
  clear hmp hfd H hall hb0
  go_wp2_with (at_lookup; first | refine wpList_lookup_run _ rfl _ _ _ true rfl _ hlook.out ?_ | refine wpList_lookup_run _ rfl _ _ _ true rfl _ hlook2.out ?_)
  have HV1 := Lib.hid (hV0.alloc (.cells #[.string tk, .int .i64 ((k : Nat) + 1), .bool many, .func f fi ca] 46))
  have HB3 := Lib.hid (HB2.out.alloc HB2.out.size (.cells #[.string tk, .int .i64 ((k : Nat) + 1), .bool many, .func f fi ca] 46))
  clear HN z0 z1 z2 z3 n0 n1 n2 n3 hlook hlook2 HB2
  refine (HW.out _).mono ?_
  rintro e w2 ⟨rfl, hb2⟩
  have HZe := Lib.hid (blk_below HV1.out hb2)
  have HBe := Lib.hid (HB3.out.trans (hb2.mono HB3.out.size))
  have c0 : w2.cell? ⟨w.heap.size, 0, none⟩ = some (.int .i64 0) := HZe.out.cell 0
  have c1 : w2.cell? ⟨w.heap.size, 1, none⟩ = some (.int .i64 0) := HZe.out.cell 1
  have c2 : w2.cell? ⟨w.heap.size, 2, none⟩ = some (.string ⟨#[]⟩) := HZe.out.cell 2
  have c3 : w2.cell? ⟨w.heap.size, 3, none⟩ = some (.slice none 0 0) := HZe.out.cell 3
  have z0 := HZe.out.frozen 0
  have z1 := HZe.out.frozen 1
  have z2 := HZe.out.frozen 2
  have z3 := HZe.out.frozen 3
  go_wp2_with fail
  have HV7 := (((HZe.out.set_ 0 (.int .i64 0)).set_ 1 (.int .i64 0)).set_ 2 (.string ⟨#[]⟩)).set_ 3 (.slice none 0 0)
  have HB7 := (((HBe.out.setCell (p := ⟨w.heap.size, 0, none⟩) (Nat.le_refl _) (.int .i64 0)).setCell (p := ⟨w.heap.size, 1, none⟩) (Nat.le_refl _) (.int .i64 0)).setCell (p := ⟨w.heap.size, 2, none⟩) (Nat.le_refl _) (.string ⟨#[]⟩)).setCell (p := ⟨w.heap.size, 3, none⟩) (Nat.le_refl _) (.slice none 0 0)
  generalize (((w2.setCell ⟨w.heap.size, 0, none⟩ (.int .i64 0)).setCell ⟨w.heap.size, 1, none⟩ (.int .i64 0)).setCell ⟨w.heap.size, 2, none⟩ (.string ⟨#[]⟩)).setCell ⟨w.heap.size, 3, none⟩ (.slice none 0 0) = w7 at *
  have e0 : w7.cell? ⟨w.heap.size, 0, none⟩ = some (.int .i64 0) := HV7.cell 0
  have e1 : w7.cell? ⟨w.heap.size, 1, none⟩ = some (.int .i64 0) := HV7.cell 1
  have e2 : w7.cell? ⟨w.heap.size, 2, none⟩ = some (.string ⟨#[]⟩) := HV7.cell 2
  have e3 : w7.cell? ⟨w.heap.size, 3, none⟩ = some (.slice none 0 0) := HV7.cell 3
  refine bodyPost_ret (v := .tuple #[.agg #[.int .i64 0, .int .i64 0, .string ⟨#[]⟩, .slice none 0 0], .int .i64 16]) (by simp [results, Tryz.results6, go_sem, e0, e1, e2, e3]) rfl ?_
  exact ⟨rfl, HB7⟩
end Go.Proofs.YtgnfmcjfoheccaaGreatDoor
