/- deep.quote's replacer: what the heap holds behind its making. -/
import Derived.Test.YthdnflklhhfojaaGreatDoorSwE
namespace Go.Proofs.YthdnflklhhfojaaGreatDoor
open Go Go.Ev Go.RowKit
namespace Sw
set_option maxRecDepth 1000000
/-- The replacer at g, as it was made in w0. -/
def RepN (w0 w : World) (g : Nat) : Prop := ∃ (φ : Phi) (κ : Nat) (st : St), newRun = some (.ptr 2 0, st) ∧ @Rep ⟨w0⟩ φ st w ∧ φ 2 = some (g, κ)
/-- The table at T: what each byte is replaced by. -/
structure TabAt (w : World) (T : Nat) : Prop where
  nil : ∀ i, i < 256 → i ≠ 39 → i ≠ 92 → w.cell? ⟨T, i, none⟩ = some (.slice none 0 0)
  q : ∃ a c, w.cell? ⟨T, 39, none⟩ = some (.slice (some ⟨a, 0, none⟩) 2 c) ∧ w.cell? ⟨a, 0, none⟩ = some (.int .u8 92) ∧ w.cell? ⟨a, 1, none⟩ = some (.int .u8 39)
  b : ∃ a c, w.cell? ⟨T, 92, none⟩ = some (.slice (some ⟨a, 0, none⟩) 2 c) ∧ w.cell? ⟨a, 0, none⟩ = some (.int .u8 92) ∧ w.cell? ⟨a, 1, none⟩ = some (.int .u8 92)
  r : ∃ a c, w.cell? ⟨T, 256, none⟩ = some (.slice (some ⟨a, 0, none⟩) 2 c) ∧ w.cell? ⟨a, 0, none⟩ = some (.string ⟨#[39]⟩) ∧ w.cell? ⟨a, 1, none⟩ = some (.string ⟨#[92]⟩)
theorem oldNew_r (φ : Phi) : VRs φ oldNew oldNewA.toList :=
  .cons (.str [92] (by decide)) (.cons (.str [92, 92] (by decide)) (.cons (.str [39] (by decide)) (.cons (.str [92, 39] (by decide)) .nil)))
theorem empty_rep [Base] (w : World) (hw : Below Base.w0.heap.size Base.w0 w) : Rep (fun _ => none) ⟨0, .e⟩ w :=
  { low := ⟨hw, by intro _ _ _ e; cases e⟩
    dom := by intro _ _ e; cases e
    lt := by intro _ _ _ e; cases e
    inj := by intro _ _ _ _ _ e; cases e
    uniq := by intro _ _ _ _ _ e; cases e
    root := by intro _ _ _ _ e; cases e
    cells := by intro _ _ _ _ _ _ _ _ _ e; cases e
    maps := by intro _ _ _ _ _ e; cases e
    objs := by intro _ _ _ _ e; cases e }
theorem new_run : ∃ st, newRun = some (.ptr 2 0, st) ∧ ∃ st', doRun st = some (.tup [], st') ∧ tabOkS st' = true := by
  have h := all_ok
  unfold allOk at h
  split at h
  · rename_i st hst
    refine ⟨st, hst, ?_⟩
    split at h
    · rename_i st' hst'
      exact ⟨st', hst', h⟩
    · cases h
  · cases h
theorem new_any (w : World) (hL : LibS w) : Calls Tryz.prog 95 #[.slice (some ⟨w.heap.size, 0, none⟩) 4 4] (w.alloc (.cells oldNewA 9)) fun e w' => ∃ g, e = .returned (.pointer (some ⟨g, 0, none⟩)) ∧ RepN w w' g := by
  letI : Base := ⟨w⟩
  obtain ⟨st, hst, -⟩ := new_run
  obtain ⟨h1, h2⟩ := new_sound (φ := fun _ => none) (empty_rep w (Below.refl _ _)) (next := 0) (blks := .e) rfl (oldNew_r _) oldNewA 9 0 0 (fun i x e => by simpa using e) (by decide) (fun i _ => by omega) none (fun _ e => by cases e)
  refine (call_from (envB_ok hL) hst #[.slice (some ⟨w.heap.size, 0, none⟩) 4 4] _ h2 ?_).mono ?_
  · exact .cons (.slk 0 0 4 1 4 _ _ Phi.add_self (Nat.le_refl _) (by decide)) .nil
  · rintro e w' ⟨φ, x, rfl, hv, hR, -⟩
    cases hv with
    | ptr _ _ b κ h => exact ⟨b, rfl, φ, κ, st, hst, hR, h⟩
theorem nils_at (st : St) (T : Nat) : ∀ n, nilsOk st T n = true → ∀ i, i < n → i ≠ 39 → i ≠ 92 → cellAt st T i = some .nils
  | 0, _, i, h, _, _ => by omega
  | n + 1, h, i, hi, h39, h92 => by
    obtain ⟨h1, h2⟩ := condT (show cond (cond (Nat.beq n 39) true (cond (Nat.beq n 92) true (nilsOk.isNils (cellAt st T n)))) (nilsOk st T n) false = true from h)
    by_cases e : i = n
    · subst e
      have b1 : Nat.beq i 39 = false := by rw [Bool.eq_false_iff]; exact fun h => h39 (Nat.eq_of_beq_eq_true h)
      have b2 : Nat.beq i 92 = false := by rw [Bool.eq_false_iff]; exact fun h => h92 (Nat.eq_of_beq_eq_true h)
      rw [b1, b2] at h1
      have h3 : nilsOk.isNils (cellAt st T i) = true := h1
      unfold nilsOk.isNils at h3
      split at h3
      · rename_i hc
        exact hc
      · cases h3
    · exact nils_at st T n h2 i (by omega) h39 h92
theorem okc_at {o : Option V} {v : V} (h : pairOk.okc o v = true) : o = some v := by
  cases o with
  | none => cases h
  | some u => rw [(sameV_sound 2 u v h).1]
theorem pair_at {st : St} {T i : Nat} {x y : V} (h : pairOk st T i x y = true) : ∃ a cp, cellAt st T i = some (.sl a 0 2 1 cp) ∧ cellAt st a 0 = some x ∧ cellAt st a 1 = some y := by
  unfold pairOk at h
  split at h
  · rename_i a cp hc
    obtain ⟨h1, h2⟩ := condT h
    exact ⟨a, cp, hc, okc_at h1, okc_at h2⟩
  · cases h
theorem pair_sound [Base] {φ : Phi} {st : St} {w : World} (hR : Rep φ st w) {T i b κ : Nat} (hφ : φ T = some (b, κ)) {x y : V} (h : pairOk st T i x y = true) :
    ∃ a c X Y, w.cell? ⟨b, i, none⟩ = some (.slice (some ⟨a, 0, none⟩) 2 c) ∧ w.cell? ⟨a, 0, none⟩ = some X ∧ VR φ x X ∧ w.cell? ⟨a, 1, none⟩ = some Y ∧ VR φ y Y := by
  obtain ⟨a, cp, h1, h2, h3⟩ := pair_at h
  obtain ⟨z, c1, v1⟩ := cellAt_sound hR hφ h1
  have key : ∃ b' κ' c, φ a = some (b', κ') ∧ z = .slice (some ⟨b', 0, none⟩) 2 c := by
    cases v1 with
    | slk _ _ _ _ c b' κ' h _ _ => exact ⟨b', κ', c, h, rfl⟩
    | slo _ _ _ _ c b' κ' h _ _ _ => exact ⟨b', κ', c, h, rfl⟩
  obtain ⟨b', κ', c, ha, rfl⟩ := key
  obtain ⟨X, c2, v2⟩ := cellAt_sound hR ha h2
  obtain ⟨Y, c3, v3⟩ := cellAt_sound hR ha h3
  exact ⟨b', c, X, Y, c1, c2, v2, c3, v3⟩
theorem do_any {w0 w : World} {g : Nat} (hN : RepN w0 w g) (hL : LibS w0) : Calls Tryz.prog 129 #[.pointer (some ⟨g, 0, none⟩), .func (.func 130) #[.pointer (some ⟨g, 0, none⟩)] #[]] w fun e w' =>
    e = .returned (.tuple #[]) ∧ Below w0.heap.size w0 w' ∧ ∃ T, w'.cell? ⟨g, 3, none⟩ = some (.iface 197 (.pointer (some ⟨T, 0, none⟩))) ∧ TabAt w' T := by
  letI : Base := ⟨w0⟩
  obtain ⟨φ, κ, st, hst, hR, hφ⟩ := hN
  obtain ⟨st1, hst1, st', hdo, htab⟩ := new_run
  rw [hst] at hst1
  obtain rfl : st = st1 := by injection hst1 with h; injection h
  refine (call_from (envB_ok hL) hdo #[.pointer (some ⟨g, 0, none⟩), .func (.func 130) #[.pointer (some ⟨g, 0, none⟩)] #[]] w hR ?_).mono ?_
  · refine .cons (.ptr 2 0 g κ hφ) (.cons (.fn _ _ _ #[.pointer (some ⟨g, 0, none⟩)] #[] rfl ?_ rfl ?_) .nil)
    · intro i v x h1 h2
      match i with
      | 0 =>
        simp at h1 h2
        subst h1 h2
        exact .ptr 2 0 g κ hφ
      | i + 1 => simp at h1
    · intro i v x h1 h2
      simp at h1
  · rintro e w' ⟨φ', x, rfl, hv, hR', hC⟩
    obtain ⟨xs, rfl, hxs⟩ := hv.inv_tup
    have hx : xs = #[] := by
      have := hxs.inv_nil
      cases xs; simpa using this
    subst hx
    refine ⟨rfl, hR'.low.low, ?_⟩
    have hg : φ' 2 = some (g, κ) := hC.le _ _ hφ
    unfold tabOkS at htab
    split at htab
    · rename_i t T hcell
      obtain ⟨t1, htab⟩ := condT htab
      obtain ⟨t2, htab⟩ := condT htab
      obtain ⟨t3, htab⟩ := condT htab
      obtain ⟨t4, t5⟩ := condT htab
      obtain ⟨z, c1, v1⟩ := cellAt_sound hR' hg hcell
      have ht := Nat.eq_of_beq_eq_true t1
      have key : ∃ b κ, φ' T = some (b, κ) ∧ z = .iface 197 (.pointer (some ⟨b, 0, none⟩)) := by
        cases v1 with
        | iface _ _ x h =>
          cases h with
          | ptr _ _ b κ h => exact ⟨b, κ, h, by rw [ht]⟩
      obtain ⟨b, κ', hT, rfl⟩ := key
      refine ⟨b, c1, ?_⟩
      obtain ⟨a1, n1, X1, Y1, p1, p2, p3, p4, p5⟩ := pair_sound hR' hT t3
      obtain ⟨a2, n2, X2, Y2, q1, q2, q3, q4, q5⟩ := pair_sound hR' hT t4
      obtain ⟨a3, n3, X3, Y3, r1, r2, r3, r4, r5⟩ := pair_sound hR' hT t5
      cases p3
      cases p5
      cases q3
      cases q5
      cases r3
      cases r5
      refine ⟨fun i hi h39 h92 => ?_, ⟨a1, n1, p1, p2, p4⟩, ⟨a2, n2, q1, q2, q4⟩, ⟨a3, n3, r1, r2, r4⟩⟩
      obtain ⟨z, c, v⟩ := cellAt_sound hR' hT (nils_at _ _ 256 t2 i hi h39 h92)
      cases v
      exact c
    · cases htab
end Sw
end Go.Proofs.YthdnflklhhfojaaGreatDoor
