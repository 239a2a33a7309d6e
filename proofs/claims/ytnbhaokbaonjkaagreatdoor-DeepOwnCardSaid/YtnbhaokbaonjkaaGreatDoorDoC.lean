/- list.List of values: New, ok, own, Next: the walks. -/
import Derived.Test.YtnbhaokbaonjkaaGreatDoorDoB
import Derived.Deep.CutBlock
import Derived.Deep.CutRange
import Derived.Deep.DeepCutAuto
import Derived.Still
import Derived.StillTactics
import Derived.StillTail
import Derived.BigQuiet
namespace Go.Proofs.YtnbhaokbaonjkaaGreatDoor
open Go Go.RowKit
namespace Dp
open Go.Proofs.YtnbhaokbaonjkaaGreatDoor.Nm (normG keyV norm_any)
theorem normG_eq (b : Bool) (i : Int) (s : ByteArray) : normG b i s = ((Nm.normR b i s.data.toList).1, (Nm.normR b i s.data.toList).2.1, ⟨(Nm.normR b i s.data.toList).2.2.toArray⟩) := by
  rw [Nm.norm_eq]
  unfold normG Nm.normK
  cases b
  · rfl
  · simp only [if_true]
    split
    · rename_i n hn
      split <;> simp_all
    · simp_all
theorem z64 : In64 0 := ⟨by decide, by decide⟩
theorem normG_key (b : Bool) (i : Int) (s : ByteArray) (hi : In64 i) (hs : s.size ≤ 140737488351232) : KeyOK (normG b i s) := by
  rw [normG_eq]
  unfold Nm.normR
  cases b
  · exact ⟨hi, Nat.zero_le _⟩
  · simp only [if_true]
    cases hn : Nm.numericL s.data.toList with
    | none => exact ⟨z64, hs⟩
    | some n =>
      simp only
      by_cases he : Lib.itoa n = s.data.toList
      · rw [if_pos he]
        exact ⟨Nm.numericL_bounds hn, Nat.zero_le _⟩
      · rw [if_neg he]
        exact ⟨z64, hs⟩
/-- A list that somebody made, whose items no other list has. -/
structure LstAt (base : Nat) (w : World) (b mb : Nat) (sh : Bool) (sv : Value) (ps : List PI) (nx : Int) : Prop where
  blk : Blk w b 90 #[.bool true, .bool sh, sv, .map (some mb), .int .i64 nx]
  idx : IdxAt w mb ps.length (ps.map PI.key)
  owns : w.ownsRow base 94 7 sv ps.length (rowC ps)
  hb : base ≤ b
  hm : base ≤ mb
theorem LstAt.form {base b mb : Nat} {w : World} {sh : Bool} {sv : Value} {ps : List PI} {nx : Int} (h : LstAt base w b mb sh sv ps nx) : ∃ A c, sv = .slice A ps.length c := by
  rcases h.owns.2 with ⟨e, h0⟩ | ⟨g, cap, cur, e, _⟩
  · exact ⟨none, 0, by rw [e, h0]⟩
  · exact ⟨_, _, e⟩
theorem own_below {base : Nat} {w w' : World} {e : TypeId} {sz n : Nat} {sv : Value} {xs : List Value} (h : w.ownsRow base e sz sv n xs) (hb : Below w.heap.size w w') : w'.ownsRow base e sz sv n xs :=
  h.kept (row := none) ⟨hb.os, hb.tape, hb.output, hb.size, fun i hi _ => hb.block i hi⟩ (by cases sv.ownBlock <;> simp)
theorem LstAt.below {base b mb : Nat} {w w' : World} {sh : Bool} {sv : Value} {ps : List PI} {nx : Int} (h : LstAt base w b mb sh sv ps nx) (hb : Below w.heap.size w w') : LstAt base w' b mb sh sv ps nx :=
  ⟨blk_below h.blk hb, h.idx.below hb, own_below h.owns hb, h.hb, h.hm⟩
section
set_option maxRecDepth 100000 in
theorem new_any (w : World) : Calls Tryz.prog 15 #[] w fun e w' => e = .returned (.pointer (some ⟨w.heap.size + 1, 0, none⟩)) ∧ LstAt w.heap.size w' (w.heap.size + 1) w.heap.size false (.slice none 0 0) [] 0 ∧ Below w.heap.size w w' := by
  have hI := (IdxAt.made w).below (((Below.refl (w.alloc (.map #[] 0)).heap.size (w.alloc (.map #[] 0))).alloc (Nat.le_refl _) (.cells #[.bool true, .bool false, .slice none 0 0, .map (some w.heap.size), .int .i64 0] 90)))
  have hB := Blk.new (w.alloc (.map #[] 0)) 90 #[.bool true, .bool false, .slice none 0 0, .map (some w.heap.size), .int .i64 0]
  have hs : (w.alloc (.map #[] 0)).heap.size = w.heap.size + 1 := by simp
  rw [hs] at hB
  have HI := Lib.hid hI
  have HB := Lib.hid hB
  have HW := Lib.hid ((((Below.refl w.heap.size w).alloc (Nat.le_refl _) (.map #[] 0))).alloc (by simp) (.cells #[.bool true, .bool false, .slice none 0 0, .map (some w.heap.size), .int .i64 0] 90))
  clear hI hB hs
  have hmm := @run_makeMap Tryz.prog
  go_enter Tryz.func15, Tryz.ntmps15
  go_wp2_with fail
  go_ret
  exact ⟨rfl, ⟨HB.out, HI.out, World.ownsRow_nil _ _ _ _, Nat.le_succ _, Nat.le_refl _⟩, HW.out⟩
set_option maxRecDepth 100000 in
theorem ok_any (w : World) (b : Nat) (h : w.cell? ⟨b, 0, none⟩ = some (.bool true)) : Calls Tryz.prog 36 #[.pointer (some ⟨b, 0, none⟩)] w fun e w' => e = .returned (.bool true) ∧ w' = w := by
  go_enter Tryz.func36, Tryz.ntmps36
  go_wp2_with fail
  go_ret
  exact ⟨rfl, rfl⟩
set_option maxRecDepth 100000 in
theorem own_any (w : World) (b : Nat) (h : w.cell? ⟨b, 1, none⟩ = some (.bool false)) : Calls Tryz.prog 38 #[.pointer (some ⟨b, 0, none⟩)] w fun e w' => (∃ v, e = .returned v) ∧ w' = w := by
  go_enter Tryz.func38, Tryz.ntmps38
  go_wp2_with fail
  refine bodyPost_ret (results_none rfl _ _ _) rfl ?_
  exact ⟨⟨_, rfl⟩, rfl⟩
set_option maxRecDepth 100000 in
theorem next_any (w : World) (b : Nat) (nx : Int) (h : w.cell? ⟨b, 0, none⟩ = some (.bool true)) (h4 : w.cell? ⟨b, 4, none⟩ = some (.int .i64 nx)) : Calls Tryz.prog 17 #[.pointer (some ⟨b, 0, none⟩)] w fun e w' => e = .returned (.int .i64 nx) ∧ w' = w := by
  have HK := Lib.hid (ok_any w b h)
  go_enter Tryz.func17, Tryz.ntmps17
  go_wp2_with (go_at_call 36; refine HK.out.mono ?_; rintro e w' ⟨rfl, rfl⟩)
  go_ret
  exact ⟨rfl, rfl⟩
end
end Dp
end Go.Proofs.YtnbhaokbaonjkaaGreatDoor
