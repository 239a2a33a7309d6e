/- RawHeads: a head is found by its name: the walks of both, and of the law. -/
import Derived.Test.YtnbhaokbaonjkaaGreatDoorRhA
import Derived.Test.YtnbhaokbaonjkaaGreatDoorWords
import Derived.Deep.QuietTactic
import Derived.Deep.RegionLaw
import Derived.BigQuiet
namespace Go.Proofs.YtnbhaokbaonjkaaGreatDoor
open Go.RowKit
/-- A slice of pairs in memory. -/
def PairsAt (w : World) (B : Nat) (A : Option Addr) (fs : List (ByteArray × ByteArray)) : Prop :=
  0 < fs.length → ∃ b off, A = some ⟨b, off, none⟩ ∧ b < B ∧ ∀ k, k < fs.length → w.cell? ⟨b, off + k * 2, none⟩ = some (.string (fs.getD k default).1) ∧ w.cell? ⟨b, off + k * 2 + 1, none⟩ = some (.string (fs.getD k default).2)
theorem PairsAt.below {w w' : World} {A : Option Addr} {fs : List (ByteArray × ByteArray)} (h : PairsAt w w.heap.size A fs) (hb1 : Below w.heap.size w w') : PairsAt w' w'.heap.size A fs := fun h0 => by
  obtain ⟨b, off, hA, hb, hc⟩ := h h0
  exact ⟨b, off, hA, Nat.lt_of_lt_of_le hb hb1.size, fun k hk => ⟨(hb1.cell (p := ⟨b, off + k * 2, none⟩) hb).trans (hc k hk).1, (hb1.cell (p := ⟨b, off + k * 2 + 1, none⟩) hb).trans (hc k hk).2⟩⟩
theorem PairsAt.below' {w w' : World} {B : Nat} {A : Option Addr} {fs : List (ByteArray × ByteArray)} (h : PairsAt w B A fs) (hb1 : Below B w w') : PairsAt w' B A fs := fun h0 => by
  obtain ⟨b, off, hA, hb, hc⟩ := h h0
  exact ⟨b, off, hA, hb, fun k hk => ⟨(hb1.cell (p := ⟨b, off + k * 2, none⟩) hb).trans (hc k hk).1, (hb1.cell (p := ⟨b, off + k * 2 + 1, none⟩) hb).trans (hc k hk).2⟩⟩
theorem PairsAt.up {w : World} {B B' : Nat} {A : Option Addr} {fs : List (ByteArray × ByteArray)} (h : PairsAt w B A fs) (hB : B ≤ B') : PairsAt w B' A fs := fun h0 => by
  obtain ⟨b, off, hA, hb, hc⟩ := h h0
  exact ⟨b, off, hA, Nat.lt_of_lt_of_le hb hB, hc⟩
theorem blk_below {w w' : World} {g : Nat} {t : TypeId} {cs : Array Value} (h : Blk w g t cs) (hb : Below w.heap.size w w') : Blk w' g t cs := h.keeps (Keeps.of_below (S := fun _ => False) hb) id
/-- The first head of that name. -/
def findH (name : ByteArray) : List (ByteArray × ByteArray) → Option ByteArray
  | [] => none
  | u :: l => if sameS u.1 name = true then some u.2 else findH name l
theorem findH_step (f : ByteArray) (us : List (ByteArray × ByteArray)) (k : Nat) (hk : k < us.length) : findH f (us.drop k) = if sameS (us.getD k default).1 f = true then some (us.getD k default).2 else findH f (us.drop (k + 1)) := by
  rw [List.drop_eq_getElem_cons hk, findH, show us.getD k default = us[k] by simp [hk]]
def foundT : Option ByteArray → Value
  | some v => .tuple #[.string v, .bool true]
  | none => .tuple #[.string ⟨#[]⟩, .bool false]
section
variable (m p qy bd name : ByteArray) (A : Option Addr) (c : Nat) (us : List (ByteArray × ByteArray)) (w : World)
set_option maxRecDepth 100000 in
set_option maxHeartbeats 4000000 in
theorem head_any (hA : PairsAt w w.heap.size A us) (hn : us.length ≤ 9223372036854775807) (hz : ∀ k, (us.getD k default).1.size ≤ 9223372036854775807) :
    Calls Tryz.prog 31 #[.agg #[.string m, .string p, .string qy, .slice A us.length c, .string bd], .string name] w fun e w' => e = .returned (foundT (findH name us)) ∧ Below w.heap.size w w' := by
  have HA := Lib.hid hA; clear hA
  have HZ := Lib.hid hz; clear hz
  have HS := Lib.hid (fun a h w => same_any a name h w)
  obtain ⟨M, HM⟩ : ∃ z, Hid (foundT (findH name us) = z) := ⟨_, rfl⟩
  rw [HM.out]
  go_enter Tryz.func31, Tryz.ntmps31
  go_wp2_with fail
  go_loopw [11] (fun x wx => ∃ k : Nat, k ≤ us.length ∧ x = .int .i64 k ∧ Hid (Below w.heap.size w wx ∧ findH name us = findH name (us.drop k))) (fun x _ => us.length - (ixOf x).toNat)
  case atStart => exact ⟨0, Nat.zero_le _, rfl, (Below.refl _ _).alloc (Nat.le_refl _) _, by simp⟩
  case round =>
    obtain ⟨k, hk, rfl, HR⟩ := hrel
    by_cases hlt : k < us.length
    · obtain ⟨b, off, rfl, hb, hc⟩ := HA.out (by omega)
      obtain ⟨hc1, hc2⟩ := hc k hlt
      have hk1 := (HR.out.1.cell (p := ⟨b, off + k * 2, none⟩) hb).trans hc1
      have hk2 := (HR.out.1.cell (p := ⟨b, off + k * 2 + 1, none⟩) hb).trans hc2
      have hs3 := HZ.out k
      have HF := Lib.hid (HR.out.2.trans (findH_step name us k hlt))
      clear hc hc1 hc2 hb HA HZ
      generalize us.getD k default = u at *
      obtain ⟨p1, x1⟩ := u
      dsimp only at hk1 hk2 hs3 HF
      have HSk := Lib.hid (fun w => HS.out p1 (by omega) w)
      clear HS
      cases heq : sameS p1 name with
      | true =>
        have hM : M = .tuple #[.string x1, .bool true] := by rw [← HM.out, HF.out, if_pos heq]; rfl
        subst hM
        rw [heq] at HSk
        have HB1 := Lib.hid HR.out.1
        clear HR HF HM
        go_wp2_with (go_at_call 56; refine (HSk.out _).mono ?_; rintro e w1 ⟨rfl, hb1⟩; have HB2 := Lib.hid ((HB1.out.alloc HB1.out.size (.cells #[.string p1, .string x1] 76)).trans (hb1.mono (HB1.out.alloc HB1.out.size _).size)); have q1 : w1.cell? ⟨wr.heap.size, 1, none⟩ = some (.string x1) := (blk_below (Blk.new wr 76 #[.string p1, .string x1]) hb1).cell 1; clear hb1)
        go_ret2
        exact ⟨rfl, HB2.out⟩
      | false =>
        have HF2 : Hid (findH name us = findH name (us.drop (k + 1))) := by
          have := HF.out
          rw [heq, if_neg (by decide)] at this
          exact this
        rw [heq] at HSk
        have HB1 := Lib.hid HR.out.1
        clear HR HF
        go_wp2_with (go_at_call 56; refine (HSk.out _).mono ?_; rintro e w1 ⟨rfl, hb1⟩; have HB2 := Lib.hid ((HB1.out.alloc HB1.out.size (.cells #[.string p1, .string x1] 76)).trans (hb1.mono (HB1.out.alloc HB1.out.size _).size)); have q1 : w1.cell? ⟨wr.heap.size, 1, none⟩ = some (.string x1) := (blk_below (Blk.new wr 76 #[.string p1, .string x1]) hb1).cell 1; clear hb1)
        go_roundw
        case rel => exact ⟨k + 1, by omega, by go_num, HB2.out, HF2.out⟩
        case measure => simp [ixOf] <;> omega
    · obtain rfl : k = us.length := by omega
      have hM : M = .tuple #[.string ⟨#[]⟩, .bool false] := by
        have := HR.out.2
        rw [List.drop_length] at this
        rw [← HM.out, this]; rfl
      subst hM
      have HB1 := Lib.hid HR.out.1
      clear HR HM HA HZ HS
      go_wp2_with fail
      go_ret2
      exact ⟨rfl, HB1.out⟩
end
end Go.Proofs.YtnbhaokbaonjkaaGreatDoor
