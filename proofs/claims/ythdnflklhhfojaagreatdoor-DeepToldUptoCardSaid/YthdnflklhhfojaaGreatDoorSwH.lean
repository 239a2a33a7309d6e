/- (*strings.Replacer).Replace, deep.quote: the walks. -/
import Derived.Test.YthdnflklhhfojaaGreatDoorSwG
namespace Go.Proofs.YthdnflklhhfojaaGreatDoor
open Go Go.RowKit
namespace Sw
set_option maxRecDepth 100000 in
set_option maxHeartbeats 1000000 in
theorem replace_any {w0 w : World} {g : Nat} (hN : RepN w0 w g) (hL : LibS w0) (s : ByteArray) (hs : s.size ≤ 1048576) : Calls Tryz.prog 96 #[.pointer (some ⟨g, 0, none⟩), .string s] w fun e w' => e = .returned (.string ⟨(escL s.data.toList).toArray⟩) ∧ Below w0.heap.size w0 w' := by
  have HD := Lib.hid (do_any hN hL)
  have HB := Lib.hid (fun (w1 : World) (T : Nat) (hT : TabAt w1 T) => bsr_any hT s hs)
  clear hN hL hs
  generalize (⟨(escL s.data.toList).toArray⟩ : ByteArray) = V at *
  go_enter Tryz.func96, Tryz.ntmps96
  go_wp2_with (go_at_call 129; refine HD.out.mono ?_; rintro e w1 ⟨rfl, hb, T, ht, hT⟩; have HB1 := Lib.hid hb; have HT := Lib.hid hT; clear hb hT)
  refine (HB.out _ T HT.out).mono ?_
  rintro e w2 ⟨rfl, hb2⟩
  go_wp2_with fail
  go_ret
  exact ⟨rfl, HB1.out.trans (hb2.mono HB1.out.size)⟩
theorem quote_eq (l : List UInt8) : (⟨#[39]⟩ ++ (⟨(escL l).toArray⟩ : ByteArray)) ++ ⟨#[39]⟩ = (⟨(quoteL l).toArray⟩ : ByteArray) := by
  apply ByteArray.ext
  rw [← Array.toList_inj]
  simp [quoteL]
set_option maxRecDepth 100000 in
set_option maxHeartbeats 1000000 in
theorem quote_any (s : ByteArray) (hs : s.size ≤ 1048576) (w : World) (hL : LibS w) : Calls Tryz.prog 57 #[.string s] w fun e w' => e = .returned (.string ⟨(quoteL s.data.toList).toArray⟩) ∧ Below w.heap.size w w' := by
  have HN := Lib.hid (new_any w hL)
  have HR := Lib.hid (fun (w1 : World) (g : Nat) (hN : RepN w w1 g) => replace_any hN hL s hs)
  have hq := quote_eq s.data.toList
  have hon : oldNewA = #[.string ⟨#[92]⟩, .string ⟨#[92, 92]⟩, .string ⟨#[39]⟩, .string ⟨#[92, 39]⟩] := rfl
  rw [hon] at HN
  rw [← hq]
  have hel := escL_len s.data.toList
  have hsl : s.data.toList.length = s.size := by simp
  have hvs : (⟨(escL s.data.toList).toArray⟩ : ByteArray).size ≤ 2097152 := by
    show (escL s.data.toList).toArray.size ≤ _
    rw [List.size_toArray]
    omega
  clear hL hs hq hon hel hsl
  generalize (⟨(escL s.data.toList).toArray⟩ : ByteArray) = V at *
  have g1 : ¬ 9223372036854775807 < 1 + V.size := by omega
  have g2 : ¬ 9223372036854775807 < 1 + V.size + 1 := by omega
  go_enter Tryz.func57, Tryz.ntmps57
  go_wp2_with (first | (go_at_call 95; refine HN.out.mono ?_; rintro e w1 ⟨g, rfl, hN⟩; have HG := Lib.hid hN; clear hN) | (go_at_call 96; refine (HR.out _ _ HG.out).mono ?_; rintro e w2 ⟨rfl, hb⟩))
  go_ret
  exact ⟨rfl, hb⟩
end Sw
end Go.Proofs.YthdnflklhhfojaaGreatDoor
