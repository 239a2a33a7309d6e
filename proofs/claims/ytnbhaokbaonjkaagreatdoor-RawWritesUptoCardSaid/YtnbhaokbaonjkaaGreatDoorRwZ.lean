/- RawWrites: the law's walk. -/
import Derived.Test.YtnbhaokbaonjkaaGreatDoorRvH
import Derived.Test.YtnbhaokbaonjkaaGreatDoorRwW
namespace Go.Proofs.YtnbhaokbaonjkaaGreatDoor
open Go Go.RowKit
namespace Rw
open Go.Proofs.YtnbhaokbaonjkaaGreatDoor.Rv
theorem textR_one {m p y b : ByteArray} {us : List (ByteArray × ByteArray)} {X X' : ByteArray} {k k' : Int} (h : TextR m p y b us X k) (h' : TextR m p y b us X' k') : X' = X ∧ k' = k := by
  rcases h with ⟨rfl, rfl, q, h1, h2⟩ | ⟨rfl, rfl, h1⟩ <;> rcases h' with ⟨rfl, rfl, q', h3, h4⟩ | ⟨rfl, rfl, h3⟩
  · exact ⟨rfl, rfl⟩
  · have := (h3 q h1).symm.trans h2
    cases this
  · have := (h1 q' h3).symm.trans h4
    cases this
  · exact ⟨rfl, rfl⟩
section
variable (m p y b : ByteArray) (A : Option Addr) (c : Nat) (us : List (ByteArray × ByteArray)) (w : World)
set_option maxRecDepth 100000 in
set_option maxHeartbeats 8000000 in
theorem rawWrites_any (hA : PairsAt w w.heap.size A us) (hn : us.length ≤ 100000000) (hz : (textB m p y b us).length ≤ 1000000000) (hz2 : p.size + y.size + b.size + m.size ≤ 1000000000) (hL : LibR w) :
    Calls Tryz.prog 4 #[.agg #[.string m, .string p, .string y, .slice A us.length c, .string b]] w fun e w' => e = .returned (.bool true) ∧ Below w.heap.size w w' := by
  have HX := Lib.hid (Blk.new w 39 #[.string m, .string p, .string y, .slice A us.length c, .string b])
  have HB := Lib.hid ((Below.refl w.heap.size w).alloc (Nat.le_refl _) (.cells #[.string m, .string p, .string y, .slice A us.length c, .string b] 39))
  have HT := Lib.hid (fun w' (h : Below w.heap.size w w') => textX m p y b A c us w' ((hA.below' h).up h.size) (by omega) hz hz2 (hL.below h).p)
  have HR := Lib.hid (fun w' (h : Below w.heap.size w w') => rtextX m p y b A c us w' ((hA.below' h).up h.size) (by omega) hz hz2)
  have HAl := Lib.hid (fun w' (h : Below w.heap.size w w') => alive10 w' (hL.below h).lib)
  clear hA hL hz
  go_enter Tryz.func4, Tryz.ntmps4
  go_upto_region 1 with (fail)
  generalize hw0 : w.alloc (.cells #[.string m, .string p, .string y, .slice A us.length c, .string b] 39) = w0 at *
  clear hw0
  have c0 : w0.cell? ⟨w.heap.size, 0, none⟩ = some (.string m) := HX.out.cell 0
  have c1 : w0.cell? ⟨w.heap.size, 1, none⟩ = some (.string p) := HX.out.cell 1
  have c2 : w0.cell? ⟨w.heap.size, 2, none⟩ = some (.string y) := HX.out.cell 2
  have c3 : w0.cell? ⟨w.heap.size, 3, none⟩ = some (.slice A us.length c) := HX.out.cell 3
  have c4 : w0.cell? ⟨w.heap.size, 4, none⟩ = some (.string b) := HX.out.cell 4
  go_upto_region 2 with (go_at_call 10; refine (HT.out _ HB.out).mono ?_; rintro e w1 ⟨X, k, rfl, hb1, htr⟩; have HTr := Lib.hid htr.out; have HB1 := Lib.hid (HB.out.trans (hb1.mono HB.out.size)); have HX1 := Lib.hid (blk_below HX.out hb1); clear hb1 htr)
  have d0 : w1.cell? ⟨w.heap.size, 0, none⟩ = some (.string m) := HX1.out.cell 0
  have d1 : w1.cell? ⟨w.heap.size, 1, none⟩ = some (.string p) := HX1.out.cell 1
  have d2 : w1.cell? ⟨w.heap.size, 2, none⟩ = some (.string y) := HX1.out.cell 2
  have d3 : w1.cell? ⟨w.heap.size, 3, none⟩ = some (.slice A us.length c) := HX1.out.cell 3
  have d4 : w1.cell? ⟨w.heap.size, 4, none⟩ = some (.string b) := HX1.out.cell 4
  clear c0 c1 c2 c3 c4 HT
  go_wp2_with (first
    | (go_at_call 11; refine (HR.out _ HB1.out).mono ?_; rintro e w2 ⟨X2, k2, rfl, hb2, htr⟩; obtain ⟨rfl, rfl⟩ := textR_one HTr.out htr.out; have HB2 := Lib.hid (HB1.out.trans (hb2.mono HB1.out.size)); clear hb2 htr)
    | (go_at_call 12; refine (HAl.out _ HB2.out).mono ?_; rintro e w3 ⟨rfl, hb3⟩; have HB3 := Lib.hid (HB2.out.trans (hb3.mono HB2.out.size)); clear hb3))
  go_ret
  exact ⟨rfl, HB3.out⟩
end
end Rw
end Go.Proofs.YtnbhaokbaonjkaaGreatDoor
