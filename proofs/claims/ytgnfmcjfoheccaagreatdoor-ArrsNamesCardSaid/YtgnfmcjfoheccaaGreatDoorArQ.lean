/- ArrsNames: the walk of the law. -/
import Derived.Test.YtgnfmcjfoheccaaGreatDoorArP
import Derived.Test.YtgnfmcjfoheccaaGreatDoorSort
import Derived.Deep.QuietTactic
import Derived.BigQuiet
import Derived.Laws.Cover1
namespace Go.Proofs.YtgnfmcjfoheccaaGreatDoor
open Go Go.Ev Go.RowKit
theorem sort_c : SortC := fun blk off cap ss w hH hblk hsz => Tryz.slices_Sort_string blk off cap ss w hH hblk hsz
theorem drewN_drewN (w : World) (a b : Nat) : (w.drewN a).drewN b = w.drewN (a + b) := by simp [World.drewN, Nat.add_assoc]
theorem own_below {w w' : World} {B : Nat} {e : TypeId} {size n : Nat} {v : Value} {xs : List Value} (h : w.ownsRow B e size v n xs) (hb : Below w.heap.size w w') : w'.ownsRow B e size v n xs :=
  ⟨h.1, h.2.imp id (fun ⟨g, cap, cur, a, b, c, d⟩ => ⟨g, cap, cur, a, b, (hb.block g (Array.getElem?_eq_some_iff.1 c).1).trans c, d⟩)⟩
set_option maxRecDepth 100000 in
set_option maxHeartbeats 2000000 in
theorem anames_any (n : Int) (hn0 : -9223372036854775808 ≤ n) (hn1 : n ≤ 9223372036854775807) (m : Int) (w : World) (hL : LibS m w) : Calls Tryz.prog 5 #[.int .i64 n] w fun e w' => e = .returned (.bool true) ∧ Below w.heap.size w w' := by
  have H5 := Lib.hid (fun w hL => alive_any m w hL)
  have HL := Lib.hid hL
  clear hL
  go_enter Tryz.func5, Tryz.ntmps5
  go_wp2_with fail
  refine (names_walk sort_c w HL.out).mono ?_
  rintro e w1 ⟨v, rfl, hown, hb1⟩
  obtain ⟨g, c, rfl, _, hgl⟩ := hown.form (by omega)
  have HO := Lib.hid hown
  have HB1 := Lib.hid hb1
  clear hown hb1
  go_wp2_with fail
  refine (rn_any w1 (HL.out.below HB1.out)).mono ?_
  rintro e w2 ⟨g2, c2, rfl, hm2, hb2⟩
  have HO2 := Lib.hid (own_below HO.out hb2)
  have HM2 := Lib.hid hm2
  have HB2 := Lib.hid (HB1.out.trans (hb2.mono HB1.out.size))
  clear hm2 hb2 HO
  go_wp2_with fail
  refine (H5.out _ (HL.out.below HB2.out)).mono ?_
  rintro e w3 ⟨rfl, hb3⟩
  have HB3 := Lib.hid (HB2.out.trans (hb3.mono HB2.out.size))
  have hc1 : Hid (∀ i nm, sortedN[i]? = some nm → w3.cell? ⟨g, i, none⟩ = some (.string (mkS nm))) := fun i nm hi => by
    have hlt : i < 47 := by have := (List.getElem?_eq_some_iff.1 hi).1; exact this
    have h1 := HO2.out.cellAt i (by omega)
    refine (hb3.cell (p := ⟨g, i, none⟩) (World.block_lt_of_cell? (u := .string (mkS nm)) w2 _ (h1.trans ?_))).trans (h1.trans ?_) <;>
    · unfold bytesOf
      rw [List.map_map, List.getElem?_map, hi]
      rfl
  have hc2 : Hid (∀ i nm, sortedN[i]? = some nm → w3.cell? ⟨g2, i, none⟩ = some (.string (mkS nm))) := fun i nm hi => by
    have h1 := HM2.out i nm hi
    exact (hb3.cell (p := ⟨g2, i, none⟩) (World.block_lt_of_cell? w2 _ h1)).trans h1
  clear HO2 HM2 HB2 hb3
  go_wp2_with fail
  have hlen : sortedN.length = 47 := by decide +kernel
  have hn1' := names_256
  clear hn1'
  go_loopg [21] 47 (fun gk r wx => ∃ i : Nat, i + gk = 47 ∧ r = .int .i64 i ∧ Hid (∀ i nm, sortedN[i]? = some nm → wx.cell? ⟨g, i, none⟩ = some (.string (mkS nm))) ∧ Hid (∀ i nm, sortedN[i]? = some nm → wx.cell? ⟨g2, i, none⟩ = some (.string (mkS nm))) ∧ Hid (Below w.heap.size w wx))
  case atStart => exact ⟨0, by omega, rfl, hc1, hc2, HB3⟩
  case round =>
    clear hc1 hc2 HB3
    obtain ⟨i, hig, rfl, hc1, hc2, HB3⟩ := hrel
    by_cases hlt : i < 47
    · have hI : (i : Int) < 47 := by omega
      obtain ⟨nm, hnm⟩ : ∃ nm, sortedN[i]? = some nm := ⟨sortedN[i], List.getElem?_eq_getElem _⟩
      have c1 : wr.cell? ⟨g, i, none⟩ = some (.string (mkS nm)) := hc1.out i nm hnm
      have c2 : wr.cell? ⟨g2, i, none⟩ = some (.string (mkS nm)) := hc2.out i nm hnm
      go_wp2_with fail
      go_quiet (fail)
      go_wp2_with fail
      go_roundg (gk - 1)
      case rel => exact ⟨i + 1, by omega, by go_num, fun i nm h => hc1.out i nm h, fun i nm h => hc2.out i nm h, ⟨HB3.out.os, HB3.out.tape, HB3.out.output, HB3.out.size, HB3.out.block⟩⟩
      case measure => omega
    · have hI : ¬ ((i : Int) < 47) := by omega
      have hb1 : n.tmod 47 < 47 := Int.tmod_lt_of_pos n (by decide)
      have hb2 : -47 < n.tmod 47 := Int.lt_tmod_of_pos n (by decide)
      have hwr : wrap64 (n.tmod 47 + 47) = n.tmod 47 + 47 := by unfold wrap64; omega
      obtain ⟨k, hk, hk41⟩ : ∃ k : Nat, (n.tmod 47 + 47).tmod 47 = (k : Int) ∧ k < 47 := by
        have e := Int.tmod_eq_emod_of_nonneg (a := n.tmod 47 + 47) (b := 47) (by omega)
        exact ⟨((n.tmod 47 + 47).tmod 47).toNat, by omega, by omega⟩
      clear hb1 hb2
      obtain ⟨nm, hnm⟩ : ∃ nm, sortedN[k]? = some nm := ⟨sortedN[k], List.getElem?_eq_getElem _⟩
      have c1 := hc1.out k nm hnm
      have hkI : (k : Int) < 47 := by omega
      have hmem : nm ∈ names := (mem_sortedN nm).2 (List.mem_of_getElem? hnm)
      have HC := Lib.hid (call_none nm hmem m wr (HL.out.below HB3.out))
      go_wp2_with fail
      refine HC.out.mono ?_
      rintro e w4 ⟨rfl, hb4⟩
      have HB4 := Lib.hid (HB3.out.trans (hb4.mono HB3.out.size))
      clear hb4 HC
      go_wp2_with fail
      go_ret
      exact ⟨rfl, HB4.out.alloc HB4.out.size _⟩
theorem int_bounds {n : Int} (h : (Lit.int .i64 n).wf = true) : -9223372036854775808 ≤ n ∧ n ≤ 9223372036854775807 := by
  simp [Lit.wf, IntKind.min, IntKind.max, IntKind.signed, IntKind.bits] at h
  omega
end Go.Proofs.YtgnfmcjfoheccaaGreatDoor
