/- strs.row, strs.explode: the walks. -/
import Derived.Test.YtgjnmfjiolpikaaGreatDoorSbH
import Derived.Laws.AppendOwn
namespace Go.Proofs.YtgjnmfjiolpikaaGreatDoor
open Go Go.RowKit
set_option maxRecDepth 100000
namespace Sb
open Dp
theorem RowSt.setc {base : Nat} {w : World} {sv : Value} {ps : List PI} (h : RowSt base w sv ps) {p : Addr} (hp : p.block < base) (u : Value) : RowSt base (w.setCell p u) sv ps :=
  ⟨ownsRow_setCell_below h.owns hp u, fun q hq => (h.vals q hq).keep (fun b h => ⟨h.1, by simpa [World.setCell] using h.2.1, h.2.2⟩) fun a ha => World.cell?_setCell_other _ _ _ _ (fun e => by subst e; have := ha.1; omega)⟩
def piR (k : Nat) (x : ByteArray) : PI := ⟨false, k, ⟨#[]⟩, 3, 0, x, [], none, 0⟩
theorem row_take (xs : List ByteArray) (j : Nat) (x : ByteArray) (h : xs[j]? = some x) : rowI (xs.take (j + 1)) 0 = rowI (xs.take j) 0 ++ [PI.it (piR j x)] := by
  have hj := (List.getElem?_eq_some_iff.1 h).1
  rw [List.take_add_one, h, Option.toList_some, rowI_app, List.length_take, Nat.min_eq_left (by omega), Nat.zero_add]
  rfl
theorem leaf_vin (w : World) (S : Nat → Prop) (k : Nat) (x : ByteArray) : VIn w S (piR k x).gv (piR k x).val := VIn.mk 3 0 x [] none 0 0 0 (fun _ => .nilIface) (Nat.zero_le _) (Nat.zero_le _) (fun h => absurd h (Nat.lt_irrefl 0)) (fun i it h => by simp at h) (fun i it h => by simp at h)
theorem own_shape {w : World} {base : Nat} {e : TypeId} {sz n : Nat} {sv : Value} {xs : List Value} (h : w.ownsRow base e sz sv n xs) : ∃ A c, sv = .slice A n c := by
  rcases h.2 with ⟨rfl, rfl⟩ | ⟨g, cap, cur, rfl, _⟩
  · exact ⟨_, _, rfl⟩
  · exact ⟨_, _, rfl⟩
/-- How far row has come. -/
structure RwS (w wx : World) (xs : List ByteArray) (A : Option Addr) (c : Nat) (qs : List PI) : Prop where
  its : qs.map PI.it = rowI (xs.take qs.length) 0
  row : RowSt (w.heap.size + 2) wx (.slice A qs.length c) qs
  box : Blk wx (w.heap.size + 1) 25 #[.int .i64 4, .int .i64 xs.length, .string ⟨#[]⟩, .slice A qs.length c]
  res : Blk wx w.heap.size 25 #[.int .i64 0, .int .i64 0, .string ⟨#[]⟩, .slice none 0 0]
  low : Below w.heap.size w wx
theorem RwS.next {w wr w4 : World} {xs : List ByteArray} {A A2 : Option Addr} {c c2 : Nat} {qs : List PI} {x : ByteArray} {o : Obj} (h : RwS w wr xs A c qs) (hx : xs[qs.length]? = some x)
    (hown : w4.ownsRow (w.heap.size + 2) 46 7 (.slice A2 (qs.length + 1) c2) (qs.length + 1) (rowC qs ++ (piR qs.length x).cells)) (hg : (wr.alloc o).grownBy w4 (Value.slice A qs.length c).ownBlock) (hor : (Value.slice A2 (qs.length + 1) c2).ownBlock = (Value.slice A qs.length c).ownBlock ∨ (Value.slice A2 (qs.length + 1) c2).ownBlock = some (wr.alloc o).heap.size) :
    RwS w (w4.setCell ⟨w.heap.size + 1, 3, none⟩ (.slice A2 (qs.length + 1) c2)) xs A2 c2 (qs ++ [piR qs.length x]) := by
  have hlt := h.box.lt
  have hl : (qs ++ [piR qs.length x]).length = qs.length + 1 := by simp
  have hne : ∀ b, b < w.heap.size + 2 → some b ≠ (Value.slice A qs.length c).ownBlock := fun b hb e => by
    have := (h.row.owns.lt _ e.symm).1
    omega
  have hrow := RowSt.app (p := piR qs.length x) h.row (Below.refl _ _) (by omega) (leaf_vin wr _ qs.length x) hown hg hor
  refine ⟨?_, ?_, ?_, ?_, ?_⟩
  · rw [hl, row_take xs _ x hx, List.map_append, h.its]
    rfl
  · rw [hl]
    exact RowSt.setc hrow (p := ⟨w.heap.size + 1, 3, none⟩) (by show w.heap.size + 1 < _; omega) _
  · rw [hl]
    exact ((h.box.alloc o).grown hg (hne _ (by omega))).set_ 3 _
  · exact ((h.res.alloc o).grown hg (hne _ (by omega))).far (show w.heap.size ≠ w.heap.size + 1 by omega) _
  · exact ((h.low.alloc (by omega) o).grown hg (by simp; omega) (fun g e => by have := (h.row.owns.lt _ e).1; omega)).setCell (p := ⟨w.heap.size + 1, 3, none⟩) (by show w.heap.size ≤ w.heap.size + 1; omega) _
set_option maxHeartbeats 8000000 in
theorem row_any (xs : List ByteArray) (g c : Nat) (w : World) (hg : g < w.heap.size) (hR : ∀ (j : Nat) x, xs[j]? = some x → w.cell? ⟨g, j, none⟩ = some (.string x)) (hl : xs.length ≤ 100000) :
    Calls Tryz.prog 91 #[.slice (some ⟨g, 0, none⟩) xs.length c] w fun e w' => ∃ A' c', e = .returned (.tuple #[.agg #[.int .i64 4, .int .i64 xs.length, .string ⟨#[]⟩, .slice A' xs.length c'], .int .i64 0]) ∧ VIn w' (fun b => w.heap.size ≤ b ∧ b < w'.heap.size) (rowG xs) (.agg #[.int .i64 4, .int .i64 xs.length, .string ⟨#[]⟩, .slice A' xs.length c']) ∧ Below w.heap.size w w' := by
  have hal := fun (w1 : World) (o : Obj) => (Below.refl w1.heap.size w1).alloc (Nat.le_refl _) o
  have hs1 : (w.alloc (.cells #[.int .i64 0, .int .i64 0, .string ⟨#[]⟩, .slice none 0 0] 25)).heap.size = w.heap.size + 1 := by simp
  have hb := Blk.new (w.alloc (.cells #[.int .i64 0, .int .i64 0, .string ⟨#[]⟩, .slice none 0 0] 25)) 25 #[.int .i64 4, .int .i64 xs.length, .string ⟨#[]⟩, .slice none 0 0]
  rw [hs1] at hb
  have HS0 : Hid (RwS w ((w.alloc (.cells #[.int .i64 0, .int .i64 0, .string ⟨#[]⟩, .slice none 0 0] 25)).alloc (.cells #[.int .i64 4, .int .i64 xs.length, .string ⟨#[]⟩, .slice none 0 0] 25)) xs none 0 []) :=
    ⟨rfl, RowSt.nil _ _, hb, (Blk.new w _ _).alloc _, (hal w _).alloc (by simp) _⟩
  have HR := Lib.hid hR
  obtain ⟨i0, hi0, hz0, hz1, hz2⟩ := info_parts item_info
  have HU := Lib.hid (And.intro hi0 (And.intro hz0 (And.intro hz1 hz2)))
  clear hal hs1 hb hR hi0 hz0 hz1 hz2
  go_enter Tryz.func91, Tryz.ntmps91
  go_wp2_with fail
  go_loopw [12] (fun xi wx => ∃ (A1 : Option Addr) (c1 : Nat) (qs : List PI), qs.length ≤ xs.length ∧ xi = .int .i64 qs.length ∧ Hid (RwS w wx xs A1 c1 qs)) (fun xi _ => xs.length - (match xi with | .int _ q => q | _ => 0).toNat)
  case atStart => exact ⟨none, 0, [], Nat.zero_le _, rfl, HS0⟩
  case round =>
    obtain ⟨A1, c1, qs, hj, rfl, HS⟩ := hrel
    clear HS0
    have b3 : wr.cell? ⟨w.heap.size + 1, 3, none⟩ = some (.slice A1 qs.length c1) := HS.out.box.cell 3
    have hlow := HS.out.low.size
    have hbl := HS.out.box.lt
    by_cases hlt : qs.length < xs.length
    · obtain ⟨x, hx⟩ : ∃ x, xs[qs.length]? = some x := ⟨_, List.getElem?_eq_getElem hlt⟩
      have hcu := (HS.out.low.cell (p := ⟨g, qs.length, none⟩) hg).trans (HR.out _ x hx)
      have hjI : (qs.length : Int) < (xs.length : Int) := by omega
      have HX := Lib.hid hx
      have hrd : Reads (wr.alloc (.cells #[.bool false, .int .i64 qs.length, .string ⟨#[]⟩, .int .i64 3, .int .i64 0, .string x, .slice none 0 0] 46)) (wr.alloc (.cells #[.bool false, .int .i64 qs.length, .string ⟨#[]⟩, .int .i64 3, .int .i64 0, .string x, .slice none 0 0] 46)).heap.size 7 (some ⟨wr.heap.size, 0, none⟩) 1 (piR qs.length x).cells := reads_blk (p := piR qs.length x) (Blk.new wr _ _)
      have HRd := Lib.hid hrd
      clear hx hrd
      go_wp2_with (at_builtin; refine wpList_append_any _ rfl (.tmp 18) (.tmp 24) 23 rfl (w.heap.size + 2) 46 i0 _ 7 88 Tryz.underlying23 HU.out.1 HU.out.2.1 HU.out.2.2.1 HU.out.2.2.2 rfl (by decide) (.slice A1 qs.length c1) qs.length (rowC qs) rfl (HS.out.row.owns.alloc _) _ (some ⟨wr.heap.size, 0, none⟩) 1 1 (piR qs.length x).cells rfl HRd.out (cells_one _) (by unfold maxLen; omega) (by omega) (by simp; omega) ?_; intro v4 w4 hown4 hg4 hor4; obtain ⟨A2, c2, rfl⟩ := own_shape hown4; have HS4 := Lib.hid (RwS.next HS.out HX.out hown4 hg4 hor4); have hbx := (HS.out.box.alloc _).grown hg4 (fun e => by have := (HS.out.row.owns.lt _ e.symm).1; omega); have y3 := hbx.cell 3; have yf := hbx.frozen 3; clear hown4 hg4 hor4 hbx)
      go_roundw
      case rel => exact ⟨A2, c2, qs ++ [piR qs.length x], by simp; omega, by simp, HS4⟩
      case measure => simp <;> omega
    · have hje : qs.length = xs.length := by omega
      have HW : Hid (VIn wr (fun b => w.heap.size + 2 ≤ b ∧ b < wr.heap.size) (rowG xs) (.agg #[.int .i64 4, .int .i64 xs.length, .string ⟨#[]⟩, .slice A1 xs.length c1])) := by
        have h1 := HS.out.row.vin 4 xs.length ⟨#[]⟩
        rw [HS.out.its, hje, List.take_length] at h1
        exact h1
      have HBx := Lib.hid HS.out.box
      rw [hje] at b3 HBx
      have HRs := Lib.hid HS.out.res
      have HLo := Lib.hid HS.out.low
      have b0 := HBx.out.cell 0
      have b1 := HBx.out.cell 1
      have b2 := HBx.out.cell 2
      have z0 := HRs.out.frozen 0
      have z1 := HRs.out.frozen 1
      have z2 := HRs.out.frozen 2
      have z3 := HRs.out.frozen 3
      have v0 := HRs.out.cell 0
      have v1 := HRs.out.cell 1
      have v2 := HRs.out.cell 2
      have v3 := HRs.out.cell 3
      rw [hje]
      clear HS hj hlt
      go_wp2_with fail
      have HV8 := (((HRs.out.set_ 0 (.int .i64 4)).set_ 1 (.int .i64 xs.length)).set_ 2 (.string ⟨#[]⟩)).set_ 3 (.slice A1 xs.length c1)
      have HB8 := (((HLo.out.setCell (p := ⟨w.heap.size, 0, none⟩) (Nat.le_refl _) (.int .i64 4)).setCell (p := ⟨w.heap.size, 1, none⟩) (Nat.le_refl _) (.int .i64 xs.length)).setCell (p := ⟨w.heap.size, 2, none⟩) (Nat.le_refl _) (.string ⟨#[]⟩)).setCell (p := ⟨w.heap.size, 3, none⟩) (Nat.le_refl _) (.slice A1 xs.length c1)
      have HW8 : VIn ((((wr.setCell ⟨w.heap.size, 0, none⟩ (.int .i64 4)).setCell ⟨w.heap.size, 1, none⟩ (.int .i64 xs.length)).setCell ⟨w.heap.size, 2, none⟩ (.string ⟨#[]⟩)).setCell ⟨w.heap.size, 3, none⟩ (.slice A1 xs.length c1)) (fun b => w.heap.size ≤ b ∧ b < ((((wr.setCell ⟨w.heap.size, 0, none⟩ (.int .i64 4)).setCell ⟨w.heap.size, 1, none⟩ (.int .i64 xs.length)).setCell ⟨w.heap.size, 2, none⟩ (.string ⟨#[]⟩)).setCell ⟨w.heap.size, 3, none⟩ (.slice A1 xs.length c1)).heap.size) (rowG xs) (.agg #[.int .i64 4, .int .i64 xs.length, .string ⟨#[]⟩, .slice A1 xs.length c1]) := HW.out.keep (fun b h => ⟨by omega, by simp [World.setCell]; omega⟩) fun q hq => by
        have hne : ∀ o : Nat, (⟨w.heap.size, o, none⟩ : Addr) ≠ q := fun o e => by
          subst e
          have := hq.1
          simp at this
          omega
        rw [World.cell?_setCell_other _ _ _ _ (hne 3), World.cell?_setCell_other _ _ _ _ (hne 2), World.cell?_setCell_other _ _ _ _ (hne 1), World.cell?_setCell_other _ _ _ _ (hne 0)]
      generalize (((wr.setCell ⟨w.heap.size, 0, none⟩ (.int .i64 4)).setCell ⟨w.heap.size, 1, none⟩ (.int .i64 xs.length)).setCell ⟨w.heap.size, 2, none⟩ (.string ⟨#[]⟩)).setCell ⟨w.heap.size, 3, none⟩ (.slice A1 xs.length c1) = w8 at *
      have e0 : w8.cell? ⟨w.heap.size, 0, none⟩ = some (.int .i64 4) := HV8.cell 0
      have e1 : w8.cell? ⟨w.heap.size, 1, none⟩ = some (.int .i64 xs.length) := HV8.cell 1
      have e2 : w8.cell? ⟨w.heap.size, 2, none⟩ = some (.string ⟨#[]⟩) := HV8.cell 2
      have e3 : w8.cell? ⟨w.heap.size, 3, none⟩ = some (.slice A1 xs.length c1) := HV8.cell 3
      refine bodyPost_ret (v := .tuple #[.agg #[.int .i64 4, .int .i64 xs.length, .string ⟨#[]⟩, .slice A1 xs.length c1], .int .i64 0]) (by simp [results, Tryz.results91, go_sem, e0, e1, e2, e3]) rfl ?_
      exact ⟨A1, c1, rfl, HW8, HB8⟩
/-! ### explode -/
theorem splitN_neg (s sep : ByteArray) (m : Int) (w : World) (hs : s.size < 4294967281) (hm : w.cell? ⟨0, 0, none⟩ = some (.int .i64 m)) (h1 : 1 ≤ sep.size) :
    Calls Tryz.prog 90 #[.string s, .string sep, .int .i64 (-1)] w fun e w' => e = .returned (.slice (some ⟨w.heap.size, 0, none⟩) (Lib.splitB sep 0 (Lib.countB s sep) s).length (Lib.countB s sep + 1)) ∧ w' = w.alloc (.cells ((Lib.splitB sep 0 (Lib.countB s sep) s).map Value.string).toArray 9) := by
  have hle := Lib.countB_le sep h1 s.size s (Nat.le_refl _)
  have hlen := Lib.splitB_all sep h1 0 _ s rfl
  have c := Tryz.strings_genSplit s sep 0 (-1) (Lib.countB s sep + 1) m w hs hm h1 (Nat.zero_le _) (by decide) (by decide) (by rw [if_pos (by decide)]; omega)
  rw [Nat.add_sub_cancel] at c
  have e2 : Lib.cellsOf (Lib.splitB sep 0 (Lib.countB s sep) s) (Lib.countB s sep + 1) = ((Lib.splitB sep 0 (Lib.countB s sep) s).map Value.string).toArray := by rw [← hlen]; exact Lib.cellsOf_full _
  rw [e2] at c
  have HC := Lib.hid c
  clear c e2 hlen hle
  generalize Lib.splitB sep 0 (Lib.countB s sep) s = L at *
  generalize Lib.countB s sep + 1 = N at *
  go_enter Tryz.func90, Tryz.ntmps90
  go_wp2_with (go_at_call 129; refine HC.out.mono ?_; rintro e w1 ⟨rfl, rfl⟩)
  go_ret
  exact ⟨rfl, rfl⟩
/-- The pieces. -/
def partsB (s t : ByteArray) : List ByteArray := Lib.splitB s 0 (Lib.countB t s) t
theorem parts_len (s t : ByteArray) (h : 1 ≤ s.size) : (partsB s t).length = Lib.countB t s + 1 ∧ (partsB s t).length ≤ t.size + 1 := by
  have hle := Lib.countB_le s h t.size t (Nat.le_refl _)
  have hlen := Lib.splitB_all s h 0 _ t rfl
  exact ⟨hlen, by unfold partsB; omega⟩
set_option maxHeartbeats 8000000 in
theorem explode_no (t : ByteArray) (n0 n1 : Int) (A0 A1 : Option Addr) (l0 c0 l1 c1 g cap : Nat) (w : World) (hA : ArgsA w g [(3, n0, ⟨#[]⟩, A0, l0, c0), (3, n1, t, A1, l1, c1)]) :
    Calls Tryz.prog 45 #[.slice (some ⟨g, 0, none⟩) 2 cap] w fun e w' => e = .returned (.tuple #[.agg #[.int .i64 0, .int .i64 0, .string ⟨#[]⟩, .slice none 0 0], .int .i64 1]) ∧ Below w.heap.size w w' := by
  have HS := Lib.hid (fun w hA => sA [(3, n0, ⟨#[]⟩, A0, l0, c0), (3, n1, t, A1, l1, c1)] 0 n0 ⟨#[]⟩ A0 l0 c0 (by simp) rfl g cap w hA)
  have HZ0 := Lib.hid (Blk.new w 25 #[.int .i64 0, .int .i64 0, .string ⟨#[]⟩, .slice none 0 0])
  have HB0 := Lib.hid ((Below.refl w.heap.size w).alloc (Nat.le_refl _) (.cells #[.int .i64 0, .int .i64 0, .string ⟨#[]⟩, .slice none 0 0] 25))
  have HA0 := Lib.hid (hA.below HB0.out (Nat.le_refl _))
  clear hA
  go_enter Tryz.func45, Tryz.ntmps45
  go_upto_region 1 with fail
  generalize w.alloc (.cells #[.int .i64 0, .int .i64 0, .string ⟨#[]⟩, .slice none 0 0] 25) = w0 at *
  have hcmp : ((⟨#[]⟩ : ByteArray).toList == (⟨#[]⟩ : ByteArray).toList) = true := beq_self_eq_true _
  go_wp2_with (first
    | (go_at_call 16; refine (HS.out _ HA0.out).mono ?_; rintro e w1 ⟨rfl, hb1⟩; have HB1 := Lib.hid (HB0.out.trans (hb1.mono HB0.out.size)); have HZ1 := Lib.hid (HZ0.out.keeps (Keeps.of_below (S := fun _ => False) hb1) id); clear hb1)
    | (go_at_call 10; refine (wrong_any 1 _).mono ?_; rintro e w7 ⟨rfl, hb7⟩; have HB7 := Lib.hid (HB1.out.trans (hb7.mono HB1.out.size)); have HV7 := Lib.hid (HZ1.out.keeps (Keeps.of_below (S := fun _ => False) hb7) id); clear hb7; have z0 := HV7.out.frozen 0; have z1 := HV7.out.frozen 1; have z2 := HV7.out.frozen 2; have z3 := HV7.out.frozen 3; have v0 := HV7.out.cell 0; have v1 := HV7.out.cell 1; have v2 := HV7.out.cell 2; have v3 := HV7.out.cell 3))
  have HV8 := (((HV7.out.set_ 0 (.int .i64 0)).set_ 1 (.int .i64 0)).set_ 2 (.string ⟨#[]⟩)).set_ 3 (.slice none 0 0)
  have HB8 := (((HB7.out.setCell (p := ⟨w.heap.size, 0, none⟩) (Nat.le_refl _) (.int .i64 0)).setCell (p := ⟨w.heap.size, 1, none⟩) (Nat.le_refl _) (.int .i64 0)).setCell (p := ⟨w.heap.size, 2, none⟩) (Nat.le_refl _) (.string ⟨#[]⟩)).setCell (p := ⟨w.heap.size, 3, none⟩) (Nat.le_refl _) (.slice none 0 0)
  generalize (((w7.setCell ⟨w.heap.size, 0, none⟩ (.int .i64 0)).setCell ⟨w.heap.size, 1, none⟩ (.int .i64 0)).setCell ⟨w.heap.size, 2, none⟩ (.string ⟨#[]⟩)).setCell ⟨w.heap.size, 3, none⟩ (.slice none 0 0) = w8 at *
  have e0 : w8.cell? ⟨w.heap.size, 0, none⟩ = some (.int .i64 0) := HV8.cell 0
  have e1 : w8.cell? ⟨w.heap.size, 1, none⟩ = some (.int .i64 0) := HV8.cell 1
  have e2 : w8.cell? ⟨w.heap.size, 2, none⟩ = some (.string ⟨#[]⟩) := HV8.cell 2
  have e3 : w8.cell? ⟨w.heap.size, 3, none⟩ = some (.slice none 0 0) := HV8.cell 3
  refine bodyPost_ret (v := .tuple #[.agg #[.int .i64 0, .int .i64 0, .string ⟨#[]⟩, .slice none 0 0], .int .i64 1]) (by simp [results, Tryz.results45, go_sem, e0, e1, e2, e3]) rfl ?_
  exact ⟨rfl, HB8⟩
set_option maxHeartbeats 8000000 in
theorem explode_do (s t : ByteArray) (hs : 1 ≤ s.size) (ht : t.size ≤ 65536) (n0 n1 : Int) (A0 A1 : Option Addr) (l0 c0 l1 c1 g cap : Nat) (m : Int) (w : World) (hL : LibA m w) (hA : ArgsA w g [(3, n0, s, A0, l0, c0), (3, n1, t, A1, l1, c1)]) :
    Calls Tryz.prog 45 #[.slice (some ⟨g, 0, none⟩) 2 cap] w fun e w' => ∃ A c, e = .returned (.tuple #[.agg #[.int .i64 4, .int .i64 (partsB s t).length, .string ⟨#[]⟩, .slice A (partsB s t).length c], .int .i64 0]) ∧ VIn w' (fun b => w.heap.size ≤ b ∧ b < w'.heap.size) (rowG (partsB s t)) (.agg #[.int .i64 4, .int .i64 (partsB s t).length, .string ⟨#[]⟩, .slice A (partsB s t).length c]) ∧ Below w.heap.size w w' := by
  have HS := Lib.hid (fun w hA => sA [(3, n0, s, A0, l0, c0), (3, n1, t, A1, l1, c1)] 0 n0 s A0 l0 c0 (by simp) rfl g cap w hA)
  have HT := Lib.hid (fun w hA => sA [(3, n0, s, A0, l0, c0), (3, n1, t, A1, l1, c1)] 1 n1 t A1 l1 c1 (by simp) rfl g cap w hA)
  have HZ0 := Lib.hid (Blk.new w 25 #[.int .i64 0, .int .i64 0, .string ⟨#[]⟩, .slice none 0 0])
  have HB0 := Lib.hid ((Below.refl w.heap.size w).alloc (Nat.le_refl _) (.cells #[.int .i64 0, .int .i64 0, .string ⟨#[]⟩, .slice none 0 0] 25))
  have HA0 := Lib.hid hA
  obtain ⟨hp1, hp2⟩ := parts_len s t hs
  have HSp : Hid (∀ wz, Below w.heap.size w wz → Calls Tryz.prog 90 #[.string t, .string s, .int .i64 (-1)] wz fun e w' => e = .returned (.slice (some ⟨wz.heap.size, 0, none⟩) (partsB s t).length (Lib.countB t s + 1)) ∧ w' = wz.alloc (.cells ((partsB s t).map Value.string).toArray 9)) := fun wz hb => splitN_neg t s m wz (by omega) (hL.below hb).max hs
  have HRw := Lib.hid (fun (g c : Nat) (wz : World) h1 h2 => row_any (partsB s t) g c wz h1 h2 (by omega))
  have hcmp : s.toList.isEmpty = false := by
    cases h : s.toList with
    | nil =>
      exfalso
      rw [ByteArray.toList_eq] at h
      have h3 : s.size = s.data.toList.length := by simp
      rw [h] at h3
      have h4 : s.size = 0 := h3
      omega
    | cons a b => rfl
  clear hA hL hp1 hp2
  generalize partsB s t = P at *
  generalize Lib.countB t s + 1 = N at *
  have HBr := HB0
  have HZr := HZ0
  clear HB0 HZ0
  go_enter Tryz.func45, Tryz.ntmps45
  go_upto_region 1 with fail
  generalize w.alloc (.cells #[.int .i64 0, .int .i64 0, .string ⟨#[]⟩, .slice none 0 0] 25) = w0 at *
  go_upto_region 4 with (go_at_call 16; refine (HS.out _ (HA0.out.below HBr.out (Nat.le_refl _))).mono ?_; rintro e w1 ⟨rfl, hb1⟩; have HBn := Lib.hid (HBr.out.trans (hb1.mono HBr.out.size)); have HZn := Lib.hid (HZr.out.keeps (Keeps.of_below (S := fun _ => False) hb1) id); clear HBr HZr hb1; have HBr := HBn; have HZr := HZn; clear HBn HZn)
  go_upto_region 6 with fail
  go_upto_region 7 with (first
    | (go_at_call 16; refine (HT.out _ (HA0.out.below HBr.out (Nat.le_refl _))).mono ?_; rintro e w2 ⟨rfl, hb2⟩; have HB2 := Lib.hid (HBr.out.trans (hb2.mono HBr.out.size)); have HZ2 := Lib.hid (HZr.out.keeps (Keeps.of_below (S := fun _ => False) hb2) id); clear hb2 HT)
    | (go_at_call 16; refine (HS.out _ (HA0.out.below HB2.out (Nat.le_refl _))).mono ?_; rintro e w3 ⟨rfl, hb3⟩; have HB3 := Lib.hid (HB2.out.trans (hb3.mono HB2.out.size)); have HZ3 := Lib.hid (HZ2.out.keeps (Keeps.of_below (S := fun _ => False) hb3) id); clear hb3)
    | (go_at_call 90; refine (HSp.out _ HB3.out).mono ?_; rintro e w4 ⟨rfl, rfl⟩))
  have HB4 := Lib.hid (HB3.out.alloc HB3.out.size (.cells (P.map Value.string).toArray 9))
  have HZ4 := Lib.hid (HZ3.out.alloc (.cells (P.map Value.string).toArray 9))
  have HG := Lib.hid (Blk.new w3 9 (P.map Value.string).toArray)
  have hlt3 := HZ3.out.lt
  have HRc : Hid (∀ (j : Nat) (x : ByteArray), P[j]? = some x → (w3.alloc (.cells (P.map Value.string).toArray 9)).cell? ⟨w3.heap.size, j, none⟩ = some (.string x)) := fun j x h => (HG.out.cell j).trans (by simp [h])
  generalize w3.alloc (.cells (P.map Value.string).toArray 9) = w4 at *
  have hlt4 := HG.out.lt
  generalize w3.heap.size = b3 at *
  clear HS HSp HA0 HBr HZr HB2 HZ2 HB3 HZ3
  go_wp2_with (go_at_call 91; refine (HRw.out b3 N w4 hlt4 HRc.out).mono ?_; rintro e w7 ⟨A', c', rfl, hv7, hb7⟩; have HW7 := Lib.hid hv7; have HB7 := Lib.hid (HB4.out.trans (hb7.mono HB4.out.size)); have HV7 := Lib.hid (HZ4.out.keeps (Keeps.of_below (S := fun _ => False) hb7) id); clear hv7 hb7; have z0 := HV7.out.frozen 0; have z1 := HV7.out.frozen 1; have z2 := HV7.out.frozen 2; have z3 := HV7.out.frozen 3; have v0 := HV7.out.cell 0; have v1 := HV7.out.cell 1; have v2 := HV7.out.cell 2; have v3 := HV7.out.cell 3)
  have HV8 := (((HV7.out.set_ 0 (.int .i64 4)).set_ 1 (.int .i64 P.length)).set_ 2 (.string ⟨#[]⟩)).set_ 3 (.slice A' P.length c')
  have HB8 := (((HB7.out.setCell (p := ⟨w.heap.size, 0, none⟩) (Nat.le_refl _) (.int .i64 4)).setCell (p := ⟨w.heap.size, 1, none⟩) (Nat.le_refl _) (.int .i64 P.length)).setCell (p := ⟨w.heap.size, 2, none⟩) (Nat.le_refl _) (.string ⟨#[]⟩)).setCell (p := ⟨w.heap.size, 3, none⟩) (Nat.le_refl _) (.slice A' P.length c')
  have HW8 : VIn ((((w7.setCell ⟨w.heap.size, 0, none⟩ (.int .i64 4)).setCell ⟨w.heap.size, 1, none⟩ (.int .i64 P.length)).setCell ⟨w.heap.size, 2, none⟩ (.string ⟨#[]⟩)).setCell ⟨w.heap.size, 3, none⟩ (.slice A' P.length c')) (fun b => w.heap.size ≤ b ∧ b < ((((w7.setCell ⟨w.heap.size, 0, none⟩ (.int .i64 4)).setCell ⟨w.heap.size, 1, none⟩ (.int .i64 P.length)).setCell ⟨w.heap.size, 2, none⟩ (.string ⟨#[]⟩)).setCell ⟨w.heap.size, 3, none⟩ (.slice A' P.length c')).heap.size) (rowG P) (.agg #[.int .i64 4, .int .i64 P.length, .string ⟨#[]⟩, .slice A' P.length c']) := HW7.out.keep (fun b h => ⟨by omega, by simp [World.setCell]; omega⟩) fun q hq => by
    have hne : ∀ o : Nat, (⟨w.heap.size, o, none⟩ : Addr) ≠ q := fun o e => by
      subst e
      have := hq.1
      simp at this
      omega
    rw [World.cell?_setCell_other _ _ _ _ (hne 3), World.cell?_setCell_other _ _ _ _ (hne 2), World.cell?_setCell_other _ _ _ _ (hne 1), World.cell?_setCell_other _ _ _ _ (hne 0)]
  generalize (((w7.setCell ⟨w.heap.size, 0, none⟩ (.int .i64 4)).setCell ⟨w.heap.size, 1, none⟩ (.int .i64 P.length)).setCell ⟨w.heap.size, 2, none⟩ (.string ⟨#[]⟩)).setCell ⟨w.heap.size, 3, none⟩ (.slice A' P.length c') = w8 at *
  have e0 : w8.cell? ⟨w.heap.size, 0, none⟩ = some (.int .i64 4) := HV8.cell 0
  have e1 : w8.cell? ⟨w.heap.size, 1, none⟩ = some (.int .i64 P.length) := HV8.cell 1
  have e2 : w8.cell? ⟨w.heap.size, 2, none⟩ = some (.string ⟨#[]⟩) := HV8.cell 2
  have e3 : w8.cell? ⟨w.heap.size, 3, none⟩ = some (.slice A' P.length c') := HV8.cell 3
  refine bodyPost_ret (v := .tuple #[.agg #[.int .i64 4, .int .i64 P.length, .string ⟨#[]⟩, .slice A' P.length c'], .int .i64 0]) (by simp [results, Tryz.results45, go_sem, e0, e1, e2, e3]) rfl ?_
  exact ⟨A', c', rfl, HW8, HB8⟩
end Sb
end Go.Proofs.YtgjnmfjiolpikaaGreatDoor
