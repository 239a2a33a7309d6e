/- ostlerref15.Number, ostlerref15.Row at numbers: the walks. -/
import Derived.Test.YtopmodahdmnpjaaGreatDoorZAsL
import Derived.Laws.AppendOwn
namespace Go.Proofs.YtopmodahdmnpjaaGreatDoor
open Go Go.RowKit
set_option maxRecDepth 100000
namespace As
open Dp
theorem number_any (n : Int) (w : World) : Calls Tryz.prog 6 #[.int .i64 n] w fun e w' => e = .returned (.agg #[.int .i64 2, .int .i64 n, .string ⟨#[]⟩, .slice none 0 0]) ∧ Below w.heap.size w w' := by
  have B := (Below.refl w.heap.size w).alloc (Nat.le_refl _) (.cells #[.int .i64 2, .int .i64 n, .string ⟨#[]⟩, .slice none 0 0] 24)
  have HN := Blk.new w 24 #[.int .i64 2, .int .i64 n, .string ⟨#[]⟩, .slice none 0 0]
  go_enter Tryz.func6, Tryz.ntmps6
  go_wp2_with fail
  generalize w.alloc (.cells #[.int .i64 2, .int .i64 n, .string ⟨#[]⟩, .slice none 0 0] 24) = w1 at *
  have e0 : w1.cell? ⟨w.heap.size, 0, none⟩ = _ := HN.cell 0
  have e1 : w1.cell? ⟨w.heap.size, 1, none⟩ = _ := HN.cell 1
  have e2 : w1.cell? ⟨w.heap.size, 2, none⟩ = _ := HN.cell 2
  have e3 : w1.cell? ⟨w.heap.size, 3, none⟩ = _ := HN.cell 3
  simp at e0 e1 e2 e3
  refine bodyPost_ret (v := .agg #[.int .i64 2, .int .i64 n, .string ⟨#[]⟩, .slice none 0 0]) (by simp [results, Tryz.results6, go_sem, e0, e1, e2, e3]) rfl ?_
  exact ⟨rfl, B⟩
theorem RowSt.setc {base : Nat} {w : World} {sv : Value} {ps : List PI} (h : RowSt base w sv ps) {p : Addr} (hp : p.block < base) (u : Value) : RowSt base (w.setCell p u) sv ps :=
  ⟨ownsRow_setCell_below h.owns hp u, fun q hq => (h.vals q hq).keep (fun b h => ⟨h.1, by simpa [World.setCell] using h.2.1, h.2.2⟩) fun a ha => World.cell?_setCell_other _ _ _ _ (fun e => by subst e; have := ha.1; omega)⟩
def piR (k : Nat) (x : Int) : PI := ⟨false, k, ⟨#[]⟩, 2, x, ⟨#[]⟩, [], none, 0⟩
theorem row_take (xs : List Int) (j : Nat) (x : Int) (h : xs[j]? = some x) : numI (xs.take (j + 1)) 0 = numI (xs.take j) 0 ++ [PI.it (piR j x)] := by
  have hj := (List.getElem?_eq_some_iff.1 h).1
  rw [List.take_add_one, h, Option.toList_some, numI_app, List.length_take, Nat.min_eq_left (by omega), Nat.zero_add]
  rfl
theorem leaf_vin (w : World) (S : Nat → Prop) (k : Nat) (x : Int) : VIn w S (piR k x).gv (piR k x).val := VIn.mk 2 x ⟨#[]⟩ [] none 0 0 0 (fun _ => .nilIface) (Nat.zero_le _) (Nat.zero_le _) (fun h => absurd h (Nat.lt_irrefl 0)) (fun i it h => by simp at h) (fun i it h => by simp at h)
theorem own_shape {w : World} {base : Nat} {e : TypeId} {sz n : Nat} {sv : Value} {xs : List Value} (h : w.ownsRow base e sz sv n xs) : ∃ A c, sv = .slice A n c := by
  rcases h.2 with ⟨rfl, rfl⟩ | ⟨g, cap, cur, rfl, _⟩
  · exact ⟨_, _, rfl⟩
  · exact ⟨_, _, rfl⟩
/-- How far row has come. -/
structure RwS (w wx : World) (xs : List Int) (A : Option Addr) (c : Nat) (qs : List PI) : Prop where
  its : qs.map PI.it = numI (xs.take qs.length) 0
  row : RowSt (w.heap.size + 2) wx (.slice A qs.length c) qs
  box : Blk wx (w.heap.size + 1) 24 #[.int .i64 4, .int .i64 xs.length, .string ⟨#[]⟩, .slice A qs.length c]
  res : Blk wx w.heap.size 24 #[.int .i64 0, .int .i64 0, .string ⟨#[]⟩, .slice none 0 0]
  low : Below w.heap.size w wx
theorem RwS.next {w wr w4 : World} {xs : List Int} {A A2 : Option Addr} {c c2 : Nat} {qs : List PI} {x : Int} {o : Obj} (h : RwS w wr xs A c qs) (hx : xs[qs.length]? = some x)
    (hown : w4.ownsRow (w.heap.size + 2) 34 7 (.slice A2 (qs.length + 1) c2) (qs.length + 1) (rowC qs ++ (piR qs.length x).cells)) (hg : (wr.alloc o).grownBy w4 (Value.slice A qs.length c).ownBlock) (hor : (Value.slice A2 (qs.length + 1) c2).ownBlock = (Value.slice A qs.length c).ownBlock ∨ (Value.slice A2 (qs.length + 1) c2).ownBlock = some (wr.alloc o).heap.size) :
    RwS w (w4.setCell ⟨w.heap.size + 1, 3, none⟩ (.slice A2 (qs.length + 1) c2)) xs A2 c2 (qs ++ [piR qs.length x]) := by
  have hlt := h.box.lt
  have hl : (qs ++ [piR qs.length x]).length = qs.length + 1 := by simp
  have hne : ∀ b, b < w.heap.size + 2 → some b ≠ (Value.slice A qs.length c).ownBlock := fun b hb e => by
    have := (h.row.owns.lt _ e.symm).1
    omega
  have hrow := RowSt.app (p := piR qs.length x) h.row (Below.refl _ _) (by omega) (leaf_vin wr _ qs.length x) hown hg hor
  refine ⟨?_, ?_, ?_, ?_, ?_⟩
  · rw [hl, row_take xs _ x hx, List.map_append, h.its]
    rfl
  · rw [hl]
    exact RowSt.setc hrow (p := ⟨w.heap.size + 1, 3, none⟩) (by show w.heap.size + 1 < _; omega) _
  · rw [hl]
    exact ((h.box.alloc o).grown hg (hne _ (by omega))).set_ 3 _
  · exact ((h.res.alloc o).grown hg (hne _ (by omega))).far (show w.heap.size ≠ w.heap.size + 1 by omega) _
  · exact ((h.low.alloc (by omega) o).grown hg (by simp; omega) (fun g e => by have := (h.row.owns.lt _ e).1; omega)).setCell (p := ⟨w.heap.size + 1, 3, none⟩) (by show w.heap.size ≤ w.heap.size + 1; omega) _
set_option maxHeartbeats 8000000 in
theorem row_any (xs : List Int) (A0 : Option Addr) (g c : Nat) (w : World) (hA0 : 0 < xs.length → A0 = some ⟨g, 0, none⟩ ∧ g < w.heap.size) (hR : ∀ (j : Nat) x, xs[j]? = some x → w.cell? ⟨g, j * 4, none⟩ = some (.int .i64 2) ∧ w.cell? ⟨g, j * 4 + 1, none⟩ = some (.int .i64 x) ∧ w.cell? ⟨g, j * 4 + 2, none⟩ = some (.string ⟨#[]⟩) ∧ w.cell? ⟨g, j * 4 + 3, none⟩ = some (.slice none 0 0)) (hl : xs.length ≤ 100000) :
    Calls Tryz.prog 10 #[.slice A0 xs.length c] w fun e w' => ∃ A' c', e = .returned (.agg #[.int .i64 4, .int .i64 xs.length, .string ⟨#[]⟩, .slice A' xs.length c']) ∧ VIn w' (fun b => w.heap.size ≤ b ∧ b < w'.heap.size) (numG xs) (.agg #[.int .i64 4, .int .i64 xs.length, .string ⟨#[]⟩, .slice A' xs.length c']) ∧ Below w.heap.size w w' := by
  have hal := fun (w1 : World) (o : Obj) => (Below.refl w1.heap.size w1).alloc (Nat.le_refl _) o
  have hs1 : (w.alloc (.cells #[.int .i64 0, .int .i64 0, .string ⟨#[]⟩, .slice none 0 0] 24)).heap.size = w.heap.size + 1 := by simp
  have hb := Blk.new (w.alloc (.cells #[.int .i64 0, .int .i64 0, .string ⟨#[]⟩, .slice none 0 0] 24)) 24 #[.int .i64 4, .int .i64 xs.length, .string ⟨#[]⟩, .slice none 0 0]
  rw [hs1] at hb
  have HS0 : Hid (RwS w ((w.alloc (.cells #[.int .i64 0, .int .i64 0, .string ⟨#[]⟩, .slice none 0 0] 24)).alloc (.cells #[.int .i64 4, .int .i64 xs.length, .string ⟨#[]⟩, .slice none 0 0] 24)) xs none 0 []) :=
    ⟨rfl, RowSt.nil _ _, hb, (Blk.new w _ _).alloc _, (hal w _).alloc (by simp) _⟩
  have HR := Lib.hid hR
  obtain ⟨i0, hi0, hz0, hz1, hz2⟩ := info_parts item_info
  have HU := Lib.hid (And.intro hi0 (And.intro hz0 (And.intro hz1 hz2)))
  clear hal hs1 hb hR hi0 hz0 hz1 hz2
  go_enter Tryz.func10, Tryz.ntmps10
  go_wp2_with fail
  go_loopw [4] (fun xi wx => ∃ (A1 : Option Addr) (c1 : Nat) (qs : List PI), qs.length ≤ xs.length ∧ xi = .int .i64 qs.length ∧ Hid (RwS w wx xs A1 c1 qs)) (fun xi _ => xs.length - (match xi with | .int _ q => q | _ => 0).toNat)
  case atStart => exact ⟨none, 0, [], Nat.zero_le _, rfl, HS0⟩
  case round =>
    obtain ⟨A1, c1, qs, hj, rfl, HS⟩ := hrel
    clear HS0
    have b3 : wr.cell? ⟨w.heap.size + 1, 3, none⟩ = some (.slice A1 qs.length c1) := HS.out.box.cell 3
    have hlow := HS.out.low.size
    have hbl := HS.out.box.lt
    by_cases hlt : qs.length < xs.length
    · obtain ⟨x, hx⟩ : ∃ x, xs[qs.length]? = some x := ⟨_, List.getElem?_eq_getElem hlt⟩
      obtain ⟨rfl, hg⟩ := hA0 (by omega)
      obtain ⟨r0, r1, r2, r3⟩ := HR.out _ x hx
      have k0 := (HS.out.low.cell (p := ⟨g, qs.length * 4, none⟩) hg).trans r0
      have k1 := (HS.out.low.cell (p := ⟨g, qs.length * 4 + 1, none⟩) hg).trans r1
      have k2 := (HS.out.low.cell (p := ⟨g, qs.length * 4 + 2, none⟩) hg).trans r2
      have k3 := (HS.out.low.cell (p := ⟨g, qs.length * 4 + 3, none⟩) hg).trans r3
      clear r0 r1 r2 r3
      have hjI : (qs.length : Int) < (xs.length : Int) := by omega
      have HX := Lib.hid hx
      have hrd : Reads (wr.alloc (.cells #[.bool false, .int .i64 qs.length, .string ⟨#[]⟩, .int .i64 2, .int .i64 x, .string ⟨#[]⟩, .slice none 0 0] 34)) (wr.alloc (.cells #[.bool false, .int .i64 qs.length, .string ⟨#[]⟩, .int .i64 2, .int .i64 x, .string ⟨#[]⟩, .slice none 0 0] 34)).heap.size 7 (some ⟨wr.heap.size, 0, none⟩) 1 (piR qs.length x).cells := reads_blk (p := piR qs.length x) (Blk.new wr _ _)
      have HRd := Lib.hid hrd
      clear hx hrd
      go_wp2_with fail
      go_region_law ((refine step_append_any _ rfl (.tmp 15) (.tmp 23) _ rfl (w.heap.size + 2) 34 i0 _ 7 88 Tryz.underlying22 HU.out.1 HU.out.2.1 HU.out.2.2.1 HU.out.2.2.2 rfl (by decide) (.slice A1 qs.length c1) qs.length (rowC qs) rfl ((HS.out.row.owns.alloc _).drew) _ (some ⟨wr.heap.size, 0, none⟩) 1 1 (piR qs.length x).cells rfl HRd.out (cells_one _) (by unfold maxLen; omega) (by omega) (by simp; omega) ?_; intro v4 w4 hown4 hg4 hor4; obtain ⟨A2, c2, rfl⟩ := own_shape hown4; have hg5 : (wr.alloc (.cells #[.bool false, .int .i64 qs.length, .string ⟨#[]⟩, .int .i64 2, .int .i64 x, .string ⟨#[]⟩, .slice none 0 0] 34)).grownBy w4 (Value.slice A1 qs.length c1).ownBlock := ⟨hg4.os, hg4.tape, hg4.output, hg4.size, hg4.block⟩; have HS4 := Lib.hid (RwS.next HS.out HX.out hown4 hg5 hor4); have hbx := (HS.out.box.alloc _).grown hg5 (fun e => by have := (HS.out.row.owns.lt _ e.symm).1; omega); have y3 := hbx.cell 3; have yf := hbx.frozen 3; clear hown4 hg4 hg5 hor4 hbx))
      all_goals
        go_wp2_with fail
        go_roundw
        case rel => exact ⟨A2, c2, qs ++ [piR qs.length x], by simp; omega, by simp, HS4⟩
        case measure => simp <;> omega
    · have hje : qs.length = xs.length := by omega
      have HW : Hid (VIn wr (fun b => w.heap.size + 2 ≤ b ∧ b < wr.heap.size) (numG xs) (.agg #[.int .i64 4, .int .i64 xs.length, .string ⟨#[]⟩, .slice A1 xs.length c1])) := by
        have h1 := HS.out.row.vin 4 xs.length ⟨#[]⟩
        rw [HS.out.its, hje, List.take_length] at h1
        exact h1
      have HBx := Lib.hid HS.out.box
      rw [hje] at b3 HBx
      have HRs := Lib.hid HS.out.res
      have HLo := Lib.hid HS.out.low
      have b0 := HBx.out.cell 0
      have b1 := HBx.out.cell 1
      have b2 := HBx.out.cell 2
      have z0 := HRs.out.frozen 0
      have z1 := HRs.out.frozen 1
      have z2 := HRs.out.frozen 2
      have z3 := HRs.out.frozen 3
      have v0 := HRs.out.cell 0
      have v1 := HRs.out.cell 1
      have v2 := HRs.out.cell 2
      have v3 := HRs.out.cell 3
      rw [hje]
      clear HS hj hlt
      go_wp2_with fail
      have HV8 := (((HRs.out.set_ 0 (.int .i64 4)).set_ 1 (.int .i64 xs.length)).set_ 2 (.string ⟨#[]⟩)).set_ 3 (.slice A1 xs.length c1)
      have HB8 := (((HLo.out.setCell (p := ⟨w.heap.size, 0, none⟩) (Nat.le_refl _) (.int .i64 4)).setCell (p := ⟨w.heap.size, 1, none⟩) (Nat.le_refl _) (.int .i64 xs.length)).setCell (p := ⟨w.heap.size, 2, none⟩) (Nat.le_refl _) (.string ⟨#[]⟩)).setCell (p := ⟨w.heap.size, 3, none⟩) (Nat.le_refl _) (.slice A1 xs.length c1)
      have HW8 : VIn ((((wr.setCell ⟨w.heap.size, 0, none⟩ (.int .i64 4)).setCell ⟨w.heap.size, 1, none⟩ (.int .i64 xs.length)).setCell ⟨w.heap.size, 2, none⟩ (.string ⟨#[]⟩)).setCell ⟨w.heap.size, 3, none⟩ (.slice A1 xs.length c1)) (fun b => w.heap.size ≤ b ∧ b < ((((wr.setCell ⟨w.heap.size, 0, none⟩ (.int .i64 4)).setCell ⟨w.heap.size, 1, none⟩ (.int .i64 xs.length)).setCell ⟨w.heap.size, 2, none⟩ (.string ⟨#[]⟩)).setCell ⟨w.heap.size, 3, none⟩ (.slice A1 xs.length c1)).heap.size) (numG xs) (.agg #[.int .i64 4, .int .i64 xs.length, .string ⟨#[]⟩, .slice A1 xs.length c1]) := HW.out.keep (fun b h => ⟨by omega, by simp [World.setCell]; omega⟩) fun q hq => by
        have hne : ∀ o : Nat, (⟨w.heap.size, o, none⟩ : Addr) ≠ q := fun o e => by
          subst e
          have := hq.1
          simp at this
          omega
        rw [World.cell?_setCell_other _ _ _ _ (hne 3), World.cell?_setCell_other _ _ _ _ (hne 2), World.cell?_setCell_other _ _ _ _ (hne 1), World.cell?_setCell_other _ _ _ _ (hne 0)]
      generalize (((wr.setCell ⟨w.heap.size, 0, none⟩ (.int .i64 4)).setCell ⟨w.heap.size, 1, none⟩ (.int .i64 xs.length)).setCell ⟨w.heap.size, 2, none⟩ (.string ⟨#[]⟩)).setCell ⟨w.heap.size, 3, none⟩ (.slice A1 xs.length c1) = w8 at *
      have e0 : w8.cell? ⟨w.heap.size, 0, none⟩ = some (.int .i64 4) := HV8.cell 0
      have e1 : w8.cell? ⟨w.heap.size, 1, none⟩ = some (.int .i64 xs.length) := HV8.cell 1
      have e2 : w8.cell? ⟨w.heap.size, 2, none⟩ = some (.string ⟨#[]⟩) := HV8.cell 2
      have e3 : w8.cell? ⟨w.heap.size, 3, none⟩ = some (.slice A1 xs.length c1) := HV8.cell 3
      refine bodyPost_ret (v := .agg #[.int .i64 4, .int .i64 xs.length, .string ⟨#[]⟩, .slice A1 xs.length c1]) (by simp [results, Tryz.results10, go_sem, e0, e1, e2, e3]) rfl ?_
      exact ⟨A1, c1, rfl, HW8, HB8⟩
end As
end Go.Proofs.YtopmodahdmnpjaaGreatDoor
