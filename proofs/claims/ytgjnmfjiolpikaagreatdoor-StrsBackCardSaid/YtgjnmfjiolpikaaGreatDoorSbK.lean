/- strs.implode of a list of texts: the walk. -/
import Derived.Test.YtgjnmfjiolpikaaGreatDoorSbH
import Derived.Test.YtgjnmfjiolpikaaGreatDoorSbJ
import Derived.Laws.AppendOwn
namespace Go.Proofs.YtgjnmfjiolpikaaGreatDoor
open Go Go.RowKit
set_option maxRecDepth 100000
namespace Sb
open Dp
theorem str_info : (Tryz.prog.info? 9).map (fun i => (i.zero, i.size, i.bytes)) = some (some (.string ⟨#[]⟩), 1, 16) := by kernel_rfl
/-- A row of texts of the call's own. -/
def OwnT (w : World) (base : Nat) (A : Option Addr) (c : Nat) (R : List ByteArray) (n : Nat) : Prop := w.ownsRow base 9 1 (.slice A n c) n (R.map .string)
theorem OwnT.below {w w' : World} {base : Nat} {A : Option Addr} {c n : Nat} {R : List ByteArray} (h : OwnT w base A c R n) (hb : Below w.heap.size w w') : OwnT w' base A c R n := by
  unfold OwnT at h ⊢
  exact h.kept (row := none) ⟨hb.os, hb.tape, hb.output, hb.size, fun i hi _ => hb.block i hi⟩ (by cases (Value.slice A n c).ownBlock <;> simp)
theorem OwnT.at_ {w : World} {base : Nat} {A : Option Addr} {c n : Nat} {R : List ByteArray} (h : OwnT w base A c R n) {j : Nat} {x : ByteArray} (hx : R[j]? = some x) (hn : R.length = n) : ∃ g, A = some ⟨g, 0, none⟩ ∧ w.cell? ⟨g, j, none⟩ = some (.string x) ∧ n ≤ c ∧ g < w.heap.size := by
  have hj := (List.getElem?_eq_some_iff.1 hx).1
  rcases h.2 with ⟨e, h0⟩ | ⟨g, cap, cur, e, _, hg, hcap, _, _, htake⟩
  · omega
  · injection e with e1 _ e3
    subst e1 e3
    refine ⟨g, rfl, ?_, hcap, (Array.getElem?_eq_some_iff.1 hg).1⟩
    have hc := World.ownsRow.cells h (g := g) rfl j (.string x) (by rw [List.getElem?_map, hx]; rfl)
    have ea : (⟨g, 0, none⟩ : Addr).add j = ⟨g, j, none⟩ := by
      unfold Addr.add
      by_cases hj : j = 0
      · subst hj; rfl
      · simp [hj]
    rw [← ea]
    exact hc
theorem join_callT {w : World} {base : Nat} {A : Option Addr} {c : Nat} {R : List ByteArray} {sep : ByteArray} (h : OwnT w base A c R R.length) (h0 : R ≠ []) (hn : R.length ≤ 100000) (hl : (joinB R sep).length ≤ 140737488355328) :
    Calls Tryz.prog 92 #[.slice A R.length c, .string sep] w fun e w' => e = .returned (.string ⟨(joinB R sep).toArray⟩) ∧ Below w.heap.size w w' := by
  obtain ⟨x, r, rfl⟩ := List.exists_cons_of_ne_nil h0
  obtain ⟨g, rfl, _, hcap, hlt⟩ := h.at_ (j := 0) rfl rfl
  refine Tryz.strings_Join g 0 c (x :: r) sep w (fun j y hy => ?_) hlt (by omega) hcap hl
  obtain ⟨g', e, hc, _⟩ := h.at_ hy rfl
  injection e with e
  injection e with e
  subst e
  rw [Nat.zero_add]
  exact hc
/-- How long the first j texts and what stands between them are. -/
def sizeJ (xs : List ByteArray) (sep : ByteArray) (j : Nat) : Nat := sumS (xs.take j) + (j - 1) * sep.size
theorem sum_take (xs : List ByteArray) (j : Nat) (x : ByteArray) (h : xs[j]? = some x) : sumS (xs.take (j + 1)) = sumS (xs.take j) + x.size := by
  rw [List.take_add_one, h]
  simp [sumS]
theorem sum_take_le : ∀ (xs : List ByteArray) (j : Nat), sumS (xs.take j) ≤ sumS xs
  | [], j => by simp [sumS]
  | x :: xs, 0 => by simp [sumS]
  | x :: xs, j + 1 => by
    have := sum_take_le xs j
    simp [sumS] at this ⊢
    omega
theorem sizeJ_le (xs : List ByteArray) (sep : ByteArray) (j : Nat) (h : j ≤ xs.length) : sizeJ xs sep j ≤ (joinB xs sep).length := by
  rw [← join_len]
  unfold sizeJ
  have h1 := sum_take_le xs j
  have h2 : (j - 1) * sep.size ≤ (xs.length - 1) * sep.size := Nat.mul_le_mul_right _ (by omega)
  omega
theorem sizeJ_succ (xs : List ByteArray) (sep : ByteArray) (j : Nat) (x : ByteArray) (h : xs[j]? = some x) : sizeJ xs sep (j + 1) = sizeJ xs sep j + x.size + if j = 0 then 0 else sep.size := by
  unfold sizeJ
  rw [sum_take xs j x h]
  by_cases h0 : j = 0
  · subst h0
    simp
  · rw [if_neg h0]
    have e : (j + 1 - 1) * sep.size = (j - 1) * sep.size + sep.size := by
      rw [show j + 1 - 1 = (j - 1) + 1 by omega, Nat.add_mul, Nat.one_mul]
    omega
theorem reads_str (w : World) (x : ByteArray) : Reads (w.alloc (.cells #[.string x] 9)) (w.alloc (.cells #[.string x] 9)).heap.size 1 (some ⟨w.heap.size, 0, none⟩) 1 [.string x] :=
  ⟨rfl, fun _ => ⟨_, rfl, by simp, fun j u hu => by
    have hj : j = 0 := by
      have := (List.getElem?_eq_some_iff.1 hu).1
      simp at this
      exact this
    subst hj
    exact ((Blk.new w 9 #[.string x]).cell 0).trans hu⟩⟩
theorem item_cells {w : World} {B b off j : Nat} {C : Nat → Value} {xs : List ByteArray} {x : ByteArray} (hi : ∀ i it, (rowI xs 0)[i]? = some it → ItemAt w b (off + i * 7) it (C i)) (hv : ∀ i it, (rowI xs 0)[i]? = some it → VAt w B it.val (C i)) (hx : xs[j]? = some x) :
    ∃ A c, w.cell? ⟨b, off + j * 7, none⟩ = some (.bool false) ∧ w.cell? ⟨b, off + j * 7 + 1, none⟩ = some (.int .i64 j) ∧ w.cell? ⟨b, off + j * 7 + 2, none⟩ = some (.string ⟨#[]⟩) ∧ w.cell? ⟨b, off + j * 7 + 3, none⟩ = some (.int .i64 3) ∧ w.cell? ⟨b, off + j * 7 + 4, none⟩ = some (.int .i64 0) ∧ w.cell? ⟨b, off + j * 7 + 5, none⟩ = some (.string x) ∧ w.cell? ⟨b, off + j * 7 + 6, none⟩ = some (.slice A 0 c) := by
  obtain ⟨h0, h1, h2, v0, v1, v2, v3, e, h3, h4, h5, h6⟩ := hi j _ (rowI_get xs 0 j x hx)
  have hv' := hv j _ (rowI_get xs 0 j x hx)
  rw [e] at hv'
  obtain ⟨rfl, rfl, rfl, A', c', rfl⟩ := vat_form2 hv'
  refine ⟨A', c', h0, ?_, h2, h3, h4, h5, h6⟩
  rw [h1]
  show some (Value.int .i64 ((0 + j : Nat) : Int)) = _
  rw [Nat.zero_add]
set_option maxHeartbeats 8000000 in
theorem implode_do (sep : ByteArray) (xs : List ByteArray) (hx0 : xs ≠ []) (hxl : xs.length ≤ 100000) (hj : (joinB xs sep).length ≤ 65536) (n0 : Int) (A0 : Option Addr) (l0 c0 : Nat) (xn : Int) (xt : ByteArray) (Ax : Option Addr) (xc g cap : Nat) (w : World)
    (hA : ArgsA w g [(3, n0, sep, A0, l0, c0), (4, xn, xt, Ax, xs.length, xc)]) (hX : VAt w w.heap.size (.mk 4 xn xt (rowI xs 0)) (.agg #[.int .i64 4, .int .i64 xn, .string xt, .slice Ax xs.length xc])) :
    Calls Tryz.prog 46 #[.slice (some ⟨g, 0, none⟩) 2 cap] w fun e w' => e = .returned (.tuple #[.agg #[.int .i64 3, .int .i64 0, .string ⟨(joinB xs sep).toArray⟩, .slice none 0 0], .int .i64 0]) ∧ Below w.heap.size w w' := by
  have HS := Lib.hid (fun w hA => sA [(3, n0, sep, A0, l0, c0), (4, xn, xt, Ax, xs.length, xc)] 0 n0 sep A0 l0 c0 (by simp) rfl g cap w hA)
  have HZ0 := Lib.hid (Blk.new w 25 #[.int .i64 0, .int .i64 0, .string ⟨#[]⟩, .slice none 0 0])
  have HB0 := Lib.hid ((Below.refl w.heap.size w).alloc (Nat.le_refl _) (.cells #[.int .i64 0, .int .i64 0, .string ⟨#[]⟩, .slice none 0 0] 25))
  have HA := Lib.hid hA
  obtain ⟨i0, hi0, hz0, hz1, hz2⟩ := info_parts str_info
  have HU := Lib.hid (And.intro hi0 (And.intro hz0 (And.intro hz1 hz2)))
  have HT := Lib.hid (fun wz => text_any ⟨(joinB xs sep).toArray⟩ wz)
  have a7 : (w.alloc (.cells #[.int .i64 0, .int .i64 0, .string ⟨#[]⟩, .slice none 0 0] 25)).cell? ⟨g, 1 * 4 + 3, none⟩ = some (.slice Ax xs.length xc) := ((hA.below HB0.out (Nat.le_refl _)).2 1 (by simp)).2.2.2
  have hO0 : OwnT (w.alloc (.cells #[.int .i64 0, .int .i64 0, .string ⟨#[]⟩, .slice none 0 0] 25)) (w.heap.size + 1) none 0 [] 0 := World.ownsRow_nil _ _ _ _
  have HO0 := Lib.hid hO0
  have hlen := rowI_len xs 0
  generalize hxv : (.agg #[.int .i64 4, .int .i64 xn, .string xt, .slice Ax xs.length xc] : Value) = xv at hX
  cases hX with
  | mk _ _ _ _ A c b off C hcx hnx hAx hix hvx =>
  injection hxv with hxv
  simp only [hlen] at hxv
  obtain ⟨rfl, rfl⟩ : Ax = A ∧ xc = c := by simpa using hxv
  have hpos : 0 < xs.length := List.length_pos_iff.2 hx0
  obtain ⟨rfl, hbB⟩ := hAx (by rw [hlen]; exact hpos)
  have HIt : Hid (∀ (j : Nat) (x : ByteArray), xs[j]? = some x → ∃ A c, w.cell? ⟨b, off + j * 7, none⟩ = some (.bool false) ∧ w.cell? ⟨b, off + j * 7 + 1, none⟩ = some (.int .i64 j) ∧ w.cell? ⟨b, off + j * 7 + 2, none⟩ = some (.string ⟨#[]⟩) ∧ w.cell? ⟨b, off + j * 7 + 3, none⟩ = some (.int .i64 3) ∧ w.cell? ⟨b, off + j * 7 + 4, none⟩ = some (.int .i64 0) ∧ w.cell? ⟨b, off + j * 7 + 5, none⟩ = some (.string x) ∧ w.cell? ⟨b, off + j * 7 + 6, none⟩ = some (.slice A 0 c)) := fun j x hx => item_cells hix hvx hx
  have HJn := Lib.hid (fun (wz : World) (base : Nat) (A : Option Addr) (c : Nat) (h : OwnT wz base A c xs xs.length) => join_callT (sep := sep) h hx0 hxl (by omega))
  have HSJ := Lib.hid (fun (j : Nat) (x : ByteArray) (h : xs[j]? = some x) => sizeJ_succ xs sep j x h)
  have HSL := Lib.hid (fun (j : Nat) (h : j ≤ xs.length) => Nat.le_trans (sizeJ_le xs sep j h) hj)
  have hs0 : sizeJ xs sep 0 = 0 := by simp [sizeJ, sumS]
  have HS0 := Lib.hid hs0
  have HX0 := Lib.hid hx0
  clear hA hi0 hz0 hz1 hz2 hO0 hAx hix hvx hlen hs0 hx0 hj hcx hnx
  go_enter Tryz.func46, Tryz.ntmps46
  go_wp2_with fail
  have HB00 := HB0
  go_loopw [4, 17] (fun x4 x17 wx => ∃ (A1 : Option Addr) (c1 j : Nat), j ≤ xs.length ∧ x4 = .slice A1 j c1 ∧ x17 = .int .i64 (j : Int) ∧ Hid (OwnT wx (w.heap.size + 1) A1 c1 (xs.take j) j) ∧ Hid (Blk wx w.heap.size 25 #[.int .i64 0, .int .i64 0, .string ⟨#[]⟩, .slice none 0 0]) ∧ Hid (Below w.heap.size w wx)) (fun _ x17 _ => xs.length - (match x17 with | .int _ q => q | _ => 0).toNat)
  case atStart => exact ⟨none, 0, 0, Nat.zero_le _, rfl, rfl, HO0, HZ0, HB0⟩
  case round =>
    obtain ⟨A1, c1, j, hj, rfl, rfl, HO, HZ, HB⟩ := hrel
    clear HO0 HZ0 HB0 HB00 a7
    by_cases hlt : j < xs.length
    · obtain ⟨x, hx⟩ : ∃ x, xs[j]? = some x := ⟨_, List.getElem?_eq_getElem hlt⟩
      have hjI : (j : Int) < (xs.length : Int) := by omega
      obtain ⟨A', c', m0, m1, m2, m3, m4, m5, m6⟩ := HIt.out j x hx
      have n0 := (HB.out.cell (p := ⟨b, off + j * 7, none⟩) hbB).trans m0
      have n1 := (HB.out.cell (p := ⟨b, off + j * 7 + 1, none⟩) hbB).trans m1
      have n2 := (HB.out.cell (p := ⟨b, off + j * 7 + 2, none⟩) hbB).trans m2
      have n3 := (HB.out.cell (p := ⟨b, off + j * 7 + 3, none⟩) hbB).trans m3
      have n4 := (HB.out.cell (p := ⟨b, off + j * 7 + 4, none⟩) hbB).trans m4
      have n5 := (HB.out.cell (p := ⟨b, off + j * 7 + 5, none⟩) hbB).trans m5
      have n6 := (HB.out.cell (p := ⟨b, off + j * 7 + 6, none⟩) hbB).trans m6
      have hbl := HZ.out.lt
      have HC := Lib.hid (fun wz => conv_textA 0 x A' 0 c' wz)
      have hbc : Hid ((xs.take (j + 1)).map Value.string = (xs.take j).map Value.string ++ [Value.string x]) := by
        show _ = _
        rw [List.take_add_one, hx, List.map_append]
        rfl
      have HN := Lib.hid (Blk.new wr 46 #[.bool false, .int .i64 0, .string ⟨#[]⟩, .int .i64 0, .int .i64 0, .string ⟨#[]⟩, .slice none 0 0])
      have z0 := HN.out.frozen 0
      have z1 := HN.out.frozen 1
      have z2 := HN.out.frozen 2
      have z3 := HN.out.frozen 3
      have z4 := HN.out.frozen 4
      have z5 := HN.out.frozen 5
      have z6 := HN.out.frozen 6
      clear m0 m1 m2 m3 m4 m5 m6 hx
      go_upto_region 6 with fail
      clear HN z0 z1 z2 z3 z4 z5 z6 n0 n1 n2 n3 n4 n5 n6
      have HN2 := Lib.hid (Blk.new wr 46 #[.bool false, .int .i64 j, .string ⟨#[]⟩, .int .i64 3, .int .i64 0, .string x, .slice A' 0 c'])
      have HZ2 := Lib.hid (HZ.out.alloc (.cells #[.bool false, .int .i64 j, .string ⟨#[]⟩, .int .i64 3, .int .i64 0, .string x, .slice A' 0 c'] 46))
      have HB2 := Lib.hid (HB.out.alloc HB.out.size (.cells #[.bool false, .int .i64 j, .string ⟨#[]⟩, .int .i64 3, .int .i64 0, .string x, .slice A' 0 c'] 46))
      have HO2 : Hid ((wr.alloc (.cells #[.bool false, .int .i64 j, .string ⟨#[]⟩, .int .i64 3, .int .i64 0, .string x, .slice A' 0 c'] 46)).ownsRow (w.heap.size + 1) 9 1 (.slice A1 j c1) j ((xs.take j).map .string)) := World.ownsRow.alloc HO.out _
      generalize wr.alloc (.cells #[.bool false, .int .i64 j, .string ⟨#[]⟩, .int .i64 3, .int .i64 0, .string x, .slice A' 0 c'] 46) = w3 at *
      have b3 : w3.cell? ⟨wr.heap.size, 3, none⟩ = some (.int .i64 3) := HN2.out.cell 3
      have b4 : w3.cell? ⟨wr.heap.size, 4, none⟩ = some (.int .i64 0) := HN2.out.cell 4
      have b5 : w3.cell? ⟨wr.heap.size, 5, none⟩ = some (.string x) := HN2.out.cell 5
      have b6 : w3.cell? ⟨wr.heap.size, 6, none⟩ = some (.slice A' 0 c') := HN2.out.cell 6
      clear HO HZ HB
      go_wp2_with (first
        | (go_at_call 76; refine (HC.out _).mono ?_; rintro e w4 ⟨rfl, hb4⟩; have HB4 := Lib.hid (HB2.out.trans (hb4.mono HB2.out.size)); have HZ4 := Lib.hid (HZ2.out.keeps (Keeps.of_below (S := fun _ => False) hb4) id); have HO4 := Lib.hid (own_kept HO2.out hb4); have hbl4 := HZ4.out.lt; clear hb4)
        | (at_builtin; refine wpList_append_any _ rfl (.tmp 33) (.tmp 35) 78 rfl (w.heap.size + 1) 9 i0 (.string ⟨#[]⟩) 1 16 Tryz.underlying78 HU.out.1 HU.out.2.1 HU.out.2.2.1 HU.out.2.2.2 rfl (by decide) (.slice A1 j c1) j ((xs.take j).map .string) rfl (HO4.out.alloc _) _ (some ⟨w4.heap.size, 0, none⟩) 1 1 [.string x] rfl (reads_str w4 x) (fun u hu => by simp at hu; subst hu; rfl) (by unfold maxLen; omega) (by omega) (by simp; omega) ?_; intro v5 w5 hown5 hg5 hor5; obtain ⟨A2, c2, rfl⟩ := own_sh hown5; have HO5 : Hid (OwnT w5 (w.heap.size + 1) A2 c2 (xs.take (j + 1)) (j + 1)) := (by show World.ownsRow _ _ _ _ _ _ _; rw [hbc.out]; exact hown5); have HZ5 := Lib.hid ((HZ4.out.alloc (.cells #[.string x] 9)).grown hg5 (fun e => by have := (HO4.out.lt _ e.symm).1; omega)); have HB5 := Lib.hid ((HB4.out.alloc HB4.out.size (.cells #[.string x] 9)).grown hg5 (by simp; omega) (fun g e => by have := (HO4.out.lt _ e).1; omega)); clear hown5 hg5 hor5))
      go_roundw
      case rel => exact ⟨A2, c2, j + 1, by omega, rfl, by go_num, HO5, HZ5, HB5⟩
      case measure => simp <;> omega
    · obtain rfl : j = xs.length := by omega
      have hI : ¬ ((xs.length : Int) < (xs.length : Int)) := by omega
      have HO1 : Hid (OwnT wr (w.heap.size + 1) A1 c1 xs xs.length) := by
        have := HO.out
        rw [List.take_length] at this
        exact this
      obtain ⟨gR, rfl, -⟩ := HO1.out.at_ (j := 0) (List.getElem?_eq_getElem hpos) rfl
      clear HO HIt
      go_wp2_with fail
      have HS00 : Hid (sizeJ xs sep 0 = 0) := HS0
      go_loopw [5, 40] (fun x5 x40 wx => ∃ (j : Nat), j ≤ xs.length ∧ x5 = .int .i64 (sizeJ xs sep j : Int) ∧ x40 = .int .i64 (j : Int) ∧ Hid (OwnT wx (w.heap.size + 1) (some ⟨gR, 0, none⟩) c1 xs xs.length) ∧ Hid (Blk wx w.heap.size 25 #[.int .i64 0, .int .i64 0, .string ⟨#[]⟩, .slice none 0 0]) ∧ Hid (Below w.heap.size w wx)) (fun _ x40 _ => xs.length - (match x40 with | .int _ q => q | _ => 0).toNat)
      case atStart => exact ⟨0, Nat.zero_le _, by rw [HS00.out]; rfl, rfl, HO1, HZ, HB⟩
      case round =>
        rename World => wq
        obtain ⟨j, hj2, rfl, rfl, HOx, HZx, HBx⟩ := hrel
        clear HO1 HZ HB
        by_cases hlt : j < xs.length
        · obtain ⟨x, hx⟩ : ∃ x, xs[j]? = some x := ⟨_, List.getElem?_eq_getElem hlt⟩
          have hjI : (j : Int) < (xs.length : Int) := by omega
          have hxc : wq.cell? ⟨gR, j, none⟩ = some (.string x) := by
            obtain ⟨g', e, hc, _⟩ := HOx.out.at_ hx rfl
            injection e with e
            injection e with e
            subst e
            exact hc
          have hsu := HSJ.out j x hx
          have hsl := HSL.out (j + 1) (by omega)
          by_cases h0 : j = 0
          · rw [if_pos h0] at hsu
            have hI0 : ¬ ((0 : Int) < (j : Int)) := by omega
            have hw1 : IntKind.i64.wrap ((sizeJ xs sep j : Int) + (x.size : Int)) = (sizeJ xs sep j : Int) + (x.size : Int) := IntWalk.i64_in _ (by omega)
            have hI2 : ¬ ((65536 : Int) < (sizeJ xs sep j : Int) + (x.size : Int)) := by omega
            have HSU := Lib.hid hsu
            clear hsu hsl h0 hx
            generalize hsj : sizeJ xs sep j = sj at *
            clear hsj
            go_wp2_with fail
            go_roundw
            case rel => exact ⟨j + 1, by omega, by rw [HSU.out]; go_num, by go_num, HOx, HZx, HBx⟩
            case measure => simp <;> omega
          · rw [if_neg h0] at hsu
            have hI0 : (0 : Int) < (j : Int) := by omega
            have hw1 : IntKind.i64.wrap ((sizeJ xs sep j : Int) + (x.size : Int)) = (sizeJ xs sep j : Int) + (x.size : Int) := IntWalk.i64_in _ (by omega)
            have hw2 : IntKind.i64.wrap ((sizeJ xs sep j : Int) + (x.size : Int) + (sep.size : Int)) = (sizeJ xs sep j : Int) + (x.size : Int) + (sep.size : Int) := IntWalk.i64_in _ (by omega)
            have hI2 : ¬ ((65536 : Int) < (sizeJ xs sep j : Int) + (x.size : Int) + (sep.size : Int)) := by omega
            have HSU := Lib.hid hsu
            clear hsu hsl h0 hx
            generalize hsj : sizeJ xs sep j = sj at *
            clear hsj
            go_wp2_with (go_at_call 16; refine (HS.out _ (HA.out.below HBx.out (Nat.le_refl _))).mono ?_; rintro e w6 ⟨rfl, hb6⟩; have HB6 := Lib.hid (HBx.out.trans (hb6.mono HBx.out.size)); have HZ6 := Lib.hid (HZx.out.keeps (Keeps.of_below (S := fun _ => False) hb6) id); have HO6 := Lib.hid (HOx.out.below hb6); clear hb6)
            go_roundw
            case rel => exact ⟨j + 1, by omega, by rw [HSU.out]; go_num, by go_num, HO6, HZ6, HB6⟩
            case measure => simp <;> omega
        · have hI2 : ¬ ((j : Int) < (xs.length : Int)) := by omega
          go_wp2_with (first
            | (go_at_call 16; refine (HS.out _ (HA.out.below HBx.out (Nat.le_refl _))).mono ?_; rintro e w6 ⟨rfl, hb6⟩; have HB6 := Lib.hid (HBx.out.trans (hb6.mono HBx.out.size)); have HZ6 := Lib.hid (HZx.out.keeps (Keeps.of_below (S := fun _ => False) hb6) id); have HO6 := Lib.hid (HOx.out.below hb6); clear hb6)
            | (go_at_call 92; refine (HJn.out _ _ _ _ HO6.out).mono ?_; rintro e w7 ⟨rfl, hb7⟩; have HB7 := Lib.hid (HB6.out.trans (hb7.mono HB6.out.size)); have HZ7 := Lib.hid (HZ6.out.keeps (Keeps.of_below (S := fun _ => False) hb7) id); clear hb7)
            | (go_at_call 52; refine (HT.out _).mono ?_; rintro e w8 ⟨rfl, hb8⟩; have HB8 := Lib.hid (HB7.out.trans (hb8.mono HB7.out.size)); have HV8 := Lib.hid (HZ7.out.keeps (Keeps.of_below (S := fun _ => False) hb8) id); clear hb8; have z0 := HV8.out.frozen 0; have z1 := HV8.out.frozen 1; have z2 := HV8.out.frozen 2; have z3 := HV8.out.frozen 3; have v0 := HV8.out.cell 0; have v1 := HV8.out.cell 1; have v2 := HV8.out.cell 2; have v3 := HV8.out.cell 3))
          generalize (⟨(joinB xs sep).toArray⟩ : ByteArray) = J at *
          have HV9 := (((HV8.out.set_ 0 (.int .i64 3)).set_ 1 (.int .i64 0)).set_ 2 (.string J)).set_ 3 (.slice none 0 0)
          have HB9 := (((HB8.out.setCell (p := ⟨w.heap.size, 0, none⟩) (Nat.le_refl _) (.int .i64 3)).setCell (p := ⟨w.heap.size, 1, none⟩) (Nat.le_refl _) (.int .i64 0)).setCell (p := ⟨w.heap.size, 2, none⟩) (Nat.le_refl _) (.string J)).setCell (p := ⟨w.heap.size, 3, none⟩) (Nat.le_refl _) (.slice none 0 0)
          generalize (((w8.setCell ⟨w.heap.size, 0, none⟩ (.int .i64 3)).setCell ⟨w.heap.size, 1, none⟩ (.int .i64 0)).setCell ⟨w.heap.size, 2, none⟩ (.string J)).setCell ⟨w.heap.size, 3, none⟩ (.slice none 0 0) = w9 at *
          have e0 : w9.cell? ⟨w.heap.size, 0, none⟩ = some (.int .i64 3) := HV9.cell 0
          have e1 : w9.cell? ⟨w.heap.size, 1, none⟩ = some (.int .i64 0) := HV9.cell 1
          have e2 : w9.cell? ⟨w.heap.size, 2, none⟩ = some (.string J) := HV9.cell 2
          have e3 : w9.cell? ⟨w.heap.size, 3, none⟩ = some (.slice none 0 0) := HV9.cell 3
          refine bodyPost_ret (v := .tuple #[.agg #[.int .i64 3, .int .i64 0, .string J, .slice none 0 0], .int .i64 0]) (by simp [results, Tryz.results46, go_sem, e0, e1, e2, e3]) rfl ?_
          exact ⟨rfl, HB9⟩
end Sb
end Go.Proofs.YtgjnmfjiolpikaaGreatDoor
