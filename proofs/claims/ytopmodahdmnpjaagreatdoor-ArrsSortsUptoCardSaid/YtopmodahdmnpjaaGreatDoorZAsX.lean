/- ArrsSorts: the law's walk: the row of values. -/
import Derived.Test.YtopmodahdmnpjaaGreatDoorZAsR
import Derived.Test.YtopmodahdmnpjaaGreatDoorZDpCrQ
namespace Go.Proofs.YtopmodahdmnpjaaGreatDoor
open Go Go.RowKit Go.Lib
namespace As
open Dp
set_option maxRecDepth 100000
def valI (x : Int) : List Value := [.int .i64 2, .int .i64 x, .string ⟨#[]⟩, .slice none 0 0]
def valC (xs : List Int) : List Value := xs.flatMap valI
theorem valC_app (xs : List Int) (x : Int) : valC (xs ++ [x]) = valC xs ++ valI x := by simp [valC]
theorem val_info : (Tryz.prog.info? 24).map (fun i => (i.zero, i.size, i.bytes)) = some (some (.agg #[.int .i64 0, .int .i64 0, .string ⟨#[]⟩, .slice none 0 0]), 4, 56) := by kernel_rfl
theorem valI_one (x : Int) : ∀ u ∈ valI x, u.oneCell' = true := by
  intro u hu
  simp only [valI, List.mem_cons, List.not_mem_nil, or_false] at hu
  rcases hu with rfl | rfl | rfl | rfl <;> rfl
theorem valC_len : ∀ xs : List Int, (valC xs).length = xs.length * 4
  | [] => rfl
  | x :: r => by
    show (valI x ++ valC r).length = _
    rw [List.length_append, valC_len r, List.length_cons]
    show 4 + _ = _
    omega
theorem valC_get : ∀ (xs : List Int) (i : Nat) (x : Int), xs[i]? = some x → ∀ r, r < 4 → (valC xs)[i * 4 + r]? = (valI x)[r]?
  | [], i, x, h, _, _ => by simp at h
  | y :: l, 0, x, h, r, hr => by
    simp at h
    subst h
    show (valI y ++ valC l)[0 * 4 + r]? = _
    rw [List.getElem?_append_left (by show 0 * 4 + r < 4; omega), Nat.zero_mul, Nat.zero_add]
  | y :: l, i + 1, x, h, r, hr => by
    show (valI y ++ valC l)[(i + 1) * 4 + r]? = _
    have hv : (valI y).length = 4 := rfl
    rw [List.getElem?_append_right (by omega), hv, show (i + 1) * 4 + r - 4 = i * 4 + r by omega]
    exact valC_get l i x (by simpa using h) r hr
theorem val_row {w : World} {base g c n j : Nat} {t : TypeId} {ns : List Int} {x : Int} (ho : w.ownsRow base t 4 (.slice (some ⟨g, 0, none⟩) n c) n (valC ns)) (hn : ns.length = n) (hx : ns[j]? = some x) (r : Nat) (hr : r < 4) : w.cell? ⟨g, j * 4 + r, none⟩ = (valI x)[r]? := by
  obtain ⟨cur, _, hg, _, _, hs, ht⟩ := own_row ho
  have hb := (List.getElem?_eq_some_iff.1 hx).1
  have h := valC_get ns j x hx r hr
  rw [← ht, List.getElem?_take, if_pos (by omega)] at h
  rw [cell_of_row w g _ cur t (0, 0) hg, ← h]
  simp
theorem call_sort2 (ns : List Int) (hns : ns.length ≤ 2000) (h64 : ∀ x ∈ ns, In64 x) (w : World) (hLS : ∀ wz, Below w.heap.size w wz → LibS wz) (A1 : Option Addr) (c1 : Nat) (g cap : Nat)
    (hX : VAt w w.heap.size (numG ns) (.agg #[.int .i64 4, .int .i64 ns.length, .string ⟨#[]⟩, .slice A1 ns.length c1]))
    (hA : ArgsA w g [(4, ns.length, ⟨#[]⟩, A1, ns.length, c1)]) :
    Calls Tryz.prog 5 #[.string ⟨#[115, 111, 114, 116]⟩, .slice (some ⟨g, 0, none⟩) 1 cap] w fun e w' => Below w.heap.size w w' ∧ ∃ A c vs, SortOf false ns vs ∧ e = .returned (.tuple #[.agg #[.int .i64 4, .int .i64 ns.length, .string ⟨#[]⟩, .slice A ns.length c], .int .i64 0]) ∧ VIn w' (fun b => w.heap.size ≤ b ∧ b < w'.heap.size) (numG vs) (.agg #[.int .i64 4, .int .i64 ns.length, .string ⟨#[]⟩, .slice A ns.length c]) := by
  have hn : (numI ns 0).length = ns.length := numI_len ns 0
  refine Calls.mono (call_sort ns hns h64 0 w trivial hLS A1 c1 g cap (by rw [hn]; exact hX) (by rw [hn]; exact hA)) ?_
  rintro e w' ⟨hb, A, c, vs, hs, rfl, hv⟩
  rw [numI_len, hs.length] at hv
  refine ⟨hb, A, c, vs, hs, ?_, hv⟩
  rw [numI_len, hs.length]
theorem call_rsort2 (ns : List Int) (hns : ns.length ≤ 2000) (h64 : ∀ x ∈ ns, In64 x) (w : World) (hLS : ∀ wz, Below w.heap.size w wz → LibS wz) (A1 : Option Addr) (c1 : Nat) (g cap : Nat)
    (hX : VAt w w.heap.size (numG ns) (.agg #[.int .i64 4, .int .i64 ns.length, .string ⟨#[]⟩, .slice A1 ns.length c1]))
    (hA : ArgsA w g [(4, ns.length, ⟨#[]⟩, A1, ns.length, c1)]) :
    Calls Tryz.prog 5 #[.string ⟨#[114, 115, 111, 114, 116]⟩, .slice (some ⟨g, 0, none⟩) 1 cap] w fun e w' => Below w.heap.size w w' ∧ ∃ A c vs, SortOf true ns vs ∧ e = .returned (.tuple #[.agg #[.int .i64 4, .int .i64 ns.length, .string ⟨#[]⟩, .slice A ns.length c], .int .i64 0]) ∧ VIn w' (fun b => w.heap.size ≤ b ∧ b < w'.heap.size) (numG vs) (.agg #[.int .i64 4, .int .i64 ns.length, .string ⟨#[]⟩, .slice A ns.length c]) := by
  have hn : (numI ns 0).length = ns.length := numI_len ns 0
  refine Calls.mono (call_rsort ns hns h64 0 w trivial hLS A1 c1 g cap (by rw [hn]; exact hX) (by rw [hn]; exact hA)) ?_
  rintro e w' ⟨hb, A, c, vs, hs, rfl, hv⟩
  rw [numI_len, hs.length] at hv
  refine ⟨hb, A, c, vs, hs, ?_, hv⟩
  rw [numI_len, hs.length]
theorem args_one {w : World} {t : TypeId} {n : Int} {A : Option Addr} {l c : Nat} : ArgsA (w.alloc (.cells #[.int .i64 4, .int .i64 n, .string ⟨#[]⟩, .slice A l c] t)) w.heap.size [(4, n, ⟨#[]⟩, A, l, c)] := by
  have h := Blk.new w t #[.int .i64 4, .int .i64 n, .string ⟨#[]⟩, .slice A l c]
  refine ⟨h.lt, fun i hi => ?_⟩
  have h1 : i < 1 := hi
  obtain rfl : i = 0 := by omega
  exact ⟨h.cell 0, h.cell 1, h.cell 2, h.cell 3⟩
/-- How far the row of values has come. -/
structure InS (w wx : World) (ns : List Int) (j : Nat) (sv : Value) : Prop where
  own : wx.ownsRow w.heap.size 24 4 sv j (valC (ns.take j))
  low : Below w.heap.size w wx
theorem InS.next {w wr w2 w4 : World} {ns : List Int} {j : Nat} {sv sv' : Value} {x : Int} (h : InS w wr ns j sv) (hx : ns[j]? = some x) (hb : Below wr.heap.size wr w2)
    (hown : w4.ownsRow w.heap.size 24 4 sv' (j + 1) (valC (ns.take j) ++ valI x)) (hg : w2.grownBy w4 sv.ownBlock) : InS w w4 ns (j + 1) sv' := by
  have e : ns.take (j + 1) = ns.take j ++ [x] := by rw [List.take_add_one, hx]; rfl
  have hs := h.low.size
  refine ⟨?_, (h.low.trans (hb.mono hs)).trans (below_grown hg (Nat.le_trans hs hb.size) (fun k e => (h.own.lt k e).1))⟩
  rw [e, valC_app]
  exact hown
/-- Where a list's numbers lie. -/
def NumAt (w : World) (b off : Nat) (xs : List Int) : Prop := ∀ (i : Nat) x, xs[i]? = some x → w.cell? ⟨b, off + i * 7 + 4, none⟩ = some (.int .i64 x)
theorem nums_of {w : World} {B : Nat} {xs : List Int} {n : Int} {A : Option Addr} {l c : Nat} (h : VAt w B (numG xs) (.agg #[.int .i64 4, .int .i64 n, .string ⟨#[]⟩, .slice A l c])) :
    ∃ b off, (0 < xs.length → A = some ⟨b, off, none⟩ ∧ b < B) ∧ NumAt w b off xs := by
  unfold numG at h
  cases h with
  | mk k n t l A c b off C hc hn hA hi hv =>
    refine ⟨b, off, fun h => hA (by rw [numI_len]; exact h), fun i x hx => ?_⟩
    have hg := numI_get xs 0 i x hx
    obtain ⟨-, -, -, v0, v1, v2, v3, e, -, h4, -, -⟩ := hi i _ hg
    have hw := hv i _ hg
    rw [e] at hw
    generalize hval : GI.val (.mk false ((0 + i : Nat) : Int) ⟨#[]⟩ (.mk 2 x ⟨#[]⟩ [])) = G at hw
    rw [show GI.val (.mk false ((0 + i : Nat) : Int) ⟨#[]⟩ (.mk 2 x ⟨#[]⟩ [])) = .mk 2 x ⟨#[]⟩ [] from rfl] at hval
    subst hval
    cases hw
    exact h4
theorem NumAt.below {w w' : World} {b off B : Nat} {xs : List Int} (h : NumAt w b off xs) (hb : Below B w w') (hlt : b < B) : NumAt w' b off xs := fun i x hx => (hb.cell (p := ⟨b, _, none⟩) hlt).trans (h i x hx)
theorem VAt.below {w w' : World} {B : Nat} {g : GV} {x : Value} (h : VAt w B g x) (hb : Below B w w') (hB : B ≤ w.heap.size) : VAt w' B g x :=
  ((VIn.of h).under hb (fun _ h => h)).at_ (fun _ _ h => h) (fun b h => Nat.lt_of_lt_of_le h (Nat.le_trans hB hb.size))
theorem VAt.wide {w : World} {B B' : Nat} {g : GV} {x : Value} (h : VAt w B g x) (hB : B ≤ B') (hw : B ≤ w.heap.size) : VAt w B' g x :=
  (VIn.of h).at_ (fun _ _ h => Nat.lt_of_lt_of_le h hB) (fun b h => Nat.lt_of_lt_of_le h hw)
/-- What the law's later loops read. -/
structure Lp (w wx : World) (ns vs : List Int) (gb ob bv bx gv ov gx ox : Nat) (A5 A9 : Option Addr) (c5 c9 : Nat) : Prop where
  l : ∀ (j : Nat) x, ns[j]? = some x → wx.cell? ⟨gb, ob + j, none⟩ = some (.int .i64 x)
  v : NumAt wx gv ov vs
  x : NumAt wx gx ox vs.reverse
  bv : wx.cell? ⟨bv, 3, none⟩ = some (.slice A5 ns.length c5)
  bx : wx.cell? ⟨bx, 3, none⟩ = some (.slice A9 ns.length c9)
  low : Below w.heap.size w wx
theorem count_step (l : List Int) (k : Nat) (x y : Int) (h : l[k]? = some x) : (l.take (k + 1)).count y = (l.take k).count y + if x = y then 1 else 0 := by
  rw [List.take_add_one, h, List.count_append]
  by_cases e : x = y
  · subst e
    simp
  · simp [e]
theorem count_le (l : List Int) (k n : Nat) (y : Int) (h : l.length = n) : (l.take k).count y ≤ n := Nat.le_trans List.count_le_length (by rw [List.length_take]; omega)
set_option maxHeartbeats 40000000 in
theorem law_any (ns : List Int) (h64 : ∀ x ∈ ns, In64 x) (A : Option Addr) (gb ob cb : Nat) (w : World) (hA : 0 < ns.length → A = some ⟨gb, ob, none⟩ ∧ gb < w.heap.size) (hR : ∀ (j : Nat) x, ns[j]? = some x → w.cell? ⟨gb, ob + j, none⟩ = some (.int .i64 x)) (hl : ns.length ≤ 1000000000) (hLS : LibS w) :
    Calls Tryz.prog 4 #[.slice A ns.length cb] w fun e w' => e = .returned (.bool true) ∧ Below w.heap.size w w' := by
  have HLS := Lib.hid (fun wz (hz : Below w.heap.size w wz) => hLS.below' hz (Nat.le_refl _))
  have HR := Lib.hid hR
  clear hLS
  obtain ⟨i0, hi0, hz0, hz1, hz2⟩ := info_parts val_info
  have HU := Lib.hid (And.intro hi0 (And.intro hz0 (And.intro hz1 hz2)))
  have HS0 : Hid (InS w w ns 0 (.slice none 0 0)) := ⟨World.ownsRow_nil _ _ _ _, Below.refl _ _⟩
  clear hR hi0 hz0 hz1 hz2
  go_enter Tryz.func4, Tryz.ntmps4
  go_wp2_with fail
  go_loopw [3, 17] (fun xs xi wx => ∃ j : Nat, j ≤ ns.length ∧ xi = .int .i64 j ∧ Hid (InS w wx ns j xs)) (fun _ xi _ => ns.length - (ixOf xi).toNat)
  case atStart => exact ⟨0, Nat.zero_le _, rfl, HS0⟩
  case round =>
    obtain ⟨j, hj, rfl, HS⟩ := hrel
    clear HS0
    by_cases hlt : j < ns.length
    · obtain ⟨x, hx⟩ : ∃ x, ns[j]? = some x := ⟨_, List.getElem?_eq_getElem hlt⟩
      obtain ⟨rfl, hg⟩ := hA (by omega)
      have hcu := (HS.out.low.cell (p := ⟨gb, ob + j, none⟩) hg).trans (HR.out _ x hx)
      have hjI : (j : Int) < (ns.length : Int) := by omega
      have hlow := HS.out.low.size
      have HX := Lib.hid hx
      clear hx
      obtain ⟨A3, c3, hsv⟩ := own_shape HS.out.own
      subst hsv
      go_wp2_with (first
        | (go_at_call 6; refine (number_any x _).mono ?_; rintro e w2 ⟨rfl, hb2⟩; have HB2 := Lib.hid hb2; have hs2 := hb2.size; have HBw := Blk.new w2 24 (valI x).toArray; have HNw : Hid (∀ k u, (valI x)[k]? = some u → (w2.alloc (.cells #[.int .i64 2, .int .i64 x, .string ⟨#[]⟩, .slice none 0 0] 24)).cell? ((⟨w2.heap.size, 0, none⟩ : Addr).add k) = some u) := (fun k u hk => by rw [Addr.add_lit, Nat.zero_add]; exact (HBw.cell k).trans (by simpa using hk)); have HOw : Hid ((w2.alloc (.cells #[.int .i64 2, .int .i64 x, .string ⟨#[]⟩, .slice none 0 0] 24)).ownsRow w.heap.size 24 4 (.slice A3 j c3) j (valC (ns.take j))) := ((own_below HS.out.own hb2).alloc _); clear HBw hb2)
        | (at_builtin; refine wpList_append_own _ rfl (.tmp 21) (.tmp 24) 38 rfl w.heap.size 24 i0 _ 4 56 Tryz.underlying38 HU.out.1 HU.out.2.1 HU.out.2.2.1 HU.out.2.2.2 rfl (by decide) (.slice A3 j c3) j (valC (ns.take j)) rfl HOw.out ⟨w2.heap.size, 0, none⟩ 1 1 (valI x) rfl rfl HNw.out (valI_one x) (by unfold maxLen; omega) (by omega) (by simp; omega) ?_; intro v' w4 hown4 hg4 _; have HS4 := Lib.hid (InS.next HS.out HX.out (HB2.out.trans (((Below.refl w2.heap.size w2).alloc (Nat.le_refl _) _).mono hs2)) hown4 hg4); clear hown4 hg4))
      go_roundw
      case rel => exact ⟨j + 1, by omega, by go_num, HS4⟩
      case measure => simp [ixOf] <;> omega
    · obtain rfl : j = ns.length := by omega
      have hIx : ¬ ((ns.length : Int) < (ns.length : Int)) := by omega
      by_cases hbig : 2000 < ns.length
      · have hb1 : (2000 : Int) < (ns.length : Int) := by omega
        go_wp2_with (go_at_call 8; refine (alive_any 0 _ trivial).mono ?_; rintro e w' ⟨rfl, hb⟩)
        go_ret
        exact ⟨rfl, HS.out.low.trans (hb.mono HS.out.low.size)⟩
      · have hb1 : ¬ ((2000 : Int) < (ns.length : Int)) := by omega
        have hO := HS.out.own
        rw [List.take_length] at hO
        obtain ⟨A3, c3, hsv⟩ := own_shape hO
        subst hsv
        have hrow : ∃ g3, (0 < ns.length → A3 = some ⟨g3, 0, none⟩ ∧ g3 < wr.heap.size) ∧ ∀ (j : Nat) x, ns[j]? = some x → wr.cell? ⟨g3, j * 4, none⟩ = some (.int .i64 2) ∧ wr.cell? ⟨g3, j * 4 + 1, none⟩ = some (.int .i64 x) ∧ wr.cell? ⟨g3, j * 4 + 2, none⟩ = some (.string ⟨#[]⟩) ∧ wr.cell? ⟨g3, j * 4 + 3, none⟩ = some (.slice none 0 0) := by
          rcases hO.2 with ⟨e, h0⟩ | ⟨g3, cap, cur, e, _, hg, _⟩
          · exact ⟨0, fun h => by omega, fun j x h => by have := (List.getElem?_eq_some_iff.1 h).1; omega⟩
          · injection e with e _ _
            subst e
            exact ⟨g3, fun _ => ⟨rfl, (Array.getElem?_eq_some_iff.1 hg).1⟩, fun j x h => ⟨val_row hO rfl h 0 (by decide), val_row hO rfl h 1 (by decide), val_row hO rfl h 2 (by decide), val_row hO rfl h 3 (by decide)⟩⟩
        obtain ⟨g3, hA3, hR3⟩ := hrow
        have HRow := Lib.hid (row_any ns A3 g3 c3 wr hA3 hR3 (by omega))
        clear hO hA3 hR3
        go_wp2_with (go_at_call 10; refine HRow.out.mono ?_; rintro e w3 ⟨A4, c4, rfl, hv3, hb3⟩; have HV3 := Lib.hid hv3; have HB3 := Lib.hid hb3; clear hv3 hb3)
        have hlow := HS.out.low.size
        have h3s := HB3.out.size
        have hal := (Below.refl w3.heap.size w3).alloc (Nat.le_refl _) (.cells #[.int .i64 4, .int .i64 ns.length, .string ⟨#[]⟩, .slice A4 ns.length c4] 24)
        have HBw : Hid (Below w.heap.size w (w3.alloc (.cells #[.int .i64 4, .int .i64 ns.length, .string ⟨#[]⟩, .slice A4 ns.length c4] 24))) := (HS.out.low.trans (HB3.out.mono hlow)).trans (hal.mono (by omega))
        have HC1 := Lib.hid (call_sort2 ns (by omega) h64 (w3.alloc (.cells #[.int .i64 4, .int .i64 ns.length, .string ⟨#[]⟩, .slice A4 ns.length c4] 24)) (fun wz hz => HLS.out wz (HBw.out.trans (hz.mono HBw.out.size))) A4 c4 w3.heap.size 1
          ((HV3.out.under hal (fun b h => h.2)).at_ (fun b h _ => h) (fun b h => by have := h.2; have := hal.size; omega)) args_one)
        have HSz : Hid (w.heap.size ≤ (w3.alloc (.cells #[.int .i64 4, .int .i64 ns.length, .string ⟨#[]⟩, .slice A4 ns.length c4] 24)).heap.size) := HBw.out.size
        clear hal HRow HV3 HB3
        go_upto_region 10 with (go_at_call 5; refine HC1.out.mono ?_; rintro e w5 ⟨hb5, A5, c5, vs, hs5, rfl, hv5⟩; have HB5 := Lib.hid (HBw.out.trans (hb5.mono HSz.out)); have HS5 := Lib.hid hs5; have HV5 := Lib.hid hv5; clear hb5 hs5 hv5)
        have hvl := HS5.out.length
        have HW5 := Lib.hid HB5.out.size
        have HX6 := Lib.hid (Blk.new w5 24 #[.int .i64 4, .int .i64 ns.length, .string ⟨#[]⟩, .slice A5 ns.length c5])
        have HA6 := Lib.hid ((Below.refl w5.heap.size w5).alloc (Nat.le_refl _) (.cells #[.int .i64 4, .int .i64 ns.length, .string ⟨#[]⟩, .slice A5 ns.length c5] 24))
        have HB6 := Lib.hid (HB5.out.trans (HA6.out.mono HW5.out))
        have HV6 := Lib.hid (VAt.below (HV5.out.at_ (B := w5.heap.size) (fun b h _ => h) (fun b h => h.2)) HA6.out (Nat.le_refl _))
        clear HV5 HC1 HB5
        generalize hw6 : w5.alloc (.cells #[.int .i64 4, .int .i64 ns.length, .string ⟨#[]⟩, .slice A5 ns.length c5] 24) = w6 at *
        have x0 := HX6.out.cell 0
        have x1 := HX6.out.cell 1
        have x2 := HX6.out.cell 2
        have x3 := HX6.out.cell 3
        have HY7 := Lib.hid ((Below.refl w6.heap.size w6).alloc (Nat.le_refl _) (.cells #[.int .i64 4, .int .i64 ns.length, .string ⟨#[]⟩, .slice A5 ns.length c5] 24))
        have HZ7 := Lib.hid (HB6.out.trans (HY7.out.mono HB6.out.size))
        have hc2 := call_sort2 vs (by omega) (fun x hx => h64 x (HS5.out.perm.subset hx)) (w6.alloc (.cells #[.int .i64 4, .int .i64 ns.length, .string ⟨#[]⟩, .slice A5 ns.length c5] 24)) (fun wz hz => HLS.out wz (HZ7.out.trans (hz.mono HZ7.out.size))) A5 c5 w6.heap.size 1
          (by rw [hvl]; exact ((VIn.of HV6.out).under (HY7.out.mono HA6.out.size) (fun _ h => h)).at_ (fun b h _ => h) (fun b h => by have := HX6.out.lt; have := HY7.out.size; omega)) (by rw [hvl]; exact args_one)
        rw [hvl] at hc2
        have HC2 := Lib.hid hc2
        have H7s := Lib.hid HZ7.out.size
        clear hc2
        go_upto_region 11 with (go_at_call 5; refine HC2.out.mono ?_; rintro e w7 ⟨hb7, A7, c7, ws, hs7, rfl, hv7⟩; have HB7 := Lib.hid (HZ7.out.trans (hb7.mono H7s.out)); have HD7 := Lib.hid (HY7.out.trans (hb7.mono HY7.out.size)); have HS7 := Lib.hid hs7; have HV7 := Lib.hid hv7; clear hb7 hs7 hv7)
        obtain rfl : vs = ws := (HS5.out.again HS7.out).symm
        clear x0 x1 x2 x3 HC2 HS7
        have HA8 := Lib.hid ((Below.refl w7.heap.size w7).alloc (Nat.le_refl _) (.cells #[.int .i64 4, .int .i64 ns.length, .string ⟨#[]⟩, .slice A7 ns.length c7] 24))
        have HB8 := Lib.hid (HB7.out.trans (HA8.out.mono HB7.out.size))
        have HD8 := Lib.hid (HD7.out.trans (HA8.out.mono HD7.out.size))
        have HX8 := Lib.hid (HX6.out.keeps (Keeps.of_below (S := fun _ => False) HD8.out) id)
        have HU8 := Lib.hid (Blk.new w7 24 #[.int .i64 4, .int .i64 ns.length, .string ⟨#[]⟩, .slice A7 ns.length c7])
        have HV8 := Lib.hid (VAt.below HV6.out (HD8.out.mono HA6.out.size) HA6.out.size)
        have HW8 := Lib.hid (VAt.below (HV7.out.at_ (B := w7.heap.size) (fun b h _ => h) (fun b h => h.2)) HA8.out (Nat.le_refl _))
        have HG8 := Lib.hid (Nat.le_trans HD7.out.size HA8.out.size)
        have HG7 := Lib.hid HD7.out.size
        clear HV7 HB7 HD7 HY7 HZ7 H7s
        generalize hw8 : w7.alloc (.cells #[.int .i64 4, .int .i64 ns.length, .string ⟨#[]⟩, .slice A7 ns.length c7] 24) = w8 at *
        have x0 := HX8.out.cell 0
        have x1 := HX8.out.cell 1
        have x2 := HX8.out.cell 2
        have x3 := HX8.out.cell 3
        have HY9 := Lib.hid ((Below.refl w8.heap.size w8).alloc (Nat.le_refl _) (.cells #[.int .i64 4, .int .i64 ns.length, .string ⟨#[]⟩, .slice A5 ns.length c5] 24))
        have HZ9 := Lib.hid (HB8.out.trans (HY9.out.mono HB8.out.size))
        have hc3 := call_rsort2 vs (by omega) (fun x hx => h64 x (HS5.out.perm.subset hx)) (w8.alloc (.cells #[.int .i64 4, .int .i64 ns.length, .string ⟨#[]⟩, .slice A5 ns.length c5] 24)) (fun wz hz => HLS.out wz (HZ9.out.trans (hz.mono HZ9.out.size))) A5 c5 w8.heap.size 1
          (by rw [hvl]; exact ((VIn.of HV8.out).under (HY9.out.mono (Nat.le_trans HA6.out.size HG8.out)) (fun _ h => h)).at_ (fun b h _ => h) (fun b h => by have := HX8.out.lt; have := HY9.out.size; omega)) (by rw [hvl]; exact args_one)
        rw [hvl] at hc3
        have HC3 := Lib.hid hc3
        have H9s := Lib.hid HZ9.out.size
        clear hc3
        go_upto_region 12 with (go_at_call 5; refine HC3.out.mono ?_; rintro e w9 ⟨hb9, A9, c9, xs, hs9, rfl, hv9⟩; have HB9 := Lib.hid (HZ9.out.trans (hb9.mono H9s.out)); have HD9 := Lib.hid (HY9.out.trans (hb9.mono HY9.out.size)); have HS9 := Lib.hid hs9; have HV9 := Lib.hid hv9; clear hb9 hs9 hv9)
        obtain rfl : xs = vs.reverse := HS5.out.back HS9.out
        clear x0 x1 x2 x3 HC3 HS9 HY9 HZ9 H9s
        have HA10 := Lib.hid ((Below.refl w9.heap.size w9).alloc (Nat.le_refl _) (.cells #[.int .i64 4, .int .i64 ns.length, .string ⟨#[]⟩, .slice A9 ns.length c9] 24))
        have HB10 := Lib.hid (HB9.out.trans (HA10.out.mono HB9.out.size))
        have HD10 := Lib.hid (HD9.out.trans (HA10.out.mono HD9.out.size))
        have HX10 := Lib.hid (HX8.out.keeps (Keeps.of_below (S := fun _ => False) HD10.out) id)
        have HU10 := Lib.hid (HU8.out.keeps (Keeps.of_below (S := fun _ => False) HD10.out) id)
        have HY10 := Lib.hid (Blk.new w9 24 #[.int .i64 4, .int .i64 ns.length, .string ⟨#[]⟩, .slice A9 ns.length c9])
        have HV10 := Lib.hid (VAt.below HV8.out (HD10.out.mono (Nat.le_trans HA6.out.size HG8.out)) (Nat.le_trans HA6.out.size HG8.out))
        have HW10 := Lib.hid (VAt.below HW8.out (HD10.out.mono HA8.out.size) HA8.out.size)
        have HR10 := Lib.hid (VAt.below (HV9.out.at_ (B := w9.heap.size) (fun b h _ => h) (fun b h => h.2)) HA10.out (Nat.le_refl _))
        clear HV9 HB9 HD9 HX8 HU8 HV8 HW8 HX6 HV6 HB6
        have HSm := Lib.hid (rsame_all (Nat.le_refl _) (VAt.wide HV10.out (Nat.le_of_lt HX10.out.lt) (Nat.le_of_lt HX10.out.lt)) (VAt.wide HW10.out (Nat.le_of_lt HU10.out.lt) (Nat.le_of_lt HU10.out.lt)) _ (Below.refl _ _))
        rw [same_num vs (by omega)] at HSm
        generalize hw10 : w9.alloc (.cells #[.int .i64 4, .int .i64 ns.length, .string ⟨#[]⟩, .slice A9 ns.length c9] 24) = w10 at *
        have x0 := HX10.out.cell 0
        have x1 := HX10.out.cell 1
        have x2 := HX10.out.cell 2
        have x3 := HX10.out.cell 3
        have y0 := HU10.out.cell 0
        have y1 := HU10.out.cell 1
        have y2 := HU10.out.cell 2
        have y3 := HU10.out.cell 3
        have z3 := HY10.out.cell 3
        go_wp2_with (first
          | (go_at_call 9; refine HSm.out.mono ?_; rintro e w11 ⟨rfl, hb11⟩; have HB11 := Lib.hid hb11; clear hb11)
          | (go_at_call 8; refine (alive_any 0 _ trivial).mono ?_; rintro e w12 ⟨rfl, hb12⟩; have HB12 := Lib.hid (HB11.out.trans (hb12.mono HB11.out.size)); have HX12 := Lib.hid (HX10.out.keeps (Keeps.of_below (S := fun _ => False) HB12.out) id); have k3 := HX12.out.cell 3; clear hb12))
        obtain ⟨gv, ov, hAv, hNv⟩ := nums_of HV10.out
        obtain ⟨gx, ox, hAx, hNx⟩ := nums_of HR10.out
        have hvr : vs.reverse.length = ns.length := by rw [List.length_reverse, hvl]
        have HLp : Hid (Lp w w12 ns vs gb ob w5.heap.size w9.heap.size gv ov gx ox A5 A9 c5 c9) := by
          have hlv := HX10.out.lt
          have hlx := HY10.out.lt
          refine ⟨fun j x hx => ?_, fun j x hx => ?_, fun j x hx => ?_, HX12.out.cell 3, (HY10.out.keeps (Keeps.of_below (S := fun _ => False) HB12.out) id).cell 3, HB10.out.trans (HB12.out.mono HB10.out.size)⟩
          · have := (List.getElem?_eq_some_iff.1 hx).1
            exact ((HB10.out.trans (HB12.out.mono HB10.out.size)).cell (p := ⟨gb, ob + j, none⟩) (hA (by omega)).2).trans (HR.out j x hx)
          · have := (List.getElem?_eq_some_iff.1 hx).1
            exact (hNv.below HB12.out (Nat.lt_trans (hAv (by omega)).2 hlv)) j x hx
          · have := (List.getElem?_eq_some_iff.1 hx).1
            exact (hNx.below HB12.out (Nat.lt_trans (hAx (by omega)).2 hlx)) j x hx
        clear x0 x1 x2 x3 y0 y1 y2 y3 z3 hNv hNx HX12 HSm HV10 HW10 HR10 HX10 HU10 HY10 HB11 HB12 HB10 HD10 HA10 HA8 HA6 HB8 HD8 HG8 HG7 HW5 hw6 hw8 hw10 HR
        go_loopw [89] (fun xi wx => ∃ i : Nat, i ≤ ns.length ∧ xi = .int .i64 i ∧ Hid (Lp w wx ns vs gb ob w5.heap.size w9.heap.size gv ov gx ox A5 A9 c5 c9)) (fun xi _ => ns.length - (ixOf xi).toNat)
        case atStart => exact ⟨0, Nat.zero_le _, rfl, HLp⟩
        case round =>
          clear HLp k3
          obtain ⟨i, hi, rfl, HL⟩ := hrel
          by_cases hlt : i < ns.length
          · obtain ⟨y, hy⟩ : ∃ y, vs[i]? = some y := ⟨_, List.getElem?_eq_getElem (by omega)⟩
            obtain ⟨rfl, -⟩ := hA (by omega)
            obtain ⟨rfl, -⟩ := hAv (by omega)
            obtain ⟨rfl, -⟩ := hAx (by omega)
            obtain ⟨r, hr⟩ : ∃ r, r = ns.length - 1 - i := ⟨_, rfl⟩
            have hrev : vs.reverse[r]? = some y := by
              rw [List.getElem?_reverse (by omega), ← hy]
              congr 1
              omega
            have cv := HL.out.v i y hy
            have cx := HL.out.x r y hrev
            have b3 := HL.out.bv
            have b9 := HL.out.bx
            have hI : (i : Int) < (ns.length : Int) := by omega
            have hRI : (r : Int) < (ns.length : Int) := by omega
            have hq1 : IntKind.i64.wrap ((ns.length : Int) - 1) = (ns.length : Int) - 1 := IntWalk.i64_in _ (by omega)
            have hq2 : IntKind.i64.wrap ((ns.length : Int) - 1 - (i : Int)) = (r : Int) := by rw [show (ns.length : Int) - 1 - (i : Int) = (r : Int) by omega]; exact IntWalk.i64_in _ (by omega)
            clear hr
            go_wp2_with fail
            have hyy : decide (y = y) = true := decide_eq_true rfl
            have HL1 := HL
            by_cases h0 : 0 < (i : Int)
            · obtain ⟨y0, hy0⟩ : ∃ y0, vs[i - 1]? = some y0 := ⟨_, List.getElem?_eq_getElem (by omega)⟩
              have cv0 := HL.out.v (i - 1) y0 hy0
              have h0n : 0 < i := by omega
              have hd0 : decide (0 < i) = true := decide_eq_true h0n
              have hle : y0 ≤ y := by
                have h1 := HS5.out.step (i - 1) (by omega)
                have e1 := (List.getElem?_eq_some_iff.1 hy0).2
                have e2 := (List.getElem?_eq_some_iff.1 hy).2
                have e3 : vs[i - 1 + 1]'(by omega) = vs[i]'(by omega) := by congr 1; omega
                omega
              have hdl : decide (y0 > y) = false := decide_eq_false (by omega)
              have hnl : ¬ y < y0 := by omega
              have hq0 : IntKind.i64.wrap ((i : Int) - 1) = ((i - 1 : Nat) : Int) := by rw [show (i : Int) - 1 = ((i - 1 : Nat) : Int) by omega]; exact IntWalk.i64_in _ (by omega)
              have hI0 : ((i - 1 : Nat) : Int) < (ns.length : Int) := by omega
              go_quiet (fail)
              go_wp2_with fail
              go_loopw [13, 135] (fun xm xk wx => ∃ k : Nat, k ≤ ns.length ∧ xk = .int .i64 k ∧ xm = .int .i64 (((ns.take k).count y : Int) - ((vs.take k).count y : Int)) ∧ Hid (Lp w wx ns vs gb ob w5.heap.size w9.heap.size gv ov gx ox (some ⟨gv, ov, none⟩) (some ⟨gx, ox, none⟩) c5 c9)) (fun _ xk _ => ns.length - (ixOf xk).toNat)
              case atStart => exact ⟨0, Nat.zero_le _, rfl, by simp, ⟨fun j x h => HL1.out.l j x h, fun j x h => HL1.out.v j x h, fun j x h => HL1.out.x j x h, HL1.out.bv, HL1.out.bx, ⟨HL1.out.low.os, HL1.out.low.tape, HL1.out.low.output, HL1.out.low.size, HL1.out.low.block⟩⟩⟩
              case round =>
                clear HL1
                obtain ⟨k, hk, rfl, rfl, HL2⟩ := hrel
                by_cases hkl : k < ns.length
                · obtain ⟨x, hx⟩ : ∃ x, ns[k]? = some x := ⟨_, List.getElem?_eq_getElem hkl⟩
                  obtain ⟨z, hz⟩ : ∃ z, vs[k]? = some z := ⟨_, List.getElem?_eq_getElem (by omega)⟩
                  have d1 := HL2.out.l k x hx
                  have d2 := HL2.out.v i y hy
                  have d3 := HL2.out.v k z hz
                  have e3 := HL2.out.bv
                  have hK : (k : Int) < (ns.length : Int) := by omega
                  have hc1 := count_step ns k x y hx
                  have hc2 := count_step vs k z y hz
                  have hb1 := count_le ns k ns.length y rfl
                  have hb2 := count_le vs k ns.length y hvl
                  generalize (ns.take k).count y = p at *
                  generalize (vs.take k).count y = q at *
                  have hw1 : IntKind.i64.wrap ((p : Int) - q + 1) = (p : Int) - q + 1 := IntWalk.i64_in _ (by omega)
                  have hw2 : IntKind.i64.wrap ((p : Int) - q - 1) = (p : Int) - q - 1 := IntWalk.i64_in _ (by omega)
                  have hw3 : IntKind.i64.wrap ((p : Int) - q + 1 - 1) = (p : Int) - q + 1 - 1 := IntWalk.i64_in _ (by omega)
                  have hI2 : (i : Int) < (ns.length : Int) := by omega
                  by_cases hxy : x = y <;> by_cases hzy : z = y
                  all_goals
                    simp only [hxy, hzy, if_true, if_false] at hc1 hc2
                    first | have hd1 : decide (x = y) = true := decide_eq_true hxy | have hd1 : decide (x = y) = false := decide_eq_false hxy
                    first | have hd2 : decide (z = y) = true := decide_eq_true hzy | have hd2 : decide (z = y) = false := decide_eq_false hzy
                    go_wp2_with fail
                    go_quiet (fail)
                    go_wp2_with fail
                    go_quiet (fail)
                    go_wp2_with fail
                    go_roundw
                    case rel => exact ⟨k + 1, by omega, by go_num, by rw [hc1, hc2]; congr 1 <;> omega, ⟨fun j x h => HL2.out.l j x h, fun j x h => HL2.out.v j x h, fun j x h => HL2.out.x j x h, HL2.out.bv, HL2.out.bx, ⟨HL2.out.low.os, HL2.out.low.tape, HL2.out.low.output, HL2.out.low.size, HL2.out.low.block⟩⟩⟩
                    case measure => simp [ixOf] <;> omega
                · obtain rfl : k = ns.length := by omega
                  have hK : ¬ ((ns.length : Int) < (ns.length : Int)) := by omega
                  have hcn : (ns.take ns.length).count y = (vs.take ns.length).count y := by
                    rw [List.take_length, show ns.length = vs.length from hvl.symm, List.take_length]
                    exact (HS5.out.count y).symm
                  rw [hcn, Int.sub_self]
                  clear hcn
                  go_wp2_with fail
                  go_roundw
                  case rel => exact ⟨i + 1, by omega, by go_num, ⟨fun j x h => HL2.out.l j x h, fun j x h => HL2.out.v j x h, fun j x h => HL2.out.x j x h, HL2.out.bv, HL2.out.bx, ⟨HL2.out.low.os, HL2.out.low.tape, HL2.out.low.output, HL2.out.low.size, HL2.out.low.block⟩⟩⟩
                  case measure => simp [ixOf] <;> omega
            · have h0n : ¬ 0 < i := by omega
              have hd0 : decide (0 < i) = false := decide_eq_false h0n
              go_quiet (fail)
              go_wp2_with fail
              go_loopw [13, 135] (fun xm xk wx => ∃ k : Nat, k ≤ ns.length ∧ xk = .int .i64 k ∧ xm = .int .i64 (((ns.take k).count y : Int) - ((vs.take k).count y : Int)) ∧ Hid (Lp w wx ns vs gb ob w5.heap.size w9.heap.size gv ov gx ox (some ⟨gv, ov, none⟩) (some ⟨gx, ox, none⟩) c5 c9)) (fun _ xk _ => ns.length - (ixOf xk).toNat)
              case atStart => exact ⟨0, Nat.zero_le _, rfl, by simp, ⟨fun j x h => HL1.out.l j x h, fun j x h => HL1.out.v j x h, fun j x h => HL1.out.x j x h, HL1.out.bv, HL1.out.bx, ⟨HL1.out.low.os, HL1.out.low.tape, HL1.out.low.output, HL1.out.low.size, HL1.out.low.block⟩⟩⟩
              case round =>
                clear HL1
                obtain ⟨k, hk, rfl, rfl, HL2⟩ := hrel
                by_cases hkl : k < ns.length
                · obtain ⟨x, hx⟩ : ∃ x, ns[k]? = some x := ⟨_, List.getElem?_eq_getElem hkl⟩
                  obtain ⟨z, hz⟩ : ∃ z, vs[k]? = some z := ⟨_, List.getElem?_eq_getElem (by omega)⟩
                  have d1 := HL2.out.l k x hx
                  have d2 := HL2.out.v i y hy
                  have d3 := HL2.out.v k z hz
                  have e3 := HL2.out.bv
                  have hK : (k : Int) < (ns.length : Int) := by omega
                  have hc1 := count_step ns k x y hx
                  have hc2 := count_step vs k z y hz
                  have hb1 := count_le ns k ns.length y rfl
                  have hb2 := count_le vs k ns.length y hvl
                  generalize (ns.take k).count y = p at *
                  generalize (vs.take k).count y = q at *
                  have hw1 : IntKind.i64.wrap ((p : Int) - q + 1) = (p : Int) - q + 1 := IntWalk.i64_in _ (by omega)
                  have hw2 : IntKind.i64.wrap ((p : Int) - q - 1) = (p : Int) - q - 1 := IntWalk.i64_in _ (by omega)
                  have hw3 : IntKind.i64.wrap ((p : Int) - q + 1 - 1) = (p : Int) - q + 1 - 1 := IntWalk.i64_in _ (by omega)
                  have hI2 : (i : Int) < (ns.length : Int) := by omega
                  by_cases hxy : x = y <;> by_cases hzy : z = y
                  all_goals
                    simp only [hxy, hzy, if_true, if_false] at hc1 hc2
                    first | have hd1 : decide (x = y) = true := decide_eq_true hxy | have hd1 : decide (x = y) = false := decide_eq_false hxy
                    first | have hd2 : decide (z = y) = true := decide_eq_true hzy | have hd2 : decide (z = y) = false := decide_eq_false hzy
                    go_wp2_with fail
                    go_quiet (fail)
                    go_wp2_with fail
                    go_quiet (fail)
                    go_wp2_with fail
                    go_roundw
                    case rel => exact ⟨k + 1, by omega, by go_num, by rw [hc1, hc2]; congr 1 <;> omega, ⟨fun j x h => HL2.out.l j x h, fun j x h => HL2.out.v j x h, fun j x h => HL2.out.x j x h, HL2.out.bv, HL2.out.bx, ⟨HL2.out.low.os, HL2.out.low.tape, HL2.out.low.output, HL2.out.low.size, HL2.out.low.block⟩⟩⟩
                    case measure => simp [ixOf] <;> omega
                · obtain rfl : k = ns.length := by omega
                  have hK : ¬ ((ns.length : Int) < (ns.length : Int)) := by omega
                  have hcn : (ns.take ns.length).count y = (vs.take ns.length).count y := by
                    rw [List.take_length, show ns.length = vs.length from hvl.symm, List.take_length]
                    exact (HS5.out.count y).symm
                  rw [hcn, Int.sub_self]
                  clear hcn
                  go_wp2_with fail
                  go_roundw
                  case rel => exact ⟨i + 1, by omega, by go_num, ⟨fun j x h => HL2.out.l j x h, fun j x h => HL2.out.v j x h, fun j x h => HL2.out.x j x h, HL2.out.bv, HL2.out.bx, ⟨HL2.out.low.os, HL2.out.low.tape, HL2.out.low.output, HL2.out.low.size, HL2.out.low.block⟩⟩⟩
                  case measure => simp [ixOf] <;> omega
          · obtain rfl : i = ns.length := by omega
            have hK : ¬ ((ns.length : Int) < (ns.length : Int)) := by omega
            go_wp2_with fail
            go_ret
            exact ⟨rfl, HL.out.low⟩
end As
end Go.Proofs.YtopmodahdmnpjaaGreatDoor
