/- url: a list of trees as it lies: its items' row, its map of places; what setting does: plain lemmas. -/
import Derived.Test.YtgpemnmopogppaaGreatDoorZAppsQ
namespace Go.Proofs.YtgpemnmopogppaaGreatDoor
open Go Go.RowKit
namespace Ut
open Go.Proofs.YtgpemnmopogppaaGreatDoor.Nm (normG keyV norm_any)
open Go.Proofs.YtgpemnmopogppaaGreatDoor.Dp
/-- A tree under its key: the key, the tree's block. -/
abbrev PK := Key3 × Nat
def PK.cells (p : PK) : List Value := [.bool p.1.1, .int .i64 p.1.2.1, .string p.1.2.2, .pointer (some ⟨p.2, 0, none⟩)]
def rowP (ps : List PK) : List Value := ps.flatMap PK.cells
theorem rowP_app (ps : List PK) (p : PK) : rowP (ps ++ [p]) = rowP ps ++ PK.cells p := by simp [rowP]
theorem rowP_get : ∀ (ps : List PK) (i : Nat) (p : PK), ps[i]? = some p → ∀ r, r < 4 → (rowP ps)[i * 4 + r]? = (PK.cells p)[r]?
  | q :: ps, 0, p, h, r, hr => by
    have e : q = p := by simpa using h
    subst e
    show (PK.cells q ++ rowP ps)[0 * 4 + r]? = _
    rw [Nat.zero_mul, Nat.zero_add, List.getElem?_append_left (by simp [PK.cells]; omega)]
  | q :: ps, i + 1, p, h, r, hr => by
    show (PK.cells q ++ rowP ps)[(i + 1) * 4 + r]? = _
    have hl : (PK.cells q).length = 4 := rfl
    rw [List.getElem?_append_right (by omega), hl, show (i + 1) * 4 + r - 4 = i * 4 + r by omega]
    exact rowP_get ps i p (by simpa using h) r hr
theorem rowP_put : ∀ (ps : List PK) (i : Nat) (p : PK) (q : Nat), ps[i]? = some p → (rowP ps).set (i * 4 + 3) (.pointer (some ⟨q, 0, none⟩)) = rowP (ps.set i (p.1, q))
  | a :: ps, 0, p, q, h => by
    have e : a = p := by simpa using h
    subst e
    rfl
  | a :: ps, i + 1, p, q, h => by
    have ih := rowP_put ps i p q (by simpa using h)
    show (PK.cells a ++ rowP ps).set ((i + 1) * 4 + 3) _ = PK.cells a ++ rowP (ps.set i (p.1, q))
    rw [← ih, show (i + 1) * 4 + 3 = (i * 4 + 3) + 4 by omega]
    rfl
theorem cells_one (p : PK) : ∀ u ∈ PK.cells p, u.oneCell' = true := by
  intro u hu
  simp only [PK.cells, List.mem_cons, List.not_mem_nil, or_false] at hu
  rcases hu with rfl | rfl | rfl | rfl <;> rfl
theorem rowP_one (ps : List PK) : ∀ u ∈ rowP ps, u.oneCell' = true := by
  intro u hu
  obtain ⟨p, _, hp⟩ := List.mem_flatMap.1 hu
  exact cells_one p u hp
/-- A list of trees that somebody made. -/
structure LstP (w : World) (b mb : Nat) (sh : Bool) (sv : Value) (ps : List PK) (nx : Int) : Prop where
  blk : Blk w b 144 #[.bool true, .bool sh, sv, .map (some mb), .int .i64 nx]
  idx : IdxAt w mb ps.length (ps.map Prod.fst)
  owns : w.ownsRow 0 146 4 sv ps.length (rowP ps)
/-- A list's own blocks. -/
def ownL (b mb : Nat) (sv : Value) (j : Nat) : Prop := j = b ∨ j = mb ∨ some j = sv.ownBlock
section
variable {w w' : World} {b mb : Nat} {sh : Bool} {sv : Value} {ps : List PK} {nx : Int} {S : Nat → Prop}
theorem LstP.form (h : LstP w b mb sh sv ps nx) : ∃ A c, sv = .slice A ps.length c := by
  rcases h.owns.2 with ⟨e, h0⟩ | ⟨g, cap, cur, e, _⟩
  · exact ⟨none, 0, by rw [e, h0]⟩
  · exact ⟨_, _, e⟩
theorem row_keep {base : Nat} {e : TypeId} {sz n : Nat} {xs : List Value} (h : w.ownsRow base e sz sv n xs) (k : Keeps S w w') (hs : ∀ g, sv.ownBlock = some g → ¬ S g) : w'.ownsRow base e sz sv n xs := by
  refine ⟨h.1, ?_⟩
  rcases h.2 with h0 | ⟨g, cap, cur, e, hb, hg, r⟩
  · exact .inl h0
  · subst e
    exact .inr ⟨g, cap, cur, rfl, hb, (k.block g (Array.getElem?_eq_some_iff.1 hg).1 (hs g rfl)).trans hg, r⟩
theorem LstP.keeps (h : LstP w b mb sh sv ps nx) (k : Keeps S w w') (hs : ∀ j, ownL b mb sv j → ¬ S j) : LstP w' b mb sh sv ps nx :=
  ⟨h.blk.keeps k (hs _ (.inl rfl)), h.idx.keeps k (hs _ (.inr (.inl rfl))), row_keep h.owns k (fun g e => hs g (.inr (.inr e.symm)))⟩
theorem LstP.below (h : LstP w b mb sh sv ps nx) (hb : Below w.heap.size w w') : LstP w' b mb sh sv ps nx := h.keeps (Keeps.of_below (S := fun _ => False) hb) fun _ _ => id
theorem LstP.lt (h : LstP w b mb sh sv ps nx) {j : Nat} (hj : ownL b mb sv j) : j < w.heap.size := by
  rcases hj with rfl | rfl | e
  · exact h.blk.lt
  · exact h.idx.lt
  · exact (h.owns.lt j e.symm).2
theorem LstP.cells (h : LstP w b mb sh sv ps nx) : w.cell? ⟨b, 0, none⟩ = some (.bool true) ∧ w.cell? ⟨b, 1, none⟩ = some (.bool sh) ∧ w.cell? ⟨b, 2, none⟩ = some sv ∧ w.cell? ⟨b, 3, none⟩ = some (.map (some mb)) ∧ w.cell? ⟨b, 4, none⟩ = some (.int .i64 nx) :=
  ⟨h.blk.cell 0, h.blk.cell 1, h.blk.cell 2, h.blk.cell 3, h.blk.cell 4⟩
end
/-- What setting does. -/
def setP (ps : List PK) (nx : Int) (k : Key3) (q : Nat) : Option (List PK × Int) :=
  if 0 ≤ findK (ps.map Prod.fst) (normG k.1 k.2.1 k.2.2) 0 then some (ps.set (findK (ps.map Prod.fst) (normG k.1 k.2.1 k.2.2) 0).toNat (normG k.1 k.2.1 k.2.2, q), nx)
  else if 2048 ≤ ps.length then none else some (ps ++ [(normG k.1 k.2.1 k.2.2, q)], nextK nx (normG k.1 k.2.1 k.2.2))
theorem keyP_put {ps : List PK} {i : Nat} {p : PK} (h : ps[i]? = some p) (q : Nat) : (ps.set i (p.1, q)).map Prod.fst = ps.map Prod.fst := by
  rw [List.map_set]
  refine List.ext_getElem? fun j => ?_
  rw [List.getElem?_set]
  by_cases hj : i = j
  · subst hj
    rw [if_pos rfl, List.getElem?_map, h]
    have hi := (List.getElem?_eq_some_iff.1 h).1
    simp [hi]
  · rw [if_neg hj]
theorem set_keepsP (w : World) (b o : Nat) (u : Value) : Keeps (fun j => j = b) w (w.setCell ⟨b, o, none⟩ u) := (Keeps.refl (fun j => j = b) w).setCell (p := ⟨b, o, none⟩) (.inl rfl) _
end Ut
end Go.Proofs.YtgpemnmopogppaaGreatDoor
/- list.List of trees: New, ok, own, Next, Copy, All: the walks. -/
namespace Go.Proofs.YtgpemnmopogppaaGreatDoor
open Go Go.RowKit
namespace Ut
open Go.Proofs.YtgpemnmopogppaaGreatDoor.Nm (normG keyV norm_any)
open Go.Proofs.YtgpemnmopogppaaGreatDoor.Dp
section
set_option maxRecDepth 100000 in
theorem new_any (w : World) : Calls Tryz.prog 66 #[] w fun e w' => e = .returned (.pointer (some ⟨w.heap.size + 1, 0, none⟩)) ∧ LstP w' (w.heap.size + 1) w.heap.size false (.slice none 0 0) [] 0 ∧ Below w.heap.size w w' ∧ w'.heap.size = w.heap.size + 2 := by
  have hI := (IdxAt.made w).below (((Below.refl (w.alloc (.map #[] 0)).heap.size (w.alloc (.map #[] 0))).alloc (Nat.le_refl _) (.cells #[.bool true, .bool false, .slice none 0 0, .map (some w.heap.size), .int .i64 0] 144)))
  have hB := Blk.new (w.alloc (.map #[] 0)) 144 #[.bool true, .bool false, .slice none 0 0, .map (some w.heap.size), .int .i64 0]
  have hs : (w.alloc (.map #[] 0)).heap.size = w.heap.size + 1 := by simp
  rw [hs] at hB
  have hz : ((w.alloc (.map #[] 0)).alloc (.cells #[.bool true, .bool false, .slice none 0 0, .map (some w.heap.size), .int .i64 0] 144)).heap.size = w.heap.size + 2 := by simp
  have HI := Lib.hid hI
  have HB := Lib.hid hB
  have HZ := Lib.hid hz
  have HW := Lib.hid ((((Below.refl w.heap.size w).alloc (Nat.le_refl _) (.map #[] 0))).alloc (by simp) (.cells #[.bool true, .bool false, .slice none 0 0, .map (some w.heap.size), .int .i64 0] 144))
  clear hI hB hs hz
  have hmm := @run_makeMap Tryz.prog
  go_enter Tryz.func66, Tryz.ntmps66
  go_wp2_with fail
  go_ret
  exact ⟨rfl, ⟨HB.out, HI.out, World.ownsRow_nil _ _ _ _⟩, HW.out, HZ.out⟩
set_option maxRecDepth 100000 in
theorem ok_any (w : World) (b : Nat) (h : w.cell? ⟨b, 0, none⟩ = some (.bool true)) : Calls Tryz.prog 113 #[.pointer (some ⟨b, 0, none⟩)] w fun e w' => e = .returned (.bool true) ∧ w' = w := by
  go_enter Tryz.func113, Tryz.ntmps113
  go_wp2_with fail
  go_ret
  exact ⟨rfl, rfl⟩
set_option maxRecDepth 100000 in
theorem own_any (w : World) (b : Nat) (h : w.cell? ⟨b, 1, none⟩ = some (.bool false)) : Calls Tryz.prog 143 #[.pointer (some ⟨b, 0, none⟩)] w fun e w' => (∃ v, e = .returned v) ∧ w' = w := by
  go_enter Tryz.func143, Tryz.ntmps143
  go_wp2_with fail
  refine bodyPost_ret (results_none rfl _ _ _) rfl ?_
  exact ⟨⟨_, rfl⟩, rfl⟩
set_option maxRecDepth 100000 in
theorem next_any (w : World) (b : Nat) (nx : Int) (h : w.cell? ⟨b, 0, none⟩ = some (.bool true)) (h4 : w.cell? ⟨b, 4, none⟩ = some (.int .i64 nx)) : Calls Tryz.prog 111 #[.pointer (some ⟨b, 0, none⟩)] w fun e w' => e = .returned (.int .i64 nx) ∧ w' = w := by
  have HK := Lib.hid (ok_any w b h)
  go_enter Tryz.func111, Tryz.ntmps111
  go_wp2_with (go_at_call 113; refine HK.out.mono ?_; rintro e w' ⟨rfl, rfl⟩)
  go_ret
  exact ⟨rfl, rfl⟩
set_option maxRecDepth 100000 in
theorem copy_any {w : World} {b mb : Nat} {sh : Bool} {sv : Value} {ps : List PK} {nx : Int} (h : LstP w b mb sh sv ps nx) : Calls Tryz.prog 145 #[.pointer (some ⟨b, 0, none⟩)] w fun e w' => e = .returned (.pointer (some ⟨w.heap.size, 0, none⟩)) ∧ w' = (w.setCell ⟨b, 1, none⟩ (.bool true)).alloc (.cells #[.bool true, .bool true, sv, .map (some mb), .int .i64 nx] 144) := by
  obtain ⟨A, c, rfl⟩ := h.form
  have HK := Lib.hid (ok_any w b h.cells.1)
  have HS := h.blk.set_ 1 (.bool true)
  have e0 : (w.setCell ⟨b, 1, none⟩ (.bool true)).cell? ⟨b, 0, none⟩ = some (.bool true) := HS.cell 0
  have e1 : (w.setCell ⟨b, 1, none⟩ (.bool true)).cell? ⟨b, 1, none⟩ = some (.bool true) := HS.cell 1
  have e2 : (w.setCell ⟨b, 1, none⟩ (.bool true)).cell? ⟨b, 2, none⟩ = some (.slice A ps.length c) := HS.cell 2
  have e3 : (w.setCell ⟨b, 1, none⟩ (.bool true)).cell? ⟨b, 3, none⟩ = some (.map (some mb)) := HS.cell 3
  have e4 : (w.setCell ⟨b, 1, none⟩ (.bool true)).cell? ⟨b, 4, none⟩ = some (.int .i64 nx) := HS.cell 4
  have c1 : w.cell? ⟨b, 1, none⟩ = some (.bool sh) := h.cells.2.1
  have f1 := h.blk.frozen 1
  clear h HS
  go_enter Tryz.func145, Tryz.ntmps145
  go_wp2_with (go_at_call 113; refine HK.out.mono ?_; rintro e w' ⟨rfl, rfl⟩)
  go_ret
  first | exact ⟨rfl, rfl⟩ | exact ⟨by simp, rfl⟩
set_option maxRecDepth 100000 in
theorem all_any (w : World) (b : Nat) : Calls Tryz.prog 112 #[.pointer (some ⟨b, 0, none⟩)] w fun e w' => e = .returned (.func (.func 144) #[] #[.pointer (some ⟨w.heap.size, 0, none⟩)]) ∧ w' = w.alloc (.cells #[.pointer (some ⟨b, 0, none⟩)] 104) := by
  go_enter Tryz.func112, Tryz.ntmps112
  go_wp2_with fail
  go_ret
  exact ⟨rfl, rfl⟩
end
end Ut
end Go.Proofs.YtgpemnmopogppaaGreatDoor
/- list.List of trees: Set where the key is there, and where no room is left: the walks. -/
namespace Go.Proofs.YtgpemnmopogppaaGreatDoor
open Go Go.RowKit
namespace Ut
open Go.Proofs.YtgpemnmopogppaaGreatDoor.Nm (normG keyV norm_any)
open Go.Proofs.YtgpemnmopogppaaGreatDoor.Dp
theorem LstP.ne_rows {w : World} {b mb : Nat} {sh : Bool} {sv : Value} {ps : List PK} {nx : Int} (h : LstP w b mb sh sv ps nx) : some b ≠ sv.ownBlock ∧ some mb ≠ sv.ownBlock ∧ b ≠ mb :=
  ⟨row_ne h.owns h.blk (by decide), idx_row_ne h.owns h.idx, idx_blk_ne h.blk h.idx⟩
/-- A tree put in another's place. -/
theorem LstP.put {w : World} {b mb : Nat} {sh : Bool} {ps : List PK} {nx : Int} {g c i : Nat} {p : PK} (h : LstP w b mb sh (.slice (some ⟨g, 0, none⟩) ps.length c) ps nx) (hp : ps[i]? = some p) (q : Nat) :
    LstP (w.setCell ⟨g, i * 4 + 3, none⟩ (.pointer (some ⟨q, 0, none⟩))) b mb sh (.slice (some ⟨g, 0, none⟩) ps.length c) (ps.set i (p.1, q)) nx
      ∧ Keeps (ownL b mb (.slice (some ⟨g, 0, none⟩) ps.length c)) w (w.setCell ⟨g, i * 4 + 3, none⟩ (.pointer (some ⟨q, 0, none⟩))) := by
  obtain ⟨h1, h2, _⟩ := h.ne_rows
  have hK := set_keepsP w g (i * 4 + 3) (.pointer (some ⟨q, 0, none⟩))
  have ho := (h.owns.stored (i * 4 + 3) (.pointer (some ⟨q, 0, none⟩))).1
  rw [rowP_put ps i p q hp] at ho
  refine ⟨⟨h.blk.keeps hK (fun e => h1 (by rw [e]; rfl)), ?_, ?_⟩, hK.mono (fun j _ e => .inr (.inr (by rw [e]; rfl)))⟩
  · rw [List.length_set, keyP_put hp]
    exact h.idx.keeps hK (fun e => h2 (by rw [e]; rfl))
  · rw [List.length_set]
    exact ho
section
variable {w : World} {B : Nat}
set_option maxRecDepth 100000 in
set_option maxHeartbeats 4000000 in
theorem set_found (hLib : ∀ w', Below B w w' → LibS w') (w1 : World) (hb : Below B w w1) {b mb : Nat} {sv : Value} {ps : List PK} {nx : Int} (hL : LstP w1 b mb false sv ps nx) (hB1 : B ≤ w1.heap.size) (k : Key3) (hk : In64 k.2.1) (hs : k.2.2.size ≤ 140737488351232) (q : Nat) (i : Nat) (hf : findK (ps.map Prod.fst) (normG k.1 k.2.1 k.2.2) 0 = i) (p0 : PK) (hp0 : ps[i]? = some p0) (_hn : ps.length ≤ 9223372036854775807) :
    Calls Tryz.prog 110 #[.pointer (some ⟨b, 0, none⟩), .agg #[.bool k.1, .int .i64 k.2.1, .string k.2.2], .pointer (some ⟨q, 0, none⟩)] w1 fun e w2 => e = .returned (.int .i64 0) ∧ LstP w2 b mb false sv (ps.set i (p0.1, q)) nx ∧ Keeps (ownL b mb sv) w1 w2 := by
  obtain ⟨ib, ii, is⟩ := k
  simp only [] at *
  have hKO := normG_key ib ii is hk hs
  have hi := (List.getElem?_eq_some_iff.1 hp0).1
  obtain ⟨A0, c0, rfl⟩ := hL.form
  obtain ⟨g, cap, hv, hbg, hgl⟩ := hL.owns.form (by omega)
  injection hv with e1 _ e3
  subst e1 e3
  have HP0 := Lib.hid hp0
  clear hp0
  have hla : placeK (ps.map Prod.fst) (normG ib ii is) = i := by unfold placeK; rw [hf, if_pos (by omega)]
  have hlb : decide (0 ≤ findK (ps.map Prod.fst) (normG ib ii is) 0) = true := by rw [hf]; exact decide_eq_true (by omega)
  have HN := Lib.hid (fun wz hz => norm_any (i := ii) (s := is) (w := wz) ib (by omega) hz)
  have HQ := Lib.hid (fun wz (hz : IdxAt wz mb ps.length (ps.map Prod.fst)) => (by have := hz.look_ok _ hKO; rw [hla, hlb] at this; exact this : (Instr.lookup 142 (.map (some mb)) (keyV (normG ib ii is)) true).run Tryz.prog wz = .ok (.tuple #[.int .i64 i, .bool true]) wz))
  have HF := Lib.hid hf
  have HKO := Lib.hid hKO
  obtain ⟨nb, ni, ns, hnorm⟩ : ∃ nb ni ns, normG ib ii is = (nb, ni, ns) := ⟨_, _, _, rfl⟩
  rw [hnorm] at HN HQ HF HKO
  have HN2 : Hid (∀ wz : World, LibS wz → Calls Tryz.prog 114 #[.agg #[.bool ib, .int .i64 ii, .string is]] wz fun e w' => e = .returned (.agg #[.bool nb, .int .i64 ni, .string ns]) ∧ Below wz.heap.size wz w') := HN
  have HQ2 : Hid (∀ wz : World, IdxAt wz mb ps.length (ps.map Prod.fst) → (Instr.lookup 142 (.map (some mb)) (.agg #[.bool nb, .int .i64 ni, .string ns]) true).run Tryz.prog wz = .ok (.tuple #[.int .i64 i, .bool true]) wz) := HQ
  have HLb := Lib.hid hLib
  have HBa := Lib.hid ((Below.refl w1.heap.size w1).alloc (Nat.le_refl _) (.cells #[.bool ib, .int .i64 ii, .string is] 37))
  have HKa := Lib.hid (Blk.new w1 37 #[.bool ib, .int .i64 ii, .string is])
  have HLa := Lib.hid (hL.below HBa.out)
  have HL0 := Lib.hid hL
  have Hb := Lib.hid hb
  have hblt := hL.blk.lt
  have hmlt := hL.idx.lt
  clear hL hb hLib hk hs hf hKO hla hlb HN HQ hnorm
  go_enter Tryz.func110, Tryz.ntmps110
  go_upto_region 1 with fail
  generalize w1.alloc (.cells #[.bool ib, .int .i64 ii, .string is] 37) = w2 at *
  have hw2 := HBa.out.size
  have l0 := HLa.out.cells
  obtain ⟨l0, l1, l2, l3, l4⟩ := l0
  have q0 : w2.cell? ⟨w1.heap.size, 0, none⟩ = some (.bool ib) := HKa.out.cell 0
  have q1 : w2.cell? ⟨w1.heap.size, 1, none⟩ = some (.int .i64 ii) := HKa.out.cell 1
  have q2 : w2.cell? ⟨w1.heap.size, 2, none⟩ = some (.string is) := HKa.out.cell 2
  have HOk := Lib.hid (ok_any w2 b l0)
  have HNw := Lib.hid (HN2.out w2 (HLb.out _ (Hb.out.trans (HBa.out.mono hB1))))
  go_upto_region 4 with (first
    | (go_at_call 113; refine HOk.out.mono ?_; rintro e w' ⟨rfl, rfl⟩)
    | (go_at_call 114; refine HNw.out.mono ?_; rintro e w3 ⟨rfl, hb3⟩
       have HB3 := Lib.hid hb3; have HK3 := Lib.hid (blk_below HKa.out hb3); clear hb3
       have r0 : w3.cell? ⟨w1.heap.size, 0, none⟩ = some (.bool ib) := HK3.out.cell 0
       have r1 : w3.cell? ⟨w1.heap.size, 1, none⟩ = some (.int .i64 ii) := HK3.out.cell 1
       have r2 : w3.cell? ⟨w1.heap.size, 2, none⟩ = some (.string is) := HK3.out.cell 2
       have rf0 := HK3.out.frozen 0
       have rf1 := HK3.out.frozen 1
       have rf2 := HK3.out.frozen 2))
  have HB4 := Lib.hid ((((HBa.out.trans (HB3.out.mono hw2)).setCell (p := ⟨w1.heap.size, 0, none⟩) (Nat.le_refl _) (.bool nb)).setCell (p := ⟨w1.heap.size, 1, none⟩) (Nat.le_refl _) (.int .i64 ni)).setCell (p := ⟨w1.heap.size, 2, none⟩) (Nat.le_refl _) (.string ns))
  have HK4 := Lib.hid (((HK3.out.set_ 0 (.bool nb)).set_ 1 (.int .i64 ni)).set_ 2 (.string ns))
  generalize ((w3.setCell ⟨w1.heap.size, 0, none⟩ (.bool nb)).setCell ⟨w1.heap.size, 1, none⟩ (.int .i64 ni)).setCell ⟨w1.heap.size, 2, none⟩ (.string ns) = w4 at *
  have HL4 := Lib.hid (HL0.out.below HB4.out)
  clear HL0 HLa HBa HKa HNw HOk HN2 HB3 HK3 r0 r1 r2 rf0 rf1 rf2 q0 q1 q2 l0 l1 l2 l3 l4 hw2
  obtain ⟨l0, l1, l2, l3, l4⟩ := HL4.out.cells
  have k0 : w4.cell? ⟨w1.heap.size, 0, none⟩ = some (.bool nb) := HK4.out.cell 0
  have k1 : w4.cell? ⟨w1.heap.size, 1, none⟩ = some (.int .i64 ni) := HK4.out.cell 1
  have k2 : w4.cell? ⟨w1.heap.size, 2, none⟩ = some (.string ns) := HK4.out.cell 2
  have hlook := fun nd => HQ2.out (w4.drewN nd) (HL4.out.idx.below (drewU (Below.refl _ _) nd))
  have HOw := Lib.hid (fun wz (hz : wz.cell? ⟨b, 1, none⟩ = some (.bool false)) => own_any wz b hz)
  clear HQ2
  have hc : ∀ r, r < 4 → ∀ u, (PK.cells p0)[r]? = some u → w4.cell? ⟨g, i * 4 + r, none⟩ = some u := fun r hr u hu => addr_add0 (HL4.out.owns.cells (g := g) rfl (i * 4 + r) u ((rowP_get ps i p0 HP0.out r hr).trans hu))
  have s3 := hc 3 (by decide) _ rfl
  have sf3 := HL4.out.owns.frozenAt (i * 4 + 3)
  have hix : ((i : Nat) : Int) < (ps.length : Int) := by omega
  clear HK4 hc HF HKO
  go_quiet (fail)
  have HL5 := Lib.hid (HL4.out.below (drewU (Below.refl _ _) nq))
  have HPt := Lib.hid (HL5.out.put HP0.out q)
  have HB5 := Lib.hid (drewU HB4.out nq)
  go_wp2_with (go_at_call 143; refine (HOw.out (w4.drewN nq) l1).mono ?_; rintro e w' ⟨⟨v, rfl⟩, rfl⟩)
  go_ret
  exact ⟨rfl, HPt.out.1, (Keeps.of_below HB5.out).trans HPt.out.2⟩
set_option maxRecDepth 100000 in
set_option maxHeartbeats 4000000 in
theorem set_full (hLib : ∀ w', Below B w w' → LibS w') (w1 : World) (hb : Below B w w1) {b mb : Nat} {sv : Value} {ps : List PK} {nx : Int} (hL : LstP w1 b mb false sv ps nx) (hB1 : B ≤ w1.heap.size) (k : Key3) (hk : In64 k.2.1) (hs : k.2.2.size ≤ 140737488351232) (q : Nat) (hf : findK (ps.map Prod.fst) (normG k.1 k.2.1 k.2.2) 0 < 0) (hn : 2048 ≤ ps.length) (hn2 : ps.length ≤ 9223372036854775807) :
    Calls Tryz.prog 110 #[.pointer (some ⟨b, 0, none⟩), .agg #[.bool k.1, .int .i64 k.2.1, .string k.2.2], .pointer (some ⟨q, 0, none⟩)] w1 fun e w2 => e = .returned (.int .i64 8) ∧ Below w1.heap.size w1 w2 := by
  obtain ⟨ib, ii, is⟩ := k
  simp only [] at *
  have hKO := normG_key ib ii is hk hs
  obtain ⟨A0, c0, rfl⟩ := hL.form
  have hla : placeK (ps.map Prod.fst) (normG ib ii is) = 0 := by unfold placeK; rw [if_neg (by omega)]
  have hlb : decide (0 ≤ findK (ps.map Prod.fst) (normG ib ii is) 0) = false := decide_eq_false (by omega)
  have HN := Lib.hid (fun wz hz => norm_any (i := ii) (s := is) (w := wz) ib (by omega) hz)
  have HQ := Lib.hid (fun wz (hz : IdxAt wz mb ps.length (ps.map Prod.fst)) => (by have := hz.look_ok _ hKO; rw [hla, hlb] at this; exact this : (Instr.lookup 142 (.map (some mb)) (keyV (normG ib ii is)) true).run Tryz.prog wz = .ok (.tuple #[.int .i64 0, .bool false]) wz))
  have HF := Lib.hid hf
  have HKO := Lib.hid hKO
  obtain ⟨nb, ni, ns, hnorm⟩ : ∃ nb ni ns, normG ib ii is = (nb, ni, ns) := ⟨_, _, _, rfl⟩
  rw [hnorm] at HN HQ HF HKO
  have HN2 : Hid (∀ wz : World, LibS wz → Calls Tryz.prog 114 #[.agg #[.bool ib, .int .i64 ii, .string is]] wz fun e w' => e = .returned (.agg #[.bool nb, .int .i64 ni, .string ns]) ∧ Below wz.heap.size wz w') := HN
  have HQ2 : Hid (∀ wz : World, IdxAt wz mb ps.length (ps.map Prod.fst) → (Instr.lookup 142 (.map (some mb)) (.agg #[.bool nb, .int .i64 ni, .string ns]) true).run Tryz.prog wz = .ok (.tuple #[.int .i64 0, .bool false]) wz) := HQ
  have HLb := Lib.hid hLib
  have HBa := Lib.hid ((Below.refl w1.heap.size w1).alloc (Nat.le_refl _) (.cells #[.bool ib, .int .i64 ii, .string is] 37))
  have HKa := Lib.hid (Blk.new w1 37 #[.bool ib, .int .i64 ii, .string is])
  have HLa := Lib.hid (hL.below HBa.out)
  have HL0 := Lib.hid hL
  have Hb := Lib.hid hb
  have hblt := hL.blk.lt
  have hmlt := hL.idx.lt
  clear hL hb hLib hk hs hf hKO hla hlb HN HQ hnorm
  go_enter Tryz.func110, Tryz.ntmps110
  go_upto_region 1 with fail
  generalize w1.alloc (.cells #[.bool ib, .int .i64 ii, .string is] 37) = w2 at *
  have hw2 := HBa.out.size
  have l0 := HLa.out.cells
  obtain ⟨l0, l1, l2, l3, l4⟩ := l0
  have q0 : w2.cell? ⟨w1.heap.size, 0, none⟩ = some (.bool ib) := HKa.out.cell 0
  have q1 : w2.cell? ⟨w1.heap.size, 1, none⟩ = some (.int .i64 ii) := HKa.out.cell 1
  have q2 : w2.cell? ⟨w1.heap.size, 2, none⟩ = some (.string is) := HKa.out.cell 2
  have HOk := Lib.hid (ok_any w2 b l0)
  have HNw := Lib.hid (HN2.out w2 (HLb.out _ (Hb.out.trans (HBa.out.mono hB1))))
  go_upto_region 4 with (first
    | (go_at_call 113; refine HOk.out.mono ?_; rintro e w' ⟨rfl, rfl⟩)
    | (go_at_call 114; refine HNw.out.mono ?_; rintro e w3 ⟨rfl, hb3⟩
       have HB3 := Lib.hid hb3; have HK3 := Lib.hid (blk_below HKa.out hb3); clear hb3
       have r0 : w3.cell? ⟨w1.heap.size, 0, none⟩ = some (.bool ib) := HK3.out.cell 0
       have r1 : w3.cell? ⟨w1.heap.size, 1, none⟩ = some (.int .i64 ii) := HK3.out.cell 1
       have r2 : w3.cell? ⟨w1.heap.size, 2, none⟩ = some (.string is) := HK3.out.cell 2
       have rf0 := HK3.out.frozen 0
       have rf1 := HK3.out.frozen 1
       have rf2 := HK3.out.frozen 2))
  have HB4 := Lib.hid ((((HBa.out.trans (HB3.out.mono hw2)).setCell (p := ⟨w1.heap.size, 0, none⟩) (Nat.le_refl _) (.bool nb)).setCell (p := ⟨w1.heap.size, 1, none⟩) (Nat.le_refl _) (.int .i64 ni)).setCell (p := ⟨w1.heap.size, 2, none⟩) (Nat.le_refl _) (.string ns))
  have HK4 := Lib.hid (((HK3.out.set_ 0 (.bool nb)).set_ 1 (.int .i64 ni)).set_ 2 (.string ns))
  generalize ((w3.setCell ⟨w1.heap.size, 0, none⟩ (.bool nb)).setCell ⟨w1.heap.size, 1, none⟩ (.int .i64 ni)).setCell ⟨w1.heap.size, 2, none⟩ (.string ns) = w4 at *
  have HL4 := Lib.hid (HL0.out.below HB4.out)
  clear HL0 HLa HBa HKa HNw HOk HN2 HB3 HK3 r0 r1 r2 rf0 rf1 rf2 q0 q1 q2 l0 l1 l2 l3 l4 hw2
  obtain ⟨l0, l1, l2, l3, l4⟩ := HL4.out.cells
  have k0 : w4.cell? ⟨w1.heap.size, 0, none⟩ = some (.bool nb) := HK4.out.cell 0
  have k1 : w4.cell? ⟨w1.heap.size, 1, none⟩ = some (.int .i64 ni) := HK4.out.cell 1
  have k2 : w4.cell? ⟨w1.heap.size, 2, none⟩ = some (.string ns) := HK4.out.cell 2
  have hlook := fun nd => HQ2.out (w4.drewN nd) (HL4.out.idx.below (drewU (Below.refl _ _) nd))
  have HOw := Lib.hid (fun wz (hz : wz.cell? ⟨b, 1, none⟩ = some (.bool false)) => own_any wz b hz)
  clear HQ2
  clear HK4 HF HKO
  go_quiet (fail)
  go_wp2_with (go_at_call 143; refine (HOw.out (w4.drewN nq) l1).mono ?_; rintro e w' ⟨⟨v, rfl⟩, rfl⟩)
  go_ret
  exact ⟨rfl, drewU HB4.out nq⟩
end
end Ut
end Go.Proofs.YtgpemnmopogppaaGreatDoor
