/- list.List of trees: Get: the walk; what setting does, in one. -/
import Derived.Test.YtgpemnmopogppaaGreatDoorZUtD
namespace Go.Proofs.YtgpemnmopogppaaGreatDoor
open Go Go.RowKit
namespace Ut
open Go.Proofs.YtgpemnmopogppaaGreatDoor.Nm (normG keyV norm_any)
open Go.Proofs.YtgpemnmopogppaaGreatDoor.Dp
section
variable {w : World} {B : Nat}
set_option maxRecDepth 100000 in
set_option maxHeartbeats 4000000 in
theorem get_found (hLib : ∀ w', Below B w w' → LibS w') (w1 : World) (hb : Below B w w1) {b mb : Nat} {sh : Bool} {sv : Value} {ps : List PK} {nx : Int} (hL : LstP w1 b mb sh sv ps nx) (hB1 : B ≤ w1.heap.size) (k : Key3) (hk : In64 k.2.1) (hs : k.2.2.size ≤ 140737488351232) (i : Nat) (hf : findK (ps.map Prod.fst) (normG k.1 k.2.1 k.2.2) 0 = i) (p0 : PK) (hp0 : ps[i]? = some p0) (_hn : ps.length ≤ 9223372036854775807) :
    Calls Tryz.prog 65 #[.pointer (some ⟨b, 0, none⟩), .agg #[.bool k.1, .int .i64 k.2.1, .string k.2.2]] w1 fun e w2 => e = .returned (.tuple #[.pointer (some ⟨p0.2, 0, none⟩), .bool true]) ∧ Below w1.heap.size w1 w2 := by
  obtain ⟨ib, ii, is⟩ := k
  simp only [] at *
  have hKO := normG_key ib ii is hk hs
  have hi := (List.getElem?_eq_some_iff.1 hp0).1
  obtain ⟨A0, c0, rfl⟩ := hL.form
  obtain ⟨g, cap, hv, hbg, hgl⟩ := hL.owns.form (by omega)
  injection hv with e1 _ e3
  subst e1 e3
  have hla : placeK (ps.map Prod.fst) (normG ib ii is) = i := by unfold placeK; rw [hf, if_pos (by omega)]
  have hlb : decide (0 ≤ findK (ps.map Prod.fst) (normG ib ii is) 0) = true := by rw [hf]; exact decide_eq_true (by omega)
  have hix : ((i : Nat) : Int) < (ps.length : Int) := by omega
  have HP0 := Lib.hid hp0
  clear hp0
  have HN := Lib.hid (fun wz hz => norm_any (i := ii) (s := is) (w := wz) ib (by omega) hz)
  have HQ := Lib.hid (fun wz (hz : IdxAt wz mb ps.length (ps.map Prod.fst)) => (by have := hz.look_ok _ hKO; rw [hla, hlb] at this; exact this : (Instr.lookup 142 (.map (some mb)) (keyV (normG ib ii is)) true).run Tryz.prog wz = .ok (.tuple #[.int .i64 i, .bool true]) wz))
  obtain ⟨nb, ni, ns, hnorm⟩ : ∃ nb ni ns, normG ib ii is = (nb, ni, ns) := ⟨_, _, _, rfl⟩
  rw [hnorm] at HN HQ
  have HN2 : Hid (∀ wz : World, LibS wz → Calls Tryz.prog 114 #[.agg #[.bool ib, .int .i64 ii, .string is]] wz fun e w' => e = .returned (.agg #[.bool nb, .int .i64 ni, .string ns]) ∧ Below wz.heap.size wz w') := HN
  have HQ2 : Hid (∀ wz : World, IdxAt wz mb ps.length (ps.map Prod.fst) → (Instr.lookup 142 (.map (some mb)) (.agg #[.bool nb, .int .i64 ni, .string ns]) true).run Tryz.prog wz = .ok (.tuple #[.int .i64 i, .bool true]) wz) := HQ
  have HLb := Lib.hid hLib
  have HBa := Lib.hid ((Below.refl w1.heap.size w1).alloc (Nat.le_refl _) (.cells #[.bool ib, .int .i64 ii, .string is] 37))
  have HKa := Lib.hid (Blk.new w1 37 #[.bool ib, .int .i64 ii, .string is])
  have HLa := Lib.hid (hL.below HBa.out)
  have Hb := Lib.hid hb
  have hblt := hL.blk.lt
  clear hL hb hLib hk hs hf hKO hla hlb HN HQ hnorm
  go_enter Tryz.func65, Tryz.ntmps65
  go_upto_region 1 with fail
  generalize w1.alloc (.cells #[.bool ib, .int .i64 ii, .string is] 37) = w2 at *
  have hw2 := HBa.out.size
  have l0 := HLa.out.cells
  obtain ⟨l0, l1, l2, l3, l4⟩ := l0
  have q0 : w2.cell? ⟨w1.heap.size, 0, none⟩ = some (.bool ib) := HKa.out.cell 0
  have q1 : w2.cell? ⟨w1.heap.size, 1, none⟩ = some (.int .i64 ii) := HKa.out.cell 1
  have q2 : w2.cell? ⟨w1.heap.size, 2, none⟩ = some (.string is) := HKa.out.cell 2
  have HOk := Lib.hid (ok_any w2 b l0)
  have HNw := Lib.hid (HN2.out w2.drew (HLb.out _ (Hb.out.trans ((drewU HBa.out 1).mono hB1))))
  go_upto_region 3 with (go_at_call 113; refine HOk.out.mono ?_; rintro e w' ⟨rfl, rfl⟩)
  refine wp_region_held_drew (S := (fun w' => w'.cell? ⟨b, 3, none⟩ = some (.map (some mb)) ∧ w'.cell? ⟨w1.heap.size, 0, none⟩ = some (.bool ib) ∧ w'.cell? ⟨w1.heap.size, 1, none⟩ = some (.int .i64 ii) ∧ w'.cell? ⟨w1.heap.size, 2, none⟩ = some (.string is))) (by kernel_rfl) ?_ (fun hHeld => ?_)
  · exact ⟨l3, q0, q1, q2⟩
  refine wpAnyH_take (i := 0) (v := ?v1) Held.op0 (by kernel_rfl) (by kernel_rfl) (by kernel_rfl) (fun _ _ _ h => h) (Or.inl ⟨by rfl, ?hy1⟩) (by assumption) ?rest1
  case hy1 => (intro wq hSq; (try dsimp only at hSq); first | (go_simp; done) | (go_simp; with_reducible rfl))
  try simp only [Act.put, List.setIfInBounds_toArray, List.set_cons_zero, List.set_cons_succ]
  refine wpAnyH_take (i := 1) (v := ?v2) Held.op1 (by kernel_rfl) (by kernel_rfl) (by kernel_rfl) (fun _ _ _ h => h) (Or.inl ⟨by rfl, ?hy2⟩) (by assumption) ?rest2
  case hy2 => (intro wq hSq; (try dsimp only at hSq); first | (go_simp; done) | (go_simp; with_reducible rfl))
  try simp only [Act.put, List.setIfInBounds_toArray, List.set_cons_zero, List.set_cons_succ]
  refine wpAnyH_take (i := 2) (v := ?v3) Held.op2 (by kernel_rfl) (by kernel_rfl) (by kernel_rfl) (fun _ _ _ h => h) (Or.inl ⟨by rfl, ?hy3⟩) (by assumption) ?rest3
  case hy3 => (intro wq hSq; (try dsimp only at hSq); first | (go_simp; done) | (go_simp; with_reducible rfl))
  try simp only [Act.put, List.setIfInBounds_toArray, List.set_cons_zero, List.set_cons_succ]
  refine wpAnyH_take (i := 3) (v := ?v4) Held.op3 (by kernel_rfl) (by kernel_rfl) (by kernel_rfl) (fun _ _ _ h => h) (Or.inl ⟨by rfl, ?hy4⟩) (by assumption) ?rest4
  case hy4 => (intro wq hSq; (try dsimp only at hSq); first | (go_simp; done) | (go_simp; with_reducible rfl))
  try simp only [Act.put, List.setIfInBounds_toArray, List.set_cons_zero, List.set_cons_succ]
  refine wpAnyH_take (i := 4) (v := ?v5) Held.op4 (by kernel_rfl) (by kernel_rfl) (by kernel_rfl) (fun _ _ _ h => h) (Or.inl ⟨by rfl, ?hy5⟩) (by assumption) ?rest5
  case hy5 => (intro wq hSq; (try dsimp only at hSq); first | (go_simp; done) | (go_simp; with_reducible rfl))
  try simp only [Act.put, List.setIfInBounds_toArray, List.set_cons_zero, List.set_cons_succ]
  refine wpAnyH_ready (rs := [5]) (by kernel_rfl) (by simp) ?_
  refine AllReadyH.cons Held.op5 (fun K hK => ?_) AllReadyH.nil
  go_simp
  go_at_call 114
  refine HNw.out.mono ?_
  rintro e w3 ⟨rfl, hb3⟩
  have HB3 : Hid (Below w1.heap.size w1 w3) := Lib.hid (HBa.out.trans ((drewU (Below.refl _ _) 1).trans hb3 |>.mono hw2))
  have HL3 := Lib.hid ((HLa.out.below (drewU (Below.refl _ _) 1)).below hb3)
  have HK3 := Lib.hid (blk_below HKa.out.drew hb3)
  have hlook := HQ2.out w3 HL3.out.idx
  clear hb3
  refine hK.out _ _ ?_ (fun hHeld => ?_)
  · exact ⟨HL3.out.cells.2.2.2.1, HK3.out.cell 0, HK3.out.cell 1, HK3.out.cell 2⟩
  clear hK K
  try simp only [Act.put, List.setIfInBounds_toArray, List.set_cons_zero, List.set_cons_succ]
  refine wpAnyH_ready (rs := [6]) (by kernel_rfl) (by simp) ?_
  refine AllReadyH.cons Held.op6 (fun K hK => ?_) AllReadyH.nil
  go_simp
  refine hK.out _ _ ?_ (fun hHeld => ?_)
  · exact ⟨HL3.out.cells.2.2.2.1, HK3.out.cell 0, HK3.out.cell 1, HK3.out.cell 2⟩
  clear hK K
  try simp only [Act.put, List.setIfInBounds_toArray, List.set_cons_zero, List.set_cons_succ]
  refine wpAnyH_take (i := 7) (v := ?v6) Held.op7 (by kernel_rfl) (by kernel_rfl) (by kernel_rfl) (fun _ _ _ h => h) (Or.inl ⟨by rfl, ?hy6⟩) (by assumption) ?rest6
  case hy6 => (intro wq hSq; (try dsimp only at hSq); first | (go_simp; done) | (go_simp; with_reducible rfl))
  try simp only [Act.put, List.setIfInBounds_toArray, List.set_cons_zero, List.set_cons_succ]
  refine wpAnyH_take (i := 8) (v := ?v7) Held.op8 (by kernel_rfl) (by kernel_rfl) (by kernel_rfl) (fun _ _ _ h => h) (Or.inl ⟨by rfl, ?hy7⟩) (by assumption) ?rest7
  case hy7 => (intro wq hSq; (try dsimp only at hSq); first | (go_simp; done) | (go_simp; with_reducible rfl))
  try simp only [Act.put, List.setIfInBounds_toArray, List.set_cons_zero, List.set_cons_succ]
  refine wpAnyH_take (i := 9) (v := ?v8) Held.op9 (by kernel_rfl) (by kernel_rfl) (by kernel_rfl) (fun _ _ _ h => h) (Or.inl ⟨by rfl, ?hy8⟩) (by assumption) ?rest8
  case hy8 => (intro wq hSq; (try dsimp only at hSq); first | (go_simp; done) | (go_simp; with_reducible rfl))
  try simp only [Act.put, List.setIfInBounds_toArray, List.set_cons_zero, List.set_cons_succ]
  refine wpAnyH_take (i := 10) (v := ?v9) Held.op10 (by kernel_rfl) (by kernel_rfl) (by kernel_rfl) (fun _ _ _ h => h) (Or.inl ⟨by rfl, ?hy9⟩) (by assumption) ?rest9
  case hy9 => (intro wq hSq; (try dsimp only at hSq); first | (go_simp; done) | (go_simp; with_reducible rfl))
  try simp only [Act.put, List.setIfInBounds_toArray, List.set_cons_zero, List.set_cons_succ]
  refine wpAnyH_take (i := 11) (v := ?v10) Held.op11 (by kernel_rfl) (by kernel_rfl) (by kernel_rfl) (fun _ _ _ h => h) (Or.inl ⟨by rfl, ?hy10⟩) (by assumption) ?rest10
  case hy10 => (intro wq hSq; (try dsimp only at hSq); first | (go_simp; done) | (go_simp; with_reducible rfl))
  try simp only [Act.put, List.setIfInBounds_toArray, List.set_cons_zero, List.set_cons_succ]
  refine wpAnyH_done (by kernel_rfl) ?_ _
  have hc : ∀ r, r < 4 → ∀ u, (PK.cells p0)[r]? = some u → w3.cell? ⟨g, i * 4 + r, none⟩ = some u := fun r hr u hu => addr_add0 (HL3.out.owns.cells (g := g) rfl (i * 4 + r) u ((rowP_get ps i p0 HP0.out r hr).trans hu))
  have s3 := hc 3 (by decide) _ rfl
  have l2 : w3.cell? ⟨b, 2, none⟩ = some (.slice (some ⟨g, 0, none⟩) ps.length c0) := HL3.out.cells.2.2.1
  clear hc
  go_wp2_with fail
  go_ret2
  exact ⟨rfl, HB3.out⟩
set_option maxRecDepth 100000 in
set_option maxHeartbeats 4000000 in
theorem get_none (hLib : ∀ w', Below B w w' → LibS w') (w1 : World) (hb : Below B w w1) {b mb : Nat} {sh : Bool} {sv : Value} {ps : List PK} {nx : Int} (hL : LstP w1 b mb sh sv ps nx) (hB1 : B ≤ w1.heap.size) (k : Key3) (hk : In64 k.2.1) (hs : k.2.2.size ≤ 140737488351232) (hf : findK (ps.map Prod.fst) (normG k.1 k.2.1 k.2.2) 0 < 0) :
    Calls Tryz.prog 65 #[.pointer (some ⟨b, 0, none⟩), .agg #[.bool k.1, .int .i64 k.2.1, .string k.2.2]] w1 fun e w2 => e = .returned (.tuple #[.pointer none, .bool false]) ∧ Below w1.heap.size w1 w2 := by
  obtain ⟨ib, ii, is⟩ := k
  simp only [] at *
  have hKO := normG_key ib ii is hk hs
  obtain ⟨A0, c0, rfl⟩ := hL.form
  have hla : placeK (ps.map Prod.fst) (normG ib ii is) = 0 := by unfold placeK; rw [if_neg (by omega)]
  have hlb : decide (0 ≤ findK (ps.map Prod.fst) (normG ib ii is) 0) = false := decide_eq_false (by omega)
  have HN := Lib.hid (fun wz hz => norm_any (i := ii) (s := is) (w := wz) ib (by omega) hz)
  have HQ := Lib.hid (fun wz (hz : IdxAt wz mb ps.length (ps.map Prod.fst)) => (by have := hz.look_ok _ hKO; rw [hla, hlb] at this; exact this : (Instr.lookup 142 (.map (some mb)) (keyV (normG ib ii is)) true).run Tryz.prog wz = .ok (.tuple #[.int .i64 0, .bool false]) wz))
  obtain ⟨nb, ni, ns, hnorm⟩ : ∃ nb ni ns, normG ib ii is = (nb, ni, ns) := ⟨_, _, _, rfl⟩
  rw [hnorm] at HN HQ
  have HN2 : Hid (∀ wz : World, LibS wz → Calls Tryz.prog 114 #[.agg #[.bool ib, .int .i64 ii, .string is]] wz fun e w' => e = .returned (.agg #[.bool nb, .int .i64 ni, .string ns]) ∧ Below wz.heap.size wz w') := HN
  have HQ2 : Hid (∀ wz : World, IdxAt wz mb ps.length (ps.map Prod.fst) → (Instr.lookup 142 (.map (some mb)) (.agg #[.bool nb, .int .i64 ni, .string ns]) true).run Tryz.prog wz = .ok (.tuple #[.int .i64 0, .bool false]) wz) := HQ
  have HLb := Lib.hid hLib
  have HBa := Lib.hid ((Below.refl w1.heap.size w1).alloc (Nat.le_refl _) (.cells #[.bool ib, .int .i64 ii, .string is] 37))
  have HKa := Lib.hid (Blk.new w1 37 #[.bool ib, .int .i64 ii, .string is])
  have HLa := Lib.hid (hL.below HBa.out)
  have Hb := Lib.hid hb
  have hblt := hL.blk.lt
  clear hL hb hLib hk hs hf hKO hla hlb HN HQ hnorm
  go_enter Tryz.func65, Tryz.ntmps65
  go_upto_region 1 with fail
  generalize w1.alloc (.cells #[.bool ib, .int .i64 ii, .string is] 37) = w2 at *
  have hw2 := HBa.out.size
  have l0 := HLa.out.cells
  obtain ⟨l0, l1, l2, l3, l4⟩ := l0
  have q0 : w2.cell? ⟨w1.heap.size, 0, none⟩ = some (.bool ib) := HKa.out.cell 0
  have q1 : w2.cell? ⟨w1.heap.size, 1, none⟩ = some (.int .i64 ii) := HKa.out.cell 1
  have q2 : w2.cell? ⟨w1.heap.size, 2, none⟩ = some (.string is) := HKa.out.cell 2
  have HOk := Lib.hid (ok_any w2 b l0)
  have HNw := Lib.hid (HN2.out w2.drew (HLb.out _ (Hb.out.trans ((drewU HBa.out 1).mono hB1))))
  go_upto_region 3 with (go_at_call 113; refine HOk.out.mono ?_; rintro e w' ⟨rfl, rfl⟩)
  refine wp_region_held_drew (S := (fun w' => w'.cell? ⟨b, 3, none⟩ = some (.map (some mb)) ∧ w'.cell? ⟨w1.heap.size, 0, none⟩ = some (.bool ib) ∧ w'.cell? ⟨w1.heap.size, 1, none⟩ = some (.int .i64 ii) ∧ w'.cell? ⟨w1.heap.size, 2, none⟩ = some (.string is))) (by kernel_rfl) ?_ (fun hHeld => ?_)
  · exact ⟨l3, q0, q1, q2⟩
  refine wpAnyH_take (i := 0) (v := ?v11) Held.op0 (by kernel_rfl) (by kernel_rfl) (by kernel_rfl) (fun _ _ _ h => h) (Or.inl ⟨by rfl, ?hy11⟩) (by assumption) ?rest11
  case hy11 => (intro wq hSq; (try dsimp only at hSq); first | (go_simp; done) | (go_simp; with_reducible rfl))
  try simp only [Act.put, List.setIfInBounds_toArray, List.set_cons_zero, List.set_cons_succ]
  refine wpAnyH_take (i := 1) (v := ?v12) Held.op1 (by kernel_rfl) (by kernel_rfl) (by kernel_rfl) (fun _ _ _ h => h) (Or.inl ⟨by rfl, ?hy12⟩) (by assumption) ?rest12
  case hy12 => (intro wq hSq; (try dsimp only at hSq); first | (go_simp; done) | (go_simp; with_reducible rfl))
  try simp only [Act.put, List.setIfInBounds_toArray, List.set_cons_zero, List.set_cons_succ]
  refine wpAnyH_take (i := 2) (v := ?v13) Held.op2 (by kernel_rfl) (by kernel_rfl) (by kernel_rfl) (fun _ _ _ h => h) (Or.inl ⟨by rfl, ?hy13⟩) (by assumption) ?rest13
  case hy13 => (intro wq hSq; (try dsimp only at hSq); first | (go_simp; done) | (go_simp; with_reducible rfl))
  try simp only [Act.put, List.setIfInBounds_toArray, List.set_cons_zero, List.set_cons_succ]
  refine wpAnyH_take (i := 3) (v := ?v14) Held.op3 (by kernel_rfl) (by kernel_rfl) (by kernel_rfl) (fun _ _ _ h => h) (Or.inl ⟨by rfl, ?hy14⟩) (by assumption) ?rest14
  case hy14 => (intro wq hSq; (try dsimp only at hSq); first | (go_simp; done) | (go_simp; with_reducible rfl))
  try simp only [Act.put, List.setIfInBounds_toArray, List.set_cons_zero, List.set_cons_succ]
  refine wpAnyH_take (i := 4) (v := ?v15) Held.op4 (by kernel_rfl) (by kernel_rfl) (by kernel_rfl) (fun _ _ _ h => h) (Or.inl ⟨by rfl, ?hy15⟩) (by assumption) ?rest15
  case hy15 => (intro wq hSq; (try dsimp only at hSq); first | (go_simp; done) | (go_simp; with_reducible rfl))
  try simp only [Act.put, List.setIfInBounds_toArray, List.set_cons_zero, List.set_cons_succ]
  refine wpAnyH_ready (rs := [5]) (by kernel_rfl) (by simp) ?_
  refine AllReadyH.cons Held.op5 (fun K hK => ?_) AllReadyH.nil
  go_simp
  go_at_call 114
  refine HNw.out.mono ?_
  rintro e w3 ⟨rfl, hb3⟩
  have HB3 : Hid (Below w1.heap.size w1 w3) := Lib.hid (HBa.out.trans ((drewU (Below.refl _ _) 1).trans hb3 |>.mono hw2))
  have HL3 := Lib.hid ((HLa.out.below (drewU (Below.refl _ _) 1)).below hb3)
  have HK3 := Lib.hid (blk_below HKa.out.drew hb3)
  have hlook := HQ2.out w3 HL3.out.idx
  clear hb3
  refine hK.out _ _ ?_ (fun hHeld => ?_)
  · exact ⟨HL3.out.cells.2.2.2.1, HK3.out.cell 0, HK3.out.cell 1, HK3.out.cell 2⟩
  clear hK K
  try simp only [Act.put, List.setIfInBounds_toArray, List.set_cons_zero, List.set_cons_succ]
  refine wpAnyH_ready (rs := [6]) (by kernel_rfl) (by simp) ?_
  refine AllReadyH.cons Held.op6 (fun K hK => ?_) AllReadyH.nil
  go_simp
  refine hK.out _ _ ?_ (fun hHeld => ?_)
  · exact ⟨HL3.out.cells.2.2.2.1, HK3.out.cell 0, HK3.out.cell 1, HK3.out.cell 2⟩
  clear hK K
  try simp only [Act.put, List.setIfInBounds_toArray, List.set_cons_zero, List.set_cons_succ]
  refine wpAnyH_take (i := 7) (v := ?v16) Held.op7 (by kernel_rfl) (by kernel_rfl) (by kernel_rfl) (fun _ _ _ h => h) (Or.inl ⟨by rfl, ?hy16⟩) (by assumption) ?rest16
  case hy16 => (intro wq hSq; (try dsimp only at hSq); first | (go_simp; done) | (go_simp; with_reducible rfl))
  try simp only [Act.put, List.setIfInBounds_toArray, List.set_cons_zero, List.set_cons_succ]
  refine wpAnyH_take (i := 8) (v := ?v17) Held.op8 (by kernel_rfl) (by kernel_rfl) (by kernel_rfl) (fun _ _ _ h => h) (Or.inl ⟨by rfl, ?hy17⟩) (by assumption) ?rest17
  case hy17 => (intro wq hSq; (try dsimp only at hSq); first | (go_simp; done) | (go_simp; with_reducible rfl))
  try simp only [Act.put, List.setIfInBounds_toArray, List.set_cons_zero, List.set_cons_succ]
  refine wpAnyH_take (i := 9) (v := ?v18) Held.op9 (by kernel_rfl) (by kernel_rfl) (by kernel_rfl) (fun _ _ _ h => h) (Or.inl ⟨by rfl, ?hy18⟩) (by assumption) ?rest18
  case hy18 => (intro wq hSq; (try dsimp only at hSq); first | (go_simp; done) | (go_simp; with_reducible rfl))
  try simp only [Act.put, List.setIfInBounds_toArray, List.set_cons_zero, List.set_cons_succ]
  refine wpAnyH_take (i := 10) (v := ?v19) Held.op10 (by kernel_rfl) (by kernel_rfl) (by kernel_rfl) (fun _ _ _ h => h) (Or.inl ⟨by rfl, ?hy19⟩) (by assumption) ?rest19
  case hy19 => (intro wq hSq; (try dsimp only at hSq); first | (go_simp; done) | (go_simp; with_reducible rfl))
  try simp only [Act.put, List.setIfInBounds_toArray, List.set_cons_zero, List.set_cons_succ]
  refine wpAnyH_take (i := 11) (v := ?v20) Held.op11 (by kernel_rfl) (by kernel_rfl) (by kernel_rfl) (fun _ _ _ h => h) (Or.inl ⟨by rfl, ?hy20⟩) (by assumption) ?rest20
  case hy20 => (intro wq hSq; (try dsimp only at hSq); first | (go_simp; done) | (go_simp; with_reducible rfl))
  try simp only [Act.put, List.setIfInBounds_toArray, List.set_cons_zero, List.set_cons_succ]
  refine wpAnyH_done (by kernel_rfl) ?_ _
  go_wp2_with fail
  go_ret2
  exact ⟨rfl, HB3.out⟩
theorem set_any (hLib : ∀ w', Below B w w' → LibS w') (w1 : World) (hb : Below B w w1) {b mb : Nat} {sv : Value} {ps : List PK} {nx : Int} (hL : LstP w1 b mb false sv ps nx) (hB1 : B ≤ w1.heap.size) (k : Key3) (hk : In64 k.2.1) (hs : k.2.2.size ≤ 140737488351232) (q : Nat) (hn : ps.length ≤ 2048) (hnx : In64 nx) :
    Calls Tryz.prog 110 #[.pointer (some ⟨b, 0, none⟩), .agg #[.bool k.1, .int .i64 k.2.1, .string k.2.2], .pointer (some ⟨q, 0, none⟩)] w1 fun e w2 => Keeps (ownL b mb sv) w1 w2 ∧
      ((setP ps nx k q = none ∧ e = .returned (.int .i64 8) ∧ Below w1.heap.size w1 w2) ∨ ∃ ps' nx' sv', setP ps nx k q = some (ps', nx') ∧ e = .returned (.int .i64 0) ∧ LstP w2 b mb false sv' ps' nx' ∧ ∀ j, ownL b mb sv' j → turnL w1.heap.size b mb sv j) := by
  by_cases h : 0 ≤ findK (ps.map Prod.fst) (normG k.1 k.2.1 k.2.2) 0
  · obtain ⟨_, hat⟩ := findK_at (ps.map Prod.fst) (normG k.1 k.2.1 k.2.2) 0 (by omega) h
    rw [List.getElem?_map, Int.sub_zero] at hat
    obtain ⟨p0, hp0, hkey⟩ := Option.map_eq_some_iff.1 hat
    refine (set_found hLib w1 hb hL hB1 k hk hs q _ (Int.toNat_of_nonneg h).symm p0 hp0 (by omega)).mono ?_
    rintro e w2 ⟨rfl, hL2, hk2⟩
    refine ⟨hk2, .inr ⟨_, nx, sv, ?_, rfl, hL2, fun j hj => .inl hj⟩⟩
    unfold setP
    rw [if_pos h, hkey]
  · by_cases h2 : 2048 ≤ ps.length
    · refine (set_full hLib w1 hb hL hB1 k hk hs q (by omega) h2 (by omega)).mono ?_
      rintro e w2 ⟨rfl, hb2⟩
      refine ⟨Keeps.of_below hb2, .inl ⟨?_, rfl, hb2⟩⟩
      unfold setP
      rw [if_neg h, if_pos h2]
    · refine (set_new hLib w1 hb hL hB1 k hk hs q (by omega) (by omega) hnx).mono ?_
      rintro e w2 ⟨rfl, ⟨sv', hL2, hT⟩, hk2⟩
      refine ⟨hk2, .inr ⟨_, _, sv', ?_, rfl, hL2, hT⟩⟩
      unfold setP
      rw [if_neg h, if_neg h2]
/-- What Get answers. -/
theorem get_any (hLib : ∀ w', Below B w w' → LibS w') (w1 : World) (hb : Below B w w1) {b mb : Nat} {sh : Bool} {sv : Value} {ps : List PK} {nx : Int} (hL : LstP w1 b mb sh sv ps nx) (hB1 : B ≤ w1.heap.size) (k : Key3) (hk : In64 k.2.1) (hs : k.2.2.size ≤ 140737488351232) (hn : ps.length ≤ 2048) :
    Calls Tryz.prog 65 #[.pointer (some ⟨b, 0, none⟩), .agg #[.bool k.1, .int .i64 k.2.1, .string k.2.2]] w1 fun e w2 => Below w1.heap.size w1 w2 ∧
      ((findK (ps.map Prod.fst) (normG k.1 k.2.1 k.2.2) 0 < 0 ∧ e = .returned (.tuple #[.pointer none, .bool false])) ∨ ∃ i q, findK (ps.map Prod.fst) (normG k.1 k.2.1 k.2.2) 0 = Int.ofNat i ∧ ps[i]? = some (normG k.1 k.2.1 k.2.2, q) ∧ e = .returned (.tuple #[.pointer (some ⟨q, 0, none⟩), .bool true])) := by
  by_cases h : 0 ≤ findK (ps.map Prod.fst) (normG k.1 k.2.1 k.2.2) 0
  · obtain ⟨_, hat⟩ := findK_at (ps.map Prod.fst) (normG k.1 k.2.1 k.2.2) 0 (by omega) h
    rw [List.getElem?_map, Int.sub_zero] at hat
    obtain ⟨p0, hp0, hkey⟩ := Option.map_eq_some_iff.1 hat
    refine (get_found hLib w1 hb hL hB1 k hk hs _ (Int.toNat_of_nonneg h).symm p0 hp0 (by omega)).mono ?_
    rintro e w2 ⟨rfl, hb2⟩
    exact ⟨hb2, .inr ⟨_, p0.2, (Int.toNat_of_nonneg h).symm, by rw [hp0, ← hkey], rfl⟩⟩
  · refine (get_none hLib w1 hb hL hB1 k hk hs (by omega)).mono ?_
    rintro e w2 ⟨rfl, hb2⟩
    exact ⟨hb2, .inl ⟨by omega, rfl⟩⟩
end
end Ut
end Go.Proofs.YtgpemnmopogppaaGreatDoor
/- url: a tree as it lies in memory, the rest of a tree around one of its parts: plain lemmas on memory. -/
namespace Go.Proofs.YtgpemnmopogppaaGreatDoor
open Go Go.RowKit
namespace Ut
open Go.Proofs.YtgpemnmopogppaaGreatDoor.Nm (normG keyV norm_any)
open Go.Proofs.YtgpemnmopogppaaGreatDoor.Dp
/-- A part of a tree: its key, its block, what it says. -/
abbrev TS := Key3 × Nat × GV
def TS.pk (x : TS) : PK := (x.1, x.2.1)
def TS.gi (x : TS) : GI := giOf x.1 x.2.2
theorem pk_fst (ts : List TS) : (ts.map TS.pk).map Prod.fst = ts.map Prod.fst := by rw [List.map_map]; rfl
theorem gi_key (ts : List TS) : (ts.map TS.gi).map GI.keyG = ts.map Prod.fst := by rw [List.map_map]; rfl
/-- A tree in memory: all its blocks are in F. -/
inductive TreeAt (w : World) : (Nat → Prop) → Nat → GV → Prop where
  | leaf (F : Nat → Prop) (p : Nat) (k n : Int) (t : ByteArray) (A : Option Addr) (c : Nat) (hk : k ≠ 4) (hb : Blk w p 106 #[.pointer none, .int .i64 k, .int .i64 n, .string t, .slice A 0 c])
      (hp : F p) (hlt : ∀ j, F j → j < w.heap.size) : TreeAt w F p (.mk k n t [])
  | node (F : Nat → Prop) (p b mb : Nat) (sv : Value) (bk bn : Int) (bt : ByteArray) (bA : Option Addr) (bl bc : Nat) (ts : List TS) (nx : Int) (G : Nat → Nat → Prop)
      (hb : Blk w p 106 #[.pointer (some ⟨b, 0, none⟩), .int .i64 bk, .int .i64 bn, .string bt, .slice bA bl bc])
      (hbase : bk = 4 → (bn < 0 → nx = bn) ∧ (0 ≤ nx → bn ≤ nx))
      (hl : LstP w b mb false sv (ts.map TS.pk) nx) (hF : F p ∧ ∀ j, ownL b mb sv j → F j)
      (hG : ∀ i j, i < ts.length → G i j → F j ∧ j ≠ p ∧ ¬ ownL b mb sv j) (hd : ∀ i i' j, i < ts.length → i' < ts.length → G i j → G i' j → i = i')
      (hc : ∀ i x, ts[i]? = some x → TreeAt w (G i) x.2.1 x.2.2) (hlt : ∀ j, F j → j < w.heap.size) (hn : ts.length ≤ 2048) : TreeAt w F p (.mk 4 nx ⟨#[]⟩ (ts.map TS.gi))
theorem TreeAt.lt {w : World} {F : Nat → Prop} {p : Nat} {g : GV} (h : TreeAt w F p g) : ∀ j, F j → j < w.heap.size := by
  cases h with
  | leaf _ _ k n t A c hk hb hp hlt => exact hlt
  | node _ _ b mb sv bk bn bt bA bl bc ts nx G hb hbase hl hF hG hd hc hlt hn => exact hlt
theorem TreeAt.keeps {w w' : World} {S F : Nat → Prop} {p : Nat} {g : GV} (h : TreeAt w F p g) (k : Keeps S w w') (hs : ∀ j, F j → ¬ S j) : TreeAt w' F p g := by
  induction h with
  | leaf F p kk n t A c hk hb hp hlt => exact .leaf F p kk n t A c hk (hb.keeps k (hs _ hp)) hp fun j hj => Nat.lt_of_lt_of_le (hlt j hj) k.size
  | node F p b mb sv bk bn bt bA bl bc ts nx G hb hbase hl hF hG hd hc hlt hn ih =>
    refine .node F p b mb sv bk bn bt bA bl bc ts nx G (hb.keeps k (hs _ hF.1)) hbase (hl.keeps k fun j hj => hs j (hF.2 j hj)) hF hG hd (fun i x hx => ih i x hx fun j hj => ?_) (fun j hj => Nat.lt_of_lt_of_le (hlt j hj) k.size) hn
    exact hs j (hG i j (List.getElem?_eq_some_iff.1 hx).1 hj).1
theorem TreeAt.under {w w' : World} {F : Nat → Prop} {p : Nat} {g : GV} (h : TreeAt w F p g) (hb : Below w.heap.size w w') : TreeAt w' F p g := h.keeps (Keeps.of_below (S := fun _ => False) hb) fun _ _ => id
theorem TreeAt.mono {w : World} {F F' : Nat → Prop} {p : Nat} {g : GV} (h : TreeAt w F p g) (hF : ∀ j, F j → F' j) (hlt : ∀ j, F' j → j < w.heap.size) : TreeAt w F' p g := by
  cases h with
  | leaf _ _ k n t A c hk hb hp _ => exact .leaf F' p k n t A c hk hb (hF _ hp) hlt
  | node _ _ b mb sv bk bn bt bA bl bc ts nx G hb hbase hl hFF hG hd hc _ hn =>
    exact .node F' p b mb sv bk bn bt bA bl bc ts nx G hb hbase hl ⟨hF _ hFF.1, fun j hj => hF j (hFF.2 j hj)⟩ (fun i j hi hj => ⟨hF j (hG i j hi hj).1, (hG i j hi hj).2⟩) hd hc hlt hn
/-- A list of trees and the trees that it has. -/
structure NodeAt (w : World) (F : Nat → Prop) (p b mb : Nat) (sv : Value) (ts : List TS) (nx : Int) (G : Nat → Nat → Prop) : Prop where
  hl : LstP w b mb false sv (ts.map TS.pk) nx
  hF : F p ∧ ∀ j, ownL b mb sv j → F j
  hG : ∀ i j, i < ts.length → G i j → F j ∧ j ≠ p ∧ ¬ ownL b mb sv j
  hd : ∀ i i' j, i < ts.length → i' < ts.length → G i j → G i' j → i = i'
  hc : ∀ i x, ts[i]? = some x → TreeAt w (G i) x.2.1 x.2.2
  hlt : ∀ j, F j → j < w.heap.size
  hn : ts.length ≤ 2048
theorem NodeAt.tree {w : World} {F : Nat → Prop} {p b mb : Nat} {sv : Value} {ts : List TS} {nx : Int} {G : Nat → Nat → Prop} (h : NodeAt w F p b mb sv ts nx G) {bk bn : Int} {bt : ByteArray} {bA : Option Addr} {bl bc : Nat}
    (hb : Blk w p 106 #[.pointer (some ⟨b, 0, none⟩), .int .i64 bk, .int .i64 bn, .string bt, .slice bA bl bc]) (hbase : bk = 4 → (bn < 0 → nx = bn) ∧ (0 ≤ nx → bn ≤ nx)) : TreeAt w F p (.mk 4 nx ⟨#[]⟩ (ts.map TS.gi)) :=
  .node F p b mb sv bk bn bt bA bl bc ts nx G hb hbase h.hl h.hF h.hG h.hd h.hc h.hlt h.hn
theorem TreeAt.form {w : World} {F : Nat → Prop} {p : Nat} {nx : Int} {t : ByteArray} {gs : List GI} (h : TreeAt w F p (.mk 4 nx t gs)) : t = ⟨#[]⟩ ∧ ∃ b mb sv bk bn bt bA bl bc ts G, gs = ts.map TS.gi ∧ NodeAt w F p b mb sv ts nx G ∧
    Blk w p 106 #[.pointer (some ⟨b, 0, none⟩), .int .i64 bk, .int .i64 bn, .string bt, .slice bA bl bc] ∧ (bk = 4 → (bn < 0 → nx = bn) ∧ (0 ≤ nx → bn ≤ nx)) := by
  cases h with
  | leaf _ _ _ _ _ A c hk hb hp hlt => exact absurd rfl hk
  | node _ _ b mb sv bk bn bt bA bl bc ts _ G hb hbase hl hF hG hd hc hlt hn => exact ⟨rfl, b, mb, sv, bk, bn, bt, bA, bl, bc, ts, G, rfl, ⟨hl, hF, hG, hd, hc, hlt, hn⟩, hb, hbase⟩
theorem NodeAt.keeps {w w' : World} {S F : Nat → Prop} {p b mb : Nat} {sv : Value} {ts : List TS} {nx : Int} {G : Nat → Nat → Prop} (h : NodeAt w F p b mb sv ts nx G) (k : Keeps S w w') (hs : ∀ j, F j → ¬ S j) : NodeAt w' F p b mb sv ts nx G :=
  ⟨h.hl.keeps k fun j hj => hs j (h.hF.2 j hj), h.hF, h.hG, h.hd, fun i x hx => (h.hc i x hx).keeps k fun j hj => hs j (h.hG i j (List.getElem?_eq_some_iff.1 hx).1 hj).1, fun j hj => Nat.lt_of_lt_of_le (h.hlt j hj) k.size, h.hn⟩
theorem NodeAt.below {w w' : World} {F : Nat → Prop} {p b mb : Nat} {sv : Value} {ts : List TS} {nx : Int} {G : Nat → Nat → Prop} (h : NodeAt w F p b mb sv ts nx G) (hb : Below w.heap.size w w') : NodeAt w' F p b mb sv ts nx G := h.keeps (Keeps.of_below (S := fun _ => False) hb) fun _ _ => id
theorem set_pk (ts : List TS) (i : Nat) (x : TS) : (ts.set i x).map TS.pk = (ts.map TS.pk).set i x.pk := by rw [List.map_set]
theorem set_gi (ts : List TS) (i : Nat) (x : TS) : (ts.set i x).map TS.gi = (ts.map TS.gi).set i x.gi := by rw [List.map_set]
theorem setP_gi {ts : List TS} {nx : Int} {k : Key3} {x : Nat} {ps' : List PK} {nx' : Int} (h : setP (ts.map TS.pk) nx k x = some (ps', nx')) (gx : GV) : ∃ i ts', ps' = ts'.map TS.pk ∧ ts'[i]? = some (normG k.1 k.2.1 k.2.2, x, gx) ∧
    (∀ v, setG (ts.map TS.gi) nx (giOf k v) = some ((ts'.map TS.gi).set i (giOf (normG k.1 k.2.1 k.2.2) v), nx')) ∧ ((i < ts.length ∧ ts' = ts.set i (normG k.1 k.2.1 k.2.2, x, gx) ∧ nx' = nx ∧ 0 ≤ findK (ts.map Prod.fst) (normG k.1 k.2.1 k.2.2) 0) ∨ (i = ts.length ∧ ts' = ts ++ [(normG k.1 k.2.1 k.2.2, x, gx)] ∧ nx' = nextK nx (normG k.1 k.2.1 k.2.2) ∧ ts.length < 2048)) := by
  unfold setP at h
  rw [pk_fst] at h
  have hset : ∀ v, setG (ts.map TS.gi) nx (giOf k v) = if 0 ≤ findK (ts.map Prod.fst) (normG k.1 k.2.1 k.2.2) 0 then some ((ts.map TS.gi).set (findK (ts.map Prod.fst) (normG k.1 k.2.1 k.2.2) 0).toNat (giOf (normG k.1 k.2.1 k.2.2) v), nx)
      else if 2048 ≤ (ts.map TS.gi).length then none else some (ts.map TS.gi ++ [giOf (normG k.1 k.2.1 k.2.2) v], nextK nx (normG k.1 k.2.1 k.2.2)) := fun v => by
    unfold setG
    rw [gi_key]
    rfl
  by_cases h0 : 0 ≤ findK (ts.map Prod.fst) (normG k.1 k.2.1 k.2.2) 0
  · rw [if_pos h0] at h
    injection h with h
    injection h with h1 h2
    have hlt := findK_lt (ts.map Prod.fst) (normG k.1 k.2.1 k.2.2)
    rw [List.length_map] at hlt
    refine ⟨_, ts.set (findK (ts.map Prod.fst) (normG k.1 k.2.1 k.2.2) 0).toNat (normG k.1 k.2.1 k.2.2, x, gx), ?_, ?_, fun v => ?_, .inl ⟨by omega, rfl, h2.symm, h0⟩⟩
    · rw [set_pk, ← h1]
      rfl
    · rw [List.getElem?_set_self (by omega)]
    · rw [hset, if_pos h0, set_gi, List.set_set, h2]
  · rw [if_neg h0, List.length_map] at h
    by_cases h3 : 2048 ≤ ts.length
    · rw [if_pos h3] at h
      cases h
    · rw [if_neg h3] at h
      injection h with h
      injection h with h1 h2
      refine ⟨ts.length, ts ++ [(normG k.1 k.2.1 k.2.2, x, gx)], ?_, by simp, fun v => ?_, .inr ⟨rfl, rfl, h2.symm, by omega⟩⟩
      · rw [List.map_append, ← h1]
        rfl
      · rw [hset, if_neg h0, if_neg (by simpa using h3), h2, List.map_append]
        rw [List.set_append_right _ _ (by simp)]
        simp
theorem setP_none {ts : List TS} {nx : Int} {k : Key3} {x : Nat} (h : setP (ts.map TS.pk) nx k x = none) (v : GV) : setG (ts.map TS.gi) nx (giOf k v) = none := by
  unfold setP at h
  unfold setG
  rw [pk_fst] at h
  rw [gi_key]
  by_cases h0 : 0 ≤ findK (ts.map Prod.fst) (normG k.1 k.2.1 k.2.2) 0
  · rw [if_pos h0] at h
    cases h
  · rw [if_neg h0, List.length_map] at h
    by_cases h3 : 2048 ≤ ts.length
    · exact (if_neg h0).trans (if_pos (by simpa using h3))
    · rw [if_neg h3] at h
      cases h
/-- A tree set into a list of trees. -/
theorem NodeAt.set {w w2 : World} {F Fx : Nat → Prop} {p b mb x : Nat} {sv sv' : Value} {ts : List TS} {nx nx' : Int} {G : Nat → Nat → Prop} {ps' : List PK} {k : Key3} {gx : GV} (h : NodeAt w F p b mb sv ts nx G) (hp : ¬ ownL b mb sv p) (hk : Keeps (ownL b mb sv) w w2) (hL2 : LstP w2 b mb false sv' ps' nx')
    (hset : setP (ts.map TS.pk) nx k x = some (ps', nx')) (ht : ∀ j, ownL b mb sv' j → turnL w.heap.size b mb sv j) (hx : TreeAt w Fx x gx) (hFx : ∀ j, Fx j → ¬ F j) :
    ∃ i ts' G', NodeAt w2 (fun j => F j ∨ Fx j ∨ ownL b mb sv' j) p b mb sv' ts' nx' G' ∧ ts'[i]? = some (normG k.1 k.2.1 k.2.2, x, gx) ∧ (∀ j, G' i j ↔ Fx j) ∧
      (∀ v, setG (ts.map TS.gi) nx (giOf k v) = some ((ts'.map TS.gi).set i (giOf (normG k.1 k.2.1 k.2.2) v), nx')) ∧ ((i < ts.length ∧ ts' = ts.set i (normG k.1 k.2.1 k.2.2, x, gx) ∧ nx' = nx ∧ 0 ≤ findK (ts.map Prod.fst) (normG k.1 k.2.1 k.2.2) 0) ∨ (i = ts.length ∧ ts' = ts ++ [(normG k.1 k.2.1 k.2.2, x, gx)] ∧ nx' = nextK nx (normG k.1 k.2.1 k.2.2) ∧ ts.length < 2048)) := by
  obtain ⟨i, ts', rfl, hi, hv, hcase⟩ := setP_gi hset gx
  have hlt2 : ∀ j, ownL b mb sv' j → j < w2.heap.size := fun j hj => hL2.lt hj
  have hnew : ∀ j, ownL b mb sv' j → ¬ ownL b mb sv j → w.heap.size ≤ j := fun j hj hn => (ht j hj).resolve_left hn
  have hFxO : ∀ j, Fx j → ¬ ownL b mb sv j := fun j hj ho => hFx j hj (h.hF.2 j ho)
  have hFxO' : ∀ j, Fx j → ¬ ownL b mb sv' j := fun j hj ho => by
    have h1 := hnew j ho (hFxO j hj)
    have h2 := hx.lt j hj
    omega
  have hpp : ∀ j, Fx j → j ≠ p := fun j hj e => hFx j hj (by rw [e]; exact h.hF.1)
  have hpO' : ¬ ownL b mb sv' p := fun ho => by
    have h1 := hnew p ho hp
    have h2 := h.hlt p h.hF.1
    omega
  have hGO' : ∀ i' j, i' < ts.length → G i' j → ¬ ownL b mb sv' j := fun i' j hi' hj ho => by
    have h0 := h.hG i' j hi' hj
    have h1 := hnew j ho h0.2.2
    have h2 := h.hlt j h0.1
    omega
  have hlen : ∀ i', i' < ts'.length → i' ≠ i → i' < ts.length := fun i' h1 h2 => by
    rcases hcase with ⟨_, e, _⟩ | ⟨e0, e, _⟩
    · rw [e, List.length_set] at h1; exact h1
    · rw [e] at h1
      simp at h1
      omega
  have hget : ∀ i', i' ≠ i → ∀ y, ts'[i']? = some y → ts[i']? = some y := fun i' hne y hy => by
    rcases hcase with ⟨_, e, _⟩ | ⟨e0, e, _⟩
    · rw [e, List.getElem?_set_ne (fun e => hne e.symm)] at hy; exact hy
    · rw [e] at hy
      have : i' < ts.length := hlen i' (by rw [e]; exact (List.getElem?_eq_some_iff.1 hy).1) hne
      rwa [List.getElem?_append_left this] at hy
  refine ⟨i, ts', fun i' j => if i' = i then Fx j else G i' j, ⟨hL2, ⟨.inl h.hF.1, fun j hj => .inr (.inr hj)⟩, ?_, ?_, ?_, ?_, ?_⟩, hi, fun j => by simp, hv, hcase⟩
  · intro i' j hi' hj
    by_cases e : i' = i
    · subst e
      simp only [if_true] at hj
      exact ⟨.inr (.inl hj), hpp j hj, hFxO' j hj⟩
    · simp only [if_neg e] at hj
      have h0 := h.hG i' j (hlen i' hi' e) hj
      exact ⟨.inl h0.1, h0.2.1, hGO' i' j (hlen i' hi' e) hj⟩
  · intro i1 i2 j h1 h2 g1 g2
    by_cases e1 : i1 = i
    · subst e1
      by_cases e2 : i2 = i1
      · exact e2.symm
      · simp only [if_true] at g1
        simp only [if_neg e2] at g2
        exact absurd (h.hG i2 j (hlen i2 h2 e2) g2).1 (hFx j g1)
    · simp only [if_neg e1] at g1
      by_cases e2 : i2 = i
      · subst e2
        simp only [if_true] at g2
        exact absurd (h.hG i1 j (hlen i1 h1 e1) g1).1 (hFx j g2)
      · simp only [if_neg e2] at g2
        exact h.hd i1 i2 j (hlen i1 h1 e1) (hlen i2 h2 e2) g1 g2
  · intro i' y hy
    by_cases e : i' = i
    · subst e
      rw [hi] at hy
      cases hy
      simp only [if_true]
      exact hx.keeps hk hFxO
    · simp only [if_neg e]
      have hy' := hget i' e y hy
      exact (h.hc i' y hy').keeps hk fun j hj => (h.hG i' j (List.getElem?_eq_some_iff.1 hy').1 hj).2.2
  · rintro j (hj | hj | hj)
    · exact Nat.lt_of_lt_of_le (h.hlt j hj) hk.size
    · exact Nat.lt_of_lt_of_le (hx.lt j hj) hk.size
    · exact hlt2 j hj
  · rcases hcase with ⟨_, e, _⟩ | ⟨_, e, _, h9⟩
    · rw [e, List.length_set]; exact h.hn
    · rw [e]; simp; omega
/-! ### the rest of a tree around one of its parts -/
/-- Whatever tree lies at q, with the rest R as it is in w, the tree at p says what C says of it. -/
def Hole (w : World) (R : Nat → Prop) (q p : Nat) (C : GV → GV) : Prop :=
  (∀ j, R j → j < w.heap.size) ∧ ∀ (w' : World) (F' : Nat → Prop) (g' : GV), Keeps (fun j => ¬ R j) w w' → (∀ j, F' j → ¬ R j) → TreeAt w' F' q g' → ∃ S', TreeAt w' S' p (C g') ∧ ∀ j, S' j → R j ∨ F' j
theorem Hole.start (w : World) (p : Nat) : Hole w (fun _ => False) p p id := ⟨fun _ h => h.elim, fun _w' F' _g' _ _ h => ⟨F', h, fun _ hj => .inr hj⟩⟩
theorem Hole.keeps {w w1 : World} {S R : Nat → Prop} {q p : Nat} {C : GV → GV} (h : Hole w R q p C) (k : Keeps S w w1) (hs : ∀ j, R j → ¬ S j) : Hole w1 R q p C :=
  ⟨fun j hj => Nat.lt_of_lt_of_le (h.1 j hj) k.size, fun w' F' g' k' hF hT => h.2 w' F' g' ((k.mono fun j _ hj hR => hs j hR hj).trans k') hF hT⟩
theorem Hole.comp {w : World} {R R' : Nat → Prop} {x q p : Nat} {C C' : GV → GV} (h : Hole w R q p C) (h' : Hole w R' x q C') (hd : ∀ j, R' j → ¬ R j) : Hole w (fun j => R j ∨ R' j) x p (fun g => C (C' g)) :=
  ⟨fun j hj => hj.elim (h.1 j) (h'.1 j), fun w' F' g' k hF hT => by
    obtain ⟨S1, hT1, hS1⟩ := h'.2 w' F' g' (k.mono fun j _ hj hR => hj (.inr hR)) (fun j hj hR => hF j hj (.inr hR)) hT
    obtain ⟨S2, hT2, hS2⟩ := h.2 w' S1 _ (k.mono fun j _ hj hR => hj (.inl hR)) (fun j hj hR => by
      rcases hS1 j hj with h1 | h1
      · exact hd j h1 hR
      · exact hF j h1 (.inl hR)) hT1
    exact ⟨S2, hT2, fun j hj => by
      rcases hS2 j hj with h1 | h1
      · exact .inl (.inl h1)
      · rcases hS1 j h1 with h2 | h2
        · exact .inl (.inr h2)
        · exact .inr h2⟩⟩
/-- A tree that nothing leads to turns nothing. -/
theorem Hole.const {w : World} {R F : Nat → Prop} {q p x : Nat} {C : GV → GV} {g : GV} (h : Hole w R q p C) (hT : TreeAt w F q g) (hF : ∀ j, F j → ¬ R j) : Hole w (fun j => R j ∨ F j) x p (fun _ => C g) :=
  ⟨fun j hj => hj.elim (h.1 j) (hT.lt j), fun w' F' g' k hF' _ => by
    obtain ⟨S, hT2, hS⟩ := h.2 w' F g (k.mono fun j _ hj hR => hj (.inl hR)) hF (hT.keeps k fun j hj hn => hn (.inr hj))
    exact ⟨S, hT2, fun j hj => .inl (hS j hj)⟩⟩
theorem NodeAt.hole {w : World} {F : Nat → Prop} {p b mb : Nat} {sv : Value} {ts : List TS} {nx : Int} {G : Nat → Nat → Prop} (h : NodeAt w F p b mb sv ts nx G) {bk bn : Int} {bt : ByteArray} {bA : Option Addr} {bl bc : Nat}
    (hb : Blk w p 106 #[.pointer (some ⟨b, 0, none⟩), .int .i64 bk, .int .i64 bn, .string bt, .slice bA bl bc]) (hbase : bk = 4 → (bn < 0 → nx = bn) ∧ (0 ≤ nx → bn ≤ nx)) (_hp : ¬ ownL b mb sv p) {i : Nat} {x : TS} (hx : ts[i]? = some x) :
    Hole w (fun j => F j ∧ ¬ G i j) x.2.1 p (fun g => .mk 4 nx ⟨#[]⟩ ((ts.map TS.gi).set i (giOf x.1 g))) := by
  have hi := (List.getElem?_eq_some_iff.1 hx).1
  refine ⟨fun j hj => h.hlt j hj.1, fun w' F' g' k hF hT => ⟨fun j => (F j ∧ ¬ G i j) ∨ F' j, ?_, fun j hj => hj⟩⟩
  have hmem : ∀ j, F j → ¬ G i j → (fun j => ¬ (F j ∧ ¬ G i j)) j → False := fun j h1 h2 h3 => h3 ⟨h1, h2⟩
  have hpk : ((ts.set i (x.1, x.2.1, g')).map TS.pk) = ts.map TS.pk := by
    rw [set_pk]
    refine List.ext_getElem? fun j => ?_
    rw [List.getElem?_set]
    by_cases e : i = j
    · subst e
      rw [if_pos rfl, List.getElem?_map, hx]
      simp [hi]
      rfl
    · rw [if_neg e]
  have hown : ∀ j, ownL b mb sv j → ¬ G i j := fun j hj hg => (h.hG i j hi hg).2.2 hj
  have := (NodeAt.mk (w := w') (F := fun j => (F j ∧ ¬ G i j) ∨ F' j) (p := p) (b := b) (mb := mb) (sv := sv) (ts := ts.set i (x.1, x.2.1, g')) (nx := nx) (G := fun i' j => if i' = i then F' j else G i' j) (by
      rw [hpk]
      exact h.hl.keeps k fun j hj hn => hn ⟨h.hF.2 j hj, hown j hj⟩)
    ⟨.inl ⟨h.hF.1, fun hg => (h.hG i p hi hg).2.1 rfl⟩, fun j hj => .inl ⟨h.hF.2 j hj, hown j hj⟩⟩ ?_ ?_ ?_ ?_ (by rw [List.length_set]; exact h.hn)).tree (hb.keeps k fun hn => hn ⟨h.hF.1, fun hg => (h.hG i p hi hg).2.1 rfl⟩) hbase
  · rw [set_gi] at this
    exact this
  · intro i' j hi' hj
    by_cases e : i' = i
    · subst e
      simp only [if_true] at hj
      exact ⟨.inr hj, fun e => hF j hj (by rw [e]; exact ⟨h.hF.1, fun hg => (h.hG _ p hi hg).2.1 rfl⟩), fun ho => hF j hj ⟨h.hF.2 j ho, hown j ho⟩⟩
    · simp only [if_neg e] at hj
      rw [List.length_set] at hi'
      have h0 := h.hG i' j hi' hj
      exact ⟨.inl ⟨h0.1, fun hg => e (h.hd i' i j hi' hi hj hg)⟩, h0.2⟩
  · intro i1 i2 j h1 h2 g1 g2
    rw [List.length_set] at h1 h2
    have hout : ∀ i', i' < ts.length → i' ≠ i → G i' j → ¬ F' j := fun i' hl hne hg hf => hF j hf ⟨(h.hG i' j hl hg).1, fun hg' => hne (h.hd i' i j hl hi hg hg')⟩
    by_cases e1 : i1 = i
    · by_cases e2 : i2 = i
      · rw [e1, e2]
      · simp only [if_pos e1] at g1
        simp only [if_neg e2] at g2
        exact absurd g1 (hout i2 h2 e2 g2)
    · simp only [if_neg e1] at g1
      by_cases e2 : i2 = i
      · simp only [if_pos e2] at g2
        exact absurd g2 (hout i1 h1 e1 g1)
      · simp only [if_neg e2] at g2
        exact h.hd i1 i2 j h1 h2 g1 g2
  · intro i' y hy
    by_cases e : i' = i
    · subst e
      rw [List.getElem?_set_self hi] at hy
      cases hy
      simp only [if_true]
      exact hT
    · rw [List.getElem?_set_ne (fun h => e h.symm)] at hy
      simp only [if_neg e]
      exact (h.hc i' y hy).keeps k fun j hj hn => hn ⟨(h.hG i' j (List.getElem?_eq_some_iff.1 hy).1 hj).1, fun hg => e (h.hd i' i j (List.getElem?_eq_some_iff.1 hy).1 hi hj hg)⟩
  · rintro j (hj | hj)
    · exact Nat.lt_of_lt_of_le (h.hlt j hj.1) k.size
    · exact hT.lt j hj
theorem own_ne {w : World} {p b mb : Nat} {sh : Bool} {sv : Value} {ps : List PK} {nx : Int} {cs : Array Value} (hb : Blk w p 106 cs) (hl : LstP w b mb sh sv ps nx) : ¬ ownL b mb sv p := by
  rintro (rfl | rfl | e)
  · have h1 := hl.blk
    unfold Blk at h1 hb
    rw [h1] at hb
    injection hb with hb
    injection hb with _ hb
    exact absurd hb (by decide)
  · exact idx_blk_ne hb hl.idx rfl
  · exact row_ne hl.owns hb (by decide) e
theorem base_next {bk bn nx : Int} {k : Key3} (h : bk = 4 → (bn < 0 → nx = bn) ∧ (0 ≤ nx → bn ≤ nx)) : bk = 4 → (bn < 0 → nextK nx k = bn) ∧ (0 ≤ nextK nx k → bn ≤ nextK nx k) := fun e => by
  obtain ⟨h1, h2⟩ := h e
  unfold nextK
  split
  · rename_i hc
    have := hc.2.1
    have := hc.2.2
    refine ⟨fun hn => by have := h1 hn; omega, fun _ => ?_⟩
    have := h2 (by omega)
    split
    · omega
    · rename_i h5
      split at * <;> omega
  · exact ⟨h1, h2⟩
end Ut
end Go.Proofs.YtgpemnmopogppaaGreatDoor
