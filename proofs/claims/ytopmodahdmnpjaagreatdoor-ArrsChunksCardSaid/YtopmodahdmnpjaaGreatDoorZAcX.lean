/- ArrsChunks: the law's walk. -/
import Derived.Test.YtopmodahdmnpjaaGreatDoorZAcJ
import Derived.Test.YtopmodahdmnpjaaGreatDoorZDpRq
import Derived.Test.YtopmodahdmnpjaaGreatDoorZDpCrQ
namespace Go.Proofs.YtopmodahdmnpjaaGreatDoor
open Go Go.RowKit
set_option maxRecDepth 100000
namespace As
open Dp
theorem number_anyC (n : Int) (w : World) : Calls Tryz.prog 6 #[.int .i64 n] w fun e w' => e = .returned (.agg #[.int .i64 2, .int .i64 n, .string ⟨#[]⟩, .slice none 0 0]) ∧ Below w.heap.size w w' := by
  have B := (Below.refl w.heap.size w).alloc (Nat.le_refl _) (.cells #[.int .i64 2, .int .i64 n, .string ⟨#[]⟩, .slice none 0 0] 24)
  have HN := Blk.new w 24 #[.int .i64 2, .int .i64 n, .string ⟨#[]⟩, .slice none 0 0]
  go_enter Tryz.func6, Tryz.ntmps6
  go_wp2_with fail
  generalize w.alloc (.cells #[.int .i64 2, .int .i64 n, .string ⟨#[]⟩, .slice none 0 0] 24) = w1 at *
  have e0 : w1.cell? ⟨w.heap.size, 0, none⟩ = _ := HN.cell 0
  have e1 : w1.cell? ⟨w.heap.size, 1, none⟩ = _ := HN.cell 1
  have e2 : w1.cell? ⟨w.heap.size, 2, none⟩ = _ := HN.cell 2
  have e3 : w1.cell? ⟨w.heap.size, 3, none⟩ = _ := HN.cell 3
  simp at e0 e1 e2 e3
  refine bodyPost_ret (v := .agg #[.int .i64 2, .int .i64 n, .string ⟨#[]⟩, .slice none 0 0]) (by simp [results, Tryz.results6, go_sem, e0, e1, e2, e3]) rfl ?_
  exact ⟨rfl, B⟩
theorem num_in (args : Array Value) (w : World) : (callFunc 6 args).run Tryz.prog w = .ok (.enter 6 args) w := enter_ofD Tryz.func6 (by kernel_rfl) rfl args w
theorem call_in (args : Array Value) (w : World) : (callFunc 5 args).run Tryz.prog w = .ok (.enter 5 args) w := enter_ofD Tryz.func5 (by kernel_rfl) rfl args w
theorem args_two {w : World} {t : TypeId} {k1 n1 k2 n2 : Int} {t1 t2 : ByteArray} {A1 A2 : Option Addr} {l1 c1 l2 c2 : Nat} : ArgsA (w.alloc (.cells #[.int .i64 k1, .int .i64 n1, .string t1, .slice A1 l1 c1, .int .i64 k2, .int .i64 n2, .string t2, .slice A2 l2 c2] t)) w.heap.size [(k1, n1, t1, A1, l1, c1), (k2, n2, t2, A2, l2, c2)] := by
  have h := Blk.new w t #[.int .i64 k1, .int .i64 n1, .string t1, .slice A1 l1 c1, .int .i64 k2, .int .i64 n2, .string t2, .slice A2 l2 c2]
  refine ⟨h.lt, fun i hi => ?_⟩
  have h1 : i < 2 := hi
  match i, h1 with
  | 0, _ => exact ⟨h.cell 0, h.cell 1, h.cell 2, h.cell 3⟩
  | 1, _ => exact ⟨h.cell 4, h.cell 5, h.cell 6, h.cell 7⟩
theorem args_oneC {w : World} {t : TypeId} {k n : Int} {t1 : ByteArray} {A : Option Addr} {l c : Nat} : ArgsA (w.alloc (.cells #[.int .i64 k, .int .i64 n, .string t1, .slice A l c] t)) w.heap.size [(k, n, t1, A, l, c)] := by
  have h := Blk.new w t #[.int .i64 k, .int .i64 n, .string t1, .slice A l c]
  refine ⟨h.lt, fun i hi => ?_⟩
  have h1 : i < 1 := hi
  obtain rfl : i = 0 := by omega
  exact ⟨h.cell 0, h.cell 1, h.cell 2, h.cell 3⟩
theorem items_of {k n : Int} {t : ByteArray} {l : List GI} (hf : Fit (.mk k n t l)) (hs : Sml (.mk k n t l)) : (∀ (i : Nat) (it : GI), l[i]? = some it → Fit it.val) ∧ (∀ (i : Nat) (it : GI), l[i]? = some it → Sml it.val) := by
  cases hf with
  | mk _ _ _ _ _ _ _ _ h2 =>
    cases hs with
    | mk _ _ _ _ _ h => exact ⟨h2, h⟩
theorem renum_nt (l : List GI) (i : Nat) (it : GI) (h : (renum l 0)[i]? = some it) : it.isText = false := by
  obtain ⟨it0, _, rfl⟩ := renum_get l 0 i it h
  rfl
theorem get_take {l : List GI} {j i : Nat} {it : GI} (h : (l.take j)[i]? = some it) : l[i]? = some it := by
  rw [List.getElem?_take] at h
  split at h
  · exact h
  · cases h
set_option maxHeartbeats 1000000 in
theorem merge_step {na : Int} {ta : ByteArray} {l : List GI} (hr : rightB (.mk 4 na ta l) = true) (hf : Fit (.mk 4 na ta l)) (hs : Sml (.mk 4 na ta l)) (i e q : Nat) (he : ((l.drop i).take e).length = e) (hq : l.take (i + e) = l.take q) (C : World) (hLS : ∀ wz, Below C.heap.size C wz → LibS wz) (g : Nat) (A7 Ax : Option Addr) (c7 cx : Nat)
    (h1 : VAt C C.heap.size (.mk 4 (l.take i).length ⟨#[]⟩ (renum (l.take i) 0)) (.agg #[.int .i64 4, .int .i64 (l.take i).length, .string ⟨#[]⟩, .slice A7 (l.take i).length c7])) (h2 : VAt C C.heap.size (.mk 4 e ⟨#[]⟩ (renum ((l.drop i).take e) 0)) (.agg #[.int .i64 4, .int .i64 e, .string ⟨#[]⟩, .slice Ax e cx]))
    (hA : ArgsA C g [(4, (l.take i).length, ⟨#[]⟩, A7, (l.take i).length, c7), (4, e, ⟨#[]⟩, Ax, e, cx)]) :
    Calls Tryz.prog 5 #[.string ⟨#[97, 114, 114, 97, 121, 95, 109, 101, 114, 103, 101]⟩, .slice (some ⟨g, 0, none⟩) 2 2] C fun e' w' => Below C.heap.size C w' ∧ ∃ A' c', e' = .returned (.tuple #[.agg #[.int .i64 4, .int .i64 (l.take q).length, .string ⟨#[]⟩, .slice A' (l.take q).length c'], .int .i64 0]) ∧
      VIn w' (fun b => C.heap.size ≤ b ∧ b < w'.heap.size) (.mk 4 (l.take q).length ⟨#[]⟩ (renum (l.take q) 0)) (.agg #[.int .i64 4, .int .i64 (l.take q).length, .string ⟨#[]⟩, .slice A' (l.take q).length c']) := by
  obtain ⟨hfi, hsi⟩ := items_of hf hs
  have hl := right_len hr
  have e1 : (renum (l.take i) 0).length = (l.take i).length := renum_len _ _
  have e2 : (renum ((l.drop i).take e) 0).length = e := by rw [renum_len, he]
  have hlt : (l.take i).length ≤ 2048 := by rw [List.length_take]; omega
  have hle : e ≤ 2048 := by rw [← he, List.length_take, List.length_drop]; omega
  have hrp := right_piece hr i e
  rw [he] at hrp
  have h := call_merge ((l.take i).length : Int) (e : Int) ⟨#[]⟩ ⟨#[]⟩ (renum (l.take i) 0) (renum ((l.drop i).take e) 0) A7 Ax c7 cx C hLS g 2 (by rw [e1]; exact h1) (by rw [e2]; exact h2)
    (fit_renum _ _ (by unfold In64; omega) hlt (fun i it h => hfi _ it (get_take h))) (fit_renum _ _ (by unfold In64; omega) (by rw [he]; exact hle) (fun j it h => hfi _ it (piece_get l (i, e) j it h)))
    (sml_renum _ _ hlt (fun i it h => hsi _ it (get_take h))) (sml_renum _ _ (by rw [he]; exact hle) (fun j it h => hsi _ it (piece_get l (i, e) j it h))) (right_take hr i) hrp
    (renum_nt _) (renum_nt _) (by rw [len_join, renum_join]; exact right_take hr (i + e)) (by rw [e1, e2]; exact hA)
  rw [len_join, renum_join, hq] at h
  exact h
structure CkS (wc : World) (l : List GI) (i : Nat) (wx : World) : Prop where
  low : Below wc.heap.size wc wx
  all : ∃ A7 c7, Blk wx wc.heap.size 24 #[.int .i64 4, .int .i64 (l.take i).length, .string ⟨#[]⟩, .slice A7 (l.take i).length c7] ∧
    VIn wx (fun b => wc.heap.size + 1 ≤ b ∧ b < wx.heap.size) (.mk 4 (l.take i).length ⟨#[]⟩ (renum (l.take i) 0)) (.agg #[.int .i64 4, .int .i64 (l.take i).length, .string ⟨#[]⟩, .slice A7 (l.take i).length c7])
theorem vin_up {w w' : World} {X : Nat} {g : GV} {x : Value} (h : VIn w (fun b => X ≤ b ∧ b < w.heap.size) g x) (hb : Below w.heap.size w w') : VIn w' (fun b => X ≤ b ∧ b < w'.heap.size) g x :=
  h.keep (fun b hb2 => ⟨hb2.1, Nat.lt_of_lt_of_le hb2.2 hb.size⟩) fun p hp => hb.cell hp.2
theorem vin_set {wB wx : World} {X bc : Nat} {g : GV} {v : Value} (hv : VIn wB (fun b => X ≤ b ∧ b < wB.heap.size) g v) (hk : Keeps (fun j => j = bc) wB wx) (h : bc < X) : VAt wx wx.heap.size g v :=
  (hv.keep (S' := (· < wx.heap.size)) (fun b h => Nat.lt_of_lt_of_le h.2 hk.size) (fun p hp => hk.cell hp.2 (fun e => by have := hp.1; omega))).at_ (fun _ _ h => h) (fun _ h => h)
set_option maxHeartbeats 40000000 in
theorem chunks_any (k na n : Int) (ta : ByteArray) (l : List GI) (A : Option Addr) (c : Nat) (w : World) (hX : VAt w w.heap.size (.mk k na ta l) (.agg #[.int .i64 k, .int .i64 na, .string ta, .slice A l.length c])) (hf : Fit (.mk k na ta l)) (hs : Sml (.mk k na ta l)) (hLS : LibS w) (hn64 : In64 n) :
    Calls Tryz.prog 3 #[.agg #[.int .i64 k, .int .i64 na, .string ta, .slice A l.length c], .int .i64 n] w fun e w' => e = .returned (.bool true) ∧ Below w.heap.size w w' := by
  have HLS := Lib.hid (fun wz (hz : Below w.heap.size w wz) => hLS.below' hz (Nat.le_refl _))
  have HX := Lib.hid (fun wz (hz : Below w.heap.size w wz) => vat_below hX hz hz.size hz.size)
  have HF := Lib.hid hf
  have HSm := Lib.hid hs
  have HB1 := Lib.hid ((Below.refl w.heap.size w).alloc (Nat.le_refl _) (.cells #[.int .i64 k, .int .i64 na, .string ta, .slice A l.length c] 24))
  have HN1 := Lib.hid (Blk.new w 24 #[.int .i64 k, .int .i64 na, .string ta, .slice A l.length c])
  have hcc : ∀ (C : World) (g : Nat), Below w.heap.size w C → ArgsA C g [(k, na, ta, A, l.length, c), (2, n, ⟨#[]⟩, none, 0, 0)] → Calls Tryz.prog 5 #[.string ⟨#[97, 114, 114, 97, 121, 95, 99, 104, 117, 110, 107]⟩, .slice (some ⟨g, 0, none⟩) 2 2] C fun e w' => ∃ v, e = .returned v ∧ ∃ (r0 r1 : Int) (RA : Option Addr) (rl rc : Nat) (er : Int), v = .tuple #[.agg #[.int .i64 r0, .int .i64 r1, .string ⟨#[]⟩, .slice RA rl rc], .int .i64 er] ∧ Below C.heap.size C w' ∧ ((er ≠ 0 ∧ (k ≠ 4 ∨ rightB (.mk k na ta l) = false ∨ n < 1 ∨ er = 1)) ∨ (er = 0 ∧ k = 4 ∧ rightB (.mk 4 na ta l) = true ∧ 1 ≤ n ∧ rightB (.mk 4 (chunksL n l).length ⟨#[]⟩ (chunksL n l)) = true ∧ r0 = 4 ∧ r1 = (chunksL n l).length ∧ rl = (chunksL n l).length ∧ VIn w' (fun b => C.heap.size ≤ b ∧ b < w'.heap.size) (.mk 4 (chunksL n l).length ⟨#[]⟩ (chunksL n l)) (.agg #[.int .i64 r0, .int .i64 r1, .string ⟨#[]⟩, .slice RA rl rc]))) := fun C g hC hA => by
    refine (call_chunk k na n ta l A c C (fun wz hz => HLS.out wz (hC.trans (hz.mono hC.size))) g 2 (HX.out C hC) hf hs hA).mono ?_
    rintro e w' ⟨hb, ⟨er, rfl, h1, h2⟩ | ⟨h1, h2, h3, h4, A', c', rfl, hv⟩⟩
    · exact ⟨_, rfl, 0, 0, none, 0, 0, er, rfl, hb, .inl ⟨h1, h2⟩⟩
    · exact ⟨_, rfl, 4, _, A', _, c', 0, rfl, hb, .inr ⟨rfl, h1, h2, h3, h4, rfl, rfl, rfl, hv⟩⟩
  have HCC := Lib.hid hcc
  clear hX hf hs hLS hcc
  go_enter Tryz.func3, Tryz.ntmps3
  go_upto_region 1 with fail
  generalize w.alloc (.cells #[.int .i64 k, .int .i64 na, .string ta, .slice A l.length c] 24) = w1 at *
  have k0 : w1.cell? ⟨w.heap.size, 0, none⟩ = some (.int .i64 k) := HN1.out.cell 0
  have k1 : w1.cell? ⟨w.heap.size, 1, none⟩ = some (.int .i64 na) := HN1.out.cell 1
  have k2 : w1.cell? ⟨w.heap.size, 2, none⟩ = some (.string ta) := HN1.out.cell 2
  have k3 : w1.cell? ⟨w.heap.size, 3, none⟩ = some (.slice A l.length c) := HN1.out.cell 3
  have x0 : w1.drew.cell? ⟨w.heap.size, 0, none⟩ = some (.int .i64 k) := HN1.out.drew.cell 0
  have x1 : w1.drew.cell? ⟨w.heap.size, 1, none⟩ = some (.int .i64 na) := HN1.out.drew.cell 1
  have x2 : w1.drew.cell? ⟨w.heap.size, 2, none⟩ = some (.string ta) := HN1.out.drew.cell 2
  have x3 : w1.drew.cell? ⟨w.heap.size, 3, none⟩ = some (.slice A l.length c) := HN1.out.drew.cell 3
  have HBd : Hid (Below w.heap.size w w1.drew) := HB1.out.drew
  have HBd1 : Hid (Below w1.heap.size w1 w1.drew) := drewU (Below.refl w1.heap.size w1) 1
  have hlt1 : w.heap.size < w1.heap.size := HN1.out.lt
  have hltd : w.heap.size < w1.drew.heap.size := HN1.out.lt
  go_cut [5, 6] (fun r5 r6 wx => ∃ (bc : Nat) (r0 r1 : Int) (RA : Option Addr) (rl rc : Nat) (er : Int), r5 = .pointer (some ⟨bc, 0, none⟩) ∧ r6 = .int .i64 er ∧ Hid (Blk wx bc 24 #[.int .i64 r0, .int .i64 r1, .string ⟨#[]⟩, .slice RA rl rc]) ∧ Hid (Below w1.heap.size w1 wx) ∧ Hid ((er ≠ 0 ∧ (k ≠ 4 ∨ rightB (.mk k na ta l) = false ∨ n < 1 ∨ er = 1)) ∨ (er = 0 ∧ k = 4 ∧ rightB (.mk 4 na ta l) = true ∧ 1 ≤ n ∧ rightB (.mk 4 (chunksL n l).length ⟨#[]⟩ (chunksL n l)) = true ∧ r0 = 4 ∧ r1 = (chunksL n l).length ∧ rl = (chunksL n l).length ∧ VAt wx wx.heap.size (.mk 4 (chunksL n l).length ⟨#[]⟩ (chunksL n l)) (.agg #[.int .i64 r0, .int .i64 r1, .string ⟨#[]⟩, .slice RA rl rc]))))
  case first =>
    go_region_law (first
      | (refine step_callD rfl 6 _ _ rfl #[.int .i64 n] (by simp [Act.eval, Act.put]) (num_in _ _) _ (retv (number_anyC n _)) ?_; rintro v wA ⟨rfl, hbA⟩; have HBA : Hid (Below w.heap.size w wA) := (by first | exact HBd.out.trans (hbA.mono HBd.out.size) | exact (HBd.out.alloc HBd.out.size _).trans (hbA.mono (HBd.out.alloc HBd.out.size _).size)); have HBA1 : Hid (Below w1.heap.size w1 wA) := (by first | exact HBd1.out.trans (hbA.mono HBd1.out.size) | exact (HBd1.out.alloc HBd1.out.size _).trans (hbA.mono (HBd1.out.alloc HBd1.out.size _).size)); have HNA : Hid (Blk wA w.heap.size 24 #[.int .i64 k, .int .i64 na, .string ta, .slice A l.length c]) := (by first | exact HN1.out.drew.keeps (Keeps.of_below (S := fun _ => False) hbA) id | exact (HN1.out.drew.alloc _).keeps (Keeps.of_below (S := fun _ => False) hbA) id); have ya0 := HNA.out.cell 0; have ya1 := HNA.out.cell 1; have ya2 := HNA.out.cell 2; have ya3 := HNA.out.cell 3; have hltA : w.heap.size < wA.heap.size := HNA.out.lt)
      | (refine step_callD rfl 5 _ _ rfl #[.string ⟨#[97, 114, 114, 97, 121, 95, 99, 104, 117, 110, 107]⟩, .slice (some ⟨wA.heap.size, 0, none⟩) 2 2] (by simp [Act.eval, Act.put]) (call_in _ _) _ (HCC.out _ _ (by first | exact HBA.out.alloc HBA.out.size _ | exact (HBA.out.alloc HBA.out.size _).alloc (HBA.out.alloc HBA.out.size _).size _) (by first | exact args_two | exact args_two.below ((Below.refl _ _).alloc (Nat.le_refl _) _) (Nat.le_refl _) | (have h := @args_two (wA.alloc (.cells #[.int .i64 0, .int .i64 0, .string ⟨#[]⟩, .slice none 0 0] 24)) 24 k na 2 n ta ⟨#[]⟩ A none l.length c 0 0; rw [World.size_alloc] at h; exact h))) ?_; rintro v wB ⟨r0, r1, RA, rl, rc, er, rfl, hbC, hpd⟩; have HWB : Hid (Below w1.heap.size w1 wB) := (by first | exact (HBA1.out.alloc HBA1.out.size _).trans (hbC.mono (HBA1.out.alloc HBA1.out.size _).size) | exact ((HBA1.out.alloc HBA1.out.size _).alloc (HBA1.out.alloc HBA1.out.size _).size _).trans (hbC.mono ((HBA1.out.alloc HBA1.out.size _).alloc (HBA1.out.alloc HBA1.out.size _).size _).size)); have hA1s := HBA1.out.size; have hWBs := HWB.out.size; have hwBA := hbC.size; (try (have za : Hid (Blk wB w1.heap.size 24 #[.int .i64 0, .int .i64 0, .string ⟨#[]⟩, .slice none 0 0]) := ((((Blk.new w1.drew 24 #[.int .i64 0, .int .i64 0, .string ⟨#[]⟩, .slice none 0 0]).keeps (Keeps.of_below (S := fun _ => False) hbA) id).alloc (.cells #[.int .i64 k, .int .i64 na, .string ta, .slice A l.length c, .int .i64 2, .int .i64 n, .string ⟨#[]⟩, .slice none 0 0] 24)).keeps (Keeps.of_below (S := fun _ => False) hbC) id); have za0 := za.out.frozen 0; have za1 := za.out.frozen 1; have za2 := za.out.frozen 2; have za3 := za.out.frozen 3; have zac0 := za.out.cell 0; have zac1 := za.out.cell 1; have zac2 := za.out.cell 2; have zac3 := za.out.cell 3)); (try (have zb := Lib.hid ((((Blk.new wA 24 #[.int .i64 0, .int .i64 0, .string ⟨#[]⟩, .slice none 0 0]).alloc (.cells #[.int .i64 k, .int .i64 na, .string ta, .slice A l.length c, .int .i64 2, .int .i64 n, .string ⟨#[]⟩, .slice none 0 0] 24))).keeps (Keeps.of_below (S := fun _ => False) hbC) id); have zb0 := zb.out.frozen 0; have zb1 := zb.out.frozen 1; have zb2 := zb.out.frozen 2; have zb3 := zb.out.frozen 3; have zbc0 := zb.out.cell 0; have zbc1 := zb.out.cell 1; have zbc2 := zb.out.cell 2; have zbc3 := zb.out.cell 3)); (try (have zc : Hid (Blk wB (wA.heap.size + 1) 24 #[.int .i64 0, .int .i64 0, .string ⟨#[]⟩, .slice none 0 0]) := (by have h := (Blk.new (wA.alloc (.cells #[.int .i64 k, .int .i64 na, .string ta, .slice A l.length c, .int .i64 2, .int .i64 n, .string ⟨#[]⟩, .slice none 0 0] 24)) 24 #[.int .i64 0, .int .i64 0, .string ⟨#[]⟩, .slice none 0 0]).keeps (Keeps.of_below (S := fun _ => False) hbC) id; rw [World.size_alloc] at h; exact h); have zc0 := zc.out.frozen 0; have zc1 := zc.out.frozen 1; have zc2 := zc.out.frozen 2; have zc3 := zc.out.frozen 3; have zcc0 := zc.out.cell 0; have zcc1 := zc.out.cell 1; have zcc2 := zc.out.cell 2; have zcc3 := zc.out.cell 3)))
      | (refine step_callD rfl 5 _ _ rfl #[.string ⟨#[97, 114, 114, 97, 121, 95, 99, 104, 117, 110, 107]⟩, .slice (some ⟨wA.heap.size + 1, 0, none⟩) 2 2] (by simp [Act.eval, Act.put]) (call_in _ _) _ (HCC.out _ _ (by first | exact HBA.out.alloc HBA.out.size _ | exact (HBA.out.alloc HBA.out.size _).alloc (HBA.out.alloc HBA.out.size _).size _) (by first | exact args_two | exact args_two.below ((Below.refl _ _).alloc (Nat.le_refl _) _) (Nat.le_refl _) | (have h := @args_two (wA.alloc (.cells #[.int .i64 0, .int .i64 0, .string ⟨#[]⟩, .slice none 0 0] 24)) 24 k na 2 n ta ⟨#[]⟩ A none l.length c 0 0; rw [World.size_alloc] at h; exact h))) ?_; rintro v wB ⟨r0, r1, RA, rl, rc, er, rfl, hbC, hpd⟩; have HWB : Hid (Below w1.heap.size w1 wB) := (by first | exact (HBA1.out.alloc HBA1.out.size _).trans (hbC.mono (HBA1.out.alloc HBA1.out.size _).size) | exact ((HBA1.out.alloc HBA1.out.size _).alloc (HBA1.out.alloc HBA1.out.size _).size _).trans (hbC.mono ((HBA1.out.alloc HBA1.out.size _).alloc (HBA1.out.alloc HBA1.out.size _).size _).size)); have hA1s := HBA1.out.size; have hWBs := HWB.out.size; have hwBA := hbC.size; (try (have za : Hid (Blk wB w1.heap.size 24 #[.int .i64 0, .int .i64 0, .string ⟨#[]⟩, .slice none 0 0]) := ((((Blk.new w1.drew 24 #[.int .i64 0, .int .i64 0, .string ⟨#[]⟩, .slice none 0 0]).keeps (Keeps.of_below (S := fun _ => False) hbA) id).alloc (.cells #[.int .i64 k, .int .i64 na, .string ta, .slice A l.length c, .int .i64 2, .int .i64 n, .string ⟨#[]⟩, .slice none 0 0] 24)).keeps (Keeps.of_below (S := fun _ => False) hbC) id); have za0 := za.out.frozen 0; have za1 := za.out.frozen 1; have za2 := za.out.frozen 2; have za3 := za.out.frozen 3; have zac0 := za.out.cell 0; have zac1 := za.out.cell 1; have zac2 := za.out.cell 2; have zac3 := za.out.cell 3)); (try (have zb := Lib.hid ((((Blk.new wA 24 #[.int .i64 0, .int .i64 0, .string ⟨#[]⟩, .slice none 0 0]).alloc (.cells #[.int .i64 k, .int .i64 na, .string ta, .slice A l.length c, .int .i64 2, .int .i64 n, .string ⟨#[]⟩, .slice none 0 0] 24))).keeps (Keeps.of_below (S := fun _ => False) hbC) id); have zb0 := zb.out.frozen 0; have zb1 := zb.out.frozen 1; have zb2 := zb.out.frozen 2; have zb3 := zb.out.frozen 3; have zbc0 := zb.out.cell 0; have zbc1 := zb.out.cell 1; have zbc2 := zb.out.cell 2; have zbc3 := zb.out.cell 3)); (try (have zc : Hid (Blk wB (wA.heap.size + 1) 24 #[.int .i64 0, .int .i64 0, .string ⟨#[]⟩, .slice none 0 0]) := (by have h := (Blk.new (wA.alloc (.cells #[.int .i64 k, .int .i64 na, .string ta, .slice A l.length c, .int .i64 2, .int .i64 n, .string ⟨#[]⟩, .slice none 0 0] 24)) 24 #[.int .i64 0, .int .i64 0, .string ⟨#[]⟩, .slice none 0 0]).keeps (Keeps.of_below (S := fun _ => False) hbC) id; rw [World.size_alloc] at h; exact h); have zc0 := zc.out.frozen 0; have zc1 := zc.out.frozen 1; have zc2 := zc.out.frozen 2; have zc3 := zc.out.frozen 3; have zcc0 := zc.out.cell 0; have zcc1 := zc.out.cell 1; have zcc2 := zc.out.cell 2; have zcc3 := zc.out.cell 3))))
    all_goals
      go_wp2_with fail
      simp only [Act.put, List.getElem_toArray, List.getElem_cons_succ, List.getElem_cons_zero, List.setIfInBounds_toArray, List.set_cons_succ, List.set_cons_zero]
      go_meet
      first
        | exact ⟨w1.heap.size, r0, r1, RA, rl, rc, er, rfl, rfl, (store4 za.out (.int .i64 r0) (.int .i64 r1) (.string ⟨#[]⟩) (.slice RA rl rc)).1, HWB.out.trans ((store4 za.out (.int .i64 r0) (.int .i64 r1) (.string ⟨#[]⟩) (.slice RA rl rc)).2.below HWB.out.size (fun j e => by omega)), hpd.imp id (fun ⟨q1, q2, q3, q4, q5, q6, q7, q8, hv⟩ => ⟨q1, q2, q3, q4, q5, q6, q7, q8, vin_set hv (store4 za.out (.int .i64 r0) (.int .i64 r1) (.string ⟨#[]⟩) (.slice RA rl rc)).2 (by simp only [World.size_alloc]; omega)⟩)⟩
        | exact ⟨wA.heap.size, r0, r1, RA, rl, rc, er, rfl, rfl, (store4 zb.out (.int .i64 r0) (.int .i64 r1) (.string ⟨#[]⟩) (.slice RA rl rc)).1, HWB.out.trans ((store4 zb.out (.int .i64 r0) (.int .i64 r1) (.string ⟨#[]⟩) (.slice RA rl rc)).2.below HWB.out.size (fun j e => by omega)), hpd.imp id (fun ⟨q1, q2, q3, q4, q5, q6, q7, q8, hv⟩ => ⟨q1, q2, q3, q4, q5, q6, q7, q8, vin_set hv (store4 zb.out (.int .i64 r0) (.int .i64 r1) (.string ⟨#[]⟩) (.slice RA rl rc)).2 (by simp only [World.size_alloc]; omega)⟩)⟩
        | exact ⟨wA.heap.size + 1, r0, r1, RA, rl, rc, er, rfl, rfl, (store4 zc.out (.int .i64 r0) (.int .i64 r1) (.string ⟨#[]⟩) (.slice RA rl rc)).1, HWB.out.trans ((store4 zc.out (.int .i64 r0) (.int .i64 r1) (.string ⟨#[]⟩) (.slice RA rl rc)).2.below HWB.out.size (fun j e => by omega)), hpd.imp id (fun ⟨q1, q2, q3, q4, q5, q6, q7, q8, hv⟩ => ⟨q1, q2, q3, q4, q5, q6, q7, q8, vin_set hv (store4 zc.out (.int .i64 r0) (.int .i64 r1) (.string ⟨#[]⟩) (.slice RA rl rc)).2 (by simp only [World.size_alloc]; omega)⟩)⟩
        | exact ⟨wB.heap.size, r0, r1, RA, rl, rc, er, rfl, rfl, Blk.new wB _ _, HWB.out.alloc HWB.out.size _, hpd.imp id (fun ⟨q1, q2, q3, q4, q5, q6, q7, q8, hv⟩ => ⟨q1, q2, q3, q4, q5, q6, q7, q8, vat_below (hv.at_ (B := wB.heap.size) (fun b h _ => h) (fun b h => h.2)) ((Below.refl wB.heap.size wB).alloc (Nat.le_refl _) _) (by simp only [World.size_alloc]; omega) (by simp only [World.size_alloc]; omega)⟩)⟩
  case rest =>
    obtain ⟨bc, r0, r1, RA, rl, rc, er, rfl, rfl, HBc, HWc, HPd⟩ := hcut
    have HNc := Lib.hid (HN1.out.keeps (Keeps.of_below (S := fun _ => False) HWc.out) id)
    have HBw := Lib.hid (HB1.out.trans (HWc.out.mono HB1.out.size))
    have a0 := HNc.out.cell 0
    have a1 := HNc.out.cell 1
    have a2 := HNc.out.cell 2
    have a3 := HNc.out.cell 3
    clear HB1 HN1 HCC HBd HBd1 k0 k1 k2 k3 x0 x1 x2 x3 hltd
    rcases HPd.out with ⟨hne, hcase⟩ | ⟨rfl, rfl, hr, hn1, hrc, rfl, rfl, rfl, hv⟩
    · clear HPd
      have HRt := Lib.hid (rright_any (Nat.le_refl _) (HX.out _ HBw.out) HF.out _ (Below.refl _ _))
      by_cases hk : k = 4
      · subst hk
        cases hrb : rightB (.mk 4 na ta l) with
        | false =>
          rw [hrb] at HRt
          go_wp2_with (first
            | (go_at_call 7; refine HRt.out.mono ?_; rintro e wr ⟨rfl, hbr⟩)
            | (go_at_call 8; refine (alive_any 0 _ trivial).mono ?_; rintro e wl ⟨rfl, hbl⟩))
          go_ret
          exact ⟨rfl, (HBw.out.trans (hbr.mono HBw.out.size)).trans (hbl.mono (Nat.le_trans HBw.out.size hbr.size))⟩
        | true =>
          rw [hrb] at HRt
          by_cases hn : n < 1
          · go_wp2_with (first
              | (go_at_call 7; refine HRt.out.mono ?_; rintro e wr ⟨rfl, hbr⟩)
              | (go_at_call 8; refine (alive_any 0 _ trivial).mono ?_; rintro e wl ⟨rfl, hbl⟩))
            go_ret
            exact ⟨rfl, (HBw.out.trans (hbr.mono HBw.out.size)).trans (hbl.mono (Nat.le_trans HBw.out.size hbr.size))⟩
          · obtain rfl : er = 1 := by
              rcases hcase with h | h | h | h
              · exact absurd rfl h
              · rw [hrb] at h
                cases h
              · exact absurd h hn
              · exact h
            go_wp2_with (first
              | (go_at_call 7; refine HRt.out.mono ?_; rintro e wr ⟨rfl, hbr⟩)
              | (go_at_call 8; refine (alive_any 0 _ trivial).mono ?_; rintro e wl ⟨rfl, hbl⟩))
            go_ret
            exact ⟨rfl, (HBw.out.trans (hbr.mono HBw.out.size)).trans (hbl.mono (Nat.le_trans HBw.out.size hbr.size))⟩
      · go_wp2_with (go_at_call 8; refine (alive_any 0 _ trivial).mono ?_; rintro e wl ⟨rfl, hbl⟩)
        go_ret
        exact ⟨rfl, HBw.out.trans (hbl.mono HBw.out.size)⟩
    · clear HPd
      have hl := right_len hr
      obtain ⟨hfi, hsi⟩ := items_of HF.out HSm.out
      obtain ⟨m, hm⟩ : ∃ m, (min n 2048).toNat = m := ⟨_, rfl⟩
      have hm1 : 1 ≤ m := by omega
      have hmn : (m : Int) ≤ n := by omega
      have hcn : (chunksL n l).length = (parts m l.length).length := by rw [chunksL, renum_len, List.length_map, hm]
      have hc2 : (chunksL n l).length ≤ 2048 := by
        rw [hcn]
        have := partsF_len m l.length l.length 0
        unfold parts
        omega
      have hcg : ∀ (j : Nat) (x : Nat × Nat), (parts m l.length)[j]? = some x → (chunksL n l)[j]? = some (.mk false j ⟨#[]⟩ (chunkV l x).val) := fun j x h => by
        have h1 : ((parts m l.length).map (chunkV l))[j]? = some (chunkV l x) := by rw [List.getElem?_map, h]; rfl
        have h2 := (List.getElem?_eq_some_iff.1 h1).1
        unfold chunksL
        rw [hm]
        obtain ⟨it, hit⟩ : ∃ it, (renum ((parts m l.length).map (chunkV l)) 0)[j]? = some it := ⟨_, List.getElem?_eq_getElem (by rw [renum_len]; exact h2)⟩
        obtain ⟨it0, h3, rfl⟩ := renum_get _ 0 j it hit
        rw [h1] at h3
        cases h3
        rw [hit, Nat.zero_add]
      cases hv with
      | mk _ _ _ _ _ _ bcc offc Cc hcc hnn hAc hic hvc =>
      have HIc := Lib.hid hic
      have HVc := Lib.hid hvc
      have HAc := Lib.hid hAc
      have HCg := Lib.hid hcg
      have HS0 : Hid (CkS wc l 0 (wc.alloc (.cells #[.int .i64 4, .int .i64 0, .string ⟨#[]⟩, .slice none 0 0] 24))) := by
        refine ⟨(Below.refl _ _).alloc (Nat.le_refl _) _, none, 0, ?_, ?_⟩
        · exact Blk.new wc 24 #[.int .i64 4, .int .i64 0, .string ⟨#[]⟩, .slice none 0 0]
        · exact VIn.mk 4 0 ⟨#[]⟩ [] none 0 0 0 (fun _ => .nilIface) (Nat.zero_le _) (Nat.zero_le _) (fun h => absurd h (by decide)) (fun i it h => by simp at h) (fun i it h => by simp at h)
      have hbl := HBc.out.lt
      have y3 : (wc.alloc (.cells #[.int .i64 4, .int .i64 0, .string ⟨#[]⟩, .slice none 0 0] 24)).cell? ⟨bc, 3, none⟩ = some (.slice RA (chunksL n l).length rc) := (HBc.out.alloc _).cell 3
      clear hic hvc hAc hcg hnn hrc
      generalize hcnt : (chunksL n l).length = cnt at *
      have HCn := Lib.hid hcn
      clear hcn hcnt
      clear a0 a1 a2 a3
      go_upto_region 5 with fail
      generalize wc.alloc (.cells #[.int .i64 4, .int .i64 0, .string ⟨#[]⟩, .slice none 0 0] 24) = w7 at *
      go_wp2_with fail
      go_loopw [44] (fun xj wx => ∃ (j i f : Nat) (pre : List (Nat × Nat)), j ≤ cnt ∧ xj = .int .i64 j ∧ pre.length = j ∧ pre ++ partsF m l.length f i = parts m l.length ∧ l.length ≤ i + f ∧ Hid (CkS wc l i wx)) (fun xj _ => cnt - (ixOf xj).toNat)
      case atStart => exact ⟨0, 0, l.length, [], Nat.zero_le _, rfl, rfl, rfl, by omega, HS0⟩
      case round =>
        clear HS0 y3
        obtain ⟨j, i, f, pre, hj, rfl, hpj, hpp, hlf, HS⟩ := hrel
        have hwr := HS.out.low.size
        by_cases hlt : j < cnt
        · obtain ⟨f', rfl, hiL⟩ : ∃ f', f = f' + 1 ∧ i < l.length := by
            have h1 := congrArg List.length hpp
            rw [List.length_append, hpj, ← HCn.out] at h1
            cases f with
            | zero =>
              rw [partsF] at h1
              simp at h1
              omega
            | succ f' =>
              refine ⟨f', rfl, Nat.lt_of_not_le fun h => ?_⟩
              rw [partsF_end _ _ _ _ (by omega)] at h1
              simp at h1
              omega
          rw [partsF, if_pos hiL] at hpp
          obtain ⟨e, he⟩ : ∃ e, e = min m (l.length - i) := ⟨_, rfl⟩
          rw [← he] at hpp
          have hpl : ((l.drop i).take e).length = e := piece_len l (i, e) (by show i + e ≤ _; omega)
          have hq : l.take (i + e) = l.take (i + m) := by
            by_cases h : m ≤ l.length - i
            · rw [show e = m by omega]
            · rw [List.take_of_length_le (by omega), List.take_of_length_le (by omega)]
          have he1 : 1 ≤ e := by omega
          have he2 : e ≤ m := by omega
          clear he
          have hget := HCg.out j (i, e) (by rw [← hpp, List.getElem?_append_right (by omega), hpj, Nat.sub_self]; rfl)
          obtain ⟨rfl, hbB⟩ := HAc.out (by omega)
          obtain ⟨c0, c1, c2, v0, v1, v2, v3, ev, c3, c4, c5, c6⟩ := (HIc.out j _ hget).below HS.out.low hbB
          have hform := HVc.out j _ hget
          have hfm : VAt wc wc.heap.size (.mk 4 ((l.drop i).take e).length ⟨#[]⟩ (renum ((l.drop i).take e) 0)) (Cc j) := hform
          rw [ev, hpl] at hfm
          obtain ⟨rfl, rfl, rfl, Ax, cx, rfl⟩ := vat_form2 hfm
          have hrl : (renum ((l.drop i).take e) 0).length = e := by rw [renum_len, hpl]
          rw [hrl] at hfm c6
          simp only [GI.isText, GI.int, GI.text] at c0 c1 c2
          have HFm := Lib.hid hfm
          obtain ⟨A7, c7, hb7, hv7⟩ := HS.out.all
          obtain ⟨p, hp⟩ : ∃ p, (l.take i).length = p := ⟨_, rfl⟩
          obtain ⟨q, hqq⟩ : ∃ q, (l.take (i + m)).length = q := ⟨_, rfl⟩
          rw [hp] at hb7 hv7
          have HP := Lib.hid hp
          have HQ := Lib.hid hqq
          clear hp hqq
          have HB7 := Lib.hid hb7
          have HV7 := Lib.hid hv7
          have HLw := Lib.hid HS.out.low
          have hjI : (j : Int) < (cnt : Int) := by omega
          have hgt : ¬ (n < (e : Int)) := by omega
          have hz : ¬ ((e : Int) = 0) := by omega
          have hz2 : ¬ (e = 0) := by omega
          have hbi := (Below.refl wr.heap.size wr).alloc (Nat.le_refl _) (.cells #[.bool false, .int .i64 j, .string ⟨#[]⟩, .int .i64 4, .int .i64 e, .string ⟨#[]⟩, .slice Ax e cx] 34)
          have HIi := Lib.hid (Blk.new wr 34 #[.bool false, .int .i64 j, .string ⟨#[]⟩, .int .i64 4, .int .i64 e, .string ⟨#[]⟩, .slice Ax e cx])
          have HBi := Lib.hid hbi
          have HIz := Blk.new wr 34 #[.bool false, .int .i64 0, .string ⟨#[]⟩, .int .i64 0, .int .i64 0, .string ⟨#[]⟩, .slice none 0 0]
          have zf0 := HIz.frozen 0
          have zf1 := HIz.frozen 1
          have zf2 := HIz.frozen 2
          have zf3 := HIz.frozen 3
          have zf4 := HIz.frozen 4
          have zf5 := HIz.frozen 5
          have zf6 := HIz.frozen 6
          clear hform hfm ev HIz hbi hb7 hv7 HS hget
          go_upto_region 8 with fail
          have d0 := HIi.out.cell 0
          have d1 := HIi.out.cell 1
          have d2 := HIi.out.cell 2
          have d3 := HIi.out.cell 3
          have d4 := HIi.out.cell 4
          have d5 := HIi.out.cell 5
          have d6 := HIi.out.cell 6
          have HB7i := Lib.hid (blk_below HB7.out HBi.out)
          have HV7i := Lib.hid (vin_up HV7.out HBi.out)
          have HLi := Lib.hid (HLw.out.trans (HBi.out.mono hwr))
          have hisz : wr.heap.size ≤ (wr.alloc (.cells #[.bool false, .int .i64 j, .string ⟨#[]⟩, .int .i64 4, .int .i64 e, .string ⟨#[]⟩, .slice Ax e cx] 34)).heap.size := HBi.out.size
          clear zf0 zf1 zf2 zf3 zf4 zf5 zf6 c0 c1 c2 c3 c4 c5 c6 HB7 HV7 HLw
          generalize wr.alloc (.cells #[.bool false, .int .i64 j, .string ⟨#[]⟩, .int .i64 4, .int .i64 e, .string ⟨#[]⟩, .slice Ax e cx] 34) = wi at *
          have b0 := HB7i.out.cell 0
          have b1 := HB7i.out.cell 1
          have b2 := HB7i.out.cell 2
          have b3 := HB7i.out.cell 3
          have hbC := (Below.refl wi.heap.size wi).alloc (Nat.le_refl _) (.cells #[.int .i64 4, .int .i64 p, .string ⟨#[]⟩, .slice A7 p c7, .int .i64 4, .int .i64 e, .string ⟨#[]⟩, .slice Ax e cx] 24)
          have HLC := Lib.hid (HLi.out.trans (hbC.mono HLi.out.size))
          have HB7C := Lib.hid (blk_below HB7i.out hbC)
          have hms := merge_step hr HF.out HSm.out i e (i + m) hpl hq (wi.alloc (.cells #[.int .i64 4, .int .i64 p, .string ⟨#[]⟩, .slice A7 p c7, .int .i64 4, .int .i64 e, .string ⟨#[]⟩, .slice Ax e cx] 24)) (fun wz hz => HLS.out wz (HBw.out.trans ((HLC.out.trans (hz.mono HLC.out.size)).mono HBw.out.size))) wi.heap.size A7 Ax c7 cx
            (by rw [HP.out]; exact (vin_up HV7i.out hbC).at_ (fun b h _ => h) (fun b h => h.2)) (vat_below HFm.out HLC.out HLC.out.size HLC.out.size) (by rw [HP.out]; exact args_two)
          rw [HQ.out] at hms
          have HMs := Lib.hid hms
          clear hms
          have HCs : Hid (wi.heap.size ≤ (wi.alloc (.cells #[.int .i64 4, .int .i64 p, .string ⟨#[]⟩, .slice A7 p c7, .int .i64 4, .int .i64 e, .string ⟨#[]⟩, .slice Ax e cx] 24)).heap.size) := hbC.size
          clear hbC HV7i HFm
          go_wp2_with (go_at_call 5; refine HMs.out.mono ?_; rintro e' w5 ⟨hb5, A8, c8, rfl, hv8⟩; have HB75 := Lib.hid (blk_below HB7C.out hb5); have HL5 := Lib.hid (HLC.out.trans (hb5.mono HLC.out.size)); have HV8 := Lib.hid hv8; have h5s := hb5.size; clear hb5 hv8; have q0 := HB75.out.frozen 0; have q1 := HB75.out.frozen 1; have q2 := HB75.out.frozen 2; have q3 := HB75.out.frozen 3; have r0 := HB75.out.cell 0; have r1 := HB75.out.cell 1; have r2 := HB75.out.cell 2; have r3 := HB75.out.cell 3)
          have HS4 := store4 HB75.out (.int .i64 4) (.int .i64 q) (.string ⟨#[]⟩) (.slice A8 q c8)
          have hCs := HCs.out
          have hLis := HLi.out.size
          have HSn : Hid (CkS wc l (i + m) ((((w5.setCell ⟨wc.heap.size, 0, none⟩ (.int .i64 4)).setCell ⟨wc.heap.size, 1, none⟩ (.int .i64 q)).setCell ⟨wc.heap.size, 2, none⟩ (.string ⟨#[]⟩)).setCell ⟨wc.heap.size, 3, none⟩ (.slice A8 q c8))) := by
            refine ⟨HL5.out.trans (HS4.2.below HL5.out.size (fun j e => by omega)), A8, c8, ?_⟩
            rw [HQ.out]
            refine ⟨HS4.1, ?_⟩
            have hlt9 := HB7i.out.lt
            exact HV8.out.keep (fun b h => ⟨by have := h.1; omega, Nat.lt_of_lt_of_le h.2 HS4.2.size⟩) (fun p hp => HS4.2.cell hp.2 (fun e => by have := hp.1; omega))
          go_roundw
          case rel => exact ⟨j + 1, i + m, f', pre ++ [(i, e)], by omega, by go_num, by rw [List.length_append, hpj]; rfl, by rw [← hpp]; simp, by omega, HSn⟩
          case measure => simp [ixOf] <;> omega
        · obtain rfl : j = cnt := by omega
          have hiL : l.length ≤ i := by
            refine Nat.le_of_not_lt fun hiL => ?_
            have h1 := congrArg List.length hpp
            rw [List.length_append, hpj, ← HCn.out] at h1
            cases f with
            | zero => omega
            | succ f' =>
              rw [partsF, if_pos hiL] at h1
              simp at h1
          have hti : l.take i = l := List.take_of_length_le hiL
          have hIx : ¬ ((j : Int) < (j : Int)) := by omega
          obtain ⟨A7, c7, hb7, hv7⟩ := HS.out.all
          rw [hti] at hb7 hv7
          have HB7 := Lib.hid hb7
          have HV7 := Lib.hid hv7
          have HLw := Lib.hid HS.out.low
          clear hb7 hv7 HS hti
          have HNr := Lib.hid (blk_below HNc.out HLw.out)
          have a0 := HNr.out.cell 0
          have a1 := HNr.out.cell 1
          have a2 := HNr.out.cell 2
          have a3 := HNr.out.cell 3
          have hbC := (Below.refl wr.heap.size wr).alloc (Nat.le_refl _) (.cells #[.int .i64 4, .int .i64 na, .string ta, .slice A l.length c] 24)
          have HLC := Lib.hid (HLw.out.trans (hbC.mono hwr))
          have HWC := Lib.hid (HBw.out.trans (HLC.out.mono HBw.out.size))
          have HB7C := Lib.hid (blk_below HB7.out hbC)
          have HV7C := Lib.hid (vin_up HV7.out hbC)
          have HVs := Lib.hid (call_vals na ta l A c (wr.alloc (.cells #[.int .i64 4, .int .i64 na, .string ta, .slice A l.length c] 24)) (fun wz hz => HLS.out wz (HWC.out.trans (hz.mono HWC.out.size))) wr.heap.size 1 (HX.out _ HWC.out) HF.out HSm.out hr args_oneC)
          have hrr := right_take hr l.length
          rw [List.take_length] at hrr
          have HRr := Lib.hid (same_right hrr)
          clear hbC hrr HB7 HV7
          go_upto_region 15 with (go_at_call 5; refine HVs.out.mono ?_; rintro e' w5 ⟨hb5, A9, c9, rfl, hv9⟩; have HB75 := Lib.hid (blk_below HB7C.out hb5); have HW5 := Lib.hid (HWC.out.trans (hb5.mono HWC.out.size)); have HV9 := Lib.hid (hv9.at_ (B := w5.heap.size) (fun b h _ => h) (fun b h => h.2)); have HV75 := Lib.hid (vin_up HV7C.out hb5); clear hb5 hv9)
          have hb6 := (Below.refl w5.heap.size w5).alloc (Nat.le_refl _) (.cells #[.int .i64 4, .int .i64 l.length, .string ⟨#[]⟩, .slice A9 l.length c9] 24)
          have HB76 := Lib.hid (blk_below HB75.out hb6)
          have HW6 := Lib.hid (HW5.out.trans (hb6.mono HW5.out.size))
          have HN6 := Lib.hid (Blk.new w5 24 #[.int .i64 4, .int .i64 l.length, .string ⟨#[]⟩, .slice A9 l.length c9])
          have HV96 := Lib.hid (vat_below HV9.out hb6 hb6.size hb6.size)
          have HV76 := Lib.hid ((vin_up HV75.out hb6).at_ (fun b h _ => h) (fun b h => h.2))
          clear hb6 HV9 HV75 HB75 HW5 HVs HB7C HV7C HLC HWC HLw HNr a0 a1 a2 a3
          generalize w5.alloc (.cells #[.int .i64 4, .int .i64 l.length, .string ⟨#[]⟩, .slice A9 l.length c9] 24) = w6 at *
          have q0 := HN6.out.cell 0
          have q1 := HN6.out.cell 1
          have q2 := HN6.out.cell 2
          have q3 := HN6.out.cell 3
          have r0 := HB76.out.cell 0
          have r1 := HB76.out.cell 1
          have r2 := HB76.out.cell 2
          have r3 := HB76.out.cell 3
          have hsm := rsame_all (Nat.le_refl _) HV96.out HV76.out _ (Below.refl _ _)
          rw [HRr.out] at hsm
          have HSa := Lib.hid hsm
          clear hsm
          go_wp2_with (first
            | (go_at_call 9; refine HSa.out.mono ?_; rintro e ws ⟨rfl, hbs⟩)
            | (go_at_call 8; refine (alive_any 0 _ trivial).mono ?_; rintro e wl ⟨rfl, hbl2⟩))
          go_ret
          exact ⟨rfl, (HW6.out.trans (hbs.mono HW6.out.size)).trans (hbl2.mono (Nat.le_trans HW6.out.size hbs.size))⟩
end As
end Go.Proofs.YtopmodahdmnpjaaGreatDoor
