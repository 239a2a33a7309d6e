/- list.List of values: Append: the walk. -/
import Derived.Test.YtopmodahdmnpjaaGreatDoorZDoI
namespace Go.Proofs.YtopmodahdmnpjaaGreatDoor
open Go Go.RowKit
namespace Dp
open Go.Proofs.YtopmodahdmnpjaaGreatDoor.Nm (normG keyV norm_any)
theorem Fr.blk3 {base b mb : Nat} {ob : Option Nat} {w w' : World} {x : Nat} {t : TypeId} {cs : Array Value} (h : Fr base b mb ob w w') (hb : Blk w x t cs) (h1 : x ≠ b) (h2 : x ≠ mb) (h3 : some x ≠ ob) : Blk w' x t cs := by
  unfold Blk at *
  rw [h.blk x (by exact (Array.getElem?_eq_some_iff.1 hb).1) h1 h2 h3]
  exact hb
/-- What an append of a value to a list gives. -/
def AppPost (w : World) (B base b mb : Nat) (ps : List PI) (sv : Value) (nx : Int) (p : PI) (w1 : World) (e : Ending) (w2 : World) : Prop :=
  Fr base b mb sv.ownBlock w1 w2 ∧ ((setG (ps.map PI.it) nx p.it = none ∧ ∃ n : Int, e = .returned (.tuple #[.agg #[.bool false, .int .i64 n, .string ⟨#[]⟩], .int .i64 8])) ∨
    ∃ ps' sv' nx', setG (ps.map PI.it) nx p.it = some (ps'.map PI.it, nx') ∧ (∃ n : Int, e = .returned (.tuple #[.agg #[.bool false, .int .i64 n, .string ⟨#[]⟩], .int .i64 0])) ∧ LstAt base w2 b mb false sv' ps' nx' ∧ (∀ q ∈ ps', Vok w B q) ∧ ps'.length ≤ 2048 ∧ In64 nx')
section
variable {w : World} {B : Nat}
set_option maxRecDepth 100000 in
set_option maxHeartbeats 4000000 in
theorem append_step (hLib : ∀ w', Below B w w' → LibS w') (w1 : World) (hb : Below B w w1) {base b mb : Nat} {sv : Value} {ps : List PI} {nx : Int} (hL : LstAt base w1 b mb false sv ps nx) (hB1 : B ≤ w1.heap.size) (k n : Int) (t : ByteArray) (l : List GI) (A : Option Addr) (c : Nat) (hnx0 : 0 ≤ nx)
    (hp : VAt w B (.mk k n t l) (.agg #[.int .i64 k, .int .i64 n, .string t, .slice A l.length c]) ∧ Fit (.mk k n t l) ∧ Sml (.mk k n t l)) (hv : ∀ q ∈ ps, Vok w B q) (hn : ps.length ≤ 2048) (hnx : In64 nx) :
    Calls Tryz.prog 87 #[.pointer (some ⟨b, 0, none⟩), .agg #[.int .i64 k, .int .i64 n, .string t, .slice A l.length c]] w1 (AppPost w B base b mb ps sv nx ⟨false, nx, ⟨#[]⟩, k, n, t, l, A, c⟩ w1) := by
  have hbl := hL.blk.lt
  have hml := hL.idx.lt
  have hob : ∀ g, sv.ownBlock = some g → g < w1.heap.size := fun g e => (hL.owns.lt g e).2
  have hbase : base ≤ w1.heap.size := by have := hL.hb; omega
  have hal := fun (wx : World) (o : Obj) => (Below.refl wx.heap.size wx).alloc (Nat.le_refl _) o
  have hs1 : (w1.alloc (.cells #[.int .i64 k, .int .i64 n, .string t, .slice A l.length c] 24)).heap.size = w1.heap.size + 1 := by simp
  have hs2 : ((w1.alloc (.cells #[.int .i64 k, .int .i64 n, .string t, .slice A l.length c] 24)).alloc (.cells #[.bool false, .int .i64 0, .string ⟨#[]⟩] 32)).heap.size = w1.heap.size + 1 + 1 := by simp
  have hBa2 := (hal w1 (.cells #[.int .i64 k, .int .i64 n, .string t, .slice A l.length c] 24)).alloc (by rw [hs1]; omega) (.cells #[.bool false, .int .i64 0, .string ⟨#[]⟩] 32)
  have hBa := hBa2.alloc (by rw [hs2]; omega) (.cells #[.bool false, .int .i64 nx, .string ⟨#[]⟩] 32)
  have HBa := Lib.hid hBa
  have HLa := Lib.hid (hL.below hBa)
  have HL2 := Lib.hid (hL.below hBa2)
  have HVa := Lib.hid (((Blk.new w1 24 #[.int .i64 k, .int .i64 n, .string t, .slice A l.length c]).alloc (.cells #[.bool false, .int .i64 0, .string ⟨#[]⟩] 32)).alloc (.cells #[.bool false, .int .i64 nx, .string ⟨#[]⟩] 32))
  have hRa := (Blk.new (w1.alloc (.cells #[.int .i64 k, .int .i64 n, .string t, .slice A l.length c] 24)) 32 #[.bool false, .int .i64 0, .string ⟨#[]⟩]).alloc (.cells #[.bool false, .int .i64 nx, .string ⟨#[]⟩] 32)
  rw [hs1] at hRa
  have hKa := Blk.new ((w1.alloc (.cells #[.int .i64 k, .int .i64 n, .string t, .slice A l.length c] 24)).alloc (.cells #[.bool false, .int .i64 0, .string ⟨#[]⟩] 32)) 32 #[.bool false, .int .i64 nx, .string ⟨#[]⟩]
  rw [hs2] at hKa
  have hKz := Blk.new ((w1.alloc (.cells #[.int .i64 k, .int .i64 n, .string t, .slice A l.length c] 24)).alloc (.cells #[.bool false, .int .i64 0, .string ⟨#[]⟩] 32)) 32 #[.bool false, .int .i64 0, .string ⟨#[]⟩]
  rw [hs2] at hKz
  have HRa := Lib.hid hRa
  have HKa := Lib.hid hKa
  have z0 := hKz.frozen 0
  have z1 := hKz.frozen 1
  have z2 := hKz.frozen 2
  have HSt := Lib.hid (fun wi hz (hB : B ≤ wi.heap.size) hL2 => set_step hLib wi hz (base := base) (b := b) (mb := mb) (sv := sv) (ps := ps) (nx := nx) hL2 hB ⟨false, nx, ⟨#[]⟩, k, n, t, l, A, c⟩ hnx (Nat.zero_le _) hp hv hn hnx)
  obtain ⟨l0, l1, l2, l3, l4⟩ := HL2.out.cells
  obtain ⟨m0, m1, m2, m3, m4⟩ := HLa.out.cells
  have HOb := Lib.hid hob
  have Hb := Lib.hid hb
  have hnn : ¬ nx < 0 := by omega
  have HOk := Lib.hid (ok_any _ b l0)
  clear hLib hp hv hnx hBa hBa2 hRa hKa hKz hal hob hL hb
  go_enter Tryz.func87, Tryz.ntmps87
  go_upto_region 6 with (go_at_call 142; refine HOk.out.mono ?_; rintro e w' ⟨rfl, rfl⟩)
  generalize ((w1.alloc (.cells #[.int .i64 k, .int .i64 n, .string t, .slice A l.length c] 24)).alloc (.cells #[.bool false, .int .i64 0, .string ⟨#[]⟩] 32)).alloc (.cells #[.bool false, .int .i64 nx, .string ⟨#[]⟩] 32) = w4 at *
  have k0 : w4.cell? ⟨w1.heap.size + 1 + 1, 0, none⟩ = some (.bool false) := HKa.out.cell 0
  have k1 : w4.cell? ⟨w1.heap.size + 1 + 1, 1, none⟩ = some (.int .i64 nx) := HKa.out.cell 1
  have k2 : w4.cell? ⟨w1.heap.size + 1 + 1, 2, none⟩ = some (.string ⟨#[]⟩) := HKa.out.cell 2
  have v0 : w4.cell? ⟨w1.heap.size, 0, none⟩ = some (.int .i64 k) := HVa.out.cell 0
  have v1 : w4.cell? ⟨w1.heap.size, 1, none⟩ = some (.int .i64 n) := HVa.out.cell 1
  have v2 : w4.cell? ⟨w1.heap.size, 2, none⟩ = some (.string t) := HVa.out.cell 2
  have v3 : w4.cell? ⟨w1.heap.size, 3, none⟩ = some (.slice A l.length c) := HVa.out.cell 3
  have hw4 := HBa.out.size
  have HS := Lib.hid (HSt.out w4 (Hb.out.trans (HBa.out.mono hB1)) (by omega) HLa.out)
  have HS' : Hid (Calls Tryz.prog 95 #[.pointer (some ⟨b, 0, none⟩), .agg #[.bool false, .int .i64 nx, .string ⟨#[]⟩], .agg #[.int .i64 k, .int .i64 n, .string t, .slice A l.length c]] w4 fun e w5 => ∃ er : Int, e = .returned (.int .i64 er) ∧ Fr base b mb sv.ownBlock w4 w5 ∧ ((er = 8 ∧ setG (ps.map PI.it) nx (.mk false nx ⟨#[]⟩ (.mk k n t l)) = none) ∨ ∃ ps' sv' nx', er = 0 ∧ setG (ps.map PI.it) nx (.mk false nx ⟨#[]⟩ (.mk k n t l)) = some (ps'.map PI.it, nx') ∧ LstAt base w5 b mb false sv' ps' nx' ∧ (∀ q ∈ ps', Vok w B q) ∧ ps'.length ≤ 2048 ∧ In64 nx')) := by
    refine HS.out.mono ?_
    rintro e w5 ⟨h1, ⟨h2, rfl⟩ | ⟨ps', sv', nx', h2, rfl, h3⟩⟩
    · exact ⟨8, rfl, h1, .inl ⟨rfl, h2⟩⟩
    · exact ⟨0, rfl, h1, .inr ⟨ps', sv', nx', rfl, h2, h3⟩⟩
  clear z0 z1 z2 HSt HOk HS HL2 l0 l1 l2 l3 l4 m0 m1 m2 m3 m4 hs1 hs2
  go_upto_region 7 with (go_at_call 95; refine HS'.out.mono ?_; rintro e w5 ⟨er, rfl, hfr, hpo⟩)
  have HF5 : Hid (Fr base b mb sv.ownBlock w1 w5) := ⟨(HBa.out.mono hbase).trans hfr.bel, fun i hi n1 n2 n3 => (hfr.blk i (by omega) n1 n2 n3).trans (HBa.out.block i hi)⟩
  have hR5 := hfr.blk3 HRa.out (by omega) (by omega) (fun e => by have := HOb.out _ e.symm; omega)
  have hK5 := hfr.blk3 HKa.out (by omega) (by omega) (fun e => by have := HOb.out _ e.symm; omega)
  have hsz5 := hfr.size
  have r0 : w5.cell? ⟨w1.heap.size + 1, 0, none⟩ = some (.bool false) := hR5.cell 0
  have r1 : w5.cell? ⟨w1.heap.size + 1, 1, none⟩ = some (.int .i64 0) := hR5.cell 1
  have r2 : w5.cell? ⟨w1.heap.size + 1, 2, none⟩ = some (.string ⟨#[]⟩) := hR5.cell 2
  have rf0 := hR5.frozen 0
  have rf1 := hR5.frozen 1
  have rf2 := hR5.frozen 2
  have k0 : w5.cell? ⟨w1.heap.size + 1 + 1, 0, none⟩ = some (.bool false) := hK5.cell 0
  have k1 : w5.cell? ⟨w1.heap.size + 1 + 1, 1, none⟩ = some (.int .i64 nx) := hK5.cell 1
  have k2 : w5.cell? ⟨w1.heap.size + 1 + 1, 2, none⟩ = some (.string ⟨#[]⟩) := hK5.cell 2
  have HR5 := Lib.hid hR5
  clear hR5 hK5 hfr HS' HRa HKa HVa HBa HLa v0 v1 v2 v3
  have hend : ∀ (u0 u1 u2 : Value), ∃ cs, Blk (((w5.setCell ⟨w1.heap.size + 1, 0, none⟩ u0).setCell ⟨w1.heap.size + 1, 1, none⟩ u1).setCell ⟨w1.heap.size + 1, 2, none⟩ u2) (w1.heap.size + 1) 32 cs ∧ cs = #[u0, u1, u2] ∧ Keeps (fun j => j = w1.heap.size + 1) w5 (((w5.setCell ⟨w1.heap.size + 1, 0, none⟩ u0).setCell ⟨w1.heap.size + 1, 1, none⟩ u1).setCell ⟨w1.heap.size + 1, 2, none⟩ u2) := fun u0 u1 u2 =>
    ⟨_, ((HR5.out.set_ 0 u0).set_ 1 u1).set_ 2 u2, rfl, ((set_keeps w5 (w1.heap.size + 1) 0 u0).trans (set_keeps _ (w1.heap.size + 1) 1 u1)).trans (set_keeps _ (w1.heap.size + 1) 2 u2)⟩
  have HE := Lib.hid hend
  clear hend
  rcases hpo with ⟨rfl, hno⟩ | ⟨ps', sv', nx', rfl, hso, hL5, hv5, hn5, hx5⟩
  · have HN := Lib.hid hno
    clear hno
    go_wp2_with fail
    obtain ⟨cs, q1, rfl, q2⟩ := HE.out (.bool false) (.int .i64 0) (.string ⟨#[]⟩)
    generalize ((w5.setCell ⟨w1.heap.size + 1, 0, none⟩ (.bool false)).setCell ⟨w1.heap.size + 1, 1, none⟩ (.int .i64 0)).setCell ⟨w1.heap.size + 1, 2, none⟩ (.string ⟨#[]⟩) = w6 at *
    have e0 : w6.cell? ⟨w1.heap.size + 1, 0, none⟩ = _ := q1.cell 0
    have e1 : w6.cell? ⟨w1.heap.size + 1, 1, none⟩ = _ := q1.cell 1
    have e2 : w6.cell? ⟨w1.heap.size + 1, 2, none⟩ = _ := q1.cell 2
    simp at e0 e1 e2
    refine bodyPost_ret (v := .tuple #[.agg #[.bool false, .int .i64 0, .string ⟨#[]⟩], .int .i64 8]) (by simp [results, Tryz.results87, go_sem, e0, e1, e2]) rfl ?_
    exact ⟨HF5.out.keeps q2 hbase (fun j e => by omega) (fun j e => .inr (.inr (.inr (by omega)))), .inl ⟨HN.out, _, rfl⟩⟩
  · have HN := Lib.hid hso
    have HL5 := Lib.hid hL5
    have HV5 := Lib.hid hv5
    have HX5 := Lib.hid hx5
    have hw5 : some (w1.heap.size + 1) ≠ sv'.ownBlock := fun e => row_ne hL5.owns HR5.out (by decide) e
    have hw6 : w1.heap.size + 1 ≠ mb := by omega
    have hw7 : w1.heap.size + 1 ≠ b := by omega
    clear hso hL5 hv5 hx5
    go_wp2_with fail
    obtain ⟨cs, q1, rfl, q2⟩ := HE.out (.bool false) (.int .i64 nx) (.string ⟨#[]⟩)
    generalize ((w5.setCell ⟨w1.heap.size + 1, 0, none⟩ (.bool false)).setCell ⟨w1.heap.size + 1, 1, none⟩ (.int .i64 nx)).setCell ⟨w1.heap.size + 1, 2, none⟩ (.string ⟨#[]⟩) = w6 at *
    have e0 : w6.cell? ⟨w1.heap.size + 1, 0, none⟩ = _ := q1.cell 0
    have e1 : w6.cell? ⟨w1.heap.size + 1, 1, none⟩ = _ := q1.cell 1
    have e2 : w6.cell? ⟨w1.heap.size + 1, 2, none⟩ = _ := q1.cell 2
    simp at e0 e1 e2
    refine bodyPost_ret (v := .tuple #[.agg #[.bool false, .int .i64 nx, .string ⟨#[]⟩], .int .i64 0]) (by simp [results, Tryz.results87, go_sem, e0, e1, e2]) rfl ?_
    exact ⟨HF5.out.keeps q2 hbase (fun j e => by omega) (fun j e => .inr (.inr (.inr (by omega)))), .inr ⟨ps', sv', nx', HN.out, ⟨_, rfl⟩, ⟨HL5.out.blk.keeps q2 (fun e => hw7 e.symm), HL5.out.idx.keeps q2 (fun e => hw6 e.symm), own_keeps HL5.out.owns q2 hw5, HL5.out.hb, HL5.out.hm⟩, HV5.out, hn5, HX5.out⟩⟩
end
end Dp
end Go.Proofs.YtopmodahdmnpjaaGreatDoor
