/- arrs.every, with a function that appends: the walk. -/
import Derived.Test.YtopmodahdmnpjaaGreatDoorZAsU
namespace Go.Proofs.YtopmodahdmnpjaaGreatDoor
open Go Go.RowKit
namespace Dp
open Go.Proofs.YtopmodahdmnpjaaGreatDoor.Nm (normG keyV norm_any)
/-- The values of some items, under the numbers from k on. -/
def renum : List GI → Nat → List GI
  | [], _ => []
  | it :: r, k => .mk false k ⟨#[]⟩ it.val :: renum r (k + 1)
theorem renum_len : ∀ (l : List GI) (k : Nat), (renum l k).length = l.length
  | [], _ => rfl
  | _ :: r, k => by rw [renum, List.length_cons, List.length_cons, renum_len r]
theorem renum_app : ∀ (a b : List GI) (k : Nat), renum (a ++ b) k = renum a k ++ renum b (k + a.length)
  | [], b, k => by simp [renum]
  | x :: a, b, k => by rw [List.cons_append, renum, renum, renum_app a b, List.cons_append, List.length_cons, show k + 1 + a.length = k + (a.length + 1) by omega]
theorem renum_keys : ∀ (l : List GI) (k : Nat), ∀ q ∈ (renum l k).map GI.keyG, ∃ i : Nat, q = (false, (i : Int), ⟨#[]⟩) ∧ k ≤ i ∧ i < k + l.length
  | [], _, q, h => by simp [renum] at h
  | it :: r, k, q, h => by
    rw [renum, List.map_cons, List.mem_cons] at h
    rcases h with rfl | h
    · exact ⟨k, rfl, Nat.le_refl _, by simp⟩
    · obtain ⟨i, h1, h2, h3⟩ := renum_keys r (k + 1) q h
      exact ⟨i, h1, by omega, by simp; omega⟩
theorem findK_none : ∀ (ks : List Key3) (k : Key3) (i : Int), 0 ≤ i → (∀ q ∈ ks, q ≠ k) → findK ks k i < 0
  | [], k, i, _, _ => by rw [findK]; decide
  | q :: ks, k, i, hi, h => by
    rw [findK, if_neg (by exact h q (by simp))]
    exact findK_none ks k (i + 1) (by omega) fun q hq => h q (by simp [hq])
theorem set_renum (l : List GI) (v : GV) (h : l.length < 2048) : setG (renum l 0) l.length (.mk false l.length ⟨#[]⟩ v) = some (renum (l ++ [.mk false 0 ⟨#[]⟩ v]) 0, ((l.length + 1 : Nat) : Int)) := by
  have hf : findK ((renum l 0).map GI.keyG) (false, (l.length : Int), ⟨#[]⟩) 0 < 0 := findK_none _ _ 0 (Int.le_refl _) fun q hq e => by
    obtain ⟨i, h1, h2, h3⟩ := renum_keys l 0 q hq
    rw [h1] at e
    injection e with _ e
    injection e with e _
    omega
  have hset : setG (renum l 0) l.length (.mk false l.length ⟨#[]⟩ v) = if 0 ≤ findK ((renum l 0).map GI.keyG) (false, (l.length : Int), ⟨#[]⟩) 0 then some ((renum l 0).set (findK ((renum l 0).map GI.keyG) (false, (l.length : Int), ⟨#[]⟩) 0).toNat (giOf (false, (l.length : Int), ⟨#[]⟩) v), (l.length : Int)) else if 2048 ≤ (renum l 0).length then none else some (renum l 0 ++ [giOf (false, (l.length : Int), ⟨#[]⟩) v], nextK l.length (false, (l.length : Int), ⟨#[]⟩)) := rfl
  rw [hset, if_neg (by omega), if_neg (by rw [renum_len]; omega), renum_app]
  simp only [renum, Nat.zero_add, giOf, nextK, GI.val]
  rw [if_pos ⟨trivial, by omega, Int.le_refl _⟩, if_pos (by omega)]
  rfl
/-- A function that appends an item's value to a list. -/
def ClosApp (w : World) (B : Nat) (fid : FuncId) (cap : Array Value) : Prop := ∀ (w1 : World), Below B w w1 → B ≤ w1.heap.size → ∀ (base b mb : Nat) (sv : Value) (ps : List PI) (nx : Int), LstAt base w1 b mb false sv ps nx → (∀ q ∈ ps, Vok w B q) → ps.length ≤ 2048 → In64 nx → 0 ≤ nx →
  ∀ (ib : Bool) (ii : Int) (is : ByteArray) (k n : Int) (t : ByteArray) (l : List GI) (A : Option Addr) (c : Nat), VAt w B (.mk k n t l) (.agg #[.int .i64 k, .int .i64 n, .string t, .slice A l.length c]) ∧ Fit (.mk k n t l) ∧ Sml (.mk k n t l) →
  Calls Tryz.prog fid (#[.pointer (some ⟨b, 0, none⟩), .agg #[.bool ib, .int .i64 ii, .string is, .int .i64 k, .int .i64 n, .string t, .slice A l.length c]] ++ cap) w1 fun e w2 => ∃ er : Int, e = .returned (.int .i64 er) ∧ Below base w1 w2 ∧
    ((er = 8 ∧ setG (ps.map PI.it) nx (.mk false nx ⟨#[]⟩ (.mk k n t l)) = none) ∨ ∃ ps' sv' nx', er = 0 ∧ setG (ps.map PI.it) nx (.mk false nx ⟨#[]⟩ (.mk k n t l)) = some (ps'.map PI.it, nx') ∧ LstAt base w2 b mb false sv' ps' nx' ∧ (∀ q ∈ ps', Vok w B q) ∧ ps'.length ≤ 2048 ∧ In64 nx')
theorem own_form0 {w : World} {base : Nat} {e : TypeId} {sz n : Nat} {sv : Value} {xs : List Value} (h : w.ownsRow base e sz sv n xs) : ∃ A c, sv = .slice A n c := by
  rcases h.2 with ⟨e, h0⟩ | ⟨g, cap, cur, e, _⟩
  · exact ⟨none, 0, by rw [e, h0]⟩
  · exact ⟨_, _, e⟩
section
variable {w : World} {B : Nat}
set_option maxRecDepth 100000 in
set_option maxHeartbeats 4000000 in
theorem every_app (hBw : B ≤ w.heap.size) (l : List GI) (A : Option Addr) (c bb off : Nat) (C : Nat → Value) (hA : 0 < l.length → A = some ⟨bb, off, none⟩ ∧ bb < B)
    (hi : ∀ i it, l[i]? = some it → ItemAt w bb (off + i * 7) it (C i)) (hv : ∀ i it, l[i]? = some it → VAt w B it.val (C i))
    (hft : ∀ (i : Nat) (it : GI), l[i]? = some it → Fit it.val) (hsm : ∀ (i : Nat) (it : GI), l[i]? = some it → Sml it.val) (hl : l.length ≤ 2048) (fid : FuncId) (cap : Array Value) (hcl : ClosApp w B fid cap) (hin : ∀ args w, (callFunc fid args).run Tryz.prog w = .ok (.enter fid args) w) (w' : World) (hb : Below B w w') :
    Calls Tryz.prog 85 #[.slice A l.length c, .func (.func fid) #[] cap] w' fun e w2 => ∃ sv2 ps, e = .returned (.tuple #[.agg #[.int .i64 4, .int .i64 l.length, .string ⟨#[]⟩, sv2], .int .i64 0]) ∧ ps.map PI.it = renum l 0 ∧ w2.ownsRow w'.heap.size 34 7 sv2 ps.length (rowC ps) ∧ (∀ q ∈ ps, Vok w B q) ∧ Below w'.heap.size w' w2 := by
  have hB' : B ≤ w'.heap.size := Nat.le_trans hBw hb.size
  have HA := Lib.hid hA
  have HI := Lib.hid hi
  have HV := Lib.hid hv
  have HFt := Lib.hid hft
  have HSm := Lib.hid hsm
  have HCl := Lib.hid hcl
  have Hin := Lib.hid hin
  have Hb := Lib.hid hb
  have hal := fun (w1 : World) (o : Obj) => (Below.refl w1.heap.size w1).alloc (Nat.le_refl _) o
  have HAL := Lib.hid hal
  have HBa := Lib.hid (hal w' (.cells #[.int .i64 0, .int .i64 0, .string ⟨#[]⟩, .slice none 0 0] 24))
  have HZa := Lib.hid (Blk.new w' 24 #[.int .i64 0, .int .i64 0, .string ⟨#[]⟩, .slice none 0 0])
  have hsz : (w'.alloc (.cells #[.int .i64 0, .int .i64 0, .string ⟨#[]⟩, .slice none 0 0] 24)).heap.size = w'.heap.size + 1 := by simp
  have hN := new_any (w'.alloc (.cells #[.int .i64 0, .int .i64 0, .string ⟨#[]⟩, .slice none 0 0] 24))
  rw [hsz] at hN
  have HN := Lib.hid hN
  clear hA hi hv hft hsm hb hal hN hcl hin
  go_enter Tryz.func85, Tryz.ntmps85
  go_upto_region 2 with (go_at_call 90; refine HN.out.mono ?_; rintro e w2 ⟨rfl, hL2, hb2⟩)
  have HL2 := Lib.hid hL2
  have HB2 := Lib.hid (HBa.out.trans (hb2.mono (Nat.le_succ _)))
  have HZ2 := Lib.hid (HZa.out.below hb2 (Nat.lt_succ_self _))
  clear hL2 hb2 HN HBa HZa
  have z64 : In64 0 := ⟨by decide, by decide⟩
  go_wp2_with fail
  go_loopw [13] (fun xi wx => ∃ (j : Nat) (ps : List PI) (sv : Value), j ≤ l.length ∧ xi = .int .i64 j ∧ Hid (LstAt (w'.heap.size + 1) wx (w'.heap.size + 1 + 1) (w'.heap.size + 1) false sv ps j) ∧ Hid (ps.map PI.it = renum (l.take j) 0) ∧ Hid (∀ q ∈ ps, Vok w B q) ∧ Hid (Below w'.heap.size w' wx) ∧ Hid (Blk wx w'.heap.size 24 #[.int .i64 0, .int .i64 0, .string ⟨#[]⟩, .slice none 0 0])) (fun xi _ => l.length - (ixOf xi).toNat)
  case atStart => exact ⟨0, [], _, Nat.zero_le _, rfl, HL2, rfl, fun q hq => (by cases hq), HB2, HZ2⟩
  case round =>
    obtain ⟨j, ps, sv, hj, rfl, HL, HG, HVk, HB, HZ⟩ := hrel
    clear HL2 HB2 HZ2
    have hpl : ps.length = j := by
      have h1 := congrArg List.length HG.out
      rw [List.length_map, renum_len, List.length_take, Nat.min_eq_left hj] at h1
      exact h1
    by_cases hlt : j < l.length
    · obtain ⟨it, hit⟩ : ∃ it, l[j]? = some it := ⟨_, List.getElem?_eq_getElem hlt⟩
      obtain ⟨rfl, hbB⟩ := HA.out (by omega)
      have hbw : Below B w wr := Hb.out.trans (HB.out.mono hB')
      have hwr := HB.out.size
      obtain ⟨c0, c1, c2, v0, v1, v2, v3, e, c3', c4, c5, c6⟩ := (HI.out j it hit).below hbw hbB
      have hform := HV.out j it hit
      have hfit := HFt.out j it hit
      have hsml := HSm.out j it hit
      rw [e] at hform
      obtain ⟨ib, ii, is, iv⟩ := it
      simp only [GI.val, GI.isText, GI.int, GI.text] at hform hfit hsml c0 c1 c2
      obtain ⟨k1, n1, t1, l1⟩ := iv
      obtain ⟨rfl, rfl, rfl, A1, e1, rfl⟩ := vat_form2 hform
      have hset := set_renum (l.take j) (.mk k1 n1 t1 l1) (by rw [List.length_take, Nat.min_eq_left hj]; omega)
      rw [List.length_take, Nat.min_eq_left hj, ← HG.out] at hset
      have HSet := Lib.hid hset
      have hren : renum (l.take j ++ [.mk false 0 ⟨#[]⟩ (.mk k1 n1 t1 l1)]) 0 = renum (l.take (j + 1)) 0 := by
        rw [List.take_add_one, hit, renum_app, renum_app]
        rfl
      have HRen := Lib.hid hren
      have hjI : In64 (j : Int) := ⟨by omega, by omega⟩
      have HSt := Lib.hid (fun wi hz hL => HCl.out wi hz (Nat.le_trans hBw hz.size) (w'.heap.size + 1) (w'.heap.size + 1 + 1) (w'.heap.size + 1) sv ps j hL HVk.out (by omega) hjI (by omega) ib ii is k1 n1 t1 l1 A1 e1 ⟨hform, hfit, hsml⟩)
      have hbi := HAL.out wr (.cells #[.bool ib, .int .i64 ii, .string is, .int .i64 k1, .int .i64 n1, .string t1, .slice A1 l1.length e1] 34)
      have Hbwi := Lib.hid (hbw.alloc (Nat.le_trans hB' hwr) (.cells #[.bool ib, .int .i64 ii, .string is, .int .i64 k1, .int .i64 n1, .string t1, .slice A1 l1.length e1] 34))
      have HLi := Lib.hid (HL.out.below hbi)
      have HBi := Lib.hid (HB.out.trans (hbi.mono hwr))
      have HZi := Lib.hid (blk_below HZ.out hbi)
      have HIi := Lib.hid (Blk.new wr 34 #[.bool ib, .int .i64 ii, .string is, .int .i64 k1, .int .i64 n1, .string t1, .slice A1 l1.length e1])
      have HIz := Blk.new wr 34 #[.bool false, .int .i64 0, .string ⟨#[]⟩, .int .i64 0, .int .i64 0, .string ⟨#[]⟩, .slice none 0 0]
      have zf0 := HIz.frozen 0
      have zf1 := HIz.frozen 1
      have zf2 := HIz.frozen 2
      have zf3 := HIz.frozen 3
      have zf4 := HIz.frozen 4
      have zf5 := HIz.frozen 5
      have zf6 := HIz.frozen 6
      have hIx : (j : Int) < (l.length : Int) := by omega
      have hin2 := fun wz => Hin.out (#[.pointer (some ⟨w'.heap.size + 1 + 1, 0, none⟩), .agg #[.bool ib, .int .i64 ii, .string is, .int .i64 k1, .int .i64 n1, .string t1, .slice A1 l1.length e1]] ++ cap) wz
      clear hform hfit hsml hbi hbw HL HZ HG HVk HI HV HFt HSm e hset hren HIz
      go_upto_region 5 with fail
      have d0 := HIi.out.cell 0
      have d1 := HIi.out.cell 1
      have d2 := HIi.out.cell 2
      have d3 := HIi.out.cell 3
      have d4 := HIi.out.cell 4
      have d5 := HIi.out.cell 5
      have d6 := HIi.out.cell 6
      have hbis := HBi.out.size
      clear zf0 zf1 zf2 zf3 zf4 zf5 zf6
      generalize wr.alloc (.cells #[.bool ib, .int .i64 ii, .string is, .int .i64 k1, .int .i64 n1, .string t1, .slice A1 l1.length e1] 34) = wi at *
      have HS2 := Lib.hid (HSt.out wi Hbwi.out HLi.out)
      clear HSt
      go_wp2_with fail
      refine HS2.out.mono ?_
      rintro e w3 ⟨er, rfl, hb3, ⟨rfl, hno⟩ | ⟨ps', sv', nx', rfl, hso, hL3, hv3, hn3, hx3⟩⟩
      · exact absurd (hno.symm.trans HSet.out) (by simp)
      · have h := hso.symm.trans HSet.out
        injection h with h
        injection h with h1 h2
        subst h2
        have HL3 := Lib.hid hL3
        have HV3 := Lib.hid hv3
        have HG3 : Hid (ps'.map PI.it = renum (l.take (j + 1)) 0) := h1.trans HRen.out
        have HB3 := Lib.hid (HBi.out.trans (hb3.mono (Nat.le_succ _)))
        have HZ3 := Lib.hid (HZi.out.below hb3 (Nat.lt_succ_self _))
        clear hso hL3 hv3 hb3 h1 HSet HRen HS2 HLi HBi HZi HIi Hbwi d0 d1 d2 d3 d4 d5 d6 hin2
        go_wp2_with fail
        go_roundw
        case rel => exact ⟨j + 1, ps', sv', by omega, by go_num, HL3, HG3, HV3, HB3, HZ3⟩
        case measure => simp [ixOf] <;> omega
    · obtain rfl : j = l.length := by omega
      have HT := Lib.hid (told_any wr HL.out (by omega))
      have hls : (wr.heap.size : Nat) ≥ w'.heap.size := HB.out.size
      have hIx : ¬ ((l.length : Int) < (l.length : Int)) := by omega
      have z0 : wr.cell? ⟨w'.heap.size, 0, none⟩ = some (.int .i64 0) := HZ.out.cell 0
      clear HI HV HFt HSm HA hpl
      go_upto_region 9 with fail
      clear z0
      go_wp2_with (go_at_call 92; refine HT.out.mono ?_; rintro e w4 ⟨sv2, rfl, ho, hk⟩; have HO := Lib.hid ho; have HK := Lib.hid hk; have HZ4 := Lib.hid (HZ.out.keeps hk (by omega)); clear ho hk; have z0 : w4.cell? ⟨w'.heap.size, 0, none⟩ = some (.int .i64 0) := HZ4.out.cell 0; have z1 : w4.cell? ⟨w'.heap.size, 1, none⟩ = some (.int .i64 0) := HZ4.out.cell 1; have z2 : w4.cell? ⟨w'.heap.size, 2, none⟩ = some (.string ⟨#[]⟩) := HZ4.out.cell 2; have z3 : w4.cell? ⟨w'.heap.size, 3, none⟩ = some (.slice none 0 0) := HZ4.out.cell 3; have zf0 := HZ4.out.frozen 0; have zf1 := HZ4.out.frozen 1; have zf2 := HZ4.out.frozen 2; have zf3 := HZ4.out.frozen 3; obtain ⟨A4, c4, rfl⟩ := own_form0 HO.out)
      have HS4 := Lib.hid (store4 HZ4.out (.int .i64 4) (.int .i64 l.length) (.string ⟨#[]⟩) (.slice A4 ps.length c4))
      have hOf := own_keeps HO.out HS4.out.2 (fun e => by have := (HO.out.lt _ e.symm).1; have := HZ.out.lt; omega)
      have hBf := (HB.out.trans (HK.out.below (B := w'.heap.size) hls (fun j e => by omega))).trans (HS4.out.2.below (Nat.le_trans hls HK.out.size) (fun j e => by omega))
      generalize (((w4.setCell ⟨w'.heap.size, 0, none⟩ (.int .i64 4)).setCell ⟨w'.heap.size, 1, none⟩ (.int .i64 l.length)).setCell ⟨w'.heap.size, 2, none⟩ (.string ⟨#[]⟩)).setCell ⟨w'.heap.size, 3, none⟩ (.slice A4 ps.length c4) = wf at *
      have e0 : wf.cell? ⟨w'.heap.size, 0, none⟩ = some (.int .i64 4) := HS4.out.1.cell 0
      have e1 : wf.cell? ⟨w'.heap.size, 1, none⟩ = some (.int .i64 l.length) := HS4.out.1.cell 1
      have e2 : wf.cell? ⟨w'.heap.size, 2, none⟩ = some (.string ⟨#[]⟩) := HS4.out.1.cell 2
      have e3 : wf.cell? ⟨w'.heap.size, 3, none⟩ = some (.slice A4 ps.length c4) := HS4.out.1.cell 3
      refine bodyPost_ret (v := .tuple #[.agg #[.int .i64 4, .int .i64 l.length, .string ⟨#[]⟩, .slice A4 ps.length c4], .int .i64 0]) (by simp [results, Tryz.results85, go_sem, e0, e1, e2, e3]) rfl ?_
      refine ⟨_, ps, rfl, ?_, own_le2 hOf hls, HVk.out, hBf⟩
      have := HG.out
      rwa [List.take_length] at this
end
end Dp
end Go.Proofs.YtopmodahdmnpjaaGreatDoor
