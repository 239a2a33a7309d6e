import Derived.Test.YtgpemnmopogppaaGreatDoorZUtEQ
set_option maxRecDepth 1000000
set_option maxHeartbeats 16000000
namespace Go.Proofs.YtgpemnmopogppaaGreatDoor
open Held
open Go.Proofs.Tryz
open Go Go.RowKit
namespace Ut
open Go.Proofs.YtgpemnmopogppaaGreatDoor.Nm (normG keyV norm_any)
open Dp
theorem nextT_any (w : World) {p b mb : Nat} {sh : Bool} {sv : Value} {ps : List PK} {nx bk bn : Int} {bt : ByteArray} {bA : Option Addr} {bl bc : Nat} (hl : LstP w b mb sh sv ps nx)
  (hb : Blk w p 106 #[.pointer (some ⟨b, 0, none⟩), .int .i64 bk, .int .i64 bn, .string bt, .slice bA bl bc]) (hbase : bk = 4 → (bn < 0 → nx = bn) ∧ (0 ≤ nx → bn ≤ nx)) :
  Calls prog 115 #[.pointer (some ⟨p, 0, none⟩)] w fun e w' => e = .returned (.int .i64 nx) ∧ w' = w := by
 have HN := lH (next_any w b nx hl.cells.1 hl.cells.2.2.2.2)
 have c0 := hb.cell 0
 have c1 := hb.cell 1
 have c2 := hb.cell 2
 simp only [List.getElem?_toArray, List.getElem?_cons_zero, List.getElem?_cons_succ] at c0 c1 c2
 clear hl hb
 by_cases h4 : bk = 4
 · obtain ⟨h5, h6⟩ := hbase h4
   subst h4
   clear hbase
   by_cases h7 : bn < 0
   · obtain rfl := h5 h7
     clear h5 h6
     have h8 : decide (nx < 0) = true := decide_eq_true h7
     go_enter func115, ntmps115
     go_wp2_with (go_at_call 111; refine HN.out.mono ?_; rintro e w' ⟨rfl, rfl⟩)
     go_ret
     exact ⟨rfl, rfl⟩
   · clear h5
     by_cases h8 : 0 ≤ nx
     · have h9 := h6 h8
       have h10 : ¬ nx < bn := by omega
       clear h6
       go_enter func115, ntmps115
       go_wp2_with (go_at_call 111; refine HN.out.mono ?_; rintro e w' ⟨rfl, rfl⟩)
       go_ret
       exact ⟨rfl, rfl⟩
     · clear h6
       go_enter func115, ntmps115
       go_wp2_with (go_at_call 111; refine HN.out.mono ?_; rintro e w' ⟨rfl, rfl⟩)
       go_ret
       exact ⟨rfl, rfl⟩
 · clear hbase
   go_enter func115, ntmps115
   go_wp2_with (go_at_call 111; refine HN.out.mono ?_; rintro e w' ⟨rfl, rfl⟩)
   go_ret
   exact ⟨rfl, rfl⟩
def keyT (step : ByteArray) (head : Bool) (nx : Int) : Option Key3 := if step = ⟨#[]⟩ ∧ head = false then (if nx < 0 then none else some (false, nx, ⟨#[]⟩)) else some (true, 0, step)
theorem not_empty {s : ByteArray} (h : ¬ s = ⟨#[]⟩) : (s.toList == (⟨#[]⟩ : ByteArray).toList) = false ∧ s.toList.isEmpty = false ∧ s.toList ≠ [] := by
 have h1 : s.toList ≠ [] := fun e => h (by
  rw [Lib.toList_data] at e
  cases s with
  | mk d => cases d with
   | mk l => simp at e; subst e; rfl)
 refine ⟨?_, ?_, h1⟩
 · rw [beq_eq_false_iff_ne]
   exact fun e => h1 (by rw [e, Lib.toList_data])
 · cases hl : s.toList with
   | nil => exact absurd hl h1
   | cons a l => rfl
def PutP (w1 : World) (b mb : Nat) (sv : Value) (ps : List PK) (nx : Int) (step : ByteArray) (head : Bool) (q : Nat) (e : Ending) (w2 : World) : Prop :=
 Keeps (ownL b mb sv) w1 w2 ∧ ((e = .returned (.bool false) ∧ Below w1.heap.size w1 w2 ∧ (∀ k, keyT step head nx = some k → setP ps nx k q = none)) ∨ ∃ k ps' nx' sv', e = .returned (.bool true) ∧ keyT step head nx = some k ∧ setP ps nx k q = some (ps', nx') ∧ LstP w2 b mb false sv' ps' nx' ∧ ∀ j, ownL b mb sv' j → turnL w1.heap.size b mb sv j)
section
variable {w : World} {B : Nat}
def SetK (_w1 : World) (b mb : Nat) (sv : Value) (ps : List PK) (nx : Int) (q : Nat) (wx : World) (k : Key3) : Prop :=
 Calls prog 110 #[.pointer (some ⟨b, 0, none⟩), .agg #[.bool k.1, .int .i64 k.2.1, .string k.2.2], .pointer (some ⟨q, 0, none⟩)] wx fun e w2 => Keeps (ownL b mb sv) wx w2 ∧
   ((setP ps nx k q = none ∧ e = .returned (.int .i64 8) ∧ Below wx.heap.size wx w2) ∨ ∃ ps' nx' sv', setP ps nx k q = some (ps', nx') ∧ e = .returned (.int .i64 0) ∧ LstP w2 b mb false sv' ps' nx' ∧ ∀ j, ownL b mb sv' j → turnL wx.heap.size b mb sv j)
theorem sk4 {w : World} {x y : Nat} {tx ty : TypeId} {c0 c1 c2 d0 d1 d2 d3 d4 : Value} (h : Blk w x tx #[c0, c1, c2]) (h' : Blk w y ty #[d0, d1, d2, d3, d4]) : w.cell? ⟨y, 0, none⟩ = some d0 ∧ w.cell? ⟨x, 0, none⟩ = some c0 ∧ w.cell? ⟨x, 1, none⟩ = some c1 ∧ w.cell? ⟨x, 2, none⟩ = some c2 := ⟨h'.cell 0, h.cell 0, h.cell 1, h.cell 2⟩
theorem put_text (hLib : ∀ w', Below B w w' → LibS w') (w1 : World) (hb : Below B w w1) {p b mb : Nat} {sv : Value} {ps : List PK} {nx bk bn : Int} {bt : ByteArray} {bA : Option Addr} {bl bc : Nat} (hL : LstP w1 b mb false sv ps nx) (hB1 : B ≤ w1.heap.size)
  (hbk : Blk w1 p 106 #[.pointer (some ⟨b, 0, none⟩), .int .i64 bk, .int .i64 bn, .string bt, .slice bA bl bc]) (_hbase : bk = 4 → (bn < 0 → nx = bn) ∧ (0 ≤ nx → bn ≤ nx)) (step : ByteArray) (head : Bool) (hs : step.size ≤ 140737488351232) (q : Nat) (hn : ps.length ≤ 2048) (hnx : In64 nx) (hc : ¬ (step = ⟨#[]⟩ ∧ head = false)) :
  Calls prog 67 #[.pointer (some ⟨p, 0, none⟩), .string step, .bool head, .pointer (some ⟨q, 0, none⟩)] w1 fun e w2 => PutP w1 b mb sv ps nx step head q e w2 := by
 have HKT : Hid (keyT step head nx = some (true, 0, step)) := lH (if_neg hc)
 have hi : In64 (0 : Int) := ⟨by decide, by decide⟩
 have HKa := lH (Blk.new w1 37 #[.bool true, .int .i64 0, .string step])
 have HBa := lH ((Below.refl w1.heap.size w1).alloc (Nat.le_refl _) (.cells #[.bool true, .int .i64 0, .string step] 37))
 have HLa := lH (hL.below HBa.out)
 have HTa := lH (blk_below hbk HBa.out)
 have HS0 := lH (fun (wx : World) (hx : Below w1.heap.size w1 wx) (k : Key3) (hk : In64 k.2.1) (hs : k.2.2.size ≤ 140737488351232) => (set_any hLib wx (hb.trans (hx.mono hB1)) (hL.below hx) (Nat.le_trans hB1 hx.size) k hk hs q hn hnx : SetK w1 b mb sv ps nx q wx k))
 have hko : ¬ ownL b mb sv w1.heap.size := fun h => Nat.lt_irrefl _ (hL.lt h)
 have HS := lH (HS0.out _ (drewU HBa.out 1) (true, 0, step) hi hs)
 clear HS0 hL hb hLib hbk _hbase
 by_cases hs0 : step = ⟨#[]⟩
 · subst hs0
   cases head
   · exact absurd ⟨rfl, rfl⟩ hc
   go_enter func67, ntmps67
   go_upto_region 6 with fail
   have HKk := HKa
   have HTk := HTa
   have HLk := HLa
   have HBk := HBa
   clear HKa HTa HLa HBa
   generalize w1.alloc (.cells #[.bool true, .int .i64 0, .string ⟨#[]⟩] 37) = wk at *
   refine wp_region_held_drew (S := (fun w' => w'.cell? ⟨p, 0, none⟩ = some (.pointer (some ⟨b, 0, none⟩)) ∧ w'.cell? ⟨w1.heap.size, 0, none⟩ = some (.bool true) ∧ w'.cell? ⟨w1.heap.size, 1, none⟩ = some (.int .i64 0) ∧ w'.cell? ⟨w1.heap.size, 2, none⟩ = some (.string ⟨#[]⟩))) (by kernel_rfl) ?_ (fun hHeld => ?_)
   · exact sk4 HKk.out.drew HTk.out.drew
   refine hdt (v := ?v1) op0 ?_
   try simp only [hdq]
   refine hdt (v := ?v2) op1 ?_
   try simp only [hdq]
   refine hdt (v := ?v3) op2 ?_
   try simp only [hdq]
   refine hdt (v := ?v4) op3 ?_
   try simp only [hdq]
   refine hdt (v := ?v5) op4 ?_
   try simp only [hdq]
   refine hdt (v := ?v6) op5 ?_
   try simp only [hdq]
   refine hdr1 op6 (fun K hK => ?_)
   go_simp
   go_at_call 110
   refine HS.out.mono ?_
   rintro e w3 ⟨hk3, hpost⟩
   have HK3 := lH (HKk.out.drew.keeps hk3 hko)
   have HT3 := lH (HTk.out.drew.keeps hk3 (own_ne HTk.out HLk.out))
   have HKp := lH ((Keeps.of_below HBk.out).trans (Keeps.trans (Keeps.of_below ((drewU (Below.refl _ _) 1))) hk3))
   clear hk3
   rcases hpost with ⟨hnone, rfl, hb3⟩ | ⟨ps', nx', sv', hsome, rfl, hL3, ht3⟩
   · refine hK.out _ _ ?_ (fun hHeld => ?_)
     · exact sk4 HK3.out HT3.out
     clear hK K
     refine hdt (v := ?v7) op7 ?_
     try simp only [hdq]
     refine hdt (v := ?v8) op8 ?_
     try simp only [hdq]
     refine wpAnyH_done (by kernel_rfl) ?_ _
     go_wp2_with fail
     go_ret
     exact ⟨HKp.out, .inl ⟨rfl, HBk.out.trans (((drewU (Below.refl _ _) 1).trans hb3).mono HBk.out.size), fun k hk => by rw [HKT.out] at hk; cases hk; exact hnone⟩⟩
   · refine hK.out _ _ ?_ (fun hHeld => ?_)
     · exact sk4 HK3.out HT3.out
     clear hK K
     refine hdt (v := ?v9) op7 ?_
     try simp only [hdq]
     refine hdt (v := ?v10) op8 ?_
     try simp only [hdq]
     refine wpAnyH_done (by kernel_rfl) ?_ _
     go_wp2_with fail
     go_ret
     exact ⟨HKp.out, .inr ⟨_, ps', nx', sv', rfl, HKT.out, hsome, hL3, fun j hj => (ht3 j hj).elim .inl fun h => .inr (Nat.le_trans HBk.out.size h)⟩⟩
 · obtain ⟨hs1, hs2, hs3⟩ := not_empty hs0
   go_enter func67, ntmps67
   go_upto_region 6 with fail
   have HKk := HKa
   have HTk := HTa
   have HLk := HLa
   have HBk := HBa
   clear HKa HTa HLa HBa
   generalize w1.alloc (.cells #[.bool true, .int .i64 0, .string step] 37) = wk at *
   refine wp_region_held_drew (S := (fun w' => w'.cell? ⟨p, 0, none⟩ = some (.pointer (some ⟨b, 0, none⟩)) ∧ w'.cell? ⟨w1.heap.size, 0, none⟩ = some (.bool true) ∧ w'.cell? ⟨w1.heap.size, 1, none⟩ = some (.int .i64 0) ∧ w'.cell? ⟨w1.heap.size, 2, none⟩ = some (.string step))) (by kernel_rfl) ?_ (fun hHeld => ?_)
   · exact sk4 HKk.out.drew HTk.out.drew
   refine hdt (v := ?v11) op0 ?_
   try simp only [hdq]
   refine hdt (v := ?v12) op1 ?_
   try simp only [hdq]
   refine hdt (v := ?v13) op2 ?_
   try simp only [hdq]
   refine hdt (v := ?v14) op3 ?_
   try simp only [hdq]
   refine hdt (v := ?v15) op4 ?_
   try simp only [hdq]
   refine hdt (v := ?v16) op5 ?_
   try simp only [hdq]
   refine hdr1 op6 (fun K hK => ?_)
   go_simp
   go_at_call 110
   refine HS.out.mono ?_
   rintro e w3 ⟨hk3, hpost⟩
   have HK3 := lH (HKk.out.drew.keeps hk3 hko)
   have HT3 := lH (HTk.out.drew.keeps hk3 (own_ne HTk.out HLk.out))
   have HKp := lH ((Keeps.of_below HBk.out).trans (Keeps.trans (Keeps.of_below ((drewU (Below.refl _ _) 1))) hk3))
   clear hk3
   rcases hpost with ⟨hnone, rfl, hb3⟩ | ⟨ps', nx', sv', hsome, rfl, hL3, ht3⟩
   · refine hK.out _ _ ?_ (fun hHeld => ?_)
     · exact sk4 HK3.out HT3.out
     clear hK K
     refine hdt (v := ?v17) op7 ?_
     try simp only [hdq]
     refine hdt (v := ?v18) op8 ?_
     try simp only [hdq]
     refine wpAnyH_done (by kernel_rfl) ?_ _
     go_wp2_with fail
     go_ret
     exact ⟨HKp.out, .inl ⟨rfl, HBk.out.trans (((drewU (Below.refl _ _) 1).trans hb3).mono HBk.out.size), fun k hk => by rw [HKT.out] at hk; cases hk; exact hnone⟩⟩
   · refine hK.out _ _ ?_ (fun hHeld => ?_)
     · exact sk4 HK3.out HT3.out
     clear hK K
     refine hdt (v := ?v19) op7 ?_
     try simp only [hdq]
     refine hdt (v := ?v20) op8 ?_
     try simp only [hdq]
     refine wpAnyH_done (by kernel_rfl) ?_ _
     go_wp2_with fail
     go_ret
     exact ⟨HKp.out, .inr ⟨_, ps', nx', sv', rfl, HKT.out, hsome, hL3, fun j hj => (ht3 j hj).elim .inl fun h => .inr (Nat.le_trans HBk.out.size h)⟩⟩
theorem put_no (hLib : ∀ w', Below B w w' → LibS w') (w1 : World) (hb : Below B w w1) {p b mb : Nat} {sv : Value} {ps : List PK} {nx bk bn : Int} {bt : ByteArray} {bA : Option Addr} {bl bc : Nat} (hL : LstP w1 b mb false sv ps nx) (hB1 : B ≤ w1.heap.size)
  (hbk : Blk w1 p 106 #[.pointer (some ⟨b, 0, none⟩), .int .i64 bk, .int .i64 bn, .string bt, .slice bA bl bc]) (hbase : bk = 4 → (bn < 0 → nx = bn) ∧ (0 ≤ nx → bn ≤ nx)) (q : Nat) (hn : ps.length ≤ 2048) (hnx : In64 nx) (h0 : nx < 0) :
  Calls prog 67 #[.pointer (some ⟨p, 0, none⟩), .string ⟨#[]⟩, .bool false, .pointer (some ⟨q, 0, none⟩)] w1 fun e w2 => PutP w1 b mb sv ps nx ⟨#[]⟩ false q e w2 := by
 have HKT : Hid (keyT ⟨#[]⟩ false nx = none) := lH (by
  show keyT _ _ _ = _
  unfold keyT
  rw [if_pos ⟨rfl, rfl⟩, if_pos h0])
 have HKa := lH (Blk.new w1 37 #[.bool true, .int .i64 0, .string ⟨#[]⟩])
 have HBa := lH ((Below.refl w1.heap.size w1).alloc (Nat.le_refl _) (.cells #[.bool true, .int .i64 0, .string ⟨#[]⟩] 37))
 have HLa := lH (hL.below HBa.out)
 have HTa := lH (blk_below hbk HBa.out)
 have HS0 := lH (fun (wx : World) (hx : Below w1.heap.size w1 wx) (k : Key3) (hk : In64 k.2.1) (hs : k.2.2.size ≤ 140737488351232) => (set_any hLib wx (hb.trans (hx.mono hB1)) (hL.below hx) (Nat.le_trans hB1 hx.size) k hk hs q hn hnx : SetK w1 b mb sv ps nx q wx k))
 have hko : ¬ ownL b mb sv w1.heap.size := fun h => Nat.lt_irrefl _ (hL.lt h)
 have HNx := lH (nextT_any (w1.alloc (.cells #[.bool true, .int .i64 0, .string ⟨#[]⟩] 37)) HLa.out HTa.out hbase)
 clear HS0 hL hb hLib hbk hbase
 go_enter func67, ntmps67
 go_wp2_with (go_at_call 115; refine HNx.out.mono ?_; rintro e w' ⟨rfl, hw⟩; rw [hw]; clear hw w')
 go_ret
 exact ⟨Keeps.of_below HBa.out, .inl ⟨rfl, HBa.out, fun k hk => by rw [HKT.out] at hk; cases hk⟩⟩
theorem put_num (hLib : ∀ w', Below B w w' → LibS w') (w1 : World) (hb : Below B w w1) {p b mb : Nat} {sv : Value} {ps : List PK} {nx bk bn : Int} {bt : ByteArray} {bA : Option Addr} {bl bc : Nat} (hL : LstP w1 b mb false sv ps nx) (hB1 : B ≤ w1.heap.size)
  (hbk : Blk w1 p 106 #[.pointer (some ⟨b, 0, none⟩), .int .i64 bk, .int .i64 bn, .string bt, .slice bA bl bc]) (hbase : bk = 4 → (bn < 0 → nx = bn) ∧ (0 ≤ nx → bn ≤ nx)) (q : Nat) (hn : ps.length ≤ 2048) (hnx : In64 nx) (h0 : ¬ nx < 0) :
  Calls prog 67 #[.pointer (some ⟨p, 0, none⟩), .string ⟨#[]⟩, .bool false, .pointer (some ⟨q, 0, none⟩)] w1 fun e w2 => PutP w1 b mb sv ps nx ⟨#[]⟩ false q e w2 := by
 have HKT : Hid (keyT ⟨#[]⟩ false nx = some (false, nx, ⟨#[]⟩)) := lH (by
  show keyT _ _ _ = _
  unfold keyT
  rw [if_pos ⟨rfl, rfl⟩, if_neg h0])
 have HKa := lH (Blk.new w1 37 #[.bool true, .int .i64 0, .string ⟨#[]⟩])
 have HBa := lH ((Below.refl w1.heap.size w1).alloc (Nat.le_refl _) (.cells #[.bool true, .int .i64 0, .string ⟨#[]⟩] 37))
 have HLa := lH (hL.below HBa.out)
 have HTa := lH (blk_below hbk HBa.out)
 have HS0 := lH (fun (wx : World) (hx : Below w1.heap.size w1 wx) (k : Key3) (hk : In64 k.2.1) (hs : k.2.2.size ≤ 140737488351232) => (set_any hLib wx (hb.trans (hx.mono hB1)) (hL.below hx) (Nat.le_trans hB1 hx.size) k hk hs q hn hnx : SetK w1 b mb sv ps nx q wx k))
 have hko : ¬ ownL b mb sv w1.heap.size := fun h => Nat.lt_irrefl _ (hL.lt h)
 have HNx := lH (nextT_any (w1.alloc (.cells #[.bool true, .int .i64 0, .string ⟨#[]⟩] 37)) HLa.out HTa.out hbase)
 have ka0 : (w1.alloc (.cells #[.bool true, .int .i64 0, .string ⟨#[]⟩] 37)).cell? ⟨w1.heap.size, 0, none⟩ = some (.bool true) := HKa.out.cell 0
 have ka1 : (w1.alloc (.cells #[.bool true, .int .i64 0, .string ⟨#[]⟩] 37)).cell? ⟨w1.heap.size, 1, none⟩ = some (.int .i64 0) := HKa.out.cell 1
 have ka2 : (w1.alloc (.cells #[.bool true, .int .i64 0, .string ⟨#[]⟩] 37)).cell? ⟨w1.heap.size, 2, none⟩ = some (.string ⟨#[]⟩) := HKa.out.cell 2
 have kf0 := HKa.out.frozen 0
 have kf1 := HKa.out.frozen 1
 have kf2 := HKa.out.frozen 2
 have HKk := lH (((HKa.out.set_ 0 (.bool false)).set_ 1 (.int .i64 nx)).set_ 2 (.string ⟨#[]⟩))
 have HBk := lH (((HBa.out.setCell (p := ⟨w1.heap.size, 0, none⟩) (Nat.le_refl _) (.bool false)).setCell (p := ⟨w1.heap.size, 1, none⟩) (Nat.le_refl _) (.int .i64 nx)).setCell (p := ⟨w1.heap.size, 2, none⟩) (Nat.le_refl _) (.string ⟨#[]⟩))
 have HLk := lH (hL.below HBk.out)
 have HTk := lH (blk_below hbk HBk.out)
 have HS := lH (HS0.out _ (drewU HBk.out 1) (false, nx, ⟨#[]⟩) hnx (Nat.zero_le _))
 clear HS0 hL hb hLib hbk hbase
 go_enter func67, ntmps67
 go_upto_region 2 with fail
 generalize w1.alloc (.cells #[.bool true, .int .i64 0, .string ⟨#[]⟩] 37) = wa at *
 go_upto_region 6 with (go_at_call 115; refine HNx.out.mono ?_; rintro e w' ⟨rfl, hw⟩; rw [hw]; clear hw w')
 clear HKa HTa HLa HBa HNx ka0 ka1 ka2 kf0 kf1 kf2
 generalize ((wa.setCell ⟨w1.heap.size, 0, none⟩ (.bool false)).setCell ⟨w1.heap.size, 1, none⟩ (.int .i64 nx)).setCell ⟨w1.heap.size, 2, none⟩ (.string ⟨#[]⟩) = wk at *
 refine wp_region_held_drew (S := (fun w' => w'.cell? ⟨p, 0, none⟩ = some (.pointer (some ⟨b, 0, none⟩)) ∧ w'.cell? ⟨w1.heap.size, 0, none⟩ = some (.bool false) ∧ w'.cell? ⟨w1.heap.size, 1, none⟩ = some (.int .i64 nx) ∧ w'.cell? ⟨w1.heap.size, 2, none⟩ = some (.string ⟨#[]⟩))) (by kernel_rfl) ?_ (fun hHeld => ?_)
 · exact sk4 HKk.out.drew HTk.out.drew
 refine hdt (v := ?v21) op0 ?_
 try simp only [hdq]
 refine hdt (v := ?v22) op1 ?_
 try simp only [hdq]
 refine hdt (v := ?v23) op2 ?_
 try simp only [hdq]
 refine hdt (v := ?v24) op3 ?_
 try simp only [hdq]
 refine hdt (v := ?v25) op4 ?_
 try simp only [hdq]
 refine hdt (v := ?v26) op5 ?_
 try simp only [hdq]
 refine hdr1 op6 (fun K hK => ?_)
 go_simp
 go_at_call 110
 refine HS.out.mono ?_
 rintro e w3 ⟨hk3, hpost⟩
 have HK3 := lH (HKk.out.drew.keeps hk3 hko)
 have HT3 := lH (HTk.out.drew.keeps hk3 (own_ne HTk.out HLk.out))
 have HKp := lH ((Keeps.of_below HBk.out).trans (Keeps.trans (Keeps.of_below ((drewU (Below.refl _ _) 1))) hk3))
 clear hk3
 rcases hpost with ⟨hnone, rfl, hb3⟩ | ⟨ps', nx', sv', hsome, rfl, hL3, ht3⟩
 · refine hK.out _ _ ?_ (fun hHeld => ?_)
   · exact sk4 HK3.out HT3.out
   clear hK K
   refine hdt (v := ?v27) op7 ?_
   try simp only [hdq]
   refine hdt (v := ?v28) op8 ?_
   try simp only [hdq]
   refine wpAnyH_done (by kernel_rfl) ?_ _
   go_wp2_with fail
   go_ret
   exact ⟨HKp.out, .inl ⟨rfl, HBk.out.trans (((drewU (Below.refl _ _) 1).trans hb3).mono HBk.out.size), fun k hk => by rw [HKT.out] at hk; cases hk; exact hnone⟩⟩
 · refine hK.out _ _ ?_ (fun hHeld => ?_)
   · exact sk4 HK3.out HT3.out
   clear hK K
   refine hdt (v := ?v29) op7 ?_
   try simp only [hdq]
   refine hdt (v := ?v30) op8 ?_
   try simp only [hdq]
   refine wpAnyH_done (by kernel_rfl) ?_ _
   go_wp2_with fail
   go_ret
   exact ⟨HKp.out, .inr ⟨_, ps', nx', sv', rfl, HKT.out, hsome, hL3, fun j hj => (ht3 j hj).elim .inl fun h => .inr (Nat.le_trans HBk.out.size h)⟩⟩
theorem put_any (hLib : ∀ w', Below B w w' → LibS w') (w1 : World) (hb : Below B w w1) {p b mb : Nat} {sv : Value} {ps : List PK} {nx bk bn : Int} {bt : ByteArray} {bA : Option Addr} {bl bc : Nat} (hL : LstP w1 b mb false sv ps nx) (hB1 : B ≤ w1.heap.size)
  (hbk : Blk w1 p 106 #[.pointer (some ⟨b, 0, none⟩), .int .i64 bk, .int .i64 bn, .string bt, .slice bA bl bc]) (hbase : bk = 4 → (bn < 0 → nx = bn) ∧ (0 ≤ nx → bn ≤ nx)) (step : ByteArray) (head : Bool) (hs : step.size ≤ 140737488351232) (q : Nat) (hn : ps.length ≤ 2048) (hnx : In64 nx) :
  Calls prog 67 #[.pointer (some ⟨p, 0, none⟩), .string step, .bool head, .pointer (some ⟨q, 0, none⟩)] w1 fun e w2 => PutP w1 b mb sv ps nx step head q e w2 := by
 by_cases hc : step = ⟨#[]⟩ ∧ head = false
 · obtain ⟨rfl, rfl⟩ := hc
   by_cases h0 : nx < 0
   · exact put_no hLib w1 hb hL hB1 hbk hbase q hn hnx h0
   · exact put_num hLib w1 hb hL hB1 hbk hbase q hn hnx h0
 · exact put_text hLib w1 hb hL hB1 hbk hbase step head hs q hn hnx hc
end
end Ut
end Go.Proofs.YtgpemnmopogppaaGreatDoor
