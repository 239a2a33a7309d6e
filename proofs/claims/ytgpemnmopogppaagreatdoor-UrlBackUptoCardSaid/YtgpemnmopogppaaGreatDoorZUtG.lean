/- url: tree.next, tree.put: the walks. -/
import Derived.Test.YtgpemnmopogppaaGreatDoorZUtEQ
namespace Go.Proofs.YtgpemnmopogppaaGreatDoor
open Go Go.RowKit
namespace Ut
open Go.Proofs.YtgpemnmopogppaaGreatDoor.Nm (normG keyV norm_any)
open Go.Proofs.YtgpemnmopogppaaGreatDoor.Dp
theorem nextT_any (w : World) {p b mb : Nat} {sh : Bool} {sv : Value} {ps : List PK} {nx bk bn : Int} {bt : ByteArray} {bA : Option Addr} {bl bc : Nat} (hl : LstP w b mb sh sv ps nx)
    (hb : Blk w p 106 #[.pointer (some ⟨b, 0, none⟩), .int .i64 bk, .int .i64 bn, .string bt, .slice bA bl bc]) (hbase : bk = 4 → (bn < 0 → nx = bn) ∧ (0 ≤ nx → bn ≤ nx)) :
    Calls Tryz.prog 115 #[.pointer (some ⟨p, 0, none⟩)] w fun e w' => e = .returned (.int .i64 nx) ∧ w' = w := by
  have HN := Lib.hid (next_any w b nx hl.cells.1 hl.cells.2.2.2.2)
  have c0 := hb.cell 0
  have c1 := hb.cell 1
  have c2 := hb.cell 2
  simp only [List.getElem?_toArray, List.getElem?_cons_zero, List.getElem?_cons_succ] at c0 c1 c2
  clear hl hb
  by_cases h4 : bk = 4
  · obtain ⟨h5, h6⟩ := hbase h4
    subst h4
    clear hbase
    by_cases h7 : bn < 0
    · obtain rfl := h5 h7
      clear h5 h6
      have h8 : decide (nx < 0) = true := decide_eq_true h7
      go_enter Tryz.func115, Tryz.ntmps115
      go_wp2_with (go_at_call 111; refine HN.out.mono ?_; rintro e w' ⟨rfl, rfl⟩)
      go_ret
      exact ⟨rfl, rfl⟩
    · clear h5
      by_cases h8 : 0 ≤ nx
      · have h9 := h6 h8
        have h10 : ¬ nx < bn := by omega
        clear h6
        go_enter Tryz.func115, Tryz.ntmps115
        go_wp2_with (go_at_call 111; refine HN.out.mono ?_; rintro e w' ⟨rfl, rfl⟩)
        go_ret
        exact ⟨rfl, rfl⟩
      · clear h6
        go_enter Tryz.func115, Tryz.ntmps115
        go_wp2_with (go_at_call 111; refine HN.out.mono ?_; rintro e w' ⟨rfl, rfl⟩)
        go_ret
        exact ⟨rfl, rfl⟩
  · clear hbase
    go_enter Tryz.func115, Tryz.ntmps115
    go_wp2_with (go_at_call 111; refine HN.out.mono ?_; rintro e w' ⟨rfl, rfl⟩)
    go_ret
    exact ⟨rfl, rfl⟩
/-- The key under which a tree is put: none, if there is no room. -/
def keyT (step : ByteArray) (head : Bool) (nx : Int) : Option Key3 := if step = ⟨#[]⟩ ∧ head = false then (if nx < 0 then none else some (false, nx, ⟨#[]⟩)) else some (true, 0, step)
theorem not_empty {s : ByteArray} (h : ¬ s = ⟨#[]⟩) : (s.toList == (⟨#[]⟩ : ByteArray).toList) = false ∧ s.toList.isEmpty = false ∧ s.toList ≠ [] := by
  have h1 : s.toList ≠ [] := fun e => h (by
    rw [Lib.toList_data] at e
    cases s with
    | mk d => cases d with
      | mk l => simp at e; subst e; rfl)
  refine ⟨?_, ?_, h1⟩
  · rw [beq_eq_false_iff_ne]
    exact fun e => h1 (by rw [e, Lib.toList_data])
  · cases hl : s.toList with
    | nil => exact absurd hl h1
    | cons a l => rfl
/-- What put does. -/
def PutP (w1 : World) (b mb : Nat) (sv : Value) (ps : List PK) (nx : Int) (step : ByteArray) (head : Bool) (q : Nat) (e : Ending) (w2 : World) : Prop :=
  Keeps (ownL b mb sv) w1 w2 ∧ ((e = .returned (.bool false) ∧ Below w1.heap.size w1 w2 ∧ (∀ k, keyT step head nx = some k → setP ps nx k q = none)) ∨ ∃ k ps' nx' sv', e = .returned (.bool true) ∧ keyT step head nx = some k ∧ setP ps nx k q = some (ps', nx') ∧ LstP w2 b mb false sv' ps' nx' ∧ ∀ j, ownL b mb sv' j → turnL w1.heap.size b mb sv j)
section
variable {w : World} {B : Nat}
/-- The end of put: the key lies in the block n. -/
def SetK (_w1 : World) (b mb : Nat) (sv : Value) (ps : List PK) (nx : Int) (q : Nat) (wx : World) (k : Key3) : Prop :=
  Calls Tryz.prog 110 #[.pointer (some ⟨b, 0, none⟩), .agg #[.bool k.1, .int .i64 k.2.1, .string k.2.2], .pointer (some ⟨q, 0, none⟩)] wx fun e w2 => Keeps (ownL b mb sv) wx w2 ∧
      ((setP ps nx k q = none ∧ e = .returned (.int .i64 8) ∧ Below wx.heap.size wx w2) ∨ ∃ ps' nx' sv', setP ps nx k q = some (ps', nx') ∧ e = .returned (.int .i64 0) ∧ LstP w2 b mb false sv' ps' nx' ∧ ∀ j, ownL b mb sv' j → turnL wx.heap.size b mb sv j)
theorem sk4 {w : World} {x y : Nat} {tx ty : TypeId} {c0 c1 c2 d0 d1 d2 d3 d4 : Value} (h : Blk w x tx #[c0, c1, c2]) (h' : Blk w y ty #[d0, d1, d2, d3, d4]) : w.cell? ⟨y, 0, none⟩ = some d0 ∧ w.cell? ⟨x, 0, none⟩ = some c0 ∧ w.cell? ⟨x, 1, none⟩ = some c1 ∧ w.cell? ⟨x, 2, none⟩ = some c2 := ⟨h'.cell 0, h.cell 0, h.cell 1, h.cell 2⟩
set_option maxRecDepth 100000 in
set_option maxHeartbeats 4000000 in
theorem put_text (hLib : ∀ w', Below B w w' → LibS w') (w1 : World) (hb : Below B w w1) {p b mb : Nat} {sv : Value} {ps : List PK} {nx bk bn : Int} {bt : ByteArray} {bA : Option Addr} {bl bc : Nat} (hL : LstP w1 b mb false sv ps nx) (hB1 : B ≤ w1.heap.size)
    (hbk : Blk w1 p 106 #[.pointer (some ⟨b, 0, none⟩), .int .i64 bk, .int .i64 bn, .string bt, .slice bA bl bc]) (_hbase : bk = 4 → (bn < 0 → nx = bn) ∧ (0 ≤ nx → bn ≤ nx)) (step : ByteArray) (head : Bool) (hs : step.size ≤ 140737488351232) (q : Nat) (hn : ps.length ≤ 2048) (hnx : In64 nx) (hc : ¬ (step = ⟨#[]⟩ ∧ head = false)) :
    Calls Tryz.prog 67 #[.pointer (some ⟨p, 0, none⟩), .string step, .bool head, .pointer (some ⟨q, 0, none⟩)] w1 fun e w2 => PutP w1 b mb sv ps nx step head q e w2 := by
  have HKT : Hid (keyT step head nx = some (true, 0, step)) := Lib.hid (if_neg hc)
  have hi : In64 (0 : Int) := ⟨by decide, by decide⟩
  have HKa := Lib.hid (Blk.new w1 37 #[.bool true, .int .i64 0, .string step])
  have HBa := Lib.hid ((Below.refl w1.heap.size w1).alloc (Nat.le_refl _) (.cells #[.bool true, .int .i64 0, .string step] 37))
  have HLa := Lib.hid (hL.below HBa.out)
  have HTa := Lib.hid (blk_below hbk HBa.out)
  have HS0 := Lib.hid (fun (wx : World) (hx : Below w1.heap.size w1 wx) (k : Key3) (hk : In64 k.2.1) (hs : k.2.2.size ≤ 140737488351232) => (set_any hLib wx (hb.trans (hx.mono hB1)) (hL.below hx) (Nat.le_trans hB1 hx.size) k hk hs q hn hnx : SetK w1 b mb sv ps nx q wx k))
  have hko : ¬ ownL b mb sv w1.heap.size := fun h => Nat.lt_irrefl _ (hL.lt h)
  have HS := Lib.hid (HS0.out _ (drewU HBa.out 1) (true, 0, step) hi hs)
  clear HS0 hL hb hLib hbk _hbase
  by_cases hs0 : step = ⟨#[]⟩
  · subst hs0
    cases head
    · exact absurd ⟨rfl, rfl⟩ hc
    go_enter Tryz.func67, Tryz.ntmps67
    go_upto_region 6 with fail
    have HKk := HKa
    have HTk := HTa
    have HLk := HLa
    have HBk := HBa
    clear HKa HTa HLa HBa
    generalize w1.alloc (.cells #[.bool true, .int .i64 0, .string ⟨#[]⟩] 37) = wk at *
    refine wp_region_held_drew (S := (fun w' => w'.cell? ⟨p, 0, none⟩ = some (.pointer (some ⟨b, 0, none⟩)) ∧ w'.cell? ⟨w1.heap.size, 0, none⟩ = some (.bool true) ∧ w'.cell? ⟨w1.heap.size, 1, none⟩ = some (.int .i64 0) ∧ w'.cell? ⟨w1.heap.size, 2, none⟩ = some (.string ⟨#[]⟩))) (by kernel_rfl) ?_ (fun hHeld => ?_)
    · exact sk4 HKk.out.drew HTk.out.drew
    refine wpAnyH_take (i := 0) (v := ?v1) Held.op0 (by kernel_rfl) (by kernel_rfl) (by kernel_rfl) (fun _ _ _ h => h) (Or.inl ⟨by rfl, ?hy1⟩) (by assumption) ?rest1
    case hy1 => (intro wq hSq; (try dsimp only at hSq); first | (go_simp; done) | (go_simp; with_reducible rfl))
    try simp only [Act.put, List.setIfInBounds_toArray, List.set_cons_zero, List.set_cons_succ]
    refine wpAnyH_take (i := 1) (v := ?v2) Held.op1 (by kernel_rfl) (by kernel_rfl) (by kernel_rfl) (fun _ _ _ h => h) (Or.inl ⟨by rfl, ?hy2⟩) (by assumption) ?rest2
    case hy2 => (intro wq hSq; (try dsimp only at hSq); first | (go_simp; done) | (go_simp; with_reducible rfl))
    try simp only [Act.put, List.setIfInBounds_toArray, List.set_cons_zero, List.set_cons_succ]
    refine wpAnyH_take (i := 2) (v := ?v3) Held.op2 (by kernel_rfl) (by kernel_rfl) (by kernel_rfl) (fun _ _ _ h => h) (Or.inl ⟨by rfl, ?hy3⟩) (by assumption) ?rest3
    case hy3 => (intro wq hSq; (try dsimp only at hSq); first | (go_simp; done) | (go_simp; with_reducible rfl))
    try simp only [Act.put, List.setIfInBounds_toArray, List.set_cons_zero, List.set_cons_succ]
    refine wpAnyH_take (i := 3) (v := ?v4) Held.op3 (by kernel_rfl) (by kernel_rfl) (by kernel_rfl) (fun _ _ _ h => h) (Or.inl ⟨by rfl, ?hy4⟩) (by assumption) ?rest4
    case hy4 => (intro wq hSq; (try dsimp only at hSq); first | (go_simp; done) | (go_simp; with_reducible rfl))
    try simp only [Act.put, List.setIfInBounds_toArray, List.set_cons_zero, List.set_cons_succ]
    refine wpAnyH_take (i := 4) (v := ?v5) Held.op4 (by kernel_rfl) (by kernel_rfl) (by kernel_rfl) (fun _ _ _ h => h) (Or.inl ⟨by rfl, ?hy5⟩) (by assumption) ?rest5
    case hy5 => (intro wq hSq; (try dsimp only at hSq); first | (go_simp; done) | (go_simp; with_reducible rfl))
    try simp only [Act.put, List.setIfInBounds_toArray, List.set_cons_zero, List.set_cons_succ]
    refine wpAnyH_take (i := 5) (v := ?v6) Held.op5 (by kernel_rfl) (by kernel_rfl) (by kernel_rfl) (fun _ _ _ h => h) (Or.inl ⟨by rfl, ?hy6⟩) (by assumption) ?rest6
    case hy6 => (intro wq hSq; (try dsimp only at hSq); first | (go_simp; done) | (go_simp; with_reducible rfl))
    try simp only [Act.put, List.setIfInBounds_toArray, List.set_cons_zero, List.set_cons_succ]
    refine wpAnyH_ready (rs := [6]) (by kernel_rfl) (by simp) ?_
    refine AllReadyH.cons Held.op6 (fun K hK => ?_) AllReadyH.nil
    go_simp
    go_at_call 110
    refine HS.out.mono ?_
    rintro e w3 ⟨hk3, hpost⟩
    have HK3 := Lib.hid (HKk.out.drew.keeps hk3 hko)
    have HT3 := Lib.hid (HTk.out.drew.keeps hk3 (own_ne HTk.out HLk.out))
    have HKp := Lib.hid ((Keeps.of_below HBk.out).trans (Keeps.trans (Keeps.of_below ((drewU (Below.refl _ _) 1))) hk3))
    clear hk3
    rcases hpost with ⟨hnone, rfl, hb3⟩ | ⟨ps', nx', sv', hsome, rfl, hL3, ht3⟩
    · refine hK.out _ _ ?_ (fun hHeld => ?_)
      · exact sk4 HK3.out HT3.out
      clear hK K
      refine wpAnyH_take (i := 7) (v := ?v7) Held.op7 (by kernel_rfl) (by kernel_rfl) (by kernel_rfl) (fun _ _ _ h => h) (Or.inl ⟨by rfl, ?hy7⟩) (by assumption) ?rest7
      case hy7 => (intro wq hSq; (try dsimp only at hSq); first | (go_simp; done) | (go_simp; with_reducible rfl))
      try simp only [Act.put, List.setIfInBounds_toArray, List.set_cons_zero, List.set_cons_succ]
      refine wpAnyH_take (i := 8) (v := ?v8) Held.op8 (by kernel_rfl) (by kernel_rfl) (by kernel_rfl) (fun _ _ _ h => h) (Or.inl ⟨by rfl, ?hy8⟩) (by assumption) ?rest8
      case hy8 => (intro wq hSq; (try dsimp only at hSq); first | (go_simp; done) | (go_simp; with_reducible rfl))
      try simp only [Act.put, List.setIfInBounds_toArray, List.set_cons_zero, List.set_cons_succ]
      refine wpAnyH_done (by kernel_rfl) ?_ _
      go_wp2_with fail
      go_ret
      exact ⟨HKp.out, .inl ⟨rfl, HBk.out.trans (((drewU (Below.refl _ _) 1).trans hb3).mono HBk.out.size), fun k hk => by rw [HKT.out] at hk; cases hk; exact hnone⟩⟩
    · refine hK.out _ _ ?_ (fun hHeld => ?_)
      · exact sk4 HK3.out HT3.out
      clear hK K
      refine wpAnyH_take (i := 7) (v := ?v9) Held.op7 (by kernel_rfl) (by kernel_rfl) (by kernel_rfl) (fun _ _ _ h => h) (Or.inl ⟨by rfl, ?hy9⟩) (by assumption) ?rest9
      case hy9 => (intro wq hSq; (try dsimp only at hSq); first | (go_simp; done) | (go_simp; with_reducible rfl))
      try simp only [Act.put, List.setIfInBounds_toArray, List.set_cons_zero, List.set_cons_succ]
      refine wpAnyH_take (i := 8) (v := ?v10) Held.op8 (by kernel_rfl) (by kernel_rfl) (by kernel_rfl) (fun _ _ _ h => h) (Or.inl ⟨by rfl, ?hy10⟩) (by assumption) ?rest10
      case hy10 => (intro wq hSq; (try dsimp only at hSq); first | (go_simp; done) | (go_simp; with_reducible rfl))
      try simp only [Act.put, List.setIfInBounds_toArray, List.set_cons_zero, List.set_cons_succ]
      refine wpAnyH_done (by kernel_rfl) ?_ _
      go_wp2_with fail
      go_ret
      exact ⟨HKp.out, .inr ⟨_, ps', nx', sv', rfl, HKT.out, hsome, hL3, fun j hj => (ht3 j hj).elim .inl fun h => .inr (Nat.le_trans HBk.out.size h)⟩⟩
  · obtain ⟨hs1, hs2, hs3⟩ := not_empty hs0
    go_enter Tryz.func67, Tryz.ntmps67
    go_upto_region 6 with fail
    have HKk := HKa
    have HTk := HTa
    have HLk := HLa
    have HBk := HBa
    clear HKa HTa HLa HBa
    generalize w1.alloc (.cells #[.bool true, .int .i64 0, .string step] 37) = wk at *
    refine wp_region_held_drew (S := (fun w' => w'.cell? ⟨p, 0, none⟩ = some (.pointer (some ⟨b, 0, none⟩)) ∧ w'.cell? ⟨w1.heap.size, 0, none⟩ = some (.bool true) ∧ w'.cell? ⟨w1.heap.size, 1, none⟩ = some (.int .i64 0) ∧ w'.cell? ⟨w1.heap.size, 2, none⟩ = some (.string step))) (by kernel_rfl) ?_ (fun hHeld => ?_)
    · exact sk4 HKk.out.drew HTk.out.drew
    refine wpAnyH_take (i := 0) (v := ?v11) Held.op0 (by kernel_rfl) (by kernel_rfl) (by kernel_rfl) (fun _ _ _ h => h) (Or.inl ⟨by rfl, ?hy11⟩) (by assumption) ?rest11
    case hy11 => (intro wq hSq; (try dsimp only at hSq); first | (go_simp; done) | (go_simp; with_reducible rfl))
    try simp only [Act.put, List.setIfInBounds_toArray, List.set_cons_zero, List.set_cons_succ]
    refine wpAnyH_take (i := 1) (v := ?v12) Held.op1 (by kernel_rfl) (by kernel_rfl) (by kernel_rfl) (fun _ _ _ h => h) (Or.inl ⟨by rfl, ?hy12⟩) (by assumption) ?rest12
    case hy12 => (intro wq hSq; (try dsimp only at hSq); first | (go_simp; done) | (go_simp; with_reducible rfl))
    try simp only [Act.put, List.setIfInBounds_toArray, List.set_cons_zero, List.set_cons_succ]
    refine wpAnyH_take (i := 2) (v := ?v13) Held.op2 (by kernel_rfl) (by kernel_rfl) (by kernel_rfl) (fun _ _ _ h => h) (Or.inl ⟨by rfl, ?hy13⟩) (by assumption) ?rest13
    case hy13 => (intro wq hSq; (try dsimp only at hSq); first | (go_simp; done) | (go_simp; with_reducible rfl))
    try simp only [Act.put, List.setIfInBounds_toArray, List.set_cons_zero, List.set_cons_succ]
    refine wpAnyH_take (i := 3) (v := ?v14) Held.op3 (by kernel_rfl) (by kernel_rfl) (by kernel_rfl) (fun _ _ _ h => h) (Or.inl ⟨by rfl, ?hy14⟩) (by assumption) ?rest14
    case hy14 => (intro wq hSq; (try dsimp only at hSq); first | (go_simp; done) | (go_simp; with_reducible rfl))
    try simp only [Act.put, List.setIfInBounds_toArray, List.set_cons_zero, List.set_cons_succ]
    refine wpAnyH_take (i := 4) (v := ?v15) Held.op4 (by kernel_rfl) (by kernel_rfl) (by kernel_rfl) (fun _ _ _ h => h) (Or.inl ⟨by rfl, ?hy15⟩) (by assumption) ?rest15
    case hy15 => (intro wq hSq; (try dsimp only at hSq); first | (go_simp; done) | (go_simp; with_reducible rfl))
    try simp only [Act.put, List.setIfInBounds_toArray, List.set_cons_zero, List.set_cons_succ]
    refine wpAnyH_take (i := 5) (v := ?v16) Held.op5 (by kernel_rfl) (by kernel_rfl) (by kernel_rfl) (fun _ _ _ h => h) (Or.inl ⟨by rfl, ?hy16⟩) (by assumption) ?rest16
    case hy16 => (intro wq hSq; (try dsimp only at hSq); first | (go_simp; done) | (go_simp; with_reducible rfl))
    try simp only [Act.put, List.setIfInBounds_toArray, List.set_cons_zero, List.set_cons_succ]
    refine wpAnyH_ready (rs := [6]) (by kernel_rfl) (by simp) ?_
    refine AllReadyH.cons Held.op6 (fun K hK => ?_) AllReadyH.nil
    go_simp
    go_at_call 110
    refine HS.out.mono ?_
    rintro e w3 ⟨hk3, hpost⟩
    have HK3 := Lib.hid (HKk.out.drew.keeps hk3 hko)
    have HT3 := Lib.hid (HTk.out.drew.keeps hk3 (own_ne HTk.out HLk.out))
    have HKp := Lib.hid ((Keeps.of_below HBk.out).trans (Keeps.trans (Keeps.of_below ((drewU (Below.refl _ _) 1))) hk3))
    clear hk3
    rcases hpost with ⟨hnone, rfl, hb3⟩ | ⟨ps', nx', sv', hsome, rfl, hL3, ht3⟩
    · refine hK.out _ _ ?_ (fun hHeld => ?_)
      · exact sk4 HK3.out HT3.out
      clear hK K
      refine wpAnyH_take (i := 7) (v := ?v17) Held.op7 (by kernel_rfl) (by kernel_rfl) (by kernel_rfl) (fun _ _ _ h => h) (Or.inl ⟨by rfl, ?hy17⟩) (by assumption) ?rest17
      case hy17 => (intro wq hSq; (try dsimp only at hSq); first | (go_simp; done) | (go_simp; with_reducible rfl))
      try simp only [Act.put, List.setIfInBounds_toArray, List.set_cons_zero, List.set_cons_succ]
      refine wpAnyH_take (i := 8) (v := ?v18) Held.op8 (by kernel_rfl) (by kernel_rfl) (by kernel_rfl) (fun _ _ _ h => h) (Or.inl ⟨by rfl, ?hy18⟩) (by assumption) ?rest18
      case hy18 => (intro wq hSq; (try dsimp only at hSq); first | (go_simp; done) | (go_simp; with_reducible rfl))
      try simp only [Act.put, List.setIfInBounds_toArray, List.set_cons_zero, List.set_cons_succ]
      refine wpAnyH_done (by kernel_rfl) ?_ _
      go_wp2_with fail
      go_ret
      exact ⟨HKp.out, .inl ⟨rfl, HBk.out.trans (((drewU (Below.refl _ _) 1).trans hb3).mono HBk.out.size), fun k hk => by rw [HKT.out] at hk; cases hk; exact hnone⟩⟩
    · refine hK.out _ _ ?_ (fun hHeld => ?_)
      · exact sk4 HK3.out HT3.out
      clear hK K
      refine wpAnyH_take (i := 7) (v := ?v19) Held.op7 (by kernel_rfl) (by kernel_rfl) (by kernel_rfl) (fun _ _ _ h => h) (Or.inl ⟨by rfl, ?hy19⟩) (by assumption) ?rest19
      case hy19 => (intro wq hSq; (try dsimp only at hSq); first | (go_simp; done) | (go_simp; with_reducible rfl))
      try simp only [Act.put, List.setIfInBounds_toArray, List.set_cons_zero, List.set_cons_succ]
      refine wpAnyH_take (i := 8) (v := ?v20) Held.op8 (by kernel_rfl) (by kernel_rfl) (by kernel_rfl) (fun _ _ _ h => h) (Or.inl ⟨by rfl, ?hy20⟩) (by assumption) ?rest20
      case hy20 => (intro wq hSq; (try dsimp only at hSq); first | (go_simp; done) | (go_simp; with_reducible rfl))
      try simp only [Act.put, List.setIfInBounds_toArray, List.set_cons_zero, List.set_cons_succ]
      refine wpAnyH_done (by kernel_rfl) ?_ _
      go_wp2_with fail
      go_ret
      exact ⟨HKp.out, .inr ⟨_, ps', nx', sv', rfl, HKT.out, hsome, hL3, fun j hj => (ht3 j hj).elim .inl fun h => .inr (Nat.le_trans HBk.out.size h)⟩⟩
set_option maxRecDepth 100000 in
set_option maxHeartbeats 4000000 in
theorem put_no (hLib : ∀ w', Below B w w' → LibS w') (w1 : World) (hb : Below B w w1) {p b mb : Nat} {sv : Value} {ps : List PK} {nx bk bn : Int} {bt : ByteArray} {bA : Option Addr} {bl bc : Nat} (hL : LstP w1 b mb false sv ps nx) (hB1 : B ≤ w1.heap.size)
    (hbk : Blk w1 p 106 #[.pointer (some ⟨b, 0, none⟩), .int .i64 bk, .int .i64 bn, .string bt, .slice bA bl bc]) (hbase : bk = 4 → (bn < 0 → nx = bn) ∧ (0 ≤ nx → bn ≤ nx)) (q : Nat) (hn : ps.length ≤ 2048) (hnx : In64 nx) (h0 : nx < 0) :
    Calls Tryz.prog 67 #[.pointer (some ⟨p, 0, none⟩), .string ⟨#[]⟩, .bool false, .pointer (some ⟨q, 0, none⟩)] w1 fun e w2 => PutP w1 b mb sv ps nx ⟨#[]⟩ false q e w2 := by
  have HKT : Hid (keyT ⟨#[]⟩ false nx = none) := Lib.hid (by
    show keyT _ _ _ = _
    unfold keyT
    rw [if_pos ⟨rfl, rfl⟩, if_pos h0])
  have HKa := Lib.hid (Blk.new w1 37 #[.bool true, .int .i64 0, .string ⟨#[]⟩])
  have HBa := Lib.hid ((Below.refl w1.heap.size w1).alloc (Nat.le_refl _) (.cells #[.bool true, .int .i64 0, .string ⟨#[]⟩] 37))
  have HLa := Lib.hid (hL.below HBa.out)
  have HTa := Lib.hid (blk_below hbk HBa.out)
  have HS0 := Lib.hid (fun (wx : World) (hx : Below w1.heap.size w1 wx) (k : Key3) (hk : In64 k.2.1) (hs : k.2.2.size ≤ 140737488351232) => (set_any hLib wx (hb.trans (hx.mono hB1)) (hL.below hx) (Nat.le_trans hB1 hx.size) k hk hs q hn hnx : SetK w1 b mb sv ps nx q wx k))
  have hko : ¬ ownL b mb sv w1.heap.size := fun h => Nat.lt_irrefl _ (hL.lt h)
  have HNx := Lib.hid (nextT_any (w1.alloc (.cells #[.bool true, .int .i64 0, .string ⟨#[]⟩] 37)) HLa.out HTa.out hbase)
  clear HS0 hL hb hLib hbk hbase
  go_enter Tryz.func67, Tryz.ntmps67
  go_wp2_with (go_at_call 115; refine HNx.out.mono ?_; rintro e w' ⟨rfl, hw⟩; rw [hw]; clear hw w')
  go_ret
  exact ⟨Keeps.of_below HBa.out, .inl ⟨rfl, HBa.out, fun k hk => by rw [HKT.out] at hk; cases hk⟩⟩
set_option maxRecDepth 100000 in
set_option maxHeartbeats 4000000 in
theorem put_num (hLib : ∀ w', Below B w w' → LibS w') (w1 : World) (hb : Below B w w1) {p b mb : Nat} {sv : Value} {ps : List PK} {nx bk bn : Int} {bt : ByteArray} {bA : Option Addr} {bl bc : Nat} (hL : LstP w1 b mb false sv ps nx) (hB1 : B ≤ w1.heap.size)
    (hbk : Blk w1 p 106 #[.pointer (some ⟨b, 0, none⟩), .int .i64 bk, .int .i64 bn, .string bt, .slice bA bl bc]) (hbase : bk = 4 → (bn < 0 → nx = bn) ∧ (0 ≤ nx → bn ≤ nx)) (q : Nat) (hn : ps.length ≤ 2048) (hnx : In64 nx) (h0 : ¬ nx < 0) :
    Calls Tryz.prog 67 #[.pointer (some ⟨p, 0, none⟩), .string ⟨#[]⟩, .bool false, .pointer (some ⟨q, 0, none⟩)] w1 fun e w2 => PutP w1 b mb sv ps nx ⟨#[]⟩ false q e w2 := by
  have HKT : Hid (keyT ⟨#[]⟩ false nx = some (false, nx, ⟨#[]⟩)) := Lib.hid (by
    show keyT _ _ _ = _
    unfold keyT
    rw [if_pos ⟨rfl, rfl⟩, if_neg h0])
  have HKa := Lib.hid (Blk.new w1 37 #[.bool true, .int .i64 0, .string ⟨#[]⟩])
  have HBa := Lib.hid ((Below.refl w1.heap.size w1).alloc (Nat.le_refl _) (.cells #[.bool true, .int .i64 0, .string ⟨#[]⟩] 37))
  have HLa := Lib.hid (hL.below HBa.out)
  have HTa := Lib.hid (blk_below hbk HBa.out)
  have HS0 := Lib.hid (fun (wx : World) (hx : Below w1.heap.size w1 wx) (k : Key3) (hk : In64 k.2.1) (hs : k.2.2.size ≤ 140737488351232) => (set_any hLib wx (hb.trans (hx.mono hB1)) (hL.below hx) (Nat.le_trans hB1 hx.size) k hk hs q hn hnx : SetK w1 b mb sv ps nx q wx k))
  have hko : ¬ ownL b mb sv w1.heap.size := fun h => Nat.lt_irrefl _ (hL.lt h)
  have HNx := Lib.hid (nextT_any (w1.alloc (.cells #[.bool true, .int .i64 0, .string ⟨#[]⟩] 37)) HLa.out HTa.out hbase)
  have ka0 : (w1.alloc (.cells #[.bool true, .int .i64 0, .string ⟨#[]⟩] 37)).cell? ⟨w1.heap.size, 0, none⟩ = some (.bool true) := HKa.out.cell 0
  have ka1 : (w1.alloc (.cells #[.bool true, .int .i64 0, .string ⟨#[]⟩] 37)).cell? ⟨w1.heap.size, 1, none⟩ = some (.int .i64 0) := HKa.out.cell 1
  have ka2 : (w1.alloc (.cells #[.bool true, .int .i64 0, .string ⟨#[]⟩] 37)).cell? ⟨w1.heap.size, 2, none⟩ = some (.string ⟨#[]⟩) := HKa.out.cell 2
  have kf0 := HKa.out.frozen 0
  have kf1 := HKa.out.frozen 1
  have kf2 := HKa.out.frozen 2
  have HKk := Lib.hid (((HKa.out.set_ 0 (.bool false)).set_ 1 (.int .i64 nx)).set_ 2 (.string ⟨#[]⟩))
  have HBk := Lib.hid (((HBa.out.setCell (p := ⟨w1.heap.size, 0, none⟩) (Nat.le_refl _) (.bool false)).setCell (p := ⟨w1.heap.size, 1, none⟩) (Nat.le_refl _) (.int .i64 nx)).setCell (p := ⟨w1.heap.size, 2, none⟩) (Nat.le_refl _) (.string ⟨#[]⟩))
  have HLk := Lib.hid (hL.below HBk.out)
  have HTk := Lib.hid (blk_below hbk HBk.out)
  have HS := Lib.hid (HS0.out _ (drewU HBk.out 1) (false, nx, ⟨#[]⟩) hnx (Nat.zero_le _))
  clear HS0 hL hb hLib hbk hbase
  go_enter Tryz.func67, Tryz.ntmps67
  go_upto_region 2 with fail
  generalize w1.alloc (.cells #[.bool true, .int .i64 0, .string ⟨#[]⟩] 37) = wa at *
  go_upto_region 6 with (go_at_call 115; refine HNx.out.mono ?_; rintro e w' ⟨rfl, hw⟩; rw [hw]; clear hw w')
  clear HKa HTa HLa HBa HNx ka0 ka1 ka2 kf0 kf1 kf2
  generalize ((wa.setCell ⟨w1.heap.size, 0, none⟩ (.bool false)).setCell ⟨w1.heap.size, 1, none⟩ (.int .i64 nx)).setCell ⟨w1.heap.size, 2, none⟩ (.string ⟨#[]⟩) = wk at *
  refine wp_region_held_drew (S := (fun w' => w'.cell? ⟨p, 0, none⟩ = some (.pointer (some ⟨b, 0, none⟩)) ∧ w'.cell? ⟨w1.heap.size, 0, none⟩ = some (.bool false) ∧ w'.cell? ⟨w1.heap.size, 1, none⟩ = some (.int .i64 nx) ∧ w'.cell? ⟨w1.heap.size, 2, none⟩ = some (.string ⟨#[]⟩))) (by kernel_rfl) ?_ (fun hHeld => ?_)
  · exact sk4 HKk.out.drew HTk.out.drew
  refine wpAnyH_take (i := 0) (v := ?v21) Held.op0 (by kernel_rfl) (by kernel_rfl) (by kernel_rfl) (fun _ _ _ h => h) (Or.inl ⟨by rfl, ?hy21⟩) (by assumption) ?rest21
  case hy21 => (intro wq hSq; (try dsimp only at hSq); first | (go_simp; done) | (go_simp; with_reducible rfl))
  try simp only [Act.put, List.setIfInBounds_toArray, List.set_cons_zero, List.set_cons_succ]
  refine wpAnyH_take (i := 1) (v := ?v22) Held.op1 (by kernel_rfl) (by kernel_rfl) (by kernel_rfl) (fun _ _ _ h => h) (Or.inl ⟨by rfl, ?hy22⟩) (by assumption) ?rest22
  case hy22 => (intro wq hSq; (try dsimp only at hSq); first | (go_simp; done) | (go_simp; with_reducible rfl))
  try simp only [Act.put, List.setIfInBounds_toArray, List.set_cons_zero, List.set_cons_succ]
  refine wpAnyH_take (i := 2) (v := ?v23) Held.op2 (by kernel_rfl) (by kernel_rfl) (by kernel_rfl) (fun _ _ _ h => h) (Or.inl ⟨by rfl, ?hy23⟩) (by assumption) ?rest23
  case hy23 => (intro wq hSq; (try dsimp only at hSq); first | (go_simp; done) | (go_simp; with_reducible rfl))
  try simp only [Act.put, List.setIfInBounds_toArray, List.set_cons_zero, List.set_cons_succ]
  refine wpAnyH_take (i := 3) (v := ?v24) Held.op3 (by kernel_rfl) (by kernel_rfl) (by kernel_rfl) (fun _ _ _ h => h) (Or.inl ⟨by rfl, ?hy24⟩) (by assumption) ?rest24
  case hy24 => (intro wq hSq; (try dsimp only at hSq); first | (go_simp; done) | (go_simp; with_reducible rfl))
  try simp only [Act.put, List.setIfInBounds_toArray, List.set_cons_zero, List.set_cons_succ]
  refine wpAnyH_take (i := 4) (v := ?v25) Held.op4 (by kernel_rfl) (by kernel_rfl) (by kernel_rfl) (fun _ _ _ h => h) (Or.inl ⟨by rfl, ?hy25⟩) (by assumption) ?rest25
  case hy25 => (intro wq hSq; (try dsimp only at hSq); first | (go_simp; done) | (go_simp; with_reducible rfl))
  try simp only [Act.put, List.setIfInBounds_toArray, List.set_cons_zero, List.set_cons_succ]
  refine wpAnyH_take (i := 5) (v := ?v26) Held.op5 (by kernel_rfl) (by kernel_rfl) (by kernel_rfl) (fun _ _ _ h => h) (Or.inl ⟨by rfl, ?hy26⟩) (by assumption) ?rest26
  case hy26 => (intro wq hSq; (try dsimp only at hSq); first | (go_simp; done) | (go_simp; with_reducible rfl))
  try simp only [Act.put, List.setIfInBounds_toArray, List.set_cons_zero, List.set_cons_succ]
  refine wpAnyH_ready (rs := [6]) (by kernel_rfl) (by simp) ?_
  refine AllReadyH.cons Held.op6 (fun K hK => ?_) AllReadyH.nil
  go_simp
  go_at_call 110
  refine HS.out.mono ?_
  rintro e w3 ⟨hk3, hpost⟩
  have HK3 := Lib.hid (HKk.out.drew.keeps hk3 hko)
  have HT3 := Lib.hid (HTk.out.drew.keeps hk3 (own_ne HTk.out HLk.out))
  have HKp := Lib.hid ((Keeps.of_below HBk.out).trans (Keeps.trans (Keeps.of_below ((drewU (Below.refl _ _) 1))) hk3))
  clear hk3
  rcases hpost with ⟨hnone, rfl, hb3⟩ | ⟨ps', nx', sv', hsome, rfl, hL3, ht3⟩
  · refine hK.out _ _ ?_ (fun hHeld => ?_)
    · exact sk4 HK3.out HT3.out
    clear hK K
    refine wpAnyH_take (i := 7) (v := ?v27) Held.op7 (by kernel_rfl) (by kernel_rfl) (by kernel_rfl) (fun _ _ _ h => h) (Or.inl ⟨by rfl, ?hy27⟩) (by assumption) ?rest27
    case hy27 => (intro wq hSq; (try dsimp only at hSq); first | (go_simp; done) | (go_simp; with_reducible rfl))
    try simp only [Act.put, List.setIfInBounds_toArray, List.set_cons_zero, List.set_cons_succ]
    refine wpAnyH_take (i := 8) (v := ?v28) Held.op8 (by kernel_rfl) (by kernel_rfl) (by kernel_rfl) (fun _ _ _ h => h) (Or.inl ⟨by rfl, ?hy28⟩) (by assumption) ?rest28
    case hy28 => (intro wq hSq; (try dsimp only at hSq); first | (go_simp; done) | (go_simp; with_reducible rfl))
    try simp only [Act.put, List.setIfInBounds_toArray, List.set_cons_zero, List.set_cons_succ]
    refine wpAnyH_done (by kernel_rfl) ?_ _
    go_wp2_with fail
    go_ret
    exact ⟨HKp.out, .inl ⟨rfl, HBk.out.trans (((drewU (Below.refl _ _) 1).trans hb3).mono HBk.out.size), fun k hk => by rw [HKT.out] at hk; cases hk; exact hnone⟩⟩
  · refine hK.out _ _ ?_ (fun hHeld => ?_)
    · exact sk4 HK3.out HT3.out
    clear hK K
    refine wpAnyH_take (i := 7) (v := ?v29) Held.op7 (by kernel_rfl) (by kernel_rfl) (by kernel_rfl) (fun _ _ _ h => h) (Or.inl ⟨by rfl, ?hy29⟩) (by assumption) ?rest29
    case hy29 => (intro wq hSq; (try dsimp only at hSq); first | (go_simp; done) | (go_simp; with_reducible rfl))
    try simp only [Act.put, List.setIfInBounds_toArray, List.set_cons_zero, List.set_cons_succ]
    refine wpAnyH_take (i := 8) (v := ?v30) Held.op8 (by kernel_rfl) (by kernel_rfl) (by kernel_rfl) (fun _ _ _ h => h) (Or.inl ⟨by rfl, ?hy30⟩) (by assumption) ?rest30
    case hy30 => (intro wq hSq; (try dsimp only at hSq); first | (go_simp; done) | (go_simp; with_reducible rfl))
    try simp only [Act.put, List.setIfInBounds_toArray, List.set_cons_zero, List.set_cons_succ]
    refine wpAnyH_done (by kernel_rfl) ?_ _
    go_wp2_with fail
    go_ret
    exact ⟨HKp.out, .inr ⟨_, ps', nx', sv', rfl, HKT.out, hsome, hL3, fun j hj => (ht3 j hj).elim .inl fun h => .inr (Nat.le_trans HBk.out.size h)⟩⟩
theorem put_any (hLib : ∀ w', Below B w w' → LibS w') (w1 : World) (hb : Below B w w1) {p b mb : Nat} {sv : Value} {ps : List PK} {nx bk bn : Int} {bt : ByteArray} {bA : Option Addr} {bl bc : Nat} (hL : LstP w1 b mb false sv ps nx) (hB1 : B ≤ w1.heap.size)
    (hbk : Blk w1 p 106 #[.pointer (some ⟨b, 0, none⟩), .int .i64 bk, .int .i64 bn, .string bt, .slice bA bl bc]) (hbase : bk = 4 → (bn < 0 → nx = bn) ∧ (0 ≤ nx → bn ≤ nx)) (step : ByteArray) (head : Bool) (hs : step.size ≤ 140737488351232) (q : Nat) (hn : ps.length ≤ 2048) (hnx : In64 nx) :
    Calls Tryz.prog 67 #[.pointer (some ⟨p, 0, none⟩), .string step, .bool head, .pointer (some ⟨q, 0, none⟩)] w1 fun e w2 => PutP w1 b mb sv ps nx step head q e w2 := by
  by_cases hc : step = ⟨#[]⟩ ∧ head = false
  · obtain ⟨rfl, rfl⟩ := hc
    by_cases h0 : nx < 0
    · exact put_no hLib w1 hb hL hB1 hbk hbase q hn hnx h0
    · exact put_num hLib w1 hb hL hB1 hbk hbase q hn hnx h0
  · exact put_text hLib w1 hb hL hB1 hbk hbase step head hs q hn hnx hc
end
end Ut
end Go.Proofs.YtgpemnmopogppaaGreatDoor
