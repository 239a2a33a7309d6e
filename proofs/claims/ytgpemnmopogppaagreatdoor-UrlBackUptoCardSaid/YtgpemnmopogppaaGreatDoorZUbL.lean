/- UrlBack: the law's walk; alive by the contracts of what it calls. -/
import Derived.Test.YtgpemnmopogppaaGreatDoorZUbG
import Derived.Test.YtgpemnmopogppaaGreatDoorZUbP
import Derived.Test.YtgpemnmopogppaaGreatDoorZDpSr
import Derived.Laws.StructEq
namespace Go.Proofs.YtgpemnmopogppaaGreatDoor
open Go Go.RowKit
namespace Ub
open Go.Proofs.YtgpemnmopogppaaGreatDoor.Dp
open Go.Proofs.YtgpemnmopogppaaGreatDoor.Ut
open Go.Proofs.YtgpemnmopogppaaGreatDoor.Nm (normG)
open Go.Proofs.YtgpemnmopogppaaGreatDoor.Url (encL decF)
theorem z8 {w : World} {b : Nat} {t : TypeId} {a0 a1 a2 a3 : Value} (h : Blk w b t #[a0, a1, a2, a3]) : (w.cell? ⟨b, 0, none⟩ = some a0 ∧ w.cell? ⟨b, 1, none⟩ = some a1 ∧ w.cell? ⟨b, 2, none⟩ = some a2 ∧ w.cell? ⟨b, 3, none⟩ = some a3) ∧ True := ⟨⟨h.cell 0, h.cell 1, h.cell 2, h.cell 3⟩, trivial⟩
/-! ### alive -/
def aliveL : List UInt8 := [97, 91, 93, 61, 120, 43, 121, 38, 98, 61, 37, 52, 49]
def aliveI : List GI := [.mk true 0 ⟨#[97]⟩ (.mk 4 1 ⟨#[]⟩ [.mk false 0 ⟨#[]⟩ (.mk 3 0 ⟨#[120, 32, 121]⟩ [])]), .mk true 0 ⟨#[98]⟩ (.mk 3 0 ⟨#[65]⟩ [])]
set_option maxRecDepth 100000 in
theorem alive_query : queryG aliveL = .mk 4 0 ⟨#[]⟩ aliveI := by
  have s1 : splitL 38 aliveL = [[97, 91, 93, 61, 120, 43, 121], [98, 61, 37, 52, 49]] := by rfl
  have r1 : restL (decF (cutL 61 [97, 91, 93, 61, 120, 43, 121]).1) = [91, 93] := by rfl
  have r2 : restL (decF (cutL 61 [98, 61, 37, 52, 49]).1) = [] := by rfl
  have t1 : stepsL [91, 93] = [[]] := by
    rw [stepsL, if_pos ⟨rfl, by simp⟩]
    show [] :: stepsL [] = _
    rw [stepsL]
  unfold queryG
  rw [s1, queryF_take (by simp), queryF_take (by simp)]
  unfold putQ
  rw [r1, r2, t1, stepsL]
  rfl
theorem alive_fit : Fit (.mk 4 0 ⟨#[]⟩ aliveI) := by
  have h1 : Fit (.mk 3 0 ⟨#[120, 32, 121]⟩ []) := .mk 3 0 _ [] ⟨by decide, by decide⟩ ⟨by decide, by decide⟩ (by decide) (fun i it h => by simp at h) (fun i it h => by simp at h)
  have h2 : Fit (.mk 3 0 ⟨#[65]⟩ []) := .mk 3 0 _ [] ⟨by decide, by decide⟩ ⟨by decide, by decide⟩ (by decide) (fun i it h => by simp at h) (fun i it h => by simp at h)
  have h3 : Fit (.mk 4 1 ⟨#[]⟩ [.mk false 0 ⟨#[]⟩ (.mk 3 0 ⟨#[120, 32, 121]⟩ [])]) := by
    refine .mk 4 1 _ _ ⟨by decide, by decide⟩ ⟨by decide, by decide⟩ (by decide) (fun i it h => ?_) (fun i it h => ?_)
    all_goals
      match i with
      | 0 => cases h; first | exact h1 | exact ⟨⟨by decide, by decide⟩, by decide⟩
      | i + 1 => simp at h
  refine .mk 4 0 _ _ ⟨by decide, by decide⟩ ⟨by decide, by decide⟩ (by decide) (fun i it h => ?_) (fun i it h => ?_)
  all_goals
    match i with
    | 0 => cases h; first | exact h3 | exact ⟨⟨by decide, by decide⟩, by decide⟩
    | 1 => cases h; first | exact h2 | exact ⟨⟨by decide, by decide⟩, by decide⟩
    | i + 2 => simp [aliveI] at h
set_option maxRecDepth 100000 in
theorem alive_good : GoodV 0 (.mk 4 0 ⟨#[]⟩ aliveI) := good_of _ 0 rfl (by decide +kernel) (by decide +kernel) alive_fit
set_option maxRecDepth 100000 in
theorem alive_text : mkB (joinQ (buildI aliveI)) = ⟨#[97, 37, 53, 66, 48, 37, 53, 68, 61, 120, 43, 121, 38, 98, 61, 65]⟩ := by decide +kernel
theorem query_b (s : List UInt8) (hs : s.length < 4294967281) (hp : ∀ p ∈ splitL 38 s, p.length < 4294967281 ∧ (cutL 61 p).1.length ≤ 16777216 ∧ (cutL 61 p).2.length ≤ 16777216) (w : World) (hL : LibS w) (m : Int) (hm : w.cell? ⟨0, 0, none⟩ = some (.int .i64 m)) {nx : Int} {l : List GI} (hq : queryG s = .mk 4 nx ⟨#[]⟩ l) :
    Calls Tryz.prog 10 #[.string (mkB s)] w fun e w' => ∃ A c, e = .returned (.agg #[.int .i64 4, .int .i64 nx, .string ⟨#[]⟩, .slice A l.length c]) ∧ VAt w' w'.heap.size (.mk 4 nx ⟨#[]⟩ l) (.agg #[.int .i64 4, .int .i64 nx, .string ⟨#[]⟩, .slice A l.length c]) ∧ Below w.heap.size w w' :=
  (uquery_any s hs hp w hL m hm).mono fun e w' ⟨y, h1, h2, h3⟩ => by
    rw [hq] at h2
    obtain ⟨A, c, rfl⟩ := h2.form
    exact ⟨A, c, h1, h2.at_ (fun b _ hb => hb.2) (fun b hb => hb.2), h3⟩
theorem at_up {w w' : World} {B B' : Nat} {g : GV} {x : Value} (h : VAt w B g x) (hB : B ≤ B') (hBw : B' ≤ w'.heap.size) (hb : Below B w w') : VAt w' B' g x := by
  have h1 : VIn w' (· < B) g x := (VIn.of h).keep (fun _ h => h) fun q hq => hb.cell hq
  exact h1.at_ (fun b _ hb => Nat.lt_of_lt_of_le hb hB) (fun b hb => Nat.lt_of_lt_of_le hb (Nat.le_trans hB hBw))
set_option maxRecDepth 100000 in
set_option maxHeartbeats 4000000 in
theorem alive_b (w : World) (hL : LibS w) (m : Int) (hm : w.cell? ⟨0, 0, none⟩ = some (.int .i64 m)) : Calls Tryz.prog 12 #[] w fun e w' => e = .returned (.bool true) ∧ Below w.heap.size w w' := by
  have HQ := Lib.hid (query_b aliveL (by decide) (fun p hp => by
    have h1 := splitL_mem 38 aliveL p hp
    have h2 := cutL_le 61 p
    have h3 : aliveL.length = 13 := rfl
    omega) w hL m hm alive_query)
  have HLb := Lib.hid (fun wz (hb : Below w.heap.size w wz) => hL.below hb)
  have HBu : Hid (∀ (wz : World) (A : Option Addr) (c : Nat), Below w.heap.size w wz → VAt wz wz.heap.size (.mk 4 0 ⟨#[]⟩ aliveI) (.agg #[.int .i64 4, .int .i64 0, .string ⟨#[]⟩, .slice A 2 c]) → Calls Tryz.prog 16 #[.agg #[.int .i64 4, .int .i64 0, .string ⟨#[]⟩, .slice A 2 c]] wz fun e w2 => e = .returned (.tuple #[.string ⟨#[97, 37, 53, 66, 48, 37, 53, 68, 61, 120, 43, 121, 38, 98, 61, 65]⟩, .int .i64 0]) ∧ Below wz.heap.size wz w2) := fun wz A c hb hv => by
    have h := build_any (Nat.le_refl _) (fun w2 h2 => (HLb.out wz hb).below h2) hv alive_good alive_fit (by decide) (by decide) wz (Below.refl _ _)
    rwa [alive_text] at h
  clear hL hm HLb
  have e1 : mkB aliveL = ⟨#[97, 91, 93, 61, 120, 43, 121, 38, 98, 61, 37, 52, 49]⟩ := rfl
  have e2 : aliveI.length = 2 := rfl
  rw [e1, e2] at HQ
  clear e1 e2
  go_enter Tryz.func12, Tryz.ntmps12
  go_upto_region 2 with (go_at_call 10; refine HQ.out.mono ?_; rintro e w1 ⟨A, c, rfl, hv, hb1⟩; have HV1 := Lib.hid hv; have HB1 := Lib.hid hb1; clear hv hb1)
  have hal := (Below.refl w1.heap.size w1).alloc (Nat.le_refl _) (.cells #[.int .i64 4, .int .i64 0, .string ⟨#[]⟩, .slice A 2 c] 25)
  have HB2 := Lib.hid (HB1.out.trans (hal.mono HB1.out.size))
  have HV2 := Lib.hid (at_up HV1.out (Nat.le_add_right _ 1) (by simp) hal)
  have HX2 := Lib.hid (Blk.new w1 25 #[.int .i64 4, .int .i64 0, .string ⟨#[]⟩, .slice A 2 c])
  have hsz : (w1.alloc (.cells #[.int .i64 4, .int .i64 0, .string ⟨#[]⟩, .slice A 2 c] 25)).heap.size = w1.heap.size + 1 := by simp
  rw [← hsz] at HV2
  clear hal HV1 HB1 HQ hsz
  generalize w1.alloc (.cells #[.int .i64 4, .int .i64 0, .string ⟨#[]⟩, .slice A 2 c] 25) = w2 at *
  obtain ⟨⟨a0, a1, a2, a3⟩, -⟩ := z8 HX2.out
  have hcmp : ((⟨#[97, 37, 53, 66, 48, 37, 53, 68, 61, 120, 43, 121, 38, 98, 61, 65]⟩ : ByteArray).toList == (⟨#[97, 37, 53, 66, 48, 37, 53, 68, 61, 120, 43, 121, 38, 98, 61, 65]⟩ : ByteArray).toList) = true := beq_self_eq_true _
  go_wp2_with (go_at_call 16; refine (HBu.out _ A c HB2.out HV2.out).mono ?_; rintro e w3 ⟨rfl, hb3⟩; have HB3 := Lib.hid (HB2.out.trans (hb3.mono HB2.out.size)); have HX3 := Lib.hid (blk_below HX2.out hb3); obtain ⟨⟨b0, b1, b2, b3⟩, -⟩ := z8 HX3.out; clear hb3)
  go_ret
  exact ⟨rfl, HB3.out⟩
theorem count_low {g : GV} (hf : fewB g = true) (hc : ¬ 1000 < countV g) : cntV g ≤ 1000 := by
  unfold countV at hc
  have h1 : 0 ≤ leftV g 2048 := of_decide_eq_true hf
  have h2 := cnt_leftV g 2048 h1
  omega
theorem right_two {g : GV} (h : rightB g = true) : fewB g = true ∧ mayV g 0 = true := by
  unfold rightB at h
  simpa using h
/-- What is read behind the guards. -/
theorem back_facts {n : Int} {t : ByteArray} {l : List GI} (hf : Fit (.mk 4 n t l)) (hbk : bulkV (.mk 4 n t l) ≤ 1048576) (hr : rightB (.mk 4 n t l) = true) (hg : goodV (.mk 4 n t l) 0 = true) (hc : ¬ 1000 < countV (.mk 4 n t l)) :
    GoodV 0 (.mk 4 n t l) ∧ l.length + cntI l ≤ 1000 ∧ (joinQ (buildI l)).length < 4294967281 ∧ (∀ p ∈ splitL 38 (joinQ (buildI l)), p.length < 4294967281 ∧ (cutL 61 p).1.length ≤ 16777216 ∧ (cutL 61 p).2.length ≤ 16777216) ∧
      queryG (joinQ (buildI l)) = .mk 4 ((l.map GI.keyG).foldl nextK 0) ⟨#[]⟩ (imgI l) ∧ sameB (.mk 4 ((l.map GI.keyG).foldl nextK 0) ⟨#[]⟩ (imgI l)) (.mk 4 n t l) = true := by
  obtain ⟨h1, h2⟩ := right_two hr
  have hG := good_of _ 0 rfl hg h2 hf
  have hcnt := count_low h1 hc
  rw [cntV] at hcnt
  obtain ⟨b1, b2, b3, b4⟩ := back hG hcnt
  have e : imgV (.mk 4 n t l) = .mk 4 ((l.map GI.keyG).foldl nextK 0) ⟨#[]⟩ (imgI l) := by rw [imgV, if_pos rfl]
  rw [e] at b1 b2 b4
  rw [← buildI_leaves] at b1
  have hlen := build_len hG hf hbk
  have hbl := buildI_len l
  have hP := pieces_len hG hf hbk
  refine ⟨hG, hcnt, by omega, fun p hp => ?_, b1, ?_⟩
  · rw [buildI_leaves, split_join _ (by rw [← buildI_leaves]; exact build_ne hG) (fun x hx => by
      obtain ⟨q, _, rfl⟩ := List.mem_map.1 hx
      exact piece_no q)] at hp
    obtain ⟨q, hq, rfl⟩ := List.mem_map.1 hp
    obtain ⟨h3, h4, h5⟩ := hP q hq
    rw [piece_cut]
    exact ⟨by omega, by show (encL _).length ≤ _; omega, by show (encL _).length ≤ _; omega⟩
  · unfold sameB
    rw [b2, b3, b4]
    rfl
set_option maxRecDepth 100000 in
set_option maxHeartbeats 8000000 in
theorem urlBack_any {w : World} {g : GV} {x : Value} (h : VAt w w.heap.size g x) (hf : Fit g) (hbk : bulkV g ≤ 1048576) (hL : LibS w) (m : Int) (hm : w.cell? ⟨0, 0, none⟩ = some (.int .i64 m)) :
    Calls Tryz.prog 4 #[x] w fun e w' => e = .returned (.bool true) ∧ Below w.heap.size w w' := by
  obtain ⟨k, n, t, l⟩ := g
  have hLb := fun wz (hb : Below w.heap.size w wz) => hL.below hb
  have hMx := fun wz (hb : Below w.heap.size w wz) => (hb.cell (p := ⟨0, 0, none⟩) (World.block_lt_of_cell? w _ hm)).trans hm
  have HAl := Lib.hid (fun wz (hb : Below w.heap.size w wz) => alive_b wz (hLb wz hb) m (hMx wz hb))
  have HRt := Lib.hid (fun wz (hb : Below w.heap.size w wz) => rright_any (Nat.le_refl _) h hf wz hb)
  have HGd : Hid (∀ wz, Below w.heap.size w wz → Calls Tryz.prog 14 #[x, .int .i64 0] wz fun e w' => e = .returned (.bool (goodV (.mk k n t l) 0)) ∧ Below wz.heap.size wz w') := fun wz hb => good_any (Nat.le_refl _) h hf 0 (by omega) wz hb
  have HCt := Lib.hid (fun wz (hb : Below w.heap.size w wz) => rcount_any (Nat.le_refl _) h wz hb)
  have HH := Lib.hid h
  have HLb := Lib.hid hLb
  have HMx := Lib.hid hMx
  have HF := Lib.hid hf
  obtain ⟨A, c, rfl⟩ : ∃ A c, x = .agg #[.int .i64 k, .int .i64 n, .string t, .slice A l.length c] := by
    cases h
    exact ⟨_, _, rfl⟩
  have HBr := Lib.hid ((Below.refl w.heap.size w).alloc (Nat.le_refl _) (.cells #[.int .i64 k, .int .i64 n, .string t, .slice A l.length c] 25))
  have HXr := Lib.hid (Blk.new w 25 #[.int .i64 k, .int .i64 n, .string t, .slice A l.length c])
  clear h hf hL hm hLb hMx
  by_cases hk : k = 4
  · subst hk
    obtain ⟨rb, hrb⟩ : ∃ z, rightB (.mk 4 n t l) = z := ⟨_, rfl⟩
    rw [hrb] at HRt
    cases rb with
    | false =>
      clear hrb HGd HCt HH HLb HMx HF
      go_enter Tryz.func4, Tryz.ntmps4
      go_wp2_with (first | (go_at_call 12; refine (HAl.out _ HBr.out).mono ?_; rintro e w2 ⟨rfl, hb2⟩; have HBn := Lib.hid (HBr.out.trans (hb2.mono HBr.out.size)); have HXn := Lib.hid (blk_below HXr.out hb2); clear HBr HXr; have HBr := HBn; have HXr := HXn; clear HBn HXn; obtain ⟨⟨b0, b1, b2, b3⟩, -⟩ := z8 HXr.out; clear hb2) | (go_at_call 13; refine (HRt.out _ HBr.out).mono ?_; rintro e w2 ⟨rfl, hb2⟩; have HBn := Lib.hid (HBr.out.trans (hb2.mono HBr.out.size)); have HXn := Lib.hid (blk_below HXr.out hb2); clear HBr HXr; have HBr := HBn; have HXr := HXn; clear HBn HXn; obtain ⟨⟨b0, b1, b2, b3⟩, -⟩ := z8 HXr.out; clear hb2))
      go_ret
      exact ⟨rfl, HBr.out⟩
    | true =>
      obtain ⟨gb, hgb⟩ : ∃ z, goodV (.mk 4 n t l) 0 = z := ⟨_, rfl⟩
      rw [hgb] at HGd
      cases gb with
      | false =>
        clear hrb hgb HCt HH HLb HMx HF
        go_enter Tryz.func4, Tryz.ntmps4
        go_wp2_with (first | (go_at_call 12; refine (HAl.out _ HBr.out).mono ?_; rintro e w2 ⟨rfl, hb2⟩; have HBn := Lib.hid (HBr.out.trans (hb2.mono HBr.out.size)); have HXn := Lib.hid (blk_below HXr.out hb2); clear HBr HXr; have HBr := HBn; have HXr := HXn; clear HBn HXn; obtain ⟨⟨b0, b1, b2, b3⟩, -⟩ := z8 HXr.out; clear hb2) | (go_at_call 13; refine (HRt.out _ HBr.out).mono ?_; rintro e w2 ⟨rfl, hb2⟩; have HBn := Lib.hid (HBr.out.trans (hb2.mono HBr.out.size)); have HXn := Lib.hid (blk_below HXr.out hb2); clear HBr HXr; have HBr := HBn; have HXr := HXn; clear HBn HXn; obtain ⟨⟨b0, b1, b2, b3⟩, -⟩ := z8 HXr.out; clear hb2) | (go_at_call 14; refine (HGd.out _ HBr.out).mono ?_; rintro e w2 ⟨rfl, hb2⟩; have HBn := Lib.hid (HBr.out.trans (hb2.mono HBr.out.size)); have HXn := Lib.hid (blk_below HXr.out hb2); clear HBr HXr; have HBr := HBn; have HXr := HXn; clear HBn HXn; obtain ⟨⟨b0, b1, b2, b3⟩, -⟩ := z8 HXr.out; clear hb2))
        go_ret
        exact ⟨rfl, HBr.out⟩
      | true =>
        by_cases hc : 1000 < countV (.mk 4 n t l)
        · have d1 : decide ((1000 : Int) < countV (.mk 4 n t l)) = true := decide_eq_true hc
          clear hrb hgb HH HLb HMx HF hc
          generalize countV (.mk 4 n t l) = cv at *
          go_enter Tryz.func4, Tryz.ntmps4
          go_wp2_with (first | (go_at_call 12; refine (HAl.out _ HBr.out).mono ?_; rintro e w2 ⟨rfl, hb2⟩; have HBn := Lib.hid (HBr.out.trans (hb2.mono HBr.out.size)); have HXn := Lib.hid (blk_below HXr.out hb2); clear HBr HXr; have HBr := HBn; have HXr := HXn; clear HBn HXn; obtain ⟨⟨b0, b1, b2, b3⟩, -⟩ := z8 HXr.out; clear hb2) | (go_at_call 13; refine (HRt.out _ HBr.out).mono ?_; rintro e w2 ⟨rfl, hb2⟩; have HBn := Lib.hid (HBr.out.trans (hb2.mono HBr.out.size)); have HXn := Lib.hid (blk_below HXr.out hb2); clear HBr HXr; have HBr := HBn; have HXr := HXn; clear HBn HXn; obtain ⟨⟨b0, b1, b2, b3⟩, -⟩ := z8 HXr.out; clear hb2) | (go_at_call 14; refine (HGd.out _ HBr.out).mono ?_; rintro e w2 ⟨rfl, hb2⟩; have HBn := Lib.hid (HBr.out.trans (hb2.mono HBr.out.size)); have HXn := Lib.hid (blk_below HXr.out hb2); clear HBr HXr; have HBr := HBn; have HXr := HXn; clear HBn HXn; obtain ⟨⟨b0, b1, b2, b3⟩, -⟩ := z8 HXr.out; clear hb2) | (go_at_call 15; refine (HCt.out _ HBr.out).mono ?_; rintro e w2 ⟨rfl, hb2⟩; have HBn := Lib.hid (HBr.out.trans (hb2.mono HBr.out.size)); have HXn := Lib.hid (blk_below HXr.out hb2); clear HBr HXr; have HBr := HBn; have HXr := HXn; clear HBn HXn; obtain ⟨⟨b0, b1, b2, b3⟩, -⟩ := z8 HXr.out; clear hb2))
          go_ret
          exact ⟨rfl, HBr.out⟩
        · obtain ⟨f1, f2, f3, f4, f5, f6⟩ := back_facts HF.out hbk hrb hgb hc
          have d1 : decide ((1000 : Int) < countV (.mk 4 n t l)) = false := decide_eq_false hc
          have HBu : Hid (∀ wz, Below w.heap.size w wz → Calls Tryz.prog 16 #[.agg #[.int .i64 4, .int .i64 n, .string t, .slice A l.length c]] wz fun e w2 => e = .returned (.tuple #[.string (mkB (joinQ (buildI l))), .int .i64 0]) ∧ Below wz.heap.size wz w2) := fun wz hb => build_any (Nat.le_refl _) HLb.out HH.out f1 HF.out hbk (by omega) wz hb
          have HQ := Lib.hid (fun wz (hb : Below w.heap.size w wz) => query_b _ f3 f4 wz (HLb.out wz hb) m (HMx.out wz hb) f5)
          have HSm : Hid (∀ wq A2 c2, Below w.heap.size w wq → VAt wq wq.heap.size (.mk 4 ((l.map GI.keyG).foldl nextK 0) ⟨#[]⟩ (imgI l)) (.agg #[.int .i64 4, .int .i64 ((l.map GI.keyG).foldl nextK 0), .string ⟨#[]⟩, .slice A2 (imgI l).length c2]) → ∀ wz, Below wq.heap.size wq wz → Calls Tryz.prog 17 #[.agg #[.int .i64 4, .int .i64 ((l.map GI.keyG).foldl nextK 0), .string ⟨#[]⟩, .slice A2 (imgI l).length c2], .agg #[.int .i64 4, .int .i64 n, .string t, .slice A l.length c]] wz fun e w2 => e = .returned (.bool true) ∧ Below wz.heap.size wz w2) := fun wq A2 c2 hb hv wz hz => by
            have h := rsame_all (Nat.le_refl _) hv (at_up HH.out hb.size (Nat.le_refl _) hb) wz hz
            rwa [f6] at h
          clear hrb hgb HH HLb HMx HF hc f1 f2 f3 f4 f5 f6
          generalize countV (.mk 4 n t l) = cv at *
          generalize mkB (joinQ (buildI l)) = S at *
          generalize (l.map GI.keyG).foldl nextK 0 = nx at *
          generalize imgI l = li at *
          go_enter Tryz.func4, Tryz.ntmps4
          go_upto_region 6 with (first | (go_at_call 12; refine (HAl.out _ HBr.out).mono ?_; rintro e w2 ⟨rfl, hb2⟩; have HBn := Lib.hid (HBr.out.trans (hb2.mono HBr.out.size)); have HXn := Lib.hid (blk_below HXr.out hb2); clear HBr HXr; have HBr := HBn; have HXr := HXn; clear HBn HXn; obtain ⟨⟨b0, b1, b2, b3⟩, -⟩ := z8 HXr.out; clear hb2) | (go_at_call 13; refine (HRt.out _ HBr.out).mono ?_; rintro e w2 ⟨rfl, hb2⟩; have HBn := Lib.hid (HBr.out.trans (hb2.mono HBr.out.size)); have HXn := Lib.hid (blk_below HXr.out hb2); clear HBr HXr; have HBr := HBn; have HXr := HXn; clear HBn HXn; obtain ⟨⟨b0, b1, b2, b3⟩, -⟩ := z8 HXr.out; clear hb2) | (go_at_call 14; refine (HGd.out _ HBr.out).mono ?_; rintro e w2 ⟨rfl, hb2⟩; have HBn := Lib.hid (HBr.out.trans (hb2.mono HBr.out.size)); have HXn := Lib.hid (blk_below HXr.out hb2); clear HBr HXr; have HBr := HBn; have HXr := HXn; clear HBn HXn; obtain ⟨⟨b0, b1, b2, b3⟩, -⟩ := z8 HXr.out; clear hb2) | (go_at_call 15; refine (HCt.out _ HBr.out).mono ?_; rintro e w2 ⟨rfl, hb2⟩; have HBn := Lib.hid (HBr.out.trans (hb2.mono HBr.out.size)); have HXn := Lib.hid (blk_below HXr.out hb2); clear HBr HXr; have HBr := HBn; have HXr := HXn; clear HBn HXn; obtain ⟨⟨b0, b1, b2, b3⟩, -⟩ := z8 HXr.out; clear hb2) | (go_at_call 16; refine (HBu.out _ HBr.out).mono ?_; rintro e w2 ⟨rfl, hb2⟩; have HBn := Lib.hid (HBr.out.trans (hb2.mono HBr.out.size)); have HXn := Lib.hid (blk_below HXr.out hb2); clear HBr HXr; have HBr := HBn; have HXr := HXn; clear HBn HXn; obtain ⟨⟨b0, b1, b2, b3⟩, -⟩ := z8 HXr.out; clear hb2))
          have HBd := Lib.hid (drewU HBr.out 1)
          have HXd := Lib.hid (blk_below HXr.out (drewU (Below.refl _ _) 1))
          obtain ⟨⟨c0, c1, c2, c3⟩, -⟩ := z8 HXr.out
          go_region_held3 (fun w' => w'.cell? ⟨w.heap.size, 0, none⟩ = some (.int .i64 4) ∧ w'.cell? ⟨w.heap.size, 1, none⟩ = some (.int .i64 n) ∧ w'.cell? ⟨w.heap.size, 2, none⟩ = some (.string t) ∧ w'.cell? ⟨w.heap.size, 3, none⟩ = some (.slice A l.length c))
            (first | exact ⟨c0, c1, c2, c3⟩ | exact ⟨p0, p1, p2, p3⟩ | exact ⟨q0, q1, q2, q3⟩)
            (first
              | (go_at_call 10; refine (HQ.out _ HBd.out).mono ?_; rintro e w6 ⟨A2, c2', rfl, hv6, hb6⟩; have HV6 := Lib.hid hv6; have HB6 := Lib.hid (HBd.out.trans (hb6.mono HBd.out.size)); have HX6 := Lib.hid (blk_below HXd.out hb6); obtain ⟨⟨p0, p1, p2, p3⟩, -⟩ := z8 HX6.out; clear hv6 hb6)
              | (go_at_call 17; refine (HSm.out _ A2 c2' HB6.out HV6.out _ (Below.refl _ _)).mono ?_; rintro e w7 ⟨rfl, hb7⟩; have HB7 := Lib.hid (HB6.out.trans (hb7.mono HB6.out.size)); have HX7 := Lib.hid (blk_below HX6.out hb7); obtain ⟨⟨q0, q1, q2, q3⟩, -⟩ := z8 HX7.out; clear hb7))
          go_wp2_with fail
          go_ret
          exact ⟨rfl, HB7.out⟩
  · have e4 : (k == 4) = false := by rw [beq_eq_false_iff_ne]; exact hk
    clear HRt HGd HCt HH HLb HMx HF
    go_enter Tryz.func4, Tryz.ntmps4
    go_wp2_with (go_at_call 12; refine (HAl.out _ HBr.out).mono ?_; rintro e w2 ⟨rfl, hb2⟩; have HBn := Lib.hid (HBr.out.trans (hb2.mono HBr.out.size)); have HXn := Lib.hid (blk_below HXr.out hb2); clear HBr HXr; have HBr := HBn; have HXr := HXn; clear HBn HXn; obtain ⟨⟨b0, b1, b2, b3⟩, -⟩ := z8 HXr.out; clear hb2)
    go_ret
    exact ⟨rfl, HBr.out⟩
end Ub
end Go.Proofs.YtgpemnmopogppaaGreatDoor
