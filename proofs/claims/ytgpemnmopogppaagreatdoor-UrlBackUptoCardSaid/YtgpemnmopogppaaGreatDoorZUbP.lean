/- url.Build of a list of texts: the walk. -/
import Derived.Test.YtgpemnmopogppaaGreatDoorZUbB
import Derived.Test.YtgpemnmopogppaaGreatDoorZUpC
import Derived.Test.YtgpemnmopogppaaGreatDoorZUrC
import Derived.Test.YtgpemnmopogppaaGreatDoorZAppsQ
import Derived.Deep.RegionHeld3
import Derived.BigQuiet
namespace Go.Proofs.YtgpemnmopogppaaGreatDoor
open Go Go.RowKit
namespace Ub
open Go.Proofs.YtgpemnmopogppaaGreatDoor.Dp
open Go.Proofs.YtgpemnmopogppaaGreatDoor.Ut
open Go.Proofs.YtgpemnmopogppaaGreatDoor.Url (encL)
def strR (l : List (List UInt8)) : List Value := l.map fun p => .string (mkB p)
theorem strR_one (l : List (List UInt8)) : ∀ u ∈ strR l, u.oneCell' = true := by
  intro u hu
  obtain ⟨p, _, rfl⟩ := List.mem_map.1 hu
  rfl
/-- A row of texts of the call's own. -/
def OwnS (w : World) (base : Nat) (A : Option Addr) (c : Nat) (R : List (List UInt8)) : Prop := w.ownsRow base 9 1 (.slice A R.length c) R.length (strR R)
theorem OwnS.below {w w' : World} {base : Nat} {A : Option Addr} {c : Nat} {R : List (List UInt8)} (h : OwnS w base A c R) (hb : Below w.heap.size w w') : OwnS w' base A c R := own_below h hb
theorem key_cat (n k : List UInt8) : ((mkB n ++ ⟨#[91]⟩) ++ mkB k) ++ ⟨#[93]⟩ = mkB (n ++ 91 :: (k ++ [93])) := by
  apply ByteArray.ext
  rw [← Array.toList_inj]
  simp [mkB]
theorem pair_cat (n k : List UInt8) : (mkB n ++ ⟨#[61]⟩) ++ mkB k = mkB (n ++ 61 :: k) := by
  apply ByteArray.ext
  rw [← Array.toList_inj]
  simp [mkB]
theorem own_shape {w : World} {base : Nat} {e : TypeId} {sz n : Nat} {sv : Value} {xs : List Value} (h : w.ownsRow base e sz sv n xs) : ∃ A c, sv = .slice A n c := by
  rcases h.2 with ⟨rfl, rfl⟩ | ⟨g, cap, cur, rfl, _⟩
  · exact ⟨_, _, rfl⟩
  · exact ⟨_, _, rfl⟩
theorem below_grown {base : Nat} {w w2 w3 : World} {row : Option Nat} (hb : Below base w w2) (hbs : base ≤ w2.heap.size) (hg : w2.grownBy w3 row) (hn : ∀ g, row = some g → base ≤ g) : Below base w w3 :=
  hb.grown hg hbs hn
structure EncB (N E : ByteArray) : Prop where
  out : ∀ wz : World, Calls Tryz.prog 18 #[.string N] wz fun e w' => e = .returned (.string E) ∧ Below wz.heap.size wz w'
theorem encB (l : List UInt8) (hl : l.length ≤ 16777216) : EncB (mkB l) (mkB (encL l)) := ⟨fun wz => by
  have h := Url.enc_any (mkB l) (by rw [mkB_size]; omega) wz
  rw [mkB_list] at h
  exact h⟩
set_option maxRecDepth 100000 in
theorem key_any (b : Bool) (i : Int) (s : ByteArray) (hi : In64 i) (w : World) (hL : LibS w) : Calls Tryz.prog 37 #[.agg #[.bool b, .int .i64 i, .string s]] w fun e w' => e = .returned (.string (mkB (keyL (b, i, s)))) ∧ Below w.heap.size w w' := by
  have HB0 := Lib.hid ((Below.refl w.heap.size w).alloc (Nat.le_refl _) (.cells #[.bool b, .int .i64 i, .string s] 37))
  cases b with
  | true =>
    have e : mkB (keyL (true, i, s)) = s := mkB_of s
    rw [e]
    go_enter Tryz.func37, Tryz.ntmps37
    go_wp2_with fail
    go_ret
    exact ⟨rfl, HB0.out⟩
  | false =>
    have HI : Hid (∀ wz : World, Below w.heap.size w wz → Calls Tryz.prog 76 #[.int .i64 i] wz fun e w' => e = .returned (.string (mkB (keyL (false, i, s)))) ∧ Below wz.heap.size wz w') := fun wz hz => by
      have h := Lib.hid (Nm.itoa_any i hi.1 hi.2 wz (hL.below hz))
      have e : (⟨(Lib.itoa i).toArray⟩ : ByteArray) = mkB (keyL (false, i, s)) := rfl
      rw [e] at h
      generalize mkB (keyL (false, i, s)) = K at *
      go_enter Tryz.func76, Tryz.ntmps76
      go_wp2_with (go_at_call 98; refine h.out.mono ?_; rintro e w1 ⟨rfl, hb⟩)
      go_ret
      exact ⟨rfl, hb⟩
    generalize mkB (keyL (false, i, s)) = K at *
    go_enter Tryz.func37, Tryz.ntmps37
    go_wp2_with (go_at_call 76; refine (HI.out _ HB0.out).mono ?_; rintro e w1 ⟨rfl, hb⟩)
    go_ret
    exact ⟨rfl, HB0.out.trans (hb.mono HB0.out.size)⟩
set_option maxRecDepth 100000 in
theorem text_any (n : Int) (t : ByteArray) (A : Option Addr) (l c : Nat) (w : World) : Calls Tryz.prog 75 #[.agg #[.int .i64 3, .int .i64 n, .string t, .slice A l c]] w fun e w' => e = .returned (.tuple #[.string t, .int .i64 0]) ∧ Below w.heap.size w w' := by
  have HB0 := Lib.hid ((Below.refl w.heap.size w).alloc (Nat.le_refl _) (.cells #[.int .i64 3, .int .i64 n, .string t, .slice A l c] 25))
  go_enter Tryz.func75, Tryz.ntmps75
  go_wp2_with fail
  go_ret2
  exact ⟨rfl, HB0.out⟩
/-- What pairs answers. -/
def PairsP (w : World) (R : List (List UInt8)) (e : Ending) (w' : World) : Prop := ∃ A c, e = .returned (.slice A R.length c) ∧ OwnS w' w.heap.size A c R ∧ Below w.heap.size w w'
section
variable {w : World} {B : Nat}
set_option maxRecDepth 100000 in
set_option maxHeartbeats 8000000 in
theorem leaf_any (n : Int) (t : ByteArray) (A : Option Addr) (c : Nat) (name : List UInt8) (hn : name.length ≤ 2000000) (ht : t.size ≤ 2000000) (w' : World) :
    Calls Tryz.prog 36 #[.string (mkB name), .agg #[.int .i64 3, .int .i64 n, .string t, .slice A 0 c]] w' fun e w'' => PairsP w' [onePair name t] e w'' := by
  have HB0 := Lib.hid ((Below.refl w'.heap.size w').alloc (Nat.le_refl _) (.cells #[.int .i64 3, .int .i64 n, .string t, .slice A 0 c] 25))
  have hE1 := encB name (by omega)
  have hE2 := encB t.data.toList (by simp; omega)
  rw [mkB_of] at hE2
  have hz1 := mkB_size (encL name)
  have hz2 := mkB_size (encL t.data.toList)
  have h4 := Url.encL_len name
  have h5 := Url.encL_len t.data.toList
  have h6 : t.data.toList.length = t.size := by simp
  have HC := Lib.hid (pair_cat (encL name) (encL t.data.toList))
  have HT := Lib.hid (fun wz => text_any n t A 0 c wz)
  unfold onePair
  rw [h6] at h5
  generalize mkB (encL name) = E1 at *
  generalize mkB (encL t.data.toList) = E2 at *
  generalize encL name ++ 61 :: encL t.data.toList = P at *
  have g1 : ¬ 9223372036854775807 < E1.size + 1 := by omega
  have g2 : ¬ 9223372036854775807 < E1.size + 1 + E2.size := by omega
  generalize mkB name = NB at *
  clear h4 h5 h6 hz1 hz2
  have HBr := HB0
  go_enter Tryz.func36, Tryz.ntmps36
  go_wp2_with (first
    | (go_at_call 75; refine (HT.out _).mono ?_; rintro e w1 ⟨rfl, hb1⟩; have HBn := Lib.hid (HBr.out.trans (hb1.mono HBr.out.size)); clear HBr hb1; have HBr := HBn; clear HBn)
    | (go_at_call 18; refine (EncB.out (by assumption) _).mono ?_; rintro e w2 ⟨rfl, hb2⟩; have HBn := Lib.hid (HBr.out.trans (hb2.mono HBr.out.size)); clear HBr hb2; have HBr := HBn; clear HBn))
  have hs := HBr.out.size
  go_ret
  refine ⟨some ⟨w2.heap.size, 0, none⟩, 1, rfl, ?_, HBr.out.alloc hs _⟩
  have h := World.ownsRow_lit (base := w'.heap.size) (e := 9) (size := 1) w2 #[.string (E1 ++ ⟨#[61]⟩ ++ E2)] 1 hs (by decide) rfl
  have e : strR [P] = [.string (E1 ++ ⟨#[61]⟩ ++ E2)] := by
    show [Value.string (mkB P)] = _
    rw [HC.out]
  unfold OwnS
  rw [e]
  exact h
set_option maxRecDepth 100000 in
set_option maxHeartbeats 8000000 in
theorem pairs_any (hBw : B ≤ w.heap.size) (hLib : ∀ w', Below B w w' → LibS w') {g : GV} {x : Value} (h : VAt w B g x) : ∀ (d : Nat), GoodV d g → Fit g → ∀ (name : List UInt8), name.length + bulkV g + 23 * (64 - d) ≤ 1100000 → cntV g ≤ 2048 → ∀ (w' : World), Below B w w' →
    Calls Tryz.prog 36 #[.string (mkB name), x] w' fun e w'' => PairsP w' (pairsV name g) e w'' := by
  induction h with
  | mk k n t l A c b off C hc hn hA hi hv ih =>
    intro d hg hfit name hbk hcnt w' hb
    rw [bulkV] at hbk
    cases hg with
    | leaf => 
      rw [pairsV, if_neg (by decide)]
      exact leaf_any n t A c name (by omega) (by omega) w'
    | node _ _ _ _ hd h0 hlen hnd hk hgv =>
    have hB' : B ≤ w'.heap.size := Nat.le_trans hBw hb.size
    rw [pairsV, if_pos rfl]
    rw [cntV] at hcnt
    have hF := fit_at hfit
    have hPR : Hid (∀ (j : Nat) (it : GI), l[j]? = some it → In64 it.int ∧ (keyL (GI.keyG it)).length ≤ 1100000 ∧ ∀ wz, Below B w wz → Calls Tryz.prog 36 #[.string (((mkB name ++ ⟨#[91]⟩) ++ mkB (keyL (GI.keyG it))) ++ ⟨#[93]⟩), C j] wz fun e w'' => PairsP wz (pairsV (name ++ 91 :: (keyL (GI.keyG it) ++ [93])) it.val) e w'') := by
      intro j it hit
      have hm := List.mem_of_getElem? hit
      have h1 := bulk_at l it hm
      have h2 := cnt_at l it hm
      have h3 : (keyL (GI.keyG it)).length ≤ it.text.size + 21 := by rw [keyG_eq]; exact keyL_len (hF it hm).1
      refine ⟨(hF it hm).1, by omega, fun wz hz => ?_⟩
      rw [key_cat]
      refine ih j it hit (d + 1) (hgv it hm) (hF it hm).2 _ ?_ (by omega) wz hz
      simp only [List.length_append, List.length_cons, List.length_nil]
      omega
    have hTk : Hid (∀ (j : Nat) (it : GI), l[j]? = some it → pairsI name (l.take (j + 1)) = pairsI name (l.take j) ++ pairsV (name ++ 91 :: (keyL (GI.keyG it) ++ [93])) it.val ∧ (pairsI name (l.take (j + 1))).length ≤ 2048) := by
      intro j it hit
      have h1 := pairsI_len name (l.take (j + 1))
      have h2 := cntI_take l (j + 1)
      exact ⟨pairsI_take name l j it hit, by omega⟩
    have hN : name.length ≤ 1100000 := by omega
    have hz1 := mkB_size name
    have HA := Lib.hid hA
    have HI := Lib.hid hi
    have HW := Lib.hid hv
    have Hb := Lib.hid hb
    have HLb := Lib.hid hLib
    have HB0 := Lib.hid ((Below.refl w'.heap.size w').alloc (Nat.le_refl _) (.cells #[.int .i64 4, .int .i64 n, .string t, .slice A l.length c] 25))
    have HR0 : Hid (([] : List (List UInt8)) = pairsI name (l.take 0)) := rfl
    have HO0 : Hid (OwnS (w'.alloc (.cells #[.int .i64 4, .int .i64 n, .string t, .slice A l.length c] 25)) w'.heap.size none 0 []) := World.ownsRow_nil _ _ _ _
    have HFin : Hid (pairsI name (l.take l.length) = pairsI name l) := by show _ = _; rw [List.take_length]
    obtain ⟨i0, hi0, hq0, hq1, hq2⟩ := info_parts Up.str_info
    have HU := Lib.hid (And.intro hi0 (And.intro hq0 (And.intro hq1 hq2)))
    obtain ⟨P, hP⟩ : ∃ z, pairsI name l = z := ⟨_, rfl⟩
    rw [hP] at HFin ⊢
    clear hA hi hv ih hb hLib hi0 hq0 hq1 hq2 hk hgv hnd hF hP h0 hfit hbk hcnt
    generalize mkB name = NB at *
    go_enter Tryz.func36, Tryz.ntmps36
    go_wp2_with fail
    go_loopw [6, 16] (fun x6 x16 wx => ∃ (j : Nat) (R : List (List UInt8)) (A1 : Option Addr) (c1 : Nat), j ≤ l.length ∧ x16 = .int .i64 j ∧ x6 = .slice A1 R.length c1 ∧ Hid (R = pairsI name (l.take j)) ∧ Hid (OwnS wx w'.heap.size A1 c1 R) ∧ Hid (Below w'.heap.size w' wx)) (fun _ xi _ => l.length - (ixOf xi).toNat)
    case atStart => exact ⟨0, [], none, 0, Nat.zero_le _, rfl, rfl, HR0, HO0, HB0⟩
    case round =>
      obtain ⟨j, R, A3, c3, hj, rfl, rfl, HR, HO, HB⟩ := hrel
      clear HB0 HR0 HO0
      by_cases hlt : j < l.length
      · obtain ⟨it, hit⟩ : ∃ it, l[j]? = some it := ⟨_, List.getElem?_eq_getElem hlt⟩
        obtain ⟨rfl, hbB⟩ := HA.out (by omega)
        have hbw : Below B w wr := Hb.out.trans (HB.out.mono hB')
        have hwr := HB.out.size
        obtain ⟨a0, a1, a2, v0, v1, v2, v3, e, a3, a4, a5, a6⟩ := (HI.out j it hit).below hbw hbB
        obtain ⟨hki, hkl, hpr⟩ := hPR.out j it hit
        obtain ⟨hT1, hT2⟩ := hTk.out j it hit
        rw [e] at hpr
        have hform := HW.out j it hit
        rw [e] at hform
        obtain ⟨k1, n1, t1, A1, l1, e1, rfl, rfl, rfl, rfl⟩ := hform.form
        have HKy := Lib.hid (fun wz (hz : Below B w wz) => key_any it.isText it.int it.text hki wz (HLb.out wz hz))
        rw [← keyG_eq] at HKy
        have hks := mkB_size (keyL (GI.keyG it))
        generalize mkB (keyL (GI.keyG it)) = KB at *
        generalize pairsV (name ++ 91 :: (keyL (GI.keyG it) ++ [93])) it.val = R2 at *
        have HPr := Lib.hid hpr
        have HT1 := Lib.hid hT1
        rw [hT1, List.length_append] at hT2
        rw [← HR.out] at HT1 hT2
        have g1 : ¬ 9223372036854775807 < NB.size + 1 := by omega
        have g2 : ¬ 9223372036854775807 < NB.size + 1 + KB.size := by omega
        have g3 : ¬ 9223372036854775807 < NB.size + 1 + KB.size + 1 := by omega
        clear hform hpr hT1 HI HW HA hPR hTk hks hkl e hz1 hN
        have hal := fun (w1 : World) (o : Obj) => (Below.refl w1.heap.size w1).alloc (Nat.le_refl _) o
        generalize it.isText = ib at *
        generalize it.int = ii at *
        generalize it.text = is at *
        have Hbw := Lib.hid (hbw.alloc (by omega) (.cells #[.bool ib, .int .i64 ii, .string is, .int .i64 k1, .int .i64 n1, .string t1, .slice A1 l1 e1] 39))
        have HBi := Lib.hid (hal wr (.cells #[.bool ib, .int .i64 ii, .string is, .int .i64 k1, .int .i64 n1, .string t1, .slice A1 l1 e1] 39))
        have HIi := Lib.hid (Blk.new wr 39 #[.bool ib, .int .i64 ii, .string is, .int .i64 k1, .int .i64 n1, .string t1, .slice A1 l1 e1])
        have d0 := HIi.out.cell 0
        have d1 := HIi.out.cell 1
        have d2 := HIi.out.cell 2
        have d3 := HIi.out.cell 3
        have d4 := HIi.out.cell 4
        have d5 := HIi.out.cell 5
        have d6 := HIi.out.cell 6
        clear hbw hal
        go_upto_region 9 with fail
        generalize wr.alloc (.cells #[.bool ib, .int .i64 ii, .string is, .int .i64 k1, .int .i64 n1, .string t1, .slice A1 l1 e1] 39) = wi at *
        have hwi := HBi.out.size
        go_region_held3 (fun w' => w'.cell? ⟨wr.heap.size, 0, none⟩ = some (.bool ib) ∧ w'.cell? ⟨wr.heap.size, 1, none⟩ = some (.int .i64 ii) ∧ w'.cell? ⟨wr.heap.size, 2, none⟩ = some (.string is) ∧ w'.cell? ⟨wr.heap.size, 3, none⟩ = some (.int .i64 k1) ∧ w'.cell? ⟨wr.heap.size, 4, none⟩ = some (.int .i64 n1) ∧ w'.cell? ⟨wr.heap.size, 5, none⟩ = some (.string t1) ∧ w'.cell? ⟨wr.heap.size, 6, none⟩ = some (.slice A1 l1 e1))
          (first | exact ⟨d0, d1, d2, d3, d4, d5, d6⟩ | exact ⟨y0, y1, y2, y3, y4, y5, y6⟩ | exact ⟨z0, z1, z2, z3, z4, z5, z6⟩ | exact (seven HI4.out))
          (first
            | (go_at_call 37; refine (HKy.out _ (Hbw.out.trans (drewU (Below.refl _ _) 1))).mono ?_; rintro e w2 ⟨rfl, hb2⟩; have HB2 := Lib.hid ((drewU (Below.refl wi.heap.size wi) 1).trans hb2); have HI2 := Lib.hid (blk_below HIi.out HB2.out); have y0 := HI2.out.cell 0; have y1 := HI2.out.cell 1; have y2 := HI2.out.cell 2; have y3 := HI2.out.cell 3; have y4 := HI2.out.cell 4; have y5 := HI2.out.cell 5; have y6 := HI2.out.cell 6; clear hb2)
            | (go_at_call 36; refine (HPr.out _ (Hbw.out.trans (HB2.out.mono (Nat.le_trans hBw Hbw.out.size)))).mono ?_; rintro e w3 ⟨A5, c5, rfl, ho3, hb3⟩; have HO3 := Lib.hid ho3; have HB3 := Lib.hid (HB2.out.trans (hb3.mono HB2.out.size)); have HI3 := Lib.hid (blk_below HIi.out HB3.out); have z0 := HI3.out.cell 0; have z1 := HI3.out.cell 1; have z2 := HI3.out.cell 2; have z3 := HI3.out.cell 3; have z4 := HI3.out.cell 4; have z5 := HI3.out.cell 5; have z6 := HI3.out.cell 6; clear ho3 hb3)
            | (refine step_append_any _ rfl (.tmp 20) (.tmp 30) _ rfl w'.heap.size 9 i0 _ 1 16 Tryz.underlying57 HU.out.1 HU.out.2.1 HU.out.2.2.1 HU.out.2.2.2 rfl (by decide) (.slice A3 R.length c3) R.length (strR R) rfl (HO.out.below (HBi.out.trans (HB3.out.mono hwi))) w3.heap.size A5 R2.length c5 (strR R2) rfl (Reads.of_own HO3.out) (strR_one R2) ?_ ?_ ?_ ?_
               · unfold maxLen; omega
               · omega
               · have := HB3.out.size; omega
               intro v4 w4 hown4 hg4 hor4
               have HO4 := Lib.hid hown4; have HG4 := Lib.hid hg4; have HI4 := Lib.hid (HI3.out.grown hg4 (own_lt HO.out (Nat.le_refl _))); clear hown4 hg4 hor4))
        have hw3 := HB3.out.size
        obtain ⟨A6, c6, hv6⟩ := own_shape HO4.out
        subst hv6
        have HB4 := Lib.hid (below_grown (HB.out.trans ((HBi.out.trans (HB3.out.mono hwi)).mono hwr)) (Nat.le_trans hwr (Nat.le_trans hwi hw3)) HG4.out (fun gb e => (HO.out.lt gb e).1))
        have HR4 : Hid (R ++ R2 = pairsI name (l.take (j + 1))) := Lib.hid HT1.out.symm
        have HO5 : Hid (OwnS w4 w'.heap.size A6 c6 (R ++ R2)) := by
          show OwnS _ _ _ _ _
          unfold OwnS strR
          rw [List.length_append, List.map_append]
          exact HO4.out
        have hlen : (R ++ R2).length = R.length + R2.length := List.length_append
        rw [← hlen]
        clear HO4 HG4 HI4 HB3 HO3 HI3 HB2 HI2 HBi HIi HR HO HB HT1 HPr HKy Hbw hlen
        go_wp2_with fail
        go_roundw
        case rel => exact ⟨j + 1, R ++ R2, A6, c6, by omega, by go_num, rfl, HR4, HO5, HB4⟩
        case measure => simp [ixOf] <;> omega
      · obtain rfl : j = l.length := by omega
        have hRP := HR.out.trans HFin.out
        subst hRP
        clear HI HW HA hPR hTk
        go_wp2_with fail
        go_ret
        exact ⟨A3, c3, rfl, HO.out, HB.out⟩
/-! ### Build -/
theorem join_q : ∀ R : List (List UInt8), Lib.join R [38] = joinQ R
  | [] => rfl
  | [x] => by rw [Lib.join_one, joinQ]
  | x :: y :: r => by
    have ih := join_q (y :: r)
    rw [Lib.join_cons] at ih ⊢
    rw [joinQ, ← ih]
    simp [Lib.joinTail]
theorem join_call {w : World} {base : Nat} {A : Option Addr} {c : Nat} {R : List (List UInt8)} (h : OwnS w base A c R) (h0 : R ≠ []) (hn : R.length ≤ 4096) (hl : (joinQ R).length ≤ 140737488355328) :
    Calls Tryz.prog 38 #[.slice A R.length c, .string ⟨#[38]⟩] w fun e w' => e = .returned (.string (mkB (joinQ R))) ∧ Below w.heap.size w w' := by
  have hpos : 0 < R.length := List.length_pos_iff.2 h0
  rcases h.2 with ⟨e, _⟩ | ⟨g, cap, cur, e, _, hg, hcap, _, _, htake⟩
  · injection e with _ e2 _
    omega
  · injection e with e1 _ e3
    subst e1 e3
    have hlt : g < w.heap.size := (Array.getElem?_eq_some_iff.1 hg).1
    have e5 : (R.map mkB).map (·.data.toList) = R := by
      rw [List.map_map]
      conv => rhs; rw [← List.map_id R]
      apply List.map_congr_left
      intro a _
      exact mkB_list a
    have hcell : ∀ (j : Nat) x, (R.map mkB)[j]? = some x → w.cell? ⟨g, 0 + j, none⟩ = some (.string x) := by
      intro j x hx
      rw [List.getElem?_map] at hx
      obtain ⟨p, hp, rfl⟩ := Option.map_eq_some_iff.1 hx
      have hx2 : (strR R)[j]? = some (.string (mkB p)) := by
        unfold strR
        rw [List.getElem?_map, hp]
        rfl
      have hc := World.ownsRow.cells h (g := g) rfl j _ hx2
      have ea : (⟨g, 0, none⟩ : Addr).add j = ⟨g, 0 + j, none⟩ := by
        unfold Addr.add
        by_cases hj : j = 0
        · subst hj; rfl
        · simp [hj]
      rw [← ea]
      exact hc
    have key := Tryz.strings_Join g 0 c (R.map mkB) ⟨#[38]⟩ w hcell hlt (by simp; omega) (by simp; omega) (by rw [e5]; show (Lib.join R [38]).length ≤ _; rw [join_q]; exact hl)
    rw [e5, List.length_map] at key
    have e6 : Lib.join R (⟨#[38]⟩ : ByteArray).data.toList = joinQ R := join_q R
    rw [e6] at key
    exact key
theorem pieces_len {n : Int} {t : ByteArray} {l : List GI} (hg : GoodV 0 (.mk 4 n t l)) (hf : Fit (.mk 4 n t l)) (hb : bulkV (.mk 4 n t l) ≤ 1048576) : ∀ p ∈ leavesI l, (encL (nameL p.1)).length ≤ 3150144 ∧ (encL p.2.data.toList).length ≤ 3150144 ∧ (pieceL p).length ≤ 3150145 := by
  intro p hp
  have hp2 : p ∈ leavesV (.mk 4 n t l) := by rw [leavesV, if_pos rfl]; exact hp
  rcases leaves_ok hg p hp2 with ⟨_, h2, _⟩ | h
  · exact piece_len hf hb hp2 (by omega)
  · omega
theorem build_len {n : Int} {t : ByteArray} {l : List GI} (hg : GoodV 0 (.mk 4 n t l)) (hf : Fit (.mk 4 n t l)) (hb : bulkV (.mk 4 n t l) ≤ 1048576) : (joinQ (buildI l)).length ≤ (buildI l).length * 3150146 := by
  rw [buildI_leaves]
  refine joinQ_len 3150145 _ fun x hx => ?_
  obtain ⟨p, hp, rfl⟩ := List.mem_map.1 hx
  exact (pieces_len hg hf hb p hp).2.2
theorem build_ne {n : Int} {t : ByteArray} {l : List GI} (hg : GoodV 0 (.mk 4 n t l)) : buildI l ≠ [] := by
  have h := leaves_some hg
  rw [leavesV, if_pos rfl] at h
  rw [buildI_leaves]
  intro e
  exact h (List.map_eq_nil_iff.1 e)
set_option maxRecDepth 100000 in
set_option maxHeartbeats 8000000 in
theorem build_any (hBw : B ≤ w.heap.size) (hLib : ∀ w', Below B w w' → LibS w') {n : Int} {t : ByteArray} {l : List GI} {x : Value} (h : VAt w B (.mk 4 n t l) x) (hg : GoodV 0 (.mk 4 n t l)) (hfit : Fit (.mk 4 n t l)) (hbk : bulkV (.mk 4 n t l) ≤ 1048576) (hcnt : l.length + cntI l ≤ 2048) (w' : World) (hb : Below B w w') :
    Calls Tryz.prog 16 #[x] w' fun e w'' => e = .returned (.tuple #[.string (mkB (joinQ (buildI l))), .int .i64 0]) ∧ Below w'.heap.size w' w'' := by
  have hJl := build_len hg hfit hbk
  have hJn := build_ne hg
  have hJc := buildI_len l
  have hJC : Hid (∀ (wz : World) (base : Nat) (A : Option Addr) (c : Nat), OwnS wz base A c (buildI l) → Calls Tryz.prog 38 #[.slice A (buildI l).length c, .string ⟨#[38]⟩] wz fun e w' => e = .returned (.string (mkB (joinQ (buildI l)))) ∧ Below wz.heap.size wz w') := fun wz base A c ho => join_call ho hJn (by omega) (by omega)
  cases h with
  | mk _ _ _ _ A c b off C hc hn hA hi hv =>
    rw [bulkV] at hbk
    cases hg with
    | node _ _ _ _ hd h0 hlen hnd hk hgv =>
    have hB' : B ≤ w'.heap.size := Nat.le_trans hBw hb.size
    have hF := fit_at hfit
    have hPR : Hid (∀ (j : Nat) (it : GI), l[j]? = some it → In64 it.int ∧ (keyL (GI.keyG it)).length ≤ 1100000 ∧ ∀ wz, Below B w wz → Calls Tryz.prog 36 #[.string (mkB (keyL (GI.keyG it))), C j] wz fun e w'' => PairsP wz (pairsV (keyL (GI.keyG it)) it.val) e w'') := by
      intro j it hit
      have hm := List.mem_of_getElem? hit
      have h1 := bulk_at l it hm
      have h2 := cnt_at l it hm
      have h3 : (keyL (GI.keyG it)).length ≤ it.text.size + 21 := by rw [keyG_eq]; exact keyL_len (hF it hm).1
      exact ⟨(hF it hm).1, by omega, fun wz hz => pairs_any hBw hLib (hv j it hit) 1 (hgv it hm) (hF it hm).2 _ (by omega) (by omega) wz hz⟩
    have hTk : Hid (∀ (j : Nat) (it : GI), l[j]? = some it → buildI (l.take (j + 1)) = buildI (l.take j) ++ pairsV (keyL (GI.keyG it)) it.val ∧ (buildI (l.take (j + 1))).length ≤ 2048) := by
      intro j it hit
      have h1 := buildI_len (l.take (j + 1))
      have h2 := cntI_take l (j + 1)
      exact ⟨buildI_take l j it hit, by omega⟩
    have HA := Lib.hid hA
    have HI := Lib.hid hi
    have HW := Lib.hid hv
    have Hb := Lib.hid hb
    have HLb := Lib.hid hLib
    have HB0 := Lib.hid ((Below.refl w'.heap.size w').alloc (Nat.le_refl _) (.cells #[.int .i64 4, .int .i64 n, .string t, .slice A l.length c] 25))
    have HR0 : Hid (([] : List (List UInt8)) = buildI (l.take 0)) := rfl
    have HO0 : Hid (OwnS (w'.alloc (.cells #[.int .i64 4, .int .i64 n, .string t, .slice A l.length c] 25)) w'.heap.size none 0 []) := World.ownsRow_nil _ _ _ _
    have HFin : Hid (buildI (l.take l.length) = buildI l) := by show _ = _; rw [List.take_length]
    obtain ⟨i0, hi0, hq0, hq1, hq2⟩ := info_parts Up.str_info
    have HU := Lib.hid (And.intro hi0 (And.intro hq0 (And.intro hq1 hq2)))
    obtain ⟨P, hP⟩ : ∃ z, buildI l = z := ⟨_, rfl⟩
    rw [hP] at HFin hJC ⊢
    generalize mkB (joinQ P) = J at *
    clear hA hi hv hb hLib hi0 hq0 hq1 hq2 hk hgv hnd hF hP h0 hfit hbk hcnt hJl hJn hJc
    go_enter Tryz.func16, Tryz.ntmps16
    go_wp2_with fail
    go_loopw [4, 13] (fun x6 x16 wx => ∃ (j : Nat) (R : List (List UInt8)) (A1 : Option Addr) (c1 : Nat), j ≤ l.length ∧ x16 = .int .i64 j ∧ x6 = .slice A1 R.length c1 ∧ Hid (R = buildI (l.take j)) ∧ Hid (OwnS wx w'.heap.size A1 c1 R) ∧ Hid (Below w'.heap.size w' wx)) (fun _ xi _ => l.length - (ixOf xi).toNat)
    case atStart => exact ⟨0, [], none, 0, Nat.zero_le _, rfl, rfl, HR0, HO0, HB0⟩
    case round =>
      obtain ⟨j, R, A3, c3, hj, rfl, rfl, HR, HO, HB⟩ := hrel
      clear HB0 HR0 HO0
      by_cases hlt : j < l.length
      · obtain ⟨it, hit⟩ : ∃ it, l[j]? = some it := ⟨_, List.getElem?_eq_getElem hlt⟩
        obtain ⟨rfl, hbB⟩ := HA.out (by omega)
        have hbw : Below B w wr := Hb.out.trans (HB.out.mono hB')
        have hwr := HB.out.size
        obtain ⟨a0, a1, a2, v0, v1, v2, v3, e, a3, a4, a5, a6⟩ := (HI.out j it hit).below hbw hbB
        obtain ⟨hki, hkl, hpr⟩ := hPR.out j it hit
        obtain ⟨hT1, hT2⟩ := hTk.out j it hit
        rw [e] at hpr
        have hform := HW.out j it hit
        rw [e] at hform
        obtain ⟨k1, n1, t1, A1, l1, e1, rfl, rfl, rfl, rfl⟩ := hform.form
        have HKy := Lib.hid (fun wz (hz : Below B w wz) => key_any it.isText it.int it.text hki wz (HLb.out wz hz))
        rw [← keyG_eq] at HKy
        generalize mkB (keyL (GI.keyG it)) = KB at *
        generalize pairsV (keyL (GI.keyG it)) it.val = R2 at *
        have HPr := Lib.hid hpr
        have HT1 := Lib.hid hT1
        rw [hT1, List.length_append] at hT2
        rw [← HR.out] at HT1 hT2
        clear hform hpr hT1 HI HW HA hPR hTk hkl e hJC
        have hal := fun (w1 : World) (o : Obj) => (Below.refl w1.heap.size w1).alloc (Nat.le_refl _) o
        generalize it.isText = ib at *
        generalize it.int = ii at *
        generalize it.text = is at *
        have Hbw := Lib.hid (hbw.alloc (by omega) (.cells #[.bool ib, .int .i64 ii, .string is, .int .i64 k1, .int .i64 n1, .string t1, .slice A1 l1 e1] 39))
        have HBi := Lib.hid (hal wr (.cells #[.bool ib, .int .i64 ii, .string is, .int .i64 k1, .int .i64 n1, .string t1, .slice A1 l1 e1] 39))
        have HIi := Lib.hid (Blk.new wr 39 #[.bool ib, .int .i64 ii, .string is, .int .i64 k1, .int .i64 n1, .string t1, .slice A1 l1 e1])
        have d0 := HIi.out.cell 0
        have d1 := HIi.out.cell 1
        have d2 := HIi.out.cell 2
        have d3 := HIi.out.cell 3
        have d4 := HIi.out.cell 4
        have d5 := HIi.out.cell 5
        have d6 := HIi.out.cell 6
        clear hbw hal
        go_upto_region 7 with fail
        generalize wr.alloc (.cells #[.bool ib, .int .i64 ii, .string is, .int .i64 k1, .int .i64 n1, .string t1, .slice A1 l1 e1] 39) = wi at *
        have hwi := HBi.out.size
        go_region_held3 (fun w' => w'.cell? ⟨wr.heap.size, 0, none⟩ = some (.bool ib) ∧ w'.cell? ⟨wr.heap.size, 1, none⟩ = some (.int .i64 ii) ∧ w'.cell? ⟨wr.heap.size, 2, none⟩ = some (.string is) ∧ w'.cell? ⟨wr.heap.size, 3, none⟩ = some (.int .i64 k1) ∧ w'.cell? ⟨wr.heap.size, 4, none⟩ = some (.int .i64 n1) ∧ w'.cell? ⟨wr.heap.size, 5, none⟩ = some (.string t1) ∧ w'.cell? ⟨wr.heap.size, 6, none⟩ = some (.slice A1 l1 e1))
          (first | exact ⟨d0, d1, d2, d3, d4, d5, d6⟩ | exact ⟨y0, y1, y2, y3, y4, y5, y6⟩ | exact ⟨z0, z1, z2, z3, z4, z5, z6⟩ | exact (seven HI4.out))
          (first
            | (go_at_call 37; refine (HKy.out _ (Hbw.out.trans (drewU (Below.refl _ _) 1))).mono ?_; rintro e w2 ⟨rfl, hb2⟩; have HB2 := Lib.hid ((drewU (Below.refl wi.heap.size wi) 1).trans hb2); have HI2 := Lib.hid (blk_below HIi.out HB2.out); have y0 := HI2.out.cell 0; have y1 := HI2.out.cell 1; have y2 := HI2.out.cell 2; have y3 := HI2.out.cell 3; have y4 := HI2.out.cell 4; have y5 := HI2.out.cell 5; have y6 := HI2.out.cell 6; clear hb2)
            | (go_at_call 36; refine (HPr.out _ (Hbw.out.trans (HB2.out.mono (Nat.le_trans hBw Hbw.out.size)))).mono ?_; rintro e w3 ⟨A5, c5, rfl, ho3, hb3⟩; have HO3 := Lib.hid ho3; have HB3 := Lib.hid (HB2.out.trans (hb3.mono HB2.out.size)); have HI3 := Lib.hid (blk_below HIi.out HB3.out); have z0 := HI3.out.cell 0; have z1 := HI3.out.cell 1; have z2 := HI3.out.cell 2; have z3 := HI3.out.cell 3; have z4 := HI3.out.cell 4; have z5 := HI3.out.cell 5; have z6 := HI3.out.cell 6; clear ho3 hb3)
            | (refine step_append_any _ rfl (.tmp 17) (.tmp 23) _ rfl w'.heap.size 9 i0 _ 1 16 Tryz.underlying57 HU.out.1 HU.out.2.1 HU.out.2.2.1 HU.out.2.2.2 rfl (by decide) (.slice A3 R.length c3) R.length (strR R) rfl (HO.out.below (HBi.out.trans (HB3.out.mono hwi))) w3.heap.size A5 R2.length c5 (strR R2) rfl (Reads.of_own HO3.out) (strR_one R2) ?_ ?_ ?_ ?_
               · unfold maxLen; omega
               · omega
               · have := HB3.out.size; omega
               intro v4 w4 hown4 hg4 hor4
               have HO4 := Lib.hid hown4; have HG4 := Lib.hid hg4; have HI4 := Lib.hid (HI3.out.grown hg4 (own_lt HO.out (Nat.le_refl _))); clear hown4 hg4 hor4))
        have hw3 := HB3.out.size
        obtain ⟨A6, c6, hv6⟩ := own_shape HO4.out
        subst hv6
        have HB4 := Lib.hid (below_grown (HB.out.trans ((HBi.out.trans (HB3.out.mono hwi)).mono hwr)) (Nat.le_trans hwr (Nat.le_trans hwi hw3)) HG4.out (fun gb e => (HO.out.lt gb e).1))
        have HR4 : Hid (R ++ R2 = buildI (l.take (j + 1))) := Lib.hid HT1.out.symm
        have HO5 : Hid (OwnS w4 w'.heap.size A6 c6 (R ++ R2)) := by
          show OwnS _ _ _ _ _
          unfold OwnS strR
          rw [List.length_append, List.map_append]
          exact HO4.out
        have hlen : (R ++ R2).length = R.length + R2.length := List.length_append
        rw [← hlen]
        clear HO4 HG4 HI4 HB3 HO3 HI3 HB2 HI2 HBi HIi HR HO HB HT1 HPr HKy Hbw hlen
        go_wp2_with fail
        go_roundw
        case rel => exact ⟨j + 1, R ++ R2, A6, c6, by omega, by go_num, rfl, HR4, HO5, HB4⟩
        case measure => simp [ixOf] <;> omega
      · obtain rfl : j = l.length := by omega
        have hRP := HR.out.trans HFin.out
        subst hRP
        have HJ := Lib.hid (hJC.out _ _ _ _ HO.out)
        clear HI HW HA hPR hTk hJC
        go_wp2_with (go_at_call 38; refine HJ.out.mono ?_; rintro e w2 ⟨rfl, hb2⟩; have HB2 := Lib.hid (HB.out.trans (hb2.mono HB.out.size)); clear hb2)
        go_ret2
        exact ⟨rfl, HB2.out⟩
end
end Ub
end Go.Proofs.YtgpemnmopogppaaGreatDoor
