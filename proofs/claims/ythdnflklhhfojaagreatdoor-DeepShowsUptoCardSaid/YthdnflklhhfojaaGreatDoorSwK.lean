/- ostlerref08.show, Show: the walks; DeepShows: the law's walk. -/
import Derived.Test.YthdnflklhhfojaaGreatDoorSwJ
import Derived.Test.YthdnflklhhfojaaGreatDoorDpR
namespace Go.Proofs.YthdnflklhhfojaaGreatDoor
open Go Go.RowKit
namespace Sw
open Go.Proofs.YthdnflklhhfojaaGreatDoor.Dp
section
variable {w : World} {B : Nat}
set_option maxRecDepth 100000 in
set_option maxHeartbeats 1000000 in
theorem rshow_0 (n : Int) (t : ByteArray) (A : Option Addr) (l c : Nat) (a : ByteArray) (w : World) : Calls Tryz.prog 37 #[.agg #[.int .i64 0, .int .i64 n, .string t, .slice A l c], .string a] w fun e w' => e = .returned (.string ⟨(nullL : List UInt8).toArray⟩) ∧ Below w.heap.size w w' := by
  have HB0 := Lib.hid ((Below.refl w.heap.size w).alloc (Nat.le_refl _) (.cells #[.int .i64 0, .int .i64 n, .string t, .slice A l c] 27))
  go_enter Tryz.func37, Tryz.ntmps37
  go_wp2_with fail
  go_ret
  exact ⟨rfl, HB0.out⟩
set_option maxRecDepth 100000 in
set_option maxHeartbeats 1000000 in
theorem rshow_1t (t : ByteArray) (A : Option Addr) (l c : Nat) (a : ByteArray) (w : World) : Calls Tryz.prog 37 #[.agg #[.int .i64 1, .int .i64 1, .string t, .slice A l c], .string a] w fun e w' => e = .returned (.string ⟨(trueL : List UInt8).toArray⟩) ∧ Below w.heap.size w w' := by
  have HB0 := Lib.hid ((Below.refl w.heap.size w).alloc (Nat.le_refl _) (.cells #[.int .i64 1, .int .i64 1, .string t, .slice A l c] 27))
  go_enter Tryz.func37, Tryz.ntmps37
  go_wp2_with fail
  go_ret
  exact ⟨rfl, HB0.out⟩
set_option maxRecDepth 100000 in
set_option maxHeartbeats 1000000 in
theorem rshow_1f (n : Int) (t : ByteArray) (A : Option Addr) (l c : Nat) (a : ByteArray) (w : World) (hn : ¬ n = 1) : Calls Tryz.prog 37 #[.agg #[.int .i64 1, .int .i64 n, .string t, .slice A l c], .string a] w fun e w' => e = .returned (.string ⟨(falseL : List UInt8).toArray⟩) ∧ Below w.heap.size w w' := by
  have HB0 := Lib.hid ((Below.refl w.heap.size w).alloc (Nat.le_refl _) (.cells #[.int .i64 1, .int .i64 n, .string t, .slice A l c] 27))
  have bn : (n == 1) = false := by simpa using hn
  go_enter Tryz.func37, Tryz.ntmps37
  go_wp2_with fail
  go_ret
  exact ⟨rfl, HB0.out⟩
set_option maxRecDepth 100000 in
set_option maxHeartbeats 1000000 in
theorem rshow_2 (n : Int) (t : ByteArray) (A : Option Addr) (l c : Nat) (a : ByteArray) (w : World) (hn : In64 n) : Calls Tryz.prog 37 #[.agg #[.int .i64 2, .int .i64 n, .string t, .slice A l c], .string a] w fun e w' => e = .returned (.string ⟨(Lib.itoa n : List UInt8).toArray⟩) ∧ Below w.heap.size w w' := by
  have HB0 := Lib.hid ((Below.refl w.heap.size w).alloc (Nat.le_refl _) (.cells #[.int .i64 2, .int .i64 n, .string t, .slice A l c] 27))
  have HD := Lib.hid (fun w1 => Nm.rdigits_any n hn.1 hn.2 w1)
  clear hn
  go_enter Tryz.func37, Tryz.ntmps37
  go_wp2_with (go_at_call 59; refine (HD.out _).mono ?_; rintro e w1 ⟨rfl, hb⟩)
  go_ret
  exact ⟨rfl, HB0.out.trans (hb.mono HB0.out.size)⟩
set_option maxRecDepth 100000 in
set_option maxHeartbeats 1000000 in
theorem rshow_3 (n : Int) (t : ByteArray) (A : Option Addr) (l c : Nat) (a : ByteArray) (w : World) (ht : t.size ≤ 1048576) : Calls Tryz.prog 37 #[.agg #[.int .i64 3, .int .i64 n, .string t, .slice A l c], .string a] w fun e w' => e = .returned (.string ⟨(quoteL t.data.toList : List UInt8).toArray⟩) ∧ Below w.heap.size w w' := by
  have HB0 := Lib.hid ((Below.refl w.heap.size w).alloc (Nat.le_refl _) (.cells #[.int .i64 3, .int .i64 n, .string t, .slice A l c] 27))
  have HD := Lib.hid (fun w1 => rquoted_any t ht w1)
  clear ht
  go_enter Tryz.func37, Tryz.ntmps37
  go_wp2_with (go_at_call 60; refine (HD.out _).mono ?_; rintro e w1 ⟨rfl, hb⟩)
  go_ret
  exact ⟨rfl, HB0.out.trans (hb.mono HB0.out.size)⟩
theorem obj_eq (l : List UInt8) : ((⟨#[111, 98, 106, 101, 99, 116, 40]⟩ : ByteArray) ++ ⟨l.toArray⟩) ++ ⟨#[41]⟩ = (⟨(objL ++ l ++ [41]).toArray⟩ : ByteArray) := by
  apply ByteArray.ext
  rw [← Array.toList_inj]
  simp [objL]
set_option maxRecDepth 100000 in
set_option maxHeartbeats 1000000 in
theorem rshow_5 (n : Int) (t : ByteArray) (A : Option Addr) (l c : Nat) (a : ByteArray) (w : World) (hn : In64 n) : Calls Tryz.prog 37 #[.agg #[.int .i64 5, .int .i64 n, .string t, .slice A l c], .string a] w fun e w' => e = .returned (.string ⟨((objL ++ Lib.itoa n ++ [41]) : List UInt8).toArray⟩) ∧ Below w.heap.size w w' := by
  have HB0 := Lib.hid ((Below.refl w.heap.size w).alloc (Nat.le_refl _) (.cells #[.int .i64 5, .int .i64 n, .string t, .slice A l c] 27))
  have HD := Lib.hid (fun w1 => Nm.rdigits_any n hn.1 hn.2 w1)
  have hil := itoa_len n hn.1 hn.2
  have g1 : ¬ 9223372036854775807 < 7 + (⟨(Lib.itoa n).toArray⟩ : ByteArray).size := by rw [sz_mk]; omega
  have g2 : ¬ 9223372036854775807 < 7 + (⟨(Lib.itoa n).toArray⟩ : ByteArray).size + 1 := by rw [sz_mk]; omega
  rw [← obj_eq]
  clear hn hil
  go_enter Tryz.func37, Tryz.ntmps37
  go_wp2_with (go_at_call 59; refine (HD.out _).mono ?_; rintro e w1 ⟨rfl, hb⟩)
  go_ret
  exact ⟨rfl, HB0.out.trans (hb.mono HB0.out.size)⟩
theorem loop_eq (S AH K V : ByteArray) : S ++ (AH ++ ⟨#[32, 32]⟩ ++ K ++ ⟨#[32, 61, 62, 32]⟩ ++ V ++ ⟨#[44, 10]⟩) = (⟨(S.data.toList ++ (AH.data.toList ++ ([32, 32] ++ (K.data.toList ++ (toL ++ (V.data.toList ++ [44, 10])))))).toArray⟩ : ByteArray) := by
  apply ByteArray.ext
  rw [← Array.toList_inj]
  simp [toL]
theorem end_eq (S AH : ByteArray) : S ++ AH ++ ⟨#[41]⟩ = (⟨(S.data.toList ++ (AH.data.toList ++ [41])).toArray⟩ : ByteArray) := by
  apply ByteArray.ext
  rw [← Array.toList_inj]
  simp
theorem spaces_add (d : Nat) : spaces (2 * d) ++ [32, 32] = spaces (2 * (d + 1)) := by
  unfold spaces
  rw [show ([32, 32] : List UInt8) = List.replicate 2 32 from rfl, List.replicate_append_replicate]
  congr 1
theorem ahead_eq (d : Nat) : (⟨(spaces (2 * d)).toArray⟩ : ByteArray) ++ ⟨#[32, 32]⟩ = ⟨(spaces (2 * (d + 1))).toArray⟩ := by
  apply ByteArray.ext
  rw [← Array.toList_inj, ← spaces_add]
  simp
set_option maxRecDepth 100000 in
set_option maxHeartbeats 4000000 in
theorem rshow_list (hBw : B ≤ w.heap.size) (n : Int) (t : ByteArray) (l : List GI) (A : Option Addr) (c b off : Nat) (C : Nat → Value) (_hc : l.length ≤ c)
    (hA : 0 < l.length → A = some ⟨b, off, none⟩ ∧ b < B) (hi : ∀ i it, l[i]? = some it → ItemAt w b (off + i * 7) it (C i)) (hW : ∀ i it, l[i]? = some it → VAt w B it.val (C i))
    (hF : ∀ (i : Nat) (it : GI), l[i]? = some it → In64 it.int ∧ it.text.size ≤ 1048576) (d : Nat) (hd : d ≤ 63) (hll : l.length ≤ 2048)
    (ih : ∀ i it, l[i]? = some it → ∀ (w1 : World), Below B w w1 → (showV it.val (d + 1)).length ≤ 9000000000 → Calls Tryz.prog 37 #[C i, .string ⟨(spaces (2 * (d + 1))).toArray⟩] w1 fun e w2 => e = .returned (.string ⟨(showV it.val (d + 1)).toArray⟩) ∧ Below w1.heap.size w1 w2)
    (w' : World) (hb : Below B w w') (hlen : (arrL ++ (showL l d ++ (spaces (2 * d) ++ [41]))).length ≤ 9000000000) :
    Calls Tryz.prog 37 #[.agg #[.int .i64 4, .int .i64 n, .string t, .slice A l.length c], .string ⟨(spaces (2 * d)).toArray⟩] w' fun e w'' => e = .returned (.string ⟨(arrL ++ (showL l d ++ (spaces (2 * d) ++ [41]))).toArray⟩) ∧ Below w'.heap.size w' w'' := by
  have hB' : B ≤ w'.heap.size := Nat.le_trans hBw hb.size
  have HB0 := Lib.hid ((Below.refl w'.heap.size w').alloc (Nat.le_refl _) (.cells #[.int .i64 4, .int .i64 n, .string t, .slice A l.length c] 27))
  have HX0 := Lib.hid (Blk.new w' 27 #[.int .i64 4, .int .i64 n, .string t, .slice A l.length c])
  have Hb := Lib.hid hb
  have HA := Lib.hid hA
  have HI := Lib.hid hi
  have HW := Lib.hid hW
  have HF := Lib.hid hF
  have HV := Lib.hid ih
  have hAHs : (⟨(spaces (2 * d)).toArray⟩ : ByteArray).size ≤ 200 := by rw [sz_mk]; simp only [spaces, List.length_replicate]; omega
  have hAHd : (⟨(spaces (2 * d)).toArray⟩ : ByteArray).data.toList = spaces (2 * d) := dt_mk _
  have hah := ahead_eq d
  obtain ⟨F, hF0⟩ : ∃ z, arrL ++ (showL l d ++ (spaces (2 * d) ++ [41])) = z := ⟨_, rfl⟩
  have HF0 := Lib.hid hF0
  rw [hF0] at hlen ⊢
  obtain ⟨AH, hAH⟩ : ∃ z : ByteArray, (⟨(spaces (2 * d)).toArray⟩ : ByteArray) = z := ⟨_, rfl⟩
  rw [hAH] at hAHs hAHd hah ⊢
  have HAD := Lib.hid hAHd
  have HAH := Lib.hid hah
  have HFl := Lib.hid hlen
  clear hA hi hW hF ih hb hF0 hAH hAHd hah hlen
  have hwr0 : IntKind.i64.wrap (0 : Int) = 0 := rfl
  go_enter Tryz.func37, Tryz.ntmps37
  go_wp2_with fail
  have HE0 : Hid ((⟨#[97, 114, 114, 97, 121, 32, 40, 10]⟩ : ByteArray).data.toList ++ (showL (l.drop 0) d ++ (spaces (2 * d) ++ [41])) = F) := HF0.out
  clear HF0
  go_loopw [5, 6] (fun x5 x6 wx => ∃ (j : Nat) (S : ByteArray), j ≤ l.length ∧ x6 = .int .i64 j ∧ x5 = .string S ∧ Hid (S.data.toList ++ (showL (l.drop j) d ++ (spaces (2 * d) ++ [41])) = F) ∧ Hid (Below w'.heap.size w' wx) ∧ Hid (Blk wx w'.heap.size 27 #[.int .i64 4, .int .i64 n, .string t, .slice A l.length c])) (fun _ x6 _ => l.length - (ixOf x6).toNat)
  case atStart => exact ⟨0, _, Nat.zero_le _, rfl, rfl, HE0, HB0, HX0⟩
  case round =>
    clear HE0 HB0 HX0
    obtain ⟨j, S, hj, rfl, rfl, HE, HB, HX⟩ := hrel
    have x3 : wr.cell? ⟨w'.heap.size, 3, none⟩ = some (.slice A l.length c) := HX.out.cell 3
    have x0 : wr.cell? ⟨w'.heap.size, 0, none⟩ = some (.int .i64 4) := HX.out.cell 0
    by_cases hlt : j < l.length
    · obtain ⟨it, hit⟩ : ∃ it, l[j]? = some it := ⟨_, List.getElem?_eq_getElem hlt⟩
      obtain ⟨rfl, hbB⟩ := HA.out (by omega)
      have hbw : Below B w wr := Hb.out.trans (HB.out.mono hB')
      have hwr := HB.out.size
      obtain ⟨z0, z1, z2, v0, v1, v2, v3, e, z3, z4, z5, z6⟩ := HI.out j it hit
      have hform := HW.out j it hit
      rw [e] at hform
      obtain ⟨k1, n1, t1, A1, l1, e1, rfl, rfl, rfl, rfl⟩ := hform.form
      obtain ⟨hki, hks⟩ := HF.out j it hit
      have hR := HV.out j it hit
      rw [e, ← HAH.out] at hR
      have hE := HE.out
      rw [showL_drop l j it hit d] at hE
      have hbnd : S.data.toList.length + (spaces (2 * (d + 1))).length + (keyL it.isText it.int it.text).length + 4 + (showV it.val (d + 1)).length + 2 ≤ 9000000000 := by
        have h1 := congrArg List.length hE
        have h2 := HFl.out
        simp only [toL, List.length_append, List.length_cons, List.length_nil] at h1
        omega
      have HR := Lib.hid (fun w1 h1 => hR w1 h1 (by omega))
      have HK := Lib.hid (fun w1 => rkey_any it.isText it.int it.text hki hks w1)
      clear hR hform e HV HW HI HF HE
      obtain ⟨SV, hSV⟩ : ∃ z : ByteArray, (⟨(showV it.val (d + 1)).toArray⟩ : ByteArray) = z := ⟨_, rfl⟩
      obtain ⟨KK, hKK⟩ : ∃ z : ByteArray, (⟨(keyL it.isText it.int it.text).toArray⟩ : ByteArray) = z := ⟨_, rfl⟩
      have hSVd : SV.data.toList = showV it.val (d + 1) := by rw [← hSV]
      have hKKd : KK.data.toList = keyL it.isText it.int it.text := by rw [← hKK]
      have hSVs : SV.size = (showV it.val (d + 1)).length := by rw [← hSV]; exact sz_mk _
      have hKKs : KK.size = (keyL it.isText it.int it.text).length := by rw [← hKK]; exact sz_mk _
      have hSs : S.data.toList.length = S.size := by simp
      rw [hSV] at HR
      rw [hKK] at HK
      have HE2 : Hid ((S ++ (AH ++ ⟨#[32, 32]⟩ ++ KK ++ ⟨#[32, 61, 62, 32]⟩ ++ SV ++ ⟨#[44, 10]⟩)).data.toList ++ (showL (l.drop (j + 1)) d ++ (spaces (2 * d) ++ [41])) = F) := by
        show _ = _
        rw [loop_eq, dt_mk, HAD.out, hKKd, hSVd, ← hE, ← spaces_add]
        simp only [List.append_assoc]
      have q1 : ¬ 9223372036854775807 < AH.size + 2 := by omega
      have q2 : ¬ 9223372036854775807 < AH.size + 2 + KK.size := by omega
      have q3 : ¬ 9223372036854775807 < AH.size + 2 + KK.size + 4 := by omega
      have q4 : ¬ 9223372036854775807 < AH.size + 2 + KK.size + 4 + SV.size := by omega
      have q5 : ¬ 9223372036854775807 < AH.size + 2 + KK.size + 4 + SV.size + 2 := by omega
      have q6 : ¬ 9223372036854775807 < S.size + (AH.size + 2 + KK.size + 4 + SV.size + 2) := by omega
      clear hSV hKK hSVd hKKd hSVs hKKs hSs hbnd hE hki hks
      generalize it.isText = ib at *
      generalize it.int = ii at *
      generalize it.text = is at *
      have HC0 := Lib.hid z0
      have HC1 := Lib.hid z1
      have HC2 := Lib.hid z2
      have HC3 := Lib.hid z3
      have HC4 := Lib.hid z4
      have HC5 := Lib.hid z5
      have HC6 := Lib.hid z6
      have HZ0 := Lib.hid hbw
      have HZ1 := Lib.hid (show Below B w wr.drew from drewN' hbw 1)
      have HY1 := Lib.hid (show Below w'.heap.size w' wr.drew from drewN' HB.out 1)
      have HX1 := Lib.hid (show Blk wr.drew w'.heap.size _ _ from blk_below HX.out (drewN' (Below.refl _ _) 1))
      have hj0 : (0 : Int) ≤ (j : Int) := by omega
      have hjl : (j : Int) < (l.length : Int) := by omega
      have hvl := HX.out.lt
      go_wp2_with fail
      have d0 := HX.out.cell 3
      have d1 := (HZ0.out.cell (p := ⟨b, off + j * 7, none⟩) hbB).trans HC0.out
      have d2 := (HZ0.out.cell (p := ⟨b, off + j * 7 + 1, none⟩) hbB).trans HC1.out
      have d3 := (HZ0.out.cell (p := ⟨b, off + j * 7 + 2, none⟩) hbB).trans HC2.out
      have d4 := (HZ0.out.cell (p := ⟨b, off + j * 7 + 3, none⟩) hbB).trans HC3.out
      have d5 := (HZ0.out.cell (p := ⟨b, off + j * 7 + 4, none⟩) hbB).trans HC4.out
      have d6 := (HZ0.out.cell (p := ⟨b, off + j * 7 + 5, none⟩) hbB).trans HC5.out
      have d7 := (HZ0.out.cell (p := ⟨b, off + j * 7 + 6, none⟩) hbB).trans HC6.out
      clear z0 z1 z2 z3 z4 z5 z6 HB hbw x3
      refine wp_region_held_drew (S := (fun wz => wz.cell? ⟨w'.heap.size, 3, none⟩ = some (.slice (some ⟨b, off, none⟩) l.length c) ∧ wz.cell? ⟨b, off + j * 7, none⟩ = some (.bool ib) ∧ wz.cell? ⟨b, off + j * 7 + 1, none⟩ = some (.int .i64 ii) ∧ wz.cell? ⟨b, off + j * 7 + 2, none⟩ = some (.string is) ∧ wz.cell? ⟨b, off + j * 7 + 3, none⟩ = some (.int .i64 k1) ∧ wz.cell? ⟨b, off + j * 7 + 4, none⟩ = some (.int .i64 n1) ∧ wz.cell? ⟨b, off + j * 7 + 5, none⟩ = some (.string t1) ∧ wz.cell? ⟨b, off + j * 7 + 6, none⟩ = some (.slice A1 l1 e1))) (by kernel_rfl) ?_ (fun hHeld => ?_)
      · exact ⟨d0, d1, d2, d3, d4, d5, d6, d7⟩
      refine wpAnyH_take (i := 0) (v := ?v1) Held.op0 (by kernel_rfl) (by kernel_rfl) (by kernel_rfl) (fun _ _ _ h => h) (Or.inl ⟨by rfl, ?hy1⟩) (by assumption) ?rest1
      case hy1 => (intro wq hSq; (try dsimp only at hSq); first | (go_simp; done) | (go_simp; with_reducible rfl))
      try simp only [Act.put, List.setIfInBounds_toArray, List.set_cons_zero, List.set_cons_succ]
      refine wpAnyH_take (i := 1) (v := ?v2) Held.op1 (by kernel_rfl) (by kernel_rfl) (by kernel_rfl) (fun _ _ _ h => h) (Or.inl ⟨by rfl, ?hy2⟩) (by assumption) ?rest2
      case hy2 => (intro wq hSq; (try dsimp only at hSq); first | (go_simp; done) | (go_simp; with_reducible rfl))
      try simp only [Act.put, List.setIfInBounds_toArray, List.set_cons_zero, List.set_cons_succ]
      refine wpAnyH_take (i := 2) (v := ?v3) Held.op2 (by kernel_rfl) (by kernel_rfl) (by kernel_rfl) (fun _ _ _ h => h) (Or.inl ⟨by rfl, ?hy3⟩) (by assumption) ?rest3
      case hy3 => (intro wq hSq; (try dsimp only at hSq); first | (go_simp; done) | (go_simp; with_reducible rfl))
      try simp only [Act.put, List.setIfInBounds_toArray, List.set_cons_zero, List.set_cons_succ]
      refine wpAnyH_take (i := 3) (v := ?v4) Held.op3 (by kernel_rfl) (by kernel_rfl) (by kernel_rfl) (fun _ _ _ h => h) (Or.inl ⟨by rfl, ?hy4⟩) (by assumption) ?rest4
      case hy4 => (intro wq hSq; (try dsimp only at hSq); first | (go_simp; done) | (go_simp; with_reducible rfl))
      try simp only [Act.put, List.setIfInBounds_toArray, List.set_cons_zero, List.set_cons_succ]
      refine wpAnyH_take (i := 4) (v := ?v5) Held.op4 (by kernel_rfl) (by kernel_rfl) (by kernel_rfl) (fun _ _ _ h => h) (Or.inl ⟨by rfl, ?hy5⟩) (by assumption) ?rest5
      case hy5 => (intro wq hSq; (try dsimp only at hSq); first | (go_simp; done) | (go_simp; with_reducible rfl))
      try simp only [Act.put, List.setIfInBounds_toArray, List.set_cons_zero, List.set_cons_succ]
      refine wpAnyH_take (i := 5) (v := ?v6) Held.op5 (by kernel_rfl) (by kernel_rfl) (by kernel_rfl) (fun _ _ _ h => h) (Or.inl ⟨by rfl, ?hy6⟩) (by assumption) ?rest6
      case hy6 => (intro wq hSq; (try dsimp only at hSq); first | (go_simp; done) | (go_simp; with_reducible rfl))
      try simp only [Act.put, List.setIfInBounds_toArray, List.set_cons_zero, List.set_cons_succ]
      refine wpAnyH_take (i := 6) (v := ?v7) Held.op6 (by kernel_rfl) (by kernel_rfl) (by kernel_rfl) (fun _ _ _ h => h) (Or.inl ⟨by rfl, ?hy7⟩) (by assumption) ?rest7
      case hy7 => (intro wq hSq; (try dsimp only at hSq); first | (go_simp; done) | (go_simp; with_reducible rfl))
      try simp only [Act.put, List.setIfInBounds_toArray, List.set_cons_zero, List.set_cons_succ]
      refine wpAnyH_take (i := 7) (v := ?v8) Held.op7 (by kernel_rfl) (by kernel_rfl) (by kernel_rfl) (fun _ _ _ h => h) (Or.inl ⟨by rfl, ?hy8⟩) (by assumption) ?rest8
      case hy8 => (intro wq hSq; (try dsimp only at hSq); first | (go_simp; done) | (go_simp; with_reducible rfl))
      try simp only [Act.put, List.setIfInBounds_toArray, List.set_cons_zero, List.set_cons_succ]
      refine wpAnyH_take (i := 8) (v := ?v9) Held.op8 (by kernel_rfl) (by kernel_rfl) (by kernel_rfl) (fun _ _ _ h => h) (Or.inl ⟨by rfl, ?hy9⟩) (by assumption) ?rest9
      case hy9 => (intro wq hSq; (try dsimp only at hSq); first | (go_simp; done) | (go_simp; with_reducible rfl))
      try simp only [Act.put, List.setIfInBounds_toArray, List.set_cons_zero, List.set_cons_succ]
      refine wpAnyH_take (i := 12) (v := ?v10) Held.op12 (by kernel_rfl) (by kernel_rfl) (by kernel_rfl) (fun _ _ _ h => h) (Or.inl ⟨by rfl, ?hy10⟩) (by assumption) ?rest10
      case hy10 => (intro wq hSq; (try dsimp only at hSq); first | (go_simp; done) | (go_simp; with_reducible rfl))
      try simp only [Act.put, List.setIfInBounds_toArray, List.set_cons_zero, List.set_cons_succ]
      refine wpAnyH_take (i := 13) (v := ?v11) Held.op13 (by kernel_rfl) (by kernel_rfl) (by kernel_rfl) (fun _ _ _ h => h) (Or.inl ⟨by rfl, ?hy11⟩) (by assumption) ?rest11
      case hy11 => (intro wq hSq; (try dsimp only at hSq); first | (go_simp; done) | (go_simp; with_reducible rfl))
      try simp only [Act.put, List.setIfInBounds_toArray, List.set_cons_zero, List.set_cons_succ]
      refine wpAnyH_take (i := 14) (v := ?v12) Held.op14 (by kernel_rfl) (by kernel_rfl) (by kernel_rfl) (fun _ _ _ h => h) (Or.inl ⟨by rfl, ?hy12⟩) (by assumption) ?rest12
      case hy12 => (intro wq hSq; (try dsimp only at hSq); first | (go_simp; done) | (go_simp; with_reducible rfl))
      try simp only [Act.put, List.setIfInBounds_toArray, List.set_cons_zero, List.set_cons_succ]
      refine wpAnyH_take (i := 15) (v := ?v13) Held.op15 (by kernel_rfl) (by kernel_rfl) (by kernel_rfl) (fun _ _ _ h => h) (Or.inl ⟨by rfl, ?hy13⟩) (by assumption) ?rest13
      case hy13 => (intro wq hSq; (try dsimp only at hSq); first | (go_simp; done) | (go_simp; with_reducible rfl))
      try simp only [Act.put, List.setIfInBounds_toArray, List.set_cons_zero, List.set_cons_succ]
      refine wpAnyH_take (i := 16) (v := ?v14) Held.op16 (by kernel_rfl) (by kernel_rfl) (by kernel_rfl) (fun _ _ _ h => h) (Or.inl ⟨by rfl, ?hy14⟩) (by assumption) ?rest14
      case hy14 => (intro wq hSq; (try dsimp only at hSq); first | (go_simp; done) | (go_simp; with_reducible rfl))
      try simp only [Act.put, List.setIfInBounds_toArray, List.set_cons_zero, List.set_cons_succ]
      refine wpAnyH_take (i := 17) (v := ?v15) Held.op17 (by kernel_rfl) (by kernel_rfl) (by kernel_rfl) (fun _ _ _ h => h) (Or.inl ⟨by rfl, ?hy15⟩) (by assumption) ?rest15
      case hy15 => (intro wq hSq; (try dsimp only at hSq); first | (go_simp; done) | (go_simp; with_reducible rfl))
      try simp only [Act.put, List.setIfInBounds_toArray, List.set_cons_zero, List.set_cons_succ]
      refine wpAnyH_take (i := 18) (v := ?v16) Held.op18 (by kernel_rfl) (by kernel_rfl) (by kernel_rfl) (fun _ _ _ h => h) (Or.inl ⟨by rfl, ?hy16⟩) (by assumption) ?rest16
      case hy16 => (intro wq hSq; (try dsimp only at hSq); first | (go_simp; done) | (go_simp; with_reducible rfl))
      try simp only [Act.put, List.setIfInBounds_toArray, List.set_cons_zero, List.set_cons_succ]
      refine wpAnyH_take (i := 19) (v := ?v17) Held.op19 (by kernel_rfl) (by kernel_rfl) (by kernel_rfl) (fun _ _ _ h => h) (Or.inl ⟨by rfl, ?hy17⟩) (by assumption) ?rest17
      case hy17 => (intro wq hSq; (try dsimp only at hSq); first | (go_simp; done) | (go_simp; with_reducible rfl))
      try simp only [Act.put, List.setIfInBounds_toArray, List.set_cons_zero, List.set_cons_succ]
      refine wpAnyH_ready (rs := [9]) (by kernel_rfl) (by simp) ?_
      refine AllReadyH.cons Held.op9 (fun K hK => ?_) AllReadyH.nil
      go_simp
      go_at_call 61; refine (HK.out _).mono ?_; rintro e w5 ⟨rfl, hb5⟩; have HZ2 := Lib.hid (HZ1.out.trans (hb5.mono (by have := HZ1.out.size; omega))); have HY2 := Lib.hid (HY1.out.trans (hb5.mono (by have := HY1.out.size; omega))); have HX2 := Lib.hid (blk_below HX1.out hb5); have y0 := HX2.out.cell 3; have y1 := (HZ2.out.cell (p := ⟨b, off + j * 7, none⟩) hbB).trans HC0.out; have y2 := (HZ2.out.cell (p := ⟨b, off + j * 7 + 1, none⟩) hbB).trans HC1.out; have y3 := (HZ2.out.cell (p := ⟨b, off + j * 7 + 2, none⟩) hbB).trans HC2.out; have y4 := (HZ2.out.cell (p := ⟨b, off + j * 7 + 3, none⟩) hbB).trans HC3.out; have y5 := (HZ2.out.cell (p := ⟨b, off + j * 7 + 4, none⟩) hbB).trans HC4.out; have y6 := (HZ2.out.cell (p := ⟨b, off + j * 7 + 5, none⟩) hbB).trans HC5.out; have y7 := (HZ2.out.cell (p := ⟨b, off + j * 7 + 6, none⟩) hbB).trans HC6.out; clear hb5
      try (go_wp2_with fail)
      refine hK.out _ _ ?_ (fun hHeld => ?_)
      · exact ⟨y0, y1, y2, y3, y4, y5, y6, y7⟩
      clear hK K
      try simp only [Act.put, List.setIfInBounds_toArray, List.set_cons_zero, List.set_cons_succ]
      refine wpAnyH_take (i := 10) (v := ?v19) Held.op10 (by kernel_rfl) (by kernel_rfl) (by kernel_rfl) (fun _ _ _ h => h) (Or.inl ⟨by rfl, ?hy19⟩) (by assumption) ?rest19
      case hy19 => (intro wq hSq; (try dsimp only at hSq); first | (go_simp; done) | (go_simp; with_reducible rfl))
      try simp only [Act.put, List.setIfInBounds_toArray, List.set_cons_zero, List.set_cons_succ]
      refine wpAnyH_take (i := 11) (v := ?v20) Held.op11 (by kernel_rfl) (by kernel_rfl) (by kernel_rfl) (fun _ _ _ h => h) (Or.inl ⟨by rfl, ?hy20⟩) (by assumption) ?rest20
      case hy20 => (intro wq hSq; (try dsimp only at hSq); first | (go_simp; done) | (go_simp; with_reducible rfl))
      try simp only [Act.put, List.setIfInBounds_toArray, List.set_cons_zero, List.set_cons_succ]
      refine wpAnyH_ready (rs := [20]) (by kernel_rfl) (by simp) ?_
      refine AllReadyH.cons Held.op20 (fun K hK => ?_) AllReadyH.nil
      go_simp
      go_at_call 37; refine (HR.out _ HZ2.out).mono ?_; rintro e w6 ⟨rfl, hb6⟩; have HZ3 := Lib.hid (HZ2.out.trans (hb6.mono (by have := HZ2.out.size; omega))); have HY3 := Lib.hid (HY2.out.trans (hb6.mono (by have := HY2.out.size; omega))); have HX3 := Lib.hid (blk_below HX2.out hb6); have g0 := HX3.out.cell 3; have g1 := (HZ3.out.cell (p := ⟨b, off + j * 7, none⟩) hbB).trans HC0.out; have g2 := (HZ3.out.cell (p := ⟨b, off + j * 7 + 1, none⟩) hbB).trans HC1.out; have g3 := (HZ3.out.cell (p := ⟨b, off + j * 7 + 2, none⟩) hbB).trans HC2.out; have g4 := (HZ3.out.cell (p := ⟨b, off + j * 7 + 3, none⟩) hbB).trans HC3.out; have g5 := (HZ3.out.cell (p := ⟨b, off + j * 7 + 4, none⟩) hbB).trans HC4.out; have g6 := (HZ3.out.cell (p := ⟨b, off + j * 7 + 5, none⟩) hbB).trans HC5.out; have g7 := (HZ3.out.cell (p := ⟨b, off + j * 7 + 6, none⟩) hbB).trans HC6.out; clear hb6
      try (go_wp2_with fail)
      refine hK.out _ _ ?_ (fun hHeld => ?_)
      · exact ⟨g0, g1, g2, g3, g4, g5, g6, g7⟩
      clear hK K
      try simp only [Act.put, List.setIfInBounds_toArray, List.set_cons_zero, List.set_cons_succ]
      refine wpAnyH_take (i := 21) (v := ?v22) Held.op21 (by kernel_rfl) (by kernel_rfl) (by kernel_rfl) (fun _ _ _ h => h) (Or.inl ⟨by rfl, ?hy22⟩) (by assumption) ?rest22
      case hy22 => (intro wq hSq; (try dsimp only at hSq); first | (go_simp; done) | (go_simp; with_reducible rfl))
      try simp only [Act.put, List.setIfInBounds_toArray, List.set_cons_zero, List.set_cons_succ]
      refine wpAnyH_take (i := 22) (v := ?v23) Held.op22 (by kernel_rfl) (by kernel_rfl) (by kernel_rfl) (fun _ _ _ h => h) (Or.inl ⟨by rfl, ?hy23⟩) (by assumption) ?rest23
      case hy23 => (intro wq hSq; (try dsimp only at hSq); first | (go_simp; done) | (go_simp; with_reducible rfl))
      try simp only [Act.put, List.setIfInBounds_toArray, List.set_cons_zero, List.set_cons_succ]
      refine wpAnyH_take (i := 23) (v := ?v24) Held.op23 (by kernel_rfl) (by kernel_rfl) (by kernel_rfl) (fun _ _ _ h => h) (Or.inl ⟨by rfl, ?hy24⟩) (by assumption) ?rest24
      case hy24 => (intro wq hSq; (try dsimp only at hSq); first | (go_simp; done) | (go_simp; with_reducible rfl))
      try simp only [Act.put, List.setIfInBounds_toArray, List.set_cons_zero, List.set_cons_succ]
      refine wpAnyH_take (i := 24) (v := ?v25) Held.op24 (by kernel_rfl) (by kernel_rfl) (by kernel_rfl) (fun _ _ _ h => h) (Or.inl ⟨by rfl, ?hy25⟩) (by assumption) ?rest25
      case hy25 => (intro wq hSq; (try dsimp only at hSq); first | (go_simp; done) | (go_simp; with_reducible rfl))
      try simp only [Act.put, List.setIfInBounds_toArray, List.set_cons_zero, List.set_cons_succ]
      refine wpAnyH_done (by kernel_rfl) ?_ _
      go_wp2_with fail
      go_roundw
      case rel => exact ⟨j + 1, _, by omega, by go_num, rfl, HE2, HY3, HX3⟩
      case measure => simp [ixOf] <;> omega
    · have hjl : j = l.length := by omega
      have hE := HE.out
      rw [hjl, List.drop_length, showL, List.nil_append] at hE
      have hend : S ++ AH ++ ⟨#[41]⟩ = (⟨F.toArray⟩ : ByteArray) := by
        rw [end_eq, HAD.out, hE]
      have hSs : S.data.toList.length = S.size := by simp
      have hsz : S.size ≤ 9000000000 := by
        have h1 := congrArg List.length hE
        have h2 := HFl.out
        rw [List.length_append] at h1
        omega
      have q1 : ¬ 9223372036854775807 < S.size + AH.size := by omega
      have q2 : ¬ 9223372036854775807 < S.size + AH.size + 1 := by omega
      clear HE hE HI HW HF HV HA hSs hsz hjl
      have HEnd := Lib.hid hend
      clear hend
      go_wp2_with fail
      go_ret
      refine ⟨?_, HB.out⟩
      show Ending.returned (.string (S ++ AH ++ ⟨#[41]⟩)) = _
      rw [HEnd.out]
theorem rshow_any (hBw : B ≤ w.heap.size) {g : GV} {x : Value} (h : VAt w B g x) : Short g → ∀ (d : Nat), mayV g (d : Int) = true → ∀ (w' : World), Below B w w' → (showV g d).length ≤ 9000000000 →
    Calls Tryz.prog 37 #[x, .string ⟨(spaces (2 * d)).toArray⟩] w' fun e w'' => e = .returned (.string ⟨(showV g d).toArray⟩) ∧ Below w'.heap.size w' w'' := by
  induction h with
  | mk k n t l A c b0 off C hc hn hA hi hv ih =>
    intro hS d hm w' hb hlen
    cases hS with
    | mk _ _ _ _ hn64 ht h1 h2 =>
    rw [showV] at hlen ⊢
    rw [mayV] at hm
    by_cases h4 : k = 4
    · subst h4
      rw [if_pos rfl] at hm
      by_cases hcd : t.size = 0 ∧ -1 ≤ n ∧ l.length ≤ 2048 ∧ (d : Int) < 64
      · rw [if_pos hcd] at hm
        rw [if_neg (by decide), if_neg (by decide), if_neg (by decide), if_neg (by decide), if_neg (by decide)] at hlen ⊢
        refine rshow_list hBw n t l A c b0 off C hc hA hi hv h1 d (by omega) hcd.2.2.1 (fun i it hit w1 hb hl => ?_) w' hb hlen
        refine ih i it hit (h2 i it hit) (d + 1) ?_ w1 hb hl
        have := may_items l [] n d hm i it hit
        rw [show ((d + 1 : Nat) : Int) = (d : Int) + 1 by omega]
        exact this
      · rw [if_neg hcd] at hm
        cases hm
    · rw [if_neg h4, Bool.and_eq_true] at hm
      have hk : k = 0 ∨ k = 1 ∨ k = 2 ∨ k = 3 ∨ k = 5 := by
        have h2 := hm.2
        unfold flatB at h2
        by_cases e0 : k = 0
        · omega
        · by_cases e1 : k = 1
          · omega
          · by_cases e2 : k = 2
            · omega
            · by_cases e3 : k = 3
              · omega
              · by_cases e5 : k = 5
                · omega
                · rw [if_neg e0, if_neg e1, if_neg e2, if_neg e3, if_neg e5] at h2
                  cases h2
      obtain rfl | rfl | rfl | rfl | rfl := hk
      · rw [if_pos rfl] at hlen ⊢
        exact rshow_0 n t A l.length c _ w'
      · rw [if_neg (by decide), if_pos rfl] at hlen ⊢
        by_cases h1n : n = 1
        · subst h1n
          rw [if_pos rfl] at hlen ⊢
          exact rshow_1t t A l.length c _ w'
        · rw [if_neg h1n] at hlen ⊢
          exact rshow_1f n t A l.length c _ w' h1n
      · rw [if_neg (by decide), if_neg (by decide), if_pos rfl] at hlen ⊢
        exact rshow_2 n t A l.length c _ w' hn64
      · rw [if_neg (by decide), if_neg (by decide), if_neg (by decide), if_pos rfl] at hlen ⊢
        exact rshow_3 n t A l.length c _ w' ht
      · rw [if_neg (by decide), if_neg (by decide), if_neg (by decide), if_neg (by decide), if_pos rfl] at hlen ⊢
        exact rshow_5 n t A l.length c _ w' hn64
set_option maxRecDepth 100000 in
set_option maxHeartbeats 1000000 in
theorem rShow_any (hBw : B ≤ w.heap.size) {g : GV} {x : Value} (h : VAt w B g x) (hf : Fit g) (hS : Short g) (w' : World) (hb : Below B w w') :
    Calls Tryz.prog 16 #[x] w' fun e w'' => e = .returned (.tuple #[.string (showS g), .int .i64 (showE g)]) ∧ Below w'.heap.size w' w'' := by
  have HS := Lib.hid (Nat.le_trans hBw hb.size)
  have HR := Lib.hid (fun w1 h1 => rright_any hBw h hf w1 h1)
  have HSh := Lib.hid (fun (hr : rightB g = true) (w1 : World) (h1 : Below B w w1) => rshow_any hBw h hS 0 (by unfold rightB at hr; rw [Bool.and_eq_true] at hr; exact hr.2) w1 h1 (by
    have h0 : 0 ≤ leftV g 2048 := by
      unfold rightB fewB at hr
      rw [Bool.and_eq_true] at hr
      exact of_decide_eq_true hr.1
    exact show_bound hS h0))
  have hsp : (⟨(spaces (2 * 0)).toArray⟩ : ByteArray) = ⟨#[]⟩ := rfl
  rw [hsp] at HSh
  obtain ⟨k, n, t, A, l, c, rfl⟩ := vagg h
  have HY := Lib.hid ((Below.refl w'.heap.size w').alloc (Nat.le_refl _) (.cells #[.int .i64 k, .int .i64 n, .string t, .slice A l c] 27))
  have HZ := Lib.hid (hb.trans (HY.out.mono HS.out))
  have HX := Lib.hid (Blk.new w' 27 #[.int .i64 k, .int .i64 n, .string t, .slice A l c])
  clear h hb hBw hf hS hsp
  unfold showS showE
  cases q : rightB g with
  | false =>
    rw [if_neg (by decide), if_neg (by decide)]
    clear HSh
    go_enter Tryz.func16, Tryz.ntmps16
    go_wp2_with (go_at_call 19; refine (HR.out _ HZ.out).mono ?_; rintro e w2 ⟨rfl, hb2⟩; have HY := Lib.hid (HY.out.trans (hb2.mono HY.out.size)); clear hb2)
    go_ret2
    exact ⟨rfl, HY.out⟩
  | true =>
    rw [if_pos rfl, if_pos rfl]
    have HSh := Lib.hid (HSh.out q)
    generalize showV g 0 = S at *
    go_enter Tryz.func16, Tryz.ntmps16
    go_wp2_with (first | (go_at_call 19; refine (HR.out _ HZ.out).mono ?_; rintro e w2 ⟨rfl, hb2⟩; have HZ := Lib.hid (HZ.out.trans (hb2.mono (Nat.le_trans HS.out HY.out.size))); have HY := Lib.hid (HY.out.trans (hb2.mono HY.out.size)); have HX := Lib.hid (blk_below HX.out hb2); have x0 := HX.out.cell 0; have x1 := HX.out.cell 1; have x2 := HX.out.cell 2; have x3 := HX.out.cell 3; clear hb2) | (go_at_call 37; refine (HSh.out _ HZ.out).mono ?_; rintro e w3 ⟨rfl, hb3⟩; have HY3 := Lib.hid (HY.out.trans (hb3.mono HY.out.size)); clear hb3))
    go_ret2
    exact ⟨rfl, HY3.out⟩
end
end Sw
open Sw Dp
set_option maxRecDepth 100000 in
set_option maxHeartbeats 1000000 in
theorem deepShows_any {w : World} {g : GV} {x : Value} (h : VAt w w.heap.size g x) (hf : Fit g) (hS : Short g) (hL : LibS w) :
    Calls Tryz.prog 4 #[x] w fun e w' => e = .returned (.bool true) ∧ Below w.heap.size w w' := by
  have hLib := fun (w' : World) (hb : Below w.heap.size w w') => hL.below' hb (Nat.le_refl _)
  have HP := Lib.hid (fun (w' : World) (hb : Below w.heap.size w w') => dShow_any (Nat.le_refl _) hLib h hf hS w' hb)
  have HR := Lib.hid (fun (w' : World) (hb : Below w.heap.size w w') => rShow_any (Nat.le_refl _) h hf hS w' hb)
  have HAl := Lib.hid (fun (w' : World) (hb : Below w.heap.size w w') => alive08 w' (hLib w' hb))
  obtain ⟨k, n, t, A, l, c, rfl⟩ := vagg h
  have HZ := Lib.hid ((Below.refl w.heap.size w).alloc (Nat.le_refl _) (.cells #[.int .i64 k, .int .i64 n, .string t, .slice A l c] 27))
  have HX := Lib.hid (Blk.new w 27 #[.int .i64 k, .int .i64 n, .string t, .slice A l c])
  clear h hf hS hL hLib
  generalize showS g = V at *
  generalize showE g = E at *
  go_enter Tryz.func4, Tryz.ntmps4
  go_wp2_with (first | (go_at_call 15; refine (HP.out _ HZ.out).mono ?_; rintro e w1 ⟨rfl, hb⟩; have HZ := Lib.hid (HZ.out.trans (hb.mono HZ.out.size)); have HX := Lib.hid (blk_below HX.out hb); have x0 := HX.out.cell 0; have x1 := HX.out.cell 1; have x2 := HX.out.cell 2; have x3 := HX.out.cell 3; clear hb) | (go_at_call 16; refine (HR.out _ HZ.out).mono ?_; rintro e w1 ⟨rfl, hb⟩; have HZ := Lib.hid (HZ.out.trans (hb.mono HZ.out.size)); have HX := Lib.hid (blk_below HX.out hb); have x0 := HX.out.cell 0; have x1 := HX.out.cell 1; have x2 := HX.out.cell 2; have x3 := HX.out.cell 3; clear hb) | (go_at_call 17; refine (HAl.out _ HZ.out).mono ?_; rintro e w1 ⟨rfl, hb⟩; have HZ := Lib.hid (HZ.out.trans (hb.mono HZ.out.size)); have HX := Lib.hid (blk_below HX.out hb); have x0 := HX.out.cell 0; have x1 := HX.out.cell 1; have x2 := HX.out.cell 2; have x3 := HX.out.cell 3; clear hb))
  go_ret
  exact ⟨rfl, HZ.out⟩
end Go.Proofs.YthdnflklhhfojaaGreatDoor
