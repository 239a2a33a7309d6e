/- strs.hex2bin of what bin2hex wrote: the walk. -/
import Derived.Test.YtgjnmfjiolpikaaGreatDoorSbH
import Derived.Test.YtgjnmfjiolpikaaGreatDoorNmD
import Derived.Laws.AppendOwn
import Derived.Laws.BytesArg
namespace Go.Proofs.YtgjnmfjiolpikaaGreatDoor
open Go Go.RowKit
set_option maxRecDepth 100000
namespace Sb
open Dp
theorem even_one (n : Nat) (h : n ≤ 1000000) : bits .and .i64 ((2 * n : Nat) : Int) 1 = 0 := by
  have h1 : (BitVec.ofInt 64 ((2 * n : Nat) : Int)).toNat = 2 * n := by
    rw [BitVec.ofInt_natCast, BitVec.toNat_ofNat]; exact Nat.mod_eq_of_lt (by omega)
  have h2 : (BitVec.ofInt 64 (1 : Int)).toNat = 1 := rfl
  show IntKind.i64.wrap ((BitVec.ofInt 64 ((2 * n : Nat) : Int) &&& BitVec.ofInt 64 (1 : Int)).toNat : Int) = _
  rw [BitVec.toNat_and, h1, h2, Nat.and_one_is_mod, Nat.mul_mod_right]
  rfl
def hexB (l : List UInt8) : ByteArray := ⟨(hexAll l).toArray⟩
theorem hexB_size (l : List UInt8) : (hexB l).size = 2 * l.length := by
  have := hexAll_len l
  simpa [hexB, ByteArray.size] using this
theorem hexAll_drop : ∀ (l : List UInt8) (j : Nat), (hexAll l).drop (2 * j) = hexAll (l.drop j)
  | l, 0 => rfl
  | [], j + 1 => by simp [hexAll]
  | c :: l, j + 1 => by
    have e : hexAll (c :: l) = hexC c ++ hexAll l := rfl
    rw [e, List.drop_succ_cons, ← hexAll_drop l j, show 2 * (j + 1) = (hexC c).length + 2 * j by simp [hexC]; omega, List.drop_append]
    simp
theorem hex_two (l : List UInt8) (j : Nat) (h : j < l.length) : (hexB l).extract (2 * j) (2 * j + 2) = Go.Ev.mkS (twoN l[j].toNat) := by
  apply ByteArray.ext
  rw [← Array.toList_inj]
  have h1 : ((hexB l).extract (2 * j) (2 * j + 2)).data.toList = ((hexAll l).drop (2 * j)).take 2 := by
    simp [hexB, ByteArray.data_extract]
  rw [h1, hexAll_drop, List.drop_eq_getElem_cons h]
  rfl
theorem hex_at (l : List UInt8) (j : Nat) (h : j < l.length) (h2 : 2 * j < (hexB l).size) : ((hexB l)[2 * j]).toNat = digN (l[j].toNat / 16) := by
  have h3 : (hexB l)[2 * j] = UInt8.ofNat (digN (l[j].toNat / 16)) := by
    have h4 : (hexAll l)[2 * j]? = some (UInt8.ofNat (digN (l[j].toNat / 16))) := by
      have := congrArg (fun z : List UInt8 => z[0]?) (hexAll_drop l j)
      simp only [List.getElem?_drop, Nat.add_zero] at this
      rw [this, List.drop_eq_getElem_cons h]
      rfl
    have h5 := (List.getElem?_eq_some_iff.1 h4).2
    rw [← h5]
    rfl
  have hc := l[j].toNat_lt
  rw [h3]
  have := dig_lt (l[j].toNat / 16) (by omega)
  simp
  omega
theorem dig_plain (n : Nat) (h : n < 16) : digN n ≠ 43 ∧ digN n ≠ 95 := by
  unfold digN
  split <;> omega
theorem own_sh {w : World} {base : Nat} {e : TypeId} {sz n : Nat} {sv : Value} {xs : List Value} (h : w.ownsRow base e sz sv n xs) : ∃ A c, sv = .slice A n c := by
  rcases h.2 with ⟨rfl, rfl⟩ | ⟨g, cap, cur, rfl, _⟩
  · exact ⟨_, _, rfl⟩
  · exact ⟨_, _, rfl⟩
theorem own_kept {w w' : World} {base : Nat} {e : TypeId} {sz n : Nat} {sv : Value} {xs : List Value} (h : w.ownsRow base e sz sv n xs) (hb : Below w.heap.size w w') : w'.ownsRow base e sz sv n xs :=
  h.kept (row := none) ⟨hb.os, hb.tape, hb.output, hb.size, fun i hi _ => hb.block i hi⟩ (by cases sv.ownBlock <;> simp)
theorem reads_byte (w : World) (c : UInt8) : Reads (w.alloc (.cells #[.int .u8 (c.toNat : Int)] 5)) (w.alloc (.cells #[.int .u8 (c.toNat : Int)] 5)).heap.size 1 (some ⟨w.heap.size, 0, none⟩) 1 (Nm.bcells [c]) :=
  ⟨rfl, fun _ => ⟨_, rfl, by simp, fun j u hu => by
    have hj : j = 0 := by
      have := (List.getElem?_eq_some_iff.1 hu).1
      simp [Nm.bcells] at this
      exact this
    subst hj
    exact ((Blk.new w 5 #[.int .u8 (c.toNat : Int)]).cell 0).trans hu⟩⟩
theorem conv_own {w : World} {base : Nat} {A : Option Addr} {c : Nat} {l : List UInt8} (h : w.ownsRow base 5 1 (.slice A l.length c) l.length (Nm.bcells l)) : (convert 56 9 (.slice A l.length c)).run Tryz.prog w = .ok (.string ⟨l.toArray⟩) w := by
  rcases h.2 with ⟨e, h0⟩ | ⟨g, cap, cur, e, _⟩
  · injection e with e1 e2 e3
    subst e1 e3
    have hl : l = [] := List.eq_nil_of_length_eq_zero h0
    subst hl
    rw [run_convert_bytes_string w 56 9 5 none _ 0 Tryz.underlying56 Tryz.underlying5 Tryz.underlying9]
    rfl
  · injection e with e1 _ e3
    subst e1 e3
    have hr := Reads.of_own h
    exact run_convert_bytes_back w _ _ 5 ⟨g, 0, none⟩ c l Tryz.underlying56 Tryz.underlying5 Tryz.underlying9 fun j hj => World.ownsRow.cells h (g := g) rfl j _ (by simp [Nm.bcells, List.getElem?_map, List.getElem?_eq_getElem hj])
set_option maxHeartbeats 8000000 in
theorem hex2bin_do (l : List UInt8) (hl : l.length ≤ 65536) (n : Int) (Aa : Option Addr) (la ca g cap : Nat) (m : Int) (w : World) (hL : LibA m w) (hA : ArgsA w g [(3, n, hexB l, Aa, la, ca)]) :
    Calls Tryz.prog 55 #[.slice (some ⟨g, 0, none⟩) 1 cap] w fun e w' => e = .returned (.tuple #[.agg #[.int .i64 3, .int .i64 0, .string ⟨l.toArray⟩, .slice none 0 0], .int .i64 0]) ∧ Below w.heap.size w w' := by
  have HS := Lib.hid (fun w hA => sA [(3, n, hexB l, Aa, la, ca)] 0 n (hexB l) Aa la ca (by simp) rfl g cap w hA)
  have HP := Lib.hid (fun (c : UInt8) wz (hb : Below w.heap.size w wz) => back_any c.toNat c.toNat_lt m wz (hL.below hb))
  have HT := Lib.hid (fun wz => text_any ⟨l.toArray⟩ wz)
  have HZ0 := Lib.hid (Blk.new w 25 #[.int .i64 0, .int .i64 0, .string ⟨#[]⟩, .slice none 0 0])
  have HB0 := Lib.hid ((Below.refl w.heap.size w).alloc (Nat.le_refl _) (.cells #[.int .i64 0, .int .i64 0, .string ⟨#[]⟩, .slice none 0 0] 25))
  have HA0 := Lib.hid (hA.below HB0.out (Nat.le_refl _))
  have hsz := hexB_size l
  have HTw := Lib.hid (hex_two l)
  have HAt := Lib.hid (hex_at l)
  have HOdd := Lib.hid (even_one l.length (by omega))
  generalize hexB l = S at *
  clear hA hL
  go_enter Tryz.func55, Tryz.ntmps55
  go_wp2_with fail
  generalize w.alloc (.cells #[.int .i64 0, .int .i64 0, .string ⟨#[]⟩, .slice none 0 0] 25) = w0 at *
  go_wp2_with (go_at_call 16; refine (HS.out _ HA0.out).mono ?_; rintro e w1 ⟨rfl, hb1⟩; have HB1 := Lib.hid (HB0.out.trans (hb1.mono HB0.out.size)); have HZ1 := Lib.hid (HZ0.out.keeps (Keeps.of_below (S := fun _ => False) hb1) id); clear hb1)
  obtain ⟨i0, hi0, hz0, hz1, hz2⟩ := info_parts Nm.u8_info
  have HU := Lib.hid (And.intro hi0 (And.intro hz0 (And.intro hz1 hz2)))
  have HO1 : Hid (w1.ownsRow (w.heap.size + 1) 5 1 (.slice none 0 0) 0 (Nm.bcells (l.take 0))) := World.ownsRow_nil _ _ _ _
  have HSz := Lib.hid hsz
  clear hi0 hz0 hz1 hz2 HS HA0 HZ0 HB0 hsz
  go_loopw [5, 6] (fun x5 x6 wx => ∃ (A : Option Addr) (c j k : Nat), Hid (k = 2 * j) ∧ j ≤ l.length ∧ x5 = .slice A j c ∧ x6 = .int .i64 (k : Int) ∧ Hid (wx.ownsRow (w.heap.size + 1) 5 1 (.slice A j c) j (Nm.bcells (l.take j))) ∧ Hid (Blk wx w.heap.size 25 #[.int .i64 0, .int .i64 0, .string ⟨#[]⟩, .slice none 0 0]) ∧ Hid (Below w.heap.size w wx)) (fun x5 _ _ => l.length - (match x5 with | .slice _ n _ => n | _ => 0))
  case atStart => exact ⟨none, 0, 0, 0, rfl, Nat.zero_le _, rfl, rfl, HO1, HZ1, HB1⟩
  case round =>
    obtain ⟨A, c, j, k, HK, hj, rfl, rfl, HO, HZ, HB⟩ := hrel
    have hk : k = 2 * j := HK.out
    have hsz : S.size = 2 * l.length := HSz.out
    clear HO1 HZ1 HB1
    by_cases hlt : j < l.length
    · have hI : (k : Int) + 1 < (S.size : Int) := by omega
      have hI0 : (k : Int) < (S.size : Int) := by omega
      have hkl : k < S.size := by omega
      have hk2 : k + 2 ≤ S.size := by omega
      have hw1 : IntKind.i64.wrap ((k : Int) + 1) = (k : Int) + 1 := IntWalk.i64_in _ (by omega)
      have hw2 : IntKind.i64.wrap ((k : Int) + 2) = (k : Int) + 2 := IntWalk.i64_in _ (by omega)
      have hex : S.extract k (k + 2) = Go.Ev.mkS (twoN l[j].toNat) := by rw [hk]; exact HTw.out j hlt
      have hsl : (Instr.slice 9 (.string S) (some (.int .i64 (k : Int))) (some (.int .i64 ((k : Int) + 2))) none).run Tryz.prog wr = .ok (.string (Go.Ev.mkS (twoN l[j].toNat))) wr := by
        have h := run_slice_string (P := Tryz.prog) wr 9 S .i64 .i64 (k : Int) ((k : Int) + 2) Tryz.underlying9 (by omega) (by omega) (by omega)
        rw [Int.toNat_natCast, show ((k : Int) + 2).toNat = k + 2 by omega, hex] at h
        exact h
      have hat : (S[k]).toNat = digN (l[j].toNat / 16) := by subst hk; exact HAt.out j hlt hkl
      have hlim := l[j].toNat_lt
      obtain ⟨q1, q2⟩ := dig_plain (l[j].toNat / 16) (by omega)
      have p1 : (S[k]).toNat ≠ 43 := by omega
      have p2 : (S[k]).toNat ≠ 95 := by omega
      have p3 : (((S[k]).toNat : Int) == 43) = false := by rw [beq_eq_false_iff_ne]; omega
      have p4 : (((S[k]).toNat : Int) == 95) = false := by rw [beq_eq_false_iff_ne]; omega
      have hbc : Hid (Nm.bcells (l.take (j + 1)) = Nm.bcells (l.take j) ++ Nm.bcells [l[j]]) := by
        show _ = _
        unfold Nm.bcells
        rw [List.take_succ_eq_append_getElem hlt, List.map_append]
      have hwc : IntKind.u8.wrap (l[j].toNat : Int) = (l[j].toNat : Int) := by
        unfold IntKind.wrap
        simp [IntKind.bits, IntKind.signed]
        omega
      have HPc := Lib.hid (HP.out l[j])
      have hbl := HZ.out.lt
      clear hat q1 q2 hk hsz hex
      generalize l[j] = cb at *
      generalize Go.Ev.mkS (twoN cb.toNat) = X at *
      go_wp2_with (first
        | (go_at_call 97; refine (HPc.out _ HB.out).mono ?_; rintro e w2 ⟨rfl, hb2⟩; have HB2 := Lib.hid (HB.out.trans (hb2.mono HB.out.size)); have HZ2 := Lib.hid (HZ.out.keeps (Keeps.of_below (S := fun _ => False) hb2) id); have HO2 := Lib.hid (own_kept HO.out hb2); have hbl2 := HZ2.out.lt; clear hb2)
        | (at_builtin; refine wpList_append_any _ rfl (.tmp 44) (.tmp 47) 56 rfl (w.heap.size + 1) 5 i0 (.int .u8 0) 1 1 Tryz.underlying56 HU.out.1 HU.out.2.1 HU.out.2.2.1 HU.out.2.2.2 rfl (by decide) (.slice A j c) j (Nm.bcells (l.take j)) rfl (HO2.out.alloc _) _ (some ⟨w2.heap.size, 0, none⟩) 1 1 (Nm.bcells [cb]) rfl (reads_byte w2 cb) (Nm.bcells_one _) (by unfold maxLen; omega) (by omega) (by simp; omega) ?_; intro v4 w4 hown4 hg4 hor4; obtain ⟨A2, c2, rfl⟩ := own_sh hown4; have HO4 : Hid (w4.ownsRow (w.heap.size + 1) 5 1 (.slice A2 (j + 1) c2) (j + 1) (Nm.bcells (l.take (j + 1)))) := (by show World.ownsRow _ _ _ _ _ _ _; rw [hbc.out]; exact hown4); have HZ4 := Lib.hid ((HZ2.out.alloc (.cells #[.int .u8 (cb.toNat : Int)] 5)).grown hg4 (fun e => by have := (HO2.out.lt _ e.symm).1; omega)); have HB4 := Lib.hid ((HB2.out.alloc HB2.out.size (.cells #[.int .u8 (cb.toNat : Int)] 5)).grown hg4 (by simp; omega) (fun g e => by have := (HO2.out.lt _ e).1; omega)); clear hown4 hg4 hor4))
      go_roundw
      case rel => exact ⟨A2, c2, j + 1, k + 2, (by show _ = _; have := HK.out; omega), by omega, rfl, by go_num, HO4, HZ4, HB4⟩
      case measure => simp <;> omega
    · obtain rfl : j = l.length := by omega
      have hI : ¬ ((k : Int) + 1 < (S.size : Int)) := by omega
      have hw1 : IntKind.i64.wrap ((k : Int) + 1) = (k : Int) + 1 := IntWalk.i64_in _ (by omega)
      have hodd : bits .and .i64 (S.size : Int) 1 = 0 := by rw [hsz]; exact HOdd.out
      have hcv : (convert 56 9 (.slice A l.length c)).run Tryz.prog wr = .ok (.string ⟨l.toArray⟩) wr := conv_own (by have := HO.out; rwa [List.take_length] at this)
      clear HO HP HOdd HAt HTw HU hk hsz
      go_wp2_with (go_at_call 52; refine (HT.out _).mono ?_; rintro e w7 ⟨rfl, hb7⟩; have HB7 := Lib.hid (HB.out.trans (hb7.mono HB.out.size)); have HV7 := Lib.hid (HZ.out.keeps (Keeps.of_below (S := fun _ => False) hb7) id); clear hb7; have z0 := HV7.out.frozen 0; have z1 := HV7.out.frozen 1; have z2 := HV7.out.frozen 2; have z3 := HV7.out.frozen 3; have v0 := HV7.out.cell 0; have v1 := HV7.out.cell 1; have v2 := HV7.out.cell 2; have v3 := HV7.out.cell 3)
      have HV8 := (((HV7.out.set_ 0 (.int .i64 3)).set_ 1 (.int .i64 0)).set_ 2 (.string ⟨l.toArray⟩)).set_ 3 (.slice none 0 0)
      have HB8 := (((HB7.out.setCell (p := ⟨w.heap.size, 0, none⟩) (Nat.le_refl _) (.int .i64 3)).setCell (p := ⟨w.heap.size, 1, none⟩) (Nat.le_refl _) (.int .i64 0)).setCell (p := ⟨w.heap.size, 2, none⟩) (Nat.le_refl _) (.string ⟨l.toArray⟩)).setCell (p := ⟨w.heap.size, 3, none⟩) (Nat.le_refl _) (.slice none 0 0)
      generalize (((w7.setCell ⟨w.heap.size, 0, none⟩ (.int .i64 3)).setCell ⟨w.heap.size, 1, none⟩ (.int .i64 0)).setCell ⟨w.heap.size, 2, none⟩ (.string ⟨l.toArray⟩)).setCell ⟨w.heap.size, 3, none⟩ (.slice none 0 0) = w8 at *
      have e0 : w8.cell? ⟨w.heap.size, 0, none⟩ = some (.int .i64 3) := HV8.cell 0
      have e1 : w8.cell? ⟨w.heap.size, 1, none⟩ = some (.int .i64 0) := HV8.cell 1
      have e2 : w8.cell? ⟨w.heap.size, 2, none⟩ = some (.string ⟨l.toArray⟩) := HV8.cell 2
      have e3 : w8.cell? ⟨w.heap.size, 3, none⟩ = some (.slice none 0 0) := HV8.cell 3
      refine bodyPost_ret (v := .tuple #[.agg #[.int .i64 3, .int .i64 0, .string ⟨l.toArray⟩, .slice none 0 0], .int .i64 0]) (by simp [results, Tryz.results55, go_sem, e0, e1, e2, e3]) rfl ?_
      exact ⟨rfl, HB8⟩
end Sb
end Go.Proofs.YtgjnmfjiolpikaaGreatDoor
