/- ostlerref07.Find: the place of a key among items: the walk. -/
import Derived.Test.YtgjnmfjiolpikaaGreatDoorMyAa
import Derived.Test.YtgjnmfjiolpikaaGreatDoorDpCa
import Derived.Still
import Derived.StillTactics
import Derived.StillTail
import Derived.BigQuiet
namespace Go.Proofs.YtgjnmfjiolpikaaGreatDoor
open Go Go.RowKit
namespace Dp
theorem keysOf_get (l : List GI) (n j : Nat) (it : GI) (h : l[j]? = some it) (hn : j < n) : (keysOf l n)[j]? = some (GI.keyG it) := by
  unfold keysOf
  rw [List.getElem?_map, List.getElem?_take_of_lt hn, h]
  rfl
theorem keysOf_len (l : List GI) (n : Nat) (hn : n ≤ l.length) : (keysOf l n).length = n := by
  unfold keysOf
  rw [List.length_map, List.length_take]
  omega
theorem findK_drop (l : List GI) (n j : Nat) (it : GI) (h : l[j]? = some it) (hn : j < n) (k : Bool × Int × ByteArray) : findK ((keysOf l n).drop j) k (j : Int) = if GI.keyG it = k then (j : Int) else findK ((keysOf l n).drop (j + 1)) k ((j + 1 : Nat) : Int) := by
  obtain ⟨hj, e⟩ := List.getElem?_eq_some_iff.1 (keysOf_get l n j it h hn)
  rw [List.drop_eq_getElem_cons hj, e, findK]
  rfl
theorem toListInj {a b : ByteArray} (h : a.toList = b.toList) : a = b := by
  rw [ByteArray.toList_eq, ByteArray.toList_eq] at h
  exact ByteArray.ext (Array.toList_inj.mp h)
section
variable {w : World} {B : Nat}
set_option maxRecDepth 100000 in
set_option maxHeartbeats 4000000 in
theorem rfind_any (hBw : B ≤ w.heap.size) {l : List GI} {A : Option Addr} {b off : Nat} {C : Nat → Value} (hA : 0 < l.length → A = some ⟨b, off, none⟩ ∧ b < B) (hi : ∀ i it, l[i]? = some it → ItemAt w b (off + i * 7) it (C i)) (n c : Nat) (hn : n ≤ l.length) (hc : n ≤ c) (h64 : l.length ≤ 9223372036854775807) (kb : Bool) (ki : Int) (ks : ByteArray) (w' : World) (hb : Below B w w') :
    Calls Tryz.prog 75 #[.slice A n c, .agg #[.bool kb, .int .i64 ki, .string ks]] w' fun e w'' => e = .returned (.int .i64 (findK (keysOf l n) (kb, ki, ks) 0)) ∧ Below w'.heap.size w' w'' := by
  have hB' : B ≤ w'.heap.size := Nat.le_trans hBw hb.size
  have HA := Lib.hid hA
  have HI := Lib.hid hi
  have Hb := Lib.hid hb
  have HB0 := Lib.hid ((Below.refl w'.heap.size w').alloc (Nat.le_refl _) (.cells #[.bool kb, .int .i64 ki, .string ks] 44))
  have HX0 := Lib.hid (Blk.new w' 44 #[.bool kb, .int .i64 ki, .string ks])
  obtain ⟨M, HM⟩ : ∃ z, Hid (findK (keysOf l n) (kb, ki, ks) 0 = z) := ⟨_, rfl⟩
  have HM0 : Hid (M = findK ((keysOf l n).drop 0) (kb, ki, ks) ((0 : Nat) : Int)) := by
    show _ = _
    rw [← HM.out]
    rfl
  have HE := Lib.hid (show findK ((keysOf l n).drop n) (kb, ki, ks) (n : Int) = -1 by rw [List.drop_eq_nil_of_le (by rw [keysOf_len l n hn]; exact Nat.le_refl _), findK])
  have HD := Lib.hid (fun j it h hn => findK_drop l n j it h hn (kb, ki, ks))
  rw [HM.out]
  clear hA hi hb HM
  go_enter Tryz.func75, Tryz.ntmps75
  go_wp2_with fail
  go_loopw [5] (fun xi wx => ∃ (j : Nat), j ≤ n ∧ xi = .int .i64 j ∧ Hid (M = findK ((keysOf l n).drop j) (kb, ki, ks) (j : Int)) ∧ Hid (Below w'.heap.size w' wx) ∧ Hid (Blk wx w'.heap.size 44 #[.bool kb, .int .i64 ki, .string ks])) (fun xi _ => n - (ixOf xi).toNat)
  case atStart => exact ⟨0, Nat.zero_le _, rfl, HM0, HB0, HX0⟩
  case round =>
    obtain ⟨j, hj, rfl, HL, HB, HX⟩ := hrel
    clear HB0 HM0 HX0
    by_cases hlt : j < n
    · obtain ⟨it, hit⟩ : ∃ it, l[j]? = some it := ⟨_, List.getElem?_eq_getElem (by omega)⟩
      obtain ⟨rfl, hbB⟩ := HA.out (by omega)
      have hbw : Below B w wr := Hb.out.trans (HB.out.mono hB')
      have hwr := HB.out.size
      obtain ⟨c0, c1, c2, -⟩ := (HI.out j it hit).below hbw hbB
      have b0 := HX.out.cell 0
      have b1 := HX.out.cell 1
      have b2 := HX.out.cell 2
      have HL2 := Lib.hid (HL.out.trans (HD.out j it hit hlt))
      have HK := Lib.hid (keyG_eq it)
      clear HL HI HA HD HE hbw
      by_cases hk : GI.keyG it = (kb, ki, ks)
      · have hM : M = (j : Int) := HL2.out.trans (if_pos hk)
        subst hM
        have hk2 := HK.out.symm.trans hk
        obtain ⟨h1, h23⟩ := Prod.mk.inj hk2
        obtain ⟨h2, h3⟩ := Prod.mk.inj h23
        rw [h1] at c0
        rw [h2] at c1
        rw [h3] at c2
        clear HL2 HK hk hk2 h1 h23 h2 h3
        go_wp2_with fail
        go_quiet (fail)
        go_wp2_with fail
        go_ret
        exact ⟨rfl, drewN' HB.out _⟩
      · have HL3 := Lib.hid (HL2.out.trans (if_neg hk))
        have HB3 := Lib.hid (fun k => drewN' HB.out k)
        have HX3 := Lib.hid (fun k => blk_below HX.out (drewN' (Below.refl _ _) k))
        by_cases h1 : it.isText = kb
        · rw [h1] at c0
          by_cases h2 : it.int = ki
          · rw [h2] at c1
            have h3 : it.text ≠ ks := fun h3 => hk (HK.out.trans (by rw [h1, h2, h3]))
            have b3 : (it.text.toList == ks.toList) = false := by
              simp only [beq_eq_false_iff_ne, ne_eq]
              exact fun h => h3 (toListInj h)
            clear h1 h2 h3 hk HL2 HK
            go_wp2_with fail
            go_quiet (fail)
            go_wp2_with fail
            go_roundw
            case rel => exact ⟨j + 1, by omega, by go_num, HL3, HB3.out _, HX3.out _⟩
            case measure => simp [ixOf] <;> omega
          · have b3 : (it.int == ki) = false := by simpa using h2
            clear h1 h2 hk HL2 HK
            go_wp2_with fail
            go_quiet (fail)
            go_wp2_with fail
            go_roundw
            case rel => exact ⟨j + 1, by omega, by go_num, HL3, HB3.out _, HX3.out _⟩
            case measure => simp [ixOf] <;> omega
        · have b3 : (it.isText == kb) = false := by simpa using h1
          clear h1 hk HL2 HK
          go_wp2_with fail
          go_quiet (fail)
          go_wp2_with fail
          go_roundw
          case rel => exact ⟨j + 1, by omega, by go_num, HL3, HB3.out _, HX3.out _⟩
          case measure => simp [ixOf] <;> omega
    · obtain rfl : j = n := by omega
      have hM : M = -1 := HL.out.trans HE.out
      subst hM
      clear HI HA HD
      go_wp2_with fail
      go_ret
      exact ⟨rfl, HB.out⟩
end
end Dp
end Go.Proofs.YtgjnmfjiolpikaaGreatDoor
