/- deep: plain kinds; a world that draws: plain words. -/
import Derived.Test.YtopmodahdmnpjaaGreatDoorZNmPQ
import Derived.Deep.QuietTactic
import Derived.Deep.RegionLaw
import Derived.BigQuiet
import Derived.Laws.EntriesVeiled
namespace Go.Proofs.YtopmodahdmnpjaaGreatDoor
open Go.RowKit
namespace Dp
def plainB (k : Int) : Bool := decide (0 ≤ k) && decide (k ≤ 3)
theorem drewN' {B : Nat} {w w' : World} (h : Below B w w') (n : Nat) : Below B w (w'.drewN n) := ⟨h.os, h.tape, h.output, h.size, h.block⟩
end Dp
end Go.Proofs.YtopmodahdmnpjaaGreatDoor
/- deep: few items: the walk. -/
namespace Go.Proofs.YtopmodahdmnpjaaGreatDoor
open Go.RowKit
namespace Dp
theorem vagg {w : World} {B : Nat} {g : GV} {x : Value} (h : VAt w B g x) : ∃ (k n : Int) (t : ByteArray) (A : Option Addr) (l c : Nat), x = .agg #[.int .i64 k, .int .i64 n, .string t, .slice A l c] := by
  cases h
  exact ⟨_, _, _, _, _, _, rfl⟩
/-- Few enough items. -/
def fewB (g : GV) : Bool := decide (0 ≤ leftV g 2048)
def sameB (g g' : GV) : Bool := fewB g && (fewB g' && alikeV g g')
theorem few_no {g : GV} (h : ¬ 0 ≤ leftV g 2048) : fewB g = false := decide_eq_false h
theorem few_yes {g : GV} (h : 0 ≤ leftV g 2048) : fewB g = true := decide_eq_true h
section
variable {w : World} {B : Nat}
set_option maxRecDepth 100000 in
theorem few_any (hBw : B ≤ w.heap.size) {g : GV} {x : Value} (h : VAt w B g x) (w' : World) (hb : Below B w w') :
    Calls Tryz.prog 16 #[x] w' fun e w'' => e = .returned (.bool (fewB g)) ∧ Below w'.heap.size w' w'' := by
  obtain ⟨k, n, t, A, l, c, rfl⟩ := vagg h
  have HL := Lib.hid (rleft_any hBw h (w'.alloc (.cells #[.int .i64 k, .int .i64 n, .string t, .slice A l c] 24)) (hb.alloc (Nat.le_trans hBw hb.size) _) 2048 (by omega) (by omega))
  have HB0 := Lib.hid ((Below.refl w'.heap.size w').alloc (Nat.le_refl _) (.cells #[.int .i64 k, .int .i64 n, .string t, .slice A l c] 24))
  unfold fewB
  clear h hb
  generalize leftV g 2048 = m at *
  go_enter Tryz.func16, Tryz.ntmps16
  go_wp2_with (go_at_call 80; refine (HL.out).mono ?_; rintro e w2 ⟨rfl, hle, hb2⟩)
  go_ret
  exact ⟨rfl, HB0.out.trans (hb2.mono HB0.out.size)⟩
end
end Dp
end Go.Proofs.YtopmodahdmnpjaaGreatDoor
/- deep: how many items are left: the walk of the program's. -/
namespace Go.Proofs.YtopmodahdmnpjaaGreatDoor
open Go.RowKit
namespace Dp
section
variable {w : World} {B : Nat}
set_option maxRecDepth 100000 in
set_option maxHeartbeats 4000000 in
theorem left_any (hBw : B ≤ w.heap.size) {g : GV} {x : Value} (h : VAt w B g x) : ∀ (w' : World), Below B w w' → ∀ m : Int, 0 ≤ m → m ≤ 2048 →
    Calls Tryz.prog 78 #[x, .int .i64 m] w' fun e w'' => e = .returned (.int .i64 (leftV g m)) ∧ leftV g m ≤ m ∧ Below w'.heap.size w' w'' := by
  induction h with
  | mk k n t l A c b off C hc hn hA hi hv ih =>
    intro w' hb m hm0 hm1
    have hB' : B ≤ w'.heap.size := Nat.le_trans hBw hb.size
    have HA := Lib.hid hA
    have HI := Lib.hid hi
    have HV := Lib.hid ih
    have HW := Lib.hid hv
    have Hb := Lib.hid hb
    have HB0 := Lib.hid ((Below.refl w'.heap.size w').alloc (Nat.le_refl _) (.cells #[.int .i64 k, .int .i64 n, .string t, .slice A l.length c] 24))
    obtain ⟨M, HM⟩ : ∃ z, Hid (leftV (.mk k n t l) m = z) := ⟨_, rfl⟩
    have HM0 : Hid (M = leftL l (m - l.length)) := by
      show _ = _
      rw [← HM.out, leftV]
    rw [HM.out]
    clear hA hi hv ih hb HM
    go_enter Tryz.func78, Tryz.ntmps78
    go_wp2_with fail
    go_loopw [1, 15] (fun xn xi wx => ∃ (j : Nat) (q : Int), j ≤ l.length ∧ xi = .int .i64 j ∧ xn = .int .i64 q ∧ q ≤ m ∧ Hid (M = leftL (l.drop j) q) ∧ Hid (Below w'.heap.size w' wx)) (fun _ xi _ => l.length - (ixOf xi).toNat)
    case atStart => exact ⟨0, m - l.length, Nat.zero_le _, rfl, by go_num, by omega, by simpa using HM0, HB0⟩
    case round =>
      obtain ⟨j, q, hj, rfl, rfl, hq1, HL, HB⟩ := hrel
      clear HB0 HM0
      by_cases hlt : j < l.length
      · obtain ⟨it, hit⟩ : ∃ it, l[j]? = some it := ⟨_, List.getElem?_eq_getElem hlt⟩
        obtain ⟨rfl, hbB⟩ := HA.out (by omega)
        have hbw : Below B w wr := Hb.out.trans (HB.out.mono hB')
        have hwr := HB.out.size
        obtain ⟨c0, c1, c2, v0, v1, v2, v3, e, c3, c4, c5, c6⟩ := (HI.out j it hit).below hbw hbB
        have hform := HW.out j it hit
        rw [e] at hform
        obtain ⟨k1, n1, t1, A1, l1, e1, rfl, rfl, rfl, rfl⟩ := hform.form
        clear hform HW
        have HD := Lib.hid (HL.out.trans (leftL_drop l j it hit q))
        by_cases hq : q < 0
        · have hM : M = q := by rw [HD.out, if_pos hq]
          subst hM
          clear HI HV HL HD e
          go_wp2_with fail
          go_ret
          first | exact ⟨rfl, hq1, HB.out.alloc HB.out.size _⟩ | exact ⟨rfl, HB.out.alloc HB.out.size _⟩
        · have hR := fun wz (hz : Below B w wz) => HV.out j it hit wz hz q (by omega) (by omega)
          rw [e] at hR
          have HR := Lib.hid hR
          have HD2 := Lib.hid (HD.out.trans (if_neg hq))
          have Hbw := Lib.hid (hbw.alloc (by omega) (.cells #[.bool it.isText, .int .i64 it.int, .string it.text, .int .i64 k1, .int .i64 n1, .string t1, .slice A1 l1 e1] 34))
          have HBa := Lib.hid (HB.out.alloc HB.out.size (.cells #[.bool it.isText, .int .i64 it.int, .string it.text, .int .i64 k1, .int .i64 n1, .string t1, .slice A1 l1 e1] 34))
          generalize leftV it.val q = q2 at *
          clear hR HI HV HL HD e hbw HB
          go_wp2_with (go_at_call 78; refine (HR.out _ Hbw.out).mono ?_; rintro e w2 ⟨rfl, hle, hb2⟩; have HB2 := Lib.hid (HBa.out.trans (hb2.mono HBa.out.size)); clear hb2)
          go_roundw
          case rel => exact ⟨j + 1, q2, by omega, by go_num, rfl, by omega, HD2, HB2⟩
          case measure => simp [ixOf] <;> omega
      · obtain rfl : j = l.length := by omega
        have hM : M = q := by rw [HL.out, List.drop_length, leftL]
        subst hM
        clear HI HV HL HA
        go_wp2_with fail
        go_ret
        first | exact ⟨rfl, hq1, HB.out⟩ | exact ⟨rfl, HB.out⟩
end
end Dp
end Go.Proofs.YtopmodahdmnpjaaGreatDoor
