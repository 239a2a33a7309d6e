/- The contract of disk.New. -/
import Derived.Test.YtbiclpkoocjjfaaDoorDiskD
namespace Go.Proofs.YtbiclpkoocjjfaaDoor
open Go.RowKit Go.Maps

/-- One file more: the error, the files, the writes. -/
def newStep (s : Int × DataW Unit × Int) (f : ByteArray × ByteArray) : Int × DataW Unit × Int :=
  if s.1 = 0 then (writeI s.2.1 f.1 f.2, writeF s.2.1 f.1 f.2 s.2.2, writeW s.2.1 f.1 f.2 s.2.2) else s
def newAll (fs : List (ByteArray × ByteArray)) : Int × DataW Unit × Int := fs.foldl newStep (0, .map [], 0)
theorem newAll_succ (fs : List (ByteArray × ByteArray)) (k : Nat) (f : ByteArray × ByteArray) (h : fs[k]? = some f) : newAll (fs.take (k + 1)) = newStep (newAll (fs.take k)) f := by
  unfold newAll
  rw [List.take_add_one, h]
  simp
theorem foldl_stop (fs : List (ByteArray × ByteArray)) (s : Int × DataW Unit × Int) (h : s.1 ≠ 0) : fs.foldl newStep s = s := by
  induction fs with
  | nil => rfl
  | cons f r ih => rw [List.foldl_cons, show newStep s f = s from if_neg h]; exact ih
theorem newAll_stop (fs : List (ByteArray × ByteArray)) (k : Nat) (h : (newAll (fs.take k)).1 ≠ 0) : newAll fs = newAll (fs.take k) := by
  conv => lhs; rw [← List.take_append_drop k fs]
  unfold newAll at *
  rw [List.foldl_append]
  exact foldl_stop _ _ h
theorem newAll_w (fs : List (ByteArray × ByteArray)) : 0 ≤ (newAll fs).2.2 ∧ (newAll fs).2.2 ≤ fs.length := by
  suffices h : ∀ (l : List (ByteArray × ByteArray)) (s : Int × DataW Unit × Int), 0 ≤ s.2.2 → 0 ≤ (l.foldl newStep s).2.2 ∧ (l.foldl newStep s).2.2 ≤ s.2.2 + l.length by
    have := h fs (0, .map [], 0) (Int.le_refl _)
    simpa [newAll] using this
  intro l
  induction l with
  | nil => intro s hs; exact ⟨hs, by simp⟩
  | cons f r ih =>
    intro s hs
    have hb : s.2.2 ≤ (newStep s f).2.2 ∧ (newStep s f).2.2 ≤ s.2.2 + 1 := by
      unfold newStep
      split
      · show s.2.2 ≤ writeW _ _ _ _ ∧ writeW _ _ _ _ ≤ _
        unfold writeW; split <;> omega
      · omega
    have := ih (newStep s f) (by omega)
    rw [List.foldl_cons, List.length_cons]
    omega

/-- A slice of files. -/
def FilesAt (w : World) (B : Nat) (A : Option Addr) (fs : List (ByteArray × ByteArray)) : Prop :=
  0 < fs.length → ∃ b off, A = some ⟨b, off, none⟩ ∧ b < B ∧ ∀ k, k < fs.length → w.cell? ⟨b, off + k * 2, none⟩ = some (.string (fs.getD k default).1) ∧ w.cell? ⟨b, off + k * 2 + 1, none⟩ = some (.string (fs.getD k default).2)

def NewPost (w : World) (fs : List (ByteArray × ByteArray)) (e : Ending) (w' : World) : Prop :=
  e = .returned (.tuple #[if (newAll fs).1 = 0 then .pointer (some ⟨w.heap.size + 1 + 1, 0, none⟩) else .pointer none, .int .i64 (newAll fs).1]) ∧
  ((newAll fs).1 = 0 → DiskAt w' (w.heap.size + 1 + 1) w.heap.size (w.heap.size + 1) fs.length (newAll fs).2.1 (.map []) (newAll fs).2.2 0) ∧ Below w.heap.size w w'
def NewInv (w : World) (fs : List (ByteArray × ByteArray)) (k : Nat) (wr : World) : Prop :=
  (newAll (fs.take k)).1 = 0 ∧ DiskAt wr (w.heap.size + 1 + 1) w.heap.size (w.heap.size + 1) k (newAll (fs.take k)).2.1 (.map []) (newAll (fs.take k)).2.2 0 ∧ Below w.heap.size w wr

theorem disk_made (w : World) : DiskAt (((w.alloc (.map #[] 0)).alloc (.map #[] 0)).alloc (.cells #[.map (some w.heap.size), .map (some (w.heap.size + 1)), .int .i64 0, .int .i64 0] 61)) (w.heap.size + 1 + 1) w.heap.size (w.heap.size + 1) 0 (.map []) (.map []) 0 0 := by
  refine ⟨?_, ?_, ?_, by omega, by omega, by omega⟩
  · have := Blk.new ((w.alloc (.map #[] 0)).alloc (.map #[] 0)) 61 #[.map (some w.heap.size), .map (some (w.heap.size + 1)), .int .i64 0, .int .i64 0]
    simpa using this
  · exact ((World.ownsMap_made w _ _ _).alloc _).alloc _
  · have := (World.ownsMap_made (w.alloc (.map #[] 0)) Tryd.prog 9 (plainElem (H := Unit) Tryd.prog 3)).alloc (.cells #[.map (some w.heap.size), .map (some (w.heap.size + 1)), .int .i64 0, .int .i64 0] 61)
    simpa using this

set_option maxRecDepth 100000 in
set_option maxHeartbeats 1000000 in
theorem new_any (A : Option Addr) (c : Nat) (fs : List (ByteArray × ByteArray)) (w : World) (m : Int) (hg : 0 < w.heap.size) (hm : w.cell? ⟨0, 0, none⟩ = some (.int .i64 m)) (hA : FilesAt w w.heap.size A fs) (hn : fs.length ≤ 1152921504606846976)
    (hsz : ∀ k, (fs.getD k default).1.size ≤ maxLen ∧ (fs.getD k default).2.size ≤ maxLen) :
    Calls Tryd.prog 9 #[.slice A fs.length c] w (NewPost w fs) := by
  have hmm := @run_makeMap Tryd.prog
  have HA := Lib.hid hA; clear hA
  have Hsz := Lib.hid hsz; clear hsz
  have h0 := disk_made w
  have hb0 : Below w.heap.size w (((w.alloc (.map #[] 0)).alloc (.map #[] 0)).alloc (.cells #[.map (some w.heap.size), .map (some (w.heap.size + 1)), .int .i64 0, .int .i64 0] 61)) :=
    (((Below.refl _ _).alloc (Nat.le_refl _) _).alloc (by simp) _).alloc (by simp; omega) _
  go_enter Tryd.func9, Tryd.ntmps9
  go_wp2_with fail
  go_loopw [14] (fun i wr => ∃ k : Nat, k ≤ fs.length ∧ i = .int .i64 k ∧ NewInv w fs k wr) (fun i _ => fs.length - (intOf i).toNat)
  case atStart => exact ⟨0, Nat.zero_le _, rfl, rfl, h0, hb0⟩
  case round =>
    clear h0 hb0
    obtain ⟨k, hk, rfl, hinv⟩ := hrel
    by_cases hlt : k < fs.length
    · obtain ⟨b, off, rfl, hb, hc⟩ := HA.out (by omega)
      obtain ⟨hc1, hc2⟩ := hc k hlt
      obtain ⟨he, hd, hbl⟩ := hinv
      have hk1 : wr.cell? ⟨b, off + k * 2, none⟩ = some (.string (fs.getD k default).1) := (hbl.cell (p := ⟨b, off + k * 2, none⟩) hb).trans hc1
      have hk2 : wr.cell? ⟨b, off + k * 2 + 1, none⟩ = some (.string (fs.getD k default).2) := (hbl.cell (p := ⟨b, off + k * 2 + 1, none⟩) hb).trans hc2
      have hm1 : ∀ o, (wr.alloc o).cell? ⟨0, 0, none⟩ = some (.int .i64 m) := fun o => (((hbl.alloc (o := o) hbl.size).cell (p := ⟨0, 0, none⟩) hg)).trans hm
      obtain ⟨hs1, hs2⟩ := Hsz.out k
      have hst := newAll_succ fs k (fs.getD k default) (by simp [hlt])
      have hw := newAll_w (fs.take k)
      have hl : (fs.take k).length ≤ k := List.length_take_le _ _
      clear hc hc1 hc2 hb hm HA Hsz
      generalize fs.getD k default = f at *
      obtain ⟨p, x⟩ := f
      have Hst := Lib.hid hst; clear hst
      have He := Lib.hid he; clear he
      have Hm1 := Lib.hid hm1; clear hm1
      go_wp2_with fail
      refine (write_all (F := (newAll (fs.take k)).2.1) (wr := (newAll (fs.take k)).2.2) p hs1 m (wr.alloc (.cells #[.string p, .string x] 53)) (Hm1.out _) (hd.alloc _) x hs2 hw.1 (by omega) (by unfold maxLen; omega)).mono ?_
      rintro e w2 ⟨rfl, hd2, hk2⟩
      have hbl2 : Below w.heap.size w w2 := (hbl.alloc (o := .cells #[.string p, .string x] 53) hbl.size).trans (hk2.below (by have := hbl.size; simp; omega) (fun i hi => by rcases hi with rfl | rfl | rfl <;> omega))
      have hE : newAll (fs.take (k + 1)) = (writeI (newAll (fs.take k)).2.1 p x, writeF (newAll (fs.take k)).2.1 p x (newAll (fs.take k)).2.2, writeW (newAll (fs.take k)).2.1 p x (newAll (fs.take k)).2.2) := by
        rw [Hst.out]; exact if_pos He.out
      rw [show writeF (newAll (fs.take k)).2.1 p x (newAll (fs.take k)).2.2 = (newAll (fs.take (k + 1))).2.1 from by rw [hE], show writeW (newAll (fs.take k)).2.1 p x (newAll (fs.take k)).2.2 = (newAll (fs.take (k + 1))).2.2 from by rw [hE]] at hd2
      have hE1 : writeI (newAll (fs.take k)).2.1 p x = (newAll (fs.take (k + 1))).1 := by rw [hE]
      rw [hE1]
      clear hE hE1 Hst He Hm1 hbl hd
      have Hd2 := Lib.hid hd2
      have Hb2 := Lib.hid hbl2
      clear hk2 hd2 hbl2 hw hl hs1 hs2
      by_cases hz : (newAll (fs.take (k + 1))).1 = 0
      · have Hz := Lib.hid hz
        generalize (newAll (fs.take (k + 1))).1 = q at hz ⊢
        subst hz
        go_wp2_with fail
        go_roundw
        case rel => exact ⟨k + 1, by omega, by go_num, Hz.out, Hd2.out, Hb2.out⟩
        case measure => simp [intOf]; omega
      · have hq : (newAll fs).1 = (newAll (fs.take (k + 1))).1 := by rw [newAll_stop fs (k + 1) hz]
        have hfin : NewPost w fs (.returned (.tuple #[.pointer none, .int .i64 (newAll (fs.take (k + 1))).1])) w2 := by
          refine ⟨by rw [if_neg (by rw [hq]; exact hz), hq], fun h => absurd (hq.symm.trans h) hz, Hb2.out⟩
        have Hfin := Lib.hid hfin; clear hfin hq Hd2 Hb2
        generalize (newAll (fs.take (k + 1))).1 = q at *
        have hz' : (q != 0) = true := by simpa using hz
        clear hz
        go_wp2_with fail
        go_ret2
        exact Hfin.out
    · obtain ⟨he, hd, hbl⟩ := hinv
      obtain rfl : k = fs.length := by omega
      rw [List.take_length] at he hd
      have hfin : NewPost w fs (.returned (.tuple #[.pointer (some ⟨w.heap.size + 1 + 1, 0, none⟩), .int .i64 0])) wr := ⟨by rw [if_pos he, he], fun _ => hd, hbl⟩
      have Hfin := Lib.hid hfin; clear hfin he hd hbl
      go_wp2_with fail
      go_ret2
      exact Hfin.out
end Go.Proofs.YtbiclpkoocjjfaaDoor
