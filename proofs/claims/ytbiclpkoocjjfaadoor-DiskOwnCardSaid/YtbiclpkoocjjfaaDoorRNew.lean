/- The reference's New: its walk; and the two New's tell the same. -/
import Derived.Test.YtbiclpkoocjjfaaDoorFilesS
import Derived.Test.YtbiclpkoocjjfaaDoorDiskE
import Derived.Test.YtbiclpkoocjjfaaDoorDiskU
import Derived.Deep.RegionHeld3
namespace Go.Proofs.YtbiclpkoocjjfaaDoor
open Go.RowKit Go.Maps

def rnewStep (s : Int × List Ent × Int) (f : ByteArray × ByteArray) : Int × List Ent × Int :=
  if s.1 = 0 then (rwriteI s.2.1 f.1 f.2, rwriteL s.2.1 f.1 f.2 s.2.2, rwriteW s.2.1 f.1 f.2 s.2.2) else s
def rnewAll (fs : List (ByteArray × ByteArray)) : Int × List Ent × Int := fs.foldl rnewStep (0, [], 0)
theorem rnewAll_succ (fs : List (ByteArray × ByteArray)) (k : Nat) (f : ByteArray × ByteArray) (h : fs[k]? = some f) : rnewAll (fs.take (k + 1)) = rnewStep (rnewAll (fs.take k)) f := by
  unfold rnewAll
  rw [List.take_add_one, h]
  simp
theorem rfoldl_stop (fs : List (ByteArray × ByteArray)) (s : Int × List Ent × Int) (h : s.1 ≠ 0) : fs.foldl rnewStep s = s := by
  induction fs with
  | nil => rfl
  | cons f r ih => rw [List.foldl_cons, show rnewStep s f = s from if_neg h]; exact ih
theorem rnewAll_stop (fs : List (ByteArray × ByteArray)) (k : Nat) (h : (rnewAll (fs.take k)).1 ≠ 0) : rnewAll fs = rnewAll (fs.take k) := by
  conv => lhs; rw [← List.take_append_drop k fs]
  unfold rnewAll at *
  rw [List.foldl_append]
  exact rfoldl_stop _ _ h
theorem sim_start : Sim (.map []) (.map []) 0 0 [] 0 0 :=
  ⟨rfl, rfl, Int.le_refl _, List.Pairwise.nil, fun _ h => (by cases h), tidy_empty, fun p => rfl, fun p h => absurd h (Int.lt_irrefl 0), fun p => rfl, rfl⟩
theorem writeF_size {F : DataW Unit} (hT : Tidy F) (h : Maps.size F ≤ 256) (p x : ByteArray) (W : Int) : Maps.size (writeF F p x W) ≤ 256 := by
  unfold writeF
  split
  · rename_i h0
    rw [size_put hT]
    split
    · exact h
    · rename_i hh
      unfold writeI at h0
      split at h0
      · cases h0
      · split at h0
        · cases h0
        · split at h0
          · cases h0
          · rename_i h3
            have : Maps.has F (key p) = false := by simpa using hh
            rw [this] at h3
            simp at h3
            omega
  · exact h
theorem removeF_size {F : DataW Unit} (hT : Tidy F) (h : Maps.size F ≤ 256) (p : ByteArray) : Maps.size (removeF F p) ≤ 256 := by
  unfold removeF
  split
  · have := size_del (k := key p) hT; omega
  · exact h
theorem new_sim (fs : List (ByteArray × ByteArray)) : (newAll fs).1 = (rnewAll fs).1 ∧ Sim (newAll fs).2.1 (.map []) (newAll fs).2.2 0 (rnewAll fs).2.1 (rnewAll fs).2.2 0 ∧ Maps.size (newAll fs).2.1 ≤ 256 := by
  suffices h : ∀ (l : List (ByteArray × ByteArray)) (s : Int × DataW Unit × Int) (r : Int × List Ent × Int), s.1 = r.1 → Sim s.2.1 (.map []) s.2.2 0 r.2.1 r.2.2 0 → Maps.size s.2.1 ≤ 256 →
      (l.foldl newStep s).1 = (l.foldl rnewStep r).1 ∧ Sim (l.foldl newStep s).2.1 (.map []) (l.foldl newStep s).2.2 0 (l.foldl rnewStep r).2.1 (l.foldl rnewStep r).2.2 0 ∧ Maps.size (l.foldl newStep s).2.1 ≤ 256 from
    h fs (0, .map [], 0) (0, [], 0) rfl sim_start (Nat.zero_le _)
  intro l
  induction l with
  | nil => intro s r h1 h2 h3; exact ⟨h1, h2, h3⟩
  | cons f l ih =>
    intro s r h1 h2 h3
    rw [List.foldl_cons, List.foldl_cons]
    by_cases h0 : s.1 = 0
    · have e1 : newStep s f = (writeI s.2.1 f.1 f.2, writeF s.2.1 f.1 f.2 s.2.2, writeW s.2.1 f.1 f.2 s.2.2) := if_pos h0
      have e2 : rnewStep r f = (rwriteI r.2.1 f.1 f.2, rwriteL r.2.1 f.1 f.2 r.2.2, rwriteW r.2.1 f.1 f.2 r.2.2) := if_pos (h1 ▸ h0)
      rw [e1, e2]
      exact ih _ _ (h2.writeI f.1 f.2) (h2.write f.1 f.2) (writeF_size h2.tF h3 _ _ _)
    · rw [show newStep s f = s from if_neg h0, show rnewStep r f = r from if_neg (h1 ▸ h0)]
      exact ih s r h1 h2 h3
theorem rwriteL_len (L : List Ent) (p x : ByteArray) (W : Int) : (rwriteL L p x W).length ≤ L.length + 1 := by
  have := atL_len L p
  unfold rwriteL
  split
  · omega
  · split
    · omega
    · split
      · rw [List.length_set]; exact this
      · exact this
theorem rnewAll_len (fs : List (ByteArray × ByteArray)) : (rnewAll fs).2.1.length ≤ fs.length ∧ 0 ≤ (rnewAll fs).2.2 ∧ (rnewAll fs).2.2 ≤ fs.length := by
  suffices h : ∀ (l : List (ByteArray × ByteArray)) (r : Int × List Ent × Int), 0 ≤ r.2.2 → (l.foldl rnewStep r).2.1.length ≤ r.2.1.length + l.length ∧ 0 ≤ (l.foldl rnewStep r).2.2 ∧ (l.foldl rnewStep r).2.2 ≤ r.2.2 + l.length by
    have := h fs (0, [], 0) (Int.le_refl _)
    simpa [rnewAll] using this
  intro l
  induction l with
  | nil => intro r h; exact ⟨by simp, h, by simp⟩
  | cons f l ih =>
    intro r h
    have hb : (rnewStep r f).2.1.length ≤ r.2.1.length + 1 ∧ r.2.2 ≤ (rnewStep r f).2.2 ∧ (rnewStep r f).2.2 ≤ r.2.2 + 1 := by
      unfold rnewStep
      split
      · refine ⟨rwriteL_len _ _ _ _, ?_, ?_⟩
        · show r.2.2 ≤ rwriteW _ _ _ _
          unfold rwriteW; split <;> omega
        · show rwriteW _ _ _ _ ≤ _
          unfold rwriteW; split <;> omega
      · exact ⟨by omega, by omega, by omega⟩
    have := ih (rnewStep r f) (by omega)
    rw [List.foldl_cons, List.length_cons]
    omega

theorem manyL_all (L : List Ent) (h : ∀ e ∈ L, 0 < e.stamp) : manyL L = L.length := by
  unfold manyL
  rw [List.filter_eq_self.2 (fun e he => by simpa using h e he)]
/-- Written with no error: as many entries as files. -/
theorem rwrite_ents (L : List Ent) (p x : ByteArray) (W : Int) (hW : 0 ≤ W) (hl : L.length ≤ 256) (hs : ∀ e ∈ L, 0 < e.stamp) (h0 : rwriteI L p x = 0) :
    (rwriteL L p x W).length ≤ 256 ∧ ∀ e ∈ rwriteL L p x W, 0 < e.stamp := by
  have hI := h0
  unfold rwriteI at hI
  have e : rwriteL L p x W = (atL L p).set (findE L p) { entOf L p with text := x, stamp := W + 1 } := by
    unfold rwriteL
    split
    · rename_i h; rw [if_pos h] at hI; cases hI
    · split
      · rename_i h1 h; rw [if_neg h1, if_pos h] at hI; cases hI
      · first | (rw [if_pos h0]; done) | rfl
  rw [e]
  by_cases hf : findE L p < L.length
  · have ha : atL L p = L := if_pos hf
    rw [ha]
    refine ⟨by rw [List.length_set]; exact hl, fun y hy => ?_⟩
    rcases List.mem_or_eq_of_mem_set hy with h | rfl
    · exact hs y h
    · show 0 < W + 1; omega
  · have ha : atL L p = L ++ [⟨p, ⟨#[]⟩, 0, 0⟩] := if_neg hf
    have hfl : findE L p = L.length := by
      have := find_lt L p
      rw [ha] at this
      simp at this
      omega
    have he : (entOf L p).stamp = 0 := by
      unfold entOf
      rw [ha, hfl]
      simp
    have hm : manyL (atL L p) = L.length := by
      rw [ha, show manyL (L ++ [⟨p, ⟨#[]⟩, 0, 0⟩]) = manyL L by unfold manyL; simp [List.filter_append]]
      exact manyL_all L hs
    have hlt : L.length < 256 := by
      split at hI
      · cases hI
      · split at hI
        · cases hI
        · split at hI
          · cases hI
          · rename_i h3
            rw [hm] at h3
            have : ¬ 256 ≤ L.length := fun h => h3 ⟨he, h⟩
            omega
    rw [ha]
    refine ⟨by simp; omega, fun y hy => ?_⟩
    rw [hfl, List.set_append_right _ _ (Nat.le_refl _), Nat.sub_self, List.set_cons_zero] at hy
    rcases List.mem_append.1 hy with h | h
    · exact hs y h
    · obtain rfl := List.mem_singleton.1 h
      show 0 < W + 1; omega
theorem rnewAll_ents (fs : List (ByteArray × ByteArray)) (h0 : (rnewAll fs).1 = 0) : (rnewAll fs).2.1.length ≤ 256 := by
  suffices h : ∀ (l : List (ByteArray × ByteArray)) (r : Int × List Ent × Int), 0 ≤ r.2.2 → (r.1 = 0 → r.2.1.length ≤ 256 ∧ ∀ e ∈ r.2.1, 0 < e.stamp) → ((l.foldl rnewStep r).1 = 0 → (l.foldl rnewStep r).2.1.length ≤ 256 ∧ ∀ e ∈ (l.foldl rnewStep r).2.1, 0 < e.stamp) from
    (h fs (0, [], 0) (Int.le_refl _) (fun _ => ⟨Nat.zero_le _, fun _ h => by cases h⟩) h0).1
  intro l
  induction l with
  | nil => intro r _ h; exact h
  | cons f l ih =>
    intro r h1 h2
    rw [List.foldl_cons]
    refine ih _ ?_ ?_
    · unfold rnewStep
      split
      · show 0 ≤ rwriteW _ _ _ _
        unfold rwriteW; split <;> omega
      · exact h1
    · unfold rnewStep
      split
      · rename_i h3
        intro h4
        exact rwrite_ents _ _ _ _ h1 (h2 h3).1 (h2 h3).2 h4
      · exact h2
def RNewPost (w : World) (fs : List (ByteArray × ByteArray)) (e : Ending) (w' : World) : Prop :=
  ∃ v W, e = .returned (.tuple #[.agg #[v, .int .i64 W, .int .i64 0], .int .i64 (rnewAll fs).1]) ∧
    ((rnewAll fs).1 = 0 → w'.ownsRow (w.heap.size + 2) 86 4 v (rnewAll fs).2.1.length ((rnewAll fs).2.1.flatMap entCells) ∧ W = (rnewAll fs).2.2) ∧ (∃ A n c, v = .slice A n c) ∧ Below w.heap.size w w'
def RNInv (w : World) (fs : List (ByteArray × ByteArray)) (k : Nat) (wr : World) : Prop :=
  (rnewAll (fs.take k)).1 = 0 ∧ (∃ v, RefAt wr (w.heap.size + 1) (w.heap.size + 2) v (rnewAll (fs.take k)).2.1 (rnewAll (fs.take k)).2.2 0) ∧ Blk wr w.heap.size 43 #[.slice none 0 0, .int .i64 0, .int .i64 0] ∧ Below w.heap.size w wr ∧ w.heap.size + 2 ≤ wr.heap.size

set_option maxRecDepth 100000 in
set_option maxHeartbeats 4000000 in
theorem rnew_any (A : Option Addr) (c : Nat) (fs : List (ByteArray × ByteArray)) (w : World) (hA : FilesAt w w.heap.size A fs) (hn : fs.length * 32 ≤ 140737488351232)
    (hsz : ∀ k, (fs.getD k default).1.size ≤ maxLen ∧ (fs.getD k default).2.size ≤ maxLen) :
    Calls Tryd.prog 21 #[.slice A fs.length c] w (RNewPost w fs) := by
  have HA := Lib.hid hA; clear hA
  have Hsz := Lib.hid hsz; clear hsz
  go_enter Tryd.func21, Tryd.ntmps21
  go_wp2_with fail
  go_loopw [5] (fun i wr => ∃ k : Nat, k ≤ fs.length ∧ i = .int .i64 (k : Nat) ∧ Hid (RNInv w fs k wr)) (fun i _ => fs.length - (intOf i).toNat)
  case atStart =>
    refine ⟨0, Nat.zero_le _, rfl, rfl, ⟨.slice none 0 0, ?_, World.ownsRow_nil _ _ _ _⟩, (Blk.new _ _ _).alloc _, ((Below.refl _ _).alloc (Nat.le_refl _) _).alloc (by simp) _, by simp⟩
    have := Blk.new (w.alloc (.cells #[.slice none 0 0, .int .i64 0, .int .i64 0] 43)) 43 #[.slice none 0 0, .int .i64 0, .int .i64 0]
    have h2 : Blk ((w.alloc (.cells #[.slice none 0 0, .int .i64 0, .int .i64 0] 43)).alloc (.cells #[.slice none 0 0, .int .i64 0, .int .i64 0] 43)) (w.heap.size + 1) 43 #[.slice none 0 0, .int .i64 0, .int .i64 0] := by simpa using this
    exact h2
  case round =>
    obtain ⟨k, hk, rfl, H⟩ := hrel
    by_cases hlt : k < fs.length
    · obtain ⟨b, off, rfl, hb, hc⟩ := HA.out (by omega)
      obtain ⟨hc1, hc2⟩ := hc k hlt
      obtain ⟨he, ⟨v, hr⟩, hblk, hbl, hwz⟩ := H.out
      have k1 : wr.cell? ⟨b, off + k * 2, none⟩ = some (.string (fs.getD k default).1) := (hbl.cell (p := ⟨b, off + k * 2, none⟩) hb).trans hc1
      have k2 : wr.cell? ⟨b, off + k * 2 + 1, none⟩ = some (.string (fs.getD k default).2) := (hbl.cell (p := ⟨b, off + k * 2 + 1, none⟩) hb).trans hc2
      obtain ⟨hs1, hs2⟩ := Hsz.out k
      have hst := rnewAll_succ fs k (fs.getD k default) (by simp [hlt])
      have hlen := rnewAll_len (fs.take k)
      have hl : (fs.take k).length ≤ k := List.length_take_le _ _
      have hent := rnewAll_ents (fs.take k) he
      clear hc hc1 hc2 HA Hsz
      generalize fs.getD k default = f at *
      obtain ⟨p, x⟩ := f
      simp only at k1 k2 hs1 hs2
      have Hst := Lib.hid hst; clear hst
      have He := Lib.hid he
      have HRf := Lib.hid hr
      have HBk := Lib.hid hblk
      have HBl := Lib.hid hbl
      have hbw : b < wr.heap.size := by have := hbl.size; omega
      have hltI : (k : Int) < (fs.length : Int) := by omega
      obtain ⟨A3, c3, rfl, _⟩ := hr.shape
      have hnS : ∀ i, ROwn (w.heap.size + 1) (.slice A3 (rnewAll (fs.take k)).2.1.length c3) i → w.heap.size < i := by
        intro i hi
        rcases hi with rfl | hi
        · omega
        · have := (HRf.out.owns.lt i hi).1; omega
      have HnS := Lib.hid hnS
      have HnB : Hid (¬ ROwn (w.heap.size + 1) (.slice A3 (rnewAll (fs.take k)).2.1.length c3) b) := fun h => by have := hnS b h; omega
      clear he hr hblk hbl hnS H
      generalize rnewAll (fs.take k) = st at *
      obtain ⟨e0, L, W⟩ := st
      simp only at *
      have hW1 : W ≤ 4611686018427387904 := by omega
      have hl48 : (L.length + 1) * 48 ≤ 140737488355328 := by omega
      have hW0 := hlen.2.1
      clear hlen
      go_wp2_with fail
      go_region_held3 (fun w' => w'.cell? ⟨b, off + k * 2, none⟩ = some (.string p) ∧ w'.cell? ⟨b, off + k * 2 + 1, none⟩ = some (.string x)) (first | exact ⟨k1, k2⟩ | exact ⟨d1, d2⟩)
        (first
          | (go_at_call 29; refine (rwrite_any (w.heap.size + 1) (w.heap.size + 2) (.slice A3 L.length c3) L W 0 p _ ?_ hs1 ?_ hl48 x hs2 hW0 hW1).mono ?_; exact HRf.out.drewN 1; exact hwz; rintro e w2 ⟨rfl, v2, hr2, hk2, hm2⟩; have d1 := (hk2.cell (p := ⟨b, off + k * 2, none⟩) hbw HnB.out).trans k1; have d2 := (hk2.cell (p := ⟨b, off + k * 2 + 1, none⟩) hbw HnB.out).trans k2))
      have hE : rnewAll (fs.take (k + 1)) = (rwriteI L p x, rwriteL L p x W, rwriteW L p x W) := by
        rw [Hst.out]; unfold rnewStep; rw [if_pos He.out]
      have HB2 : Hid (Below w.heap.size w w2) := by
        have h1 : Keeps (ROwn (w.heap.size + 1) (.slice A3 L.length c3)) wr w2 := ⟨hk2.os, hk2.tape, hk2.output, hk2.size, hk2.block⟩
        exact HBl.out.trans (h1.below HBl.out.size (fun i hi => Nat.le_of_lt (HnS.out i hi)))
      have hb2 : Blk w2 w.heap.size 43 #[.slice none 0 0, .int .i64 0, .int .i64 0] := HBk.out.drew.keeps hk2 (fun h => Nat.lt_irrefl _ (HnS.out _ h))
      have hwz2 : w.heap.size + 2 ≤ w2.heap.size := Nat.le_trans hwz hk2.size
      have HE := Lib.hid hE
      have HR2 := Lib.hid hr2
      have HBk2 := Lib.hid hb2
      clear hE hr2 hm2 hk2 d1 d2 k1 k2
      by_cases hz : rwriteI L p x = 0
      · have HN : Hid (RNInv w fs (k + 1) w2) := by
          refine ⟨by rw [HE.out]; exact hz, ⟨v2, ?_⟩, HBk2.out, HB2.out, hwz2⟩
          rw [HE.out]; exact HR2.out
        generalize rwriteI L p x = q at *
        subst hz
        go_wp2_with fail
        go_roundw
        case rel => exact ⟨k + 1, by omega, by go_num, HN⟩
        case measure => simp [intOf]; omega
      · have HQ : Hid (rnewAll fs = (rwriteI L p x, rwriteL L p x W, rwriteW L p x W)) := by
          show _ = _
          rw [rnewAll_stop fs (k + 1) (by rw [HE.out]; exact hz), HE.out]
        have hz' : (rwriteI L p x != 0) = true := by simpa using hz
        have r0 : w2.cell? ⟨w.heap.size, 0, none⟩ = some (.slice none 0 0) := hb2.cell 0
        have r1 : w2.cell? ⟨w.heap.size, 1, none⟩ = some (.int .i64 0) := hb2.cell 1
        have r2 : w2.cell? ⟨w.heap.size, 2, none⟩ = some (.int .i64 0) := hb2.cell 2
        have z0 := hb2.frozen 0
        have z1 := hb2.frozen 1
        have z2 := hb2.frozen 2
        have HF : Hid (∀ w3, w3 = ((w2.setCell ⟨w.heap.size, 0, none⟩ (.slice none 0 0)).setCell ⟨w.heap.size, 1, none⟩ (.int .i64 0)).setCell ⟨w.heap.size, 2, none⟩ (.int .i64 0) → RNewPost w fs (.returned (.tuple #[.agg #[.slice none 0 0, .int .i64 0, .int .i64 0], .int .i64 (rwriteI L p x)])) w3) := by
          rintro w3 rfl
          exact ⟨_, _, by rw [HQ.out], fun h => by rw [HQ.out] at h; exact absurd h hz, ⟨_, _, _, rfl⟩, ((HB2.out.setCell (Nat.le_refl _) _).setCell (Nat.le_refl _) _).setCell (Nat.le_refl _) _⟩
        generalize rwriteI L p x = q at *
        clear hz hb2
        go_wp2_with fail
        refine bodyPost_ret (v := .tuple #[.agg #[.slice none 0 0, .int .i64 0, .int .i64 0], .int .i64 q]) (by simp [results, Tryd.results21, go_sem, r0, r1, r2]) rfl ?_
        exact HF.out _ rfl
    · obtain rfl : k = fs.length := by omega
      obtain ⟨he, ⟨v, hr⟩, hblk, hbl, hwz⟩ := H.out
      rw [List.take_length] at he hr
      have r0 : wr.cell? ⟨w.heap.size, 0, none⟩ = some (.slice none 0 0) := hblk.cell 0
      have r1 : wr.cell? ⟨w.heap.size, 1, none⟩ = some (.int .i64 0) := hblk.cell 1
      have r2 : wr.cell? ⟨w.heap.size, 2, none⟩ = some (.int .i64 0) := hblk.cell 2
      have z0 := hblk.frozen 0
      have z1 := hblk.frozen 1
      have z2 := hblk.frozen 2
      obtain ⟨A3, c3, rfl, _⟩ := hr.shape
      have d0 : wr.cell? ⟨w.heap.size + 1, 0, none⟩ = some (.slice A3 (rnewAll fs).2.1.length c3) := hr.blk.cell 0
      have d1 : wr.cell? ⟨w.heap.size + 1, 1, none⟩ = some (.int .i64 (rnewAll fs).2.2) := hr.blk.cell 1
      have d2 : wr.cell? ⟨w.heap.size + 1, 2, none⟩ = some (.int .i64 0) := hr.blk.cell 2
      have HF : Hid (∀ w3, w3 = ((wr.setCell ⟨w.heap.size, 0, none⟩ (.slice A3 (rnewAll fs).2.1.length c3)).setCell ⟨w.heap.size, 1, none⟩ (.int .i64 (rnewAll fs).2.2)).setCell ⟨w.heap.size, 2, none⟩ (.int .i64 0) → RNewPost w fs (.returned (.tuple #[.agg #[.slice A3 (rnewAll fs).2.1.length c3, .int .i64 (rnewAll fs).2.2, .int .i64 0], .int .i64 0])) w3) := by
        rintro w3 rfl
        refine ⟨_, _, by rw [he], fun _ => ⟨?_, rfl⟩, ⟨_, _, _, rfl⟩, ((hbl.setCell (Nat.le_refl _) _).setCell (Nat.le_refl _) _).setCell (Nat.le_refl _) _⟩
        have hk : Keeps (fun i => i = w.heap.size) wr (((wr.setCell ⟨w.heap.size, 0, none⟩ (.slice A3 (rnewAll fs).2.1.length c3)).setCell ⟨w.heap.size, 1, none⟩ (.int .i64 (rnewAll fs).2.2)).setCell ⟨w.heap.size, 2, none⟩ (.int .i64 0)) :=
          (((Keeps.refl (fun i => i = w.heap.size) wr).setCell (p := ⟨w.heap.size, 0, none⟩) (.inl rfl) _).setCell (p := ⟨w.heap.size, 1, none⟩) (.inl rfl) _).setCell (p := ⟨w.heap.size, 2, none⟩) (.inl rfl) _
        exact (hr.keeps hk (fun i hi e => by
          subst e
          rcases hi with h | h
          · omega
          · have := (hr.owns.lt _ h).1; omega)).owns
      clear he hr hblk hbl H HA Hsz
      generalize (rnewAll fs).2.1.length = n at *
      generalize (rnewAll fs).2.2 = W at *
      go_wp2_with fail
      refine bodyPost_ret (v := .tuple #[.agg #[.slice A3 n c3, .int .i64 W, .int .i64 0], .int .i64 0]) (by simp [results, Tryd.results21, go_sem, r0, r1, r2]) rfl ?_
      exact HF.out _ rfl
end Go.Proofs.YtbiclpkoocjjfaaDoor
