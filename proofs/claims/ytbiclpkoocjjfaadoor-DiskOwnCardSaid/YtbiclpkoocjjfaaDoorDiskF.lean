/- The probe of the statements, and disk.New without files. -/
import Derived.Test.YtbiclpkoocjjfaaDoorDiskE
namespace Go.Proofs.YtbiclpkoocjjfaaDoor
open Go.RowKit Go.Maps

def aliveFs : List (ByteArray × ByteArray) := [(⟨#[47, 97]⟩, ⟨#[120]⟩), (⟨#[47, 98]⟩, ⟨#[121]⟩)]
theorem alive_new : (newAll aliveFs).1 = 0 := by decide +kernel
theorem alive_readI : readI (newAll aliveFs).2.1 (.map []) ⟨#[47, 98]⟩ = 0 := by decide +kernel
theorem alive_readS : readS (newAll aliveFs).2.1 (.map []) ⟨#[47, 98]⟩ = ⟨#[121]⟩ := by decide +kernel
theorem alive_readN : readN (newAll aliveFs).2.1 (.map []) ⟨#[47, 98]⟩ = 2 := by decide +kernel
theorem alive_path : pathB ⟨#[47, 97, 46, 112, 104, 112]⟩ = true := by decide +kernel
theorem alive_pathb : pathB ⟨#[47, 98]⟩ = true := by decide +kernel

theorem reads_any {b bf bt n : Nat} {F T : DataW Unit} {wr rd : Int} (w : World) (hd : DiskAt w b bf bt n F T wr rd) :
    Calls Tryd.prog 24 #[.pointer (some ⟨b, 0, none⟩)] w fun e w' => e = .returned (.int .i64 rd) ∧ w = w' := by
  have hc := hd.c3
  go_enter Tryd.func24, Tryd.ntmps24
  go_wp2
  go_ret
  exact ⟨rfl, rfl⟩

theorem alive_files (w : World) : FilesAt (w.alloc (.cells #[.string ⟨#[47, 97]⟩, .string ⟨#[120]⟩, .string ⟨#[47, 98]⟩, .string ⟨#[121]⟩] 53)) (w.heap.size + 1) (some ⟨w.heap.size, 0, none⟩) aliveFs := by
  intro _
  have hb := Blk.new w 53 #[.string ⟨#[47, 97]⟩, .string ⟨#[120]⟩, .string ⟨#[47, 98]⟩, .string ⟨#[121]⟩]
  refine ⟨_, _, rfl, by omega, fun k hk => ?_⟩
  match k, hk with
  | 0, _ => exact ⟨hb.cell 0, hb.cell 1⟩
  | 1, _ => exact ⟨hb.cell 2, hb.cell 3⟩

set_option maxRecDepth 100000 in
set_option maxHeartbeats 1000000 in
theorem alive_any (w : World) (m : Int) (hg : 0 < w.heap.size) (hm : w.cell? ⟨0, 0, none⟩ = some (.int .i64 m)) :
    Calls Tryd.prog 10 #[] w fun e w' => e = .returned (.bool true) ∧ Below w.heap.size w w' := by
  go_enter Tryd.func10, Tryd.ntmps10
  go_wp2_with fail
  have hb0 := (Below.refl w.heap.size w).alloc (Nat.le_refl _) (.cells #[.string ⟨#[47, 97]⟩, .string ⟨#[120]⟩, .string ⟨#[47, 98]⟩, .string ⟨#[121]⟩] 53)
  refine (new_any _ _ aliveFs _ m (by simp) ((hb0.cell (p := ⟨0, 0, none⟩) hg).trans hm) (by simpa using alive_files w) (by decide) ?_).mono ?_
  · intro k
    match k with
    | 0 => exact ⟨by decide, by decide⟩
    | 1 => exact ⟨by decide, by decide⟩
    | k + 2 => rw [show aliveFs.getD (k + 2) default = default from rfl]; exact ⟨by decide, by decide⟩
  rintro e w1 ⟨rfl, hd1, hb1⟩
  have hd1 := hd1 alive_new
  rw [alive_new, if_pos rfl]
  simp only [World.size_alloc] at hd1 ⊢
  have hb1' := hb0.trans (hb1.mono (by simp))
  have hm1 := (hb1'.cell (p := ⟨0, 0, none⟩) hg).trans hm
  go_wp2_with fail
  refine (read_all ⟨#[47, 98]⟩ (by decide) m w1 hm1 hd1 (by omega) (by omega) (by decide)).mono ?_
  rintro e w2 ⟨rfl, hd2, hk2⟩
  rw [alive_readI, alive_readS, alive_readN]
  have hb2 := hb1'.trans (hk2.below (by have := hb1'.size; omega) (fun i hi => by rcases hi with rfl | rfl | rfl <;> omega))
  have hm2 := (hb2.cell (p := ⟨0, 0, none⟩) hg).trans hm
  rw [show readK ⟨#[47, 98]⟩ 0 = 1 from by unfold readK; rw [if_neg (by rw [alive_pathb]; decide)]; rfl] at hd2
  clear hb0 hb1 hd1 hm1 hk2 hb1'
  go_wp2_with fail
  refine (path_any _ (by decide) m w2 hm2).mono ?_
  rintro e w3 ⟨rfl, hb3⟩
  rw [alive_path]
  have hd3 := hd2.below hb3
  have hb3' := hb2.trans (hb3.mono hb2.size)
  clear hd2 hb2 hm2 hb3
  go_wp2_with fail
  refine (reads_any w3 hd3).mono ?_
  rintro e w4 ⟨rfl, rfl⟩
  go_wp2
  go_ret
  exact ⟨rfl, hb3'⟩
end Go.Proofs.YtbiclpkoocjjfaaDoor
