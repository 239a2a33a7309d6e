/- A disk that nobody made: its methods, and DiskNobody's walk. -/
import Derived.Test.YtbiclpkoocjjfaaDoorDiskG
import Derived.Test.YtbiclpkoocjjfaaDoorSort
namespace Go.Proofs.YtbiclpkoocjjfaaDoor
open Go.RowKit Go.Maps

/-- The value of a disk that nobody made: nil, or all zero. -/
def Nob (w : World) (v : Value) : Prop := v = .pointer none ∨ ∃ b, v = .pointer (some ⟨b, 0, none⟩) ∧ Blk w b 61 #[.map none, .map none, .int .i64 0, .int .i64 0]
theorem Nob.below {w w' : World} {v : Value} (h : Nob w v) (hb : Below w.heap.size w w') : Nob w' v := h.imp id fun ⟨b, e, k⟩ => ⟨b, e, k.below hb k.lt⟩

theorem sort_none (p : Option Addr) (cap : Nat) (fv : Value) (w : World) : Calls Tryd.prog 38 #[.slice p 0 cap, fv] w fun e w' => e = .returned (.tuple #[]) ∧ w' = w := AnyF.slices_SortFunc_none Tryd.sortF p cap fv w

section
variable (v : Value) (w : World) (h : Nob w v)
include h
theorem nwrong (p : ByteArray) : Calls Tryd.prog 25 #[v, .string p] w fun e w' => e = .returned (.int .i64 5) ∧ w = w' := by
  rcases h with rfl | ⟨b, rfl, hb⟩
  · go_enter Tryd.func25, Tryd.ntmps25
    go_wp2_with fail
    go_ret
    exact ⟨rfl, rfl⟩
  · have hc : w.cell? ⟨b, 0, none⟩ = some (.map none) := hb.cell 0
    have hmn := fun w => run_eql_map_nil (P := Tryd.prog) w 58 _ _ none Tryd.underlying58
    clear hb
    go_enter Tryd.func25, Tryd.ntmps25
    go_wp2_with fail
    go_ret
    exact ⟨rfl, rfl⟩
theorem nread (p : ByteArray) : Calls Tryd.prog 15 #[v, .string p] w fun e w' => e = .returned (.tuple #[.string ⟨#[]⟩, .int .i64 0, .int .i64 5]) ∧ w = w' := by
  have H := Lib.hid (nwrong v w h p); clear h
  go_enter Tryd.func15, Tryd.ntmps15
  go_wp2_with (go_at_call 25; refine H.out.mono ?_; rintro e w' ⟨rfl, rfl⟩)
  go_ret3
  exact ⟨rfl, rfl⟩
theorem nstamp (p : ByteArray) : Calls Tryd.prog 13 #[v, .string p] w fun e w' => e = .returned (.tuple #[.int .i64 0, .int .i64 5]) ∧ w = w' := by
  have H := Lib.hid (nread v w h p); clear h
  go_enter Tryd.func13, Tryd.ntmps13
  go_wp2_with (go_at_call 15; refine H.out.mono ?_; rintro e w' ⟨rfl, rfl⟩)
  go_ret2
  exact ⟨rfl, rfl⟩
theorem nwrite (p x : ByteArray) : Calls Tryd.prog 11 #[v, .string p, .string x] w fun e w' => e = .returned (.int .i64 5) ∧ w = w' := by
  have H := Lib.hid (nwrong v w h p); clear h
  go_enter Tryd.func11, Tryd.ntmps11
  go_wp2_with (go_at_call 25; refine H.out.mono ?_; rintro e w' ⟨rfl, rfl⟩)
  go_ret
  exact ⟨rfl, rfl⟩
theorem nremove (p : ByteArray) : Calls Tryd.prog 14 #[v, .string p] w fun e w' => e = .returned (.int .i64 5) ∧ w = w' := by
  have H := Lib.hid (nwrong v w h p); clear h
  go_enter Tryd.func14, Tryd.ntmps14
  go_wp2_with (go_at_call 25; refine H.out.mono ?_; rintro e w' ⟨rfl, rfl⟩)
  go_ret
  exact ⟨rfl, rfl⟩
theorem nfault (p : ByteArray) (x : Int) : Calls Tryd.prog 12 #[v, .string p, .int .i64 x] w fun e w' => e = .returned (.int .i64 5) ∧ w = w' := by
  have H := Lib.hid (nwrong v w h p); clear h
  go_enter Tryd.func12, Tryd.ntmps12
  go_wp2_with (go_at_call 25; refine H.out.mono ?_; rintro e w' ⟨rfl, rfl⟩)
  go_ret
  exact ⟨rfl, rfl⟩
theorem nreads : Calls Tryd.prog 24 #[v] w fun e w' => e = .returned (.int .i64 0) ∧ w = w' := by
  rcases h with rfl | ⟨b, rfl, hb⟩
  · go_enter Tryd.func24, Tryd.ntmps24
    go_wp2_with fail
    go_ret
    exact ⟨rfl, rfl⟩
  · have hc : w.cell? ⟨b, 3, none⟩ = some (.int .i64 0) := hb.cell 3
    clear hb
    go_enter Tryd.func24, Tryd.ntmps24
    go_wp2_with fail
    go_ret
    exact ⟨rfl, rfl⟩
set_option maxRecDepth 100000 in
theorem nfiles : Calls Tryd.prog 22 #[v] w fun e w' => e = .returned (.slice none 0 0) ∧ Below w.heap.size w w' := by
  rcases h with rfl | ⟨b, rfl, hb⟩
  · go_enter Tryd.func22, Tryd.ntmps22
    go_wp2_with fail
    go_ret
    exact ⟨rfl, Below.refl _ _⟩
  · have hc : w.cell? ⟨b, 0, none⟩ = some (.map none) := hb.cell 0
    clear hb
    have hrg := run_range_nilMap (P := Tryd.prog) w 58 _ _ Tryd.underlying58
    have hnx : ∀ ty, (Instr.next (.pointer (some ⟨w.heap.size, 0, none⟩)) false ty).run Tryd.prog (w.alloc (.mapIter none 0 #[] 0)) = _ := fun ty => run_next_nilMap w ty 0 0 #[]
    go_enter Tryd.func22, Tryd.ntmps22
    go_wp2_with fail
    refine wp_loop_rounds 1 ?_
    rw [rounds_succ]
    go_wp2_with (go_at_call 38; refine (sort_none _ _ _ _).mono ?_; rintro e w' ⟨rfl, rfl⟩)
    go_ret
    exact ⟨rfl, (Below.refl _ _).alloc (Nat.le_refl _) _⟩
end

/-- What the loop keeps: the disk that is all zero lies at b, the two pointers behind it. -/
def NobInv (w wx : World) : Prop := Below w.heap.size w wx ∧ Blk wx w.heap.size 61 #[.map none, .map none, .int .i64 0, .int .i64 0] ∧ Blk wx (w.heap.size + 1) 23 #[.pointer none, .pointer (some ⟨w.heap.size, 0, none⟩)]
theorem NobInv.below {w wx wy : World} (h : NobInv w wx) (hb : Below wx.heap.size wx wy) : NobInv w wy :=
  ⟨h.1.trans (hb.mono h.1.size), h.2.1.below hb h.2.1.lt, h.2.2.below hb h.2.2.lt⟩

set_option maxRecDepth 100000 in
set_option maxHeartbeats 4000000 in
theorem nobody_any (p : ByteArray) (x : Int) (m : Int) (w : World) (hg : 0 < w.heap.size) (hm : w.cell? ⟨0, 0, none⟩ = some (.int .i64 m)) :
    Calls Tryd.prog 8 #[.string p, .int .i64 x] w fun e w' => e = .returned (.bool true) ∧ Below w.heap.size w w' := by
  have HM := Lib.hid hm
  clear hm
  go_enter Tryd.func8, Tryd.ntmps8
  go_wp2_with fail
  go_loopw [16] (fun i wx => ∃ k : Nat, k ≤ 2 ∧ i = .int .i64 (k : Nat) ∧ Hid (NobInv w wx)) (fun i _ => 2 - (intOf i).toNat)
  case atStart =>
    refine ⟨0, by omega, rfl, ((Below.refl _ _).alloc (Nat.le_refl _) _).alloc (by simp) _, (Blk.new _ _ _).alloc _, ?_⟩
    have := Blk.new (w.alloc (.cells #[.map none, .map none, .int .i64 0, .int .i64 0] 61)) 23 #[.pointer none, .pointer (some ⟨w.heap.size, 0, none⟩)]
    simpa using this
  case round =>
    obtain ⟨k, hk, rfl, H⟩ := hrel
    by_cases hlt : k < 2
    · obtain ⟨v, q, hvq, hc, hn⟩ : ∃ v q, v = .pointer q ∧ wr.cell? ⟨w.heap.size + 1, k, none⟩ = some v ∧ Nob wr v := by
        rcases (by omega : k = 0 ∨ k = 1) with rfl | rfl
        · exact ⟨_, none, rfl, H.out.2.2.cell 0, .inl rfl⟩
        · exact ⟨_, some ⟨w.heap.size, 0, none⟩, rfl, H.out.2.2.cell 1, .inr ⟨_, rfl, H.out.2.1⟩⟩
      have hltI : (k : Int) < 2 := by omega
      subst hvq
      have HN := Lib.hid hn
      clear hn
      go_wp2_with (first
        | (go_at_call 15; refine (nread _ _ HN.out p).mono ?_; rintro e w1 ⟨rfl, rfl⟩)
        | (go_at_call 13; refine (nstamp _ _ HN.out p).mono ?_; rintro e w1 ⟨rfl, rfl⟩)
        | (go_at_call 11; refine (nwrite _ _ HN.out p _).mono ?_; rintro e w1 ⟨rfl, rfl⟩)
        | (go_at_call 14; refine (nremove _ _ HN.out p).mono ?_; rintro e w1 ⟨rfl, rfl⟩)
        | (go_at_call 12; refine (nfault _ _ HN.out p x).mono ?_; rintro e w1 ⟨rfl, rfl⟩)
        | (go_at_call 22; refine (nfiles _ _ HN.out).mono ?_; rintro e w1 ⟨rfl, hb1⟩)
        | (go_at_call 24; refine (nreads _ _ (HN.out.below hb1)).mono ?_; rintro e w2 ⟨rfl, rfl⟩))
      go_roundw
      case rel => exact ⟨k + 1, by omega, by go_num, H.out.below hb1⟩
      case measure => simp [intOf]; omega
    · obtain rfl : k = 2 := by omega
      have hb := H.out.1
      have HM1 : Hid (wr.cell? ⟨0, 0, none⟩ = some (.int .i64 m)) := (hb.cell (p := ⟨0, 0, none⟩) hg).trans HM.out
      have hz : 0 < wr.heap.size := Nat.lt_of_lt_of_le hg hb.size
      have Hb := Lib.hid hb
      clear hb hlt
      go_wp2_with (go_at_call 10; refine (alive_any _ m hz HM1.out).mono ?_; rintro e w1 ⟨rfl, hb1⟩)
      go_ret
      exact ⟨rfl, Hb.out.trans (hb1.mono Hb.out.size)⟩
end Go.Proofs.YtbiclpkoocjjfaaDoor
