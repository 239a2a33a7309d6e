/- DiskPaths: the law's walk. -/
import Derived.Test.YtbiclpkoocjjfaaDoorFromR
namespace Go.Proofs.YtbiclpkoocjjfaaDoor
open Go.RowKit

theorem from_any (b s : ByteArray) (hb : b.size ≤ 1048576) (hs : s.size ≤ 1048576) (m : Int) (w : World) (hg : 0 < w.heap.size) (hm : w.cell? ⟨0, 0, none⟩ = some (.int .i64 m)) :
    Calls Tryd.prog 18 #[.string b, .string s] w (FromPost b s w) := by
  cases h : pathB b with
  | true => exact from_yes b s hb hs h m w hg hm
  | false => exact from_no b s hb h m w hm
theorem rfrom_any (b s : ByteArray) (hb : b.size ≤ 1048576) (hs : s.size ≤ 1048576) (w : World) :
    Calls Tryd.prog 19 #[.string b, .string s] w (FromPost b s w) := by
  cases h : pathB b with
  | true => exact rfrom_yes b s hb hs h w
  | false => exact rfrom_no b s hb h w
theorem from_path {b s t : ByteArray} (h : fromB b s = some t) : pathB t = true ∧ t.size ≤ 256 := by
  have hp : pathB t = true := by
    unfold fromB at h
    split at h
    · cases h
    · cases hst : stackOf (partsOf (fullB b s)) with
      | none => rw [hst] at h; cases h
      | some l =>
        rw [hst] at h
        replace h : fromL l = some t := h
        unfold fromL at h
        split at h
        · cases h; assumption
        · cases h
  refine ⟨hp, ?_⟩
  rcases Nat.lt_or_ge 256 t.size with h1 | h1
  · rw [pathB_long t h1] at hp; cases hp
  · exact h1

set_option maxRecDepth 100000 in
set_option maxHeartbeats 4000000 in
theorem paths_any (b s : ByteArray) (hb : b.size ≤ 1048576) (hs : s.size ≤ 1048576) (m : Int) (w : World) (hg : 0 < w.heap.size) (hm : w.cell? ⟨0, 0, none⟩ = some (.int .i64 m)) :
    Calls Tryd.prog 5 #[.string b, .string s] w fun e w' => e = .returned (.bool true) ∧ Below w.heap.size w w' := by
  have HX := Lib.hid (from_any b s hb hs m w hg hm)
  have HY := Lib.hid (rfrom_any b s hb hs)
  have HM := Lib.hid hm
  have HPa := Lib.hid (fun w hm => path_any s (by unfold maxLen; omega) m w hm)
  have HRp := Lib.hid (rpath_any s (by unfold maxLen; omega))
  clear hm
  go_enter Tryd.func5, Tryd.ntmps5
  go_wp2_with fail
  refine HX.out.mono ?_
  rintro e w1 ⟨rfl, hb1⟩
  have Hb1 := Lib.hid hb1
  clear hb1 HX
  generalize hp0 : pathB s = q at *
  clear hp0
  cases hf : fromB b s with
  | none =>
    rw [show fromV none = .tuple #[.string ⟨#[]⟩, .bool false] from rfl]
    go_wp2_with fail
    refine (HY.out _).mono ?_
    rintro e w2 ⟨rfl, hb2⟩
    rw [hf, show fromV none = .tuple #[.string ⟨#[]⟩, .bool false] from rfl]
    have Hb2 : Hid (Below w.heap.size w w2) := Hb1.out.trans (hb2.mono Hb1.out.size)
    have HM2 : Hid (w2.cell? ⟨0, 0, none⟩ = some (.int .i64 m)) := (Hb2.out.cell (p := ⟨0, 0, none⟩) hg).trans HM.out
    clear hf hb2 HY
    go_wp2_with fail
    refine (HPa.out _ HM2.out).mono ?_
    rintro e w3 ⟨rfl, hb3⟩
    have Hb3 : Hid (Below w.heap.size w w3) := Hb2.out.trans (hb3.mono Hb2.out.size)
    clear hb3
    go_wp2_with fail
    refine (HRp.out _).mono ?_
    rintro e w4 ⟨rfl, hb4⟩
    have Hb4 : Hid (Below w.heap.size w w4) := Hb3.out.trans (hb4.mono Hb3.out.size)
    have HM4 : Hid (w4.cell? ⟨0, 0, none⟩ = some (.int .i64 m)) := (Hb4.out.cell (p := ⟨0, 0, none⟩) hg).trans HM.out
    have hg4 : 0 < w4.heap.size := Nat.lt_of_lt_of_le hg Hb4.out.size
    clear hb4
    cases q
    all_goals
      go_wp2_with (go_at_call 10; refine (alive_any _ m hg4 HM4.out).mono ?_; rintro e w5 ⟨rfl, hb5⟩)
      go_ret
      exact ⟨rfl, Hb4.out.trans (hb5.mono Hb4.out.size)⟩
  | some t =>
    obtain ⟨hpt, hts⟩ := from_path hf
    rw [show fromV (some t) = .tuple #[.string t, .bool true] from rfl]
    have HPt := Lib.hid (fun w hm => path_any t (by unfold maxLen; omega) m w hm)
    rw [hpt] at HPt
    go_wp2_with fail
    refine (HY.out _).mono ?_
    rintro e w2 ⟨rfl, hb2⟩
    rw [hf, show fromV (some t) = .tuple #[.string t, .bool true] from rfl]
    have Hb2 : Hid (Below w.heap.size w w2) := Hb1.out.trans (hb2.mono Hb1.out.size)
    have HM2 : Hid (w2.cell? ⟨0, 0, none⟩ = some (.int .i64 m)) := (Hb2.out.cell (p := ⟨0, 0, none⟩) hg).trans HM.out
    clear hf hb2 HY hpt
    go_wp2_with fail
    refine (HPa.out _ HM2.out).mono ?_
    rintro e w3 ⟨rfl, hb3⟩
    have Hb3 : Hid (Below w.heap.size w w3) := Hb2.out.trans (hb3.mono Hb2.out.size)
    clear hb3
    go_wp2_with fail
    refine (HRp.out _).mono ?_
    rintro e w4 ⟨rfl, hb4⟩
    have Hb4 : Hid (Below w.heap.size w w4) := Hb3.out.trans (hb4.mono Hb3.out.size)
    have HM4 : Hid (w4.cell? ⟨0, 0, none⟩ = some (.int .i64 m)) := (Hb4.out.cell (p := ⟨0, 0, none⟩) hg).trans HM.out
    clear hb4
    cases q
    all_goals
      go_wp2_with fail
      refine (HPt.out _ HM4.out).mono ?_
      rintro e w5 ⟨rfl, hb5⟩
      have Hb5 : Hid (Below w.heap.size w w5) := Hb4.out.trans (hb5.mono Hb4.out.size)
      have HM5 : Hid (w5.cell? ⟨0, 0, none⟩ = some (.int .i64 m)) := (Hb5.out.cell (p := ⟨0, 0, none⟩) hg).trans HM.out
      have hg5 : 0 < w5.heap.size := Nat.lt_of_lt_of_le hg Hb5.out.size
      clear hb5
      go_wp2_with (go_at_call 10; refine (alive_any _ m hg5 HM5.out).mono ?_; rintro e w6 ⟨rfl, hb6⟩)
      go_ret
      exact ⟨rfl, Hb5.out.trans (hb6.mono Hb5.out.size)⟩
end Go.Proofs.YtbiclpkoocjjfaaDoor
