/- The reference's Same, and the law's stands: a disk and the reference's disk that tell the same have the same files. -/
import Derived.Test.YtbiclpkoocjjfaaDoorFilesR
import Derived.Test.YtbiclpkoocjjfaaDoorDiskF
namespace Go.Proofs.YtbiclpkoocjjfaaDoor
open Go.RowKit Go.Maps

theorem own_files {w : World} {base : Nat} {e : TypeId} {v : Value} {l : List FileV} (h : w.ownsRow base e 2 v l.length (l.flatMap encF)) : ∃ A c, v = .slice A l.length c ∧ ∀ k (hk : k < l.length), ∃ g, A = some ⟨g, 0, none⟩ ∧ w.cell? ⟨g, k * 2, none⟩ = some (.string l[k].1) ∧ w.cell? ⟨g, k * 2 + 1, none⟩ = some (.string l[k].2) := by
  have h0 := h
  rcases h.2 with ⟨rfl, hx⟩ | ⟨g, cap, cur, rfl, hb, _⟩
  · exact ⟨none, 0, by rw [hx], fun k hk => absurd hk (by omega)⟩
  · refine ⟨_, _, rfl, fun k hk => ⟨g, rfl, ?_, ?_⟩⟩
    · rw [h0.cellAt (k * 2) (by omega), show k * 2 = k * 2 + 0 from rfl, fcells_at l k 0 hk (by omega)]; rfl
    · rw [h0.cellAt (k * 2 + 1) (by omega), fcells_at l k 1 hk (by omega)]; rfl

set_option maxRecDepth 100000 in
set_option maxHeartbeats 4000000 in
theorem rsame_any (l : List FileV) (hl : l.length ≤ 4398046511104) (b1 b2 : Nat) (v1 v2 : Value) (w : World) (h1 : w.ownsRow b1 53 2 v1 l.length (l.flatMap encF)) (h2 : w.ownsRow b2 53 2 v2 l.length (l.flatMap encF)) :
    Calls Tryd.prog 41 #[v1, v2] w fun e w' => e = .returned (.bool true) ∧ Below w.heap.size w w' := by
  obtain ⟨A1, cap1, rfl, hc1⟩ := own_files h1
  obtain ⟨A2, cap2, rfl, hc2⟩ := own_files h2
  have H1 := Lib.hid hc1
  have H2 := Lib.hid hc2
  clear h1 h2 hc1 hc2
  go_enter Tryd.func41, Tryd.ntmps41
  go_wp2_with fail
  go_loopw [5] (fun i wx => ∃ k : Nat, k ≤ l.length ∧ i = .int .i64 (k : Nat) ∧ Hid (Below w.heap.size w wx)) (fun i _ => l.length - (intOf i).toNat)
  case atStart => exact ⟨0, Nat.zero_le _, rfl, Below.refl _ _⟩
  case round =>
    obtain ⟨k, hk, rfl, HB⟩ := hrel
    by_cases hlt : k < l.length
    · obtain ⟨g1, rfl, p0, p1⟩ := H1.out k hlt
      obtain ⟨g2, rfl, r0, r1⟩ := H2.out k hlt
      have hgl := World.block_lt_of_cell? w _ p0
      have hgl2 := World.block_lt_of_cell? w _ r0
      have q0 := (HB.out.cell (p := ⟨g1, k * 2, none⟩) hgl).trans p0
      have q1 := (HB.out.cell (p := ⟨g1, k * 2 + 1, none⟩) hgl).trans p1
      have t0 := (HB.out.cell (p := ⟨g2, k * 2, none⟩) hgl2).trans r0
      have t1 := (HB.out.cell (p := ⟨g2, k * 2 + 1, none⟩) hgl2).trans r1
      clear p0 p1 r0 r1 hgl hgl2 H1 H2
      generalize l[k] = p at *
      obtain ⟨a, b⟩ := p
      simp only at *
      have hkI : (k : Int) < (l.length : Int) := by omega
      go_wp2_with fail
      go_quiet (fail)
      go_wp2_with fail
      go_roundw
      case rel => exact ⟨k + 1, by omega, by go_num, below_drewN HB.out _⟩
      case measure => simp [intOf]; omega
    · obtain rfl : k = l.length := by omega
      go_wp2_with fail
      go_ret
      exact ⟨rfl, HB.out⟩

set_option maxRecDepth 100000 in
set_option maxHeartbeats 4000000 in
theorem stands_any {db bf bt n rb base : Nat} {v : Value} {F T : DataW Unit} {W R : Int} {L : List Ent} (w : World) (hd : DiskAt w db bf bt n F T W R) (hr : RefAt w rb base v L W R) (hs : Sim F T W R L W R) (hsz : Maps.size F ≤ 65536) (hn : L.length ≤ 2199023255552) :
    Calls Tryd.prog 23 #[.pointer (some ⟨db, 0, none⟩), .pointer (some ⟨rb, 0, none⟩)] w fun e w' => e = .returned (.bool true) ∧ Below w.heap.size w w' := by
  have HD := Lib.hid hd
  have HR := Lib.hid hr
  have HS := Lib.hid hs
  have c0 : w.cell? ⟨rb, 2, none⟩ = some (.int .i64 R) := hr.blk.cell 2
  have hrl : rb < w.heap.size := hr.blk.lt
  have hln : (rfilesL L []).length ≤ 4398046511104 := by have := rfiles_len L []; simp at this; omega
  clear hd hr hs
  go_enter Tryd.func23, Tryd.ntmps23
  go_wp2_with fail
  go_region_held3 (fun w' => w'.cell? ⟨rb, 2, none⟩ = some (.int .i64 R)) (first | exact c0 | exact c1 | exact c2 | exact c3)
    (first
      | (go_at_call 24; refine (reads_any (b := db) (bf := bf) (bt := bt) (n := n) (F := F) (T := T) (wr := W) (rd := R) _ ?_).mono ?_; exact HD.out.drewN 1; rintro e w1 ⟨rfl, rfl⟩)
      | (go_at_call 22; refine (files_any (b := db) (bf := bf) (bt := bt) (n := n) (F := F) (T := T) (W := W) (R := R) _ ?_ hsz).mono ?_; exact HD.out.drewN 1; rintro e w1 ⟨v1, fs, rfl, hf1, ho1, _, hb1⟩; have c1 := (hb1.cell (p := ⟨rb, 2, none⟩) hrl).trans c0; have e1 := hf1.unique HS.out.files; subst e1)
      | (go_at_call 42; refine (rfiles_any rb base v L W R _ ?_ hn).mono ?_; exact (HR.out.drewN 1).below hb1; rintro e w2 ⟨v2, rfl, ho2, hb2⟩; have c2 := (hb2.cell (p := ⟨rb, 2, none⟩) (Nat.lt_of_lt_of_le hrl hb1.size)).trans c1)
      | (go_at_call 41; refine (rsame_any (rfilesL L []) hln _ _ _ _ _ (own_keep ho1 hb2) ho2).mono ?_; rintro e w3 ⟨rfl, hb3⟩; have c3 := (hb3.cell (p := ⟨rb, 2, none⟩) (Nat.lt_of_lt_of_le hrl (Nat.le_trans hb1.size hb2.size))).trans c2))
  go_wp2_with fail
  go_ret
  have h1 : Below w.heap.size w w1 := ⟨hb1.os, hb1.tape, hb1.output, hb1.size, hb1.block⟩
  have h2 := h1.trans (hb2.mono h1.size)
  exact ⟨rfl, h2.trans (hb3.mono h2.size)⟩
end Go.Proofs.YtbiclpkoocjjfaaDoor
