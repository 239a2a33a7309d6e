/- The statements' helper does: what each of its five calls answers and leaves. -/
import Derived.Test.YtbiclpkoocjjfaaDoorDiskU
import Derived.Test.YtbiclpkoocjjfaaDoorDiskG
import Derived.Deep.RegionHeld3
namespace Go.Proofs.YtbiclpkoocjjfaaDoor
open Go.RowKit

/-- What does leaves of both disks. -/
def DoesPost (w : World) (db bf bt n rb base : Nat) (v : Value) (F T : DataW Unit) (W R : Int) (L : List Ent) (W' R' : Int) (a : Bool) (e : Ending) (w' : World) : Prop :=
  e = .returned (.bool a) ∧ DiskAt w' db bf bt (n + 1) F T W R ∧ ∃ v', RefAt w' rb base v' L W' R' ∧ Keeps (fun i => Own db bf bt i ∨ ROwn rb v i) w w' ∧ Moves w v v'

theorem both_lt {w : World} {db bf bt n rb base : Nat} {v : Value} {F T : DataW Unit} {W R : Int} {L : List Ent} {W' R' : Int} (hd : DiskAt w db bf bt n F T W R) (hr : RefAt w rb base v L W' R') (i : Nat) (hi : Own db bf bt i ∨ ROwn rb v i) : i < w.heap.size := by
  rcases hi with (rfl | rfl | rfl) | (rfl | h)
  · exact hd.blk.lt
  · exact hd.files.lt
  · exact hd.faults.lt
  · exact hr.blk.lt
  · exact (hr.owns.lt i h).2

/-- The end of does: both calls have been made. -/
theorem does_end {w w0 w1 w2 : World} {db bf bt n rb base : Nat} {v v2 : Value} {F T : DataW Unit} {W R : Int} {L : List Ent} {W' R' : Int} {a : Bool} (k0 : Keeps (fun i => Own db bf bt i ∨ ROwn rb v i) w w0) (k1 : Keeps (Own db bf bt) w0 w1) (hd1 : DiskAt w1 db bf bt (n + 1) F T W R)
    (hsep : ∀ i, ROwn rb v i → ¬ Own db bf bt i) (hr2 : RefAt w2 rb base v2 L W' R') (k2 : Keeps (ROwn rb v) w1 w2) (hm : Moves w1 v v2) :
    DoesPost w db bf bt n rb base v F T W R L W' R' a (.returned (.bool a)) w2 :=
  ⟨rfl, hd1.keeps k2 (fun h => hsep _ h (.inl rfl)) (fun h => hsep _ h (.inr (.inl rfl))) (fun h => hsep _ h (.inr (.inr rfl))), v2, hr2,
    (k0.trans (k1.mono (fun _ _ h => .inl h))).trans (k2.mono (fun _ _ h => .inr h)), hm.imp id (fun ⟨g, h1, h2⟩ => ⟨g, h1, Nat.le_trans (Nat.le_trans k0.size k1.size) h2⟩)⟩

theorem does_bool {w w2 : World} {db bf bt n rb base : Nat} {v : Value} {F T : DataW Unit} {W R : Int} {L : List Ent} {W' R' : Int} {a c : Bool} (h : DoesPost w db bf bt n rb base v F T W R L W' R' a (.returned (.bool a)) w2) (e : a = c) :
    DoesPost w db bf bt n rb base v F T W R L W' R' c (.returned (.bool a)) w2 := by subst e; exact h

section
variable (db bf bt n rb base : Nat) (v : Value) (F T : DataW Unit) (W R : Int) (L : List Ent) (W' R' : Int) (kind : Int) (p x : ByteArray) (num : Int) (m : Int) (w : World)
  (hg : 0 < w.heap.size) (hm : w.cell? ⟨0, 0, none⟩ = some (.int .i64 m)) (hd : DiskAt w db bf bt n F T W R) (hr : RefAt w rb base v L W' R') (hsep : ∀ i, ROwn rb v i → ¬ Own db bf bt i) (hlow : ∀ i, Own db bf bt i ∨ ROwn rb v i → i ≠ 0)
  (hp : p.size ≤ maxLen) (hx : x.size ≤ maxLen) (hbase : base ≤ w.heap.size) (hn : n < maxLen) (hl : (L.length + 1) * 48 ≤ 140737488355328)
include hg hm hd hr hsep hlow hp hx hbase hn hl

set_option linter.unusedSectionVars false in
set_option maxRecDepth 100000 in
set_option maxHeartbeats 1000000 in
theorem does0 (hk : (kind.tmod 5 % 5 == 0) = true) (hW0 : 0 ≤ W) (hW : W ≤ 4611686018427387904) (hV0 : 0 ≤ W') (hV : W' ≤ 4611686018427387904) :
    Calls Tryd.prog 17 #[.pointer (some ⟨db, 0, none⟩), .pointer (some ⟨rb, 0, none⟩), .agg #[.int .i64 kind, .string p, .string x, .int .i64 num]] w
      (DoesPost w db bf bt n rb base v (writeF F p x W) T (writeW F p x W) R (rwriteL L p x W') (rwriteW L p x W') R' (writeI F p x == rwriteI L p x)) := by
  obtain ⟨t1, t2⟩ := tmod5 kind
  have hout : ∀ i, Own db bf bt i ∨ ROwn rb v i → i ≠ w.heap.size := fun i hi => Nat.ne_of_lt (both_lt hd hr i hi)
  have HD := Lib.hid (hd.alloc (.cells #[.int .i64 kind, .string p, .string x, .int .i64 num] 30))
  have HR := Lib.hid (hr.below (((Below.refl w.heap.size w).alloc (Nat.le_refl _) (.cells #[.int .i64 kind, .string p, .string x, .int .i64 num] 30))))
  have HN := Lib.hid hn
  clear hd hr hn
  go_enter Tryd.func17, Tryd.ntmps17
  go_wp2_with fail
  have hblk : Blk (w.alloc (.cells #[.int .i64 kind, .string p, .string x, .int .i64 num] 30)) w.heap.size 30 #[.int .i64 kind, .string p, .string x, .int .i64 num] := Blk.new _ _ _
  have hk0 := (Keeps.refl (fun i => Own db bf bt i ∨ ROwn rb v i) w).alloc (.cells #[.int .i64 kind, .string p, .string x, .int .i64 num] 30)
  have hm0 := (hk0.cell (p := ⟨0, 0, none⟩) hg (fun h => hlow 0 h rfl)).trans hm
  generalize hw0 : w.alloc (.cells #[.int .i64 kind, .string p, .string x, .int .i64 num] 30) = w0 at *
  clear hw0
  have c1 : w0.cell? ⟨w.heap.size, 1, none⟩ = some (.string p) := hblk.cell 1
  have c2 : w0.cell? ⟨w.heap.size, 2, none⟩ = some (.string x) := hblk.cell 2
  have HAB : Hid (w.heap.size < w0.heap.size ∧ ¬ Own db bf bt w.heap.size) := ⟨hblk.lt, fun h => hout _ (.inl h) rfl⟩
  have HAB2 : Hid (¬ ROwn rb v w.heap.size) := fun h => hout _ (.inr h) rfl
  have HB0 : Hid (base ≤ w0.heap.size) := Nat.le_trans hbase hk0.size
  generalize w.heap.size = ab at *
  go_region_held3 (fun w' => w'.cell? ⟨ab, 1, none⟩ = some (.string p) ∧ w'.cell? ⟨ab, 2, none⟩ = some (.string x)) (first | exact ⟨c1, c2⟩ | exact ⟨d1, d2⟩ | exact ⟨e1, e2⟩)
    (first
      | (go_at_call 11; refine (write_all (b := db) (bf := bf) (bt := bt) (n := n) (F := F) (T := T) (wr := W) (rd := R) p hp m _ ?_ ?_ x hx hW0 hW HN.out).mono ?_; exact hm0; exact HD.out.drewN 1; rintro e w1 ⟨rfl, hd1, hk1⟩; have d1 := (hk1.cell (p := ⟨ab, 1, none⟩) HAB.out.1 HAB.out.2).trans c1; have d2 := (hk1.cell (p := ⟨ab, 2, none⟩) HAB.out.1 HAB.out.2).trans c2)
      | (go_at_call 29; refine (rwrite_any rb base v L W' R' p _ ?_ hp ?_ hl x hx hV0 hV).mono ?_; exact (HR.out.drewN 1).keeps hk1 hsep; exact Nat.le_trans HB0.out hk1.size; rintro e w2 ⟨rfl, v2, hr2, hk2, hm2⟩; have e1 := (hk2.cell (p := ⟨ab, 1, none⟩) (Nat.lt_of_lt_of_le HAB.out.1 hk1.size) HAB2.out).trans d1; have e2 := (hk2.cell (p := ⟨ab, 2, none⟩) (Nat.lt_of_lt_of_le HAB.out.1 hk1.size) HAB2.out).trans d2))
  go_wp2
  go_ret
  exact does_end hk0.drew hk1 hd1 hsep hr2 hk2 hm2
set_option linter.unusedSectionVars false in
set_option maxRecDepth 100000 in
set_option maxHeartbeats 1000000 in
theorem does1 (hk0 : (kind.tmod 5 % 5 == 0) = false) (hk : (kind.tmod 5 % 5 == 1) = true) :
    Calls Tryd.prog 17 #[.pointer (some ⟨db, 0, none⟩), .pointer (some ⟨rb, 0, none⟩), .agg #[.int .i64 kind, .string p, .string x, .int .i64 num]] w
      (DoesPost w db bf bt n rb base v (removeF F p) T W R (rremoveL L p) W' R' (removeI F p == rremoveI L p)) := by
  obtain ⟨t1, t2⟩ := tmod5 kind
  have hout : ∀ i, Own db bf bt i ∨ ROwn rb v i → i ≠ w.heap.size := fun i hi => Nat.ne_of_lt (both_lt hd hr i hi)
  have HD := Lib.hid (hd.alloc (.cells #[.int .i64 kind, .string p, .string x, .int .i64 num] 30))
  have HR := Lib.hid (hr.below (((Below.refl w.heap.size w).alloc (Nat.le_refl _) (.cells #[.int .i64 kind, .string p, .string x, .int .i64 num] 30))))
  have HN := Lib.hid hn
  clear hd hr hn
  go_enter Tryd.func17, Tryd.ntmps17
  go_wp2_with fail
  have hblk : Blk (w.alloc (.cells #[.int .i64 kind, .string p, .string x, .int .i64 num] 30)) w.heap.size 30 #[.int .i64 kind, .string p, .string x, .int .i64 num] := Blk.new _ _ _
  have hkp := (Keeps.refl (fun i => Own db bf bt i ∨ ROwn rb v i) w).alloc (.cells #[.int .i64 kind, .string p, .string x, .int .i64 num] 30)
  have hm0 := (hkp.cell (p := ⟨0, 0, none⟩) hg (fun h => hlow 0 h rfl)).trans hm
  generalize hw0 : w.alloc (.cells #[.int .i64 kind, .string p, .string x, .int .i64 num] 30) = w0 at *
  clear hw0
  have c1 : w0.cell? ⟨w.heap.size, 1, none⟩ = some (.string p) := hblk.cell 1
  have c2 : w0.cell? ⟨w.heap.size, 2, none⟩ = some (.string x) := hblk.cell 2
  have HAB : Hid (w.heap.size < w0.heap.size ∧ ¬ Own db bf bt w.heap.size) := ⟨hblk.lt, fun h => hout _ (.inl h) rfl⟩
  have HAB2 : Hid (¬ ROwn rb v w.heap.size) := fun h => hout _ (.inr h) rfl
  have HB0 : Hid (base ≤ w0.heap.size) := Nat.le_trans hbase hkp.size
  generalize w.heap.size = ab at *
  go_region_held3 (fun w' => w'.cell? ⟨ab, 1, none⟩ = some (.string p) ∧ w'.cell? ⟨ab, 2, none⟩ = some (.string x)) (first | exact ⟨c1, c2⟩ | exact ⟨d1, d2⟩ | exact ⟨e1, e2⟩)
    (first
      | (go_at_call 14; refine (remove_all (b := db) (bf := bf) (bt := bt) (n := n) (F := F) (T := T) (wr := W) (rd := R) p hp m _ ?_ ?_).mono ?_; exact hm0; exact HD.out.drewN 1; rintro e w1 ⟨rfl, hd1, hk1⟩; have d1 := (hk1.cell (p := ⟨ab, 1, none⟩) HAB.out.1 HAB.out.2).trans c1; have d2 := (hk1.cell (p := ⟨ab, 2, none⟩) HAB.out.1 HAB.out.2).trans c2)
      | (go_at_call 30; refine (rremove_any rb base v L W' R' p _ ?_ hp ?_ hl).mono ?_; exact (HR.out.drewN 1).keeps hk1 hsep; exact Nat.le_trans HB0.out hk1.size; rintro e w2 ⟨rfl, v2, hr2, hk2, hm2⟩; have e1 := (hk2.cell (p := ⟨ab, 1, none⟩) (Nat.lt_of_lt_of_le HAB.out.1 hk1.size) HAB2.out).trans d1; have e2 := (hk2.cell (p := ⟨ab, 2, none⟩) (Nat.lt_of_lt_of_le HAB.out.1 hk1.size) HAB2.out).trans d2))
  go_wp2
  go_ret
  exact does_end hkp.drew hk1 hd1 hsep hr2 hk2 hm2
set_option linter.unusedSectionVars false in
set_option maxRecDepth 100000 in
set_option maxHeartbeats 1000000 in
theorem does2 (hk0 : (kind.tmod 5 % 5 == 0) = false) (hk1 : (kind.tmod 5 % 5 == 1) = false) (hk : (kind.tmod 5 % 5 == 2) = true) (hnum : num ≤ 9223372036854775807) :
    Calls Tryd.prog 17 #[.pointer (some ⟨db, 0, none⟩), .pointer (some ⟨rb, 0, none⟩), .agg #[.int .i64 kind, .string p, .string x, .int .i64 num]] w
      (DoesPost w db bf bt n rb base v F (faultT T p num) W R (rfaultL L p num) W' R' true) := by
  obtain ⟨t1, t2⟩ := tmod5 kind
  have hout : ∀ i, Own db bf bt i ∨ ROwn rb v i → i ≠ w.heap.size := fun i hi => Nat.ne_of_lt (both_lt hd hr i hi)
  have HD := Lib.hid (hd.alloc (.cells #[.int .i64 kind, .string p, .string x, .int .i64 num] 30))
  have HR := Lib.hid (hr.below (((Below.refl w.heap.size w).alloc (Nat.le_refl _) (.cells #[.int .i64 kind, .string p, .string x, .int .i64 num] 30))))
  have HN := Lib.hid hn
  clear hd hr hn
  go_enter Tryd.func17, Tryd.ntmps17
  go_wp2_with fail
  have hblk : Blk (w.alloc (.cells #[.int .i64 kind, .string p, .string x, .int .i64 num] 30)) w.heap.size 30 #[.int .i64 kind, .string p, .string x, .int .i64 num] := Blk.new _ _ _
  have hkp := (Keeps.refl (fun i => Own db bf bt i ∨ ROwn rb v i) w).alloc (.cells #[.int .i64 kind, .string p, .string x, .int .i64 num] 30)
  have hm0 := (hkp.cell (p := ⟨0, 0, none⟩) hg (fun h => hlow 0 h rfl)).trans hm
  generalize hw0 : w.alloc (.cells #[.int .i64 kind, .string p, .string x, .int .i64 num] 30) = w0 at *
  clear hw0
  have c1 : w0.cell? ⟨w.heap.size, 1, none⟩ = some (.string p) := hblk.cell 1
  have c2 : w0.cell? ⟨w.heap.size, 3, none⟩ = some (.int .i64 num) := hblk.cell 3
  have HAB : Hid (w.heap.size < w0.heap.size ∧ ¬ Own db bf bt w.heap.size) := ⟨hblk.lt, fun h => hout _ (.inl h) rfl⟩
  have HAB2 : Hid (¬ ROwn rb v w.heap.size) := fun h => hout _ (.inr h) rfl
  have HB0 : Hid (base ≤ w0.heap.size) := Nat.le_trans hbase hkp.size
  generalize w.heap.size = ab at *
  go_region_held3 (fun w' => w'.cell? ⟨ab, 1, none⟩ = some (.string p) ∧ w'.cell? ⟨ab, 3, none⟩ = some (.int .i64 num)) (first | exact ⟨c1, c2⟩ | exact ⟨d1, d2⟩ | exact ⟨e1, e2⟩)
    (first
      | (go_at_call 12; refine (fault_all (b := db) (bf := bf) (bt := bt) (n := n) (F := F) (T := T) (wr := W) (rd := R) p hp m _ ?_ ?_ num hnum HN.out).mono ?_; exact hm0; exact HD.out.drewN 1; rintro e w1 ⟨rfl, hd1, hq1⟩; have d1 := (hq1.cell (p := ⟨ab, 1, none⟩) HAB.out.1 HAB.out.2).trans c1; have d2 := (hq1.cell (p := ⟨ab, 3, none⟩) HAB.out.1 HAB.out.2).trans c2)
      | (go_at_call 31; refine (rfault_any rb base v L W' R' p _ ?_ hp ?_ hl num).mono ?_; exact (HR.out.drewN 1).keeps hq1 hsep; exact Nat.le_trans HB0.out hq1.size; rintro e w2 ⟨rfl, v2, hr2, hk2, hm2⟩; have e1 := (hk2.cell (p := ⟨ab, 1, none⟩) (Nat.lt_of_lt_of_le HAB.out.1 hq1.size) HAB2.out).trans d1; have e2 := (hk2.cell (p := ⟨ab, 3, none⟩) (Nat.lt_of_lt_of_le HAB.out.1 hq1.size) HAB2.out).trans d2))
  go_wp2
  go_ret
  exact does_end hkp.drew hq1 hd1 hsep hr2 hk2 hm2
set_option linter.unusedSectionVars false in
set_option maxRecDepth 100000 in
set_option maxHeartbeats 1000000 in
theorem does3 (hk0 : (kind.tmod 5 % 5 == 0) = false) (hk1 : (kind.tmod 5 % 5 == 1) = false) (hk2 : (kind.tmod 5 % 5 == 2) = false) (hk : (kind.tmod 5 % 5 == 3) = true) (hR0 : 0 ≤ R) (hR : R ≤ 4611686018427387904) (hS0 : 0 ≤ R') (hS : R' ≤ 4611686018427387904) (hfl : (entOf L p).faults ≤ 9223372036854775807) :
    Calls Tryd.prog 17 #[.pointer (some ⟨db, 0, none⟩), .pointer (some ⟨rb, 0, none⟩), .agg #[.int .i64 kind, .string p, .string x, .int .i64 num]] w
      (DoesPost w db bf bt n rb base v F (readT F T p) W (readK p R) (rreadL L p) W' (readK p R') ((readS F T p).toList == (rreadS L p).toList && readN F T p == rreadN L p && readI F T p == rreadI L p)) := by
  obtain ⟨t1, t2⟩ := tmod5 kind
  have hout : ∀ i, Own db bf bt i ∨ ROwn rb v i → i ≠ w.heap.size := fun i hi => Nat.ne_of_lt (both_lt hd hr i hi)
  have HD := Lib.hid (hd.alloc (.cells #[.int .i64 kind, .string p, .string x, .int .i64 num] 30))
  have HR := Lib.hid (hr.below (((Below.refl w.heap.size w).alloc (Nat.le_refl _) (.cells #[.int .i64 kind, .string p, .string x, .int .i64 num] 30))))
  have HN := Lib.hid hn
  clear hd hr hn
  go_enter Tryd.func17, Tryd.ntmps17
  go_wp2_with fail
  have hblk : Blk (w.alloc (.cells #[.int .i64 kind, .string p, .string x, .int .i64 num] 30)) w.heap.size 30 #[.int .i64 kind, .string p, .string x, .int .i64 num] := Blk.new _ _ _
  have hkp := (Keeps.refl (fun i => Own db bf bt i ∨ ROwn rb v i) w).alloc (.cells #[.int .i64 kind, .string p, .string x, .int .i64 num] 30)
  have hm0 := (hkp.cell (p := ⟨0, 0, none⟩) hg (fun h => hlow 0 h rfl)).trans hm
  refine (read_all p hp m _ hm0 HD.out hR0 hR HN.out).mono ?_
  rintro e w1 ⟨rfl, hd1, hq1⟩
  have hblk1 := hblk.keeps hq1 (fun h => hout _ (.inl h) rfl)
  have d1 : w1.cell? ⟨w.heap.size, 1, none⟩ = some (.string p) := hblk1.cell 1
  have HR1 := Lib.hid (HR.out.keeps hq1 hsep)
  have HB1 : Hid (base ≤ w1.heap.size) := Nat.le_trans (Nat.le_trans hbase hkp.size) hq1.size
  have HE : ∀ (w2 : World) (v2 : Value) (L2 : List Ent) (W2 R2 : Int) (a : Bool), RefAt w2 rb base v2 L2 W2 R2 → Keeps (ROwn rb v) w1 w2 → Moves w1 v v2 → DoesPost w db bf bt n rb base v F (readT F T p) W (readK p R) L2 W2 R2 a (.returned (.bool a)) w2 := fun _ _ _ _ _ _ hr2 k2 m2 => does_end hkp hq1 hd1 hsep hr2 k2 m2
  have HE' := Lib.hid HE
  clear HE hblk hblk1 hq1 hd1 hkp hm0 HD HR hm hg
  obtain ⟨s1, Hs1⟩ : ∃ z, Hid (readS F T p = z) := ⟨_, rfl⟩
  rw [Hs1.out]
  obtain ⟨n1, Hn1⟩ : ∃ z, Hid (readN F T p = z) := ⟨_, rfl⟩
  rw [Hn1.out]
  obtain ⟨i1, Hi1⟩ : ∃ z, Hid (readI F T p = z) := ⟨_, rfl⟩
  rw [Hi1.out]
  go_wp2_with fail
  refine (rread_any rb base v L W' R' p w1 HR1.out hp HB1.out hl hS0 hS hfl).mono ?_
  rintro e w2 ⟨rfl, v2, hr2, hq2, hm2⟩
  have HF := fun a => HE'.out _ _ _ _ _ a hr2 hq2 hm2
  clear HE' HR1 hr2 hq2 hm2 d1
  obtain ⟨s2, Hs2⟩ : ∃ z, Hid (rreadS L p = z) := ⟨_, rfl⟩
  rw [Hs2.out]
  obtain ⟨n2, Hn2⟩ : ∃ z, Hid (rreadN L p = z) := ⟨_, rfl⟩
  rw [Hn2.out]
  obtain ⟨i2, Hi2⟩ : ∃ z, Hid (rreadI L p = z) := ⟨_, rfl⟩
  rw [Hi2.out]
  have HF' := Lib.hid HF; clear HF
  cases c1 : (s1.toList == s2.toList) with
  | false =>
    go_wp2_with fail
    go_ret
    exact does_bool (HF'.out _) (by rw [Hs1.out, Hs2.out, Hn1.out, Hn2.out, Hi1.out, Hi2.out]; simp [c1])
  | true =>
    cases c2 : (n1 == n2) with
    | false =>
      go_wp2_with fail
      go_ret
      exact does_bool (HF'.out _) (by rw [Hs1.out, Hs2.out, Hn1.out, Hn2.out, Hi1.out, Hi2.out]; simp [c2])
    | true =>
      cases c3 : (i1 == i2) with
      | false =>
        go_wp2_with fail
        go_ret
        exact does_bool (HF'.out _) (by rw [Hs1.out, Hs2.out, Hn1.out, Hn2.out, Hi1.out, Hi2.out]; simp [c3])
      | true =>
        go_wp2_with fail
        go_ret
        exact does_bool (HF'.out _) (by rw [Hs1.out, Hs2.out, Hn1.out, Hn2.out, Hi1.out, Hi2.out]; have e1 := eq_of_beq c2; have e2 := eq_of_beq c3; have e0 := eq_of_beq c1; simp [e0, e1, e2])
set_option linter.unusedSectionVars false in
set_option maxRecDepth 100000 in
set_option maxHeartbeats 1000000 in
theorem does4 (hk0 : (kind.tmod 5 % 5 == 0) = false) (hk1 : (kind.tmod 5 % 5 == 1) = false) (hk2 : (kind.tmod 5 % 5 == 2) = false) (hk : (kind.tmod 5 % 5 == 3) = false) (hR0 : 0 ≤ R) (hR : R ≤ 4611686018427387904) (hS0 : 0 ≤ R') (hS : R' ≤ 4611686018427387904) (hfl : (entOf L p).faults ≤ 9223372036854775807) :
    Calls Tryd.prog 17 #[.pointer (some ⟨db, 0, none⟩), .pointer (some ⟨rb, 0, none⟩), .agg #[.int .i64 kind, .string p, .string x, .int .i64 num]] w
      (DoesPost w db bf bt n rb base v F (readT F T p) W (readK p R) (rreadL L p) W' (readK p R') (readN F T p == rreadN L p && readI F T p == rreadI L p)) := by
  obtain ⟨t1, t2⟩ := tmod5 kind
  have hout : ∀ i, Own db bf bt i ∨ ROwn rb v i → i ≠ w.heap.size := fun i hi => Nat.ne_of_lt (both_lt hd hr i hi)
  have HD := Lib.hid (hd.alloc (.cells #[.int .i64 kind, .string p, .string x, .int .i64 num] 30))
  have HR := Lib.hid (hr.below (((Below.refl w.heap.size w).alloc (Nat.le_refl _) (.cells #[.int .i64 kind, .string p, .string x, .int .i64 num] 30))))
  have HN := Lib.hid hn
  clear hd hr hn
  go_enter Tryd.func17, Tryd.ntmps17
  go_wp2_with fail
  have hblk : Blk (w.alloc (.cells #[.int .i64 kind, .string p, .string x, .int .i64 num] 30)) w.heap.size 30 #[.int .i64 kind, .string p, .string x, .int .i64 num] := Blk.new _ _ _
  have hkp := (Keeps.refl (fun i => Own db bf bt i ∨ ROwn rb v i) w).alloc (.cells #[.int .i64 kind, .string p, .string x, .int .i64 num] 30)
  have hm0 := (hkp.cell (p := ⟨0, 0, none⟩) hg (fun h => hlow 0 h rfl)).trans hm
  refine (stamp_all p hp m _ hm0 HD.out hR0 hR HN.out).mono ?_
  rintro e w1 ⟨rfl, hd1, hq1⟩
  have hblk1 := hblk.keeps hq1 (fun h => hout _ (.inl h) rfl)
  have d1 : w1.cell? ⟨w.heap.size, 1, none⟩ = some (.string p) := hblk1.cell 1
  have HR1 := Lib.hid (HR.out.keeps hq1 hsep)
  have HB1 : Hid (base ≤ w1.heap.size) := Nat.le_trans (Nat.le_trans hbase hkp.size) hq1.size
  have HE : ∀ (w2 : World) (v2 : Value) (L2 : List Ent) (W2 R2 : Int) (a : Bool), RefAt w2 rb base v2 L2 W2 R2 → Keeps (ROwn rb v) w1 w2 → Moves w1 v v2 → DoesPost w db bf bt n rb base v F (readT F T p) W (readK p R) L2 W2 R2 a (.returned (.bool a)) w2 := fun _ _ _ _ _ _ hr2 k2 m2 => does_end hkp hq1 hd1 hsep hr2 k2 m2
  have HE' := Lib.hid HE
  clear HE hblk hblk1 hq1 hd1 hkp hm0 HD HR hm hg
  obtain ⟨n1, Hn1⟩ : ∃ z, Hid (readN F T p = z) := ⟨_, rfl⟩
  rw [Hn1.out]
  obtain ⟨i1, Hi1⟩ : ∃ z, Hid (readI F T p = z) := ⟨_, rfl⟩
  rw [Hi1.out]
  go_wp2_with fail
  refine (rread_any rb base v L W' R' p w1 HR1.out hp HB1.out hl hS0 hS hfl).mono ?_
  rintro e w2 ⟨rfl, v2, hr2, hq2, hm2⟩
  have HF := fun a => HE'.out _ _ _ _ _ a hr2 hq2 hm2
  clear HE' HR1 hr2 hq2 hm2 d1
  obtain ⟨s2, Hs2⟩ : ∃ z, Hid (rreadS L p = z) := ⟨_, rfl⟩
  rw [Hs2.out]
  obtain ⟨n2, Hn2⟩ : ∃ z, Hid (rreadN L p = z) := ⟨_, rfl⟩
  rw [Hn2.out]
  obtain ⟨i2, Hi2⟩ : ∃ z, Hid (rreadI L p = z) := ⟨_, rfl⟩
  rw [Hi2.out]
  have HF' := Lib.hid HF; clear HF
  cases c2 : (n1 == n2) with
  | false =>
    go_wp2_with fail
    go_ret
    exact does_bool (HF'.out _) (by rw [Hn1.out, Hn2.out, Hi1.out, Hi2.out]; simp [c2])
  | true =>
    cases c3 : (i1 == i2) with
    | false =>
      go_wp2_with fail
      go_ret
      exact does_bool (HF'.out _) (by rw [Hn1.out, Hn2.out, Hi1.out, Hi2.out]; simp [c3])
    | true =>
      go_wp2_with fail
      go_ret
      exact does_bool (HF'.out _) (by rw [Hn1.out, Hn2.out, Hi1.out, Hi2.out]; have e1 := eq_of_beq c2; have e2 := eq_of_beq c3; simp [e1, e2])
end
end Go.Proofs.YtbiclpkoocjjfaaDoor
