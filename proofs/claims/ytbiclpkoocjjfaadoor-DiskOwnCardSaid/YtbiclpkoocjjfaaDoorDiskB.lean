/- A disk in memory, and the contracts of its methods wrong, Fault, Remove, Read, Stamp, Write at a disk that was made. -/
import Derived.Test.YtbiclpkoocjjfaaDoorDiskA
import Derived.Test.YtbiclpkoocjjfaaDoorWords
import Derived.Deep.QuietTactic
import Derived.BigQuiet
import Derived.StillTailTactics
import Derived.Maps.RangeWalk
namespace Go.Proofs.YtbiclpkoocjjfaaDoor
open Go.RowKit Go.Maps

/-- How an element of the files' map reads. -/
def fileElem : Value → Option (DataW Unit × List MemPlace)
  | .agg cs => match cs.toList with
    | [.string s, .int .i64 n] => some (.agg [.lit (.string s.data.toList), .lit (.int .i64 n)], [])
    | _ => none
  | _ => none
def fileD (s : ByteArray) (n : Int) : DataW Unit := .agg [.lit (.string s.data.toList), .lit (.int .i64 n)]
theorem fileElem_mk (s : ByteArray) (n : Int) : fileElem (.agg #[.string s, .int .i64 n]) = some (fileD s n, []) := rfl
theorem fileElem_inv {v : Value} {z : DataW Unit × List MemPlace} (h : fileElem v = some z) : ∃ s n, v = .agg #[.string s, .int .i64 n] ∧ z = (fileD s n, []) := by
  unfold fileElem at h
  split at h
  · rename_i cs
    split at h
    · rename_i s n he
      refine ⟨s, n, ?_, by injection h with h; exact h.symm⟩
      obtain ⟨l⟩ := cs
      simp at he
      rw [he]
    · cases h
  · cases h
theorem fileD_inj {s s' : ByteArray} {n n' : Int} (h : fileD s n = fileD s' n') : s = s' ∧ n = n' := by
  unfold fileD at h
  injection h with h
  injection h with h1 h2
  injection h2 with h2 _
  injection h1 with h1
  injection h2 with h2
  injection h1 with h1
  injection h2 with _ h2
  exact ⟨WideShapes.bytes_inj h1, h2⟩

theorem keyed : Keyed Tryd.prog 9 := string_keyed Tryd.underlying9
theorem zeroFile (w : World) : (zeroValue 66).run Tryd.prog w = .ok (.agg #[.string ⟨#[]⟩, .int .i64 0]) w := by kernel_rfl
theorem zeroInt (w : World) : (zeroValue 3).run Tryd.prog w = .ok (.int .i64 0) w := by kernel_rfl
def key (p : ByteArray) : Lit := .string p.data.toList
theorem keyOf_key (p : ByteArray) (h : p.size ≤ maxLen) : keyOf Tryd.prog 9 (.string p) = some (key p) := Go.WideMaps.keyOf_string_mk Tryd.underlying9 h

/-- A disk lies in block b, its maps in bf and bt. -/
structure DiskAt (w : World) (b bf bt n : Nat) (F T : DataW Unit) (wr rd : Int) : Prop where
  blk : Blk w b 61 #[.map (some bf), .map (some bt), .int .i64 wr, .int .i64 rd]
  files : w.ownsMap Tryd.prog 9 fileElem bf n F
  faults : w.ownsMap Tryd.prog 9 (plainElem Tryd.prog 3) bt n T
  ne1 : b ≠ bf
  ne2 : b ≠ bt
  ne3 : bf ≠ bt

section
variable {S : Nat → Prop} {w w' : World} {b bf bt n : Nat} {F T : DataW Unit} {wr rd : Int}
theorem DiskAt.keeps (h : DiskAt w b bf bt n F T wr rd) (k : Keeps S w w') (h1 : ¬ S b) (h2 : ¬ S bf) (h3 : ¬ S bt) : DiskAt w' b bf bt n F T wr rd :=
  ⟨h.blk.keeps k h1, ownsMap_keeps h.files k h2, ownsMap_keeps h.faults k h3, h.ne1, h.ne2, h.ne3⟩
theorem DiskAt.below (h : DiskAt w b bf bt n F T wr rd) (k : Below w.heap.size w w') : DiskAt w' b bf bt n F T wr rd :=
  h.keeps (S := fun _ => False) (Keeps.of_below k) id id id
theorem DiskAt.alloc (h : DiskAt w b bf bt n F T wr rd) (o : Obj) : DiskAt (w.alloc o) b bf bt n F T wr rd :=
  h.keeps (S := fun _ => False) ((Keeps.refl _ w).alloc o) id id id
theorem DiskAt.drewN (h : DiskAt w b bf bt n F T wr rd) (k : Nat) : DiskAt (w.drewN k) b bf bt n F T wr rd :=
  h.keeps (S := fun _ => False) ((Keeps.refl _ w).drewN k) id id id
theorem DiskAt.mono (h : DiskAt w b bf bt n F T wr rd) {n' : Nat} (hn : n ≤ n') : DiskAt w b bf bt n' F T wr rd :=
  ⟨h.blk, h.files.mono hn, h.faults.mono hn, h.ne1, h.ne2, h.ne3⟩
theorem DiskAt.c0 (h : DiskAt w b bf bt n F T wr rd) : w.cell? ⟨b, 0, none⟩ = some (.map (some bf)) := h.blk.cell 0
theorem DiskAt.c1 (h : DiskAt w b bf bt n F T wr rd) : w.cell? ⟨b, 1, none⟩ = some (.map (some bt)) := h.blk.cell 1
theorem DiskAt.c2 (h : DiskAt w b bf bt n F T wr rd) : w.cell? ⟨b, 2, none⟩ = some (.int .i64 wr) := h.blk.cell 2
theorem DiskAt.c3 (h : DiskAt w b bf bt n F T wr rd) : w.cell? ⟨b, 3, none⟩ = some (.int .i64 rd) := h.blk.cell 3
theorem DiskAt.read1 (h : DiskAt w b bf bt n F T wr rd) (x : Int) : DiskAt (w.setCell ⟨b, 3, none⟩ (.int .i64 x)) b bf bt n F T wr x :=
  ⟨h.blk.set_ 3 _, h.files.setCell (a := ⟨b, 3, none⟩) (Ne.symm h.ne1) _, h.faults.setCell (a := ⟨b, 3, none⟩) (Ne.symm h.ne2) _, h.ne1, h.ne2, h.ne3⟩
theorem DiskAt.write1 (h : DiskAt w b bf bt n F T wr rd) (x : Int) : DiskAt (w.setCell ⟨b, 2, none⟩ (.int .i64 x)) b bf bt n F T x rd :=
  ⟨h.blk.set_ 2 _, h.files.setCell (a := ⟨b, 2, none⟩) (Ne.symm h.ne1) _, h.faults.setCell (a := ⟨b, 2, none⟩) (Ne.symm h.ne2) _, h.ne1, h.ne2, h.ne3⟩
theorem DiskAt.turnF (h : DiskAt w b bf bt n F T wr rd) {F' : DataW Unit} {n' : Nat} (hn : n ≤ n') (ho : w'.ownsMap Tryd.prog 9 fileElem bf n' F') (hg : w.grownBy w' (some bf)) : DiskAt w' b bf bt n' F' T wr rd :=
  ⟨h.blk.grown hg (by simp [h.ne1]), ho, (h.faults.kept hg (by simp [Ne.symm h.ne3])).mono hn, h.ne1, h.ne2, h.ne3⟩
theorem DiskAt.turnT (h : DiskAt w b bf bt n F T wr rd) {T' : DataW Unit} {n' : Nat} (hn : n ≤ n') (ho : w'.ownsMap Tryd.prog 9 (plainElem Tryd.prog 3) bt n' T') (hg : w.grownBy w' (some bt)) : DiskAt w' b bf bt n' F T' wr rd :=
  ⟨h.blk.grown hg (by simp [h.ne2]), (h.files.kept hg (by simp [h.ne3])).mono hn, ho, h.ne1, h.ne2, h.ne3⟩
end

/-- The three blocks of a disk. -/
def Own (b bf bt : Nat) (i : Nat) : Prop := i = b ∨ i = bf ∨ i = bt

def wrongI (p : ByteArray) : Int := if pathB p then 0 else 1

set_option maxHeartbeats 400000 in
theorem wrong_any {b bf bt n : Nat} {F T : DataW Unit} {wr rd : Int} (p : ByteArray) (hp : p.size ≤ maxLen) (m : Int) (w : World) (hm : w.cell? ⟨0, 0, none⟩ = some (.int .i64 m)) (hd : DiskAt w b bf bt n F T wr rd) :
    Calls Tryd.prog 25 #[.pointer (some ⟨b, 0, none⟩), .string p] w fun e w' => e = .returned (.int .i64 (wrongI p)) ∧ Below w.heap.size w w' := by
  have hc := hd.c0
  have hmn := fun w => run_eql_map_nil (P := Tryd.prog) w 58 _ _ (some bf) Tryd.underlying58
  unfold wrongI
  cases hb : pathB p with
  | true =>
    go_enter Tryd.func25, Tryd.ntmps25
    go_wp2_with (go_at_call 16; refine (path_any p hp m _ hm).mono ?_; rintro e w' ⟨rfl, hb'⟩)
    go_ret
    exact ⟨rfl, by assumption⟩
  | false =>
    go_enter Tryd.func25, Tryd.ntmps25
    go_wp2_with (go_at_call 16; refine (path_any p hp m _ hm).mono ?_; rintro e w' ⟨rfl, hb'⟩)
    go_ret
    exact ⟨rfl, by assumption⟩

/-- 'v, ok := m[k]' at the files' map: the value's shape written out. -/
theorem wpList_lookup_file {P : Program} (w : World) {ops : Array Oper} {rest : List Oper} {o : Oper} {a : Act} {Q : Exit → Act → World → Prop} (hg : o.guard = none) (m x : Operand) (t : TypeId) (hop : o.op = Op.lookup t m x true)
    (k e : TypeId) (K : Keyed P k) (ht : P.underlying t = some (.map k e)) (hz : (zeroValue e).run P w = .ok (.agg #[.string ⟨#[]⟩, .int .i64 0]) w) (b n : Nat) (D : DataW Unit)
    (hm : a.eval m = .map (some b)) (hown : w.ownsMap P k fileElem b n D) (key : Value) (kl : Lit) (hx : a.eval x = key) (hkey : keyOf P k key = some kl)
    (hK : ∀ (s : ByteArray) (c : Int), Hid (D.atKey kl (fileD ⟨#[]⟩ 0) = fileD s c) → wpList P ops Q rest (a.put o.dst (.tuple #[.agg #[.string s, .int .i64 c], .bool (Maps.has D kl)])) w) :
    wpList P ops Q (o :: rest) a w :=
  wpList_lookup_own_ok w hg m x t hop k e K ht fileElem hz (fileD ⟨#[]⟩ 0) [] (fileElem_mk _ _) b n D hm hown key kl hx hkey (fun v ps hv => by
    obtain ⟨s, c, rfl, hc⟩ := fileElem_inv hv
    exact hK s c (congrArg Prod.fst hc))

section
variable {b bf bt n : Nat} {F T : DataW Unit} {wr rd : Int} (p : ByteArray) (hp : p.size ≤ maxLen) (m : Int) (w : World) (hm : w.cell? ⟨0, 0, none⟩ = some (.int .i64 m)) (hd : DiskAt w b bf bt n F T wr rd)
include hp hm hd

theorem wrong_ok (h : pathB p = true) : Calls Tryd.prog 25 #[.pointer (some ⟨b, 0, none⟩), .string p] w fun e w' => e = .returned (.int .i64 0) ∧ Below w.heap.size w w' := by
  have := wrong_any p hp m w hm hd
  unfold wrongI at this
  rwa [if_pos h] at this
theorem wrong_no (h : pathB p = false) : Calls Tryd.prog 25 #[.pointer (some ⟨b, 0, none⟩), .string p] w fun e w' => e = .returned (.int .i64 1) ∧ Below w.heap.size w w' := by
  have := wrong_any p hp m w hm hd
  unfold wrongI at this
  rwa [if_neg (by rw [h]; decide)] at this

/-! ### Fault -/
theorem fault_bad (x : Int) (h : pathB p = false) : Calls Tryd.prog 12 #[.pointer (some ⟨b, 0, none⟩), .string p, .int .i64 x] w fun e w' => e = .returned (.int .i64 1) ∧ Below w.heap.size w w' := by
  have H := Lib.hid (wrong_no p hp m w hm hd h)
  go_enter Tryd.func12, Tryd.ntmps12
  go_wp2_with (go_at_call 25; refine H.out.mono ?_; rintro e w' ⟨rfl, hb'⟩)
  go_ret
  exact ⟨rfl, by assumption⟩
theorem fault_neg (x : Int) (h : pathB p = true) (hx : x < 0) : Calls Tryd.prog 12 #[.pointer (some ⟨b, 0, none⟩), .string p, .int .i64 x] w fun e w' => e = .returned (.int .i64 1) ∧ Below w.heap.size w w' := by
  have H := Lib.hid (wrong_ok p hp m w hm hd h)
  go_enter Tryd.func12, Tryd.ntmps12
  go_wp2_with (go_at_call 25; refine H.out.mono ?_; rintro e w' ⟨rfl, hb'⟩)
  go_ret
  exact ⟨rfl, by assumption⟩
set_option maxRecDepth 100000 in
theorem fault_ok (x : Int) (h : pathB p = true) (hx : 0 ≤ x) (hx2 : x ≤ 9223372036854775807) (hn : n < maxLen) : Calls Tryd.prog 12 #[.pointer (some ⟨b, 0, none⟩), .string p, .int .i64 x] w fun e w' =>
    e = .returned (.int .i64 0) ∧ DiskAt w' b bf bt (n + 1) F (T.put (key p) (.lit (.int .i64 x))) wr rd ∧ Keeps (Own b bf bt) w w' := by
  have H := Lib.hid (wrong_ok p hp m w hm hd h)
  have hwf : (Lit.int .i64 x).wf = true := WalkArith.wf_i64 (by omega)
  have Hwf := Lib.hid hwf; clear hwf
  have Hn := Lib.hid hn; clear hn hx2
  go_enter Tryd.func12, Tryd.ntmps12
  go_wp2_with (first | (go_at_call 25; refine H.out.mono ?_; rintro e w1 ⟨rfl, hb'⟩; have hd1 := hd.below hb'; have q1 := hd1.c1) | (at_mapUpdate; refine wpList_mapUpdate_own _ rfl _ _ _ 59 rfl 9 3 keyed Tryd.underlying59 _ bt n _ rfl hd1.faults Hn.out _ _ _ rfl rfl (keyOf_key p hp) _ [] (plainElem_int Tryd.underlying3 Hwf.out) ?_; intro w2 ho2 hg2))
  go_ret
  exact ⟨rfl, hd1.turnT (Nat.le_succ _) ho2 hg2, (Keeps.of_below hb').trans (Keeps.of_grown hg2 (fun g hg => by cases hg; exact .inr (.inr rfl)))⟩

/-! ### Remove -/
theorem remove_bad (h : pathB p = false) : Calls Tryd.prog 14 #[.pointer (some ⟨b, 0, none⟩), .string p] w fun e w' => e = .returned (.int .i64 1) ∧ Below w.heap.size w w' := by
  have H := Lib.hid (wrong_no p hp m w hm hd h)
  go_enter Tryd.func14, Tryd.ntmps14
  go_wp2_with (go_at_call 25; refine H.out.mono ?_; rintro e w' ⟨rfl, hb'⟩)
  go_ret
  exact ⟨rfl, by assumption⟩
set_option maxRecDepth 100000 in
theorem remove_none (h : pathB p = true) (hh : Maps.has F (key p) = false) : Calls Tryd.prog 14 #[.pointer (some ⟨b, 0, none⟩), .string p] w fun e w' => e = .returned (.int .i64 6) ∧ Below w.heap.size w w' := by
  have H := Lib.hid (wrong_ok p hp m w hm hd h)
  go_enter Tryd.func14, Tryd.ntmps14
  go_wp2_with (first | (go_at_call 25; refine H.out.mono ?_; rintro e w1 ⟨rfl, hb'⟩; have hd1 := hd.below hb'; have q1 := hd1.c0) | (at_lookup; refine wpList_lookup_file _ rfl _ _ 58 rfl 9 66 keyed Tryd.underlying58 (zeroFile _) bf n _ rfl hd1.files _ _ rfl (keyOf_key p hp) ?_; intro s0 c0 Hs0))
  go_ret
  exact ⟨rfl, hb'.trans ((Below.refl _ _).alloc hb'.size _)⟩
set_option maxRecDepth 100000 in
theorem remove_ok (h : pathB p = true) (hh : Maps.has F (key p) = true) : Calls Tryd.prog 14 #[.pointer (some ⟨b, 0, none⟩), .string p] w fun e w' =>
    e = .returned (.int .i64 0) ∧ DiskAt w' b bf bt n (F.del (key p)) T wr rd ∧ Keeps (Own b bf bt) w w' := by
  have H := Lib.hid (wrong_ok p hp m w hm hd h)
  go_enter Tryd.func14, Tryd.ntmps14
  go_wp2_with (first | (go_at_call 25; refine H.out.mono ?_; rintro e w1 ⟨rfl, hb'⟩; have hd1 := hd.below hb'; have q1 := hd1.c0; have q2 := fun o => (hd1.alloc o).c0) | (at_lookup; refine wpList_lookup_file _ rfl _ _ 58 rfl 9 66 keyed Tryd.underlying58 (zeroFile _) bf n _ rfl hd1.files _ _ rfl (keyOf_key p hp) ?_; intro s0 c0 Hs0) | (at_delete; refine wpList_delete_own _ rfl _ _ 58 9 rfl 66 keyed Tryd.underlying58 _ bf n _ rfl (hd1.files.alloc _) _ _ rfl (keyOf_key p hp) ?_; intro w2 ho2 ht2))
  go_ret
  exact ⟨rfl, (hd1.alloc _).turnF (Nat.le_refl _) ho2 ht2.grown, ((Keeps.of_below hb').alloc _).trans (Keeps.of_grown ht2.grown (fun g hg => by cases hg; exact .inr (.inl rfl)))⟩

/-! ### Read -/
theorem read_bad (h : pathB p = false) : Calls Tryd.prog 15 #[.pointer (some ⟨b, 0, none⟩), .string p] w fun e w' => e = .returned (.tuple #[.string ⟨#[]⟩, .int .i64 0, .int .i64 1]) ∧ Below w.heap.size w w' := by
  have H := Lib.hid (wrong_no p hp m w hm hd h)
  go_enter Tryd.func15, Tryd.ntmps15
  go_wp2_with (go_at_call 25; refine H.out.mono ?_; rintro e w1 ⟨rfl, hb'⟩)
  go_ret3
  exact ⟨rfl, by assumption⟩
set_option maxRecDepth 100000 in
set_option maxHeartbeats 400000 in
theorem read_fault (h : pathB p = true) (c : Int) (hc : T.atKey (key p) (.lit (.int .i64 0)) = .lit (.int .i64 c)) (hc0 : 0 < c) (hc1 : c ≤ 9223372036854775807) (hr0 : 0 ≤ rd) (hr : rd ≤ 4611686018427387904) (hn : n < maxLen) :
    Calls Tryd.prog 15 #[.pointer (some ⟨b, 0, none⟩), .string p] w fun e w' => e = .returned (.tuple #[.string ⟨#[]⟩, .int .i64 0, .int .i64 18]) ∧
      DiskAt w' b bf bt (n + 1) F (T.put (key p) (.lit (.int .i64 (c - 1)))) wr (rd + 1) ∧ Keeps (Own b bf bt) w w' := by
  have H := Lib.hid (wrong_ok p hp m w hm hd h)
  have Hn := Lib.hid hn; clear hn
  have Hc := Lib.hid hc; clear hc
  go_enter Tryd.func15, Tryd.ntmps15
  go_wp2_with (first | (go_at_call 25; refine H.out.mono ?_; rintro e w1 ⟨rfl, hb'⟩; have hd1 := hd.below hb'; have q1 := hd1.c1; have q3 := hd1.c3; have f3 := hd1.blk.frozen 3) | (at_lookup; refine wpList_lookup_own_int _ rfl _ _ 59 rfl 9 3 .i64 keyed Tryd.underlying59 Tryd.underlying3 (zeroInt _) bt n _ rfl (hd1.read1 _).faults _ _ rfl (keyOf_key p hp) ?_; intro c' hat hwc; obtain rfl : c = c' := (by rw [Hc.out] at hat; injection hat with hat; injection hat); have Hwc := Lib.hid hwc; clear hat hwc) | (at_mapUpdate; refine wpList_mapUpdate_own _ rfl _ _ _ 59 rfl 9 3 keyed Tryd.underlying59 _ bt n _ rfl (hd1.read1 _).faults Hn.out _ _ _ rfl rfl (keyOf_key p hp) _ [] (plainElem_int Tryd.underlying3 ?_) ?_; rotate_right; intro w2 ho2 hg2))
  · go_ret3
    exact ⟨rfl, (hd1.read1 _).turnT (Nat.le_succ _) ho2 hg2, ((Keeps.of_below hb').setCell (.inl (.inl rfl)) _).trans (Keeps.of_grown hg2 (fun g hg => by cases hg; exact .inr (.inr rfl)))⟩
  · exact WalkArith.wf_i64 (by omega)
set_option maxRecDepth 100000 in
set_option maxHeartbeats 400000 in
theorem read_none (h : pathB p = true) (c : Int) (hc : T.atKey (key p) (.lit (.int .i64 0)) = .lit (.int .i64 c)) (hc0 : c ≤ 0) (hh : Maps.has F (key p) = false) (hr0 : 0 ≤ rd) (hr : rd ≤ 4611686018427387904) :
    Calls Tryd.prog 15 #[.pointer (some ⟨b, 0, none⟩), .string p] w fun e w' => e = .returned (.tuple #[.string ⟨#[]⟩, .int .i64 0, .int .i64 6]) ∧
      DiskAt w' b bf bt n F T wr (rd + 1) ∧ Keeps (Own b bf bt) w w' := by
  have H := Lib.hid (wrong_ok p hp m w hm hd h)
  have Hc := Lib.hid hc; clear hc
  go_enter Tryd.func15, Tryd.ntmps15
  go_wp2_with (first | (go_at_call 25; refine H.out.mono ?_; rintro e w1 ⟨rfl, hb'⟩; have hd1 := hd.below hb'; have q0 := hd1.c0; have q1 := hd1.c1; have q3 := hd1.c3; have f3 := hd1.blk.frozen 3) | (at_lookup; refine wpList_lookup_own_int _ rfl _ _ 59 rfl 9 3 .i64 keyed Tryd.underlying59 Tryd.underlying3 (zeroInt _) bt n _ rfl (hd1.read1 _).faults _ _ rfl (keyOf_key p hp) ?_; intro c' hat hwc; obtain rfl : c = c' := (by rw [Hc.out] at hat; injection hat with hat; injection hat); clear hat hwc) | (at_lookup; refine wpList_lookup_file _ rfl _ _ 58 rfl 9 66 keyed Tryd.underlying58 (zeroFile _) bf n _ rfl (hd1.read1 _).files _ _ rfl (keyOf_key p hp) ?_; intro s0 c0 Hs0))
  go_ret3
  exact ⟨rfl, (hd1.read1 _).alloc _, ((Keeps.of_below hb').setCell (.inl (.inl rfl)) _).alloc _⟩
set_option maxRecDepth 100000 in
set_option maxHeartbeats 400000 in
theorem read_ok (h : pathB p = true) (c : Int) (hc : T.atKey (key p) (.lit (.int .i64 0)) = .lit (.int .i64 c)) (hc0 : c ≤ 0) (hh : Maps.has F (key p) = true) (s : ByteArray) (k : Int) (hf : F.atKey (key p) (fileD ⟨#[]⟩ 0) = fileD s k) (hr0 : 0 ≤ rd) (hr : rd ≤ 4611686018427387904) :
    Calls Tryd.prog 15 #[.pointer (some ⟨b, 0, none⟩), .string p] w fun e w' => e = .returned (.tuple #[.string s, .int .i64 k, .int .i64 0]) ∧
      DiskAt w' b bf bt n F T wr (rd + 1) ∧ Keeps (Own b bf bt) w w' := by
  have H := Lib.hid (wrong_ok p hp m w hm hd h)
  have Hc := Lib.hid hc; clear hc
  have Hf := Lib.hid hf; clear hf
  go_enter Tryd.func15, Tryd.ntmps15
  go_wp2_with (first | (go_at_call 25; refine H.out.mono ?_; rintro e w1 ⟨rfl, hb'⟩; have hd1 := hd.below hb'; have q0 := hd1.c0; have q1 := hd1.c1; have q3 := hd1.c3; have f3 := hd1.blk.frozen 3) | (at_lookup; refine wpList_lookup_own_int _ rfl _ _ 59 rfl 9 3 .i64 keyed Tryd.underlying59 Tryd.underlying3 (zeroInt _) bt n _ rfl (hd1.read1 _).faults _ _ rfl (keyOf_key p hp) ?_; intro c' hat hwc; obtain rfl : c = c' := (by rw [Hc.out] at hat; injection hat with hat; injection hat); clear hat hwc) | (at_lookup; refine wpList_lookup_file _ rfl _ _ 58 rfl 9 66 keyed Tryd.underlying58 (zeroFile _) bf n _ rfl (hd1.read1 _).files _ _ rfl (keyOf_key p hp) ?_; intro s0 c0 Hs0; obtain ⟨rfl, rfl⟩ := fileD_inj (Hf.out.symm.trans Hs0.out)))
  go_quiet (fail)
  go_wp2
  go_ret3
  exact ⟨rfl, ((hd1.read1 _).alloc _).drewN _, (((Keeps.of_below hb').setCell (.inl (.inl rfl)) _).alloc _).drewN _⟩
end
end Go.Proofs.YtbiclpkoocjjfaaDoor
