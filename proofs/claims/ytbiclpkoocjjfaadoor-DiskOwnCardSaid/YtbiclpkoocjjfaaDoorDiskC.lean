/- The contracts of the disk's methods Write and Stamp at a disk that was made. -/
import Derived.Test.YtbiclpkoocjjfaaDoorDiskB
namespace Go.Proofs.YtbiclpkoocjjfaaDoor
open Go.RowKit Go.Maps

theorem region_tail {P : Program} {id : Nat} {Q : Exit → Act → World → Prop} {a : Act} {w : World} {l : List Oper} (n : Nat) (hm : P.follows .mixedOrders = true) (hB : Region.lexTailB .any l.toArray n = true)
    (h : wpStill P l.toArray w.drew (fun a' => wpList P l.toArray Q (l.drop n) a' w.drew) (l.take n) a) : (Code.region id l.toArray true).wp P Q a w := wp_region_still_tail n hm hB h

section
variable {b bf bt n : Nat} {F T : DataW Unit} {wr rd : Int} (p : ByteArray) (hp : p.size ≤ maxLen) (m : Int) (w : World) (hm : w.cell? ⟨0, 0, none⟩ = some (.int .i64 m)) (hd : DiskAt w b bf bt n F T wr rd)
include hp hm hd

/-! ### Write -/
theorem write_bad (x : ByteArray) (h : pathB p = false) : Calls Tryd.prog 11 #[.pointer (some ⟨b, 0, none⟩), .string p, .string x] w fun e w' => e = .returned (.int .i64 1) ∧ Below w.heap.size w w' := by
  have H := Lib.hid (wrong_no p hp m w hm hd h)
  go_enter Tryd.func11, Tryd.ntmps11
  go_wp2_with (go_at_call 25; refine H.out.mono ?_; rintro e w1 ⟨rfl, hb'⟩)
  go_ret
  exact ⟨rfl, by assumption⟩
set_option maxRecDepth 100000 in
theorem write_long (x : ByteArray) (hx0 : x.size ≤ maxLen) (h : pathB p = true) (hx : 65536 < x.size) : Calls Tryd.prog 11 #[.pointer (some ⟨b, 0, none⟩), .string p, .string x] w fun e w' => e = .returned (.int .i64 2) ∧ Below w.heap.size w w' := by
  have H := Lib.hid (wrong_ok p hp m w hm hd h)
  have hx1 : (65536 : Int) < x.size := by omega
  go_enter Tryd.func11, Tryd.ntmps11
  go_wp2_with (first | (go_at_call 25; refine H.out.mono ?_; rintro e w1 ⟨rfl, hb'⟩; have hd1 := hd.below hb'; have q0 := hd1.c0) | (at_lookup; refine wpList_lookup_file _ rfl _ _ 58 rfl 9 66 keyed Tryd.underlying58 (zeroFile _) bf n _ rfl hd1.files _ _ rfl (keyOf_key p hp) ?_; intro s0 c0 Hs0))
  go_ret
  exact ⟨rfl, hb'.trans ((Below.refl _ _).alloc hb'.size _)⟩
set_option maxRecDepth 100000 in
theorem write_many (x : ByteArray) (h : pathB p = true) (hx : x.size ≤ 65536) (hh : Maps.has F (key p) = false) (hs : 256 ≤ Maps.size F) : Calls Tryd.prog 11 #[.pointer (some ⟨b, 0, none⟩), .string p, .string x] w fun e w' => e = .returned (.int .i64 3) ∧ Below w.heap.size w w' := by
  have H := Lib.hid (wrong_ok p hp m w hm hd h)
  have hx1 : (x.size : Int) ≤ 65536 := by omega
  have hs1 : (256 : Int) ≤ (Maps.size F : Int) := by omega
  go_enter Tryd.func11, Tryd.ntmps11
  go_wp2_with (first | (go_at_call 25; refine H.out.mono ?_; rintro e w1 ⟨rfl, hb'⟩; have hd1 := hd.below hb'; have q0 := hd1.c0; have q0' := fun o => (hd1.alloc o).c0; have hlen := fun (o : Obj) (ty : TypeId) => (hd1.alloc o).files.len (e := 66) Tryd.underlying58 ty) | (at_lookup; refine wpList_lookup_file _ rfl _ _ 58 rfl 9 66 keyed Tryd.underlying58 (zeroFile _) bf n _ rfl hd1.files _ _ rfl (keyOf_key p hp) ?_; intro s0 c0 Hs0))
  go_ret
  exact ⟨rfl, hb'.trans ((Below.refl _ _).alloc hb'.size _)⟩
set_option maxRecDepth 100000 in
set_option maxHeartbeats 400000 in
theorem write_ok (x : ByteArray) (h : pathB p = true) (hx : x.size ≤ 65536) (hh : Maps.has F (key p) = true ∨ Maps.size F < 256) (hw0 : 0 ≤ wr) (hw : wr ≤ 4611686018427387904) (hn : n < maxLen) :
    Calls Tryd.prog 11 #[.pointer (some ⟨b, 0, none⟩), .string p, .string x] w fun e w' => e = .returned (.int .i64 0) ∧ DiskAt w' b bf bt (n + 1) (F.put (key p) (fileD x (wr + 1))) T (wr + 1) rd ∧ Keeps (Own b bf bt) w w' := by
  have H := Lib.hid (wrong_ok p hp m w hm hd h)
  have Hn := Lib.hid hn; clear hn
  have hx1 : (x.size : Int) ≤ 65536 := by omega
  rcases (show Maps.has F (key p) = true ∨ (Maps.has F (key p) = false ∧ (Maps.size F : Int) < 256) from by cases hz : Maps.has F (key p) with | true => exact .inl rfl | false => exact .inr ⟨rfl, by rcases hh with h' | h' <;> first | omega | (rw [hz] at h'; cases h')⟩) with hh | ⟨hh, hs1⟩
  · go_enter Tryd.func11, Tryd.ntmps11
    go_wp2_with (first | (go_at_call 25; refine H.out.mono ?_; rintro e w1 ⟨rfl, hb'⟩; have hd1 := hd.below hb'; have q0 := hd1.c0; have q0' := fun o => (hd1.alloc o).c0; have q2' := fun o => (hd1.alloc o).c2; have f2' := fun o => (hd1.alloc o).blk.frozen 2) | (at_lookup; refine wpList_lookup_file _ rfl _ _ 58 rfl 9 66 keyed Tryd.underlying58 (zeroFile _) bf n _ rfl hd1.files _ _ rfl (keyOf_key p hp) ?_; intro s0 c0 Hs0))
    have hdz := (hd1.alloc (.cells #[.string s0, .int .i64 c0] 66)).write1 (wr + 1)
    have hkz := ((Keeps.of_below (S := Own b bf bt) hb').alloc (.cells #[.string s0, .int .i64 c0] 66)).setCell (p := ⟨b, 2, none⟩) (.inl (.inl rfl)) (.int .i64 (wr + 1))
    generalize (w1.alloc (Obj.cells #[.string s0, .int .i64 c0] 66)).setCell ⟨b, 2, none⟩ (.int .i64 (wr + 1)) = wz at *
    clear q0 q0' q2' f2' hd1 hb'
    have z0 := hdz.c0
    have z2 := hdz.c2
    refine region_tail 11 (by kernel_rfl) (by kernel_rfl) ?_
    simp only [List.take_succ_cons, List.take_zero, List.drop_succ_cons, List.drop_zero]
    repeat still_step
    refine wpStill_nil ?_
    go_wp2_with (at_mapUpdate; refine wpList_mapUpdate_own _ rfl _ _ _ 58 rfl 9 66 keyed Tryd.underlying58 _ bf n _ rfl hdz.files.drew Hn.out _ _ _ rfl rfl (keyOf_key p hp) _ [] (fileElem_mk _ _) ?_; intro w2 ho2 hg2)
    go_ret
    exact ⟨rfl, (hdz.drewN 1).turnF (Nat.le_succ _) ho2 hg2, hkz.drew.trans (Keeps.of_grown hg2 (fun g hg => by cases hg; exact .inr (.inl rfl)))⟩
  · go_enter Tryd.func11, Tryd.ntmps11
    go_wp2_with (first | (go_at_call 25; refine H.out.mono ?_; rintro e w1 ⟨rfl, hb'⟩; have hd1 := hd.below hb'; have q0 := hd1.c0; have hlen := fun (o : Obj) (ty : TypeId) => (hd1.alloc o).files.len (e := 66) Tryd.underlying58 ty; have q0' := fun o => (hd1.alloc o).c0; have q2' := fun o => (hd1.alloc o).c2; have f2' := fun o => (hd1.alloc o).blk.frozen 2) | (at_lookup; refine wpList_lookup_file _ rfl _ _ 58 rfl 9 66 keyed Tryd.underlying58 (zeroFile _) bf n _ rfl hd1.files _ _ rfl (keyOf_key p hp) ?_; intro s0 c0 Hs0))
    have hdz := (hd1.alloc (.cells #[.string s0, .int .i64 c0] 66)).write1 (wr + 1)
    have hkz := ((Keeps.of_below (S := Own b bf bt) hb').alloc (.cells #[.string s0, .int .i64 c0] 66)).setCell (p := ⟨b, 2, none⟩) (.inl (.inl rfl)) (.int .i64 (wr + 1))
    generalize (w1.alloc (Obj.cells #[.string s0, .int .i64 c0] 66)).setCell ⟨b, 2, none⟩ (.int .i64 (wr + 1)) = wz at *
    clear hlen q0 q0' q2' f2' hd1 hb'
    have z0 := hdz.c0
    have z2 := hdz.c2
    refine region_tail 11 (by kernel_rfl) (by kernel_rfl) ?_
    simp only [List.take_succ_cons, List.take_zero, List.drop_succ_cons, List.drop_zero]
    repeat still_step
    refine wpStill_nil ?_
    go_wp2_with (at_mapUpdate; refine wpList_mapUpdate_own _ rfl _ _ _ 58 rfl 9 66 keyed Tryd.underlying58 _ bf n _ rfl hdz.files.drew Hn.out _ _ _ rfl rfl (keyOf_key p hp) _ [] (fileElem_mk _ _) ?_; intro w2 ho2 hg2)
    go_ret
    exact ⟨rfl, (hdz.drewN 1).turnF (Nat.le_succ _) ho2 hg2, hkz.drew.trans (Keeps.of_grown hg2 (fun g hg => by cases hg; exact .inr (.inl rfl)))⟩

/-! ### Stamp -/
omit hp hm hd in
theorem stamp_of (s : ByteArray) (k e : Int) (Q : World → Prop)
    (h : Calls Tryd.prog 15 #[.pointer (some ⟨b, 0, none⟩), .string p] w fun e' w' => e' = .returned (.tuple #[.string s, .int .i64 k, .int .i64 e]) ∧ Q w') :
    Calls Tryd.prog 13 #[.pointer (some ⟨b, 0, none⟩), .string p] w fun e' w' => e' = .returned (.tuple #[.int .i64 k, .int .i64 e]) ∧ Q w' := by
  have H := Lib.hid h; clear h
  go_enter Tryd.func13, Tryd.ntmps13
  go_wp2_with (go_at_call 15; refine H.out.mono ?_; rintro e w1 ⟨rfl, hq⟩)
  go_ret2
  exact ⟨rfl, by assumption⟩
end
end Go.Proofs.YtbiclpkoocjjfaaDoor
