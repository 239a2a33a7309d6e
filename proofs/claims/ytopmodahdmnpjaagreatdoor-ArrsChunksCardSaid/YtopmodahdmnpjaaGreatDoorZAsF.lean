/- arrs: the functions that append an item's value: sorted's and array_values': the walks. -/
import Derived.Test.YtopmodahdmnpjaaGreatDoorZAsE
namespace Go.Proofs.YtopmodahdmnpjaaGreatDoor
open Go Go.RowKit
namespace Dp
section
variable {w : World} {B : Nat}
/-- What Append gives, with the number of its end. -/
theorem append_er (hLib : ∀ w', Below B w w' → LibS w') (w1 : World) (hb : Below B w w1) {base b mb : Nat} {sv : Value} {ps : List PI} {nx : Int} (hL : LstAt base w1 b mb false sv ps nx) (hB1 : B ≤ w1.heap.size) (k n : Int) (t : ByteArray) (l : List GI) (A : Option Addr) (c : Nat) (hnx0 : 0 ≤ nx)
    (hp : VAt w B (.mk k n t l) (.agg #[.int .i64 k, .int .i64 n, .string t, .slice A l.length c]) ∧ Fit (.mk k n t l) ∧ Sml (.mk k n t l)) (hv : ∀ q ∈ ps, Vok w B q) (hn : ps.length ≤ 2048) (hnx : In64 nx) :
    Calls Tryz.prog 87 #[.pointer (some ⟨b, 0, none⟩), .agg #[.int .i64 k, .int .i64 n, .string t, .slice A l.length c]] w1 fun e w2 => ∃ (er u : Int), e = .returned (.tuple #[.agg #[.bool false, .int .i64 u, .string ⟨#[]⟩], .int .i64 er]) ∧ Below base w1 w2 ∧
      ((er = 8 ∧ setG (ps.map PI.it) nx (.mk false nx ⟨#[]⟩ (.mk k n t l)) = none) ∨ ∃ ps' sv' nx', er = 0 ∧ setG (ps.map PI.it) nx (.mk false nx ⟨#[]⟩ (.mk k n t l)) = some (ps'.map PI.it, nx') ∧ LstAt base w2 b mb false sv' ps' nx' ∧ (∀ q ∈ ps', Vok w B q) ∧ ps'.length ≤ 2048 ∧ In64 nx') := by
  refine (append_step hLib w1 hb hL hB1 k n t l A c hnx0 hp hv hn hnx).mono ?_
  rintro e w2 ⟨hf, ⟨hno, u, rfl⟩ | ⟨ps', sv', nx', hso, ⟨u, rfl⟩, hr⟩⟩
  · exact ⟨8, u, rfl, hf.bel, .inl ⟨rfl, hno⟩⟩
  · exact ⟨0, u, rfl, hf.bel, .inr ⟨ps', sv', nx', rfl, hso, hr⟩⟩
set_option maxRecDepth 100000 in
set_option maxHeartbeats 4000000 in
theorem clos_sorted (hLib : ∀ w', Below B w w' → LibS w') (kb : Nat) (hk : w.cell? ⟨kb, 0, none⟩ = some (.bool false)) (hkb : kb < B) : ClosApp w B 123 #[.pointer (some ⟨kb, 0, none⟩)] := by
  intro w1 hb hB1 base b mb sv ps nx hL hv hn hnx hnx0 ib ii is k n t l A c hp
  have hal := (Below.refl w1.heap.size w1).alloc (Nat.le_refl _) (.cells #[.bool ib, .int .i64 ii, .string is, .int .i64 k, .int .i64 n, .string t, .slice A l.length c] 34)
  have hbase : base ≤ w1.heap.size := by have := hL.hb; have := hL.blk.lt; omega
  have HI := Lib.hid (Blk.new w1 34 #[.bool ib, .int .i64 ii, .string is, .int .i64 k, .int .i64 n, .string t, .slice A l.length c])
  have HBi := Lib.hid hal
  have hkc : w1.cell? ⟨kb, 0, none⟩ = some (.bool false) := (hb.cell hkb).trans hk
  have hkc2 : (w1.alloc (.cells #[.bool ib, .int .i64 ii, .string is, .int .i64 k, .int .i64 n, .string t, .slice A l.length c] 34)).cell? ⟨kb, 0, none⟩ = some (.bool false) := (hal.cell (World.block_lt_of_cell? w1 _ hkc)).trans hkc
  have HAp := Lib.hid (append_er hLib _ (hb.alloc hB1 (.cells #[.bool ib, .int .i64 ii, .string is, .int .i64 k, .int .i64 n, .string t, .slice A l.length c] 34)) (hL.below hal) (by have := hal.size; omega) k n t l A c hnx0 hp hv hn hnx)
  clear hal hLib hp hv hnx hL hb hkc
  go_enter Tryz.func123, Tryz.ntmps123
  go_upto_region 1 with fail
  have d3 := HI.out.cell 3
  have d4 := HI.out.cell 4
  have d5 := HI.out.cell 5
  have d6 := HI.out.cell 6
  generalize w1.alloc (.cells #[.bool ib, .int .i64 ii, .string is, .int .i64 k, .int .i64 n, .string t, .slice A l.length c] 34) = wi at *
  go_wp2_with (go_at_call 87; refine HAp.out.mono ?_; rintro e w2 ⟨er, u, rfl, hb2, hpo⟩; have HB2 := Lib.hid ((HBi.out.mono hbase).trans hb2); have HP := Lib.hid hpo; clear hb2 hpo; have zK := Blk.new w2 32 #[.bool false, .int .i64 0, .string ⟨#[]⟩]; have z0 := zK.frozen 0; have z1 := zK.frozen 1; have z2 := zK.frozen 2; clear zK)
  go_ret
  have hsz := HB2.out.size
  refine ⟨er, rfl, HB2.out.alloc (by omega) _, ?_⟩
  rcases HP.out with h | ⟨ps', sv', nx', h1, h2, h3, h4⟩
  · exact .inl h
  · exact .inr ⟨ps', sv', nx', h1, h2, h3.below ((Below.refl _ _).alloc (Nat.le_refl _) _), h4⟩
end
end Dp
end Go.Proofs.YtopmodahdmnpjaaGreatDoor
