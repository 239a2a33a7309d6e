import Derived.Test.YtgpemnmopogppaaGreatDoorZUtLQ
import Derived.Test.YtgpemnmopogppaaGreatDoorZDpCaQ
import Derived.Test.YtgpemnmopogppaaGreatDoorZAppsQ
set_option maxRecDepth 1000000
set_option maxHeartbeats 16000000
namespace Go.Proofs.YtgpemnmopogppaaGreatDoor
open Held
open Go.Proofs.Tryz
open Go Go.RowKit
namespace Dp
open Go.Proofs.YtgpemnmopogppaaGreatDoor.Nm (normG keyV rnorm_any)
structure RLst (base : Nat) (w : World) (lb : Nat) (sv : Value) (ps : List PI) (nx : Int) : Prop where
 blk : Blk w lb 84 #[sv, .int .i64 nx]
 owns : w.ownsRow base 39 7 sv ps.length (rowC ps)
 hb : base ≤ lb
theorem RLst.form {base lb : Nat} {w : World} {sv : Value} {ps : List PI} {nx : Int} (h : RLst base w lb sv ps nx) : ∃ A c, sv = .slice A ps.length c := by
 rcases h.owns.2 with ⟨e, h0⟩ | ⟨g, cap, cur, e, _⟩
 · exact ⟨none, 0, by rw [e, h0]⟩
 · exact ⟨_, _, e⟩
theorem RLst.below {base lb : Nat} {w w' : World} {sv : Value} {ps : List PI} {nx : Int} (h : RLst base w lb sv ps nx) (hb : Below w.heap.size w w') : RLst base w' lb sv ps nx := ⟨blk_below h.blk hb, own_below h.owns hb, h.hb⟩
theorem RLst.turn {base b2 lb : Nat} {w : World} {sv sv' : Value} {ps' : List PI} {nx : Int} (hb : Blk w lb 84 #[sv, .int .i64 nx]) (ho : w.ownsRow b2 39 7 sv' ps'.length (rowC ps')) (hlb : base ≤ lb) (h2 : base ≤ b2) :
  RLst base (w.setCell ⟨lb, 0, none⟩ sv') lb sv' ps' nx ∧ Keeps (fun j => j = lb) w (w.setCell ⟨lb, 0, none⟩ sv') := by
 have hk := set_keeps w lb 0 sv'
 have h3 := own_keeps ho hk (row_ne ho hb (by decide))
 exact ⟨⟨hb.set_ 0 _, ⟨h3.1, h3.2.imp id fun ⟨g, cap, cur, e, hg, r⟩ => ⟨g, cap, cur, e, Nat.le_trans h2 hg, r⟩⟩, hlb⟩, hk⟩
theorem RLst.next {base lb : Nat} {w : World} {sv : Value} {ps : List PI} {nx : Int} (h : RLst base w lb sv ps nx) (nx' : Int) : RLst base (w.setCell ⟨lb, 1, none⟩ (.int .i64 nx')) lb sv ps nx' ∧ Keeps (fun j => j = lb) w (w.setCell ⟨lb, 1, none⟩ (.int .i64 nx')) := by
 have hk := set_keeps w lb 1 (.int .i64 nx')
 exact ⟨⟨h.blk.set_ 1 _, own_keeps h.owns hk (row_ne h.owns h.blk (by decide)), h.hb⟩, hk⟩
theorem own_put {w : World} {base g cap i : Nat} {e : TypeId} {ps : List PI} {p : PI} (h : w.ownsRow base e 7 (.slice (some ⟨g, 0, none⟩) ps.length cap) ps.length (rowC ps)) (hp : ps[i]? = some p) (q : PI) :
  ((((w.setCell ⟨g, i * 7 + 3, none⟩ (.int .i64 q.k)).setCell ⟨g, i * 7 + 3 + 1, none⟩ (.int .i64 q.n)).setCell ⟨g, i * 7 + 3 + 2, none⟩ (.string q.t)).setCell ⟨g, i * 7 + 3 + 3, none⟩ (.slice q.A q.l.length q.c)).ownsRow base e 7 (.slice (some ⟨g, 0, none⟩) ps.length cap) (ps.set i (p.put q)).length (rowC (ps.set i (p.put q)))
   ∧ Keeps (fun j => j = g) w ((((w.setCell ⟨g, i * 7 + 3, none⟩ (.int .i64 q.k)).setCell ⟨g, i * 7 + 3 + 1, none⟩ (.int .i64 q.n)).setCell ⟨g, i * 7 + 3 + 2, none⟩ (.string q.t)).setCell ⟨g, i * 7 + 3 + 3, none⟩ (.slice q.A q.l.length q.c)) := by
 have ho := ((((h.stored (i * 7 + 3) (.int .i64 q.k)).1.stored (i * 7 + 4) (.int .i64 q.n)).1.stored (i * 7 + 5) (.string q.t)).1.stored (i * 7 + 6) (.slice q.A q.l.length q.c)).1
 rw [rowC_put ps i p q hp] at ho
 rw [List.length_set]
 exact ⟨ho, (((set_keeps w g (i * 7 + 3) _).trans (set_keeps _ g (i * 7 + 3 + 1) _)).trans (set_keeps _ g (i * 7 + 3 + 2) _)).trans (set_keeps _ g (i * 7 + 3 + 3) _)⟩
theorem below_none {w w' : World} {c : Nat} (h : w.grownBy w' (Value.slice none 0 c).ownBlock) : Below w.heap.size w w' := ⟨h.os, h.tape, h.output, h.size, fun i hi => h.block i hi (by simp [Value.ownBlock])⟩
theorem own_form {w : World} {base : Nat} {e : TypeId} {sz n : Nat} {sv : Value} {xs : List Value} (h : w.ownsRow base e sz sv n xs) : ∃ A c, sv = .slice A n c := by
 rcases h.2 with ⟨e, h0⟩ | ⟨g, cap, cur, e, _⟩
 · exact ⟨none, 0, by rw [e, h0]⟩
 · exact ⟨_, _, e⟩
theorem find_row {w wz : World} {B base : Nat} (hb : Below B w wz) (hBw : B ≤ w.heap.size) {ps : List PI} {A : Option Addr} {c : Nat} (h : wz.ownsRow base 39 7 (.slice A ps.length c) ps.length (rowC ps)) (hv : ∀ q ∈ ps, Vok w B q) (kb : Bool) (ki : Int) (ks : ByteArray) :
  Calls prog 74 #[.slice A ps.length c, .agg #[.bool kb, .int .i64 ki, .string ks]] wz fun e w'' => e = .returned (.int .i64 (findK (ps.map PI.key) (kb, ki, ks) 0)) ∧ Below wz.heap.size wz w'' := by
 have hin : VIn wz (fun b => b < wz.heap.size) (.mk 0 0 ⟨#[]⟩ (ps.map PI.it)) (.agg #[.int .i64 0, .int .i64 0, .string ⟨#[]⟩, .slice A ps.length c]) := vin_row h (fun b _ h2 => h2) (fun p hp => ((VIn.of (hv p hp).2.1).keep (fun b hb' => Nat.lt_of_lt_of_le hb' (Nat.le_trans hBw hb.size)) fun q hq => hb.cell hq)) 0 0 ⟨#[]⟩
 have hlen : (ps.map PI.it).length = ps.length := by simp
 have hall : keysOf (ps.map PI.it) ps.length = ps.map PI.key := by
  unfold keysOf
  rw [← hlen, List.take_length]
  exact keys_of ps
 have key : ∀ x, VIn wz (fun b => b < wz.heap.size) (.mk 0 0 ⟨#[]⟩ (ps.map PI.it)) x → x = (.agg #[.int .i64 0, .int .i64 0, .string ⟨#[]⟩, .slice A ps.length c]) → ∃ (bb off : Nat) (C : Nat → Value), (0 < (ps.map PI.it).length → A = some ⟨bb, off, none⟩ ∧ bb < wz.heap.size) ∧ (∀ i it, (ps.map PI.it)[i]? = some it → ItemAt wz bb (off + i * 7) it (C i)) ∧ ps.length ≤ c ∧ ps.length ≤ 9223372036854775807 := by
  intro x hx hxe
  cases hx with
  | mk _ _ _ _ A' c' bb off C hc hn hA hi hv' =>
   injection hxe with hxe
   have h3 := congrArg (fun a => a[3]?) hxe
   simp at h3
   obtain ⟨rfl, rfl⟩ := h3
   rw [hlen] at hc hn
   exact ⟨bb, off, C, hA, hi, hc, hn⟩
 obtain ⟨bb, off, C, hA, hi, hc, hn⟩ := key _ hin rfl
 have hf := rfind_any (w := wz) (B := wz.heap.size) (Nat.le_refl _) hA hi ps.length c (by rw [hlen]; exact Nat.le_refl _) hc (by rw [hlen]; exact hn) kb ki ks wz (Below.refl _ _)
 rw [hall] at hf
 exact hf
theorem wpList_app_items {ops : Array Oper} {rest : List Oper} {o : Oper} {a : Act} {w : World} {Q : Exit → Act → World → Prop} (hgd : o.guard = none) (s x : Operand)
  (ho : o.op = .call { callee := .builtin .append, args := #[s, x], argTypes := #[23, 23] }) (base : Nat) (hs : a.eval s = .slice none 0 0) (hbase : base ≤ w.heap.size)
  (A : Option Addr) (m c : Nat) (qs : List PI) (hx : a.eval x = .slice A m c) (hr : Reads w w.heap.size 7 A m (rowC qs)) (hsm : m ≤ 1500000000000)
  (h : ∀ v' w', w'.ownsRow base 39 7 v' m (rowC qs) → w.grownBy w' none → wpList prog ops Q rest (a.put o.dst v') w') : wpList prog ops Q (o :: rest) a w := by
 obtain ⟨i0, hi0, hz0, hz1, hz2⟩ := info_parts item_info
 exact wpList_append_any w hgd s x _ ho base 39 i0 _ 7 88 underlying23 hi0 hz0 hz1 hz2 rfl (by decide) (.slice none 0 0) 0 [] hs (World.ownsRow_nil _ _ _ _) w.heap.size A m c (rowC qs) hx hr (rowC_one qs) (by unfold maxLen; omega) (by omega) hbase (fun v' w' h1 h2 _ => h v' w' (by simpa using h1) h2)
section
variable {w : World} {B : Nat}
theorem rset_full (hBw : B ≤ w.heap.size) (w1 : World) (hb : Below B w w1) {base lb : Nat} {sv : Value} {ps : List PI} {nx : Int} (hL : RLst base w1 lb sv ps nx) (p : PI) (hk : In64 p.i) (hs : p.s.size ≤ 140737488351232) (hv : ∀ q ∈ ps, Vok w B q) (hf : findK (ps.map PI.key) (normG p.b p.i p.s) 0 < 0) (hn : 2048 ≤ ps.length) (hn2 : ps.length ≤ 9223372036854775807) :
  Calls prog 48 #[.pointer (some ⟨lb, 0, none⟩), .agg #[.bool p.b, .int .i64 p.i, .string p.s], p.val] w1 fun e w2 => e = .returned (.int .i64 8) ∧ Below w1.heap.size w1 w2 := by
 obtain ⟨ib, ii, is, k, n, t, l, A, c⟩ := p
 simp only [PI.val] at *
 have hKO := normG_key ib ii is hk hs
 obtain ⟨A0, c0, rfl⟩ := hL.form
 have HN := lH (rnorm_any (i := ii) (s := is) (w := (w1.alloc (.cells #[.bool ib, .int .i64 ii, .string is] 37)).alloc (.cells #[.int .i64 k, .int .i64 n, .string t, .slice A l.length c] 25)) ib (by omega))
 have HF := lH hf
 have HKO := lH hKO
 obtain ⟨nb, ni, ns, hnorm⟩ : ∃ nb ni ns, normG ib ii is = (nb, ni, ns) := ⟨_, _, _, rfl⟩
 rw [hnorm] at HN HF HKO
 have HN2 : Hid (Calls prog 73 #[.agg #[.bool ib, .int .i64 ii, .string is]] ((w1.alloc (.cells #[.bool ib, .int .i64 ii, .string is] 37)).alloc (.cells #[.int .i64 k, .int .i64 n, .string t, .slice A l.length c] 25)) fun e w' => e = .returned (.agg #[.bool nb, .int .i64 ni, .string ns]) ∧ Below ((w1.alloc (.cells #[.bool ib, .int .i64 ii, .string is] 37)).alloc (.cells #[.int .i64 k, .int .i64 n, .string t, .slice A l.length c] 25)).heap.size ((w1.alloc (.cells #[.bool ib, .int .i64 ii, .string is] 37)).alloc (.cells #[.int .i64 k, .int .i64 n, .string t, .slice A l.length c] 25)) w') := HN
 have hB1 : B ≤ w1.heap.size := Nat.le_trans hBw hb.size
 have hal := fun (wx : World) (o : Obj) => (Below.refl wx.heap.size wx).alloc (Nat.le_refl _) o
 have HBa := lH (((hal w1 (.cells #[.bool ib, .int .i64 ii, .string is] 37))).alloc (by simp) (.cells #[.int .i64 k, .int .i64 n, .string t, .slice A l.length c] 25))
 have HKa := lH (blk_below (Blk.new w1 37 #[.bool ib, .int .i64 ii, .string is]) (hal _ (.cells #[.int .i64 k, .int .i64 n, .string t, .slice A l.length c] 25)))
 have HVa := lH (Blk.new (w1.alloc (.cells #[.bool ib, .int .i64 ii, .string is] 37)) 25 #[.int .i64 k, .int .i64 n, .string t, .slice A l.length c])
 have hz1 : (w1.alloc (.cells #[.bool ib, .int .i64 ii, .string is] 37)).heap.size = w1.heap.size + 1 := by simp
 rw [hz1] at HVa
 have HL0 := lH hL
 have Hb := lH hb
 have hblt := hL.blk.lt
 have hbb := hL.hb
 have HFd := lH (fun wz (hz : Below B w wz) (hr : wz.ownsRow base 39 7 (.slice A0 ps.length c0) ps.length (rowC ps)) => find_row hz hBw hr hv nb ni ns)
 rw [show findK (ps.map PI.key) (nb, ni, ns) 0 = -1 from by have := (findK_lt (ps.map PI.key) (nb, ni, ns)).2; have h9 := HF.out; omega] at HFd
 clear hL hb hk hs hf hKO hnorm hal hz1 hv HN
 go_enter func48, ntmps48
 go_upto_region 1 with fail
 generalize (w1.alloc (.cells #[.bool ib, .int .i64 ii, .string is] 37)).alloc (.cells #[.int .i64 k, .int .i64 n, .string t, .slice A l.length c] 25) = w2 at *
 have hw2 := HBa.out.size
 have q0 : w2.cell? ⟨w1.heap.size, 0, none⟩ = some (.bool ib) := HKa.out.cell 0
 have q1 : w2.cell? ⟨w1.heap.size, 1, none⟩ = some (.int .i64 ii) := HKa.out.cell 1
 have q2 : w2.cell? ⟨w1.heap.size, 2, none⟩ = some (.string is) := HKa.out.cell 2
 go_upto_region 2 with (go_at_call 73; refine HN2.out.mono ?_; rintro e w3 ⟨rfl, hb3⟩
                        have HB3 := lH hb3; have HK3 := lH (blk_below HKa.out hb3); clear hb3
                        have r0 : w3.cell? ⟨w1.heap.size, 0, none⟩ = some (.bool ib) := HK3.out.cell 0
                        have r1 : w3.cell? ⟨w1.heap.size, 1, none⟩ = some (.int .i64 ii) := HK3.out.cell 1
                        have r2 : w3.cell? ⟨w1.heap.size, 2, none⟩ = some (.string is) := HK3.out.cell 2
                        have rf0 := HK3.out.frozen 0
                        have rf1 := HK3.out.frozen 1
                        have rf2 := HK3.out.frozen 2)
 have HB4 := lH ((((HBa.out.trans (HB3.out.mono hw2)).setCell (p := ⟨w1.heap.size, 0, none⟩) (Nat.le_refl _) (.bool nb)).setCell (p := ⟨w1.heap.size, 1, none⟩) (Nat.le_refl _) (.int .i64 ni)).setCell (p := ⟨w1.heap.size, 2, none⟩) (Nat.le_refl _) (.string ns))
 have HK4 := lH (((HK3.out.set_ 0 (.bool nb)).set_ 1 (.int .i64 ni)).set_ 2 (.string ns))
 have HV4 := lH ((((blk_below HVa.out HB3.out).far (p := ⟨w1.heap.size, 0, none⟩) (by simp) (.bool nb)).far (p := ⟨w1.heap.size, 1, none⟩) (by simp) (.int .i64 ni)).far (p := ⟨w1.heap.size, 2, none⟩) (by simp) (.string ns))
 have HW4 : Hid (((w3.setCell ⟨w1.heap.size, 0, none⟩ (.bool nb)).setCell ⟨w1.heap.size, 1, none⟩ (.int .i64 ni)).setCell ⟨w1.heap.size, 2, none⟩ (.string ns) = ((w3.setCell ⟨w1.heap.size, 0, none⟩ (.bool nb)).setCell ⟨w1.heap.size, 1, none⟩ (.int .i64 ni)).setCell ⟨w1.heap.size, 2, none⟩ (.string ns)) := rfl
 generalize ((w3.setCell ⟨w1.heap.size, 0, none⟩ (.bool nb)).setCell ⟨w1.heap.size, 1, none⟩ (.int .i64 ni)).setCell ⟨w1.heap.size, 2, none⟩ (.string ns) = w4 at *
 have HL4 := lH (HL0.out.below HB4.out)
 clear HW4 HL0 HBa HKa HVa HN2 HB3 HK3 r0 r1 r2 rf0 rf1 rf2 q0 q1 q2 hw2
 have l0 : w4.cell? ⟨lb, 0, none⟩ = some (.slice A0 ps.length c0) := HL4.out.blk.cell 0
 have k0 : w4.cell? ⟨w1.heap.size, 0, none⟩ = some (.bool nb) := HK4.out.cell 0
 have k1 : w4.cell? ⟨w1.heap.size, 1, none⟩ = some (.int .i64 ni) := HK4.out.cell 1
 have k2 : w4.cell? ⟨w1.heap.size, 2, none⟩ = some (.string ns) := HK4.out.cell 2
 go_region_held3 (fun wz => wz.cell? ⟨lb, 0, none⟩ = some (.slice A0 ps.length c0) ∧ wz.cell? ⟨w1.heap.size, 0, none⟩ = some (.bool nb) ∧ wz.cell? ⟨w1.heap.size, 1, none⟩ = some (.int .i64 ni) ∧ wz.cell? ⟨w1.heap.size, 2, none⟩ = some (.string ns)) (first | exact ⟨l0, k0, k1, k2⟩ | exact ⟨m0, j0, j1, j2⟩)
  (first | (go_at_call 74; refine (HFd.out _ (drewU (Hb.out.trans (HB4.out.mono hB1)) 1) (own_below HL4.out.owns (drewU (Below.refl _ _) 1))).mono ?_; rintro e w5 ⟨rfl, hb5⟩; have HB5 : Hid (Below w1.heap.size w1 w5) := HB4.out.trans (((drewU (Below.refl w4.heap.size w4) 1).trans hb5).mono HB4.out.size); have HL5 := lH (HL4.out.below ((drewU (Below.refl w4.heap.size w4) 1).trans hb5)); have HK5 := lH (blk_below HK4.out ((drewU (Below.refl w4.heap.size w4) 1).trans hb5)); have HV5 := lH (blk_below HV4.out ((drewU (Below.refl w4.heap.size w4) 1).trans hb5)); have m0 : w5.cell? ⟨lb, 0, none⟩ = some (.slice A0 ps.length c0) := HL5.out.blk.cell 0; have j0 : w5.cell? ⟨w1.heap.size, 0, none⟩ = some (.bool nb) := HK5.out.cell 0; have j1 : w5.cell? ⟨w1.heap.size, 1, none⟩ = some (.int .i64 ni) := HK5.out.cell 1; have j2 : w5.cell? ⟨w1.heap.size, 2, none⟩ = some (.string ns) := HK5.out.cell 2; clear hb5))
 clear HL4 HK4 HV4 HB4 l0 k0 k1 k2 HFd
 go_wp2_with fail
 go_ret
 exact ⟨rfl, HB5.out.mono (by omega)⟩
theorem rset_found (hBw : B ≤ w.heap.size) (w1 : World) (hb : Below B w w1) {base lb : Nat} {sv : Value} {ps : List PI} {nx : Int} (hL : RLst base w1 lb sv ps nx) (p : PI) (hk : In64 p.i) (hs : p.s.size ≤ 140737488351232) (hv : ∀ q ∈ ps, Vok w B q) (i : Nat) (hf : findK (ps.map PI.key) (normG p.b p.i p.s) 0 = i) (p0 : PI) (hp0 : ps[i]? = some p0) (hn : ps.length ≤ 2048) :
  Calls prog 48 #[.pointer (some ⟨lb, 0, none⟩), .agg #[.bool p.b, .int .i64 p.i, .string p.s], p.val] w1 fun e w2 => e = .returned (.int .i64 0) ∧ (∃ sv', RLst base w2 lb sv' (ps.set i (p0.put p)) nx) ∧ Keeps (fun j => j = lb) w1 w2 := by
 obtain ⟨ib, ii, is, k, n, t, l, A, c⟩ := p
 simp only [PI.val] at *
 have hKO := normG_key ib ii is hk hs
 have hi := (List.getElem?_eq_some_iff.1 hp0).1
 obtain ⟨A0, c0, rfl⟩ := hL.form
 have HP0 := lH hp0
 clear hp0
 have HN := lH (rnorm_any (i := ii) (s := is) (w := (w1.alloc (.cells #[.bool ib, .int .i64 ii, .string is] 37)).alloc (.cells #[.int .i64 k, .int .i64 n, .string t, .slice A l.length c] 25)) ib (by omega))
 have HF := lH hf
 have HKO := lH hKO
 obtain ⟨nb, ni, ns, hnorm⟩ : ∃ nb ni ns, normG ib ii is = (nb, ni, ns) := ⟨_, _, _, rfl⟩
 rw [hnorm] at HN HF HKO
 have HN2 : Hid (Calls prog 73 #[.agg #[.bool ib, .int .i64 ii, .string is]] ((w1.alloc (.cells #[.bool ib, .int .i64 ii, .string is] 37)).alloc (.cells #[.int .i64 k, .int .i64 n, .string t, .slice A l.length c] 25)) fun e w' => e = .returned (.agg #[.bool nb, .int .i64 ni, .string ns]) ∧ Below ((w1.alloc (.cells #[.bool ib, .int .i64 ii, .string is] 37)).alloc (.cells #[.int .i64 k, .int .i64 n, .string t, .slice A l.length c] 25)).heap.size ((w1.alloc (.cells #[.bool ib, .int .i64 ii, .string is] 37)).alloc (.cells #[.int .i64 k, .int .i64 n, .string t, .slice A l.length c] 25)) w') := HN
 have hB1 : B ≤ w1.heap.size := Nat.le_trans hBw hb.size
 have hal := fun (wx : World) (o : Obj) => (Below.refl wx.heap.size wx).alloc (Nat.le_refl _) o
 have HBa := lH (((hal w1 (.cells #[.bool ib, .int .i64 ii, .string is] 37))).alloc (by simp) (.cells #[.int .i64 k, .int .i64 n, .string t, .slice A l.length c] 25))
 have HKa := lH (blk_below (Blk.new w1 37 #[.bool ib, .int .i64 ii, .string is]) (hal _ (.cells #[.int .i64 k, .int .i64 n, .string t, .slice A l.length c] 25)))
 have HVa := lH (Blk.new (w1.alloc (.cells #[.bool ib, .int .i64 ii, .string is] 37)) 25 #[.int .i64 k, .int .i64 n, .string t, .slice A l.length c])
 have hz1 : (w1.alloc (.cells #[.bool ib, .int .i64 ii, .string is] 37)).heap.size = w1.heap.size + 1 := by simp
 rw [hz1] at HVa
 have HL0 := lH hL
 have Hb := lH hb
 have hblt := hL.blk.lt
 have hbb := hL.hb
 have HFd := lH (fun wz (hz : Below B w wz) (hr : wz.ownsRow base 39 7 (.slice A0 ps.length c0) ps.length (rowC ps)) => find_row hz hBw hr hv nb ni ns)
 rw [show findK (ps.map PI.key) (nb, ni, ns) 0 = (i : Int) from HF.out] at HFd
 clear hL hb hk hs hf hKO hnorm hal hz1 hv HN
 go_enter func48, ntmps48
 go_upto_region 1 with fail
 generalize (w1.alloc (.cells #[.bool ib, .int .i64 ii, .string is] 37)).alloc (.cells #[.int .i64 k, .int .i64 n, .string t, .slice A l.length c] 25) = w2 at *
 have hw2 := HBa.out.size
 have q0 : w2.cell? ⟨w1.heap.size, 0, none⟩ = some (.bool ib) := HKa.out.cell 0
 have q1 : w2.cell? ⟨w1.heap.size, 1, none⟩ = some (.int .i64 ii) := HKa.out.cell 1
 have q2 : w2.cell? ⟨w1.heap.size, 2, none⟩ = some (.string is) := HKa.out.cell 2
 go_upto_region 2 with (go_at_call 73; refine HN2.out.mono ?_; rintro e w3 ⟨rfl, hb3⟩
                        have HB3 := lH hb3; have HK3 := lH (blk_below HKa.out hb3); clear hb3
                        have r0 : w3.cell? ⟨w1.heap.size, 0, none⟩ = some (.bool ib) := HK3.out.cell 0
                        have r1 : w3.cell? ⟨w1.heap.size, 1, none⟩ = some (.int .i64 ii) := HK3.out.cell 1
                        have r2 : w3.cell? ⟨w1.heap.size, 2, none⟩ = some (.string is) := HK3.out.cell 2
                        have rf0 := HK3.out.frozen 0
                        have rf1 := HK3.out.frozen 1
                        have rf2 := HK3.out.frozen 2)
 have HB4 := lH ((((HBa.out.trans (HB3.out.mono hw2)).setCell (p := ⟨w1.heap.size, 0, none⟩) (Nat.le_refl _) (.bool nb)).setCell (p := ⟨w1.heap.size, 1, none⟩) (Nat.le_refl _) (.int .i64 ni)).setCell (p := ⟨w1.heap.size, 2, none⟩) (Nat.le_refl _) (.string ns))
 have HK4 := lH (((HK3.out.set_ 0 (.bool nb)).set_ 1 (.int .i64 ni)).set_ 2 (.string ns))
 have HV4 := lH ((((blk_below HVa.out HB3.out).far (p := ⟨w1.heap.size, 0, none⟩) (by simp) (.bool nb)).far (p := ⟨w1.heap.size, 1, none⟩) (by simp) (.int .i64 ni)).far (p := ⟨w1.heap.size, 2, none⟩) (by simp) (.string ns))
 have HW4 : Hid (((w3.setCell ⟨w1.heap.size, 0, none⟩ (.bool nb)).setCell ⟨w1.heap.size, 1, none⟩ (.int .i64 ni)).setCell ⟨w1.heap.size, 2, none⟩ (.string ns) = ((w3.setCell ⟨w1.heap.size, 0, none⟩ (.bool nb)).setCell ⟨w1.heap.size, 1, none⟩ (.int .i64 ni)).setCell ⟨w1.heap.size, 2, none⟩ (.string ns)) := rfl
 generalize ((w3.setCell ⟨w1.heap.size, 0, none⟩ (.bool nb)).setCell ⟨w1.heap.size, 1, none⟩ (.int .i64 ni)).setCell ⟨w1.heap.size, 2, none⟩ (.string ns) = w4 at *
 have HL4 := lH (HL0.out.below HB4.out)
 clear HW4 HL0 HBa HKa HVa HN2 HB3 HK3 r0 r1 r2 rf0 rf1 rf2 q0 q1 q2 hw2
 have l0 : w4.cell? ⟨lb, 0, none⟩ = some (.slice A0 ps.length c0) := HL4.out.blk.cell 0
 have k0 : w4.cell? ⟨w1.heap.size, 0, none⟩ = some (.bool nb) := HK4.out.cell 0
 have k1 : w4.cell? ⟨w1.heap.size, 1, none⟩ = some (.int .i64 ni) := HK4.out.cell 1
 have k2 : w4.cell? ⟨w1.heap.size, 2, none⟩ = some (.string ns) := HK4.out.cell 2
 go_region_held3 (fun wz => wz.cell? ⟨lb, 0, none⟩ = some (.slice A0 ps.length c0) ∧ wz.cell? ⟨w1.heap.size, 0, none⟩ = some (.bool nb) ∧ wz.cell? ⟨w1.heap.size, 1, none⟩ = some (.int .i64 ni) ∧ wz.cell? ⟨w1.heap.size, 2, none⟩ = some (.string ns)) (first | exact ⟨l0, k0, k1, k2⟩ | exact ⟨m0, j0, j1, j2⟩)
  (first | (go_at_call 74; refine (HFd.out _ (drewU (Hb.out.trans (HB4.out.mono hB1)) 1) (own_below HL4.out.owns (drewU (Below.refl _ _) 1))).mono ?_; rintro e w5 ⟨rfl, hb5⟩; have HB5 : Hid (Below w1.heap.size w1 w5) := HB4.out.trans (((drewU (Below.refl w4.heap.size w4) 1).trans hb5).mono HB4.out.size); have HL5 := lH (HL4.out.below ((drewU (Below.refl w4.heap.size w4) 1).trans hb5)); have HK5 := lH (blk_below HK4.out ((drewU (Below.refl w4.heap.size w4) 1).trans hb5)); have HV5 := lH (blk_below HV4.out ((drewU (Below.refl w4.heap.size w4) 1).trans hb5)); have m0 : w5.cell? ⟨lb, 0, none⟩ = some (.slice A0 ps.length c0) := HL5.out.blk.cell 0; have j0 : w5.cell? ⟨w1.heap.size, 0, none⟩ = some (.bool nb) := HK5.out.cell 0; have j1 : w5.cell? ⟨w1.heap.size, 1, none⟩ = some (.int .i64 ni) := HK5.out.cell 1; have j2 : w5.cell? ⟨w1.heap.size, 2, none⟩ = some (.string ns) := HK5.out.cell 2; clear hb5))
 clear HL4 HK4 HV4 HB4 l0 k0 k1 k2 HFd
 obtain ⟨g, cap, hv, hbg, hgl⟩ := HL5.out.owns.form (by omega)
 injection hv with e1 _ e3
 subst e1 e3
 have h5s := HB5.out.size
 go_upto_region 5 with (at_builtin; refine wpList_app_items rfl (.const (.slice none 0 0)) (.tmp 22) rfl w1.heap.size rfl (by omega) (some ⟨g, 0, none⟩) ps.length c0 ps rfl (Reads.of_own HL5.out.owns) (by omega) ?_; intro v6 w6 hown6 hg6; have HO6 := lH hown6; have HG6 := lH hg6; clear hown6 hg6)
 obtain ⟨g6, cap6, rfl, hb6, hl6⟩ := HO6.out.form (by omega)
 have HB6 := lH (HB5.out.grown HG6.out (by omega) (fun gg e => by cases e))
 have HBl6 := lH (HL5.out.blk.grown HG6.out (by simp))
 have HV6 := lH (HV5.out.grown HG6.out (by simp))
 have v0 : w6.cell? ⟨w1.heap.size + 1, 0, none⟩ = some (.int .i64 k) := HV6.out.cell 0
 have v1 : w6.cell? ⟨w1.heap.size + 1, 1, none⟩ = some (.int .i64 n) := HV6.out.cell 1
 have v2 : w6.cell? ⟨w1.heap.size + 1, 2, none⟩ = some (.string t) := HV6.out.cell 2
 have v3 : w6.cell? ⟨w1.heap.size + 1, 3, none⟩ = some (.slice A l.length c) := HV6.out.cell 3
 have hc : ∀ r, r < 7 → ∀ u, p0.cells[r]? = some u → w6.cell? ⟨g6, i * 7 + r, none⟩ = some u := fun r hr u hu => addr_add0 (HO6.out.cells (g := g6) rfl (i * 7 + r) u ((rowC_get ps i p0 HP0.out r hr).trans hu))
 have s3 := hc 3 (by decide) _ rfl
 have s4 := hc 4 (by decide) _ rfl
 have s5 := hc 5 (by decide) _ rfl
 have s6 := hc 6 (by decide) _ rfl
 have sf3 := HO6.out.frozenAt (i * 7 + 3)
 have sf4 := HO6.out.frozenAt (i * 7 + 4)
 have sf5 := HO6.out.frozenAt (i * 7 + 5)
 have sf6 := HO6.out.frozenAt (i * 7 + 6)
 have hix : (i : Int) < (ps.length : Int) := by omega
 have HPt := lH (own_put HO6.out HP0.out ⟨ib, ii, is, k, n, t, l, A, c⟩)
 clear hc HL5 HK5 HV5 HG6 HV6 HB5
 go_upto_region 6 with fail
 have hne := row_ne HO6.out HBl6.out (by decide)
 have HBl7 := lH (HBl6.out.keeps HPt.out.2 (fun e => hne (by rw [e]; rfl)))
 have HB7 := lH (HB6.out.trans (HPt.out.2.below (by omega) (fun j e => by rw [e]; exact hb6)))
 have HO7 := lH HPt.out.1
 clear HPt
 dsimp only at HBl7 HB7 HO7
 generalize (((w6.setCell ⟨g6, i * 7 + 3, none⟩ (.int .i64 k)).setCell ⟨g6, i * 7 + 3 + 1, none⟩ (.int .i64 n)).setCell ⟨g6, i * 7 + 3 + 2, none⟩ (.string t)).setCell ⟨g6, i * 7 + 3 + 3, none⟩ (.slice A l.length c) = w7 at *
 have l0 : w7.cell? ⟨lb, 0, none⟩ = some (.slice (some ⟨g, 0, none⟩) ps.length c0) := HBl7.out.cell 0
 have lf0 := HBl7.out.frozen 0
 have HT := lH (RLst.turn HBl7.out HO7.out hbb (by omega))
 go_wp2_with fail
 go_ret
 exact ⟨rfl, ⟨_, HT.out.1⟩, (Keeps.of_below HB7.out).trans HT.out.2⟩
theorem rset_new (hBw : B ≤ w.heap.size) (w1 : World) (hb : Below B w w1) {base lb : Nat} {sv : Value} {ps : List PI} {nx : Int} (hL : RLst base w1 lb sv ps nx) (p : PI) (hk : In64 p.i) (hs : p.s.size ≤ 140737488351232) (hv : ∀ q ∈ ps, Vok w B q) (hf : findK (ps.map PI.key) (normG p.b p.i p.s) 0 < 0) (hn : ps.length < 2048) (_hnx : In64 nx) :
  Calls prog 48 #[.pointer (some ⟨lb, 0, none⟩), .agg #[.bool p.b, .int .i64 p.i, .string p.s], p.val] w1 fun e w2 => e = .returned (.int .i64 0) ∧ (∃ sv', RLst base w2 lb sv' (ps ++ [PI.key_ p (normG p.b p.i p.s)]) (nextK nx (normG p.b p.i p.s))) ∧ Keeps (fun j => j = lb) w1 w2 := by
 obtain ⟨ib, ii, is, k, n, t, l, A, c⟩ := p
 simp only [PI.val] at *
 have hKO := normG_key ib ii is hk hs
 obtain ⟨A0, c0, rfl⟩ := hL.form
 have HN := lH (rnorm_any (i := ii) (s := is) (w := (w1.alloc (.cells #[.bool ib, .int .i64 ii, .string is] 37)).alloc (.cells #[.int .i64 k, .int .i64 n, .string t, .slice A l.length c] 25)) ib (by omega))
 have HF := lH hf
 have HKO := lH hKO
 obtain ⟨nb, ni, ns, hnorm⟩ : ∃ nb ni ns, normG ib ii is = (nb, ni, ns) := ⟨_, _, _, rfl⟩
 rw [hnorm] at HN HF HKO ⊢
 have HN2 : Hid (Calls prog 73 #[.agg #[.bool ib, .int .i64 ii, .string is]] ((w1.alloc (.cells #[.bool ib, .int .i64 ii, .string is] 37)).alloc (.cells #[.int .i64 k, .int .i64 n, .string t, .slice A l.length c] 25)) fun e w' => e = .returned (.agg #[.bool nb, .int .i64 ni, .string ns]) ∧ Below ((w1.alloc (.cells #[.bool ib, .int .i64 ii, .string is] 37)).alloc (.cells #[.int .i64 k, .int .i64 n, .string t, .slice A l.length c] 25)).heap.size ((w1.alloc (.cells #[.bool ib, .int .i64 ii, .string is] 37)).alloc (.cells #[.int .i64 k, .int .i64 n, .string t, .slice A l.length c] 25)) w') := HN
 have hB1 : B ≤ w1.heap.size := Nat.le_trans hBw hb.size
 have hal := fun (wx : World) (o : Obj) => (Below.refl wx.heap.size wx).alloc (Nat.le_refl _) o
 have HBa := lH (((hal w1 (.cells #[.bool ib, .int .i64 ii, .string is] 37))).alloc (by simp) (.cells #[.int .i64 k, .int .i64 n, .string t, .slice A l.length c] 25))
 have HKa := lH (blk_below (Blk.new w1 37 #[.bool ib, .int .i64 ii, .string is]) (hal _ (.cells #[.int .i64 k, .int .i64 n, .string t, .slice A l.length c] 25)))
 have HVa := lH (Blk.new (w1.alloc (.cells #[.bool ib, .int .i64 ii, .string is] 37)) 25 #[.int .i64 k, .int .i64 n, .string t, .slice A l.length c])
 have hz1 : (w1.alloc (.cells #[.bool ib, .int .i64 ii, .string is] 37)).heap.size = w1.heap.size + 1 := by simp
 rw [hz1] at HVa
 have HL0 := lH hL
 have Hb := lH hb
 have hblt := hL.blk.lt
 have hbb := hL.hb
 have HFd := lH (fun wz (hz : Below B w wz) (hr : wz.ownsRow base 39 7 (.slice A0 ps.length c0) ps.length (rowC ps)) => find_row hz hBw hr hv nb ni ns)
 rw [show findK (ps.map PI.key) (nb, ni, ns) 0 = -1 from by have := (findK_lt (ps.map PI.key) (nb, ni, ns)).2; have h9 := HF.out; omega] at HFd
 clear hL hb hk hs hf hKO hnorm hal hz1 hv HN
 go_enter func48, ntmps48
 go_upto_region 1 with fail
 generalize (w1.alloc (.cells #[.bool ib, .int .i64 ii, .string is] 37)).alloc (.cells #[.int .i64 k, .int .i64 n, .string t, .slice A l.length c] 25) = w2 at *
 have hw2 := HBa.out.size
 have q0 : w2.cell? ⟨w1.heap.size, 0, none⟩ = some (.bool ib) := HKa.out.cell 0
 have q1 : w2.cell? ⟨w1.heap.size, 1, none⟩ = some (.int .i64 ii) := HKa.out.cell 1
 have q2 : w2.cell? ⟨w1.heap.size, 2, none⟩ = some (.string is) := HKa.out.cell 2
 go_upto_region 2 with (go_at_call 73; refine HN2.out.mono ?_; rintro e w3 ⟨rfl, hb3⟩
                        have HB3 := lH hb3; have HK3 := lH (blk_below HKa.out hb3); clear hb3
                        have r0 : w3.cell? ⟨w1.heap.size, 0, none⟩ = some (.bool ib) := HK3.out.cell 0
                        have r1 : w3.cell? ⟨w1.heap.size, 1, none⟩ = some (.int .i64 ii) := HK3.out.cell 1
                        have r2 : w3.cell? ⟨w1.heap.size, 2, none⟩ = some (.string is) := HK3.out.cell 2
                        have rf0 := HK3.out.frozen 0
                        have rf1 := HK3.out.frozen 1
                        have rf2 := HK3.out.frozen 2)
 have HB4 := lH ((((HBa.out.trans (HB3.out.mono hw2)).setCell (p := ⟨w1.heap.size, 0, none⟩) (Nat.le_refl _) (.bool nb)).setCell (p := ⟨w1.heap.size, 1, none⟩) (Nat.le_refl _) (.int .i64 ni)).setCell (p := ⟨w1.heap.size, 2, none⟩) (Nat.le_refl _) (.string ns))
 have HK4 := lH (((HK3.out.set_ 0 (.bool nb)).set_ 1 (.int .i64 ni)).set_ 2 (.string ns))
 have HV4 := lH ((((blk_below HVa.out HB3.out).far (p := ⟨w1.heap.size, 0, none⟩) (by simp) (.bool nb)).far (p := ⟨w1.heap.size, 1, none⟩) (by simp) (.int .i64 ni)).far (p := ⟨w1.heap.size, 2, none⟩) (by simp) (.string ns))
 have HW4 : Hid (((w3.setCell ⟨w1.heap.size, 0, none⟩ (.bool nb)).setCell ⟨w1.heap.size, 1, none⟩ (.int .i64 ni)).setCell ⟨w1.heap.size, 2, none⟩ (.string ns) = ((w3.setCell ⟨w1.heap.size, 0, none⟩ (.bool nb)).setCell ⟨w1.heap.size, 1, none⟩ (.int .i64 ni)).setCell ⟨w1.heap.size, 2, none⟩ (.string ns)) := rfl
 generalize ((w3.setCell ⟨w1.heap.size, 0, none⟩ (.bool nb)).setCell ⟨w1.heap.size, 1, none⟩ (.int .i64 ni)).setCell ⟨w1.heap.size, 2, none⟩ (.string ns) = w4 at *
 have HL4 := lH (HL0.out.below HB4.out)
 clear HW4 HL0 HBa HKa HVa HN2 HB3 HK3 r0 r1 r2 rf0 rf1 rf2 q0 q1 q2 hw2
 have l0 : w4.cell? ⟨lb, 0, none⟩ = some (.slice A0 ps.length c0) := HL4.out.blk.cell 0
 have k0 : w4.cell? ⟨w1.heap.size, 0, none⟩ = some (.bool nb) := HK4.out.cell 0
 have k1 : w4.cell? ⟨w1.heap.size, 1, none⟩ = some (.int .i64 ni) := HK4.out.cell 1
 have k2 : w4.cell? ⟨w1.heap.size, 2, none⟩ = some (.string ns) := HK4.out.cell 2
 go_region_held3 (fun wz => wz.cell? ⟨lb, 0, none⟩ = some (.slice A0 ps.length c0) ∧ wz.cell? ⟨w1.heap.size, 0, none⟩ = some (.bool nb) ∧ wz.cell? ⟨w1.heap.size, 1, none⟩ = some (.int .i64 ni) ∧ wz.cell? ⟨w1.heap.size, 2, none⟩ = some (.string ns)) (first | exact ⟨l0, k0, k1, k2⟩ | exact ⟨m0, j0, j1, j2⟩)
  (first | (go_at_call 74; refine (HFd.out _ (drewU (Hb.out.trans (HB4.out.mono hB1)) 1) (own_below HL4.out.owns (drewU (Below.refl _ _) 1))).mono ?_; rintro e w5 ⟨rfl, hb5⟩; have HB5 : Hid (Below w1.heap.size w1 w5) := HB4.out.trans (((drewU (Below.refl w4.heap.size w4) 1).trans hb5).mono HB4.out.size); have HL5 := lH (HL4.out.below ((drewU (Below.refl w4.heap.size w4) 1).trans hb5)); have HK5 := lH (blk_below HK4.out ((drewU (Below.refl w4.heap.size w4) 1).trans hb5)); have HV5 := lH (blk_below HV4.out ((drewU (Below.refl w4.heap.size w4) 1).trans hb5)); have m0 : w5.cell? ⟨lb, 0, none⟩ = some (.slice A0 ps.length c0) := HL5.out.blk.cell 0; have j0 : w5.cell? ⟨w1.heap.size, 0, none⟩ = some (.bool nb) := HK5.out.cell 0; have j1 : w5.cell? ⟨w1.heap.size, 1, none⟩ = some (.int .i64 ni) := HK5.out.cell 1; have j2 : w5.cell? ⟨w1.heap.size, 2, none⟩ = some (.string ns) := HK5.out.cell 2; clear hb5))
 clear HL4 HK4 HV4 HB4 l0 k0 k1 k2 HFd
 go_upto_region 10 with fail
 have n5 : w1.heap.size ≠ lb := by omega
 have n6 : w1.heap.size + 1 ≠ lb := by omega
 have HbS : Hid (w1.heap.size ≤ w5.heap.size) := by
  have := HB5.out.size
  show _ ≤ _
  omega
 go_cut [] (fun wx => ∃ sv', Hid (RLst base wx lb sv' (ps ++ [⟨nb, ni, ns, k, n, t, l, A, c⟩]) nx) ∧ Hid (Keeps (fun j => j = lb) w1 wx) ∧ Hid (Blk wx w1.heap.size 37 #[.bool nb, .int .i64 ni, .string ns]))
 case first =>
  have m0a : (w5.alloc (.cells #[.bool nb, .int .i64 ni, .string ns, .int .i64 k, .int .i64 n, .string t, .slice A l.length c] 39)).cell? ⟨lb, 0, none⟩ = some (.slice A0 ps.length c0) := (HL5.out.blk.alloc _).cell 0
  refine wp_region_held_drew (S := (fun wz => wz.cell? ⟨w1.heap.size, 0, none⟩ = some (.bool nb) ∧ wz.cell? ⟨w1.heap.size, 1, none⟩ = some (.int .i64 ni) ∧ wz.cell? ⟨w1.heap.size, 2, none⟩ = some (.string ns) ∧ wz.cell? ⟨w1.heap.size + 1, 0, none⟩ = some (.int .i64 k) ∧ wz.cell? ⟨w1.heap.size + 1, 1, none⟩ = some (.int .i64 n) ∧ wz.cell? ⟨w1.heap.size + 1, 2, none⟩ = some (.string t) ∧ wz.cell? ⟨w1.heap.size + 1, 3, none⟩ = some (.slice A l.length c))) (by kernel_rfl) ?_ (fun hHeld => ?_)
  · exact skv HK5.out.drew HV5.out.drew
  refine hdt (v := ?v1) op0 ?_
  try simp only [hdq]
  refine hdt (v := ?v2) op1 ?_
  try simp only [hdq]
  refine hdt (v := ?v3) op2 ?_
  try simp only [hdq]
  refine hdt (v := ?v4) op3 ?_
  try simp only [hdq]
  refine hdt (v := ?v5) op6 ?_
  try simp only [hdq]
  refine hdt (v := ?v6) op7 ?_
  try simp only [hdq]
  refine hdt (v := ?v7) op8 ?_
  try simp only [hdq]
  refine hdr2 op4 (fun K hK => ?_) op9 (fun K hK => ?_)
  · go_simp
    refine hK.out _ _ ?_ (fun hHeld => ?_)
    · exact skv HK5.out.drew HV5.out.drew
    clear hK K
    try simp only [hdq]
    refine hdr2 op5 (fun K hK => ?_) op9 (fun K hK => ?_)
    · refine step_app_item rfl (.const (.slice none 0 0)) (.tmp 43) rfl w1.heap.size (.slice none 0 0) [] rfl (World.ownsRow_nil _ _ _ _) ?_ A0 ps.length c0 ps rfl (Reads.of_own (own_below HL5.out.owns (drewU (Below.refl w5.heap.size w5) 1))) ?_ ?_
      · have h9 : w5.heap.size ≤ _ := ((drewU (Below.refl w5.heap.size w5) 1)).size
        exact Nat.le_trans HbS.out h9
      · simp only [List.length_nil]
        omega
      intro v6 w6 hown6 hg6 hor6
      have HB6 : Hid (Below w5.heap.size w5 w6) := (drewU (Below.refl w5.heap.size w5) 1).trans ((below_none hg6).mono ((drewU (Below.refl w5.heap.size w5) 1)).size)
      have HO6 : Hid (w6.ownsRow w1.heap.size 39 7 v6 ps.length (rowC ps)) := by
       show World.ownsRow _ _ _ _ _ _ _
       simpa [rowC] using hown6
      obtain ⟨A6, c6, rfl⟩ := own_form HO6.out
      have HK6 := lH (blk_below HK5.out HB6.out)
      have HV6 := lH (blk_below HV5.out HB6.out)
      clear hown6 hg6 hor6
      refine hK.out _ _ ?_ (fun hHeld => ?_)
      · exact skv HK6.out HV6.out
      clear hK K
      try simp only [hdq]
      refine hdr1 op9 (fun K hK => ?_)
      go_simp
      refine hK.out _ _ ?_ (fun hHeld => ?_)
      · exact skv (HK6.out.alloc _) (HV6.out.alloc _)
      clear hK K
      try simp only [hdq]
      refine hdr1 op10 (fun K hK => ?_)
      refine step_app_item rfl (.tmp 44) (.tmp 48) rfl w1.heap.size (.slice A6 ps.length c6) ps rfl (HO6.out.alloc _) ?_ (some ⟨w6.heap.size, 0, none⟩) 1 1 [⟨nb, ni, ns, k, n, t, l, A, c⟩] rfl (reads_one (p := ⟨nb, ni, ns, k, n, t, l, A, c⟩) (Blk.new w6 _ _)) (by omega) ?_
      · exact Nat.le_trans HbS.out (HB6.out.alloc HB6.out.size (.cells #[.bool nb, .int .i64 ni, .string ns, .int .i64 k, .int .i64 n, .string t, .slice A l.length c] 39)).size
      intro v7 w7 hown7 hg7 hor7
      obtain ⟨g7, cap7, rfl, hg7a, hg7b⟩ := hown7.form (Nat.succ_pos _)
      have HO7 : Hid (w7.ownsRow w1.heap.size 39 7 (.slice (some ⟨g7, 0, none⟩) (ps.length + 1) cap7) (ps ++ [(⟨nb, ni, ns, k, n, t, l, A, c⟩ : PI)]).length (rowC (ps ++ [(⟨nb, ni, ns, k, n, t, l, A, c⟩ : PI)]))) := by
       show World.ownsRow _ _ _ _ _ _ _
       rw [List.length_append, rowC_app]
       simpa [rowC] using hown7
      have HBl7 := lH ((blk_below HL5.out.blk (HB6.out.alloc HB6.out.size (.cells #[.bool nb, .int .i64 ni, .string ns, .int .i64 k, .int .i64 n, .string t, .slice A l.length c] 39))).grown hg7 (row_ne (HO6.out.alloc _) (blk_below HL5.out.blk (HB6.out.alloc HB6.out.size (.cells #[.bool nb, .int .i64 ni, .string ns, .int .i64 k, .int .i64 n, .string t, .slice A l.length c] 39))) (by decide)))
      have HKk7 := lH ((blk_below HK5.out (HB6.out.alloc HB6.out.size (.cells #[.bool nb, .int .i64 ni, .string ns, .int .i64 k, .int .i64 n, .string t, .slice A l.length c] 39))).grown hg7 (row_ne (HO6.out.alloc _) (blk_below HK5.out (HB6.out.alloc HB6.out.size (.cells #[.bool nb, .int .i64 ni, .string ns, .int .i64 k, .int .i64 n, .string t, .slice A l.length c] 39))) (by decide)))
      have HVk7 := lH ((blk_below HV5.out (HB6.out.alloc HB6.out.size (.cells #[.bool nb, .int .i64 ni, .string ns, .int .i64 k, .int .i64 n, .string t, .slice A l.length c] 39))).grown hg7 (row_ne (HO6.out.alloc _) (blk_below HV5.out (HB6.out.alloc HB6.out.size (.cells #[.bool nb, .int .i64 ni, .string ns, .int .i64 k, .int .i64 n, .string t, .slice A l.length c] 39))) (by decide)))
      have HB7 := lH ((HB5.out.trans ((HB6.out.alloc HB6.out.size (.cells #[.bool nb, .int .i64 ni, .string ns, .int .i64 k, .int .i64 n, .string t, .slice A l.length c] 39)).mono HbS.out)).grown hg7 (Nat.le_trans HbS.out (HB6.out.alloc HB6.out.size (.cells #[.bool nb, .int .i64 ni, .string ns, .int .i64 k, .int .i64 n, .string t, .slice A l.length c] 39)).size) (fun gb e => (HO6.out.lt gb e).1))
      have HT := lH (RLst.turn HBl7.out HO7.out hbb (by omega))
      have x2 : w7.cell? ⟨lb, 0, none⟩ = some (.slice A0 ps.length c0) := HBl7.out.cell 0
      have xf2 := HBl7.out.frozen 0
      clear hown7 hg7 hor7
      refine hK.out _ _ ?_ (fun hHeld => ?_)
      · exact skv HKk7.out HVk7.out
      clear hK K
      try simp only [hdq]
      refine hdt (v := ?v8) op11 ?_
      try simp only [hdq]
      refine hdt (v := ?v9) op12 ?_
      try simp only [hdq]
      refine hdr1 op13 (fun K hK => ?_)
      go_simp
      refine hK.out _ _ ?_ (fun hHeld => ?_)
      · exact skv (HKk7.out.far n5 _) (HVk7.out.far n6 _)
      clear hK K
      try simp only [hdq]
      refine wpAnyH_done (by kernel_rfl) ?_ _
      go_wp2_with fail
      go_meet
      exact ⟨_, HT.out.1, (Keeps.of_below HB7.out).trans HT.out.2, HKk7.out.far n5 _⟩
    · go_simp
      refine hK.out _ _ ?_ (fun hHeld => ?_)
      · exact skv (HK5.out.drew.alloc _) (HV5.out.drew.alloc _)
      clear hK K
      try simp only [hdq]
      refine hdr1 op5 (fun K hK => ?_)
      refine step_app_item rfl (.const (.slice none 0 0)) (.tmp 43) rfl w1.heap.size (.slice none 0 0) [] rfl (World.ownsRow_nil _ _ _ _) ?_ A0 ps.length c0 ps rfl (Reads.of_own (own_below HL5.out.owns (drewU ((Below.refl w5.heap.size w5).alloc (Nat.le_refl _) (.cells #[.bool nb, .int .i64 ni, .string ns, .int .i64 k, .int .i64 n, .string t, .slice A l.length c] 39)) 1))) ?_ ?_
      · have h9 : w5.heap.size ≤ _ := ((drewU ((Below.refl w5.heap.size w5).alloc (Nat.le_refl _) (.cells #[.bool nb, .int .i64 ni, .string ns, .int .i64 k, .int .i64 n, .string t, .slice A l.length c] 39)) 1)).size
        exact Nat.le_trans HbS.out h9
      · simp only [List.length_nil]
        omega
      intro v6 w6 hown6 hg6 hor6
      have HB6 : Hid (Below w5.heap.size w5 w6) := (drewU ((Below.refl w5.heap.size w5).alloc (Nat.le_refl _) (.cells #[.bool nb, .int .i64 ni, .string ns, .int .i64 k, .int .i64 n, .string t, .slice A l.length c] 39)) 1).trans ((below_none hg6).mono ((drewU ((Below.refl w5.heap.size w5).alloc (Nat.le_refl _) (.cells #[.bool nb, .int .i64 ni, .string ns, .int .i64 k, .int .i64 n, .string t, .slice A l.length c] 39)) 1)).size)
      have HO6 : Hid (w6.ownsRow w1.heap.size 39 7 v6 ps.length (rowC ps)) := by
       show World.ownsRow _ _ _ _ _ _ _
       simpa [rowC] using hown6
      obtain ⟨A6, c6, rfl⟩ := own_form HO6.out
      have HZ6 : Hid (Blk w6 w5.heap.size 39 #[.bool nb, .int .i64 ni, .string ns, .int .i64 k, .int .i64 n, .string t, .slice A l.length c]) := blk_below (Blk.drew (Blk.new w5 _ _)) (below_none hg6)
      have HK6 := lH (blk_below HK5.out HB6.out)
      have HV6 := lH (blk_below HV5.out HB6.out)
      clear hown6 hg6 hor6
      refine hK.out _ _ ?_ (fun hHeld => ?_)
      · exact skv HK6.out HV6.out
      clear hK K
      try simp only [hdq]
      refine hdr1 op10 (fun K hK => ?_)
      refine step_app_item rfl (.tmp 44) (.tmp 48) rfl w1.heap.size (.slice A6 ps.length c6) ps rfl HO6.out ?_ (some ⟨w5.heap.size, 0, none⟩) 1 1 [⟨nb, ni, ns, k, n, t, l, A, c⟩] rfl (reads_one (p := ⟨nb, ni, ns, k, n, t, l, A, c⟩) HZ6.out) (by omega) ?_
      · exact Nat.le_trans HbS.out HB6.out.size
      intro v7 w7 hown7 hg7 hor7
      obtain ⟨g7, cap7, rfl, hg7a, hg7b⟩ := hown7.form (Nat.succ_pos _)
      have HO7 : Hid (w7.ownsRow w1.heap.size 39 7 (.slice (some ⟨g7, 0, none⟩) (ps.length + 1) cap7) (ps ++ [(⟨nb, ni, ns, k, n, t, l, A, c⟩ : PI)]).length (rowC (ps ++ [(⟨nb, ni, ns, k, n, t, l, A, c⟩ : PI)]))) := by
       show World.ownsRow _ _ _ _ _ _ _
       rw [List.length_append, rowC_app]
       simpa [rowC] using hown7
      have HBl7 := lH ((blk_below HL5.out.blk HB6.out).grown hg7 (row_ne HO6.out (blk_below HL5.out.blk HB6.out) (by decide)))
      have HKk7 := lH ((blk_below HK5.out HB6.out).grown hg7 (row_ne HO6.out (blk_below HK5.out HB6.out) (by decide)))
      have HVk7 := lH ((blk_below HV5.out HB6.out).grown hg7 (row_ne HO6.out (blk_below HV5.out HB6.out) (by decide)))
      have HB7 := lH ((HB5.out.trans (HB6.out.mono HbS.out)).grown hg7 (Nat.le_trans HbS.out HB6.out.size) (fun gb e => (HO6.out.lt gb e).1))
      have HT := lH (RLst.turn HBl7.out HO7.out hbb (by omega))
      have x2 : w7.cell? ⟨lb, 0, none⟩ = some (.slice A0 ps.length c0) := HBl7.out.cell 0
      have xf2 := HBl7.out.frozen 0
      clear hown7 hg7 hor7
      refine hK.out _ _ ?_ (fun hHeld => ?_)
      · exact skv HKk7.out HVk7.out
      clear hK K
      try simp only [hdq]
      refine hdt (v := ?v10) op11 ?_
      try simp only [hdq]
      refine hdt (v := ?v11) op12 ?_
      try simp only [hdq]
      refine hdr1 op13 (fun K hK => ?_)
      go_simp
      refine hK.out _ _ ?_ (fun hHeld => ?_)
      · exact skv (HKk7.out.far n5 _) (HVk7.out.far n6 _)
      clear hK K
      try simp only [hdq]
      refine wpAnyH_done (by kernel_rfl) ?_ _
      go_wp2_with fail
      go_meet
      exact ⟨_, HT.out.1, (Keeps.of_below HB7.out).trans HT.out.2, HKk7.out.far n5 _⟩
  · go_simp
    refine hK.out _ _ ?_ (fun hHeld => ?_)
    · exact skv (HK5.out.drew.alloc _) (HV5.out.drew.alloc _)
    clear hK K
    try simp only [hdq]
    refine hdr1 op4 (fun K hK => ?_)
    go_simp
    refine hK.out _ _ ?_ (fun hHeld => ?_)
    · exact skv (HK5.out.drew.alloc _) (HV5.out.drew.alloc _)
    clear hK K
    try simp only [hdq]
    refine hdr1 op5 (fun K hK => ?_)
    refine step_app_item rfl (.const (.slice none 0 0)) (.tmp 43) rfl w1.heap.size (.slice none 0 0) [] rfl (World.ownsRow_nil _ _ _ _) ?_ A0 ps.length c0 ps rfl (Reads.of_own (own_below HL5.out.owns (drewU ((Below.refl w5.heap.size w5).alloc (Nat.le_refl _) (.cells #[.bool nb, .int .i64 ni, .string ns, .int .i64 k, .int .i64 n, .string t, .slice A l.length c] 39)) 1))) ?_ ?_
    · have h9 : w5.heap.size ≤ _ := ((drewU ((Below.refl w5.heap.size w5).alloc (Nat.le_refl _) (.cells #[.bool nb, .int .i64 ni, .string ns, .int .i64 k, .int .i64 n, .string t, .slice A l.length c] 39)) 1)).size
      exact Nat.le_trans HbS.out h9
    · simp only [List.length_nil]
      omega
    intro v6 w6 hown6 hg6 hor6
    have HB6 : Hid (Below w5.heap.size w5 w6) := (drewU ((Below.refl w5.heap.size w5).alloc (Nat.le_refl _) (.cells #[.bool nb, .int .i64 ni, .string ns, .int .i64 k, .int .i64 n, .string t, .slice A l.length c] 39)) 1).trans ((below_none hg6).mono ((drewU ((Below.refl w5.heap.size w5).alloc (Nat.le_refl _) (.cells #[.bool nb, .int .i64 ni, .string ns, .int .i64 k, .int .i64 n, .string t, .slice A l.length c] 39)) 1)).size)
    have HO6 : Hid (w6.ownsRow w1.heap.size 39 7 v6 ps.length (rowC ps)) := by
     show World.ownsRow _ _ _ _ _ _ _
     simpa [rowC] using hown6
    obtain ⟨A6, c6, rfl⟩ := own_form HO6.out
    have HZ6 : Hid (Blk w6 w5.heap.size 39 #[.bool nb, .int .i64 ni, .string ns, .int .i64 k, .int .i64 n, .string t, .slice A l.length c]) := blk_below (Blk.drew (Blk.new w5 _ _)) (below_none hg6)
    have HK6 := lH (blk_below HK5.out HB6.out)
    have HV6 := lH (blk_below HV5.out HB6.out)
    clear hown6 hg6 hor6
    refine hK.out _ _ ?_ (fun hHeld => ?_)
    · exact skv HK6.out HV6.out
    clear hK K
    try simp only [hdq]
    refine hdr1 op10 (fun K hK => ?_)
    refine step_app_item rfl (.tmp 44) (.tmp 48) rfl w1.heap.size (.slice A6 ps.length c6) ps rfl HO6.out ?_ (some ⟨w5.heap.size, 0, none⟩) 1 1 [⟨nb, ni, ns, k, n, t, l, A, c⟩] rfl (reads_one (p := ⟨nb, ni, ns, k, n, t, l, A, c⟩) HZ6.out) (by omega) ?_
    · exact Nat.le_trans HbS.out HB6.out.size
    intro v7 w7 hown7 hg7 hor7
    obtain ⟨g7, cap7, rfl, hg7a, hg7b⟩ := hown7.form (Nat.succ_pos _)
    have HO7 : Hid (w7.ownsRow w1.heap.size 39 7 (.slice (some ⟨g7, 0, none⟩) (ps.length + 1) cap7) (ps ++ [(⟨nb, ni, ns, k, n, t, l, A, c⟩ : PI)]).length (rowC (ps ++ [(⟨nb, ni, ns, k, n, t, l, A, c⟩ : PI)]))) := by
     show World.ownsRow _ _ _ _ _ _ _
     rw [List.length_append, rowC_app]
     simpa [rowC] using hown7
    have HBl7 := lH ((blk_below HL5.out.blk HB6.out).grown hg7 (row_ne HO6.out (blk_below HL5.out.blk HB6.out) (by decide)))
    have HKk7 := lH ((blk_below HK5.out HB6.out).grown hg7 (row_ne HO6.out (blk_below HK5.out HB6.out) (by decide)))
    have HVk7 := lH ((blk_below HV5.out HB6.out).grown hg7 (row_ne HO6.out (blk_below HV5.out HB6.out) (by decide)))
    have HB7 := lH ((HB5.out.trans (HB6.out.mono HbS.out)).grown hg7 (Nat.le_trans HbS.out HB6.out.size) (fun gb e => (HO6.out.lt gb e).1))
    have HT := lH (RLst.turn HBl7.out HO7.out hbb (by omega))
    have x2 : w7.cell? ⟨lb, 0, none⟩ = some (.slice A0 ps.length c0) := HBl7.out.cell 0
    have xf2 := HBl7.out.frozen 0
    clear hown7 hg7 hor7
    refine hK.out _ _ ?_ (fun hHeld => ?_)
    · exact skv HKk7.out HVk7.out
    clear hK K
    try simp only [hdq]
    refine hdt (v := ?v12) op11 ?_
    try simp only [hdq]
    refine hdt (v := ?v13) op12 ?_
    try simp only [hdq]
    refine hdr1 op13 (fun K hK => ?_)
    go_simp
    refine hK.out _ _ ?_ (fun hHeld => ?_)
    · exact skv (HKk7.out.far n5 _) (HVk7.out.far n6 _)
    clear hK K
    try simp only [hdq]
    refine wpAnyH_done (by kernel_rfl) ?_ _
    go_wp2_with fail
    go_meet
    exact ⟨_, HT.out.1, (Keeps.of_below HB7.out).trans HT.out.2, HKk7.out.far n5 _⟩
 case rest =>
  obtain ⟨sv', HLc, HBc, HKc⟩ := hcut
  clear HL5 HK5 HV5 HB5 m0 j0 j1 j2 HbS
  have l1 : wc.cell? ⟨lb, 1, none⟩ = some (.int .i64 nx) := HLc.out.blk.cell 1
  have lf1 := HLc.out.blk.frozen 1
  have k0 : wc.cell? ⟨w1.heap.size, 0, none⟩ = some (.bool nb) := HKc.out.cell 0
  have k1 : wc.cell? ⟨w1.heap.size, 1, none⟩ = some (.int .i64 ni) := HKc.out.cell 1
  cases hnb : nb with
  | true =>
   subst hnb
   have hnk : nextK nx (true, ni, ns) = nx := by unfold nextK; rw [if_neg (by simp)]
   go_upto_region 11 with fail
   go_quiet (fail)
   go_wp2_with fail
   go_ret
   exact ⟨rfl, ⟨sv', by first | exact HLc.out.below (drewU (Below.refl _ _) nq) | (rw [hnk]; exact HLc.out.below (drewU (Below.refl _ _) nq))⟩, HBc.out.drewN nq⟩
  | false =>
   subst hnb
   by_cases h0 : 0 ≤ nx
   · by_cases h1 : nx ≤ ni
     · by_cases h2 : ni < 9223372036854775807
       · have hnk : nextK nx (false, ni, ns) = ni + 1 := by unfold nextK; rw [if_pos ⟨rfl, h0, h1⟩, if_pos h2]
         have hwr : IntKind.i64.wrap (ni + 1) = ni + 1 := IntWalk.i64_in _ (by omega)
         go_upto_region 11 with fail
         go_quiet (fail)
         have HLm := lH ((HLc.out.below (drewU (Below.refl _ _) nq)).next (-1))
         have HLn := lH (HLm.out.1.next (ni + 1))
         have q4 : ((wc.drewN nq).setCell ⟨lb, 1, none⟩ (.int .i64 (-1))).cell? ⟨lb, 1, none⟩ = some (.int .i64 (-1)) := HLm.out.1.blk.cell 1
         have qf4 := HLm.out.1.blk.frozen 1
         have qk1 : ((wc.drewN nq).setCell ⟨lb, 1, none⟩ (.int .i64 (-1))).cell? ⟨w1.heap.size, 1, none⟩ = some (.int .i64 ni) := (HKc.out.far (p := ⟨lb, 1, none⟩) n5 _).cell 1
         go_wp2_with fail
         go_ret
         exact ⟨rfl, ⟨sv', by first | exact HLn.out.1 | (rw [hnk]; exact HLn.out.1)⟩, ((HBc.out.drewN nq).trans HLm.out.2).trans HLn.out.2⟩
       · have hmx : ni = 9223372036854775807 := by have h9 : In64 ni := HKO.out.1; have := h9.2; omega
         subst hmx
         have hnk : nextK nx (false, 9223372036854775807, ns) = -1 := by unfold nextK; rw [if_pos ⟨rfl, h0, h1⟩, if_neg (by omega)]
         go_upto_region 11 with fail
         go_quiet (fail)
         have HLm := lH ((HLc.out.below (drewU (Below.refl _ _) nq)).next (-1))
         have qk1 : ((wc.drewN nq).setCell ⟨lb, 1, none⟩ (.int .i64 (-1))).cell? ⟨w1.heap.size, 1, none⟩ = some (.int .i64 9223372036854775807) := (HKc.out.far (p := ⟨lb, 1, none⟩) n5 _).cell 1
         go_wp2_with fail
         go_ret
         exact ⟨rfl, ⟨sv', by first | exact HLm.out.1 | (rw [hnk]; exact HLm.out.1)⟩, (HBc.out.drewN nq).trans HLm.out.2⟩
     · have hnk : nextK nx (false, ni, ns) = nx := by unfold nextK; rw [if_neg (fun h => h1 h.2.2)]
       go_upto_region 11 with fail
       go_quiet (fail)
       go_wp2_with fail
       go_ret
       exact ⟨rfl, ⟨sv', by first | exact HLc.out.below (drewU (Below.refl _ _) nq) | (rw [hnk]; exact HLc.out.below (drewU (Below.refl _ _) nq))⟩, HBc.out.drewN nq⟩
   · have hnk : nextK nx (false, ni, ns) = nx := by unfold nextK; rw [if_neg (fun h => h0 h.2.1)]
     go_upto_region 11 with fail
     go_quiet (fail)
     go_wp2_with fail
     go_ret
     exact ⟨rfl, ⟨sv', by first | exact HLc.out.below (drewU (Below.refl _ _) nq) | (rw [hnk]; exact HLc.out.below (drewU (Below.refl _ _) nq))⟩, HBc.out.drewN nq⟩
end
end Dp
end Go.Proofs.YtgpemnmopogppaaGreatDoor
