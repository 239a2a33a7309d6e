import Derived.Test.YtgpemnmopogppaaGreatDoorZRwQQ
import Derived.Test.YtgpemnmopogppaaGreatDoorZRlI
import Derived.Test.YtgpemnmopogppaaGreatDoorZUfGQ
import Derived.Laws.StructEq
import Derived.Test.YtgpemnmopogppaaGreatDoorZRlH
set_option maxRecDepth 1000000
set_option maxHeartbeats 16000000
namespace Go.Proofs.YtgpemnmopogppaaGreatDoor
open Go.Proofs.Tryz
open Go Go.RowKit
namespace Rl
open Dp
open Rw (parseN lineN headsN headsN_eq bytes strs reqV Rq ParseP LibP parse_any)
def aliveL : List UInt8 := [71, 69, 84, 32, 47, 97, 63, 98, 61, 49, 32, 72, 84, 84, 80, 47, 49, 46, 49, 13, 10, 72, 111, 115, 116, 58, 32, 120, 13, 10, 13, 10]
theorem alive_parse : parseN aliveL = some ⟨[71, 69, 84], [47, 97], [98, 61, 49], [([72, 111, 115, 116], [120])], []⟩ := by
 have h1 : lineN aliveL = some ([71, 69, 84], [47, 97], [98, 61, 49], 21) := by rfl
 have h2 : headsN aliveL 21 [] none = some ([([72, 111, 115, 116], [120])], none, 32) := by
  rw [headsN_eq, if_neg (by decide), if_neg (by decide)]
  have h3 : Rw.headN aliveL 21 = some ([72, 111, 115, 116], [120], 27, 30) := by rfl
  rw [h3]
  dsimp only
  rw [headsN_eq, if_pos (by decide)]
  rfl
 unfold parseN
 rw [if_neg (by decide), h1]
 dsimp only
 rw [h2]
 rfl
def hostU : ByteArray × ByteArray := (⟨#[72, 111, 115, 116]⟩, ⟨#[120]⟩)
theorem alive_found : foundT (findH ⟨#[104, 111, 115, 116]⟩ [hostU]) = .tuple #[.string ⟨#[120]⟩, .bool true] := by
 rw [findH, if_pos (by decide)]
 rfl
def lenG : GV → Nat
 | .mk _ _ _ l => l.length
theorem alive_query : ∃ n gs, Ut.queryG [98, 61, 49] = .mk 4 n ⟨#[]⟩ gs ∧ gs.length = 1 := by
 obtain ⟨n, gs, h⟩ := (Ut.queryG_ok [98, 61, 49] (fun p hp => (query_pieces (by decide) p hp).2)).list
 have h1 : lenG (Ut.queryG [98, 61, 49]) = 1 := by
  have e1 : Ut.queryG [98, 61, 49] = Ut.putQ (Url.decF [98]) (Url.decF [49]) (.mk 4 0 ⟨#[]⟩ []) := by
   unfold Ut.queryG
   rfl
  have e2 : Url.decF [98] = [98] := by rfl
  have e3 : Url.decF [49] = [49] := by rfl
  rw [e1, e2, e3]
  unfold Ut.putQ
  rw [show Ut.restL [98] = [] from rfl, Ut.stepsL]
  rfl
 rw [h] at h1
 exact ⟨n, gs, h, h1⟩
theorem alive_post : postG ⟨#[71, 69, 84]⟩ ⟨#[]⟩ [hostU] = .mk 4 0 ⟨#[]⟩ [] := by
 unfold postG postB
 rw [Lib.toList_data]
 rfl
theorem alive_server : ∃ n gs, serverG ⟨#[71, 69, 84]⟩ ⟨#[47, 97]⟩ ⟨#[98, 61, 49]⟩ [hostU] = .mk 4 n ⟨#[]⟩ gs ∧ gs.length = 5 := ⟨_, _, rfl, by decide +kernel⟩
def aliveB : ByteArray := ⟨#[71, 69, 84, 32, 47, 97, 63, 98, 61, 49, 32, 72, 84, 84, 80, 47, 49, 46, 49, 13, 10, 72, 111, 115, 116, 58, 32, 120, 13, 10, 13, 10]⟩
def aliveQ (A : Option Addr) (c : Nat) : Value := .agg #[.string ⟨#[71, 69, 84]⟩, .string ⟨#[47, 97]⟩, .string ⟨#[98, 61, 49]⟩, .slice A 1 c, .string ⟨#[]⟩]
theorem alive_parsed (w : World) (hL : LibP w) : Calls prog 23 #[.string aliveB] w fun e w' => ∃ A c, e = .returned (.tuple #[aliveQ A c, .agg #[.int .i64 0, .int .i64 0]]) ∧ PairsAt w' w'.heap.size A [hostU] ∧ Below w.heap.size w w' := by
 refine (parse_any aliveB (by decide) w hL).mono fun e w' ⟨hb, h⟩ => ?_
 rcases h with ⟨q, A, c, hq, _, hA, rfl⟩ | ⟨hq, _⟩
 · have h1 : some q = some _ := hq.symm.trans alive_parse
   cases h1
   exact ⟨A, c, rfl, Rw.pairs_of_own hA, hb⟩
 · have h1 : none = some _ := hq.symm.trans alive_parse
   cases h1
theorem host_small (k : Nat) : (([hostU] : List (ByteArray × ByteArray)).getD k default).1.size ≤ 4 ∧ (([hostU] : List (ByteArray × ByteArray)).getD k default).2.size ≤ 4 := by
 match k with
 | 0 => exact ⟨by decide, by decide⟩
 | k + 1 => exact ⟨Nat.le_trans (Nat.le_of_eq (by rfl)) (Nat.zero_le _), Nat.le_trans (Nat.le_of_eq (by rfl)) (Nat.zero_le _)⟩
theorem four_new (w : World) (t : TypeId) (c0 c1 c2 c3 : Array Value) : Below w.heap.size w ((((w.alloc (.cells c0 t)).alloc (.cells c1 t)).alloc (.cells c2 t)).alloc (.cells c3 t)) ∧ Blk ((((w.alloc (.cells c0 t)).alloc (.cells c1 t)).alloc (.cells c2 t)).alloc (.cells c3 t)) w.heap.size t c0 ∧ Blk ((((w.alloc (.cells c0 t)).alloc (.cells c1 t)).alloc (.cells c2 t)).alloc (.cells c3 t)) (w.heap.size + 1 + 1 + 1) t c3 := by
 refine ⟨((((Below.refl w.heap.size w).alloc (Nat.le_refl _) _).alloc (by simp) _).alloc (by simp; omega) _).alloc (by simp; omega) _, (((Blk.new w t c0).alloc _).alloc _).alloc _, ?_⟩
 have := Blk.new (((w.alloc (.cells c0 t)).alloc (.cells c1 t)).alloc (.cells c2 t)) t c3
 simpa using this
theorem two_new (w : World) (t u : TypeId) (cs ds : Array Value) : Blk ((w.alloc (.cells cs t)).alloc (.cells ds u)) w.heap.size t cs ∧ Blk ((w.alloc (.cells cs t)).alloc (.cells ds u)) (w.heap.size + 1) u ds := by
 refine ⟨(Blk.new w t cs).alloc _, ?_⟩
 have := Blk.new (w.alloc (.cells cs t)) u ds
 simpa using this
theorem alive10 (w : World) (hL : LibS w) (m : Int) (hmx : w.cell? ⟨0, 0, none⟩ = some (.int .i64 m)) :
  Calls prog 21 #[] w fun e w' => e = .returned (.bool true) ∧ Below w.heap.size w w' := by
 have HPa := lH (alive_parsed w ⟨hL.pow, m, hmx⟩)
 have HMx := lH (fun wz (hb : Below w.heap.size w wz) => (hb.cell (p := ⟨0, 0, none⟩) (World.block_lt_of_cell? w _ hmx)).trans hmx)
 have HLb := lH (fun wz (hb : Below w.heap.size w wz) => hL.below hb)
 obtain ⟨n0, g0, hq0, hl0⟩ := alive_query
 obtain ⟨n3, g3, hq3, hl3⟩ := alive_server
 have HHd : Hid (∀ wz A c, PairsAt wz wz.heap.size A [hostU] → Calls prog 22 #[aliveQ A c, .string ⟨#[104, 111, 115, 116]⟩] wz fun e w' => e = .returned (.tuple #[.string ⟨#[120]⟩, .bool true]) ∧ Below wz.heap.size wz w') := fun wz A c hA => by
  have h := head_any ⟨#[71, 69, 84]⟩ ⟨#[47, 97]⟩ ⟨#[98, 61, 49]⟩ ⟨#[]⟩ ⟨#[104, 111, 115, 116]⟩ A c [hostU] wz hA (by decide) (fun k => by have := (host_small k).1; omega)
  rwa [alive_found] at h
 have HLi : Hid (∀ wz A c, PairsAt wz wz.heap.size A [hostU] → Below w.heap.size w wz → Calls prog 19 #[aliveQ A c] wz fun e w' => ∃ k1 n1 t1 l1 A1 c1 k2 n2 t2 l2 A2 c2 A0 c0 A3 c3, e = .returned (.tuple #[.agg #[.int .i64 4, .int .i64 n0, .string ⟨#[]⟩, .slice A0 1 c0], .agg #[.int .i64 k1, .int .i64 n1, .string t1, .slice A1 l1 c1], .agg #[.int .i64 k2, .int .i64 n2, .string t2, .slice A2 l2 c2], .agg #[.int .i64 4, .int .i64 n3, .string ⟨#[]⟩, .slice A3 5 c3]]) ∧ Below wz.heap.size wz w') := fun wz A c hA hb => by
  refine (lists_any ⟨#[71, 69, 84]⟩ ⟨#[47, 97]⟩ ⟨#[98, 61, 49]⟩ ⟨#[]⟩ A c [hostU] wz hA (by decide) (fun k => by have := host_small k; omega) (by decide) (by decide) (by decide) (by decide) (HLb.out wz hb) m (HMx.out wz hb) 0 [] alive_post).mono fun e w' h => ?_
  obtain ⟨y0, y1, y2, y3, rfl, v0, v1, v2, v3, hb'⟩ := h
  obtain ⟨k1, n1, t1, l1, A1, c1, rfl⟩ := vin_form v1
  obtain ⟨k2, n2, t2, l2, A2, c2, rfl⟩ := vin_form v2
  have v0' : VIn w' (fun b => wz.heap.size ≤ b ∧ b < w'.heap.size) (.mk 4 n0 ⟨#[]⟩ g0) y0 := hq0 ▸ v0
  rw [hq3] at v3
  obtain ⟨A0, c0, rfl⟩ := v0'.form
  obtain ⟨A3, c3, rfl⟩ := v3.form
  rw [hl0, hl3]
  exact ⟨k1, n1, t1, l1, A1, c1, k2, n2, t2, l2, A2, c2, A0, c0, A3, c3, rfl, hb'⟩
 clear hq0 hl0 hq3 hl3 hL hmx HMx HLb
 unfold aliveQ at HPa HHd HLi
 unfold aliveB at HPa
 go_enter func21, ntmps21
 go_upto_region 4 with (first
  | (go_at_call 23; refine HPa.out.mono ?_; rintro e w1 ⟨A, c, rfl, hA1, hb1⟩; have HB1 := lH hb1; have HA1 := lH hA1; clear hb1 hA1)
  | (go_at_call 22
     have HBa := lH (((Below.refl w1.heap.size w1).alloc (Nat.le_refl _) (.cells #[.string ⟨#[71, 69, 84]⟩, .string ⟨#[47, 97]⟩, .string ⟨#[98, 61, 49]⟩, .slice A 1 c, .string ⟨#[]⟩] 43)).alloc (by simp) (.cells #[.int .i64 0, .int .i64 0] 53))
     have HQa := lH (two_new w1 43 53 #[.string ⟨#[71, 69, 84]⟩, .string ⟨#[47, 97]⟩, .string ⟨#[98, 61, 49]⟩, .slice A 1 c, .string ⟨#[]⟩] #[.int .i64 0, .int .i64 0])
     refine (HHd.out _ A c (HA1.out.below HBa.out)).mono ?_
     rintro e w2 ⟨rfl, hb2⟩
     have HB2 := lH ((HB1.out.trans (HBa.out.mono HB1.out.size)).trans (hb2.mono (HB1.out.trans (HBa.out.mono HB1.out.size)).size))
     have HA2 := lH ((HA1.out.below HBa.out).below hb2)
     have HQ2 := lH (And.intro (blk_below HQa.out.1 hb2) (blk_below HQa.out.2 hb2))
     have q0 : w2.cell? ⟨w1.heap.size, 0, none⟩ = some (.string ⟨#[71, 69, 84]⟩) := HQ2.out.1.cell 0
     have q1 : w2.cell? ⟨w1.heap.size, 1, none⟩ = some (.string ⟨#[47, 97]⟩) := HQ2.out.1.cell 1
     have q2 : w2.cell? ⟨w1.heap.size, 2, none⟩ = some (.string ⟨#[98, 61, 49]⟩) := HQ2.out.1.cell 2
     have q3 : w2.cell? ⟨w1.heap.size, 3, none⟩ = some (.slice A 1 c) := HQ2.out.1.cell 3
     have q4 : w2.cell? ⟨w1.heap.size, 4, none⟩ = some (.string ⟨#[]⟩) := HQ2.out.1.cell 4
     clear hb2)
  | (go_at_call 19; refine (HLi.out _ A c HA2.out HB2.out).mono ?_; rintro e w3 ⟨k1, n1, t1, l1, A1, c1, k2, n2, t2, l2, A2, c2, A0, c0, A3, c3, rfl, hb3⟩
     have HB3 := lH (HB2.out.trans (hb3.mono HB2.out.size))
     have q5 : w3.cell? ⟨w1.heap.size, 1, none⟩ = some (.string ⟨#[47, 97]⟩) := (blk_below HQ2.out.1 hb3).cell 1
     have q6 : w3.cell? ⟨w1.heap.size + 1, 0, none⟩ = some (.int .i64 0) := (blk_below HQ2.out.2 hb3).cell 0
     have q7 : w3.cell? ⟨w1.heap.size + 1, 1, none⟩ = some (.int .i64 0) := (blk_below HQ2.out.2 hb3).cell 1
     have hlt : w1.heap.size + 1 < w3.heap.size := (blk_below HQ2.out.2 hb3).lt
     clear hb3 q0 q1 q2 q3 q4))
 have HF := lH (four_new w3 25 #[.int .i64 4, .int .i64 n0, .string ⟨#[]⟩, .slice A0 1 c0] #[.int .i64 k1, .int .i64 n1, .string t1, .slice A1 l1 c1] #[.int .i64 k2, .int .i64 n2, .string t2, .slice A2 l2 c2] #[.int .i64 4, .int .i64 n3, .string ⟨#[]⟩, .slice A3 5 c3])
 generalize (((w3.alloc (.cells #[.int .i64 4, .int .i64 n0, .string ⟨#[]⟩, .slice A0 1 c0] 25)).alloc (.cells #[.int .i64 k1, .int .i64 n1, .string t1, .slice A1 l1 c1] 25)).alloc (.cells #[.int .i64 k2, .int .i64 n2, .string t2, .slice A2 l2 c2] 25)).alloc (.cells #[.int .i64 4, .int .i64 n3, .string ⟨#[]⟩, .slice A3 5 c3] 25) = w4 at *
 have HB4 := lH (HB3.out.trans (HF.out.1.mono HB3.out.size))
 have r5 := (HF.out.1.cell (p := ⟨w1.heap.size, 1, none⟩) (by show w1.heap.size < _; omega)).trans q5
 have r6 := (HF.out.1.cell (p := ⟨w1.heap.size + 1, 0, none⟩) hlt).trans q6
 have r7 := (HF.out.1.cell (p := ⟨w1.heap.size + 1, 1, none⟩) hlt).trans q7
 have r8 : w4.cell? ⟨w3.heap.size, 3, none⟩ = some (.slice A0 1 c0) := HF.out.2.1.cell 3
 have r9 : w4.cell? ⟨w3.heap.size + 1 + 1 + 1, 3, none⟩ = some (.slice A3 5 c3) := HF.out.2.2.cell 3
 clear q5 q6 q7 hlt HF
 go_wp2_with fail
 go_ret
 exact ⟨rfl, HB4.out⟩
end Rl
open Go Go.RowKit
namespace Dp
section
variable {w : World} {B : Nat}
theorem raw_same (hBw : B ≤ w.heap.size) {g : GV} {x : Value} (h : VAt w B g x) : ∀ {x' : Value}, VAt w B g x' → ∀ w' : World, Below B w w' →
  Calls prog 9 #[x, x'] w' fun e w'' => e = .returned (.bool true) ∧ Below w'.heap.size w' w'' := by
 induction h with
 | mk k n t l A c b off C hc hn hA hi hv ih =>
  intro x' h' w' hb
  cases h' with
  | mk _ _ _ _ _ c' b' off' C' hc' hn' hA' hi' hv' =>
  rename_i A'
  have hB' : B ≤ w'.heap.size := Nat.le_trans hBw hb.size
  have HA := lH hA
  have HI := lH hi
  have HV := lH ih
  have HW := lH hv
  have HA2 := lH hA'
  have HI2 := lH hi'
  have HW2 := lH hv'
  have Hb := lH hb
  clear hA hi hv ih hb hA' hi' hv'
  have hal := fun (w1 : World) (o : Obj) => (Below.refl w1.heap.size w1).alloc (Nat.le_refl _) o
  have HB1 := lH (((Below.refl w'.heap.size w').alloc (Nat.le_refl _) (.cells #[.int .i64 k, .int .i64 n, .string t, .slice A l.length c] 25)).alloc (by simp) (.cells #[.int .i64 k, .int .i64 n, .string t, .slice A' l.length c'] 25))
  have HX0 := lH (blk_below (Blk.new w' 25 #[.int .i64 k, .int .i64 n, .string t, .slice A l.length c]) (hal _ (.cells #[.int .i64 k, .int .i64 n, .string t, .slice A' l.length c'] 25)))
  have hy := Blk.new (w'.alloc (.cells #[.int .i64 k, .int .i64 n, .string t, .slice A l.length c] 25)) 25 #[.int .i64 k, .int .i64 n, .string t, .slice A' l.length c']
  have hw1 : (w'.alloc (.cells #[.int .i64 k, .int .i64 n, .string t, .slice A l.length c] 25)).heap.size = w'.heap.size + 1 := by simp
  rw [hw1] at hy
  have HY0 := lH hy
  clear hy hw1 hal
  go_enter func9, ntmps9
  go_wp2_with fail
  go_loopw [5] (fun xi wx => ∃ (j : Nat), j ≤ l.length ∧ xi = .int .i64 j ∧ Hid (Below w'.heap.size w' wx) ∧ Hid (Blk wx w'.heap.size 25 #[.int .i64 k, .int .i64 n, .string t, .slice A l.length c]) ∧ Hid (Blk wx (w'.heap.size + 1) 25 #[.int .i64 k, .int .i64 n, .string t, .slice A' l.length c'])) (fun xi _ => l.length - (ixOf xi).toNat)
  case atStart => exact ⟨0, Nat.zero_le _, rfl, HB1, HX0, HY0⟩
  case round =>
   obtain ⟨j, hj, rfl, HB, HX, HY⟩ := hrel
   clear HB1 HX0 HY0
   have x3 : wr.cell? ⟨w'.heap.size, 3, none⟩ = some (.slice A l.length c) := HX.out.cell 3
   have y3 : wr.cell? ⟨w'.heap.size + 1, 3, none⟩ = some (.slice A' l.length c') := HY.out.cell 3
   by_cases hlt : j < l.length
   · obtain ⟨it, hit⟩ : ∃ it, l[j]? = some it := ⟨_, List.getElem?_eq_getElem hlt⟩
     obtain ⟨rfl, hbB⟩ := HA.out (by omega)
     obtain ⟨rfl, hbB'⟩ := HA2.out (by omega)
     have hbw : Below B w wr := Hb.out.trans (HB.out.mono hB')
     have hwr := HB.out.size
     obtain ⟨c0, c1, c2, v0, v1, v2, v3, e, c3, c4, c5, c6⟩ := (HI.out j it hit).below hbw hbB
     obtain ⟨d0, d1, d2, u0, u1, u2, u3, e', d3, d4, d5, d6⟩ := (HI2.out j it hit).below hbw hbB'
     have HR := lH (fun wz (hz : Below B w wz) => HV.out j it hit (HW2.out j it hit) wz hz)
     rw [e, e'] at HR
     have hform := HW.out j it hit
     rw [e] at hform
     have hform' := HW2.out j it hit
     rw [e'] at hform'
     obtain ⟨k1, n1, t1, A1, l1, e1, rfl, rfl, rfl, rfl⟩ := hform.form
     obtain ⟨k2, n2, t2, A2, l2, e2, rfl, rfl, rfl, rfl⟩ := hform'.form
     have HZ := lH (drewU hbw 1)
     have HBz := lH (drewU HB.out 1)
     have HXz := lH (blk_below HX.out (drewU (Below.refl _ _) 1))
     have HYz := lH (blk_below HY.out (drewU (Below.refl _ _) 1))
     clear hform hform' HW HW2 HV HI HI2 HB HX HY e e' hbw
     go_wp2_with fail
     refine tail_drew 26 (by kernel_rfl) (by kernel_rfl) ?_
     simp only [List.take_succ_cons, List.take_zero, List.drop_succ_cons, List.drop_zero]
     repeat still_step
     refine wpStill_nil ?_
     go_wp2_with (go_at_call 9; refine (HR.out _ HZ.out).mono ?_; rintro e w2 ⟨rfl, hb2⟩; have HB2 := lH (HBz.out.trans (hb2.mono HBz.out.size)); have HX2 := lH (blk_below HXz.out hb2); have HY2 := lH (blk_below HYz.out hb2); clear hb2)
     go_roundw
     case rel => exact ⟨j + 1, by omega, by go_num, HB2, HX2, HY2⟩
     case measure => simp [ixOf] <;> omega
   · obtain rfl : j = l.length := by omega
     clear HI HV HA HA2 HI2 HW HW2
     go_wp2_with fail
     go_ret
     exact ⟨rfl, HB.out⟩
end
end Dp
open Go Go.RowKit
namespace Rl
open Dp
open Ut (z8)
theorem four_all (w : World) (t : TypeId) (c0 c1 c2 c3 : Array Value) : Below w.heap.size w ((((w.alloc (.cells c0 t)).alloc (.cells c1 t)).alloc (.cells c2 t)).alloc (.cells c3 t)) ∧ Blk ((((w.alloc (.cells c0 t)).alloc (.cells c1 t)).alloc (.cells c2 t)).alloc (.cells c3 t)) w.heap.size t c0 ∧ Blk ((((w.alloc (.cells c0 t)).alloc (.cells c1 t)).alloc (.cells c2 t)).alloc (.cells c3 t)) (w.heap.size + 1) t c1 ∧ Blk ((((w.alloc (.cells c0 t)).alloc (.cells c1 t)).alloc (.cells c2 t)).alloc (.cells c3 t)) (w.heap.size + 1 + 1) t c2 ∧ Blk ((((w.alloc (.cells c0 t)).alloc (.cells c1 t)).alloc (.cells c2 t)).alloc (.cells c3 t)) (w.heap.size + 1 + 1 + 1) t c3 := by
 obtain ⟨h, h0, h3⟩ := four_new w t c0 c1 c2 c3
 have h1 := Blk.new (w.alloc (.cells c0 t)) t c1
 have h2 := Blk.new ((w.alloc (.cells c0 t)).alloc (.cells c1 t)) t c2
 exact ⟨h, h0, by simpa using (h1.alloc (.cells c2 t)).alloc (.cells c3 t), by simpa using h2.alloc (.cells c3 t), h3⟩
section
variable (rm rp ry rb : ByteArray) (A0 : Option Addr) (c0 : Nat) (us : List (ByteArray × ByteArray))
theorem post_form (hb : rb.size ≤ 16777216) : ∃ n gs, postG rm rb us = .mk 4 n ⟨#[]⟩ gs := by
 unfold postG
 split
 · exact (Ut.queryG_ok rb.data.toList (fun p hp => (query_pieces (by have := Lib.size_eq rb; omega) p hp).2)).list
 · exact ⟨0, [], rfl⟩
end
end Rl
end Go.Proofs.YtgpemnmopogppaaGreatDoor
