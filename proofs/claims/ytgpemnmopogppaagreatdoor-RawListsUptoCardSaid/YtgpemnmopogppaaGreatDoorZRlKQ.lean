/- ostlerlaw10.alive: the walk, by the contracts of what it calls. -/
import Derived.Test.YtgpemnmopogppaaGreatDoorZRwQ
import Derived.Test.YtgpemnmopogppaaGreatDoorZRlI
import Derived.Test.YtgpemnmopogppaaGreatDoorZUfGQ
import Derived.Laws.StructEq
import Derived.Test.YtgpemnmopogppaaGreatDoorZRlH
namespace Go.Proofs.YtgpemnmopogppaaGreatDoor
open Go Go.RowKit
namespace Rl
open Go.Proofs.YtgpemnmopogppaaGreatDoor.Dp
open Go.Proofs.YtgpemnmopogppaaGreatDoor.Rw (parseN lineN headsN headsN_eq bytes strs reqV Rq ParseP LibP parse_any)
def aliveL : List UInt8 := [71, 69, 84, 32, 47, 97, 63, 98, 61, 49, 32, 72, 84, 84, 80, 47, 49, 46, 49, 13, 10, 72, 111, 115, 116, 58, 32, 120, 13, 10, 13, 10]
set_option maxRecDepth 100000 in
theorem alive_parse : parseN aliveL = some ⟨[71, 69, 84], [47, 97], [98, 61, 49], [([72, 111, 115, 116], [120])], []⟩ := by
  have h1 : lineN aliveL = some ([71, 69, 84], [47, 97], [98, 61, 49], 21) := by rfl
  have h2 : headsN aliveL 21 [] none = some ([([72, 111, 115, 116], [120])], none, 32) := by
    rw [headsN_eq, if_neg (by decide), if_neg (by decide)]
    have h3 : Rw.headN aliveL 21 = some ([72, 111, 115, 116], [120], 27, 30) := by rfl
    rw [h3]
    dsimp only
    rw [headsN_eq, if_pos (by decide)]
    rfl
  unfold parseN
  rw [if_neg (by decide), h1]
  dsimp only
  rw [h2]
  rfl
def hostU : ByteArray × ByteArray := (⟨#[72, 111, 115, 116]⟩, ⟨#[120]⟩)
theorem alive_found : foundT (findH ⟨#[104, 111, 115, 116]⟩ [hostU]) = .tuple #[.string ⟨#[120]⟩, .bool true] := by
  rw [findH, if_pos (by decide)]
  rfl
def lenG : GV → Nat
  | .mk _ _ _ l => l.length
set_option maxRecDepth 100000 in
theorem alive_query : ∃ n gs, Ut.queryG [98, 61, 49] = .mk 4 n ⟨#[]⟩ gs ∧ gs.length = 1 := by
  obtain ⟨n, gs, h⟩ := (Ut.queryG_ok [98, 61, 49] (fun p hp => (query_pieces (by decide) p hp).2)).list
  have h1 : lenG (Ut.queryG [98, 61, 49]) = 1 := by
    have e1 : Ut.queryG [98, 61, 49] = Ut.putQ (Url.decF [98]) (Url.decF [49]) (.mk 4 0 ⟨#[]⟩ []) := by
      unfold Ut.queryG
      rfl
    have e2 : Url.decF [98] = [98] := by rfl
    have e3 : Url.decF [49] = [49] := by rfl
    rw [e1, e2, e3]
    unfold Ut.putQ
    rw [show Ut.restL [98] = [] from rfl, Ut.stepsL]
    rfl
  rw [h] at h1
  exact ⟨n, gs, h, h1⟩
theorem alive_post : postG ⟨#[71, 69, 84]⟩ ⟨#[]⟩ [hostU] = .mk 4 0 ⟨#[]⟩ [] := by
  unfold postG postB
  rw [Lib.toList_data]
  rfl
set_option maxRecDepth 100000 in
theorem alive_server : ∃ n gs, serverG ⟨#[71, 69, 84]⟩ ⟨#[47, 97]⟩ ⟨#[98, 61, 49]⟩ [hostU] = .mk 4 n ⟨#[]⟩ gs ∧ gs.length = 5 := ⟨_, _, rfl, by decide +kernel⟩
def aliveB : ByteArray := ⟨#[71, 69, 84, 32, 47, 97, 63, 98, 61, 49, 32, 72, 84, 84, 80, 47, 49, 46, 49, 13, 10, 72, 111, 115, 116, 58, 32, 120, 13, 10, 13, 10]⟩
def aliveQ (A : Option Addr) (c : Nat) : Value := .agg #[.string ⟨#[71, 69, 84]⟩, .string ⟨#[47, 97]⟩, .string ⟨#[98, 61, 49]⟩, .slice A 1 c, .string ⟨#[]⟩]
theorem alive_parsed (w : World) (hL : LibP w) : Calls Tryz.prog 23 #[.string aliveB] w fun e w' => ∃ A c, e = .returned (.tuple #[aliveQ A c, .agg #[.int .i64 0, .int .i64 0]]) ∧ PairsAt w' w'.heap.size A [hostU] ∧ Below w.heap.size w w' := by
  refine (parse_any aliveB (by decide) w hL).mono fun e w' ⟨hb, h⟩ => ?_
  rcases h with ⟨q, A, c, hq, _, hA, rfl⟩ | ⟨hq, _⟩
  · have h1 : some q = some _ := hq.symm.trans alive_parse
    cases h1
    exact ⟨A, c, rfl, hA, hb⟩
  · have h1 : none = some _ := hq.symm.trans alive_parse
    cases h1
theorem host_small (k : Nat) : (([hostU] : List (ByteArray × ByteArray)).getD k default).1.size ≤ 4 ∧ (([hostU] : List (ByteArray × ByteArray)).getD k default).2.size ≤ 4 := by
  match k with
  | 0 => exact ⟨by decide, by decide⟩
  | k + 1 => exact ⟨Nat.le_trans (Nat.le_of_eq (by rfl)) (Nat.zero_le _), Nat.le_trans (Nat.le_of_eq (by rfl)) (Nat.zero_le _)⟩
theorem four_new (w : World) (t : TypeId) (c0 c1 c2 c3 : Array Value) : Below w.heap.size w ((((w.alloc (.cells c0 t)).alloc (.cells c1 t)).alloc (.cells c2 t)).alloc (.cells c3 t)) ∧ Blk ((((w.alloc (.cells c0 t)).alloc (.cells c1 t)).alloc (.cells c2 t)).alloc (.cells c3 t)) w.heap.size t c0 ∧ Blk ((((w.alloc (.cells c0 t)).alloc (.cells c1 t)).alloc (.cells c2 t)).alloc (.cells c3 t)) (w.heap.size + 1 + 1 + 1) t c3 := by
  refine ⟨((((Below.refl w.heap.size w).alloc (Nat.le_refl _) _).alloc (by simp) _).alloc (by simp; omega) _).alloc (by simp; omega) _, (((Blk.new w t c0).alloc _).alloc _).alloc _, ?_⟩
  have := Blk.new (((w.alloc (.cells c0 t)).alloc (.cells c1 t)).alloc (.cells c2 t)) t c3
  simpa using this
theorem two_new (w : World) (t u : TypeId) (cs ds : Array Value) : Blk ((w.alloc (.cells cs t)).alloc (.cells ds u)) w.heap.size t cs ∧ Blk ((w.alloc (.cells cs t)).alloc (.cells ds u)) (w.heap.size + 1) u ds := by
  refine ⟨(Blk.new w t cs).alloc _, ?_⟩
  have := Blk.new (w.alloc (.cells cs t)) u ds
  simpa using this
set_option maxRecDepth 100000 in
set_option maxHeartbeats 8000000 in
theorem alive10 (w : World) (hL : LibS w) (m : Int) (hmx : w.cell? ⟨0, 0, none⟩ = some (.int .i64 m)) :
    Calls Tryz.prog 21 #[] w fun e w' => e = .returned (.bool true) ∧ Below w.heap.size w w' := by
  have HPa := Lib.hid (alive_parsed w ⟨hL.pow, m, hmx⟩)
  have HMx := Lib.hid (fun wz (hb : Below w.heap.size w wz) => (hb.cell (p := ⟨0, 0, none⟩) (World.block_lt_of_cell? w _ hmx)).trans hmx)
  have HLb := Lib.hid (fun wz (hb : Below w.heap.size w wz) => hL.below hb)
  obtain ⟨n0, g0, hq0, hl0⟩ := alive_query
  obtain ⟨n3, g3, hq3, hl3⟩ := alive_server
  have HHd : Hid (∀ wz A c, PairsAt wz wz.heap.size A [hostU] → Calls Tryz.prog 22 #[aliveQ A c, .string ⟨#[104, 111, 115, 116]⟩] wz fun e w' => e = .returned (.tuple #[.string ⟨#[120]⟩, .bool true]) ∧ Below wz.heap.size wz w') := fun wz A c hA => by
    have h := head_any ⟨#[71, 69, 84]⟩ ⟨#[47, 97]⟩ ⟨#[98, 61, 49]⟩ ⟨#[]⟩ ⟨#[104, 111, 115, 116]⟩ A c [hostU] wz hA (by decide) (fun k => by have := (host_small k).1; omega)
    rwa [alive_found] at h
  have HLi : Hid (∀ wz A c, PairsAt wz wz.heap.size A [hostU] → Below w.heap.size w wz → Calls Tryz.prog 19 #[aliveQ A c] wz fun e w' => ∃ k1 n1 t1 l1 A1 c1 k2 n2 t2 l2 A2 c2 A0 c0 A3 c3, e = .returned (.tuple #[.agg #[.int .i64 4, .int .i64 n0, .string ⟨#[]⟩, .slice A0 1 c0], .agg #[.int .i64 k1, .int .i64 n1, .string t1, .slice A1 l1 c1], .agg #[.int .i64 k2, .int .i64 n2, .string t2, .slice A2 l2 c2], .agg #[.int .i64 4, .int .i64 n3, .string ⟨#[]⟩, .slice A3 5 c3]]) ∧ Below wz.heap.size wz w') := fun wz A c hA hb => by
    refine (lists_any ⟨#[71, 69, 84]⟩ ⟨#[47, 97]⟩ ⟨#[98, 61, 49]⟩ ⟨#[]⟩ A c [hostU] wz hA (by decide) (fun k => by have := host_small k; omega) (by decide) (by decide) (by decide) (by decide) (HLb.out wz hb) m (HMx.out wz hb) 0 [] alive_post).mono fun e w' h => ?_
    obtain ⟨y0, y1, y2, y3, rfl, v0, v1, v2, v3, hb'⟩ := h
    obtain ⟨k1, n1, t1, l1, A1, c1, rfl⟩ := vin_form v1
    obtain ⟨k2, n2, t2, l2, A2, c2, rfl⟩ := vin_form v2
    have v0' : VIn w' (fun b => wz.heap.size ≤ b ∧ b < w'.heap.size) (.mk 4 n0 ⟨#[]⟩ g0) y0 := hq0 ▸ v0
    rw [hq3] at v3
    obtain ⟨A0, c0, rfl⟩ := v0'.form
    obtain ⟨A3, c3, rfl⟩ := v3.form
    rw [hl0, hl3]
    exact ⟨k1, n1, t1, l1, A1, c1, k2, n2, t2, l2, A2, c2, A0, c0, A3, c3, rfl, hb'⟩
  clear hq0 hl0 hq3 hl3 hL hmx HMx HLb
  unfold aliveQ at HPa HHd HLi
  unfold aliveB at HPa
  go_enter Tryz.func21, Tryz.ntmps21
  go_upto_region 4 with (first
    | (go_at_call 23; refine HPa.out.mono ?_; rintro e w1 ⟨A, c, rfl, hA1, hb1⟩; have HB1 := Lib.hid hb1; have HA1 := Lib.hid hA1; clear hb1 hA1)
    | (go_at_call 22
       have HBa := Lib.hid (((Below.refl w1.heap.size w1).alloc (Nat.le_refl _) (.cells #[.string ⟨#[71, 69, 84]⟩, .string ⟨#[47, 97]⟩, .string ⟨#[98, 61, 49]⟩, .slice A 1 c, .string ⟨#[]⟩] 43)).alloc (by simp) (.cells #[.int .i64 0, .int .i64 0] 53))
       have HQa := Lib.hid (two_new w1 43 53 #[.string ⟨#[71, 69, 84]⟩, .string ⟨#[47, 97]⟩, .string ⟨#[98, 61, 49]⟩, .slice A 1 c, .string ⟨#[]⟩] #[.int .i64 0, .int .i64 0])
       refine (HHd.out _ A c (HA1.out.below HBa.out)).mono ?_
       rintro e w2 ⟨rfl, hb2⟩
       have HB2 := Lib.hid ((HB1.out.trans (HBa.out.mono HB1.out.size)).trans (hb2.mono (HB1.out.trans (HBa.out.mono HB1.out.size)).size))
       have HA2 := Lib.hid ((HA1.out.below HBa.out).below hb2)
       have HQ2 := Lib.hid (And.intro (blk_below HQa.out.1 hb2) (blk_below HQa.out.2 hb2))
       have q0 : w2.cell? ⟨w1.heap.size, 0, none⟩ = some (.string ⟨#[71, 69, 84]⟩) := HQ2.out.1.cell 0
       have q1 : w2.cell? ⟨w1.heap.size, 1, none⟩ = some (.string ⟨#[47, 97]⟩) := HQ2.out.1.cell 1
       have q2 : w2.cell? ⟨w1.heap.size, 2, none⟩ = some (.string ⟨#[98, 61, 49]⟩) := HQ2.out.1.cell 2
       have q3 : w2.cell? ⟨w1.heap.size, 3, none⟩ = some (.slice A 1 c) := HQ2.out.1.cell 3
       have q4 : w2.cell? ⟨w1.heap.size, 4, none⟩ = some (.string ⟨#[]⟩) := HQ2.out.1.cell 4
       clear hb2)
    | (go_at_call 19; refine (HLi.out _ A c HA2.out HB2.out).mono ?_; rintro e w3 ⟨k1, n1, t1, l1, A1, c1, k2, n2, t2, l2, A2, c2, A0, c0, A3, c3, rfl, hb3⟩
       have HB3 := Lib.hid (HB2.out.trans (hb3.mono HB2.out.size))
       have q5 : w3.cell? ⟨w1.heap.size, 1, none⟩ = some (.string ⟨#[47, 97]⟩) := (blk_below HQ2.out.1 hb3).cell 1
       have q6 : w3.cell? ⟨w1.heap.size + 1, 0, none⟩ = some (.int .i64 0) := (blk_below HQ2.out.2 hb3).cell 0
       have q7 : w3.cell? ⟨w1.heap.size + 1, 1, none⟩ = some (.int .i64 0) := (blk_below HQ2.out.2 hb3).cell 1
       have hlt : w1.heap.size + 1 < w3.heap.size := (blk_below HQ2.out.2 hb3).lt
       clear hb3 q0 q1 q2 q3 q4))
  have HF := Lib.hid (four_new w3 25 #[.int .i64 4, .int .i64 n0, .string ⟨#[]⟩, .slice A0 1 c0] #[.int .i64 k1, .int .i64 n1, .string t1, .slice A1 l1 c1] #[.int .i64 k2, .int .i64 n2, .string t2, .slice A2 l2 c2] #[.int .i64 4, .int .i64 n3, .string ⟨#[]⟩, .slice A3 5 c3])
  generalize (((w3.alloc (.cells #[.int .i64 4, .int .i64 n0, .string ⟨#[]⟩, .slice A0 1 c0] 25)).alloc (.cells #[.int .i64 k1, .int .i64 n1, .string t1, .slice A1 l1 c1] 25)).alloc (.cells #[.int .i64 k2, .int .i64 n2, .string t2, .slice A2 l2 c2] 25)).alloc (.cells #[.int .i64 4, .int .i64 n3, .string ⟨#[]⟩, .slice A3 5 c3] 25) = w4 at *
  have HB4 := Lib.hid (HB3.out.trans (HF.out.1.mono HB3.out.size))
  have r5 := (HF.out.1.cell (p := ⟨w1.heap.size, 1, none⟩) (by show w1.heap.size < _; omega)).trans q5
  have r6 := (HF.out.1.cell (p := ⟨w1.heap.size + 1, 0, none⟩) hlt).trans q6
  have r7 := (HF.out.1.cell (p := ⟨w1.heap.size + 1, 1, none⟩) hlt).trans q7
  have r8 : w4.cell? ⟨w3.heap.size, 3, none⟩ = some (.slice A0 1 c0) := HF.out.2.1.cell 3
  have r9 : w4.cell? ⟨w3.heap.size + 1 + 1 + 1, 3, none⟩ = some (.slice A3 5 c3) := HF.out.2.2.cell 3
  clear q5 q6 q7 hlt HF
  go_wp2_with fail
  go_ret
  exact ⟨rfl, HB4.out⟩
end Rl
end Go.Proofs.YtgpemnmopogppaaGreatDoor
/- ostlerref08.Raw at two places where one value lies: the walk. -/
namespace Go.Proofs.YtgpemnmopogppaaGreatDoor
open Go Go.RowKit
namespace Dp
section
variable {w : World} {B : Nat}
set_option maxRecDepth 100000 in
set_option maxHeartbeats 4000000 in
theorem raw_same (hBw : B ≤ w.heap.size) {g : GV} {x : Value} (h : VAt w B g x) : ∀ {x' : Value}, VAt w B g x' → ∀ w' : World, Below B w w' →
    Calls Tryz.prog 9 #[x, x'] w' fun e w'' => e = .returned (.bool true) ∧ Below w'.heap.size w' w'' := by
  induction h with
  | mk k n t l A c b off C hc hn hA hi hv ih =>
    intro x' h' w' hb
    cases h' with
    | mk _ _ _ _ _ c' b' off' C' hc' hn' hA' hi' hv' =>
    rename_i A'
    have hB' : B ≤ w'.heap.size := Nat.le_trans hBw hb.size
    have HA := Lib.hid hA
    have HI := Lib.hid hi
    have HV := Lib.hid ih
    have HW := Lib.hid hv
    have HA2 := Lib.hid hA'
    have HI2 := Lib.hid hi'
    have HW2 := Lib.hid hv'
    have Hb := Lib.hid hb
    clear hA hi hv ih hb hA' hi' hv'
    have hal := fun (w1 : World) (o : Obj) => (Below.refl w1.heap.size w1).alloc (Nat.le_refl _) o
    have HB1 := Lib.hid (((Below.refl w'.heap.size w').alloc (Nat.le_refl _) (.cells #[.int .i64 k, .int .i64 n, .string t, .slice A l.length c] 25)).alloc (by simp) (.cells #[.int .i64 k, .int .i64 n, .string t, .slice A' l.length c'] 25))
    have HX0 := Lib.hid (blk_below (Blk.new w' 25 #[.int .i64 k, .int .i64 n, .string t, .slice A l.length c]) (hal _ (.cells #[.int .i64 k, .int .i64 n, .string t, .slice A' l.length c'] 25)))
    have hy := Blk.new (w'.alloc (.cells #[.int .i64 k, .int .i64 n, .string t, .slice A l.length c] 25)) 25 #[.int .i64 k, .int .i64 n, .string t, .slice A' l.length c']
    have hw1 : (w'.alloc (.cells #[.int .i64 k, .int .i64 n, .string t, .slice A l.length c] 25)).heap.size = w'.heap.size + 1 := by simp
    rw [hw1] at hy
    have HY0 := Lib.hid hy
    clear hy hw1 hal
    go_enter Tryz.func9, Tryz.ntmps9
    go_wp2_with fail
    go_loopw [5] (fun xi wx => ∃ (j : Nat), j ≤ l.length ∧ xi = .int .i64 j ∧ Hid (Below w'.heap.size w' wx) ∧ Hid (Blk wx w'.heap.size 25 #[.int .i64 k, .int .i64 n, .string t, .slice A l.length c]) ∧ Hid (Blk wx (w'.heap.size + 1) 25 #[.int .i64 k, .int .i64 n, .string t, .slice A' l.length c'])) (fun xi _ => l.length - (ixOf xi).toNat)
    case atStart => exact ⟨0, Nat.zero_le _, rfl, HB1, HX0, HY0⟩
    case round =>
      obtain ⟨j, hj, rfl, HB, HX, HY⟩ := hrel
      clear HB1 HX0 HY0
      have x3 : wr.cell? ⟨w'.heap.size, 3, none⟩ = some (.slice A l.length c) := HX.out.cell 3
      have y3 : wr.cell? ⟨w'.heap.size + 1, 3, none⟩ = some (.slice A' l.length c') := HY.out.cell 3
      by_cases hlt : j < l.length
      · obtain ⟨it, hit⟩ : ∃ it, l[j]? = some it := ⟨_, List.getElem?_eq_getElem hlt⟩
        obtain ⟨rfl, hbB⟩ := HA.out (by omega)
        obtain ⟨rfl, hbB'⟩ := HA2.out (by omega)
        have hbw : Below B w wr := Hb.out.trans (HB.out.mono hB')
        have hwr := HB.out.size
        obtain ⟨c0, c1, c2, v0, v1, v2, v3, e, c3, c4, c5, c6⟩ := (HI.out j it hit).below hbw hbB
        obtain ⟨d0, d1, d2, u0, u1, u2, u3, e', d3, d4, d5, d6⟩ := (HI2.out j it hit).below hbw hbB'
        have HR := Lib.hid (fun wz (hz : Below B w wz) => HV.out j it hit (HW2.out j it hit) wz hz)
        rw [e, e'] at HR
        have hform := HW.out j it hit
        rw [e] at hform
        have hform' := HW2.out j it hit
        rw [e'] at hform'
        obtain ⟨k1, n1, t1, A1, l1, e1, rfl, rfl, rfl, rfl⟩ := hform.form
        obtain ⟨k2, n2, t2, A2, l2, e2, rfl, rfl, rfl, rfl⟩ := hform'.form
        have HZ := Lib.hid (drewU hbw 1)
        have HBz := Lib.hid (drewU HB.out 1)
        have HXz := Lib.hid (blk_below HX.out (drewU (Below.refl _ _) 1))
        have HYz := Lib.hid (blk_below HY.out (drewU (Below.refl _ _) 1))
        clear hform hform' HW HW2 HV HI HI2 HB HX HY e e' hbw
        go_wp2_with fail
        refine tail_drew 26 (by kernel_rfl) (by kernel_rfl) ?_
        simp only [List.take_succ_cons, List.take_zero, List.drop_succ_cons, List.drop_zero]
        repeat still_step
        refine wpStill_nil ?_
        go_wp2_with (go_at_call 9; refine (HR.out _ HZ.out).mono ?_; rintro e w2 ⟨rfl, hb2⟩; have HB2 := Lib.hid (HBz.out.trans (hb2.mono HBz.out.size)); have HX2 := Lib.hid (blk_below HXz.out hb2); have HY2 := Lib.hid (blk_below HYz.out hb2); clear hb2)
        go_roundw
        case rel => exact ⟨j + 1, by omega, by go_num, HB2, HX2, HY2⟩
        case measure => simp [ixOf] <;> omega
      · obtain rfl : j = l.length := by omega
        clear HI HV HA HA2 HI2 HW HW2
        go_wp2_with fail
        go_ret
        exact ⟨rfl, HB.out⟩
end
end Dp
end Go.Proofs.YtgpemnmopogppaaGreatDoor
/- RawLists: the law's walk. -/
namespace Go.Proofs.YtgpemnmopogppaaGreatDoor
open Go Go.RowKit
namespace Rl
open Go.Proofs.YtgpemnmopogppaaGreatDoor.Dp
open Go.Proofs.YtgpemnmopogppaaGreatDoor.Ut (z8)
/-- Four new variables. -/
theorem four_all (w : World) (t : TypeId) (c0 c1 c2 c3 : Array Value) : Below w.heap.size w ((((w.alloc (.cells c0 t)).alloc (.cells c1 t)).alloc (.cells c2 t)).alloc (.cells c3 t)) ∧ Blk ((((w.alloc (.cells c0 t)).alloc (.cells c1 t)).alloc (.cells c2 t)).alloc (.cells c3 t)) w.heap.size t c0 ∧ Blk ((((w.alloc (.cells c0 t)).alloc (.cells c1 t)).alloc (.cells c2 t)).alloc (.cells c3 t)) (w.heap.size + 1) t c1 ∧ Blk ((((w.alloc (.cells c0 t)).alloc (.cells c1 t)).alloc (.cells c2 t)).alloc (.cells c3 t)) (w.heap.size + 1 + 1) t c2 ∧ Blk ((((w.alloc (.cells c0 t)).alloc (.cells c1 t)).alloc (.cells c2 t)).alloc (.cells c3 t)) (w.heap.size + 1 + 1 + 1) t c3 := by
  obtain ⟨h, h0, h3⟩ := four_new w t c0 c1 c2 c3
  have h1 := Blk.new (w.alloc (.cells c0 t)) t c1
  have h2 := Blk.new ((w.alloc (.cells c0 t)).alloc (.cells c1 t)) t c2
  exact ⟨h, h0, by simpa using (h1.alloc (.cells c2 t)).alloc (.cells c3 t), by simpa using h2.alloc (.cells c3 t), h3⟩
section
variable (rm rp ry rb : ByteArray) (A0 : Option Addr) (c0 : Nat) (us : List (ByteArray × ByteArray))
theorem post_form (hb : rb.size ≤ 16777216) : ∃ n gs, postG rm rb us = .mk 4 n ⟨#[]⟩ gs := by
  unfold postG
  split
  · exact (Ut.queryG_ok rb.data.toList (fun p hp => (query_pieces (by have := Lib.size_eq rb; omega) p hp).2)).list
  · exact ⟨0, [], rfl⟩
set_option maxRecDepth 100000 in
set_option maxHeartbeats 8000000 in
theorem rawLists_any (w : World) (hA : PairsAt w w.heap.size A0 us) (hn : us.length ≤ 4194304) (hz : ∀ k, (us.getD k default).1.size ≤ 16777216 ∧ (us.getD k default).2.size ≤ 16777216) (hm : rm.size ≤ 16777216) (hp : rp.size ≤ 16777216) (hy : ry.size ≤ 16777216) (hb : rb.size ≤ 16777216)
    (hL : LibS w) (m : Int) (hmx : w.cell? ⟨0, 0, none⟩ = some (.int .i64 m)) :
    Calls Tryz.prog 6 #[.agg #[.string rm, .string rp, .string ry, .slice A0 us.length c0, .string rb]] w fun e w' => e = .returned (.bool true) ∧ Below w.heap.size w w' := by
  obtain ⟨pn, pgs, hpg⟩ := post_form rm rb us hb
  have HMx := Lib.hid (fun wz (hb : Below w.heap.size w wz) => (hb.cell (p := ⟨0, 0, none⟩) (World.block_lt_of_cell? w _ hmx)).trans hmx)
  have HAl := Lib.hid (fun wz (hb : Below w.heap.size w wz) => alive10 wz (hL.below hb) m (HMx.out wz hb))
  have HQa := Lib.hid (fun wz (h : Below w.heap.size w wz) => lists_any rm rp ry rb A0 c0 us wz (hA.below h) hn hz hm hp hy hb (hL.below h) m (HMx.out wz h) pn pgs hpg)
  have HQb := Lib.hid (fun wz (h : Below w.heap.size w wz) => rlists_any rm rp ry rb A0 c0 us wz (hA.below h) hn hz hm hp hy hb pn pgs hpg)
  clear hpg hA hz hL hmx HMx
  generalize Ut.queryG ry.data.toList = G0 at *
  generalize GV.mk 4 pn ⟨#[]⟩ pgs = G1 at *
  generalize cookG us = G2 at *
  generalize serverG rm rp ry us = G3 at *
  obtain ⟨wA, hwA⟩ : ∃ z, w.alloc (.cells #[.string rm, .string rp, .string ry, .slice A0 us.length c0, .string rb] 43) = z := ⟨_, rfl⟩
  have HA := Lib.hid ((Below.refl w.heap.size w).alloc (Nat.le_refl _) (.cells #[.string rm, .string rp, .string ry, .slice A0 us.length c0, .string rb] 43))
  have HQ := Lib.hid (Blk.new w 43 #[.string rm, .string rp, .string ry, .slice A0 us.length c0, .string rb])
  rw [hwA] at HA HQ
  have HwA := Lib.hid hwA
  clear hwA
  go_enter Tryz.func6, Tryz.ntmps6
  go_upto_region 1 with fail
  rw [HwA.out]
  clear HwA
  have q0 : wA.cell? ⟨w.heap.size, 0, none⟩ = some (.string rm) := HQ.out.cell 0
  have q1 : wA.cell? ⟨w.heap.size, 1, none⟩ = some (.string rp) := HQ.out.cell 1
  have q2 : wA.cell? ⟨w.heap.size, 2, none⟩ = some (.string ry) := HQ.out.cell 2
  have q3 : wA.cell? ⟨w.heap.size, 3, none⟩ = some (.slice A0 us.length c0) := HQ.out.cell 3
  have q4 : wA.cell? ⟨w.heap.size, 4, none⟩ = some (.string rb) := HQ.out.cell 4
  go_upto_region 2 with (go_at_call 19; refine (HQa.out _ HA.out).mono ?_; rintro e w1 ⟨y0, y1, y2, y3, rfl, v0, v1, v2, v3, hb1⟩; obtain ⟨yk0, yn0, yt0, yl0, yA0, yc0, rfl⟩ := vin_form v0; obtain ⟨yk1, yn1, yt1, yl1, yA1, yc1, rfl⟩ := vin_form v1; obtain ⟨yk2, yn2, yt2, yl2, yA2, yc2, rfl⟩ := vin_form v2; obtain ⟨yk3, yn3, yt3, yl3, yA3, yc3, rfl⟩ := vin_form v3; have HV1 := Lib.hid (And.intro v0 (And.intro v1 (And.intro v2 v3))); have HB1 := Lib.hid hb1; clear v0 v1 v2 v3 hb1 q0 q1 q2 q3 q4)
  have HF := Lib.hid (four_all w1 25 #[.int .i64 yk0, .int .i64 yn0, .string yt0, .slice yA0 yl0 yc0] #[.int .i64 yk1, .int .i64 yn1, .string yt1, .slice yA1 yl1 yc1] #[.int .i64 yk2, .int .i64 yn2, .string yt2, .slice yA2 yl2 yc2] #[.int .i64 yk3, .int .i64 yn3, .string yt3, .slice yA3 yl3 yc3])
  generalize (((w1.alloc (.cells #[.int .i64 yk0, .int .i64 yn0, .string yt0, .slice yA0 yl0 yc0] 25)).alloc (.cells #[.int .i64 yk1, .int .i64 yn1, .string yt1, .slice yA1 yl1 yc1] 25)).alloc (.cells #[.int .i64 yk2, .int .i64 yn2, .string yt2, .slice yA2 yl2 yc2] 25)).alloc (.cells #[.int .i64 yk3, .int .i64 yn3, .string yt3, .slice yA3 yl3 yc3] 25) = wF at *
  have HQ1 := Lib.hid (blk_below (blk_below HQ.out HB1.out) HF.out.1)
  have HBf := Lib.hid (HA.out.trans ((HB1.out.trans (HF.out.1.mono HB1.out.size)).mono HA.out.size))
  have q0 : wF.cell? ⟨w.heap.size, 0, none⟩ = some (.string rm) := HQ1.out.cell 0
  have q1 : wF.cell? ⟨w.heap.size, 1, none⟩ = some (.string rp) := HQ1.out.cell 1
  have q2 : wF.cell? ⟨w.heap.size, 2, none⟩ = some (.string ry) := HQ1.out.cell 2
  have q3 : wF.cell? ⟨w.heap.size, 3, none⟩ = some (.slice A0 us.length c0) := HQ1.out.cell 3
  have q4 : wF.cell? ⟨w.heap.size, 4, none⟩ = some (.string rb) := HQ1.out.cell 4
  go_upto_region 3 with (go_at_call 20; refine (HQb.out _ HBf.out).mono ?_; rintro e w2 ⟨x0, x1, x2, x3, rfl, u0, u1, u2, u3, hb2⟩; obtain ⟨xk0, xn0, xt0, xl0, xA0, xc0, rfl⟩ := vin_form u0.vin; obtain ⟨xk1, xn1, xt1, xl1, xA1, xc1, rfl⟩ := vin_form u1.vin; obtain ⟨xk2, xn2, xt2, xl2, xA2, xc2, rfl⟩ := vin_form u2.vin; obtain ⟨xk3, xn3, xt3, xl3, xA3, xc3, rfl⟩ := vin_form u3.vin; have HV2 := Lib.hid (And.intro u0 (And.intro u1 (And.intro u2 u3))); have HB2 := Lib.hid hb2; clear u0 u1 u2 u3 hb2 q0 q1 q2 q3 q4)
  have HG := Lib.hid (four_all w2 25 #[.int .i64 xk0, .int .i64 xn0, .string xt0, .slice xA0 xl0 xc0] #[.int .i64 xk1, .int .i64 xn1, .string xt1, .slice xA1 xl1 xc1] #[.int .i64 xk2, .int .i64 xn2, .string xt2, .slice xA2 xl2 xc2] #[.int .i64 xk3, .int .i64 xn3, .string xt3, .slice xA3 xl3 xc3])
  generalize (((w2.alloc (.cells #[.int .i64 xk0, .int .i64 xn0, .string xt0, .slice xA0 xl0 xc0] 25)).alloc (.cells #[.int .i64 xk1, .int .i64 xn1, .string xt1, .slice xA1 xl1 xc1] 25)).alloc (.cells #[.int .i64 xk2, .int .i64 xn2, .string xt2, .slice xA2 xl2 xc2] 25)).alloc (.cells #[.int .i64 xk3, .int .i64 xn3, .string xt3, .slice xA3 xl3 xc3] 25) = wG at *
  have HY : Hid (∀ wz, Below wG.heap.size wG wz → Blk wz w1.heap.size 25 #[.int .i64 yk0, .int .i64 yn0, .string yt0, .slice yA0 yl0 yc0] ∧ Blk wz (w1.heap.size + 1) 25 #[.int .i64 yk1, .int .i64 yn1, .string yt1, .slice yA1 yl1 yc1] ∧ Blk wz (w1.heap.size + 1 + 1) 25 #[.int .i64 yk2, .int .i64 yn2, .string yt2, .slice yA2 yl2 yc2] ∧ Blk wz (w1.heap.size + 1 + 1 + 1) 25 #[.int .i64 yk3, .int .i64 yn3, .string yt3, .slice yA3 yl3 yc3]) := fun wz h =>
    have k := HB2.out.trans ((HG.out.1.trans (h.mono HG.out.1.size)).mono HB2.out.size)
    ⟨blk_below HF.out.2.1 k, blk_below HF.out.2.2.1 k, blk_below HF.out.2.2.2.1 k, blk_below HF.out.2.2.2.2 k⟩
  have HX : Hid (∀ wz, Below wG.heap.size wG wz → Blk wz w2.heap.size 25 #[.int .i64 xk0, .int .i64 xn0, .string xt0, .slice xA0 xl0 xc0] ∧ Blk wz (w2.heap.size + 1) 25 #[.int .i64 xk1, .int .i64 xn1, .string xt1, .slice xA1 xl1 xc1] ∧ Blk wz (w2.heap.size + 1 + 1) 25 #[.int .i64 xk2, .int .i64 xn2, .string xt2, .slice xA2 xl2 xc2] ∧ Blk wz (w2.heap.size + 1 + 1 + 1) 25 #[.int .i64 xk3, .int .i64 xn3, .string xt3, .slice xA3 xl3 xc3]) := fun wz h =>
    ⟨blk_below HG.out.2.1 h, blk_below HG.out.2.2.1 h, blk_below HG.out.2.2.2.1 h, blk_below HG.out.2.2.2.2 h⟩
  have H12 : w1.heap.size ≤ w2.heap.size := Nat.le_trans HF.out.1.size HB2.out.size
  have HAt : Hid (∀ (g : GV) (y : Value), VIn w1 (fun b => wA.heap.size ≤ b ∧ b < w1.heap.size) g y → VAt w2 w2.heap.size g y) := fun g y h => (h.under (B := w1.heap.size) (HF.out.1.trans (HB2.out.mono HF.out.1.size)) (fun b hb => hb.2)).at_ (fun b hb hS => hb) (fun b hS => Nat.lt_of_lt_of_le hS.2 H12)
  have HLo : Hid (∀ wz, Below wG.heap.size wG wz → Below w2.heap.size w2 wz) := fun wz h => HG.out.1.trans (h.mono HG.out.1.size)
  have HR0 := Lib.hid (fun wz (h : Below wG.heap.size wG wz) => raw_same (Nat.le_refl _) (HAt.out _ _ HV1.out.1) HV2.out.1.vat wz (HLo.out wz h))
  have HR1 := Lib.hid (fun wz (h : Below wG.heap.size wG wz) => raw_same (Nat.le_refl _) (HAt.out _ _ HV1.out.2.1) HV2.out.2.1.vat wz (HLo.out wz h))
  have HR2 := Lib.hid (fun wz (h : Below wG.heap.size wG wz) => raw_same (Nat.le_refl _) (HAt.out _ _ HV1.out.2.2.1) HV2.out.2.2.1.vat wz (HLo.out wz h))
  have HR3 := Lib.hid (fun wz (h : Below wG.heap.size wG wz) => raw_same (Nat.le_refl _) (HAt.out _ _ HV1.out.2.2.2) HV2.out.2.2.2.vat wz (HLo.out wz h))
  have HBt : Hid (∀ wz, Below wG.heap.size wG wz → Below w.heap.size w wz) := fun wz h => (HBf.out.trans (HB2.out.mono HBf.out.size)).trans ((HLo.out wz h).mono (Nat.le_trans HBf.out.size HB2.out.size))
  have HC := Lib.hid (Below.refl wG.heap.size wG)
  obtain ⟨⟨a0, a1, a2, a3⟩, _⟩ := z8 (HY.out _ HC.out).1
  obtain ⟨⟨b0, b1, b2, b3⟩, _⟩ := z8 (HX.out _ HC.out).1
  clear HF HG H12 HAt HV1 HV2 HQ HQ1 HQa HQb HA HB1 HB2
  have HN := Lib.hid (And.intro HR0.out (And.intro HR1.out (And.intro HR2.out (And.intro HR3.out trivial))))
  have HM := Lib.hid (And.intro (fun wz h => And.intro (HY.out wz h).2.1 (HX.out wz h).2.1) (And.intro (fun wz h => And.intro (HY.out wz h).2.2.1 (HX.out wz h).2.2.1) (And.intro (fun wz h => And.intro (HY.out wz h).2.2.2 (HX.out wz h).2.2.2) (And.intro (fun wz h => And.intro (HY.out wz h).2.2.2 (HX.out wz h).2.2.2) trivial))))
  clear HR0 HR1 HR2 HR3 HY HX
  go_wp2_with (first
    | (go_at_call 9; refine (HN.out.1 _ HC.out).mono ?_; rintro e w3 ⟨rfl, hb⟩; have HC := Lib.hid (HC.out.trans (hb.mono HC.out.size)); clear hb a0 a1 a2 a3 b0 b1 b2 b3; obtain ⟨⟨a0, a1, a2, a3⟩, _⟩ := z8 (HM.out.1 _ HC.out).1; obtain ⟨⟨b0, b1, b2, b3⟩, _⟩ := z8 (HM.out.1 _ HC.out).2; have HN := Lib.hid HN.out.2; have HM := Lib.hid HM.out.2)
    | (go_at_call 21; refine (HAl.out _ (HBt.out _ HC.out)).mono ?_; rintro e w5 ⟨rfl, hb5⟩; have HB5 := Lib.hid ((HBt.out _ HC.out).trans (hb5.mono (HBt.out _ HC.out).size)); clear hb5))
  go_ret
  exact ⟨rfl, HB5.out⟩
end
end Rl
end Go.Proofs.YtgpemnmopogppaaGreatDoor
