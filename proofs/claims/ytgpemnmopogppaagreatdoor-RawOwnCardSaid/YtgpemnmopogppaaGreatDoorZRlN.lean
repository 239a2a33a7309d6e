import Derived.Test.YtgpemnmopogppaaGreatDoorZRwQQ
import Derived.Test.YtgpemnmopogppaaGreatDoorZRvE
import Derived.Test.YtgpemnmopogppaaGreatDoorZRlKQ
set_option maxRecDepth 1000000
set_option maxHeartbeats 16000000
namespace Go.Proofs.YtgpemnmopogppaaGreatDoor
open Go.Proofs.Tryz
open Go Go.RowKit
namespace Rl
open Dp
open Ut (z8)
open Uf (VOwn)
open Rw (parseN bytes strs reqV req0 Rq ParseP LibP parse_any pairs_of_own rsame10 sameQ prCells)
open Rv (rparse_any)
theorem strs_cells (l : List (List UInt8 × List UInt8)) : (strs l).flatMap prC = l.flatMap prCells := by
 unfold strs
 rw [List.flatMap_map]
 rfl
theorem strs_len (l : List (List UInt8 × List UInt8)) : (strs l).length = l.length := by simp [strs]
def ParsedP (M P Y B : ByteArray) (us : List (ByteArray × ByteArray)) (w : World) (e : Ending) (w' : World) : Prop :=
 ∃ A c, e = .returned (.tuple #[.agg #[.string M, .string P, .string Y, .slice A us.length c, .string B], .agg #[.int .i64 0, .int .i64 0]]) ∧ w'.ownsRow w.heap.size 48 2 (.slice A us.length c) us.length (us.flatMap prC) ∧ Below w.heap.size w w'
theorem parsed_yes {L : List UInt8} {q : Rq} (hq : parseN L = some q) {w : World} {e : Ending} {w' : World} (h : ParseP L w e w') : ParsedP (Rw.bytes q.method) (Rw.bytes q.path) (Rw.bytes q.query) (Rw.bytes q.body) (strs q.heads) w e w' := by
 obtain ⟨hb, ⟨q', A, c, h1, _, hA, rfl⟩ | ⟨h1, _⟩⟩ := h
 · rw [hq] at h1
   cases h1
   refine ⟨A, c, ?_, ?_, hb⟩
   · rw [strs_len]; rfl
   · rw [strs_cells, strs_len]; exact hA
 · rw [hq] at h1
   cases h1
theorem parsed_no {L : List UInt8} (hq : parseN L = none) {w : World} {e : Ending} {w' : World} (h : ParseP L w e w') : (∃ why fat : Int, why ≠ 0 ∧ e = .returned (.tuple #[.agg #[.string ⟨#[]⟩, .string ⟨#[]⟩, .string ⟨#[]⟩, .slice none 0 0, .string ⟨#[]⟩], .agg #[.int .i64 why, .int .i64 fat]])) ∧ Below w.heap.size w w' := by
 obtain ⟨hb, ⟨q', A, c, h1, _⟩ | ⟨_, why, fat, hw, rfl⟩⟩ := h
 · rw [hq] at h1
   cases h1
 · exact ⟨⟨why, fat, hw, rfl⟩, hb⟩
theorem sameQ_self (M P Y B : ByteArray) (us : List (ByteArray × ByteArray)) : sameQ M P Y B M P Y B us us = true := by
 unfold sameQ
 simp
theorem own_mono0 {w : World} {base n size : Nat} {e : TypeId} {v : Value} {xs : List Value} (h : w.ownsRow base e size v n xs) : w.ownsRow 0 e size v n xs := Rw.own_mono (Nat.zero_le _) h
def RowW (w : World) (A : Option Addr) (n c : Nat) : Prop := ∃ xs, w.ownsRow 0 48 2 (.slice A n c) n xs
theorem roww_form {w : World} {A : Option Addr} {n c : Nat} (h : RowW w A n c) (h0 : 0 < n) : ∃ g, A = some ⟨g, 0, none⟩ := by
 obtain ⟨xs, h⟩ := h
 obtain ⟨g, cap, hv, _, _⟩ := h.form h0
 injection hv with hA
 exact ⟨g, hA⟩
theorem roww_blk {w : World} {g n c : Nat} (h : RowW w (some ⟨g, 0, none⟩) n c) : ∃ cur, Blk w g 48 cur ∧ cur.size = c * 2 ∧ n ≤ c ∧ c ≤ maxLen := by
 obtain ⟨xs, _, h | ⟨g', cap, cur, hv, _, hg, h1, h2, h3, _⟩⟩ := h
 · cases h.1
 · injection hv with e1 e2 e3
   injection e1 with e1
   injection e1 with e1
   subst e1 e3
   exact ⟨cur, hg, h3, h1, h2⟩
theorem roww_of {w : World} {g n c : Nat} {cur : Array Value} (h : Blk w g 48 cur) (hs : cur.size = c * 2) (hn : n ≤ c) (hc : c ≤ maxLen) : RowW w (some ⟨g, 0, none⟩) n c :=
 ⟨cur.toList.take (n * 2), by rw [List.length_take, Array.length_toList, hs]; omega, .inr ⟨g, c, cur, rfl, Nat.zero_le _, h, hn, hc, hs, rfl⟩⟩
theorem roww_set {w : World} {g n c : Nat} (h : RowW w (some ⟨g, 0, none⟩) n c) (i : Nat) (u : Value) : RowW (w.setCell ⟨g, i, none⟩ u) (some ⟨g, 0, none⟩) n c := by
 obtain ⟨cur, hb, h1, h2, h3⟩ := roww_blk h
 exact roww_of (hb.set_ i u) (by simpa using h1) h2 h3
theorem roww_at {w : World} {g n c k : Nat} (h : RowW w (some ⟨g, 0, none⟩) n c) (hk : k < n) : (∃ u, w.cell? ⟨g, k * 2, none⟩ = some u) ∧ (∃ u, w.cell? ⟨g, k * 2 + 1, none⟩ = some u) ∧ w.frozen? ⟨g, k * 2, none⟩ = false ∧ w.frozen? ⟨g, k * 2 + 1, none⟩ = false := by
 obtain ⟨cur, hb, h1, h2, h3⟩ := roww_blk h
 exact ⟨⟨_, (hb.cell (k * 2)).trans (Array.getElem?_eq_getElem (by omega))⟩, ⟨_, (hb.cell (k * 2 + 1)).trans (Array.getElem?_eq_getElem (by omega))⟩, hb.frozen _, hb.frozen _⟩
theorem pairs_row {w : World} {base c : Nat} {A : Option Addr} {us : List (ByteArray × ByteArray)} (h : w.ownsRow base 48 2 (.slice A us.length c) us.length (us.flatMap prC)) : PairsAt w w.heap.size A us := fun h0 => by
 obtain ⟨g, cap, hv, _, hlt⟩ := h.form h0
 have hA : A = some ⟨g, 0, none⟩ := by injection hv
 subst hA
 refine ⟨g, 0, rfl, hlt, fun k hk => ?_⟩
 obtain ⟨f1, f2⟩ := prC_get us k us[k] (by simp [hk])
 have hc := h.cells (g := g) rfl
 have e : us.getD k default = us[k] := by simp [hk]
 rw [e, Nat.zero_add]
 exact ⟨addr_add0 (hc _ _ f1), addr_add0 (hc _ _ f2)⟩
theorem pairs_keep {w w' : World} {S : Nat → Prop} {base c : Nat} {A : Option Addr} {us : List (ByteArray × ByteArray)} (h : w.ownsRow base 48 2 (.slice A us.length c) us.length (us.flatMap prC)) (k : Keeps S w w') (hS : ∀ j, S j → j < base) : PairsAt w' w'.heap.size A us := fun h0 => by
 obtain ⟨g, cap, hv, hge, hlt⟩ := h.form h0
 obtain ⟨b, off, hA, hb, hc⟩ := pairs_row h h0
 have hA2 : A = some ⟨g, 0, none⟩ := by injection hv
 have hgb : b = g := by
  rw [hA] at hA2
  injection hA2 with e
  injection e
 have hn : ¬ S b := fun e => by have := hS b e; omega
 exact ⟨b, off, hA, Nat.lt_of_lt_of_le hb k.size, fun j hj => ⟨(k.cell (p := ⟨b, off + j * 2, none⟩) hb hn).trans (hc j hj).1, (k.cell (p := ⟨b, off + j * 2 + 1, none⟩) hb hn).trans (hc j hj).2⟩⟩
section
variable (s M P Y B : ByteArray) (us : List (ByteArray × ByteArray))
theorem own_yes (w : World) (hn : us.length ≤ 4194304) (hz : ∀ k, (us.getD k default).1.size ≤ 16777216 ∧ (us.getD k default).2.size ≤ 16777216) (hm : M.size ≤ 16777216) (hp : P.size ≤ 16777216) (hy : Y.size ≤ 16777216) (hb : B.size ≤ 16777216)
  (hPa : ∀ wz, LibP wz → Calls prog 23 #[.string s] wz (ParsedP M P Y B us wz)) (hPb : ∀ wz, Calls prog 24 #[.string s] wz (ParsedP M P Y B us wz))
  (hL : LibS w) (m : Int) (hmx : w.cell? ⟨0, 0, none⟩ = some (.int .i64 m)) :
  Calls prog 8 #[.string s] w fun e w' => e = .returned (.bool true) ∧ Below w.heap.size w w' := by
 obtain ⟨pn, pgs, hpg⟩ := post_form M B us hb
 have HMx := lH (fun wz (hb : Below w.heap.size w wz) => (hb.cell (p := ⟨0, 0, none⟩) (World.block_lt_of_cell? w _ hmx)).trans hmx)
 have HAl := lH (fun wz (hb : Below w.heap.size w wz) => alive10 wz (hL.below hb) m (HMx.out wz hb))
 have HPa := lH (fun wz (h : Below w.heap.size w wz) => hPa wz ⟨(hL.below h).pow, m, HMx.out wz h⟩)
 have HPb := lH hPb
 have HQa := lH (fun wz A c (hA : PairsAt wz wz.heap.size A us) (h : Below w.heap.size w wz) => lists_any M P Y B A c us wz hA hn hz hm hp hy hb (hL.below h) m (HMx.out wz h) pn pgs hpg)
 have HQb := lH (fun wz A c (hA : PairsAt wz wz.heap.size A us) => rlists_any M P Y B A c us wz hA hn hz hm hp hy hb pn pgs hpg)
 have HSm : Hid (∀ wz A c A2 c2, PairsAt wz wz.heap.size A us → PairsAt wz wz.heap.size A2 us → Calls prog 25 #[.agg #[.string M, .string P, .string Y, .slice A us.length c, .string B], .agg #[.string M, .string P, .string Y, .slice A2 us.length c2, .string B]] wz fun e w' => e = .returned (.bool true) ∧ Below wz.heap.size wz w') := fun wz A c A2 c2 hA hB => by
  have h := rsame10 M P Y B M P Y B A A2 c c2 us us wz hA hB (by omega) (by omega)
  rwa [sameQ_self] at h
 clear hpg hz hL hmx HMx hPa hPb
 generalize Ut.queryG Y.data.toList = G0 at *
 generalize GV.mk 4 pn ⟨#[]⟩ pgs = G1 at *
 generalize cookG us = G2 at *
 generalize serverG M P Y us = G3 at *
 go_enter func8, ntmps8
 go_upto_region 2 with (go_at_call 23; refine (HPa.out _ (Below.refl _ _)).mono ?_; rintro e w1 ⟨A, c, rfl, hr, hb1⟩; have HR1 := lH hr; have HB1 := lH hb1; clear hr hb1)
 have HN1 := lH (two_new w1 43 53 #[.string M, .string P, .string Y, .slice A us.length c, .string B] #[.int .i64 0, .int .i64 0])
 have HB1a := lH (((Below.refl w1.heap.size w1).alloc (Nat.le_refl _) (.cells #[.string M, .string P, .string Y, .slice A us.length c, .string B] 43)).alloc (by simp) (.cells #[.int .i64 0, .int .i64 0] 53))
 generalize (w1.alloc (.cells #[.string M, .string P, .string Y, .slice A us.length c, .string B] 43)).alloc (.cells #[.int .i64 0, .int .i64 0] 53) = wa at *
 go_upto_region 3 with (go_at_call 24; refine (HPb.out _).mono ?_; rintro e w2 ⟨A2, c2, rfl, hr, hb1⟩; have HR2 := lH hr; have HB2 := lH hb1; clear hr hb1)
 have HN2 := lH (two_new w2 43 53 #[.string M, .string P, .string Y, .slice A2 us.length c2, .string B] #[.int .i64 0, .int .i64 0])
 have HB2a := lH (((Below.refl w2.heap.size w2).alloc (Nat.le_refl _) (.cells #[.string M, .string P, .string Y, .slice A2 us.length c2, .string B] 43)).alloc (by simp) (.cells #[.int .i64 0, .int .i64 0] 53))
 generalize (w2.alloc (.cells #[.string M, .string P, .string Y, .slice A2 us.length c2, .string B] 43)).alloc (.cells #[.int .i64 0, .int .i64 0] 53) = wb at *
 have HBab := lH (HB2.out.trans (HB2a.out.mono HB2.out.size))
 have HB1b := lH (HB1a.out.trans (HBab.out.mono HB1a.out.size))
 have HBb := lH (HB1.out.trans (HB1b.out.mono HB1.out.size))
 have HQb1 : Hid (Blk wb w1.heap.size 43 #[.string M, .string P, .string Y, .slice A us.length c, .string B] ∧ Blk wb (w1.heap.size + 1) 53 #[.int .i64 0, .int .i64 0]) := ⟨blk_below HN1.out.1 HBab.out, blk_below HN1.out.2 HBab.out⟩
 have HRb1 := lH (own_below HR1.out HB1b.out)
 have HRb2 := lH (own_below HR2.out HB2a.out)
 have f0 : wb.cell? ⟨w1.heap.size + 1, 0, none⟩ = some (.int .i64 0) := HQb1.out.2.cell 0
 have f1 : wb.cell? ⟨w1.heap.size + 1, 1, none⟩ = some (.int .i64 0) := HQb1.out.2.cell 1
 have q0 : wb.cell? ⟨w1.heap.size, 0, none⟩ = some (.string M) := (HQb1.out.1).cell 0
 have q1 : wb.cell? ⟨w1.heap.size, 1, none⟩ = some (.string P) := (HQb1.out.1).cell 1
 have q2 : wb.cell? ⟨w1.heap.size, 2, none⟩ = some (.string Y) := (HQb1.out.1).cell 2
 have q3 : wb.cell? ⟨w1.heap.size, 3, none⟩ = some (.slice A us.length c) := (HQb1.out.1).cell 3
 have q4 : wb.cell? ⟨w1.heap.size, 4, none⟩ = some (.string B) := (HQb1.out.1).cell 4
 go_upto_region 6 with (go_at_call 19; refine (HQa.out _ A c (pairs_row HRb1.out) HBb.out).mono ?_; rintro e w3 ⟨y0, y1, y2, y3, rfl, v0, v1, v2, v3, hb1⟩; obtain ⟨yk0, yn0, yt0, yl0, yA0, yc0, rfl⟩ := vin_form v0; obtain ⟨yk1, yn1, yt1, yl1, yA1, yc1, rfl⟩ := vin_form v1; obtain ⟨yk2, yn2, yt2, yl2, yA2, yc2, rfl⟩ := vin_form v2; obtain ⟨yk3, yn3, yt3, yl3, yA3, yc3, rfl⟩ := vin_form v3; have HVy := lH (And.intro v0 (And.intro v1 (And.intro v2 v3))); have HB3 := lH hb1; clear v0 v1 v2 v3 hb1)
 have HF := lH (four_all w3 25 #[.int .i64 yk0, .int .i64 yn0, .string yt0, .slice yA0 yl0 yc0] #[.int .i64 yk1, .int .i64 yn1, .string yt1, .slice yA1 yl1 yc1] #[.int .i64 yk2, .int .i64 yn2, .string yt2, .slice yA2 yl2 yc2] #[.int .i64 yk3, .int .i64 yn3, .string yt3, .slice yA3 yl3 yc3])
 generalize (((w3.alloc (.cells #[.int .i64 yk0, .int .i64 yn0, .string yt0, .slice yA0 yl0 yc0] 25)).alloc (.cells #[.int .i64 yk1, .int .i64 yn1, .string yt1, .slice yA1 yl1 yc1] 25)).alloc (.cells #[.int .i64 yk2, .int .i64 yn2, .string yt2, .slice yA2 yl2 yc2] 25)).alloc (.cells #[.int .i64 yk3, .int .i64 yn3, .string yt3, .slice yA3 yl3 yc3] 25) = wc at *
 have HBbc := lH (HB3.out.trans (HF.out.1.mono HB3.out.size))
 have HQc2 : Hid (Blk wc w2.heap.size 43 #[.string M, .string P, .string Y, .slice A2 us.length c2, .string B]) := blk_below HN2.out.1 HBbc.out
 have HRc2 := lH (own_below HRb2.out HBbc.out)
 clear q0 q1 q2 q3 q4 f0 f1
 have q0 : wc.cell? ⟨w2.heap.size, 0, none⟩ = some (.string M) := (HQc2.out).cell 0
 have q1 : wc.cell? ⟨w2.heap.size, 1, none⟩ = some (.string P) := (HQc2.out).cell 1
 have q2 : wc.cell? ⟨w2.heap.size, 2, none⟩ = some (.string Y) := (HQc2.out).cell 2
 have q3 : wc.cell? ⟨w2.heap.size, 3, none⟩ = some (.slice A2 us.length c2) := (HQc2.out).cell 3
 have q4 : wc.cell? ⟨w2.heap.size, 4, none⟩ = some (.string B) := (HQc2.out).cell 4
 go_upto_region 7 with (go_at_call 20; refine (HQb.out _ A2 c2 (pairs_row HRc2.out)).mono ?_; rintro e w4 ⟨x0, x1, x2, x3, rfl, u0, u1, u2, u3, hb2⟩; obtain ⟨xk0, xn0, xt0, xl0, xA0, xc0, rfl⟩ := vin_form u0.vin; obtain ⟨xk1, xn1, xt1, xl1, xA1, xc1, rfl⟩ := vin_form u1.vin; obtain ⟨xk2, xn2, xt2, xl2, xA2, xc2, rfl⟩ := vin_form u2.vin; obtain ⟨xk3, xn3, xt3, xl3, xA3, xc3, rfl⟩ := vin_form u3.vin; have HVx := lH (And.intro u0 (And.intro u1 (And.intro u2 u3))); have HB4 := lH hb2; clear u0 u1 u2 u3 hb2 q0 q1 q2 q3 q4)
 have HG := lH (four_all w4 25 #[.int .i64 xk0, .int .i64 xn0, .string xt0, .slice xA0 xl0 xc0] #[.int .i64 xk1, .int .i64 xn1, .string xt1, .slice xA1 xl1 xc1] #[.int .i64 xk2, .int .i64 xn2, .string xt2, .slice xA2 xl2 xc2] #[.int .i64 xk3, .int .i64 xn3, .string xt3, .slice xA3 xl3 xc3])
 generalize (((w4.alloc (.cells #[.int .i64 xk0, .int .i64 xn0, .string xt0, .slice xA0 xl0 xc0] 25)).alloc (.cells #[.int .i64 xk1, .int .i64 xn1, .string xt1, .slice xA1 xl1 xc1] 25)).alloc (.cells #[.int .i64 xk2, .int .i64 xn2, .string xt2, .slice xA2 xl2 xc2] 25)).alloc (.cells #[.int .i64 xk3, .int .i64 xn3, .string xt3, .slice xA3 xl3 xc3] 25) = wd at *
 have HBcd := lH (HB4.out.trans (HG.out.1.mono HB4.out.size))
 have HBbd := lH (HBbc.out.trans (HBcd.out.mono HBbc.out.size))
 have HBd := lH (HBb.out.trans (HBbd.out.mono HBb.out.size))
 have HQd : Hid (Blk wd w1.heap.size 43 #[.string M, .string P, .string Y, .slice A us.length c, .string B] ∧ Blk wd w2.heap.size 43 #[.string M, .string P, .string Y, .slice A2 us.length c2, .string B]) := ⟨blk_below HQb1.out.1 HBbd.out, blk_below HQc2.out HBcd.out⟩
 have HRd1 := lH (own_below HRb1.out HBbd.out)
 have HRd2 := lH (own_below HRc2.out HBcd.out)
 have HSl : Hid (∀ j, some j = (Value.slice A us.length c).ownBlock → w.heap.size ≤ j ∧ j < w1.heap.size) := fun j e => HR1.out.lt j e.symm
 have HSb : Hid (∀ j, some j = (Value.slice A us.length c).ownBlock → ∃ cs, Blk wd j 48 cs) := row_blk (l := us) HRd1.out
 have HY : Hid (Blk wd w3.heap.size 25 #[.int .i64 yk0, .int .i64 yn0, .string yt0, .slice yA0 yl0 yc0] ∧ Blk wd (w3.heap.size + 1) 25 #[.int .i64 yk1, .int .i64 yn1, .string yt1, .slice yA1 yl1 yc1] ∧ Blk wd (w3.heap.size + 1 + 1) 25 #[.int .i64 yk2, .int .i64 yn2, .string yt2, .slice yA2 yl2 yc2] ∧ Blk wd (w3.heap.size + 1 + 1 + 1) 25 #[.int .i64 yk3, .int .i64 yn3, .string yt3, .slice yA3 yl3 yc3]) := ⟨blk_below HF.out.2.1 HBcd.out, blk_below HF.out.2.2.1 HBcd.out, blk_below HF.out.2.2.2.1 HBcd.out, blk_below HF.out.2.2.2.2 HBcd.out⟩
 have HX : Hid (Blk wd w4.heap.size 25 #[.int .i64 xk0, .int .i64 xn0, .string xt0, .slice xA0 xl0 xc0] ∧ Blk wd (w4.heap.size + 1) 25 #[.int .i64 xk1, .int .i64 xn1, .string xt1, .slice xA1 xl1 xc1] ∧ Blk wd (w4.heap.size + 1 + 1) 25 #[.int .i64 xk2, .int .i64 xn2, .string xt2, .slice xA2 xl2 xc2] ∧ Blk wd (w4.heap.size + 1 + 1 + 1) 25 #[.int .i64 xk3, .int .i64 xn3, .string xt3, .slice xA3 xl3 xc3]) := HG.out.2
 have HLs : Hid (w1.heap.size ≤ wa.heap.size ∧ wa.heap.size ≤ w2.heap.size ∧ w2.heap.size ≤ wb.heap.size ∧ wb.heap.size ≤ w3.heap.size ∧ w3.heap.size ≤ wc.heap.size ∧ wc.heap.size ≤ w4.heap.size ∧ w4.heap.size ≤ wd.heap.size) := ⟨HB1a.out.size, HB2.out.size, HB2a.out.size, HB3.out.size, HF.out.1.size, HB4.out.size, HG.out.1.size⟩
 have HVY : Hid (∀ (g : GV) (y : Value), VIn w3 (fun b => wb.heap.size ≤ b ∧ b < w3.heap.size) g y → VIn wd (fun b => wb.heap.size ≤ b ∧ b < w3.heap.size) g y) := fun g y h => h.under (HF.out.1.trans (HBcd.out.mono HF.out.1.size)) (fun _ hb => hb.2)
 have HVX : Hid (∀ (g : GV) (y : Value), VOwn w4 g y → VOwn wd g y) := fun g y h => h.under HG.out.1
 clear HN1 HN2 HB1a HB2 HB2a HBab HB1b HB3 HF HB4 HG HBbc HBcd HBbd HQb1 HRb1 HRb2 HQc2 HRc2 HR2 HBb HB1
 have q3 : wd.cell? ⟨w1.heap.size, 3, none⟩ = some (.slice A us.length c) := HQd.out.1.cell 3
 go_upto_region 8 with fail
 have HK0 : Hid (Keeps (fun j => some j = (Value.slice A us.length c).ownBlock) wd wd ∧ RowW wd A us.length c) := ⟨Keeps.refl _ _, _, own_mono0 HRd1.out⟩
 have hsl : us.length ≤ 9223372036854775807 := by omega
 go_loopw [15, 49] (fun x15 x49 wx => ∃ k : Nat, k ≤ us.length ∧ x49 = .int .i64 k ∧ Hid (Keeps (fun j => some j = (Value.slice A us.length c).ownBlock) wd wx ∧ RowW wx A us.length c)) (fun _ x49 _ => us.length - (Ut.ixO x49).toNat)
 case atStart => exact ⟨0, Nat.zero_le _, rfl, HK0.out⟩
 case round =>
  obtain ⟨k, hk, rfl, HR⟩ := hrel
  have hq3 : w1.heap.size < wd.heap.size := HQd.out.1.lt
  have q3' := (HR.out.1.cell (p := ⟨w1.heap.size, 3, none⟩) hq3 (fun e => absurd (HSl.out _ e).2 (Nat.lt_irrefl _))).trans q3
  by_cases hlt : k < us.length
  · have hI : (k : Int) < (us.length : Int) := by omega
    obtain ⟨g, rfl⟩ := roww_form HR.out.2 (by omega)
    obtain ⟨⟨u0, h0⟩, ⟨u1, h1⟩, z0, z1⟩ := roww_at HR.out.2 hlt
    go_wp2_with fail
    refine ⟨⟨k + 1, by omega, by simp, (HR.out.1.setCell (p := ⟨g, k * 2, none⟩) (.inl rfl) _).setCell (p := ⟨g, k * 2 + 1, none⟩) (.inl rfl) _, roww_set (roww_set HR.out.2 _ _) _ _⟩, ?_⟩
    show us.length - ((k : Int) + 1).toNat < us.length - (k : Int).toNat
    omega
  · have hI : ¬ ((k : Int) < (us.length : Int)) := by omega
    obtain ⟨xs, hxs⟩ := HR.out.2
    obtain ⟨i0, hi0, hz0, hz1, hz2⟩ := info_parts pair_info
    have HI := lH (And.intro hi0 (And.intro hz0 (And.intro hz1 hz2)))
    have HO := lH (own_below hxs ((Below.refl wr.heap.size wr).alloc (Nat.le_refl _) (.cells #[.string ⟨#[]⟩, .string ⟨#[]⟩] 48)))
    have HNw := lH (Blk.new wr 48 #[.string ⟨#[]⟩, .string ⟨#[]⟩])
    have HKa := lH (HR.out.1.trans (Keeps.of_below ((Below.refl wr.heap.size wr).alloc (Nat.le_refl _) (.cells #[.string ⟨#[]⟩, .string ⟨#[]⟩] 48))))
    clear hi0 hz0 hz1 hz2 hxs HR
    go_upto_region 13 with (at_builtin; refine wpList_append_own _ rfl _ _ 41 rfl 0 48 i0 (.agg #[.string ⟨#[]⟩, .string ⟨#[]⟩]) 2 32 underlying41 HI.out.1 HI.out.2.1 HI.out.2.2.1 HI.out.2.2.2 rfl (by decide) _ us.length xs rfl HO.out ⟨wr.heap.size, 0, none⟩ 1 1 (#[.string ⟨#[]⟩, .string ⟨#[]⟩] : Array Value).toList rfl rfl (World.news_of_block (cs := #[.string ⟨#[]⟩, .string ⟨#[]⟩]) (t := 48) (fr := (0, 0)) HNw.out) (by decide) (by unfold maxLen; omega) (by omega) (Nat.zero_le _) ?_; intro v6 w6 hown6 hg6 _; have HK6 := lH (HKa.out.trans (Keeps.of_grown hg6 (fun g e => e.symm))); clear hown6 hg6)
    clear HI HO HNw HKa q3'
    have HB6 := lH (HBd.out.trans (HK6.out.below HBd.out.size (fun j e => (HSl.out j e).1)))
    go_upto_region 14 with (go_at_call 23; refine (HPa.out _ HB6.out).mono ?_; rintro e w7 ⟨A3, c3, rfl, hr, hb1⟩; have HR3 := lH hr; have HB7 := lH hb1; clear hr hb1)
    have HN7 := lH (two_new w7 43 53 #[.string M, .string P, .string Y, .slice A3 us.length c3, .string B] #[.int .i64 0, .int .i64 0])
    have HB7a := lH (((Below.refl w7.heap.size w7).alloc (Nat.le_refl _) (.cells #[.string M, .string P, .string Y, .slice A3 us.length c3, .string B] 43)).alloc (by simp) (.cells #[.int .i64 0, .int .i64 0] 53))
    generalize (w7.alloc (.cells #[.string M, .string P, .string Y, .slice A3 us.length c3, .string B] 43)).alloc (.cells #[.int .i64 0, .int .i64 0] 53) = wg at *
    have HB7g := lH (HB7.out.trans (HB7a.out.mono HB7.out.size))
    have HKg := lH (HK6.out.trans (Keeps.of_below HB7g.out))
    have HBg := lH (HB6.out.trans (HB7g.out.mono HB6.out.size))
    have HPp := lH (pairs_row (own_below HR3.out HB7a.out))
    have HPw : Hid (PairsAt wg wg.heap.size A2 us) := pairs_keep HRd2.out HKg.out (fun j e => by have := (HSl.out j e).2; have := HLs.out; omega)
    have HnS : Hid (∀ j, w1.heap.size ≤ j → ¬ some j = (Value.slice A us.length c).ownBlock) := fun j h e => by have := (HSl.out j e).2; omega
    have HT5 : Hid (Blk wg w2.heap.size 43 #[.string M, .string P, .string Y, .slice A2 us.length c2, .string B]) := HQd.out.2.keeps HKg.out (HnS.out _ (by have := HLs.out; omega))
    have HYg : Hid (Blk wg w3.heap.size 25 #[.int .i64 yk0, .int .i64 yn0, .string yt0, .slice yA0 yl0 yc0] ∧ Blk wg (w3.heap.size + 1) 25 #[.int .i64 yk1, .int .i64 yn1, .string yt1, .slice yA1 yl1 yc1] ∧ Blk wg (w3.heap.size + 1 + 1) 25 #[.int .i64 yk2, .int .i64 yn2, .string yt2, .slice yA2 yl2 yc2] ∧ Blk wg (w3.heap.size + 1 + 1 + 1) 25 #[.int .i64 yk3, .int .i64 yn3, .string yt3, .slice yA3 yl3 yc3]) := ⟨HY.out.1.keeps HKg.out (HnS.out _ (by have := HLs.out; omega)), HY.out.2.1.keeps HKg.out (HnS.out _ (by have := HLs.out; omega)), HY.out.2.2.1.keeps HKg.out (HnS.out _ (by have := HLs.out; omega)), HY.out.2.2.2.keeps HKg.out (HnS.out _ (by have := HLs.out; omega))⟩
    have HXg : Hid (Blk wg w4.heap.size 25 #[.int .i64 xk0, .int .i64 xn0, .string xt0, .slice xA0 xl0 xc0] ∧ Blk wg (w4.heap.size + 1) 25 #[.int .i64 xk1, .int .i64 xn1, .string xt1, .slice xA1 xl1 xc1] ∧ Blk wg (w4.heap.size + 1 + 1) 25 #[.int .i64 xk2, .int .i64 xn2, .string xt2, .slice xA2 xl2 xc2] ∧ Blk wg (w4.heap.size + 1 + 1 + 1) 25 #[.int .i64 xk3, .int .i64 xn3, .string xt3, .slice xA3 xl3 xc3]) := ⟨HX.out.1.keeps HKg.out (HnS.out _ (by have := HLs.out; omega)), HX.out.2.1.keeps HKg.out (HnS.out _ (by have := HLs.out; omega)), HX.out.2.2.1.keeps HKg.out (HnS.out _ (by have := HLs.out; omega)), HX.out.2.2.2.keeps HKg.out (HnS.out _ (by have := HLs.out; omega))⟩
    have VY : Hid (∀ (g : GV) (y : Value), VIn w3 (fun b => wb.heap.size ≤ b ∧ b < w3.heap.size) g y → VAt wg wg.heap.size g y) := fun g y h => ((HVY.out _ _ h).keep (S' := fun b => wb.heap.size ≤ b ∧ b < w3.heap.size) (fun _ e => e) (fun p hp => HKg.out.cell (by have := HLs.out; omega) (HnS.out _ (by have := HLs.out; omega)))).at_ (fun b hb hS => hb) (fun b hS => by have := HLs.out; have := HKg.out.size; omega)
    have VX : Hid (∀ (g : GV) (y : Value), VOwn w4 g y → VAt wg wg.heap.size g y) := fun g y h => ((HVX.out _ _ h).keeps HKg.out (fun j e => by obtain ⟨cs, hb⟩ := HSb.out j e; exact ⟨_, cs, hb, by decide⟩)).vat
    have HN := lH (And.intro (fun wz (h : Below wg.heap.size wg wz) => raw_same (Nat.le_refl _) (VY.out _ _ HVy.out.1) (VX.out _ _ HVx.out.1) wz h) (And.intro (fun wz (h : Below wg.heap.size wg wz) => raw_same (Nat.le_refl _) (VY.out _ _ HVy.out.2.1) (VX.out _ _ HVx.out.2.1) wz h) (And.intro (fun wz (h : Below wg.heap.size wg wz) => raw_same (Nat.le_refl _) (VY.out _ _ HVy.out.2.2.1) (VX.out _ _ HVx.out.2.2.1) wz h) (And.intro (fun wz (h : Below wg.heap.size wg wz) => raw_same (Nat.le_refl _) (VY.out _ _ HVy.out.2.2.2) (VX.out _ _ HVx.out.2.2.2) wz h) trivial))))
    have HM := lH (And.intro (fun wz (h : Below wg.heap.size wg wz) => And.intro (blk_below HYg.out.1 h) (blk_below HXg.out.1 h)) (And.intro (fun wz (h : Below wg.heap.size wg wz) => And.intro (blk_below HYg.out.2.1 h) (blk_below HXg.out.2.1 h)) (And.intro (fun wz (h : Below wg.heap.size wg wz) => And.intro (blk_below HYg.out.2.2.1 h) (blk_below HXg.out.2.2.1 h)) (And.intro (fun wz (h : Below wg.heap.size wg wz) => And.intro (blk_below HYg.out.2.2.2 h) (blk_below HXg.out.2.2.2 h)) (And.intro (fun wz (h : Below wg.heap.size wg wz) => And.intro (blk_below HYg.out.2.2.2 h) (blk_below HXg.out.2.2.2 h)) trivial)))))
    have HC := lH (Below.refl wg.heap.size wg)
    have a0 : wg.cell? ⟨w7.heap.size, 0, none⟩ = some (.string M) := HN7.out.1.cell 0
    have a1 : wg.cell? ⟨w7.heap.size, 1, none⟩ = some (.string P) := HN7.out.1.cell 1
    have a2 : wg.cell? ⟨w7.heap.size, 2, none⟩ = some (.string Y) := HN7.out.1.cell 2
    have a3 : wg.cell? ⟨w7.heap.size, 3, none⟩ = some (.slice A3 us.length c3) := HN7.out.1.cell 3
    have a4 : wg.cell? ⟨w7.heap.size, 4, none⟩ = some (.string B) := HN7.out.1.cell 4
    have b0 : wg.cell? ⟨w2.heap.size, 0, none⟩ = some (.string M) := HT5.out.cell 0
    have b1 : wg.cell? ⟨w2.heap.size, 1, none⟩ = some (.string P) := HT5.out.cell 1
    have b2 : wg.cell? ⟨w2.heap.size, 2, none⟩ = some (.string Y) := HT5.out.cell 2
    have b3 : wg.cell? ⟨w2.heap.size, 3, none⟩ = some (.slice A2 us.length c2) := HT5.out.cell 3
    have b4 : wg.cell? ⟨w2.heap.size, 4, none⟩ = some (.string B) := HT5.out.cell 4
    clear q3 HQd HRd1 HRd2 HY HX HYg HXg HVY HVX VY VX HVy HVx HK6 HB6 HB7 HB7a HB7g HKg HN7 HR3 HT5 HR1 HSl HSb HnS HBd HK0
    go_wp2_with (first
     | (go_at_call 25; refine (HSm.out _ A3 c3 A2 c2 HPp.out HPw.out).mono ?_; rintro e w8 ⟨rfl, hb⟩; have HC := lH (HC.out.trans (hb.mono HC.out.size)); clear hb a0 a1 a2 a3 a4 b0 b1 b2 b3 b4; obtain ⟨⟨a0, a1, a2, a3⟩, _⟩ := z8 (HM.out.1 _ HC.out).1; obtain ⟨⟨b0, b1, b2, b3⟩, _⟩ := z8 (HM.out.1 _ HC.out).2; have HM := lH HM.out.2)
     | (go_at_call 9; refine (HN.out.1 _ HC.out).mono ?_; rintro e w9 ⟨rfl, hb⟩; have HC := lH (HC.out.trans (hb.mono HC.out.size)); clear hb a0 a1 a2 a3 b0 b1 b2 b3; obtain ⟨⟨a0, a1, a2, a3⟩, _⟩ := z8 (HM.out.1 _ HC.out).1; obtain ⟨⟨b0, b1, b2, b3⟩, _⟩ := z8 (HM.out.1 _ HC.out).2; have HN := lH HN.out.2; have HM := lH HM.out.2)
     | (go_at_call 21; refine (HAl.out _ (HBg.out.trans (HC.out.mono HBg.out.size))).mono ?_; rintro e w5 ⟨rfl, hb5⟩; have HB5 := lH ((HBg.out.trans (HC.out.mono HBg.out.size)).trans (hb5.mono (HBg.out.trans (HC.out.mono HBg.out.size)).size)); clear hb5))
    go_ret
    exact ⟨rfl, HB5.out⟩
theorem own_no (w : World) (hPa : ∀ wz, LibP wz → Calls prog 23 #[.string s] wz fun e w' => (∃ why fat : Int, why ≠ 0 ∧ e = .returned (.tuple #[.agg #[.string ⟨#[]⟩, .string ⟨#[]⟩, .string ⟨#[]⟩, .slice none 0 0, .string ⟨#[]⟩], .agg #[.int .i64 why, .int .i64 fat]])) ∧ Below wz.heap.size wz w')
  (hPb : ∀ wz, Calls prog 24 #[.string s] wz fun e w' => (∃ why fat : Int, why ≠ 0 ∧ e = .returned (.tuple #[.agg #[.string ⟨#[]⟩, .string ⟨#[]⟩, .string ⟨#[]⟩, .slice none 0 0, .string ⟨#[]⟩], .agg #[.int .i64 why, .int .i64 fat]])) ∧ Below wz.heap.size wz w')
  (hL : LibS w) (m : Int) (hmx : w.cell? ⟨0, 0, none⟩ = some (.int .i64 m)) :
  Calls prog 8 #[.string s] w fun e w' => e = .returned (.bool true) ∧ Below w.heap.size w w' := by
 have HAl := lH (fun wz (hb : Below w.heap.size w wz) => alive10 wz (hL.below hb) m ((hb.cell (p := ⟨0, 0, none⟩) (World.block_lt_of_cell? w _ hmx)).trans hmx))
 have HPa := lH (hPa w ⟨hL.pow, m, hmx⟩)
 have HPb := lH hPb
 clear hL hmx hPa hPb
 go_enter func8, ntmps8
 go_upto_region 2 with (go_at_call 23; refine HPa.out.mono ?_; rintro e w1 ⟨⟨why, fat, hw, rfl⟩, hb1⟩; have HB1 := lH hb1; have HW := lH hw; clear hw hb1)
 have HN1 := lH (two_new w1 43 53 #[.string ⟨#[]⟩, .string ⟨#[]⟩, .string ⟨#[]⟩, .slice none 0 0, .string ⟨#[]⟩] #[.int .i64 why, .int .i64 fat])
 have HB1a := lH (((Below.refl w1.heap.size w1).alloc (Nat.le_refl _) (.cells #[.string ⟨#[]⟩, .string ⟨#[]⟩, .string ⟨#[]⟩, .slice none 0 0, .string ⟨#[]⟩] 43)).alloc (by simp) (.cells #[.int .i64 why, .int .i64 fat] 53))
 generalize (w1.alloc (.cells #[.string ⟨#[]⟩, .string ⟨#[]⟩, .string ⟨#[]⟩, .slice none 0 0, .string ⟨#[]⟩] 43)).alloc (.cells #[.int .i64 why, .int .i64 fat] 53) = wa at *
 go_upto_region 3 with (go_at_call 24; refine (HPb.out _).mono ?_; rintro e w2 ⟨⟨why2, fat2, hw2, rfl⟩, hb1⟩; have HB2 := lH hb1; clear hw2 hb1)
 have HB2a := lH (((Below.refl w2.heap.size w2).alloc (Nat.le_refl _) (.cells #[.string ⟨#[]⟩, .string ⟨#[]⟩, .string ⟨#[]⟩, .slice none 0 0, .string ⟨#[]⟩] 43)).alloc (by simp) (.cells #[.int .i64 why2, .int .i64 fat2] 53))
 generalize (w2.alloc (.cells #[.string ⟨#[]⟩, .string ⟨#[]⟩, .string ⟨#[]⟩, .slice none 0 0, .string ⟨#[]⟩] 43)).alloc (.cells #[.int .i64 why2, .int .i64 fat2] 53) = wb at *
 have HBab := lH (HB2.out.trans (HB2a.out.mono HB2.out.size))
 have HB1b := lH (HB1a.out.trans (HBab.out.mono HB1a.out.size))
 have HBb := lH (HB1.out.trans (HB1b.out.mono HB1.out.size))
 have HQ := lH (blk_below HN1.out.2 HBab.out)
 have f0 : wb.cell? ⟨w1.heap.size + 1, 0, none⟩ = some (.int .i64 why) := HQ.out.cell 0
 have f1 : wb.cell? ⟨w1.heap.size + 1, 1, none⟩ = some (.int .i64 fat) := HQ.out.cell 1
 have hw0 : (why == 0) = false := by simpa using HW.out
 clear HN1 HB1a HB2 HB2a HBab HB1b HQ HPa HPb HB1
 go_wp2_with (go_at_call 21; refine (HAl.out _ HBb.out).mono ?_; rintro e w5 ⟨rfl, hb5⟩; have HB5 := lH (HBb.out.trans (hb5.mono HBb.out.size)); clear hb5)
 go_ret
 exact ⟨rfl, HB5.out⟩
theorem strs_at (l : List (List UInt8 × List UInt8)) (n : Nat) (h : ∀ u ∈ l, u.1.length ≤ n ∧ u.2.length ≤ n) (k : Nat) : ((strs l).getD k default).1.size ≤ n ∧ ((strs l).getD k default).2.size ≤ n := by
 by_cases hk : k < l.length
 · have e : (strs l).getD k default = (Rw.bytes l[k].1, Rw.bytes l[k].2) := by simp [strs, hk]
   rw [e]
   have := h l[k] (List.getElem_mem hk)
   exact ⟨by rw [Rw.bytes_size]; exact this.1, by rw [Rw.bytes_size]; exact this.2⟩
 · have e : (strs l).getD k default = default := by
    rw [List.getD_eq_getElem?_getD, List.getElem?_eq_none (by simp [strs]; omega)]
    rfl
   rw [e]
   exact ⟨Nat.le_trans (Nat.le_of_eq (by rfl)) (Nat.zero_le _), Nat.le_trans (Nat.le_of_eq (by rfl)) (Nat.zero_le _)⟩
theorem rawOwn_any (hs : s.size ≤ 9223372036854775807) (w : World) (hL : LibS w) (m : Int) (hmx : w.cell? ⟨0, 0, none⟩ = some (.int .i64 m)) :
  Calls prog 8 #[.string s] w fun e w' => e = .returned (.bool true) ∧ Below w.heap.size w w' := by
 have hz : s.size ≤ 9223372036854775807 := by omega
 cases hq : parseN s.data.toList with
 | none => exact own_no s w (fun wz hl => (parse_any s hz wz hl).mono fun e w' h => parsed_no hq h) (fun wz => (rparse_any s hz wz).mono fun e w' h => parsed_no hq h) hL m hmx
 | some q =>
  obtain ⟨l0, l1, l2, l3, l4, l5⟩ := parseN_le hq
  have hy : ∀ wz, Calls prog 24 #[.string s] wz (ParsedP (Rw.bytes q.method) (Rw.bytes q.path) (Rw.bytes q.query) (Rw.bytes q.body) (strs q.heads) wz) := fun wz => (rparse_any s hz wz).mono fun e w' h => parsed_yes hq h
  have hn : q.heads.length ≤ 64 := heads_few hq
  exact own_yes s (Rw.bytes q.method) (Rw.bytes q.path) (Rw.bytes q.query) (Rw.bytes q.body) (strs q.heads) w (by rw [strs_len]; omega) (fun k => by have := strs_at q.heads _ l5 k; omega) (by rw [Rw.bytes_size]; omega) (by rw [Rw.bytes_size]; omega) (by rw [Rw.bytes_size]; omega) (by rw [Rw.bytes_size]; omega)
   (fun wz hl => (parse_any s hz wz hl).mono fun e w' h => parsed_yes hq h) hy hL m hmx
end
end Rl
end Go.Proofs.YtgpemnmopogppaaGreatDoor
