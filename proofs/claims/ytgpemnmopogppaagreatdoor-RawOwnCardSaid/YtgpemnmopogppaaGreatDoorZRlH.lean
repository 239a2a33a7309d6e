import Derived.Test.YtgpemnmopogppaaGreatDoorZRlG
import Derived.Test.YtgpemnmopogppaaGreatDoorZRlC
import Derived.Test.YtgpemnmopogppaaGreatDoorZUfGQ
set_option maxRecDepth 1000000
set_option maxHeartbeats 16000000
namespace Go.Proofs.YtgpemnmopogppaaGreatDoor
open Held
open Go.Proofs.Tryz
open Go Go.RowKit
namespace Rl
open Dp
open Us (PK LstP ownL setP turnL)
open Ut (queryG z8 ixO mkB mkB_of mkB_size)
open Uf (VOwn LOwn rquery_any)
theorem pair_info : (prog.info? 48).map (fun i => (i.zero, i.size, i.bytes)) = some (some (.agg #[.string ⟨#[]⟩, .string ⟨#[]⟩]), 2, 32) := by kernel_rfl
def lsI (m p y : ByteArray) (us : List (ByteArray × ByteArray)) (i : Nat) : List (ByteArray × ByteArray) := firstL m p y ++ (us.take i).map headU
theorem lsI_succ (m p y : ByteArray) (us : List (ByteArray × ByteArray)) (i : Nat) (h : i < us.length) : lsI m p y us (i + 1) = lsI m p y us i ++ [headU (us.getD i default)] := by
 unfold lsI
 rw [List.take_succ_eq_append_getElem h, List.map_append, ← List.append_assoc, show us.getD i default = us[i] by simp [h]]
 rfl
theorem lsI_len (m p y : ByteArray) (us : List (ByteArray × ByteArray)) (i : Nat) (h : i ≤ us.length) : (lsI m p y us i).length = 4 + i := by
 simp [lsI, firstL]
 omega
theorem target_cat (p y : ByteArray) (h : y.toList.isEmpty = false) : p ++ (⟨#[63]⟩ ++ y) = targetB p y := by
 unfold targetB
 rw [if_neg (by rw [h]; simp)]
 apply ByteArray.ext
 simp
theorem target_nil (p y : ByteArray) (h : y.toList.isEmpty = true) : p = targetB p y := by
 unfold targetB
 rw [if_pos h]
theorem target_le (p y : ByteArray) : (targetB p y).size ≤ p.size + 1 + y.size := by
 unfold targetB
 split
 · omega
 · rw [ByteArray.size_append, ByteArray.size_append]
   have : (⟨#[63]⟩ : ByteArray).size = 1 := rfl
   omega
theorem rquery_form {l : List UInt8} (hl : l.length ≤ 16777216) {nx : Int} {gs : List GI} (hq : queryG l = .mk 4 nx ⟨#[]⟩ gs) (w : World) :
  Calls prog 11 #[.string (mkB l)] w fun e w' => ∃ A c, e = .returned (.agg #[.int .i64 4, .int .i64 nx, .string ⟨#[]⟩, .slice A gs.length c]) ∧ VOwn w' (.mk 4 nx ⟨#[]⟩ gs) (.agg #[.int .i64 4, .int .i64 nx, .string ⟨#[]⟩, .slice A gs.length c]) ∧ Below w.heap.size w w' :=
 (rquery_any l hl w).mono fun e w' ⟨y, h1, h2, h3⟩ => by
  rw [hq] at h2
  obtain ⟨ps, A4, c4, rfl, rfl, ho, hv⟩ := h2.form
  exact ⟨A4, c4, by rw [List.length_map]; exact h1, by rw [List.length_map]; exact h2, h3⟩
theorem z10 {w : World} {b : Nat} {t : TypeId} {a0 a1 a2 a3 a4 : Value} (h : Blk w b t #[a0, a1, a2, a3, a4]) : (w.cell? ⟨b, 0, none⟩ = some a0 ∧ w.cell? ⟨b, 1, none⟩ = some a1 ∧ w.cell? ⟨b, 2, none⟩ = some a2 ∧ w.cell? ⟨b, 3, none⟩ = some a3 ∧ w.cell? ⟨b, 4, none⟩ = some a4) ∧ True := ⟨⟨h.cell 0, h.cell 1, h.cell 2, h.cell 3, h.cell 4⟩, trivial⟩
structure PstW (W0 W : World) (rq : Array Value) (pn : Int) (pgs : List GI) (pA : Option Addr) (pc : Nat) : Prop where
 req : Blk W W0.heap.size 43 rq
 r1 : Blk W (W0.heap.size + 1) 25 #[.int .i64 0, .int .i64 0, .string ⟨#[]⟩, .slice none 0 0]
 r2 : Blk W (W0.heap.size + 2) 25 #[.int .i64 0, .int .i64 0, .string ⟨#[]⟩, .slice none 0 0]
 r3 : Blk W (W0.heap.size + 3) 25 #[.int .i64 0, .int .i64 0, .string ⟨#[]⟩, .slice none 0 0]
 r4 : Blk W (W0.heap.size + 4) 25 #[.int .i64 0, .int .i64 0, .string ⟨#[]⟩, .slice none 0 0]
 box : Blk W (W0.heap.size + 5) 25 #[.int .i64 4, .int .i64 pn, .string ⟨#[]⟩, .slice pA pgs.length pc]
 own : VOwn W (.mk 4 pn ⟨#[]⟩ pgs) (.agg #[.int .i64 4, .int .i64 pn, .string ⟨#[]⟩, .slice pA pgs.length pc])
 low : Below W0.heap.size W0 W
theorem PstW.under {W0 W W' : World} {rq : Array Value} {pn : Int} {pgs : List GI} {pA : Option Addr} {pc : Nat} (h : PstW W0 W rq pn pgs pA pc) (hb : Below W.heap.size W W') : PstW W0 W' rq pn pgs pA pc :=
 ⟨blk_below h.req hb, blk_below h.r1 hb, blk_below h.r2 hb, blk_below h.r3 hb, blk_below h.r4 hb, blk_below h.box hb, h.own.under hb, h.low.trans (hb.mono h.low.size)⟩
theorem PstW.post {W0 W W' : World} {rq : Array Value} {pn pn' : Int} {pgs pgs' : List GI} {pA pA' : Option Addr} {pc pc' : Nat} (h : PstW W0 W rq pn pgs pA pc) (hv : VOwn W (.mk 4 pn' ⟨#[]⟩ pgs') (.agg #[.int .i64 4, .int .i64 pn', .string ⟨#[]⟩, .slice pA' pgs'.length pc']))
  (hf : W' = (((W.setCell ⟨W0.heap.size + 5, 0, none⟩ (.int .i64 4)).setCell ⟨W0.heap.size + 5, 1, none⟩ (.int .i64 pn')).setCell ⟨W0.heap.size + 5, 2, none⟩ (.string ⟨#[]⟩)).setCell ⟨W0.heap.size + 5, 3, none⟩ (.slice pA' pgs'.length pc')) : PstW W0 W' rq pn' pgs' pA' pc' := by
 obtain ⟨h1, h2⟩ := Ut.store4 h.box (.int .i64 4) (.int .i64 pn') (.string ⟨#[]⟩) (.slice pA' pgs'.length pc')
 rw [← hf] at h1 h2
 exact ⟨h.req.keeps h2 (by omega), h.r1.keeps h2 (by omega), h.r2.keeps h2 (by omega), h.r3.keeps h2 (by omega), h.r4.keeps h2 (by omega), h1, hv.keeps h2 (fun j e => by subst e; exact ⟨_, _, h.box, by decide⟩), h.low.trans (h2.below h.low.size (fun j e => by omega))⟩
theorem pst_start (w : World) (rq : Array Value) : PstW w ((((((w.alloc (.cells rq 43)).alloc (.cells #[.int .i64 0, .int .i64 0, .string ⟨#[]⟩, .slice none 0 0] 25)).alloc (.cells #[.int .i64 0, .int .i64 0, .string ⟨#[]⟩, .slice none 0 0] 25)).alloc (.cells #[.int .i64 0, .int .i64 0, .string ⟨#[]⟩, .slice none 0 0] 25)).alloc (.cells #[.int .i64 0, .int .i64 0, .string ⟨#[]⟩, .slice none 0 0] 25)).alloc (.cells #[.int .i64 4, .int .i64 0, .string ⟨#[]⟩, .slice none 0 0] 25)) rq 0 [] none 0 := by
 have ha : ∀ (W : World) (o : Obj), (W.alloc o).heap.size = W.heap.size + 1 := fun W o => by simp
 have hn : ∀ (W : World) (k : Nat) (cs : Array Value), W.heap.size = w.heap.size + k → Blk (W.alloc (.cells cs 25)) (w.heap.size + k) 25 cs := fun W k cs h => by
  have := Blk.new W 25 cs
  rwa [h] at this
 have h1 := Blk.new w 43 rq
 generalize hw1 : w.alloc (.cells rq 43) = w1 at *
 have s1 : w1.heap.size = w.heap.size + 1 := by rw [← hw1, ha]
 have b1 : Below w.heap.size w w1 := by rw [← hw1]; exact (Below.refl w.heap.size w).alloc (Nat.le_refl _) _
 clear hw1
 refine ⟨((((h1.alloc _).alloc _).alloc _).alloc _).alloc _, (((hn w1 1 _ s1).alloc _).alloc _).alloc _ |>.alloc _, ((hn _ 2 _ (by rw [ha, s1])).alloc _).alloc _ |>.alloc _, ((hn _ 3 _ (by rw [ha, ha, s1])).alloc _).alloc _, (hn _ 4 _ (by rw [ha, ha, ha, s1])).alloc _, hn _ 5 _ (by rw [ha, ha, ha, ha, s1]), .leaf _ _ _ _, ?_⟩
 exact ((((b1.alloc (by omega) _).alloc (by rw [ha]; omega) _).alloc (by rw [ha, ha]; omega) _).alloc (by rw [ha, ha, ha]; omega) _).alloc (by rw [ha, ha, ha, ha]; omega) _
theorem LsW.big {W0 W : World} {rq : Array Value} {pn : Int} {pgs : List GI} {pA : Option Addr} {pc lb : Nat} {st : List PK × Int} (h : LsW W0 W rq pn pgs pA pc lb st) : lb < W.heap.size := by
 obtain ⟨sv, qs, h1, _⟩ := h.lst
 exact h1.lst.blk.lt
theorem add_block (a : Addr) (n : Nat) : (a.add n).block = a.block := by
 unfold Addr.add
 split <;> rfl
theorem keeps_al (w : World) (o : Obj) : Keeps (fun _ => False) w (w.drew.alloc o) := ((Keeps.refl _ w).drew).alloc o
theorem keeps_app {w w8 : World} {o : Obj} {row : Option Nat} (h : (w.drew.alloc o).grownBy w8 row) : Keeps (fun j => some j = row ∨ w.heap.size ≤ j) w w8 :=
 (Keeps.of_below (S := fun j => some j = row ∨ w.heap.size ≤ j) ((Below.refl w.heap.size w).drew.alloc (Nat.le_refl _) o)).trans (Keeps.of_grown h fun _ e => .inl e.symm)
theorem lown_keeps {w w' : World} {S : Nat → Prop} {lb : Nat} {sv : Value} {ps : List PI} {nx : Int} (h : LOwn w lb sv ps nx) (k : Keeps S w w') (h1 : ∀ j, S j → j < w.heap.size → ∃ cs, Blk w j 48 cs) : LOwn w' lb sv ps nx := by
 have k2 : Keeps (fun j => S j ∧ j < w.heap.size) w w' := k.mono fun j hl hs => ⟨hs, hl⟩
 have hne : ∀ j, (S j ∧ j < w.heap.size) → ∃ t cs, Blk w j t cs ∧ t ≠ 39 := fun j hj => by
  obtain ⟨cs, hb⟩ := h1 j hj.1 hj.2
  exact ⟨_, _, hb, by decide⟩
 refine ⟨⟨h.lst.blk.keeps k2 (fun hs => ?_), Us.row_keep h.lst.owns k2 (fun g e hs => ?_), h.lst.hb⟩, h.wf, fun q hq => (h.val q hq).keeps k2 hne⟩
 · obtain ⟨cs, hb⟩ := h1 _ hs.1 hs.2
   have hb2 := h.lst.blk
   unfold Blk at hb hb2
   rw [hb2] at hb
   injection hb with hb
   injection hb with _ hb
   exact absurd hb (by decide)
 · obtain ⟨cs, hb⟩ := h1 _ hs.1 hs.2
   exact row_ne h.lst.owns hb (by decide) e.symm
theorem row_at {w : World} {base g lb : Nat} {n cap : Nat} {l : List (ByteArray × ByteArray)} {t : TypeId} {cs : Array Value} (h : SetRow w base (.slice (some ⟨g, 0, none⟩) n cap) l) (hb : Blk w lb t cs) (ht : t ≠ 48) : ∃ o, w.heap[g]? = some o ∧ g ≠ lb := by
 have h1 := h.lt g rfl
 exact ⟨_, Array.getElem?_eq_getElem h1.2, fun e => row_ne h hb ht (by rw [e]; rfl)⟩
theorem row_blk {w : World} {base : Nat} {v : Value} {l : List (ByteArray × ByteArray)} (h : SetRow w base v l) : ∀ j, some j = v.ownBlock → ∃ cs, Blk w j 48 cs := fun j e => by
 rcases h.2 with ⟨h0, _⟩ | ⟨g, cap, cur, e2, _, hb, _⟩
 · rw [h0] at e; simp [Value.ownBlock] at e
 · rw [e2] at e
   simp only [Value.ownBlock, Option.some.injEq] at e
   subst e
   exact ⟨cur, hb⟩
theorem reads_pair {w : World} {g : Nat} {t : TypeId} {u : ByteArray × ByteArray} (h : Blk w g t #[.string u.1, .string u.2]) : Reads w w.heap.size 2 (some ⟨g, 0, none⟩) 1 ([u].flatMap prC) := by
 refine ⟨rfl, fun _ => ⟨⟨g, 0, none⟩, rfl, h.lt, fun j x hx => ?_⟩⟩
 have hu' : (prC u)[j]? = some x := by simpa using hx
 have e : ((⟨g, 0, none⟩ : Addr).add j) = ⟨g, j, none⟩ := by
  unfold Addr.add
  by_cases h0 : j = 0
  · subst h0; rfl
  · simp [h0]
 rw [e, h.cell]
 simpa [prC] using hu'
theorem pair_one (l : List (ByteArray × ByteArray)) : ∀ u ∈ l.flatMap prC, u.oneCell' = true := by
 intro u hu
 obtain ⟨p, _, hp⟩ := List.mem_flatMap.1 hu
 simp only [prC, List.mem_cons, List.not_mem_nil, or_false] at hp
 rcases hp with rfl | rfl <;> rfl
theorem step_app_pair {ops : Array Oper} {o : Oper} {a : Act} {w : World} {K : Act → World → Prop} {Q : Exit → Act → World → Prop} {E : Prop} (hgd : o.guard = none) (s x : Operand)
  (ho : o.op = .call { callee := .builtin .append, args := #[s, x], argTypes := #[41, 41] }) (base : Nat) (sv : Value) (ps : List (ByteArray × ByteArray)) (hs : a.eval s = sv) (hown : SetRow w base sv ps) (hbase : base ≤ w.heap.size)
  (A : Option Addr) (m c : Nat) (qs : List (ByteArray × ByteArray)) (hx : a.eval x = .slice A m c) (hr : Reads w w.heap.size 2 A m (qs.flatMap prC)) (hsm : ps.length + m ≤ 1500000000000)
  (h : ∀ v' w', w'.ownsRow base 48 2 v' (ps.length + m) (ps.flatMap prC ++ qs.flatMap prC) → w.grownBy w' sv.ownBlock → (v'.ownBlock = sv.ownBlock ∨ v'.ownBlock = some w.heap.size) → K (a.put o.dst v') w') :
  if Region.wanted o (yielded ops a.tmps) = true then Oper.wp prog o a w K Q else E := by
 obtain ⟨i0, hi0, hz0, hz1, hz2⟩ := info_parts pair_info
 exact step_append_any w hgd s x _ ho base 48 i0 _ 2 32 underlying41 hi0 hz0 hz1 hz2 rfl (by decide) sv ps.length (ps.flatMap prC) hs hown w.heap.size A m c (qs.flatMap prC) hx hr (pair_one qs) (by unfold maxLen; omega) (by omega) hbase h
theorem app_pair {W0 wr w8 : World} {rq : Array Value} {pn : Int} {pgs : List GI} {pA : Option Addr} {pc lb : Nat} {st : List PK × Int} {base : Nat} {v v8 : Value} {l l' : List (ByteArray × ByteArray)} {u : ByteArray × ByteArray} {o : Obj} (hL : LsW W0 wr rq pn pgs pA pc lb st) (hR : SetRow wr base v l) (hbase : base = W0.heap.size + 6)
  (hown : w8.ownsRow base 48 2 v8 (l.length + 1) (l.flatMap prC ++ [u].flatMap prC)) (hg : (wr.drew.alloc o).grownBy w8 v.ownBlock) (hl : l' = l ++ [u]) : Hid (LsW W0 w8 rq pn pgs pA pc lb st) ∧ Hid (SetRow w8 base v8 l') := by
 subst hl hbase
 have hb1 : Below wr.heap.size wr (wr.drew.alloc o) := (Below.refl wr.heap.size wr).drew.alloc (Nat.le_refl _) o
 have h1 := hL.under hb1
 have hR1 : SetRow (wr.drew.alloc o) (W0.heap.size + 6) v l := hR.below hb1
 have hk : Keeps (fun j => some j = v.ownBlock) (wr.drew.alloc o) w8 := Keeps.of_grown hg fun g e => e.symm
 have hbl := row_blk hR1
 refine ⟨h1.keeps hk (fun j e => by have := (hR1.lt j e.symm).1; omega) (fun j e => by obtain ⟨cs, hb⟩ := hbl j e; exact ⟨_, _, hb, by decide⟩) ?_, ?_⟩
 · obtain ⟨sv, qs, h2, h3⟩ := h1.lst
   exact ⟨sv, qs, lown_keeps h2 hk (fun j e _ => hbl j e), h3⟩
 · show World.ownsRow _ _ _ _ _ _ _
   rw [List.length_append, List.flatMap_append]
   exact hown
theorem vown_form {w : World} {g : GV} {x : Value} (h : VOwn w g x) : ∃ (k n : Int) (t : ByteArray) (l : Nat) (A : Option Addr) (c : Nat), x = .agg #[.int .i64 k, .int .i64 n, .string t, .slice A l c] := by
 cases h
 exact ⟨_, _, _, _, _, _, rfl⟩
structure ResW (W0 W : World) (rq lq bq : Array Value) (lb : Nat) (c1 c2 c3 c4 : Array Value) : Prop where
 r1 : Blk W (W0.heap.size + 1) 25 c1
 r2 : Blk W (W0.heap.size + 2) 25 c2
 r3 : Blk W (W0.heap.size + 3) 25 c3
 r4 : Blk W (W0.heap.size + 4) 25 c4
 req : Blk W W0.heap.size 43 rq
 lst : Blk W lb 84 lq
 box : Blk W (W0.heap.size + 5) 25 bq
theorem ResW.put1 {W0 W : World} {rq lq bq : Array Value} {lb : Nat} {c2 c3 c4 : Array Value} {a0 a1 a2 a3 : Value} (h : ResW W0 W rq lq bq lb #[a0, a1, a2, a3] c2 c3 c4) (u0 u1 u2 u3 : Value) (hlb : W0.heap.size + 5 < lb) :
  ResW W0 ((((W.setCell ⟨W0.heap.size + 1, 0, none⟩ u0).setCell ⟨W0.heap.size + 1, 1, none⟩ u1).setCell ⟨W0.heap.size + 1, 2, none⟩ u2).setCell ⟨W0.heap.size + 1, 3, none⟩ u3) rq lq bq lb #[u0, u1, u2, u3] c2 c3 c4 ∧ Keeps (fun j => W0.heap.size + 1 ≤ j ∧ j ≤ W0.heap.size + 4) W ((((W.setCell ⟨W0.heap.size + 1, 0, none⟩ u0).setCell ⟨W0.heap.size + 1, 1, none⟩ u1).setCell ⟨W0.heap.size + 1, 2, none⟩ u2).setCell ⟨W0.heap.size + 1, 3, none⟩ u3) := by
 obtain ⟨h1, h2⟩ := Ut.store4 h.r1 u0 u1 u2 u3
 refine ⟨⟨h1, h.r2.keeps h2 (by omega), h.r3.keeps h2 (by omega), h.r4.keeps h2 (by omega), h.req.keeps h2 (by omega), h.lst.keeps h2 (by omega), h.box.keeps h2 (by omega)⟩, h2.mono fun j _ e => by omega⟩
theorem ResW.put2 {W0 W : World} {rq lq bq : Array Value} {lb : Nat} {c1 c3 c4 : Array Value} {a0 a1 a2 a3 : Value} (h : ResW W0 W rq lq bq lb c1 #[a0, a1, a2, a3] c3 c4) (u0 u1 u2 u3 : Value) (hlb : W0.heap.size + 5 < lb) :
  ResW W0 ((((W.setCell ⟨W0.heap.size + 2, 0, none⟩ u0).setCell ⟨W0.heap.size + 2, 1, none⟩ u1).setCell ⟨W0.heap.size + 2, 2, none⟩ u2).setCell ⟨W0.heap.size + 2, 3, none⟩ u3) rq lq bq lb c1 #[u0, u1, u2, u3] c3 c4 ∧ Keeps (fun j => W0.heap.size + 1 ≤ j ∧ j ≤ W0.heap.size + 4) W ((((W.setCell ⟨W0.heap.size + 2, 0, none⟩ u0).setCell ⟨W0.heap.size + 2, 1, none⟩ u1).setCell ⟨W0.heap.size + 2, 2, none⟩ u2).setCell ⟨W0.heap.size + 2, 3, none⟩ u3) := by
 obtain ⟨h1, h2⟩ := Ut.store4 h.r2 u0 u1 u2 u3
 refine ⟨⟨h.r1.keeps h2 (by omega), h1, h.r3.keeps h2 (by omega), h.r4.keeps h2 (by omega), h.req.keeps h2 (by omega), h.lst.keeps h2 (by omega), h.box.keeps h2 (by omega)⟩, h2.mono fun j _ e => by omega⟩
theorem ResW.put3 {W0 W : World} {rq lq bq : Array Value} {lb : Nat} {c1 c2 c4 : Array Value} {a0 a1 a2 a3 : Value} (h : ResW W0 W rq lq bq lb c1 c2 #[a0, a1, a2, a3] c4) (u0 u1 u2 u3 : Value) (hlb : W0.heap.size + 5 < lb) :
  ResW W0 ((((W.setCell ⟨W0.heap.size + 3, 0, none⟩ u0).setCell ⟨W0.heap.size + 3, 1, none⟩ u1).setCell ⟨W0.heap.size + 3, 2, none⟩ u2).setCell ⟨W0.heap.size + 3, 3, none⟩ u3) rq lq bq lb c1 c2 #[u0, u1, u2, u3] c4 ∧ Keeps (fun j => W0.heap.size + 1 ≤ j ∧ j ≤ W0.heap.size + 4) W ((((W.setCell ⟨W0.heap.size + 3, 0, none⟩ u0).setCell ⟨W0.heap.size + 3, 1, none⟩ u1).setCell ⟨W0.heap.size + 3, 2, none⟩ u2).setCell ⟨W0.heap.size + 3, 3, none⟩ u3) := by
 obtain ⟨h1, h2⟩ := Ut.store4 h.r3 u0 u1 u2 u3
 refine ⟨⟨h.r1.keeps h2 (by omega), h.r2.keeps h2 (by omega), h1, h.r4.keeps h2 (by omega), h.req.keeps h2 (by omega), h.lst.keeps h2 (by omega), h.box.keeps h2 (by omega)⟩, h2.mono fun j _ e => by omega⟩
theorem ResW.put4 {W0 W : World} {rq lq bq : Array Value} {lb : Nat} {c1 c2 c3 : Array Value} {a0 a1 a2 a3 : Value} (h : ResW W0 W rq lq bq lb c1 c2 c3 #[a0, a1, a2, a3]) (u0 u1 u2 u3 : Value) (hlb : W0.heap.size + 5 < lb) :
  ResW W0 ((((W.setCell ⟨W0.heap.size + 4, 0, none⟩ u0).setCell ⟨W0.heap.size + 4, 1, none⟩ u1).setCell ⟨W0.heap.size + 4, 2, none⟩ u2).setCell ⟨W0.heap.size + 4, 3, none⟩ u3) rq lq bq lb c1 c2 c3 #[u0, u1, u2, u3] ∧ Keeps (fun j => W0.heap.size + 1 ≤ j ∧ j ≤ W0.heap.size + 4) W ((((W.setCell ⟨W0.heap.size + 4, 0, none⟩ u0).setCell ⟨W0.heap.size + 4, 1, none⟩ u1).setCell ⟨W0.heap.size + 4, 2, none⟩ u2).setCell ⟨W0.heap.size + 4, 3, none⟩ u3) := by
 obtain ⟨h1, h2⟩ := Ut.store4 h.r4 u0 u1 u2 u3
 refine ⟨⟨h.r1.keeps h2 (by omega), h.r2.keeps h2 (by omega), h.r3.keeps h2 (by omega), h1, h.req.keeps h2 (by omega), h.lst.keeps h2 (by omega), h.box.keeps h2 (by omega)⟩, h2.mono fun j _ e => by omega⟩
theorem res_any {W0 W : World} {rq lq bq : Array Value} {lb : Nat} {c1 c2 c3 c4 : Array Value} (h : ResW W0 W rq lq bq lb c1 c2 c3 c4) : ∀ j, (W0.heap.size + 1 ≤ j ∧ j ≤ W0.heap.size + 4) → ∃ t cs, Blk W j t cs ∧ t ≠ 39 := fun j hj => by
 rcases (by omega : j = W0.heap.size + 1 ∨ j = W0.heap.size + 2 ∨ j = W0.heap.size + 3 ∨ j = W0.heap.size + 4) with rfl | rfl | rfl | rfl
 · exact ⟨_, _, h.r1, by decide⟩
 · exact ⟨_, _, h.r2, by decide⟩
 · exact ⟨_, _, h.r3, by decide⟩
 · exact ⟨_, _, h.r4, by decide⟩
section
variable (rm rp ry rb : ByteArray) (A0 : Option Addr) (c0 : Nat) (us : List (ByteArray × ByteArray))
theorem rlists_any (w : World) (hA : PairsAt w w.heap.size A0 us) (hn : us.length ≤ 4194304) (hz : ∀ k, (us.getD k default).1.size ≤ 16777216 ∧ (us.getD k default).2.size ≤ 16777216) (hm : rm.size ≤ 16777216) (hp : rp.size ≤ 16777216) (hy : ry.size ≤ 16777216) (hb : rb.size ≤ 16777216)
  (pn : Int) (pgs : List GI) (hpg : postG rm rb us = .mk 4 pn ⟨#[]⟩ pgs) :
  Calls prog 20 #[.agg #[.string rm, .string rp, .string ry, .slice A0 us.length c0, .string rb]] w fun e w' => ∃ y0 y1 y2 y3, e = .returned (.tuple #[y0, y1, y2, y3]) ∧ VOwn w' (queryG ry.data.toList) y0 ∧ VOwn w' (.mk 4 pn ⟨#[]⟩ pgs) y1 ∧ VOwn w' (cookG us) y2 ∧ VOwn w' (serverG rm rp ry us) y3 ∧ Below w.heap.size w w' := by
 have hal := fun (w1 : World) (o : Obj) => (Below.refl w1.heap.size w1).alloc (Nat.le_refl _) o
 have HAL := lH hal
 obtain ⟨fb, hfb⟩ := found_ctype us
 have HHd : Hid (∀ wz, Below w.heap.size w wz → Calls prog 46 #[.agg #[.string rm, .string rp, .string ry, .slice A0 us.length c0, .string rb], .string ctypeB] wz fun e w' => e = .returned (.tuple #[.string (ctypeG us), .bool fb]) ∧ Below wz.heap.size wz w') := fun wz hb => by
  have h := rhead_any rm rp ry rb ctypeB A0 c0 us wz ((hA.below' hb).up hb.size) (by omega) (fun k => by have := (hz k).1; omega) (by decide)
  rwa [hfb] at h
 have HFo := lH (fun s (hs : s.size ≤ 16777216) wz => rform_any s hs wz)
 have HCk := lH (fun wz (hb : Below w.heap.size w wz) => rcookies_any rm rp ry rb A0 c0 us wz ((hA.below' hb).up hb.size) hn hz)
 have HPa := lH (fun wz (hb : Below w.heap.size w wz) => hA.below' hb)
 have HZ := lH hz
 have HCt : Hid ((ctypeG us).size ≤ 16777216) := by
  show _ ≤ _
  have key : ∀ l : List (ByteArray × ByteArray), (∀ u ∈ l, u.2.size ≤ 16777216) → ((findH ctypeB l).getD ⟨#[]⟩).size ≤ 16777216 := by
   intro l
   induction l with
   | nil => intro _; simp [findH, ByteArray.size]
   | cons u l ih =>
    intro h
    rw [findH]
    split
    · exact h u (List.mem_cons_self ..)
    · exact ih fun v hv => h v (List.mem_cons_of_mem _ hv)
  exact key us fun u hu => by
   obtain ⟨i, hi⟩ := List.getElem?_of_mem hu
   have := (hz i).2
   rwa [List.getD_eq_getElem?_getD, hi] at this
 have HPg := lH hpg
 obtain ⟨GC, hGC⟩ : ∃ z, cookG us = z := ⟨_, rfl⟩
 obtain ⟨GS, hGS⟩ : ∃ z, serverG rm rp ry us = z := ⟨_, rfl⟩
 rw [hGC, hGS]
 rw [hGC] at HCk
 have HGS := lH hGS
 obtain ⟨qn, qgs, hqg⟩ := (Ut.queryG_ok ry.data.toList (by
  intro p hp
  have h1 := Ut.splitL_mem 38 _ p hp
  have h2 := Ut.cutL_le 61 p
  have h3 := Lib.size_eq ry
  omega)).list
 rw [hqg]
 have HQy : Hid (∀ wz, Calls prog 11 #[.string ry] wz fun e w' => ∃ A c, e = .returned (.agg #[.int .i64 4, .int .i64 qn, .string ⟨#[]⟩, .slice A qgs.length c]) ∧ VOwn w' (.mk 4 qn ⟨#[]⟩ qgs) (.agg #[.int .i64 4, .int .i64 qn, .string ⟨#[]⟩, .slice A qgs.length c]) ∧ Below wz.heap.size wz w') := fun wz => by
  have h := rquery_form (l := ry.data.toList) (by have := Lib.size_eq ry; omega) hqg wz
  rwa [mkB_of] at h
 have HSz0 : Hid (∀ u ∈ lsI rm rp ry us us.length, u.1.size ≤ 140737488351232 ∧ u.2.size ≤ 140737488351232) := by
  show ∀ u ∈ _, _
  intro u hu
  unfold lsI at hu
  rw [List.take_length, List.mem_append] at hu
  have ht := target_le rp ry
  rcases hu with hu | hu
  · simp only [firstL, List.mem_cons, List.not_mem_nil, or_false] at hu
    rcases hu with rfl | rfl | rfl | rfl
    · exact ⟨by show nMethod.size ≤ _; decide, by show rm.size ≤ _; omega⟩
    · exact ⟨by show nUri.size ≤ _; decide, by show (targetB rp ry).size ≤ _; omega⟩
    · exact ⟨by show nQuery.size ≤ _; decide, by show ry.size ≤ _; omega⟩
    · exact ⟨by show nScript.size ≤ _; decide, by show rp.size ≤ _; omega⟩
  · obtain ⟨q, hq, rfl⟩ := List.mem_map.1 hu
    obtain ⟨i, hi⟩ := List.getElem?_of_mem hq
    have h1 := hz i
    rw [List.getD_eq_getElem?_getD, hi] at h1
    have h2 := Lib.size_eq q.1
    have h3 : (headU q).1.size = 5 + q.1.size := by
     show (headN q.1.data.toList).toArray.size = _
     simp [headN, httpL]
     omega
    exact ⟨by have := h1.1; simp only [Option.getD_some] at this; omega, by have := h1.2; simp only [Option.getD_some] at this; show q.2.size ≤ _; omega⟩
 clear hfb hpg hGC hGS hqg hA hz hal
 obtain ⟨wa, hwa⟩ : ∃ z, (((((w.alloc (.cells #[.string rm, .string rp, .string ry, .slice A0 us.length c0, .string rb] 43)).alloc (.cells #[.int .i64 0, .int .i64 0, .string ⟨#[]⟩, .slice none 0 0] 25)).alloc (.cells #[.int .i64 0, .int .i64 0, .string ⟨#[]⟩, .slice none 0 0] 25)).alloc (.cells #[.int .i64 0, .int .i64 0, .string ⟨#[]⟩, .slice none 0 0] 25)).alloc (.cells #[.int .i64 0, .int .i64 0, .string ⟨#[]⟩, .slice none 0 0] 25)).alloc (.cells #[.int .i64 4, .int .i64 0, .string ⟨#[]⟩, .slice none 0 0] 25) = z := ⟨_, rfl⟩
 have Hwa := lH hwa
 have HP0 : Hid (PstW w wa #[.string rm, .string rp, .string ry, .slice A0 us.length c0, .string rb] 0 [] none 0) := by
  subst hwa
  exact pst_start w _
 clear hwa
 go_enter func20, ntmps20
 go_upto_region 2 with fail
 rw [Hwa.out]
 clear Hwa
 obtain ⟨⟨d0, d1, d2, d3, d4⟩, -⟩ := z10 HP0.out.req
 go_upto_region 3 with (go_at_call 46; refine (HHd.out wa HP0.out.low).mono ?_; rintro e w1 ⟨rfl, hb1⟩; have HP1 := lH (HP0.out.under hb1); clear hb1)
 obtain ⟨⟨e0, e1, e2, e3, e4⟩, -⟩ := z10 HP1.out.req
 have HFc := lH (HFo.out (ctypeG us) HCt.out)
 obtain ⟨pb, hpb⟩ : ∃ z, postB rm us = z := ⟨_, rfl⟩
 have HPb := lH hpb
 clear hpb d0 d1 d2 d3 d4 HHd HFo HP0
 go_cut [28] from 22 to 28 (fun x wx => x = .bool pb ∧ w1 = wx)
 case first =>
  cases hm1 : (rm.toList == ([80, 79, 83, 84] : List UInt8)) with
  | false =>
   obtain rfl : pb = false := by rw [← HPb.out, postB, hm1]; rfl
   go_wp2_with fail
   go_meet
   case rel => exact ⟨by trivial, by trivial⟩
  | true =>
   obtain rfl : pb = formB (ctypeG us) := by rw [← HPb.out, postB, hm1]; rfl
   generalize formB (ctypeG us) = fB at *
   go_wp2_with (go_at_call 47; refine (HFc.out _).mono ?_; rintro e w2 ⟨rfl, rfl⟩)
   go_meet
   case rel => exact ⟨by trivial, by trivial⟩
 case rest =>
  obtain ⟨rfl, rfl⟩ := hcut
  clear HFc
  go_upto_if 28 with fail
  go_cut [] from 29 to 31 (fun wx => ∃ pA pc, Hid (PstW w wx #[.string rm, .string rp, .string ry, .slice A0 us.length c0, .string rb] pn pgs pA pc))
  case first =>
   cases pb with
   | true =>
    have hpg2 : queryG rb.data.toList = .mk 4 pn ⟨#[]⟩ pgs := by
     rw [← HPg.out, postG, if_pos HPb.out]
    have HQb : Hid (Calls prog 11 #[.string rb] w1 fun e w' => ∃ A c, e = .returned (.agg #[.int .i64 4, .int .i64 pn, .string ⟨#[]⟩, .slice A pgs.length c]) ∧ VOwn w' (.mk 4 pn ⟨#[]⟩ pgs) (.agg #[.int .i64 4, .int .i64 pn, .string ⟨#[]⟩, .slice A pgs.length c]) ∧ Below w1.heap.size w1 w') := by
     have h := rquery_form (l := rb.data.toList) (by have := Lib.size_eq rb; omega) hpg2 w1
     rwa [mkB_of] at h
    clear hpg2
    go_wp2_with (go_at_call 11; refine HQb.out.mono ?_; rintro e w2 ⟨A2, c2, rfl, hv, hb2⟩; have HP2 := lH (HP1.out.under hb2); have HV2 := lH hv; obtain ⟨⟨b0, b1, b2, b3⟩, bf0, bf1, bf2, bf3⟩ := z8 HP2.out.box; clear hv hb2)
    go_meet
    case rel => exact ⟨A2, c2, HP2.out.post HV2.out rfl⟩
   | false =>
    have hpg2 : GV.mk 4 0 ⟨#[]⟩ [] = .mk 4 pn ⟨#[]⟩ pgs := by
     rw [← HPg.out, postG, if_neg (by rw [HPb.out]; simp)]
    injection hpg2 with _ hp1 _ hp2
    subst hp1 hp2
    go_wp2_with fail
    go_meet
    case rel => exact ⟨none, 0, HP1.out⟩
  case rest =>
   obtain ⟨pA, pc, HP⟩ := hcut
   clear HP1 HPb HPg e0 e1 e2 e3 e4
   obtain ⟨⟨q0, q1, q2, q3, q4⟩, -⟩ := z10 HP.out.req
   obtain ⟨pe, hpe⟩ : ∃ z, (!ry.toList.isEmpty) = z := ⟨_, rfl⟩
   have HPe := lH hpe
   clear hpe
   go_upto_region 6 with fail
   go_cut [36] from 34 to 36 (fun x wx => x = .bool pe ∧ wc = wx)
   case first =>
    go_wp2_with fail
    go_meet
    case rel => exact ⟨by rw [← HPe.out], by trivial⟩
   case rest =>
    obtain ⟨rfl, rfl⟩ := hcut
    go_upto_if 36 with fail
    go_cut [9] from 37 to 41 (fun x9 wx => x9 = .string (targetB rp ry) ∧ wc = wx)
    case first =>
     cases pe with
     | false =>
      have HTn := lH (target_nil rp ry (by have := HPe.out; simpa using this))
      go_wp2_with fail
      go_meet
      case rel => exact ⟨by rw [← HTn.out], by trivial⟩
     | true =>
      have g1 : ¬ 9223372036854775807 < 1 + ry.size := by omega
      have g2 : ¬ 9223372036854775807 < rp.size + (1 + ry.size) := by omega
      have HTc := lH (target_cat rp ry (by have := HPe.out; simpa using this))
      go_wp2_with fail
      go_meet
      case rel => exact ⟨by rw [HTc.out], by trivial⟩
    case rest =>
     obtain ⟨rfl, rfl⟩ := hcut
     clear HPe
     have htl : (targetB rp ry).size ≤ 33554433 := by have := target_le rp ry; omega
     have HTl := lH htl
     have hws : w.heap.size + 5 < wc.heap.size := HP.out.box.lt
     obtain ⟨w9, hw9⟩ : ∃ z, (wc.alloc (.cells #[.slice none 0 0, .int .i64 0] 84)).alloc (.cells #[.string ⟨#[82, 69, 81, 85, 69, 83, 84, 95, 77, 69, 84, 72, 79, 68]⟩, .string rm, .string ⟨#[82, 69, 81, 85, 69, 83, 84, 95, 85, 82, 73]⟩, .string (targetB rp ry), .string ⟨#[81, 85, 69, 82, 89, 95, 83, 84, 82, 73, 78, 71]⟩, .string ry, .string ⟨#[83, 67, 82, 73, 80, 84, 95, 78, 65, 77, 69]⟩, .string rp] 48) = z := ⟨_, rfl⟩
     have HL0 : Hid (LsW w w9 #[.string rm, .string rp, .string ry, .slice A0 us.length c0, .string rb] pn pgs pA pc wc.heap.size ([], 0)) := by
      subst hw9
      have hb1 := HAL.out wc (.cells #[.slice none 0 0, .int .i64 0] 84)
      have h1 := HP.out.under (hb1.alloc (by simp) (.cells #[.string ⟨#[82, 69, 81, 85, 69, 83, 84, 95, 77, 69, 84, 72, 79, 68]⟩, .string rm, .string ⟨#[82, 69, 81, 85, 69, 83, 84, 95, 85, 82, 73]⟩, .string (targetB rp ry), .string ⟨#[81, 85, 69, 82, 89, 95, 83, 84, 82, 73, 78, 71]⟩, .string ry, .string ⟨#[83, 67, 82, 73, 80, 84, 95, 78, 65, 77, 69]⟩, .string rp] 48))
      exact ⟨h1.req, h1.r1, h1.r2, h1.r3, h1.r4, h1.box, h1.own, ⟨_, [], ⟨⟨(Blk.new wc _ _).alloc _, World.ownsRow_nil _ _ _ _, Nat.zero_le _⟩, .empty, fun q h => by cases h⟩, rfl⟩, hws, h1.low⟩
     have HR0 : Hid (SetRow w9 (w.heap.size + 6) (.slice (some ⟨wc.heap.size + 1, 0, none⟩) 4 4) (lsI rm rp ry us 0)) := by
      subst hw9
      refine ⟨rfl, .inr ⟨wc.heap.size + 1, 4, #[.string ⟨#[82, 69, 81, 85, 69, 83, 84, 95, 77, 69, 84, 72, 79, 68]⟩, .string rm, .string ⟨#[82, 69, 81, 85, 69, 83, 84, 95, 85, 82, 73]⟩, .string (targetB rp ry), .string ⟨#[81, 85, 69, 82, 89, 95, 83, 84, 82, 73, 78, 71]⟩, .string ry, .string ⟨#[83, 67, 82, 73, 80, 84, 95, 78, 65, 77, 69]⟩, .string rp], rfl, by omega, ?_, Nat.le_refl _, by unfold maxLen; omega, rfl, rfl⟩⟩
      have := heap_alloc_new (wc.alloc (.cells #[.slice none 0 0, .int .i64 0] 84)) (.cells #[.string ⟨#[82, 69, 81, 85, 69, 83, 84, 95, 77, 69, 84, 72, 79, 68]⟩, .string rm, .string ⟨#[82, 69, 81, 85, 69, 83, 84, 95, 85, 82, 73]⟩, .string (targetB rp ry), .string ⟨#[81, 85, 69, 82, 89, 95, 83, 84, 82, 73, 78, 71]⟩, .string ry, .string ⟨#[83, 67, 82, 73, 80, 84, 95, 78, 65, 77, 69]⟩, .string rp] 48)
      rwa [World.size_alloc] at this
     have HW9 := lH hw9
     have qa0 : (wc.alloc (.cells #[.slice none 0 0, .int .i64 0] 84)).cell? ⟨w.heap.size, 0, none⟩ = some (.string rm) := (HP.out.req.alloc _).cell 0
     have qa1 : (wc.alloc (.cells #[.slice none 0 0, .int .i64 0] 84)).cell? ⟨w.heap.size, 1, none⟩ = some (.string rp) := (HP.out.req.alloc _).cell 1
     have qa2 : (wc.alloc (.cells #[.slice none 0 0, .int .i64 0] 84)).cell? ⟨w.heap.size, 2, none⟩ = some (.string ry) := (HP.out.req.alloc _).cell 2
     clear hw9 htl
     go_upto_region 10 with fail
     rw [show (wc.alloc (.cells #[.slice none 0 0, .int .i64 0] 84)).alloc (.cells #[.string ⟨#[82, 69, 81, 85, 69, 83, 84, 95, 77, 69, 84, 72, 79, 68]⟩, .string rm, .string ⟨#[82, 69, 81, 85, 69, 83, 84, 95, 85, 82, 73]⟩, .string (targetB rp ry), .string ⟨#[81, 85, 69, 82, 89, 95, 83, 84, 82, 73, 78, 71]⟩, .string ry, .string ⟨#[83, 67, 82, 73, 80, 84, 95, 78, 65, 77, 69]⟩, .string rp] 48) = w9 from HW9.out]
     generalize wc.heap.size = lb at *
     clear qa0 qa1 qa2 q0 q1 q2 q3 q4 HW9
     go_wp2_with fail
     go_loopw [11, 12] (fun x11 x12 wx => ∃ (i : Nat) (Av : Option Addr) (cv : Nat), i ≤ us.length ∧ x12 = .int .i64 i ∧ x11 = .slice Av (4 + i) cv ∧ Hid (LsW w wx #[.string rm, .string rp, .string ry, .slice A0 us.length c0, .string rb] pn pgs pA pc lb ([], 0)) ∧ Hid (SetRow wx (w.heap.size + 6) (.slice Av (4 + i) cv) (lsI rm rp ry us i))) (fun _ x12 _ => us.length - (ixO x12).toNat)
     case atStart => exact ⟨0, _, _, Nat.zero_le _, rfl, rfl, HL0, HR0⟩
     case round =>
      clear HL0 HR0
      rename World => wo
      obtain ⟨i, Av, cv, hi, rfl, rfl, HL, HR⟩ := hrel
      have b3 : wo.cell? ⟨w.heap.size, 3, none⟩ = some (.slice A0 us.length c0) := HL.out.req.cell 3
      by_cases hlt : i < us.length
      · have hlt' : (i : Int) < (us.length : Int) := by omega
        obtain ⟨ab, ao, hA0, hab, hcs⟩ := HPa.out wo HL.out.low (by omega)
        subst hA0
        obtain ⟨hc1, hc2⟩ := hcs i hlt
        obtain ⟨hz1, hz2⟩ := HZ.out i
        have HSu := lH (lsI_succ rm rp ry us i hlt)
        clear hcs
        generalize us.getD i default = u at *
        obtain ⟨un, uv⟩ := u
        dsimp only at *
        obtain ⟨V, hV⟩ : ∃ V, un = ⟨V.toArray⟩ := ⟨un.data.toList, by simp⟩
        subst hV
        have hz3 : V.length ≤ 16777216 := by simpa [ByteArray.size] using hz1
        have hcat : (⟨#[72, 84, 84, 80, 95]⟩ : ByteArray) ++ ⟨V.toArray⟩ = ⟨(httpL ++ V).toArray⟩ := by
         apply ByteArray.ext
         simp [httpL]
        have g1 : ¬ 9223372036854775807 < 5 + (⟨V.toArray⟩ : ByteArray).size := by simp [ByteArray.size]; omega
        have hcv := run_bytes_of_string (P := prog) wo 9 71 5 (⟨#[72, 84, 84, 80, 95]⟩ ++ ⟨V.toArray⟩) underlying9 underlying71 underlying5
        have hds : ((⟨#[72, 84, 84, 80, 95]⟩ : ByteArray) ++ ⟨V.toArray⟩).data.toList = httpL ++ V := by rw [hcat]
        have hsz : ((⟨#[72, 84, 84, 80, 95]⟩ : ByteArray) ++ ⟨V.toArray⟩).size = 5 + V.length := by rw [hcat]; simp [ByteArray.size, httpL]; omega
        have hs0 := small_start wo (⟨#[72, 84, 84, 80, 95]⟩ ++ ⟨V.toArray⟩)
        rw [hds, hsz] at hs0
        have HS0 := lH hs0
        clear hds hsz hs0 hcat
        go_upto_region 14 with fail
        obtain ⟨ic, hic⟩ : ∃ z, grownCap wo (5 + V.length) 0 5 = z := ⟨_, rfl⟩
        rw [hic] at HS0 ⊢
        generalize (wo.alloc (.cells (bytesRow (⟨#[72, 84, 84, 80, 95]⟩ ++ ⟨V.toArray⟩) ic) 5 ((bytesRow (⟨#[72, 84, 84, 80, 95]⟩ ++ ⟨V.toArray⟩) ic).size, (bytesRow (⟨#[72, 84, 84, 80, 95]⟩ ++ ⟨V.toArray⟩) ic).size + 1))).drew = wi at *
        clear hcv hic g1
        have h5 := http_five V
        obtain ⟨L, hLL⟩ : ∃ z, httpL ++ V = z := ⟨_, rfl⟩
        have hLn : L.length = 5 + V.length := by rw [← hLL]; simp [httpL]; omega
        have HLn := lH hLn
        have HLu : Hid (L.map upC = headN V) := by show L.map upC = headN V; rw [← hLL]; exact http_up V
        rw [hLL] at HS0 h5
        rw [← h5] at HS0
        clear hLL hLn h5
        have hLI : ((5 + V.length : Nat) : Int) = (L.length : Int) := by have := HLn.out; omega
        go_wp2_with fail
        go_loopw [14] (fun x14 wx => ∃ k : Nat, k ≤ L.length ∧ x14 = .int .i64 k ∧ Hid (SmallAt wo (mapK upC L k) wx)) (fun x14 _ => L.length - (ixO x14).toNat)
        case atStart => exact ⟨5, by have := HLn.out; omega, rfl, HS0⟩
        case round =>
         clear HS0
         obtain ⟨k, hk, rfl, H⟩ := hrel
         by_cases hkl : k < L.length
         · obtain ⟨x0, f0⟩ := H.out.cell k (by rw [mapK_len]; exact hkl)
           rw [mapK_at upC L k hkl] at x0
           have HN := lH (mapK_succ upC L k hkl)
           have HE := lH (mapK_same upC L k hkl)
           have hkI : (k : Int) < (L.length : Int) := by omega
           have hkJ : (k : Int) < 5 + (V.length : Int) := by have := HLn.out; omega
           generalize L[k] = c at *
           have hc1 := c.toNat_lt
           have hc2 : (c.toNat : Int) ≤ 255 := by omega
           clear HLu hLI hkl
           by_cases h97 : 97 ≤ c.toNat
           · have h97I : (97 : Int) ≤ (c.toNat : Int) := by omega
             by_cases h122 : c.toNat ≤ 122
             · have h122I : (c.toNat : Int) ≤ 122 := by omega
               have h2 := H.out.set_ k (upC c)
               rw [up_small h97 h122] at h2
               have H2 := lH h2
               have x1 : (wr.setCell ⟨wo.heap.size, k, none⟩ (.int .u8 ((c.toNat : Int) - 32))).cell? ⟨wo.heap.size, k, none⟩ = some (.int .u8 ((c.toNat : Int) - 32)) := World.cell?_setCell_same wr _ _ x0
               have h45I : ((c.toNat : Int) - 32 == 45) = false := by rw [beq_eq_false_iff_ne]; omega
               clear h2 HE h97 h122
               go_wp2_with fail
               go_roundw
               case rel => exact ⟨k + 1, by omega, by go_num, by rw [HN.out]; exact H2.out⟩
               case measure => simp [ixO] <;> omega
             · have h122I : ¬ (c.toNat : Int) ≤ 122 := by omega
               have h45I : ((c.toNat : Int) == 45) = false := by rw [beq_eq_false_iff_ne]; omega
               have HN2 : Hid (mapK upC L (k + 1) = mapK upC L k) := HE.out (up_other (by omega) (by omega))
               clear HE HN h97 h122
               go_wp2_with fail
               go_roundw
               case rel => exact ⟨k + 1, by omega, by go_num, by rw [HN2.out]; exact H.out⟩
               case measure => simp [ixO] <;> omega
           · have h97I : ¬ (97 : Int) ≤ (c.toNat : Int) := by omega
             by_cases h45 : c.toNat = 45
             · have hx : (c.toNat : Int) = 45 := by omega
               have H2 : Hid (SmallAt wo ((mapK upC L k).set k 95) (wr.setCell ⟨wo.heap.size, k, none⟩ (.int .u8 95))) := H.out.set_ k 95
               rw [up_dash h45] at HN
               clear HE h97 h45
               go_wp2_with fail
               go_roundw
               case rel => exact ⟨k + 1, by omega, by go_num, by rw [HN.out]; exact H2.out⟩
               case measure => simp [ixO] <;> omega
             · have h45I : ((c.toNat : Int) == 45) = false := by rw [beq_eq_false_iff_ne]; omega
               have HN2 : Hid (mapK upC L (k + 1) = mapK upC L k) := HE.out (up_other (by omega) (by omega))
               clear HE HN h97 h45
               go_wp2_with fail
               go_roundw
               case rel => exact ⟨k + 1, by omega, by go_num, by rw [HN2.out]; exact H.out⟩
               case measure => simp [ixO] <;> omega
         · obtain rfl : k = L.length := by omega
           have hkJ : ¬ (L.length : Int) < 5 + (V.length : Int) := by have := HLn.out; omega
           have hll : (headN V).length = L.length := by rw [← HLu.out, List.length_map]
           have hlen : (headN V).length = 5 + V.length := by rw [hll, HLn.out]
           have hcells : ∀ (j : Nat) (hj : j < (headN V).length), wr.cell? ((⟨wo.heap.size, 0, none⟩ : Addr).add j) = some (.int .u8 (((headN V)[j]).toNat : Int)) := fun j hj => by
            have h1 := (H.out.cell j (by rw [mapK_len]; omega)).1
            have h2 : (mapK upC L L.length)[j]'(by rw [mapK_len]; omega) = (headN V)[j]'hj := by
             have e : mapK upC L L.length = headN V := by rw [mapK_all]; exact HLu.out
             simp only [e]
            rw [h2] at h1
            rw [show (⟨wo.heap.size, 0, none⟩ : Addr).add j = ⟨wo.heap.size, j, none⟩ by unfold Addr.add; split <;> simp_all]
            exact h1
           have HCB : Hid (∀ wq : World, (∀ (j : Nat) (hj : j < (headN V).length), wq.cell? ((⟨wo.heap.size, 0, none⟩ : Addr).add j) = some (.int .u8 (((headN V)[j]).toNat : Int))) → ∀ cap, (convert 71 9 (.slice (some ⟨wo.heap.size, 0, none⟩) (5 + V.length) cap)).run prog wq = .ok (.string ⟨(headN V).toArray⟩) wq) := fun wq hq cap => by
            have h := run_convert_bytes_back (P := prog) wq 71 9 5 ⟨wo.heap.size, 0, none⟩ cap (headN V) underlying71 underlying5 underlying9 hq
            rwa [hlen] at h
           have hlow := H.out.low
           have hbig : w.heap.size + 6 ≤ wo.heap.size := by have := HL.out.hlb; have := HL.out.big; omega
           have hwr : wo.heap.size < wr.heap.size := by
            obtain ⟨⟨cs, n, hb, _⟩, _⟩ := H.out
            exact (Array.getElem?_eq_some_iff.1 hb).1
           have HSK : Hid (∀ (D : Nat → Prop) (wz : World), Keeps D wr wz → (∀ j, D j → j ≠ wo.heap.size ∧ w.heap.size + 6 ≤ j) → (∀ (j : Nat) (hj : j < (headN V).length), wz.cell? ((⟨wo.heap.size, 0, none⟩ : Addr).add j) = some (.int .u8 (((headN V)[j]).toNat : Int))) ∧ wz.cell? ⟨w.heap.size, 3, none⟩ = some (.slice (some ⟨ab, ao, none⟩) us.length c0) ∧ wz.cell? ⟨ab, ao + i * 2 + 1, none⟩ = some (.string uv)) := fun D wz hk hD =>
            ⟨fun j hj => (hk.cell (p := (⟨wo.heap.size, 0, none⟩ : Addr).add j) (by rw [add_block]; exact hwr) (fun h => (hD _ h).1 (by rw [add_block]))).trans (hcells j hj),
             (hk.cell (p := ⟨w.heap.size, 3, none⟩) (by show w.heap.size < _; omega) (fun h => by have := (hD _ h).2; simp only at this; omega)).trans ((hlow.cell (p := ⟨w.heap.size, 3, none⟩) (by show w.heap.size < _; omega)).trans b3),
             (hk.cell (p := ⟨ab, ao + i * 2 + 1, none⟩) (by show ab < _; omega) (fun h => by have := (hD _ h).2; simp only at this; omega)).trans ((hlow.cell (p := ⟨ab, ao + i * 2 + 1, none⟩) (by show ab < _; omega)).trans hc2)⟩
           have HLr := lH (HL.out.under hlow)
           have HRr := lH (HR.out.below hlow)
           have HDj : Hid (∀ j, (some j = (Value.slice Av (4 + i) cv).ownBlock ∨ wr.heap.size ≤ j) → j ≠ wo.heap.size ∧ w.heap.size + 6 ≤ j) := fun j hj => by
            rcases hj with hj | hj
            · have h1 := HR.out.lt j hj.symm
              omega
            · omega
           have hhn : (headU (⟨V.toArray⟩, uv)) = (⟨(headN V).toArray⟩, uv) := by simp [headU]
           rw [hhn] at HSu
           obtain ⟨HB, hHB⟩ : ∃ z : ByteArray, (⟨(headN V).toArray⟩ : ByteArray) = z := ⟨_, rfl⟩
           rw [hHB] at HSu HCB
           have hbg : w.heap.size + 6 ≤ wr.heap.size + 1 := by omega
           clear hll hlen hhn hcells H HLu HLn hLI hlow hHB
           go_upto_region 21 with fail
           refine wp_region_held_drew (S := (fun wq => (∀ (j : Nat) (hj : j < (headN V).length), wq.cell? ((⟨wo.heap.size, 0, none⟩ : Addr).add j) = some (.int .u8 (((headN V)[j]).toNat : Int))) ∧ wq.cell? ⟨w.heap.size, 3, none⟩ = some (.slice (some ⟨ab, ao, none⟩) us.length c0) ∧ wq.cell? ⟨ab, ao + i * 2 + 1, none⟩ = some (.string uv))) (by kernel_rfl) ?_ (fun hHeld => ?_)
           · exact HSK.out (fun _ => False) _ ((Keeps.refl _ wr).drew) (fun _ h => h.elim)
           refine hdt (v := ?v1) (hy := ?hy1) op0 ?rest1
           case hy1 => (intro wq hSq; (try dsimp only at hSq); obtain ⟨y0, y1, y2⟩ := hSq; have hcb := HCB.out wq y0; first | (go_simp; done) | (go_simp; with_reducible rfl))
           try simp only [hdq]
           refine hdt (v := ?v2) (hy := ?hy2) op1 ?rest2
           case hy2 => (intro wq hSq; (try dsimp only at hSq); obtain ⟨y0, y1, y2⟩ := hSq; have hcb := HCB.out wq y0; first | (go_simp; done) | (go_simp; with_reducible rfl))
           try simp only [hdq]
           refine hdt (v := ?v3) (hy := ?hy3) op2 ?rest3
           case hy3 => (intro wq hSq; (try dsimp only at hSq); obtain ⟨y0, y1, y2⟩ := hSq; have hcb := HCB.out wq y0; first | (go_simp; done) | (go_simp; with_reducible rfl))
           try simp only [hdq]
           refine hdt (v := ?v4) (hy := ?hy4) op3 ?rest4
           case hy4 => (intro wq hSq; (try dsimp only at hSq); obtain ⟨y0, y1, y2⟩ := hSq; have hcb := HCB.out wq y0; first | (go_simp; done) | (go_simp; with_reducible rfl))
           try simp only [hdq]
           refine hdt (v := ?v5) (hy := ?hy5) op4 ?rest5
           case hy5 => (intro wq hSq; (try dsimp only at hSq); obtain ⟨y0, y1, y2⟩ := hSq; have hcb := HCB.out wq y0; first | (go_simp; done) | (go_simp; with_reducible rfl))
           try simp only [hdq]
           refine hdt (v := ?v6) (hy := ?hy6) op5 ?rest6
           case hy6 => (intro wq hSq; (try dsimp only at hSq); obtain ⟨y0, y1, y2⟩ := hSq; have hcb := HCB.out wq y0; first | (go_simp; done) | (go_simp; with_reducible rfl))
           try simp only [hdq]
           refine hdt (v := ?v7) (hy := ?hy7) op6 ?rest7
           case hy7 => (intro wq hSq; (try dsimp only at hSq); obtain ⟨y0, y1, y2⟩ := hSq; have hcb := HCB.out wq y0; first | (go_simp; done) | (go_simp; with_reducible rfl))
           try simp only [hdq]
           refine hdt (v := ?v8) (hy := ?hy8) op7 ?rest8
           case hy8 => (intro wq hSq; (try dsimp only at hSq); obtain ⟨y0, y1, y2⟩ := hSq; have hcb := HCB.out wq y0; first | (go_simp; done) | (go_simp; with_reducible rfl))
           try simp only [hdq]
           refine hdt (v := ?v9) (hy := ?hy9) op8 ?rest9
           case hy9 => (intro wq hSq; (try dsimp only at hSq); obtain ⟨y0, y1, y2⟩ := hSq; have hcb := HCB.out wq y0; first | (go_simp; done) | (go_simp; with_reducible rfl))
           try simp only [hdq]
           refine hdt (v := ?v10) (hy := ?hy10) op9 ?rest10
           case hy10 => (intro wq hSq; (try dsimp only at hSq); obtain ⟨y0, y1, y2⟩ := hSq; have hcb := HCB.out wq y0; first | (go_simp; done) | (go_simp; with_reducible rfl))
           try simp only [hdq]
           refine hdr1 op10 (fun K hK => ?_)
           go_simp
           refine hK.out _ _ ?_ (fun hHeld => ?_)
           · exact HSK.out (fun _ => False) _ (keeps_al wr _) (fun _ h => h.elim)
           clear hK K
           try simp only [hdq]
           refine hdr1 op11 (fun K hK => ?_)
           refine step_app_pair rfl (.tmp 102) (.tmp 112) rfl (w.heap.size + 6) (.slice Av (4 + i) cv) (lsI rm rp ry us i) rfl ((HRr.out.below ((Below.refl wr.heap.size wr).drew)).alloc _) ?_ (some ⟨wr.heap.size, 0, none⟩) 1 1 [(HB, uv)] rfl (reads_pair (u := (HB, uv)) (Blk.new wr.drew _ _)) ?_ ?_
           · simp; omega
           · rw [lsI_len _ _ _ _ _ (by omega)]; omega
           intro v8 w8 hown8 hg8 hor8
           obtain ⟨A8, c8, rfl⟩ := own_form hown8
           have HW8 := lH (app_pair HLr.out HRr.out rfl hown8 hg8 (HSu.out))
           have HSK8 := lH (HSK.out (fun j => some j = (Value.slice Av (4 + i) cv).ownBlock ∨ wr.heap.size ≤ j) w8 (keeps_app hg8) HDj.out)
           clear hown8 hg8 hor8
           refine hK.out _ _ ?_ (fun hHeld => ?_)
           · exact HSK8.out
           clear hK K
           try simp only [hdq]
           refine hdt (v := ?v11) (hy := ?hy11) op12 ?rest11
           case hy11 => (intro wq hSq; (try dsimp only at hSq); obtain ⟨y0, y1, y2⟩ := hSq; have hcb := HCB.out wq y0; first | (go_simp; done) | (go_simp; with_reducible rfl))
           try simp only [hdq]
           refine wpAnyH_done (by kernel_rfl) ?_ _
           go_wp2_with fail
           go_roundw
           case rel => exact ⟨i + 1, A8, c8, by omega, by go_num, by rw [lsI_len _ _ _ _ _ (by omega)]; rfl, HW8.out.1, by have := HW8.out.2; rw [lsI_len _ _ _ _ _ (by omega)] at this; exact this⟩
           case measure => simp [ixO] <;> omega
      · obtain rfl : i = us.length := by omega
        have hlt' : ¬ (us.length : Int) < (us.length : Int) := by omega
        clear hlt hi HZ HPa
        have hlen := lsI_len rm rp ry us us.length (Nat.le_refl _)
        have HSf : Hid (∀ u ∈ lsI rm rp ry us us.length, u.1.size ≤ 140737488351232 ∧ u.2.size ≤ 140737488351232) := HSz0.out
        have hfin : (lsI rm rp ry us us.length).foldl stepP ([], 0) = serverP rm rp ry us := by unfold lsI serverP; rw [List.take_length]
        have HFin := lH hfin
        obtain ⟨SL, hSL⟩ : ∃ z, lsI rm rp ry us us.length = z := ⟨_, rfl⟩
        rw [hSL] at HR hlen HSf HFin
        have hvl : 4 + us.length = SL.length := hlen.symm
        rw [hvl] at HR
        have hSl : SL.length ≤ 4194308 := by omega
        go_wp2_with fail
        rw [hvl]
        clear hlen hfin hSL hvl
        go_loopw [15] (fun x15 wx => ∃ j : Nat, j ≤ SL.length ∧ x15 = .int .i64 j ∧ Hid (LsW w wx #[.string rm, .string rp, .string ry, .slice A0 us.length c0, .string rb] pn pgs pA pc lb ((SL.take j).foldl stepP ([], 0))) ∧ Hid (SetRow wx (w.heap.size + 6) (.slice Av SL.length cv) SL)) (fun x15 _ => SL.length - (ixO x15).toNat)
        case atStart => exact ⟨0, Nat.zero_le _, rfl, HL, HR⟩
        case round =>
         clear HL HR b3
         rename World => wo
         obtain ⟨j, hj, rfl, HL, HRo⟩ := hrel
         by_cases hjl : j < SL.length
         · have hjI : (j : Int) < (SL.length : Int) := by omega
           obtain ⟨⟨un, ut⟩, hu⟩ : ∃ u, SL[j]? = some u := ⟨_, List.getElem?_eq_getElem hjl⟩
           obtain ⟨g, cap, hv, hc1, hc2⟩ := HRo.out.cells hu
           injection hv with e1 _ e3
           subst e1 e3
           have HTk : Hid ((SL.take (j + 1)).foldl stepP ([], 0) = stepP ((SL.take j).foldl stepP ([], 0)) (un, ut)) := by
            show _ = _
            rw [List.take_add_one, hu, Option.toList_some, List.foldl_append]
            rfl
           have HSz := lH (HSf.out (un, ut) (List.mem_of_getElem? hu))
           have HBl : Hid (∃ sv qs, Blk wo lb 84 #[sv, qs]) := by
            obtain ⟨sv, qs, h1, _⟩ := HL.out.lst
            exact ⟨_, _, h1.lst.blk⟩
           obtain ⟨bsv, bqs, HBl⟩ := HBl.out
           have HBl := lH HBl
           have HGb : Hid (∃ o, wo.heap[g]? = some o ∧ g ≠ lb) := row_at HRo.out HBl.out (by decide)
           obtain ⟨go0, hgo⟩ := HGb.out
           have HGb := lH hgo
           clear hu HSf hgo
           go_upto_region 25 with fail
           refine wp_region_held_drew (S := (fun wq => wq.cell? ⟨g, j * 2, none⟩ = some (.string un) ∧ wq.cell? ⟨g, j * 2 + 1, none⟩ = some (.string ut))) (by kernel_rfl) ?_ (fun hHeld => ?_)
           · exact ⟨hc1, hc2⟩
           refine hdt (v := ?v12) op0 ?_
           try simp only [hdq]
           refine hdt (v := ?v13) op1 ?_
           try simp only [hdq]
           refine hdt (v := ?v14) op2 ?_
           try simp only [hdq]
           refine hdt (v := ?v15) op3 ?_
           try simp only [hdq]
           refine hdt (v := ?v16) op4 ?_
           try simp only [hdq]
           refine hdt (v := ?v17) op5 ?_
           try simp only [hdq]
           refine hdt (v := ?v18) op6 ?_
           try simp only [hdq]
           refine hdt (v := ?v19) op7 ?_
           try simp only [hdq]
           refine hdt (v := ?v20) op8 ?_
           try simp only [hdq]
           refine hdt (v := ?v21) op9 ?_
           try simp only [hdq]
           refine hdt (v := ?v22) op10 ?_
           try simp only [hdq]
           refine hdt (v := ?v23) op11 ?_
           try simp only [hdq]
           refine hdr1 op12 (fun K hK => ?_)
           go_simp
           go_at_call 48
           refine (lset_any (HL.out.under ((Below.refl wo.heap.size wo).drew)) (un, ut) HSz.out.1 HSz.out.2).mono ?_
           rintro e w2 ⟨v2, rfl, hl2, hk2⟩
           have hk2 := ((Keeps.refl (fun j => j = lb) wo).drew).trans hk2
           have HL2 := lH hl2
           have HR2 := lH (HRo.out.keep HBl.out (by decide) hk2)
           have k1 : w2.cell? ⟨g, j * 2, none⟩ = some (.string un) := (hk2.cell (p := ⟨g, j * 2, none⟩) (Array.getElem?_eq_some_iff.1 HGb.out.1).1 HGb.out.2).trans hc1
           have k2 : w2.cell? ⟨g, j * 2 + 1, none⟩ = some (.string ut) := (hk2.cell (p := ⟨g, j * 2 + 1, none⟩) (Array.getElem?_eq_some_iff.1 HGb.out.1).1 HGb.out.2).trans hc2
           clear hl2 hk2
           try (go_wp2_with fail)
           refine hK.out _ _ ?_ (fun hHeld => ?_)
           · exact ⟨k1, k2⟩
           clear hK K
           try simp only [hdq]
           refine wpAnyH_done (by kernel_rfl) ?_ _
           go_wp2_with fail
           go_roundw
           case rel => exact ⟨j + 1, by omega, by go_num, by rw [HTk.out]; exact HL2.out, HR2⟩
           case measure => simp [ixO] <;> omega
         · obtain rfl : j = SL.length := by omega
           have hjI : ¬ (SL.length : Int) < (SL.length : Int) := by omega
           rw [List.take_length, HFin.out] at HL
           clear HRo HFin HSf
           obtain ⟨sv, qs, hlo, hqs⟩ := HL.out.lst
           obtain ⟨Aq, cq, rfl⟩ := hlo.lst.form
           have HBl := lH hlo.lst.blk
           have HLb := lH HL.out.hlb
           have HSv0 : Hid (VOwn wo (serverG rm rp ry us) (.agg #[.int .i64 4, .int .i64 (serverP rm rp ry us).2, .string ⟨#[]⟩, .slice Aq qs.length cq])) := by
            have h := Uf.VOwn.mk 4 (serverP rm rp ry us).2 ⟨#[]⟩ qs Aq cq hlo.lst.owns hlo.val
            rw [hqs] at h
            exact h
           generalize (serverP rm rp ry us).2 = nx at *
           clear hlo hqs
           go_upto_region 26 with fail
           refine wp_region_held_drew (S := (fun wq => Blk wq w.heap.size 43 #[.string rm, .string rp, .string ry, .slice A0 us.length c0, .string rb] ∧ Blk wq lb 84 #[.slice Aq qs.length cq, .int .i64 nx] ∧ Blk wq (w.heap.size + 5) 25 #[.int .i64 4, .int .i64 pn, .string ⟨#[]⟩, .slice pA pgs.length pc])) (by kernel_rfl) ?_ (fun hHeld => ?_)
           · exact ⟨HL.out.req, HBl.out, HL.out.box⟩
           refine hdt (v := ?v24) (hy := ?hy24) op0 ?rest24
           case hy24 => (intro wq hSq; (try dsimp only at hSq); obtain ⟨⟨y0, y1, y2, y3, y4⟩, -⟩ := z10 hSq.1; have l0 : wq.cell? ⟨lb, 0, none⟩ = some (.slice Aq qs.length cq) := hSq.2.1.cell 0; have l1 : wq.cell? ⟨lb, 1, none⟩ = some (.int .i64 nx) := hSq.2.1.cell 1; obtain ⟨⟨b0, b1, b2, b3⟩, -⟩ := z8 hSq.2.2; clear hSq; first | (go_simp; done) | (go_simp; with_reducible rfl))
           try simp only [hdq]
           refine hdt (v := ?v25) (hy := ?hy25) op1 ?rest25
           case hy25 => (intro wq hSq; (try dsimp only at hSq); obtain ⟨⟨y0, y1, y2, y3, y4⟩, -⟩ := z10 hSq.1; have l0 : wq.cell? ⟨lb, 0, none⟩ = some (.slice Aq qs.length cq) := hSq.2.1.cell 0; have l1 : wq.cell? ⟨lb, 1, none⟩ = some (.int .i64 nx) := hSq.2.1.cell 1; obtain ⟨⟨b0, b1, b2, b3⟩, -⟩ := z8 hSq.2.2; clear hSq; first | (go_simp; done) | (go_simp; with_reducible rfl))
           try simp only [hdq]
           refine hdt (v := ?v26) (hy := ?hy26) op3 ?rest26
           case hy26 => (intro wq hSq; (try dsimp only at hSq); obtain ⟨⟨y0, y1, y2, y3, y4⟩, -⟩ := z10 hSq.1; have l0 : wq.cell? ⟨lb, 0, none⟩ = some (.slice Aq qs.length cq) := hSq.2.1.cell 0; have l1 : wq.cell? ⟨lb, 1, none⟩ = some (.int .i64 nx) := hSq.2.1.cell 1; obtain ⟨⟨b0, b1, b2, b3⟩, -⟩ := z8 hSq.2.2; clear hSq; first | (go_simp; done) | (go_simp; with_reducible rfl))
           try simp only [hdq]
           refine hdt (v := ?v27) (hy := ?hy27) op4 ?rest27
           case hy27 => (intro wq hSq; (try dsimp only at hSq); obtain ⟨⟨y0, y1, y2, y3, y4⟩, -⟩ := z10 hSq.1; have l0 : wq.cell? ⟨lb, 0, none⟩ = some (.slice Aq qs.length cq) := hSq.2.1.cell 0; have l1 : wq.cell? ⟨lb, 1, none⟩ = some (.int .i64 nx) := hSq.2.1.cell 1; obtain ⟨⟨b0, b1, b2, b3⟩, -⟩ := z8 hSq.2.2; clear hSq; first | (go_simp; done) | (go_simp; with_reducible rfl))
           try simp only [hdq]
           refine hdt (v := ?v28) (hy := ?hy28) op6 ?rest28
           case hy28 => (intro wq hSq; (try dsimp only at hSq); obtain ⟨⟨y0, y1, y2, y3, y4⟩, -⟩ := z10 hSq.1; have l0 : wq.cell? ⟨lb, 0, none⟩ = some (.slice Aq qs.length cq) := hSq.2.1.cell 0; have l1 : wq.cell? ⟨lb, 1, none⟩ = some (.int .i64 nx) := hSq.2.1.cell 1; obtain ⟨⟨b0, b1, b2, b3⟩, -⟩ := z8 hSq.2.2; clear hSq; first | (go_simp; done) | (go_simp; with_reducible rfl))
           try simp only [hdq]
           refine hdt (v := ?v29) (hy := ?hy29) op7 ?rest29
           case hy29 => (intro wq hSq; (try dsimp only at hSq); obtain ⟨⟨y0, y1, y2, y3, y4⟩, -⟩ := z10 hSq.1; have l0 : wq.cell? ⟨lb, 0, none⟩ = some (.slice Aq qs.length cq) := hSq.2.1.cell 0; have l1 : wq.cell? ⟨lb, 1, none⟩ = some (.int .i64 nx) := hSq.2.1.cell 1; obtain ⟨⟨b0, b1, b2, b3⟩, -⟩ := z8 hSq.2.2; clear hSq; first | (go_simp; done) | (go_simp; with_reducible rfl))
           try simp only [hdq]
           refine hdt (v := ?v30) (hy := ?hy30) op8 ?rest30
           case hy30 => (intro wq hSq; (try dsimp only at hSq); obtain ⟨⟨y0, y1, y2, y3, y4⟩, -⟩ := z10 hSq.1; have l0 : wq.cell? ⟨lb, 0, none⟩ = some (.slice Aq qs.length cq) := hSq.2.1.cell 0; have l1 : wq.cell? ⟨lb, 1, none⟩ = some (.int .i64 nx) := hSq.2.1.cell 1; obtain ⟨⟨b0, b1, b2, b3⟩, -⟩ := z8 hSq.2.2; clear hSq; first | (go_simp; done) | (go_simp; with_reducible rfl))
           try simp only [hdq]
           refine hdt (v := ?v31) (hy := ?hy31) op9 ?rest31
           case hy31 => (intro wq hSq; (try dsimp only at hSq); obtain ⟨⟨y0, y1, y2, y3, y4⟩, -⟩ := z10 hSq.1; have l0 : wq.cell? ⟨lb, 0, none⟩ = some (.slice Aq qs.length cq) := hSq.2.1.cell 0; have l1 : wq.cell? ⟨lb, 1, none⟩ = some (.int .i64 nx) := hSq.2.1.cell 1; obtain ⟨⟨b0, b1, b2, b3⟩, -⟩ := z8 hSq.2.2; clear hSq; first | (go_simp; done) | (go_simp; with_reducible rfl))
           try simp only [hdq]
           refine hdt (v := ?v32) (hy := ?hy32) op10 ?rest32
           case hy32 => (intro wq hSq; (try dsimp only at hSq); obtain ⟨⟨y0, y1, y2, y3, y4⟩, -⟩ := z10 hSq.1; have l0 : wq.cell? ⟨lb, 0, none⟩ = some (.slice Aq qs.length cq) := hSq.2.1.cell 0; have l1 : wq.cell? ⟨lb, 1, none⟩ = some (.int .i64 nx) := hSq.2.1.cell 1; obtain ⟨⟨b0, b1, b2, b3⟩, -⟩ := z8 hSq.2.2; clear hSq; first | (go_simp; done) | (go_simp; with_reducible rfl))
           try simp only [hdq]
           refine hdr1 op2 (fun K hK => ?_)
           go_simp
           go_at_call 11
           refine (HQy.out _).mono ?_
           rintro e w2 ⟨A2, c2, rfl, hv2, hb2⟩
           have HB2 : Hid (Below wo.heap.size wo w2) := ((Below.refl wo.heap.size wo).drew).trans hb2
           have HV2 := lH hv2
           have HL2 := lH (HL.out.under HB2.out)
           clear hv2 hb2
           try (go_wp2_with fail)
           refine hK.out _ _ ?_ (fun hHeld => ?_)
           · exact ⟨HL2.out.req, blk_below HBl.out HB2.out, HL2.out.box⟩
           clear hK K
           try simp only [hdq]
           refine hdr1 op5 (fun K hK => ?_)
           go_simp
           go_at_call 49
           refine (HCk.out w2 HL2.out.low).mono ?_
           rintro e w3 ⟨yc, rfl, hv3, hb3⟩
           obtain ⟨kc, nc, tc, lc, Ac, cc, rfl⟩ := vown_form hv3
           have HB3 : Hid (Below wo.heap.size wo w3) := HB2.out.trans (hb3.mono HB2.out.size)
           have HV3 := lH hv3
           have HV2b := lH (HV2.out.under hb3)
           have HL3 := lH (HL.out.under HB3.out)
           have HSv := lH (HSv0.out.under HB3.out)
           clear hv3 hb3
           try (go_wp2_with fail)
           refine hK.out _ _ ?_ (fun hHeld => ?_)
           · exact ⟨HL3.out.req, blk_below HBl.out HB3.out, HL3.out.box⟩
           clear hK K
           try simp only [hdq]
           have HM3 : Hid (ResW w w3 #[.string rm, .string rp, .string ry, .slice A0 us.length c0, .string rb] #[.slice Aq qs.length cq, .int .i64 nx] #[.int .i64 4, .int .i64 pn, .string ⟨#[]⟩, .slice pA pgs.length pc] lb #[.int .i64 0, .int .i64 0, .string ⟨#[]⟩, .slice none 0 0] #[.int .i64 0, .int .i64 0, .string ⟨#[]⟩, .slice none 0 0] #[.int .i64 0, .int .i64 0, .string ⟨#[]⟩, .slice none 0 0] #[.int .i64 0, .int .i64 0, .string ⟨#[]⟩, .slice none 0 0]) := ⟨HL3.out.r1, HL3.out.r2, HL3.out.r3, HL3.out.r4, HL3.out.req, blk_below HBl.out HB3.out, HL3.out.box⟩
           refine hdr1 op11 (fun K hK => ?_)
           obtain ⟨⟨a0, a1, a2, a3⟩, f0, f1, f2, f3⟩ := z8 HM3.out.r1
           have HT1 := lH (HM3.out.put1 (.int .i64 4) (.int .i64 qn) (.string ⟨#[]⟩) (.slice A2 qgs.length c2) HLb.out)
           go_simp
           generalize (((w3.setCell ⟨w.heap.size + 1, 0, none⟩ (.int .i64 4)).setCell ⟨w.heap.size + 1, 1, none⟩ (.int .i64 qn)).setCell ⟨w.heap.size + 1, 2, none⟩ (.string ⟨#[]⟩)).setCell ⟨w.heap.size + 1, 3, none⟩ (.slice A2 qgs.length c2) = w4 at *
           have HM4 := lH HT1.out.1
           clear a0 a1 a2 a3 f0 f1 f2 f3
           refine hK.out _ _ ?_ (fun hHeld => ?_)
           · exact ⟨HM4.out.req, HM4.out.lst, HM4.out.box⟩
           clear hK K
           try simp only [hdq]
           refine hdr1 op12 (fun K hK => ?_)
           obtain ⟨⟨a0, a1, a2, a3⟩, f0, f1, f2, f3⟩ := z8 HM4.out.r2
           have HT2 := lH (HM4.out.put2 (.int .i64 4) (.int .i64 pn) (.string ⟨#[]⟩) (.slice pA pgs.length pc) HLb.out)
           go_simp
           generalize (((w4.setCell ⟨w.heap.size + 2, 0, none⟩ (.int .i64 4)).setCell ⟨w.heap.size + 2, 1, none⟩ (.int .i64 pn)).setCell ⟨w.heap.size + 2, 2, none⟩ (.string ⟨#[]⟩)).setCell ⟨w.heap.size + 2, 3, none⟩ (.slice pA pgs.length pc) = w5 at *
           have HM5 := lH HT2.out.1
           clear a0 a1 a2 a3 f0 f1 f2 f3
           refine hK.out _ _ ?_ (fun hHeld => ?_)
           · exact ⟨HM5.out.req, HM5.out.lst, HM5.out.box⟩
           clear hK K
           try simp only [hdq]
           refine hdr1 op13 (fun K hK => ?_)
           obtain ⟨⟨a0, a1, a2, a3⟩, f0, f1, f2, f3⟩ := z8 HM5.out.r3
           have HT3 := lH (HM5.out.put3 (.int .i64 kc) (.int .i64 nc) (.string tc) (.slice Ac lc cc) HLb.out)
           go_simp
           generalize (((w5.setCell ⟨w.heap.size + 3, 0, none⟩ (.int .i64 kc)).setCell ⟨w.heap.size + 3, 1, none⟩ (.int .i64 nc)).setCell ⟨w.heap.size + 3, 2, none⟩ (.string tc)).setCell ⟨w.heap.size + 3, 3, none⟩ (.slice Ac lc cc) = w6 at *
           have HM6 := lH HT3.out.1
           clear a0 a1 a2 a3 f0 f1 f2 f3
           refine hK.out _ _ ?_ (fun hHeld => ?_)
           · exact ⟨HM6.out.req, HM6.out.lst, HM6.out.box⟩
           clear hK K
           try simp only [hdq]
           refine hdr1 op14 (fun K hK => ?_)
           obtain ⟨⟨a0, a1, a2, a3⟩, f0, f1, f2, f3⟩ := z8 HM6.out.r4
           have HT4 := lH (HM6.out.put4 (.int .i64 4) (.int .i64 nx) (.string ⟨#[]⟩) (.slice Aq qs.length cq) HLb.out)
           go_simp
           generalize (((w6.setCell ⟨w.heap.size + 4, 0, none⟩ (.int .i64 4)).setCell ⟨w.heap.size + 4, 1, none⟩ (.int .i64 nx)).setCell ⟨w.heap.size + 4, 2, none⟩ (.string ⟨#[]⟩)).setCell ⟨w.heap.size + 4, 3, none⟩ (.slice Aq qs.length cq) = w7 at *
           have HM7 := lH HT4.out.1
           clear a0 a1 a2 a3 f0 f1 f2 f3
           refine hK.out _ _ ?_ (fun hHeld => ?_)
           · exact ⟨HM7.out.req, HM7.out.lst, HM7.out.box⟩
           clear hK K
           try simp only [hdq]
           refine wpAnyH_done (by kernel_rfl) ?_ _
           go_wp2_with fail
           obtain ⟨⟨e0, e1, e2, e3⟩, -⟩ := z8 HM7.out.r1
           obtain ⟨⟨f0, f1, f2, f3⟩, -⟩ := z8 HM7.out.r2
           obtain ⟨⟨g0, g1, g2, g3⟩, -⟩ := z8 HM7.out.r3
           obtain ⟨⟨h0, h1, h2, h3⟩, -⟩ := z8 HM7.out.r4
           refine bodyPost_ret (v := .tuple #[.agg #[.int .i64 4, .int .i64 qn, .string ⟨#[]⟩, .slice A2 qgs.length c2], .agg #[.int .i64 4, .int .i64 pn, .string ⟨#[]⟩, .slice pA pgs.length pc], .agg #[.int .i64 kc, .int .i64 nc, .string tc, .slice Ac lc cc], .agg #[.int .i64 4, .int .i64 nx, .string ⟨#[]⟩, .slice Aq qs.length cq]]) (by simp [results, results20, go_sem, e0, e1, e2, e3, f0, f1, f2, f3, g0, g1, g2, g3, h0, h1, h2, h3]) rfl ?_
           have hK := (((HT1.out.2.trans HT2.out.2).trans HT3.out.2).trans HT4.out.2)
           have hbw := HL3.out.low
           have hne : ∀ j, (w.heap.size + 1 ≤ j ∧ j ≤ w.heap.size + 4) → ∃ t cs, Blk w3 j t cs ∧ t ≠ 39 := res_any HM3.out
           refine ⟨_, _, _, _, rfl, HV2b.out.keeps hK hne, HL3.out.own.keeps hK hne, HV3.out.keeps hK hne, ?_, hbw.trans (hK.below hbw.size (fun j hj => by omega))⟩
           have hsv := HSv.out.keeps hK hne
           rw [← HGS.out]
           exact hsv
end
end Rl
end Go.Proofs.YtgpemnmopogppaaGreatDoor
