import Derived.Test.YtgpemnmopogppaaGreatDoorZUsEQ
import Derived.Test.YtgpemnmopogppaaGreatDoorZUfCQ
set_option maxRecDepth 1000000
set_option maxHeartbeats 16000000
namespace Go.Proofs.YtgpemnmopogppaaGreatDoor
open Go.Proofs.Tryz
open Go Go.RowKit
namespace Rl
open Dp
open Us (PK LstP ownL setP turnL)
def formL : List UInt8 := [97, 112, 112, 108, 105, 99, 97, 116, 105, 111, 110, 47, 120, 45, 119, 119, 119, 45, 102, 111, 114, 109, 45, 117, 114, 108, 101, 110, 99, 111, 100, 101, 100]
def formB (s : ByteArray) : Bool := s.data.toList == formL || Lib.hasPrefix s.data.toList (formL ++ [59])
theorem pre_take : ∀ (p l : List UInt8), Lib.hasPrefix l p = (l.take p.length == p)
 | [], l => by simp [Lib.hasPrefix]
 | c :: p, [] => by simp [Lib.hasPrefix]
 | c :: p, x :: l => by
  have ih := pre_take p l
  unfold Lib.hasPrefix at ih ⊢
  rw [List.isPrefixOf_cons_cons, ih, List.length_cons, List.take_succ_cons, Bool.eq_iff_iff]
  simp
  exact fun _ => eq_comm
theorem form_eq {s : ByteArray} (h : (s.toList == formL) = true) : formB s = true := by
 unfold formB
 rw [← Lib.toList_data, h, Bool.true_or]
theorem form_ne {s : ByteArray} (h : (s.toList == formL) = false) : formB s = Lib.hasPrefix s.data.toList (formL ++ [59]) := by
 unfold formB
 rw [← Lib.toList_data, h, Bool.false_or]
theorem form_short {s : ByteArray} (h : s.size ≤ 33) : Lib.hasPrefix s.data.toList (formL ++ [59]) = false := by
 rw [pre_take, beq_eq_false_iff_ne]
 intro e
 have h1 := congrArg List.length e
 rw [List.length_take] at h1
 have h2 := Lib.size_eq s
 have h3 : (formL ++ [59]).length = 34 := rfl
 omega
theorem form_long {s : ByteArray} : ((s.extract 0 34).toList == formL ++ [59]) = Lib.hasPrefix s.data.toList (formL ++ [59]) := by
 rw [pre_take, Lib.toList_data]
 have h3 : (formL ++ [59]).length = 34 := rfl
 rw [h3]
 congr 1
 simp
theorem rform_any (s : ByteArray) (hs : s.size ≤ 16777216) (w : World) : Calls prog 47 #[.string s] w fun e w' => e = .returned (.bool (formB s)) ∧ w' = w := by
 cases h1 : (s.toList == formL) with
 | true =>
  have hf := form_eq h1
  unfold formL at h1
  rw [hf]
  clear hf
  go_enter func47, ntmps47
  go_wp2_with fail
  go_ret
  exact ⟨rfl, rfl⟩
 | false =>
  have hf := form_ne h1
  unfold formL at h1
  rw [hf]
  clear hf
  by_cases h33 : 33 < s.size
  · have hI : (33 : Int) < (s.size : Int) := by omega
    have hJ : (34 : Int) ≤ (s.size : Int) := by omega
    rw [← form_long]
    have hE : ((⟨#[97, 112, 112, 108, 105, 99, 97, 116, 105, 111, 110, 47, 120, 45, 119, 119, 119, 45, 102, 111, 114, 109, 45, 117, 114, 108, 101, 110, 99, 111, 100, 101, 100]⟩ : ByteArray) ++ ⟨#[59]⟩).toList = formL ++ [59] := by
     rw [Lib.toList_data]
     rfl
    have HE := lH hE
    clear hE
    go_enter func47, ntmps47
    go_wp2_with fail
    go_ret
    refine ⟨?_, rfl⟩
    rw [← HE.out]
    rfl
  · have hI : ¬ (33 : Int) < (s.size : Int) := by omega
    rw [form_short (by omega)]
    go_enter func47, ntmps47
    go_wp2_with fail
    go_ret
    exact ⟨rfl, rfl⟩
def ctypeB : ByteArray := ⟨#[67, 111, 110, 116, 101, 110, 116, 45, 84, 121, 112, 101]⟩
def ctypeG (us : List (ByteArray × ByteArray)) : ByteArray := (findH ctypeB us).getD ⟨#[]⟩
theorem found_ctype (us : List (ByteArray × ByteArray)) : ∃ b, foundT (findH ctypeB us) = .tuple #[.string (ctypeG us), .bool b] := by
 unfold ctypeG
 cases findH ctypeB us with
 | none => exact ⟨false, rfl⟩
 | some v => exact ⟨true, rfl⟩
def postB (m : ByteArray) (us : List (ByteArray × ByteArray)) : Bool := m.toList == [80, 79, 83, 84] && formB (ctypeG us)
def postG (m b : ByteArray) (us : List (ByteArray × ByteArray)) : GV := if postB m us = true then Ut.queryG b.data.toList else .mk 4 0 ⟨#[]⟩ []
theorem setG_giT (ps : List PK) (nx : Int) (k : Key3) (t : ByteArray) : setG (ps.map giT) nx (giOf k (Ut.leafG t)) = (setP ps nx k t).map fun p => (p.1.map giT, p.2) := by
 have hk : (ps.map giT).map GI.keyG = ps.map Prod.fst := by rw [List.map_map]; rfl
 unfold setG setP
 rw [hk, List.length_map, show Nm.normG (giOf k (Ut.leafG t)).isText (giOf k (Ut.leafG t)).int (giOf k (Ut.leafG t)).text = Nm.normG k.1 k.2.1 k.2.2 from rfl]
 split
 · show some (List.set _ _ _, nx) = some (List.map giT (List.set _ _ _), nx)
   rw [List.map_set]
   rfl
 · split
   · rfl
   · show some (_ ++ [_], _) = some (List.map giT (_ ++ [_]), _)
     rw [List.map_append]
     rfl
def pairP (u : ByteArray × ByteArray) : PI := ⟨true, 0, u.1, 3, 0, u.2, [], none, 0⟩
def prC (u : ByteArray × ByteArray) : List Value := [.string u.1, .string u.2]
def SetRow (W : World) (base : Nat) (v : Value) (l : List (ByteArray × ByteArray)) : Prop := W.ownsRow base 48 2 v l.length (l.flatMap prC)
theorem prC_get : ∀ (l : List (ByteArray × ByteArray)) (j : Nat) (u : ByteArray × ByteArray), l[j]? = some u → (l.flatMap prC)[j * 2]? = some (.string u.1) ∧ (l.flatMap prC)[j * 2 + 1]? = some (.string u.2)
 | v :: l, 0, u, h => by
  have e : v = u := by simpa using h
  subst e
  exact ⟨rfl, rfl⟩
 | v :: l, j + 1, u, h => by
  have ih := prC_get l j u (by simpa using h)
  rw [List.flatMap_cons, show (j + 1) * 2 = j * 2 + 2 by omega, show j * 2 + 2 + 1 = (j * 2 + 1) + 2 by omega]
  exact ih
theorem SetRow.cells {W : World} {base : Nat} {v : Value} {l : List (ByteArray × ByteArray)} (h : SetRow W base v l) {j : Nat} {u : ByteArray × ByteArray} (hj : l[j]? = some u) :
  ∃ g cap, v = .slice (some ⟨g, 0, none⟩) l.length cap ∧ W.cell? ⟨g, j * 2, none⟩ = some (.string u.1) ∧ W.cell? ⟨g, j * 2 + 1, none⟩ = some (.string u.2) := by
 have hl := (List.getElem?_eq_some_iff.1 hj).1
 obtain ⟨g, cap, hv, _, _⟩ := World.ownsRow.form h (by omega)
 obtain ⟨h1, h2⟩ := prC_get l j u hj
 subst hv
 exact ⟨g, cap, rfl, addr_add0 (World.ownsRow.cells h (g := g) rfl (j * 2) _ h1), addr_add0 (World.ownsRow.cells h (g := g) rfl (j * 2 + 1) _ h2)⟩
structure LsW (W0 W : World) (rq : Array Value) (pn : Int) (pgs : List GI) (pA : Option Addr) (pc lb : Nat) (st : List PK × Int) : Prop where
 req : Blk W W0.heap.size 43 rq
 r1 : Blk W (W0.heap.size + 1) 25 #[.int .i64 0, .int .i64 0, .string ⟨#[]⟩, .slice none 0 0]
 r2 : Blk W (W0.heap.size + 2) 25 #[.int .i64 0, .int .i64 0, .string ⟨#[]⟩, .slice none 0 0]
 r3 : Blk W (W0.heap.size + 3) 25 #[.int .i64 0, .int .i64 0, .string ⟨#[]⟩, .slice none 0 0]
 r4 : Blk W (W0.heap.size + 4) 25 #[.int .i64 0, .int .i64 0, .string ⟨#[]⟩, .slice none 0 0]
 box : Blk W (W0.heap.size + 5) 25 #[.int .i64 4, .int .i64 pn, .string ⟨#[]⟩, .slice pA pgs.length pc]
 own : Uf.VOwn W (.mk 4 pn ⟨#[]⟩ pgs) (.agg #[.int .i64 4, .int .i64 pn, .string ⟨#[]⟩, .slice pA pgs.length pc])
 lst : ∃ sv qs, Uf.LOwn W lb sv qs st.2 ∧ qs.map PI.it = st.1.map giT
 hlb : W0.heap.size + 5 < lb
 low : Below W0.heap.size W0 W
section
variable {W0 W W' : World} {rq : Array Value} {pn : Int} {pgs : List GI} {pA : Option Addr} {pc lb : Nat} {st st' : List PK × Int}
theorem LsW.under (h : LsW W0 W rq pn pgs pA pc lb st) (hb : Below W.heap.size W W') : LsW W0 W' rq pn pgs pA pc lb st := by
 obtain ⟨sv, qs, h1, h2⟩ := h.lst
 exact ⟨blk_below h.req hb, blk_below h.r1 hb, blk_below h.r2 hb, blk_below h.r3 hb, blk_below h.r4 hb, blk_below h.box hb, h.own.under hb, ⟨sv, qs, h1.under hb, h2⟩, h.hlb, h.low.trans (hb.mono h.low.size)⟩
theorem LsW.keeps {S : Nat → Prop} (h : LsW W0 W rq pn pgs pA pc lb st) (hk : Keeps S W W') (h1 : ∀ j, S j → W0.heap.size + 5 < j) (h2 : ∀ j, S j → ∃ t cs, Blk W j t cs ∧ t ≠ 39) (h3 : ∃ sv qs, Uf.LOwn W' lb sv qs st'.2 ∧ qs.map PI.it = st'.1.map giT) : LsW W0 W' rq pn pgs pA pc lb st' :=
 ⟨h.req.keeps hk (fun e => by have := h1 _ e; omega), h.r1.keeps hk (fun e => by have := h1 _ e; omega), h.r2.keeps hk (fun e => by have := h1 _ e; omega), h.r3.keeps hk (fun e => by have := h1 _ e; omega), h.r4.keeps hk (fun e => by have := h1 _ e; omega), h.box.keeps hk (fun e => by have := h1 _ e; omega),
  h.own.keeps hk h2, h3, h.hlb, h.low.trans (hk.below h.low.size (fun j hj => by have := h1 j hj; omega))⟩
end
theorem lset_any {W0 w1 : World} {rq : Array Value} {pn : Int} {pgs : List GI} {pA : Option Addr} {pc lb : Nat} {st : List PK × Int} (h : LsW W0 w1 rq pn pgs pA pc lb st) (u : ByteArray × ByteArray) (hs : u.1.size ≤ 140737488351232) (ht : u.2.size ≤ 140737488351232) :
  Calls prog 48 #[.pointer (some ⟨lb, 0, none⟩), .agg #[.bool true, .int .i64 0, .string u.1], .agg #[.int .i64 3, .int .i64 0, .string u.2, .slice none 0 0]] w1 fun e w2 => ∃ v, e = .returned v ∧ LsW W0 w2 rq pn pgs pA pc lb (stepP st u) ∧ Keeps (fun j => j = lb) w1 w2 := by
 obtain ⟨sv, qs, h1, h2⟩ := h.lst
 have hb := h1.lst.blk
 have hS2 : ∀ j, (fun j => j = lb) j → ∃ t cs, Blk w1 j t cs ∧ t ≠ 39 := fun j e => by subst e; exact ⟨_, _, hb, by decide⟩
 have hset := Uf.rset_own w1 h1 (pairP u) z64 hs (.leaf _ _ _ _) (Ut.leaf_wf ht)
 have hit : setG (qs.map PI.it) st.2 (pairP u).it = (setP st.1 st.2 (true, 0, u.1) u.2).map fun p => (p.1.map giT, p.2) := by
  rw [h2]
  exact setG_giT st.1 st.2 (true, 0, u.1) u.2
 unfold stepP
 cases hp : setP st.1 st.2 (true, 0, u.1) u.2 with
 | none =>
  rw [hp] at hit
  refine (hset.1 hit).mono fun e w2 ⟨he, hb2⟩ => ⟨_, he, h.under hb2, Keeps.of_below hb2⟩
 | some p =>
  rw [hp] at hit
  refine (hset.2 _ _ hit).mono fun e w2 ⟨he, hk, sv', ps', hq, hl⟩ => ⟨_, he, h.keeps hk (fun j e => by have := h.hlb; omega) hS2 ⟨sv', ps', hl, hq.symm⟩, hk⟩
theorem SetRow.below {W W' : World} {base : Nat} {v : Value} {l : List (ByteArray × ByteArray)} (h : SetRow W base v l) (hb : Below W.heap.size W W') : SetRow W' base v l := own_below h hb
theorem SetRow.keep {W W' : World} {base lb : Nat} {v : Value} {l : List (ByteArray × ByteArray)} {t : TypeId} {cs : Array Value} (h : SetRow W base v l) (hb : Blk W lb t cs) (ht : t ≠ 48) (hk : Keeps (fun j => j = lb) W W') : SetRow W' base v l :=
 Us.row_keep h hk fun g e hs => row_ne h hb ht (by rw [e, hs])
end Rl
end Go.Proofs.YtgpemnmopogppaaGreatDoor
