import Derived.Test.YtgpemnmopogppaaGreatDoorZUsD
import Derived.Test.YtgpemnmopogppaaGreatDoorZUtLQ
import Derived.Test.YtgpemnmopogppaaGreatDoorZRhAQ
import Derived.Shelf.Abstract
set_option maxRecDepth 1000000
set_option maxHeartbeats 16000000
namespace Go.Proofs.YtgpemnmopogppaaGreatDoor
open Go.Proofs.Tryz
open Go Go.RowKit
namespace Us
open Go.Proofs.YtgpemnmopogppaaGreatDoor.Nm (normG keyV norm_any)
open Dp
open Ut (KY KZ range_Z)
section
variable {w : World} {B : Nat}
theorem set_any (hLib : ∀ w', Below B w w' → LibS w') (w1 : World) (hb : Below B w w1) {b mb : Nat} {sv : Value} {ps : List PK} {nx : Int} (hL : LstP w1 b mb false sv ps nx) (hB1 : B ≤ w1.heap.size) (k : Key3) (hk : In64 k.2.1) (hs : k.2.2.size ≤ 140737488351232) (q : ByteArray) (hn : ps.length ≤ 2048) (hnx : In64 nx) :
  Calls prog 85 #[.pointer (some ⟨b, 0, none⟩), .agg #[.bool k.1, .int .i64 k.2.1, .string k.2.2], .string q] w1 fun e w2 => Keeps (ownL b mb sv) w1 w2 ∧
   ((setP ps nx k q = none ∧ e = .returned (.int .i64 8) ∧ Below w1.heap.size w1 w2) ∨ ∃ ps' nx' sv', setP ps nx k q = some (ps', nx') ∧ e = .returned (.int .i64 0) ∧ LstP w2 b mb false sv' ps' nx' ∧ ∀ j, ownL b mb sv' j → turnL w1.heap.size b mb sv j) := by
 by_cases h : 0 ≤ findK (ps.map Prod.fst) (normG k.1 k.2.1 k.2.2) 0
 · obtain ⟨_, hat⟩ := findK_at (ps.map Prod.fst) (normG k.1 k.2.1 k.2.2) 0 (by omega) h
   rw [List.getElem?_map, Int.sub_zero] at hat
   obtain ⟨p0, hp0, hkey⟩ := Option.map_eq_some_iff.1 hat
   refine (set_found hLib w1 hb hL hB1 k hk hs q _ (Int.toNat_of_nonneg h).symm p0 hp0 (by omega)).mono ?_
   rintro e w2 ⟨rfl, hL2, hk2⟩
   refine ⟨hk2, .inr ⟨_, nx, sv, ?_, rfl, hL2, fun j hj => .inl hj⟩⟩
   unfold setP
   rw [if_pos h, hkey]
 · by_cases h2 : 2048 ≤ ps.length
   · refine (set_full hLib w1 hb hL hB1 k hk hs q (by omega) h2 (by omega)).mono ?_
     rintro e w2 ⟨rfl, hb2⟩
     refine ⟨Keeps.of_below hb2, .inl ⟨?_, rfl, hb2⟩⟩
     unfold setP
     rw [if_neg h, if_pos h2]
   · refine (set_new hLib w1 hb hL hB1 k hk hs q (by omega) (by omega) hnx).mono ?_
     rintro e w2 ⟨rfl, ⟨sv', hL2, hT⟩, hk2⟩
     refine ⟨hk2, .inr ⟨_, _, sv', ?_, rfl, hL2, hT⟩⟩
     unfold setP
     rw [if_neg h, if_neg h2]
end
def RowQ (CF : Nat → Prop) (j : Nat) (o : Obj) : Prop := (∃ cs fz, o = .cells cs 166 fz) ∧ ¬ CF j
theorem rowQ_cells {CF : Nat → Prop} (j : Nat) (o : Obj) (h : RowQ CF j o) : o.isCells = true := by
 obtain ⟨⟨cs, fz, rfl⟩, _⟩ := h
 rfl
theorem ky_row {CF : Nat → Prop} {A B : World} {base n : Nat} {sv : Value} {xs : List Value} (h : KY (RowQ CF) A B) (hc : ∀ g, sv.ownBlock = some g → ¬ CF g) (ho : A.ownsRow base 166 4 sv n xs) : B.ownsRow base 166 4 sv n xs := by
 refine ⟨ho.1, ?_⟩
 rcases ho.2 with h0 | ⟨g, cap, cur, e, hb, hg, r⟩
 · exact .inl h0
 · exact .inr ⟨g, cap, cur, e, hb, h.same g _ hg ⟨⟨cur, (0, 0), rfl⟩, hc g (by rw [e]; rfl)⟩, r⟩
def encT (p : PK) : Array Value := #[.agg #[.bool p.1.1, .int .i64 p.1.2.1, .string p.1.2.2], .string p.2]
section
theorem all1_in {bx b mb l : Nat} {sv : Value} {ps : List PK} {nx : Int} {CF : Nat → Prop} (hn : ps.length ≤ 2048) (hCF : ∀ g, sv.ownBlock = some g → ¬ CF g) (J : List PK → World → Prop) (W : World) (hbx : W.cell? ⟨bx, 0, none⟩ = some (.pointer (some ⟨b, 0, none⟩))) (hL : LstP W b mb false sv ps nx)
  (hJ : ∀ pre A B, J pre A → Keeps (fun j => j = b) A B → J pre B) (hY : ∀ pre x W1, J pre W1 → pre ++ [x] <+: ps → YieldAt Fence.wide 4 prog l (encT x) W1 fun e W' => e = .returned (.bool true) ∧ J (pre ++ [x]) W' ∧ KY (RowQ CF) W1 W') (h0 : J [] W) :
  CallsIn Fence.wide 5 prog 128 #[.func (.yield l) #[] #[], .pointer (some ⟨bx, 0, none⟩)] W fun e W' => (∃ v, e = .returned v) ∧ J ps W' := by
 obtain ⟨A, c, rfl⟩ := hL.form
 obtain ⟨W2, hW2⟩ : ∃ z, Hid (z = (W.setCell ⟨b, 1, none⟩ (.bool true)).alloc (.cells #[.bool true, .bool true, .slice A ps.length c, .map (some mb), .int .i64 nx] 164)) := ⟨_, rfl⟩
 have HK := lH (ok_any W b hL.cells.1)
 have HC : Hid (Calls prog 129 #[.pointer (some ⟨b, 0, none⟩)] W fun e w' => e = .returned (.pointer (some ⟨W.heap.size, 0, none⟩)) ∧ w' = W2) := by
  show Calls _ _ _ _ _
  rw [hW2.out]
  exact copy_any hL
 have hbl := hL.blk.lt
 have HW2 : Hid (Blk W2 W.heap.size 164 #[.bool true, .bool true, .slice A ps.length c, .map (some mb), .int .i64 nx]) := by
  show Blk _ _ _ _
  rw [hW2.out]
  have := Blk.new (W.setCell ⟨b, 1, none⟩ (.bool true)) 164 #[.bool true, .bool true, .slice A ps.length c, .map (some mb), .int .i64 nx]
  simpa using this
 have HO2 : Hid (W2.ownsRow 0 166 4 (.slice A ps.length c) ps.length (rowP ps)) := by
  show World.ownsRow _ _ _ _ _ _ _
  rw [hW2.out]
  exact (row_keep hL.owns (set_keepsP W b 1 (.bool true)) (fun gg e e2 => row_ne hL.owns hL.blk (by decide) (by rw [← e2, e]))).alloc _
 have HJ2 : Hid (J [] W2) := by
  show J _ _
  rw [hW2.out]
  exact hJ _ _ _ h0 ((set_keepsP W b 1 _).trans (Keeps.of_below ((Below.refl _ _).alloc (Nat.le_refl _) _)))
 have HCF := lH hCF
 have HJ := lH hJ
 have HY := lH hY
 clear hW2 hL hJ hY h0 hCF
 have q2 : W2.cell? ⟨W.heap.size, 2, none⟩ = some (.slice A ps.length c) := HW2.out.cell 2
 refine callsIn_of_wp func128 rfl trivial ?_ rfl
 simp only [ntmps128, List.size_toArray, List.length_cons, List.length_nil, Nat.reduceAdd, Nat.reduceSub, Array.replicate_succ, Array.replicate_zero, List.push_toArray, List.append_toArray, List.nil_append, List.cons_append]
 gi_wp2_with (first
  | (refine ⟨trivial, ?_⟩; gi_at_call 126; refine (callsIn_wide.2 HK.out).mono ?_; rintro e w' ⟨rfl, he⟩; subst he)
  | (refine ⟨trivial, ?_⟩; gi_at_call 129; refine (callsIn_wide.2 HC.out).mono ?_; rintro e w' ⟨rfl, rfl⟩))
 gi_loopw [16] (fun xi wr => ∃ j : Nat, j ≤ ps.length ∧ xi = .int .i64 j ∧ Hid (J (ps.take j) wr) ∧ Hid (wr.ownsRow 0 166 4 (.slice A ps.length c) ps.length (rowP ps))) (fun xi _ => ps.length - (ixOf xi).toNat)
 case atStart => exact ⟨0, Nat.zero_le _, rfl, HJ2, HO2⟩
 case round =>
  obtain ⟨j, hj, rfl, HJr, HOr⟩ := hrel
  clear HJ2 HO2
  by_cases hlt : j < ps.length
  · obtain ⟨p, hp⟩ : ∃ p, ps[j]? = some p := ⟨_, List.getElem?_eq_getElem hlt⟩
    obtain ⟨g, cap, hv, hbg, hgl⟩ := HOr.out.form (by omega)
    injection hv with e1 _ e3
    subst e1 e3
    have hTk : ps.take (j + 1) = ps.take j ++ [p] := by rw [List.take_add_one, hp]; rfl
    have hc : ∀ r, r < 4 → ∀ u, (PK.cells p)[r]? = some u → wr.cell? ⟨g, j * 4 + r, none⟩ = some u := fun r hr u hu => addr_add0 (HOr.out.cells (g := g) rfl (j * 4 + r) u ((rowP_get ps j p hp r hr).trans hu))
    have s0 : wr.cell? ⟨g, j * 4, none⟩ = some (.bool p.1.1) := hc 0 (by decide) _ rfl
    have s1 := hc 1 (by decide) _ rfl
    have s2 := hc 2 (by decide) _ rfl
    have s3 := hc 3 (by decide) _ rfl
    have hal := (Below.refl wr.heap.size wr).alloc (Nat.le_refl _) (.cells #[.bool p.1.1, .int .i64 p.1.2.1, .string p.1.2.2, .string p.2] 166)
    obtain ⟨fn, tmps, assign, body, hy, hR⟩ := HY.out (ps.take j) p _ (HJ.out _ _ _ HJr.out (Keeps.of_below hal)) (by rw [← hTk]; exact List.take_prefix _ _)
    dsimp only [encT] at hy
    have HOi := lH (own_below HOr.out hal)
    have HR := lH hR
    have hIx : (j : Int) < (ps.length : Int) := by omega
    clear hR hal hc HJr HOr
    gi_wp2
    refine HR.out.mono ?_
    rintro e W3 ⟨rfl, hJ3, hk3⟩
    have HJ3 : Hid (J (ps.take (j + 1)) W3) := by
     show J _ _
     rw [hTk]
     exact hJ3
    have HO3 := lH (ky_row hk3 HCF.out HOi.out)
    clear hJ3 hk3 HOi HR hy hTk s0 s1 s2 s3
    gi_wp2
    go_roundw
    case rel => exact ⟨j + 1, by omega, by go_num, HJ3, HO3⟩
    case measure => simp [ixOf] <;> omega
  · obtain rfl : j = ps.length := by omega
    have HJe := HJr
    rw [List.take_length] at HJe
    gi_wp2
    go_end0
    exact ⟨⟨_, rfl⟩, HJe.out⟩
end
end Us
open Go Go.RowKit
namespace Rl
open Go.Proofs.YtgpemnmopogppaaGreatDoor.Nm (normG keyV norm_any)
open Dp
open Us (PK LstP ownL setP turnL)
def stepP (st : List PK × Int) (u : ByteArray × ByteArray) : List PK × Int := (setP st.1 st.2 (true, 0, u.1) u.2).getD st
def upC (c : UInt8) : UInt8 := if 97 ≤ c.toNat ∧ c.toNat ≤ 122 then c - 32 else if c.toNat = 45 then 95 else c
def httpL : List UInt8 := [72, 84, 84, 80, 95]
def headN (l : List UInt8) : List UInt8 := httpL ++ l.map upC
def headU (u : ByteArray × ByteArray) : ByteArray × ByteArray := (⟨(headN u.1.data.toList).toArray⟩, u.2)
def targetB (p y : ByteArray) : ByteArray := if y.toList.isEmpty = true then p else p ++ ⟨#[63]⟩ ++ y
def nMethod : ByteArray := ⟨#[82, 69, 81, 85, 69, 83, 84, 95, 77, 69, 84, 72, 79, 68]⟩
def nUri : ByteArray := ⟨#[82, 69, 81, 85, 69, 83, 84, 95, 85, 82, 73]⟩
def nQuery : ByteArray := ⟨#[81, 85, 69, 82, 89, 95, 83, 84, 82, 73, 78, 71]⟩
def nScript : ByteArray := ⟨#[83, 67, 82, 73, 80, 84, 95, 78, 65, 77, 69]⟩
def firstL (m p y : ByteArray) : List (ByteArray × ByteArray) := [(nMethod, m), (nUri, targetB p y), (nQuery, y), (nScript, p)]
def serverP (m p y : ByteArray) (us : List (ByteArray × ByteArray)) : List PK × Int := ((firstL m p y) ++ us.map headU).foldl stepP ([], 0)
def giT (p : PK) : GI := giOf p.1 (Ut.leafG p.2)
def stG (st : List PK × Int) : GV := .mk 4 st.2 ⟨#[]⟩ (st.1.map giT)
def serverG (m p y : ByteArray) (us : List (ByteArray × ByteArray)) : GV := stG (serverP m p y us)
section
variable (m p y b : ByteArray) (A : Option Addr) (n c : Nat) (w : World)
theorem target_any (hp : p.size ≤ 1000000000) (hy : y.size ≤ 1000000000) :
  Calls prog 86 #[.agg #[.string m, .string p, .string y, .slice A n c, .string b]] w fun e w' => ∃ v, e = .returned v ∧ v = .string (targetB p y) ∧ Below w.heap.size w w' := by
 have HB := lH ((Below.refl w.heap.size w).alloc (Nat.le_refl _) (.cells #[.string m, .string p, .string y, .slice A n c, .string b] 43))
 have g1 : ¬ 9223372036854775807 < p.size + 1 := by omega
 have g2 : ¬ 9223372036854775807 < p.size + 1 + y.size := by omega
 unfold targetB
 cases he : y.toList.isEmpty with
 | true =>
  rw [if_pos rfl]
  go_enter func86, ntmps86
  go_wp2_with fail
  go_ret
  exact ⟨_, rfl, rfl, HB.out⟩
 | false =>
  rw [if_neg (by decide)]
  go_enter func86, ntmps86
  go_wp2_with fail
  go_ret
  exact ⟨_, rfl, rfl, HB.out⟩
end
theorem own_ne {w : World} {p b mb : Nat} {sh : Bool} {sv : Value} {ps : List PK} {nx : Int} {cs : Array Value} (hb : Blk w p 119 cs) (hl : LstP w b mb sh sv ps nx) : ¬ ownL b mb sv p := by
 rintro (rfl | rfl | e)
 · have h1 := hl.blk
   unfold Blk at h1 hb
   rw [h1] at hb
   injection hb with hb
   injection hb with _ hb
   exact absurd hb (by decide)
 · exact idx_blk_ne hb hl.idx rfl
 · exact row_ne hl.owns hb (by decide) e
structure SvSt (n0 : Nat) (W : World) (lb : Nat) (st : List PK × Int) : Prop where
 ex : ∃ b mb sv, Blk W lb 119 #[.pointer (some ⟨b, 0, none⟩)] ∧ LstP W b mb false sv st.1 st.2 ∧ ∀ j, ownL b mb sv j → n0 ≤ j
 len : st.1.length ≤ 2048
 in64 : In64 st.2
theorem SvSt.below {n0 lb : Nat} {W W' : World} {st : List PK × Int} (h : SvSt n0 W lb st) (hb : Below W.heap.size W W') : SvSt n0 W' lb st := by
 obtain ⟨b, mb, sv, h1, h2, h3⟩ := h.ex
 exact ⟨⟨b, mb, sv, blk_below h1 hb, h2.below hb, h3⟩, h.len, h.in64⟩
theorem setP_len {ps ps' : List PK} {nx nx' : Int} {k : Key3} {t : ByteArray} (h : setP ps nx k t = some (ps', nx')) (hl : ps.length ≤ 2048) : ps'.length ≤ 2048 := by
 unfold setP at h
 split at h
 · injection h with h
   injection h with h1 h2
   subst h1
   rw [List.length_set]
   exact hl
 · split at h
   · cases h
   · injection h with h
     injection h with h1 h2
     subst h1
     rw [List.length_append, List.length_cons, List.length_nil]
     omega
theorem setP_in {ps ps' : List PK} {nx nx' : Int} {k : Key3} {t : ByteArray} (h : setP ps nx k t = some (ps', nx')) (hi : In64 nx) (hk : In64 k.2.1) (hs : k.2.2.size ≤ 140737488351232) : In64 nx' := by
 unfold setP at h
 split at h
 · injection h with h
   injection h with h1 h2
   subst h2
   exact hi
 · split at h
   · cases h
   · injection h with h
     injection h with h1 h2
     subst h2
     exact nextK_in hi (normG_key _ _ _ hk hs)
section
variable {w : World} {B : Nat}
theorem setc_any (hLib : ∀ w', Below B w w' → LibS w') (w1 : World) (hb : Below B w w1) (hB1 : B ≤ w1.heap.size) {n0 lb : Nat} {st : List PK × Int} (hS : SvSt n0 w1 lb st) (hn0 : n0 ≤ w1.heap.size) (u : ByteArray × ByteArray) (hs : u.1.size ≤ 140737488351232) :
  Calls prog 84 #[.string u.1, .string u.2, .pointer (some ⟨lb, 0, none⟩)] w1 fun e w2 => (∃ v, e = .returned v) ∧ SvSt n0 w2 lb (stepP st u) ∧ Keeps (fun j => n0 ≤ j ∧ j ≠ lb) w1 w2 := by
 obtain ⟨b, mb, sv, h1, h2, h3⟩ := hS.ex
 obtain ⟨nm, tx⟩ := u
 have hne := own_ne h1 h2
 have HSet := lH ((Us.set_any hLib w1 hb h2 hB1 (true, 0, nm) z64 hs tx hS.len hS.in64).mono (fun e w2 h => show ∃ v, e = .returned v ∧ Keeps (ownL b mb sv) w1 w2 ∧ ((setP st.1 st.2 (true, 0, nm) tx = none ∧ Below w1.heap.size w1 w2) ∨ ∃ ps' nx' sv', setP st.1 st.2 (true, 0, nm) tx = some (ps', nx') ∧ LstP w2 b mb false sv' ps' nx' ∧ ∀ j, ownL b mb sv' j → turnL w1.heap.size b mb sv j) by
  obtain ⟨hk, ⟨a1, rfl, a2⟩ | ⟨ps', nx', sv', a1, rfl, a2⟩⟩ := h
  · exact ⟨_, rfl, hk, .inl ⟨a1, a2⟩⟩
  · exact ⟨_, rfl, hk, .inr ⟨_, _, _, a1, a2⟩⟩))
 have HNe := lH hne
 have HBox := lH h1
 have HOw := lH h3
 have HL := lH h2
 have p0 : w1.cell? ⟨lb, 0, none⟩ = some (.pointer (some ⟨b, 0, none⟩)) := h1.cell 0
 have hlb := h1.lt
 have HS := lH hS
 clear hne h1 h2 h3 hS hLib hb
 go_enter func84, ntmps84
 go_wp2_with (go_at_call 85; refine HSet.out.mono ?_; rintro e w2 ⟨v, rfl, hk, hc⟩; have HK := lH hk; have HC := lH hc; clear hk hc)
 go_end0
 have hkk : Keeps (fun j => n0 ≤ j ∧ j ≠ lb) w1 w2 := HK.out.mono fun j _ hj => ⟨HOw.out j hj, fun e => HNe.out (e ▸ hj)⟩
 refine ⟨⟨_, rfl⟩, ?_, hkk⟩
 rcases HC.out with ⟨hn, hb2⟩ | ⟨ps', nx', sv', hs', hL', hT⟩
 · unfold stepP
   rw [hn]
   exact HS.out.below hb2
 · unfold stepP
   rw [hs']
   refine ⟨⟨b, mb, sv', HBox.out.keeps HK.out HNe.out, hL', fun j hj => ?_⟩, setP_len hs' HS.out.len, setP_in hs' HS.out.in64 z64 hs⟩
   rcases hT j hj with h | h
   · exact HOw.out j h
   · omega
end
theorem setc_in (args : Array Value) (w : World) : (callFunc 84 args).run prog w = .ok (.enter 84 args) w := enters_of func84 (by kernel_rfl) rfl args w
end Rl
open Go Go.RowKit
namespace Rl
open Dp
open Us (PK LstP ownL setP turnL)
open Ut (KZ)
def mapK (f : UInt8 → UInt8) (s : List UInt8) (k : Nat) : List UInt8 := (s.take k).map f ++ s.drop k
theorem mapK_len (f : UInt8 → UInt8) (s : List UInt8) (k : Nat) : (mapK f s k).length = s.length := by simp [mapK]; omega
theorem mapK_at (f : UInt8 → UInt8) (s : List UInt8) (k : Nat) (h : k < s.length) : (mapK f s k)[k]'(by rw [mapK_len]; exact h) = s[k] := by
 unfold mapK
 rw [List.getElem_append_right (by simp; omega)]
 simp [Nat.min_eq_left (Nat.le_of_lt h)]
theorem mapK_succ (f : UInt8 → UInt8) (s : List UInt8) (k : Nat) (h : k < s.length) : mapK f s (k + 1) = (mapK f s k).set k (f s[k]) := by
 unfold mapK
 rw [List.set_append_right _ _ (by simp; omega)]
 have e1 : k - (List.map f (List.take k s)).length = 0 := by simp; omega
 rw [e1, List.drop_eq_getElem_cons h, List.set_cons_zero, List.take_succ_eq_append_getElem h, List.map_append]
 simp
theorem mapK_same (f : UInt8 → UInt8) (s : List UInt8) (k : Nat) (h : k < s.length) (e : f s[k] = s[k]) : mapK f s (k + 1) = mapK f s k := by
 rw [mapK_succ f s k h, e]
 have := mapK_at f s k h
 conv => lhs; rw [← this]
 exact List.set_getElem_self _
theorem mapK_all (f : UInt8 → UInt8) (s : List UInt8) : mapK f s s.length = s.map f := by simp [mapK]
theorem up_small {c : UInt8} (h : 97 ≤ c.toNat) (h' : c.toNat ≤ 122) : ((upC c).toNat : Int) = (c.toNat : Int) - 32 := by
 unfold upC
 rw [if_pos ⟨h, h'⟩]
 have := c.toNat_lt
 rw [UInt8.toNat_sub]
 have e : (32 : UInt8).toNat = 32 := rfl
 rw [e]
 omega
theorem up_dash {c : UInt8} (h : c.toNat = 45) : upC c = 95 := by
 unfold upC
 rw [if_neg (by omega), if_pos h]
theorem up_other {c : UInt8} (h : ¬ (97 ≤ c.toNat ∧ c.toNat ≤ 122)) (h' : c.toNat ≠ 45) : upC c = c := by
 unfold upC
 rw [if_neg h, if_neg h']
theorem http_up (l : List UInt8) : (httpL ++ l).map upC = headN l := by
 rw [List.map_append]
 rfl
theorem http_five (l : List UInt8) : mapK upC (httpL ++ l) 5 = httpL ++ l := by
 unfold mapK
 have e : (httpL ++ l).take 5 = httpL := by simp [httpL]
 have e2 : (httpL ++ l).drop 5 = l := by simp [httpL]
 rw [e, e2]
 rfl
theorem http_dash (l : List UInt8) (i : Nat) (h : i < (httpL ++ l).length) (hd : ((httpL ++ l)[i]).toNat = 45) : 4 < i := by
 rcases (by omega : i = 0 ∨ i = 1 ∨ i = 2 ∨ i = 3 ∨ i = 4 ∨ 4 < i) with rfl | rfl | rfl | rfl | rfl | h
 · exact absurd (show (72 : UInt8).toNat = 45 from hd) (by decide)
 · exact absurd (show (84 : UInt8).toNat = 45 from hd) (by decide)
 · exact absurd (show (84 : UInt8).toNat = 45 from hd) (by decide)
 · exact absurd (show (80 : UInt8).toNat = 45 from hd) (by decide)
 · exact absurd (show (95 : UInt8).toNat = 45 from hd) (by decide)
 · exact h
structure SvW (W0 W : World) (rq : Array Value) (st : List PK × Int) : Prop where
 req : Blk W W0.heap.size 43 rq
 res : Blk W (W0.heap.size + 1) 25 #[.int .i64 0, .int .i64 0, .string ⟨#[]⟩, .slice none 0 0]
 lst : SvSt (W0.heap.size + 2) W (W0.heap.size + 4) st
 low : Below W0.heap.size W0 W
section
variable {W0 W W' : World} {rq : Array Value} {st st' : List PK × Int}
theorem SvW.below (h : SvW W0 W rq st) (hb : Below W.heap.size W W') : SvW W0 W' rq st := ⟨blk_below h.req hb, blk_below h.res hb, h.lst.below hb, h.low.trans (hb.mono h.low.size)⟩
theorem SvW.set (h : SvW W0 W rq st) (hs : SvSt (W0.heap.size + 2) W' (W0.heap.size + 4) st') (hk : Keeps (fun j => W0.heap.size + 2 ≤ j ∧ j ≠ W0.heap.size + 4) W W') : SvW W0 W' rq st' :=
 ⟨h.req.keeps hk (by omega), h.res.keeps hk (by omega), hs, h.low.trans (hk.below h.low.size (fun j hj => by omega))⟩
theorem SvW.big (h : SvW W0 W rq st) : W0.heap.size + 4 < W.heap.size := by
 obtain ⟨b, mb, sv, h1, _⟩ := h.lst.ex
 exact h1.lt
end
structure VSt (w0 : World) (gs : List GI) (vb rb : Nat) (nx : Int) (n : Nat) (W : World) : Prop where
 ex : ∃ sv qs, qs.map PI.it = gs.take n ∧ RowSt (vb + 1) W sv qs ∧ Blk W vb 25 #[.int .i64 4, .int .i64 nx, .string ⟨#[]⟩, sv]
 low : Below w0.heap.size w0 W
 res : Blk W rb 25 #[.int .i64 0, .int .i64 0, .string ⟨#[]⟩, .slice none 0 0]
section
variable {w0 A B : World} {gs : List GI} {vb rb n : Nat} {nx : Int}
theorem VSt.keepsS {S : Nat → Prop} (h : VSt w0 gs vb rb nx n A) (hk : Keeps S A B) (h1 : ∀ j, S j → w0.heap.size ≤ j ∧ j < vb ∧ j ≠ rb) : VSt w0 gs vb rb nx n B := by
 obtain ⟨⟨sv, qs, hq, hr, hb⟩, hlow, hres⟩ := h
 exact ⟨⟨sv, qs, hq, Ut.row_keepsS hr hk (fun j hj => by have := h1 j hj; omega), hb.keeps hk (fun hs => by have := h1 _ hs; omega)⟩, hlow.trans (hk.below hlow.size (fun j hj => (h1 j hj).1)), hres.keeps hk (fun hs => (h1 _ hs).2.2 rfl)⟩
theorem VSt.put {l : Nat} {o o' : Obj} (h : VSt w0 gs vb rb nx n A) (hl : A.heap[l]? = some o) (ho : o.isCells = false) (ho' : o'.isCells = false) (hw : w0.heap.size ≤ l) : VSt w0 gs vb rb nx n (A.putObj l o') := by
 obtain ⟨⟨sv, qs, hq, hr, hb⟩, hlow, hres⟩ := h
 exact ⟨⟨sv, qs, hq, row_put hr hl ho ho', blk_put hb hl ho o'⟩, below_put hlow hl hw o', blk_put hres hl ho o'⟩
theorem VSt.under (h : VSt w0 gs vb rb nx n A) (hb : Below A.heap.size A B) : VSt w0 gs vb rb nx n B := by
 obtain ⟨⟨sv, qs, hq, hr, hbl⟩, hlow, hres⟩ := h
 exact ⟨⟨sv, qs, hq, hr.below hb, blk_below hbl hb⟩, hlow.trans (hb.mono hlow.size), blk_below hres hb⟩
end
theorem roundT_fin {w0 W Wp w7 W9 : World} {CF : Nat → Prop} {gs : List GI} {vb rb g cap n m : Nat} {nx : Int} {sv : Value} {qs : List PI} {x : GI} {x' : PI} {zs : List Value}
  (hq : qs.map PI.it = gs.take n) (hts : gs[n]? = some x) (hx : x'.it = x) (hr : RowSt (vb + 1) W sv qs) (hBv : Blk W vb 25 #[.int .i64 4, .int .i64 nx, .string ⟨#[]⟩, sv]) (hlow : Below w0.heap.size w0 W)
  (hres : Blk W rb 25 #[.int .i64 0, .int .i64 0, .string ⟨#[]⟩, .slice none 0 0]) (hw0 : w0.heap.size ≤ vb) (hrv : rb < vb) (hb : Below W.heap.size W Wp) (hv : VIn Wp (fun b => W.heap.size ≤ b ∧ b < Wp.heap.size) x'.gv x'.val)
  (hown : w7.ownsRow (vb + 1) 39 7 (.slice (some ⟨g, 0, none⟩) (qs.length + 1) cap) (qs.length + 1) (rowC qs ++ zs)) (hg : Wp.grownBy w7 sv.ownBlock) (hor : some g = sv.ownBlock ∨ some g = some Wp.heap.size)
  (h9 : Keeps (fun j => j = g ∨ j = vb) w7 W9) (ho9 : W9.ownsRow (vb + 1) 39 7 (.slice (some ⟨g, 0, none⟩) (qs.length + 1) cap) (qs.length + 1) (rowC qs ++ x'.cells))
  (hb9 : Blk W9 vb 25 #[.int .i64 4, .int .i64 nx, .string ⟨#[]⟩, .slice (some ⟨g, 0, none⟩) (qs.length + 1) cap]) (hcur : ∃ cur, Blk w7 g 39 cur) : VSt w0 gs vb rb nx (n + 1) W9 ∧ KZ (Us.RowQ CF) m W W9 := by
 have hvl := hBv.lt
 have hws := hlow.size
 have hwp := hb.size
 have hw7 := hg.size
 have hw9 := h9.size
 have hgw := hown.lt g rfl
 have hr0 : RowSt (vb + 1) Wp sv qs := hr.below hb
 have hown0 : Wp.ownsRow (vb + 1) 39 7 sv qs.length (rowC qs) := hr0.owns
 have hge : ∀ j, some j = sv.ownBlock → vb + 1 ≤ j ∧ j < W.heap.size := fun j e => hr.owns.lt j e.symm
 have hgne : ∀ j, j < Wp.heap.size → some j ≠ sv.ownBlock → j ≠ g := fun j hj hn e => by
  subst e
  rcases hor with h | h
  · exact hn h
  · injection h with h
    omega
 have hBp : Blk Wp vb 25 #[.int .i64 4, .int .i64 nx, .string ⟨#[]⟩, sv] := blk_below hBv hb
 have hB7 : Blk w7 vb 25 #[.int .i64 4, .int .i64 nx, .string ⟨#[]⟩, sv] := hBp.grown hg (fun e => by have := (hge _ e).1; omega)
 have hg7 : Keeps (fun j => some j = sv.ownBlock) Wp w7 := Keeps.of_grown hg fun g e => e.symm
 obtain ⟨cur, hcur⟩ := hcur
 have hK1 : KZ (Us.RowQ CF) m W Wp := KZ.below hb
 have hK2 : KZ (Us.RowQ CF) m Wp w7 := KZ.keeps hg7 fun j o hj ho => by
  rcases hown0.2 with ⟨e, _⟩ | ⟨g', cap', cur', e, _, hb', _⟩
  · rw [e] at hj
    simp [Value.ownBlock] at hj
  · rw [e] at hj
    simp only [Value.ownBlock, Option.some.injEq] at hj
    subst hj
    rw [hb'] at ho
    cases ho
    refine ⟨fun hq => ?_, .inl rfl⟩
    obtain ⟨⟨cs, fz, e2⟩, _⟩ := hq
    injection e2 with _ e3
    exact absurd e3 (by decide)
 have hK3 : KZ (Us.RowQ CF) m w7 W9 := KZ.keeps h9 fun j o hj ho => by
  rcases hj with rfl | rfl
  · unfold Blk at hcur
    rw [hcur] at ho
    cases ho
    refine ⟨fun hq => ?_, .inl rfl⟩
    obtain ⟨⟨cs, fz, e2⟩, _⟩ := hq
    injection e2 with _ e3
    exact absurd e3 (by decide)
  · unfold Blk at hB7
    rw [hB7] at ho
    cases ho
    refine ⟨fun hq => ?_, .inl rfl⟩
    obtain ⟨⟨cs, fz, e2⟩, _⟩ := hq
    injection e2 with _ e3
    exact absurd e3 (by decide)
 refine ⟨⟨⟨_, qs ++ [x'], by rw [List.map_append, hq, List.take_add_one, hts]; simp [hx], ⟨by rw [List.length_append, rowC_app]; exact ho9, fun q hqm => ?_⟩, hb9⟩, ?_, ?_⟩, (hK1.trans hK2).trans hK3⟩
 · rcases List.mem_append.1 hqm with hqm | hqm
   · refine (hr0.vals q hqm).keep (fun b hS => ⟨hS.1, by omega, fun e => hgne b (by omega) hS.2.2 (by simpa [Value.ownBlock] using e)⟩) fun a ha => ?_
     have h1 : a.block ≠ g := hgne a.block (by omega) ha.2.2
     have h2 := ha.1
     exact (h9.cell (by omega) (by omega)).trans (World.cell?_of_block (hg.block a.block (by omega) ha.2.2))
   · have e : q = x' := by simpa using hqm
     subst e
     have hno : ∀ b, W.heap.size ≤ b → some b ≠ sv.ownBlock := fun b hb e => by have := (hge b e).2; omega
     refine hv.keep (fun b hS => ⟨by omega, by omega, fun e => hgne b hS.2 (hno b hS.1) (by simpa [Value.ownBlock] using e)⟩) fun a ha => ?_
     have h1 : a.block ≠ g := hgne a.block ha.2 (hno _ ha.1)
     have h2 := ha.1
     exact (h9.cell (by omega) (by omega)).trans (World.cell?_of_block (hg.block a.block ha.2 (hno _ ha.1)))
 · have k1 : Below w0.heap.size w0 Wp := hlow.trans (hb.mono hws)
   have k2 : Below w0.heap.size w0 w7 := k1.trans (hg7.below k1.size (fun j e => by have := (hge j e).1; omega))
   exact k2.trans (h9.below k2.size (fun j e => by rcases e with rfl | rfl <;> omega))
 · exact ((blk_below hres hb).grown hg (fun e => by have := (hge _ e).1; omega)).keeps h9 (fun e => by rcases e with e | e <;> omega)
theorem roundT_end {w0 W Wp w7 : World} {CF : Nat → Prop} {gs : List GI} {vb rb g cap n m : Nat} {nx : Int} {sv : Value} {qs : List PI} {x : GI} {x' : PI} {zs : List Value}
  (hq : qs.map PI.it = gs.take n) (hts : gs[n]? = some x) (hx : x'.it = x) (hr : RowSt (vb + 1) W sv qs) (hBv : Blk W vb 25 #[.int .i64 4, .int .i64 nx, .string ⟨#[]⟩, sv]) (hlow : Below w0.heap.size w0 W)
  (hres : Blk W rb 25 #[.int .i64 0, .int .i64 0, .string ⟨#[]⟩, .slice none 0 0]) (hw0 : w0.heap.size ≤ vb) (hrv : rb < vb) (hb : Below W.heap.size W Wp) (hv : VIn Wp (fun b => W.heap.size ≤ b ∧ b < Wp.heap.size) x'.gv x'.val)
  (hown : w7.ownsRow (vb + 1) 39 7 (.slice (some ⟨g, 0, none⟩) (qs.length + 1) cap) (qs.length + 1) (rowC qs ++ zs)) (hz : zs.length = 7) (hg : Wp.grownBy w7 sv.ownBlock) (hor : some g = sv.ownBlock ∨ some g = some Wp.heap.size) :
  (VSt w0 gs vb rb nx (n + 1) ((fill7 w7 g (qs.length * 7) x').setCell ⟨vb, 3, none⟩ (.slice (some ⟨g, 0, none⟩) (qs.length + 1) cap)) ∧ KZ (Us.RowQ CF) m W ((fill7 w7 g (qs.length * 7) x').setCell ⟨vb, 3, none⟩ (.slice (some ⟨g, 0, none⟩) (qs.length + 1) cap)))
  ∧ (VSt w0 gs vb rb nx (n + 1) (fill7 (w7.setCell ⟨vb, 3, none⟩ (.slice (some ⟨g, 0, none⟩) (qs.length + 1) cap)) g (qs.length * 7) x') ∧ KZ (Us.RowQ CF) m W (fill7 (w7.setCell ⟨vb, 3, none⟩ (.slice (some ⟨g, 0, none⟩) (qs.length + 1) cap)) g (qs.length * 7) x')) := by
 have hvl := hBv.lt
 have hgw := (hown.lt g rfl).1
 have hn : vb ≠ g := by omega
 have hB7 : Blk w7 vb 25 #[.int .i64 4, .int .i64 nx, .string ⟨#[]⟩, sv] := (blk_below hBv hb).grown hg (fun e => by have := (hr.owns.lt _ e.symm).1; omega)
 have hcur : ∃ cur, Blk w7 g 39 cur := by
  rcases hown.2 with ⟨e, _⟩ | ⟨g', cap', cur, e, _, hb', _⟩
  · cases e
  · injection e with e _ _
    injection e with e
    injection e with e _ _
    subst e
    exact ⟨cur, hb'⟩
 have kf := fill_keeps w7 g (qs.length * 7) x'
 have kb := set_keeps w7 vb 3 (.slice (some ⟨g, 0, none⟩) (qs.length + 1) cap)
 have kf2 := fill_keeps (w7.setCell ⟨vb, 3, none⟩ (.slice (some ⟨g, 0, none⟩) (qs.length + 1) cap)) g (qs.length * 7) x'
 have kb2 := set_keeps (fill7 w7 g (qs.length * 7) x') vb 3 (.slice (some ⟨g, 0, none⟩) (qs.length + 1) cap)
 have or1 : ∀ {A B : World}, Keeps (fun j => j = g) A B → Keeps (fun j => j = g ∨ j = vb) A B := fun h => h.mono fun _ _ h => .inl h
 have or2 : ∀ {A B : World}, Keeps (fun j => j = vb) A B → Keeps (fun j => j = g ∨ j = vb) A B := fun h => h.mono fun _ _ h => .inr h
 exact ⟨roundT_fin hq hts hx hr hBv hlow hres hw0 hrv hb hv hown hg hor ((or1 kf).trans (or2 kb2)) (own_keeps (fill_row hown (rowC_len qs) hz x') kb2 (fun e => hn (by simpa [Value.ownBlock] using e))) ((hB7.keeps kf hn).set_ 3 _) hcur,
  roundT_fin hq hts hx hr hBv hlow hres hw0 hrv hb hv hown hg hor ((or2 kb).trans (or1 kf2)) (fill_row (own_keeps hown kb (fun e => hn (by simpa [Value.ownBlock] using e))) (rowC_len qs) hz x') ((hB7.set_ 3 _).keeps kf2 hn) hcur⟩
end Rl
end Go.Proofs.YtgpemnmopogppaaGreatDoor
