import Derived.Test.YtgpemnmopogppaaGreatDoorZDoKs
import Derived.Test.YtgpemnmopogppaaGreatDoorZUqB
set_option maxRecDepth 1000000
set_option maxHeartbeats 16000000
namespace Go.Proofs.YtgpemnmopogppaaGreatDoor
open Go.Proofs.Tryz
open Go Go.RowKit
namespace Uf
open Go.Proofs.YtgpemnmopogppaaGreatDoor.Nm (normG keyV rnorm_any)
open Dp
open Ut
inductive VOwn (w : World) : GV → Value → Prop where
 | mk (k n : Int) (t : ByteArray) (ps : List PI) (A : Option Addr) (c : Nat) (ho : w.ownsRow 0 39 7 (.slice A ps.length c) ps.length (rowC ps)) (hv : ∀ p ∈ ps, VOwn w p.gv p.val) : VOwn w (.mk k n t (ps.map PI.it)) (.agg #[.int .i64 k, .int .i64 n, .string t, .slice A ps.length c])
theorem VOwn.vin {w : World} {g : GV} {x : Value} (h : VOwn w g x) : VIn w (fun b => b < w.heap.size) g x := by
 induction h with
 | mk k n t ps A c ho hv ih => exact vin_row ho (fun b _ h => h) ih k n t
theorem VOwn.vat {w : World} {g : GV} {x : Value} (h : VOwn w g x) : VAt w w.heap.size g x := h.vin.at_ (fun _ hb _ => hb) fun _ hb => hb
theorem VOwn.keeps {w w' : World} {S : Nat → Prop} {g : GV} {x : Value} (h : VOwn w g x) (k : Keeps S w w') (hS : ∀ j, S j → ∃ t cs, Blk w j t cs ∧ t ≠ 39) : VOwn w' g x := by
 induction h with
 | mk kk n t ps A c ho hv ih =>
  refine .mk kk n t ps A c (row_keep ho k fun g e hs => ?_) ih
  obtain ⟨t, cs, hb, hne⟩ := hS g hs
  exact row_ne ho hb hne e.symm
theorem VOwn.under {w w' : World} {g : GV} {x : Value} (h : VOwn w g x) (hb : Below w.heap.size w w') : VOwn w' g x := h.keeps (Keeps.of_below (S := fun _ => False) hb) fun _ h => h.elim
theorem VOwn.form {w : World} {k n : Int} {t : ByteArray} {l : List GI} {x : Value} (h : VOwn w (.mk k n t l) x) : ∃ (ps : List PI) (A : Option Addr) (c : Nat), l = ps.map PI.it ∧ x = .agg #[.int .i64 k, .int .i64 n, .string t, .slice A ps.length c] ∧ w.ownsRow 0 39 7 (.slice A ps.length c) ps.length (rowC ps) ∧ ∀ p ∈ ps, VOwn w p.gv p.val := by
 generalize hg : GV.mk k n t l = g at h
 cases h with
 | mk k' n' t' ps A c ho hv =>
  injection hg with e1 e2 e3 e4
  subst e1 e2 e3 e4
  exact ⟨ps, A, c, rfl, rfl, ho, hv⟩
theorem VOwn.leaf (w : World) (k n : Int) (t : ByteArray) : VOwn w (.mk k n t []) (.agg #[.int .i64 k, .int .i64 n, .string t, .slice none 0 0]) := .mk k n t [] none 0 (World.ownsRow_nil _ _ _ _) (fun p hp => by cases hp)
theorem wf_fit {g : GV} (h : WfG g) : Fit g := by
 induction h with
 | leaf k n t hk h1 h2 h3 => exact .mk k n t [] h1 h2 h3 (fun i it h => by simp at h) (fun i it h => by simp at h)
 | node nx gs hlen hnx hkey hv ih =>
  have hin : In64 nx := (WfG.node nx gs hlen hnx hkey hv).in64
  refine .mk 4 nx ⟨#[]⟩ gs ⟨by decide, by decide⟩ hin (Nat.zero_le _) (fun i it h => ?_) ih
  have := (hkey i it h).1
  rw [keyG_eq] at this
  exact this
theorem wf_sml {g : GV} (h : WfG g) : Sml g := by
 induction h with
 | leaf k n t hk h1 h2 h3 => exact .mk k n t [] (by simp) (fun i it h => by simp at h)
 | node nx gs hlen hnx hkey hv ih => exact .mk 4 nx ⟨#[]⟩ gs (by omega) ih
theorem vok_all {w : World} {nx : Int} {t : ByteArray} {ps : List PI} (hw : WfG (.mk 4 nx t (ps.map PI.it))) (hv : ∀ p ∈ ps, VOwn w p.gv p.val) : ∀ q ∈ ps, Vok w w.heap.size q := fun q hq => by
 obtain ⟨_, _, _, hkey, hkid⟩ := hw.kids
 obtain ⟨i, hi⟩ := List.getElem?_of_mem hq
 have hg : (ps.map PI.it)[i]? = some q.it := by rw [List.getElem?_map, hi]; rfl
 have h1 := (hkey i q.it hg).1
 have h2 : WfG q.gv := hkid i q.it hg
 exact ⟨h1, (hv q hq).vat, wf_fit h2, wf_sml h2⟩
theorem z3 {w : World} {b : Nat} {t : TypeId} {a0 a1 a2 : Value} (h : Blk w b t #[a0, a1, a2]) : w.cell? ⟨b, 0, none⟩ = some a0 ∧ w.cell? ⟨b, 1, none⟩ = some a1 ∧ w.cell? ⟨b, 2, none⟩ = some a2 := ⟨h.cell 0, h.cell 1, h.cell 2⟩
theorem rget (w1 : World) {lb : Nat} {sv : Value} {ps : List PI} {nx : Int} (hL : RLst 0 w1 lb sv ps nx) (kb : Bool) (ki : Int) (ks : ByteArray) (hs : ks.size ≤ 140737488351232) (hv : ∀ q ∈ ps, Vok w1 w1.heap.size q) :
  (findK (ps.map PI.key) (normG kb ki ks) 0 < 0 → Calls prog 117 #[.pointer (some ⟨lb, 0, none⟩), .agg #[.bool kb, .int .i64 ki, .string ks]] w1 fun e w2 => e = .returned (.tuple #[.agg #[.int .i64 0, .int .i64 0, .string ⟨#[]⟩, .slice none 0 0], .bool false]) ∧ Below w1.heap.size w1 w2) ∧
  (∀ (i : Nat) (p0 : PI), findK (ps.map PI.key) (normG kb ki ks) 0 = i → ps[i]? = some p0 → Calls prog 117 #[.pointer (some ⟨lb, 0, none⟩), .agg #[.bool kb, .int .i64 ki, .string ks]] w1 fun e w2 => e = .returned (.tuple #[p0.val, .bool true]) ∧ Below w1.heap.size w1 w2) := by
 obtain ⟨A0, c0, rfl⟩ := hL.form
 obtain ⟨nb, ni, ns, hnorm⟩ : ∃ nb ni ns, normG kb ki ks = (nb, ni, ns) := ⟨_, _, _, rfl⟩
 have HN := lH (fun wz : World => show Calls prog 73 #[.agg #[.bool kb, .int .i64 ki, .string ks]] wz fun e w' => e = .returned (.agg #[.bool nb, .int .i64 ni, .string ns]) ∧ Below wz.heap.size wz w' by
  have h := rnorm_any (i := ki) (s := ks) (w := wz) kb (by omega)
  rw [hnorm] at h
  exact h)
 have HFd := lH (fun wz (hz : Below w1.heap.size w1 wz) (hr : wz.ownsRow 0 39 7 (.slice A0 ps.length c0) ps.length (rowC ps)) => find_row hz (Nat.le_refl _) hr hv nb ni ns)
 rw [hnorm]
 have hal := fun (wx : World) (o : Obj) => (Below.refl wx.heap.size wx).alloc (Nat.le_refl _) o
 have HBa := lH ((hal w1 (.cells #[.bool kb, .int .i64 ki, .string ks] 37)).alloc (by simp) (.cells #[.int .i64 0, .int .i64 0, .string ⟨#[]⟩, .slice none 0 0] 25))
 have HKa := lH (blk_below (Blk.new w1 37 #[.bool kb, .int .i64 ki, .string ks]) (hal _ (.cells #[.int .i64 0, .int .i64 0, .string ⟨#[]⟩, .slice none 0 0] 25)))
 have hvb := Blk.new (w1.alloc (.cells #[.bool kb, .int .i64 ki, .string ks] 37)) 25 #[.int .i64 0, .int .i64 0, .string ⟨#[]⟩, .slice none 0 0]
 rw [show (w1.alloc (.cells #[.bool kb, .int .i64 ki, .string ks] 37)).heap.size = w1.heap.size + 1 by simp] at hvb
 have HVa := lH hvb
 have HLa := lH (hL.below HBa.out)
 clear hvb hL hnorm hs hv hal
 have key : ∀ (F : Int), findK (ps.map PI.key) (nb, ni, ns) 0 = F → Hid (F < 0 ∨ ∃ (i : Nat) (p0 : PI), F = i ∧ ps[i]? = some p0) → ∀ (Q : Ending → World → Prop),
   (∀ w2, F < 0 → Below w1.heap.size w1 w2 → Q (.returned (.tuple #[.agg #[.int .i64 0, .int .i64 0, .string ⟨#[]⟩, .slice none 0 0], .bool false])) w2) →
   (∀ w2 (i : Nat) (p0 : PI), F = i → ps[i]? = some p0 → Below w1.heap.size w1 w2 → Q (.returned (.tuple #[p0.val, .bool true])) w2) →
   Calls prog 117 #[.pointer (some ⟨lb, 0, none⟩), .agg #[.bool kb, .int .i64 ki, .string ks]] w1 Q := by
  intro F hF hc Q hQ1 hQ2
  have HQ1 := lH hQ1
  have HQ2 := lH hQ2
  rw [hF] at HFd
  clear hF hQ1 hQ2
  go_enter func117, ntmps117
  go_upto_region 1 with fail
  generalize (w1.alloc (.cells #[.bool kb, .int .i64 ki, .string ks] 37)).alloc (.cells #[.int .i64 0, .int .i64 0, .string ⟨#[]⟩, .slice none 0 0] 25) = wa at *
  have l0 : wa.cell? ⟨lb, 0, none⟩ = some (.slice A0 ps.length c0) := HLa.out.blk.cell 0
  obtain ⟨k0, k1, k2⟩ := z3 HKa.out
  go_region_held3 (fun wz => wz.cell? ⟨lb, 0, none⟩ = some (.slice A0 ps.length c0) ∧ wz.cell? ⟨w1.heap.size, 0, none⟩ = some (.bool kb) ∧ wz.cell? ⟨w1.heap.size, 1, none⟩ = some (.int .i64 ki) ∧ wz.cell? ⟨w1.heap.size, 2, none⟩ = some (.string ks)) (first | exact ⟨l0, k0, k1, k2⟩ | exact ⟨m0, j0, j1, j2⟩ | exact ⟨n0, i0, i1, i2⟩)
   (first
    | (go_at_call 73; refine (HN.out _).mono ?_; rintro e w3 ⟨rfl, hb3⟩; have HB3 : Hid (Below wa.heap.size wa w3) := (drewU (Below.refl wa.heap.size wa) 1).trans hb3; have HL3 := lH (HLa.out.below HB3.out); have HK3 := lH (blk_below HKa.out HB3.out); have m0 : w3.cell? ⟨lb, 0, none⟩ = some (.slice A0 ps.length c0) := HL3.out.blk.cell 0; obtain ⟨j0, j1, j2⟩ := z3 HK3.out; clear hb3)
    | (go_at_call 74; refine (HFd.out _ (HBa.out.trans (HB3.out.mono HBa.out.size)) HL3.out.owns).mono ?_; rintro e w4 ⟨rfl, hb4⟩; have HB4 : Hid (Below wa.heap.size wa w4) := HB3.out.trans (hb4.mono HB3.out.size); have HL4 := lH (HLa.out.below HB4.out); have HK4 := lH (blk_below HKa.out HB4.out); have n0 : w4.cell? ⟨lb, 0, none⟩ = some (.slice A0 ps.length c0) := HL4.out.blk.cell 0; obtain ⟨i0, i1, i2⟩ := z3 HK4.out; clear hb4))
  have HB5 := lH (HBa.out.trans (HB4.out.mono HBa.out.size))
  have HV4 := lH (blk_below HVa.out HB4.out)
  have HO4 := lH HL4.out.owns
  obtain ⟨⟨z0, z1, z2, z3⟩, zf0, zf1, zf2, zf3⟩ := z8 HV4.out
  have hws := HBa.out.size
  have hw4 := HB4.out.size
  clear HN HFd HLa HKa HVa HB3 HL3 HK3 HL4 HK4 HB4 HBa l0 k0 k1 k2 m0 j0 j1 j2 i0 i1 i2
  rcases hc.out with hneg | ⟨i, p0, hFi, hp0⟩
  · have HF := lH hneg
    have hst := lH (store4 HV4.out (.int .i64 0) (.int .i64 0) (.string ⟨#[]⟩) (.slice none 0 0))
    clear hc
    go_wp2_with fail
    generalize (((w4.setCell ⟨w1.heap.size + 1, 0, none⟩ (.int .i64 0)).setCell ⟨w1.heap.size + 1, 1, none⟩ (.int .i64 0)).setCell ⟨w1.heap.size + 1, 2, none⟩ (.string ⟨#[]⟩)).setCell ⟨w1.heap.size + 1, 3, none⟩ (.slice none 0 0) = wf at *
    obtain ⟨⟨e0, e1, e2, e3⟩, -⟩ := z8 hst.out.1
    refine bodyPost_ret (v := .tuple #[.agg #[.int .i64 0, .int .i64 0, .string ⟨#[]⟩, .slice none 0 0], .bool false]) (by simp [results, results117, go_sem, e0, e1, e2, e3]) rfl ?_
    exact HQ1.out _ HF.out (HB5.out.trans (hst.out.2.below (by have := HB5.out.size; omega) (fun j e => by rw [e]; omega)))
  · have HP := lH hp0
    have hil := (List.getElem?_eq_some_iff.1 hp0).1
    obtain ⟨g, cap, hgv, _, hgl⟩ := HO4.out.form (by omega)
    obtain ⟨rfl, rfl⟩ : A0 = some ⟨g, 0, none⟩ ∧ c0 = cap := by
     injection hgv with h1 h2 h3
     exact ⟨h1, h3⟩
    have hcl : ∀ r, r < 7 → ∀ u, p0.cells[r]? = some u → w4.cell? ⟨g, i * 7 + r, none⟩ = some u := fun r hr u hu => addr_add0 (HO4.out.cells (g := g) rfl (i * 7 + r) u ((rowC_get ps i p0 hp0 r hr).trans hu))
    have s3 := hcl 3 (by decide) _ rfl
    have s4 := hcl 4 (by decide) _ rfl
    have s5 := hcl 5 (by decide) _ rfl
    have s6 := hcl 6 (by decide) _ rfl
    have hst := lH (store4 HV4.out (.int .i64 p0.k) (.int .i64 p0.n) (.string p0.t) (.slice p0.A p0.l.length p0.c))
    have hiI : (i : Int) < (ps.length : Int) := by omega
    subst hFi
    clear hc hcl hp0 hgv
    go_wp2_with fail
    generalize (((w4.setCell ⟨w1.heap.size + 1, 0, none⟩ (.int .i64 p0.k)).setCell ⟨w1.heap.size + 1, 1, none⟩ (.int .i64 p0.n)).setCell ⟨w1.heap.size + 1, 2, none⟩ (.string p0.t)).setCell ⟨w1.heap.size + 1, 3, none⟩ (.slice p0.A p0.l.length p0.c) = wf at *
    obtain ⟨⟨e0, e1, e2, e3⟩, -⟩ := z8 hst.out.1
    refine bodyPost_ret (v := .tuple #[.agg #[.int .i64 p0.k, .int .i64 p0.n, .string p0.t, .slice p0.A p0.l.length p0.c], .bool true]) (by simp [results, results117, go_sem, e0, e1, e2, e3]) rfl ?_
    exact HQ2.out _ i p0 rfl HP.out (HB5.out.trans (hst.out.2.below (by have := HB5.out.size; omega) (fun j e => by rw [e]; omega)))
 refine ⟨fun h => key _ rfl (.inl h) _ (fun w2 _ hb => ⟨rfl, hb⟩) (fun w2 i p0 hF _ _ => absurd h (by rw [hF]; omega)), fun i p0 h hp => key _ rfl (.inr ⟨i, p0, h, hp⟩) _ (fun w2 hn _ => absurd hn (by rw [h]; omega)) (fun w2 j p1 hF hp1 hb => ?_)⟩
 have e : i = j := by rw [h] at hF; omega
 subst e
 rw [hp] at hp1
 injection hp1 with hp1
 subst hp1
 exact ⟨rfl, hb⟩
structure LOwn (w : World) (lb : Nat) (sv : Value) (ps : List PI) (nx : Int) : Prop where
 lst : RLst 0 w lb sv ps nx
 wf : WfG (.mk 4 nx ⟨#[]⟩ (ps.map PI.it))
 val : ∀ q ∈ ps, VOwn w q.gv q.val
theorem LOwn.under {w w' : World} {lb : Nat} {sv : Value} {ps : List PI} {nx : Int} (h : LOwn w lb sv ps nx) (hb : Below w.heap.size w w') : LOwn w' lb sv ps nx := ⟨h.lst.below hb, h.wf, fun q hq => (h.val q hq).under hb⟩
theorem set_plain {ps : List PI} {nx : Int} {p : PI} : setG (ps.map PI.it) nx p.it = if 0 ≤ findK (ps.map PI.key) (normG p.b p.i p.s) 0 then some ((ps.map PI.it).set (findK (ps.map PI.key) (normG p.b p.i p.s) 0).toNat (giOf (normG p.b p.i p.s) p.gv), nx) else if 2048 ≤ (ps.map PI.it).length then none else some (ps.map PI.it ++ [giOf (normG p.b p.i p.s) p.gv], nextK nx (normG p.b p.i p.s)) := by
 unfold setG
 rw [keys_of]
 rfl
theorem rset_own (w1 : World) {lb : Nat} {sv : Value} {ps : List PI} {nx : Int} (hL : LOwn w1 lb sv ps nx) (p : PI) (hk : In64 p.i) (hs : p.s.size ≤ 140737488351232) (hp : VOwn w1 p.gv p.val) (hpw : WfG p.gv) :
  (setG (ps.map PI.it) nx p.it = none → Calls prog 48 #[.pointer (some ⟨lb, 0, none⟩), .agg #[.bool p.b, .int .i64 p.i, .string p.s], p.val] w1 fun e w2 => e = .returned (.int .i64 8) ∧ Below w1.heap.size w1 w2) ∧
  (∀ gs' nx', setG (ps.map PI.it) nx p.it = some (gs', nx') → Calls prog 48 #[.pointer (some ⟨lb, 0, none⟩), .agg #[.bool p.b, .int .i64 p.i, .string p.s], p.val] w1 fun e w2 => e = .returned (.int .i64 0) ∧ Keeps (fun j => j = lb) w1 w2 ∧ ∃ sv' ps', gs' = ps'.map PI.it ∧ LOwn w2 lb sv' ps' nx') := by
 have hvok := vok_all hL.wf hL.val
 have hn : ps.length ≤ 2048 := by simpa using hL.wf.kids.2.1
 have hnx := hL.wf.in64
 have hkey : KeyOK p.key := ⟨hk, hs⟩
 have hkeep : ∀ {w2 : World}, Keeps (fun j => j = lb) w1 w2 → ∀ {g : GV} {x : Value}, VOwn w1 g x → VOwn w2 g x := fun {w2} hk2 {g x} h => h.keeps hk2 fun j e => by
  subst e
  exact ⟨_, _, hL.lst.blk, by decide⟩
 have hwf : ∀ gs' nx', setG (ps.map PI.it) nx p.it = some (gs', nx') → WfG (.mk 4 nx' ⟨#[]⟩ gs') := fun gs' nx' h => hL.wf.set (k := p.key) hkey hpw h
 rw [set_plain] at hwf ⊢
 by_cases h : 0 ≤ findK (ps.map PI.key) (normG p.b p.i p.s) 0
 · obtain ⟨_, hat⟩ := findK_at (ps.map PI.key) (normG p.b p.i p.s) 0 (by omega) h
   rw [List.getElem?_map, Int.sub_zero] at hat
   obtain ⟨p0, hp0, hkp⟩ := Option.map_eq_some_iff.1 hat
   rw [if_pos h] at hwf ⊢
   refine ⟨(fun h => by cases h), fun gs' nx' he => ?_⟩
   have hwf' := hwf gs' nx' he
   injection he with he
   injection he with e1 e2
   subst e1 e2
   refine (rset_found (Nat.le_refl _) w1 (Below.refl _ _) hL.lst p hk hs hvok _ (Int.toNat_of_nonneg h).symm p0 hp0 hn).mono ?_
   rintro e w2 ⟨rfl, ⟨sv', hL2⟩, hk2⟩
   refine ⟨rfl, hk2, sv', _, by rw [keys_put hp0, hkp], ⟨hL2, by rw [keys_put hp0, hkp]; exact hwf', fun q hq => ?_⟩⟩
   rcases List.mem_or_eq_of_mem_set hq with hq | rfl
   · exact hkeep hk2 (hL.val q hq)
   · exact hkeep hk2 hp
 · rw [if_neg h] at hwf ⊢
   by_cases h2 : 2048 ≤ ps.length
   · rw [if_pos (by simpa using h2)] at hwf ⊢
     refine ⟨fun _ => rset_full (Nat.le_refl _) w1 (Below.refl _ _) hL.lst p hk hs hvok (by omega) h2 (by omega), (fun gs' nx' he => by cases he)⟩
   · rw [if_neg (by simpa using h2)] at hwf ⊢
     refine ⟨(fun h => by cases h), fun gs' nx' he => ?_⟩
     have hwf' := hwf gs' nx' he
     injection he with he
     injection he with e1 e2
     subst e1 e2
     refine (rset_new (Nat.le_refl _) w1 (Below.refl _ _) hL.lst p hk hs hvok (by omega) (by omega) hnx).mono ?_
     rintro e w2 ⟨rfl, ⟨sv', hL2⟩, hk2⟩
     have hmap : (ps ++ [PI.key_ p (normG p.b p.i p.s)]).map PI.it = ps.map PI.it ++ [giOf (normG p.b p.i p.s) p.gv] := by rw [List.map_append]; rfl
     refine ⟨rfl, hk2, sv', _, hmap.symm, ⟨hL2, by rw [hmap]; exact hwf', fun q hq => ?_⟩⟩
     rcases List.mem_append.1 hq with hq | hq
     · exact hkeep hk2 (hL.val q hq)
     · have e : q = PI.key_ p (normG p.b p.i p.s) := by simpa using hq
       subst e
       exact hkeep hk2 hp
end Uf
open Go Go.RowKit
namespace Uf
open Go.Proofs.YtgpemnmopogppaaGreatDoor.Nm (normG keyV rnorm_any)
open Dp
open Ut
theorem store3 {w : World} {r : Nat} {t : TypeId} {a0 a1 a2 : Value} (h : Blk w r t #[a0, a1, a2]) (u0 u1 u2 : Value) :
  Blk (((w.setCell ⟨r, 0, none⟩ u0).setCell ⟨r, 1, none⟩ u1).setCell ⟨r, 2, none⟩ u2) r t #[u0, u1, u2] ∧ Keeps (fun j => j = r) w (((w.setCell ⟨r, 0, none⟩ u0).setCell ⟨r, 1, none⟩ u1).setCell ⟨r, 2, none⟩ u2) :=
 ⟨((h.set_ 0 u0).set_ 1 u1).set_ 2 u2, (((Keeps.refl (fun j => j = r) w).setCell (p := ⟨r, 0, none⟩) (.inl rfl) _).setCell (p := ⟨r, 1, none⟩) (.inl rfl) _).setCell (p := ⟨r, 2, none⟩) (.inl rfl) _⟩
theorem z6 {w : World} {b : Nat} {t : TypeId} {a0 a1 a2 : Value} (h : Blk w b t #[a0, a1, a2]) : (w.cell? ⟨b, 0, none⟩ = some a0 ∧ w.cell? ⟨b, 1, none⟩ = some a1 ∧ w.cell? ⟨b, 2, none⟩ = some a2) ∧ w.frozen? ⟨b, 0, none⟩ = false ∧ w.frozen? ⟨b, 1, none⟩ = false ∧ w.frozen? ⟨b, 2, none⟩ = false := ⟨z3 h, h.frozen 0, h.frozen 1, h.frozen 2⟩
theorem LOwn.keeps {w w' : World} {S : Nat → Prop} {lb : Nat} {sv : Value} {ps : List PI} {nx : Int} (h : LOwn w lb sv ps nx) (k : Keeps S w w') (hl : ¬ S lb) (hS : ∀ j, S j → ∃ t cs, Blk w j t cs ∧ t ≠ 39) : LOwn w' lb sv ps nx := by
 refine ⟨⟨h.lst.blk.keeps k hl, row_keep h.lst.owns k fun g e hs => ?_, h.lst.hb⟩, h.wf, fun q hq => (h.val q hq).keeps k hS⟩
 obtain ⟨t, cs, hb, hne⟩ := hS g hs
 exact row_ne h.lst.owns hb hne e.symm
def AppP (w1 : World) (lb : Nat) (ps : List PI) (nx : Int) (v : GV) (e : Ending) (w2 : World) : Prop :=
 ∃ k0 k1 k2 en, e = .returned (.tuple #[.agg #[k0, k1, k2], .int .i64 en]) ∧ ((en = 8 ∧ Below w1.heap.size w1 w2 ∧ (0 ≤ nx → setG (ps.map PI.it) nx (giOf (false, nx, ⟨#[]⟩) v) = none)) ∨ (en = 0 ∧ 0 ≤ nx ∧ Keeps (fun j => j = lb) w1 w2 ∧ ∃ gs' nx' sv' ps', setG (ps.map PI.it) nx (giOf (false, nx, ⟨#[]⟩) v) = some (gs', nx') ∧ gs' = ps'.map PI.it ∧ LOwn w2 lb sv' ps' nx'))
theorem rappend (w1 : World) {lb : Nat} {sv : Value} {ps : List PI} {nx : Int} (hL : LOwn w1 lb sv ps nx) (k n : Int) (t : ByteArray) (l : List GI) (A : Option Addr) (c : Nat) (hp : VOwn w1 (.mk k n t l) (.agg #[.int .i64 k, .int .i64 n, .string t, .slice A l.length c])) (hpw : WfG (.mk k n t l)) :
  Calls prog 118 #[.pointer (some ⟨lb, 0, none⟩), .agg #[.int .i64 k, .int .i64 n, .string t, .slice A l.length c]] w1 fun e w2 => AppP w1 lb ps nx (.mk k n t l) e w2 := by
 have hal := fun (wx : World) (o : Obj) => (Below.refl wx.heap.size wx).alloc (Nat.le_refl _) o
 have HBa := lH ((hal w1 (.cells #[.int .i64 k, .int .i64 n, .string t, .slice A l.length c] 25)).alloc (by simp) (.cells #[.bool false, .int .i64 0, .string ⟨#[]⟩] 37))
 have HVa := lH (blk_below (Blk.new w1 25 #[.int .i64 k, .int .i64 n, .string t, .slice A l.length c]) (hal _ (.cells #[.bool false, .int .i64 0, .string ⟨#[]⟩] 37)))
 have hkb := Blk.new (w1.alloc (.cells #[.int .i64 k, .int .i64 n, .string t, .slice A l.length c] 25)) 37 #[.bool false, .int .i64 0, .string ⟨#[]⟩]
 rw [show (w1.alloc (.cells #[.int .i64 k, .int .i64 n, .string t, .slice A l.length c] 25)).heap.size = w1.heap.size + 1 by simp] at hkb
 have HKa := lH hkb
 have HLa := lH (hL.under HBa.out)
 have HVp := lH (hp.under HBa.out)
 have HAL := lH hal
 have hsz : ((w1.alloc (.cells #[.int .i64 k, .int .i64 n, .string t, .slice A l.length c] 25)).alloc (.cells #[.bool false, .int .i64 0, .string ⟨#[]⟩] 37)).heap.size = w1.heap.size + 2 := by simp
 have HSz := lH hsz
 have HPw := lH hpw
 have hlt := hL.lst.blk.lt
 have hnx := hL.wf.in64
 unfold AppP
 clear hkb hal hL hp hsz hpw
 go_enter func118, ntmps118
 go_upto_region 1 with fail
 generalize (w1.alloc (.cells #[.int .i64 k, .int .i64 n, .string t, .slice A l.length c] 25)).alloc (.cells #[.bool false, .int .i64 0, .string ⟨#[]⟩] 37) = wa at *
 have l1 : wa.cell? ⟨lb, 1, none⟩ = some (.int .i64 nx) := HLa.out.lst.blk.cell 1
 by_cases h0 : nx < 0
 · obtain ⟨⟨z0, z1, z2⟩, zf0, zf1, zf2⟩ := z6 HKa.out
   have hst := lH (store3 HKa.out (.bool false) (.int .i64 0) (.string ⟨#[]⟩))
   have hws := HBa.out.size
   go_wp2_with fail
   generalize ((wa.setCell ⟨w1.heap.size + 1, 0, none⟩ (.bool false)).setCell ⟨w1.heap.size + 1, 1, none⟩ (.int .i64 0)).setCell ⟨w1.heap.size + 1, 2, none⟩ (.string ⟨#[]⟩) = wf at *
   obtain ⟨⟨e0, e1, e2⟩, -⟩ := z6 hst.out.1
   refine bodyPost_ret (v := .tuple #[.agg #[.bool false, .int .i64 0, .string ⟨#[]⟩], .int .i64 8]) (by simp [results, results118, go_sem, e0, e1, e2]) rfl ?_
   exact ⟨_, _, _, _, rfl, .inl ⟨rfl, HBa.out.trans (hst.out.2.below hws (fun j e => by rw [e]; omega)), fun h => by omega⟩⟩
 · have h0' : 0 ≤ nx := by omega
   have HBb := HAL.out wa (.cells #[.bool false, .int .i64 nx, .string ⟨#[]⟩] 37)
   have hkk := Blk.new wa 37 #[.bool false, .int .i64 nx, .string ⟨#[]⟩]
   rw [HSz.out] at hkk
   have HKb := lH hkk
   have HVb := lH (blk_below HVa.out HBb)
   have HRb := lH (blk_below HKa.out HBb)
   have hLb := HLa.out.under HBb
   have hSet := rset_own _ hLb ⟨false, nx, ⟨#[]⟩, k, n, t, l, A, c⟩ hnx (Nat.zero_le _) (HVp.out.under HBb) HPw.out
   have HBc := lH (HBa.out.trans (HBb.mono HBa.out.size))
   have HSet := lH hSet
   have hszb : (wa.alloc (.cells #[.bool false, .int .i64 nx, .string ⟨#[]⟩] 37)).heap.size = w1.heap.size + 3 := by simp [HSz.out]
   have HSzb := lH hszb
   clear HBb hkk hLb hSet hszb HKa HVa HLa HVp
   go_upto_region 4 with fail
   rw [HSz.out]
   generalize wa.alloc (.cells #[.bool false, .int .i64 nx, .string ⟨#[]⟩] 37) = wb at *
   obtain ⟨k0, k1, k2⟩ := z3 HKb.out
   obtain ⟨⟨v0, v1, v2, v3⟩, -⟩ := z8 HVb.out
   cases hs : setG (ps.map PI.it) nx (giOf (false, nx, ⟨#[]⟩) (.mk k n t l)) with
   | none =>
    have HS1 := lH (HSet.out.1 hs)
    have HNo := lH hs
    clear HSet hs
    go_wp2_with (go_at_call 48; refine HS1.out.mono ?_; rintro e w2 ⟨rfl, hb2⟩; have HB2 := lH hb2; have HR2 := lH (blk_below HRb.out HB2.out); obtain ⟨⟨z0, z1, z2⟩, zf0, zf1, zf2⟩ := z6 HR2.out; clear hb2)
    have hst := lH (store3 HR2.out (.bool false) (.int .i64 0) (.string ⟨#[]⟩))
    have hw2 := HB2.out.size
    have hbs := HSzb.out
    generalize ((w2.setCell ⟨w1.heap.size + 1, 0, none⟩ (.bool false)).setCell ⟨w1.heap.size + 1, 1, none⟩ (.int .i64 0)).setCell ⟨w1.heap.size + 1, 2, none⟩ (.string ⟨#[]⟩) = wf at *
    obtain ⟨⟨e0, e1, e2⟩, -⟩ := z6 hst.out.1
    refine bodyPost_ret (v := .tuple #[.agg #[.bool false, .int .i64 0, .string ⟨#[]⟩], .int .i64 8]) (by simp [results, results118, go_sem, e0, e1, e2]) rfl ?_
    exact ⟨_, _, _, _, rfl, .inl ⟨rfl, (HBc.out.trans (HB2.out.mono HBc.out.size)).trans (hst.out.2.below (by omega) (fun j e => by rw [e]; omega)), fun _ => HNo.out⟩⟩
   | some r =>
    obtain ⟨gs', nx'⟩ := r
    have HS1 := lH (HSet.out.2 gs' nx' hs)
    have HYes := lH hs
    have hkn : w1.heap.size + 2 ≠ lb := by omega
    have hrn : w1.heap.size + 1 ≠ lb := by omega
    clear HSet hs
    go_wp2_with (go_at_call 48; refine HS1.out.mono ?_; rintro e w2 ⟨rfl, hk2, sv', ps', hgs, hL2⟩; have HK2 := lH hk2; have HGs := lH hgs; have HL2 := lH hL2; have HR2 := lH (HRb.out.keeps HK2.out hrn); have HKc := lH (HKb.out.keeps HK2.out hkn); obtain ⟨⟨z0, z1, z2⟩, zf0, zf1, zf2⟩ := z6 HR2.out; obtain ⟨q0, q1, q2⟩ := z3 HKc.out; clear hk2 hgs hL2)
    have hst := lH (store3 HR2.out (.bool false) (.int .i64 nx) (.string ⟨#[]⟩))
    have hw2 := HK2.out.size
    have hbs := HSzb.out
    generalize ((w2.setCell ⟨w1.heap.size + 1, 0, none⟩ (.bool false)).setCell ⟨w1.heap.size + 1, 1, none⟩ (.int .i64 nx)).setCell ⟨w1.heap.size + 1, 2, none⟩ (.string ⟨#[]⟩) = wf at *
    obtain ⟨⟨e0, e1, e2⟩, -⟩ := z6 hst.out.1
    refine bodyPost_ret (v := .tuple #[.agg #[.bool false, .int .i64 nx, .string ⟨#[]⟩], .int .i64 0]) (by simp [results, results118, go_sem, e0, e1, e2]) rfl ?_
    refine ⟨_, _, _, _, rfl, .inr ⟨rfl, h0', keeps_new ((Keeps.of_below HBc.out).trans (HK2.out)) hst.out.2 (fun j e => .inr (by rw [e]; omega)), gs', nx', sv', ps', HYes.out, HGs.out, HL2.out.keeps hst.out.2 (fun e => hrn e.symm) fun j e => ?_⟩⟩
    subst e
    exact ⟨_, _, HR2.out, by decide⟩
end Uf
end Go.Proofs.YtgpemnmopogppaaGreatDoor
