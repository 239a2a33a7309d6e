import Derived.Test.YtgpemnmopogppaaGreatDoorZRwMQ
import Derived.OwnWalk
import Derived.Deep.RegionHeld3
import Derived.Deep.AppendLies
import Derived.Deep.DrawnRows
import Derived.Deep.DeepCutAuto
import Derived.Sort.Grow
set_option maxRecDepth 1000000
set_option maxHeartbeats 16000000
namespace Go.Proofs.YtgpemnmopogppaaGreatDoor
open Go.Proofs.Tryz
open Go.RowKit
namespace Rw
def prCells (u : Bytes × Bytes) : List Value := [.string (bytes u.1), .string (bytes u.2)]
theorem pair_info : (prog.info? 48).map (fun i => (i.zero, i.size, i.bytes)) = some (some (.agg #[.string ⟨#[]⟩, .string ⟨#[]⟩]), 2, 32) := by kernel_rfl
theorem own_blk_ne {w : World} {g : Nat} {t : TypeId} {cs : Array Value} {base : Nat} {e : TypeId} {size n : Nat} {v : Value} {xs : List Value} (h : w.ownsRow base e size v n xs) (hg : Blk w g t cs) (hne : e ≠ t) : v.ownBlock ≠ some g := by
 rcases h.2 with ⟨rfl, _⟩ | ⟨g', cap, cur, rfl, _, hh, _⟩
 · simp [Value.ownBlock]
 · intro he
   have : g' = g := by simpa [Value.ownBlock] using he
   subst this
   unfold Blk at hg
   rw [hh] at hg
   injection hg with hg
   injection hg with _ ht
   exact hne ht
abbrev KB (base g : Nat) (w w' : World) : Prop := Keeps (fun i => i = g ∨ base ≤ i) w w'
structure HS (s : ByteArray) (base : Nat) (w : World) (g k : Nat) (m p y : ByteArray) (v : Value) (b : ByteArray) (why fat ln : Int) (many : ByteArray) (hs : List (Bytes × Bytes)) : Prop where
 rd : RdAt w g s k m p y v b why fat ln many
 owns : w.ownsRow base 48 2 v hs.length (hs.flatMap prCells)
section
variable {s m p y b many : ByteArray} {base g k : Nat} {v : Value} {why fat ln : Int} {hs : List (Bytes × Bytes)} {w w' : World}
theorem HS.step {k' : Nat} {why' fat' ln' : Int} {m' p' y' b' many' : ByteArray} (h : HS s base w g k m p y v b why fat ln many hs) (hk : Keeps (· = g) w w') (hr : RdAt w' g s k' m' p' y' v b' why' fat' ln' many') : HS s base w' g k' m' p' y' v b' why' fat' ln' many' hs :=
 ⟨hr, h.owns.kept (row := some g) ⟨hk.os, hk.tape, hk.output, hk.size, fun i hi hn => hk.block i hi (fun e => hn (by rw [e]))⟩ (.inr (own_blk_ne h.owns h.rd (by decide)))⟩
theorem HS.below (h : HS s base w g k m p y v b why fat ln many hs) (hb : Below w.heap.size w w') : HS s base w' g k m p y v b why fat ln many hs :=
 ⟨h.rd.below hb h.rd.lt, h.owns.kept (row := none) ⟨hb.os, hb.tape, hb.output, hb.size, fun i hi _ => hb.block i hi⟩ (by cases v.ownBlock <;> simp)⟩
theorem HS.drewN (h : HS s base w g k m p y v b why fat ln many hs) (n : Nat) : HS s base (w.drewN n) g k m p y v b why fat ln many hs := h.below ⟨rfl, rfl, rfl, Nat.le_refl _, fun _ _ => rfl⟩
theorem HS.len {A : Option Addr} {n c : Nat} (h : HS s base w g k m p y v b why fat ln many hs) (hv : v = .slice A n c) : n = hs.length := by
 rcases h.owns.2 with ⟨e, h0⟩ | ⟨g', cap, cur, e, _⟩
 · rw [hv] at e; injection e with _ e2; omega
 · rw [hv] at e; injection e with _ e2
theorem HS.slice (h : HS s base w g k m p y v b why fat ln many hs) : ∃ A c, v = .slice A hs.length c := by
 rcases h.owns.2 with ⟨e, h0⟩ | ⟨g', cap, cur, e, _⟩
 · exact ⟨none, 0, by rw [e, h0]⟩
 · exact ⟨_, _, e⟩
theorem HS.app {w1 : World} {v' : Value} {q : Bytes × Bytes} {o : Obj} (h : HS s base w g k m p y v b why fat ln many hs) (hown : w1.ownsRow base 48 2 v' (hs.length + 1) (hs.flatMap prCells ++ prCells q)) (hgrow : (w.alloc o).grownBy w1 v.ownBlock) (_hbs : base ≤ w.heap.size) :
  HS s base (w1.setCell ⟨g, 5, none⟩ v') g k m p y v' b why fat ln many (hs ++ [q]) ∧ KB base g w (w1.setCell ⟨g, 5, none⟩ v') := by
 have n1 := Ne.symm (own_blk_ne h.owns h.rd (by decide))
 have f1 : RdAt w1 g s k m p y v b why fat ln many := (h.rd.alloc o).grown hgrow n1
 have hne := own_blk_ne hown f1 (by decide)
 have hk : KB base g w w1 := ((Keeps.refl _ w).alloc _).trans (Keeps.of_grown hgrow (fun g hg => .inr (h.owns.lt g hg).1))
 have hk2 := hk.setCell (p := ⟨g, 5, none⟩) (.inl (.inl rfl)) v'
 refine ⟨⟨f1.set_ 5 _, ?_⟩, hk2⟩
 have := hown.kept (w' := w1.setCell ⟨g, 5, none⟩ v') (row := some g) (⟨rfl, rfl, rfl, by simp [World.setCell], fun i _ hi => Below.heap_setCell _ _ _ _ (fun e => hi (by rw [e]))⟩) (.inr hne)
 simpa using this
end
theorem headsN_eq (s : Bytes) (a : Nat) (hs : List (Bytes × Bytes)) (ln : Option (Nat × Bytes)) : headsN s a hs ln = if s[a]? = some 13 then (match mustN s [13, 10] a with | none => none | some e => some (hs, ln, e)) else if 64 ≤ hs.length then none else match headN s a with | none => none | some (n, v, f, z) => headsN s z (hs ++ [(n, v)]) (lenN ln n v f) := by
 rw [headsN]
 split
 · rfl
 · split
   · rfl
   · split <;> simp_all
def LnIs (ln : Int) (many : ByteArray) : Option (Nat × Bytes) → Prop
 | none => ln = -1
 | some (f, x) => ln = (f : Int) ∧ many = bytes x
theorem trimX (l : Bytes) (hl : l.length ≤ 1000000) (w : World) :
  Calls prog 96 #[.string (bytes l), .string ⟨#[32, 9]⟩] w fun e w' => ∃ X, Hid (X = bytes (trimR l)) ∧ e = .returned (.string X) ∧ Below w.heap.size w w' :=
 (trimL_any l hl w).mono fun _ _ ⟨h1, h2⟩ => ⟨_, rfl, h1, h2⟩
section
variable (s m p y b : ByteArray) (why fat : Int) (g base : Nat)
def HeadsP (w : World) (r : Option (List (Bytes × Bytes) × Option (Nat × Bytes) × Nat)) (e : Ending) (w' : World) : Prop :=
 KB base g w w' ∧ ((∃ hs ln z ln' many' v', r = some (hs, ln, z) ∧ z ≤ s.size ∧ hs.length ≤ 64 ∧ LnIs ln' many' ln ∧ e = .returned (.bool true) ∧ HS s base w' g z m p y v' b why fat ln' many' hs) ∨
  (r = none ∧ e = .returned (.bool false) ∧ ∃ a' v' ln' many' hs' why' fat', why' ≠ 0 ∧ HS s base w' g a' m p y v' b why' fat' ln' many' hs'))
theorem heads_any (a : Nat) (many : ByteArray) (v : Value) (ln : Int) (lno : Option (Nat × Bytes)) (w : World) (h : HS s base w g a m p y v b why fat ln many []) (hln : LnIs ln many lno) (hs : s.size ≤ 1000000) (ha : a ≤ s.size) (hbw : base ≤ w.heap.size) :
  Calls prog 52 #[.pointer (some ⟨g, 0, none⟩)] w (HeadsP s m p y b why fat g base w (headsN s.data.toList a [] lno)) := by
 have HH := lH h
 have HLn := lH hln
 have HPre := lH (fun k w => preL_any s.data.toList k w)
 have HX := lH (fun k => (extract_piece s k s.size).trans (congrArg bytes (piece_end s k)))
 have HSz := lH (Lib.size_eq s)
 obtain ⟨R, HR⟩ : ∃ z, Hid (headsN s.data.toList a [] lno = z) := ⟨_, rfl⟩
 rw [HR.out]
 have HMu := lH (fun t a many v ln w h ht ha => must_any s m p y b many v why fat ln g t a w h hs ht ha)
 have HFa := lH (fun a many v ln w h => fail_any s m p y b many v why fat ln g a w h)
 have HNa := lH (fun a many v ln mo w h hm ha => whileX s m p y b many v why fat ln g _ _ kind_named a mo w h hs hm ha)
 have HBl := lH (fun a many v ln mo w h hm ha => whileX s m p y b many v why fat ln g _ _ kind_blank a mo w h hs hm ha)
 have HVa := lH (fun a many v ln mo w h hm ha => whileX s m p y b many v why fat ln g _ _ kind_valued a mo w h hs hm ha)
 have HSa := lH (fun a h w => same_any a (bytes clenL) h w)
 have hLe : Hid (s.data.toList.length ≤ s.size) := Nat.le_of_eq HSz.out.symm
 have HTo := lH (fun (w w1 w2 : World) (hk : Keeps (· = g) w1 w2) (hb : KB base g w w1) (_ : base ≤ w1.heap.size) => hb.trans (hk.mono (S' := fun i => i = g ∨ base ≤ i) (fun i _ hi => .inl hi)))
 obtain ⟨i0, hi0, hz0, hz1, hz2⟩ := info_parts pair_info
 have HI := lH (And.intro hi0 (And.intro hz0 (And.intro hz1 hz2))); clear hi0 hz0 hz1 hz2
 clear h hln
 go_enter func52, ntmps52
 go_wp2_with fail
 go_loopg [] (s.size - a) (fun gk wx => ∃ k hl many v ln lno, k ≤ s.size ∧ gk + k = s.size ∧ hl.length ≤ 64 ∧ Hid (LnIs ln many lno) ∧ Hid (HS s base wx g k m p y v b why fat ln many hl) ∧ Hid (KB base g w wx) ∧ Hid (headsN s.data.toList k hl lno = R))
 case atStart => exact ⟨a, [], many, v, ln, lno, ha, by omega, by simp, HLn.out, HH.out, Keeps.refl _ _, HR.out⟩
 case round =>
  clear HLn HH HR
  obtain ⟨k, hl, many, v, ln, lno, hk, hgk, hhl, HLn, HH, HB, HR⟩ := hrel
  have c0 : wr.cell? ⟨g, 0, none⟩ = some (.string s) := HH.out.rd.cell 0
  have c1 : wr.cell? ⟨g, 1, none⟩ = some (.int .i64 (k : Int)) := HH.out.rd.cell 1
  have hq0 : (0 : Int) ≤ (k : Int) := by omega
  have hq1 : (k : Int) ≤ (s.size : Int) := by omega
  have hxk := HX.out k
  have HPk := lH (HPre.out k)
  rw [← hxk] at HPk
  clear hxk
  have HE := lH (headsN_eq s.data.toList k hl lno)
  by_cases h13 : s.data.toList[k]? = some 13
  · rw [decide_eq_true h13] at HPk
    rw [if_pos h13] at HE
    go_wp2_with fail
    go_quiet (exact Calls.quiet_of_same (HPk.out _))
    have HH2 := lH (HH.out.drewN nq)
    have HB2 := lH (HB.out.drewN nq)
    generalize wr.drewN nq = w1 at *
    clear HH HB c0 c1 HPk
    go_wp2_with fail
    refine (HMu.out _ _ _ _ _ _ HH2.out.rd (by decide) hk).mono ?_
    rintro e w2 ⟨hk2, hor⟩
    have HB3 := lH (HTo.out _ _ _ hk2 HB2.out (Nat.le_trans hbw HB2.out.size))
    rcases hor with ⟨a2, hm2, rfl, hr2⟩ | ⟨hm2, rfl, a2, why2, hw2, hr2⟩
    · have ha2 := must_le' hk hLe.out hm2
      have hM : R = some (hl, lno, a2) := by rw [← HR.out, HE.out, show mustN s.data.toList [13, 10] k = _ from hm2]
      subst hM
      have HH3 := lH (HH2.out.step hk2 hr2)
      go_wp2_with fail
      go_ret
      exact ⟨HB3.out, .inl ⟨_, _, _, _, _, _, rfl, ha2, hhl, HLn.out, rfl, HH3.out⟩⟩
    · have hM : R = none := by rw [← HR.out, HE.out, show mustN s.data.toList [13, 10] k = _ from hm2]
      subst hM
      have HH3 := lH (HH2.out.step hk2 hr2)
      go_wp2_with fail
      go_ret
      exact ⟨HB3.out, .inr ⟨rfl, rfl, _, _, _, _, _, _, _, hw2, HH3.out⟩⟩
  · rw [decide_eq_false h13] at HPk
    rw [if_neg h13] at HE
    go_wp2_with fail
    go_quiet (exact Calls.quiet_of_same (HPk.out _))
    have HH2 := lH (HH.out.drewN nq)
    have HB2 := lH (HB.out.drewN nq)
    generalize wr.drewN nq = w1 at *
    clear HH HB c0 c1 HPk
    go_wp2_with fail
    have c0 : w1.cell? ⟨g, 0, none⟩ = some (.string s) := HH2.out.rd.cell 0
    have c1 : w1.cell? ⟨g, 1, none⟩ = some (.int .i64 (k : Int)) := HH2.out.rd.cell 1
    obtain ⟨A, c, hv⟩ := HH2.out.slice
    subst hv
    have c5 : w1.cell? ⟨g, 5, none⟩ = some (.slice A hl.length c) := HH2.out.rd.cell 5
    go_cut [35] (fun r wx => r = .bool (decide (64 ≤ hl.length) && decide (k < s.size)) ∧ ∃ q, wx = w1.drewN q)
    case first =>
     by_cases h64 : 64 ≤ hl.length
     · have h64I : (64 : Int) ≤ (hl.length : Int) := by omega
       by_cases hks : k < s.size
       · have hksI : (k : Int) < (s.size : Int) := by omega
         go_quiet (fail)
         go_wp2_with fail
         go_meet
         exact ⟨by rw [decide_eq_true h64, decide_eq_true hks]; rfl, _, rfl⟩
       · have hksI : ¬ ((k : Int) < (s.size : Int)) := by omega
         go_quiet (fail)
         go_wp2_with fail
         go_meet
         exact ⟨by rw [decide_eq_true h64, decide_eq_false hks]; rfl, _, rfl⟩
     · have h64I : ¬ ((64 : Int) ≤ (hl.length : Int)) := by omega
       go_quiet (fail)
       go_wp2_with fail
       go_meet
       exact ⟨by rw [decide_eq_false h64]; rfl, _, rfl⟩
    case rest =>
     obtain ⟨rfl, q, rfl⟩ := hcut
     have HH3 := lH (HH2.out.drewN q)
     have HB3 := lH (HB2.out.drewN q)
     generalize w1.drewN q = w2 at *
     clear HH2 HB2 c0 c1 c5
     by_cases hmany : 64 ≤ hl.length ∧ k < s.size
     · have hb9 : (decide (64 ≤ hl.length) && decide (k < s.size)) = true := by rw [decide_eq_true hmany.1, decide_eq_true hmany.2]; rfl
       rw [hb9]
       have hM : R = none := by rw [← HR.out, HE.out, if_pos hmany.1]
       subst hM
       have c1 : w2.cell? ⟨g, 1, none⟩ = some (.int .i64 (k : Int)) := HH3.out.rd.cell 1
       have c7 : w2.cell? ⟨g, 7, none⟩ = some (.int .i64 why) := HH3.out.rd.cell 7
       have c8 : w2.cell? ⟨g, 8, none⟩ = some (.int .i64 fat) := HH3.out.rd.cell 8
       have z7 := HH3.out.rd.frozen 7
       have z8 := HH3.out.rd.frozen 8
       go_wp2_with fail
       go_ret
       have hk4 : Keeps (· = g) w2 ((w2.setCell ⟨g, 7, none⟩ (.int .i64 3)).setCell ⟨g, 8, none⟩ (.int .i64 (k : Int))) := ((Keeps.refl (· = g) w2).setCell (p := ⟨g, 7, none⟩) (.inl rfl) (.int .i64 3)).setCell (p := ⟨g, 8, none⟩) (.inl rfl) (.int .i64 (k : Int))
       exact ⟨HTo.out _ _ _ hk4 HB3.out (Nat.le_trans hbw HB3.out.size), .inr ⟨rfl, rfl, _, _, _, _, _, _, _, (by decide : (3 : Int) ≠ 0), HH3.out.step hk4 ((HH3.out.rd.set_ 7 (.int .i64 3)).set_ 8 (.int .i64 (k : Int)))⟩⟩
     · have hb9 : (decide (64 ≤ hl.length) && decide (k < s.size)) = false := by
        rw [Bool.and_eq_false_iff, decide_eq_false_iff_not, decide_eq_false_iff_not]
        by_cases h64 : 64 ≤ hl.length
        · exact .inr (fun h => hmany ⟨h64, h⟩)
        · exact .inl h64
       rw [hb9]
       have hsz2 := Nat.le_trans hbw HB3.out.size
       go_wp2_with fail
       refine (HNa.out _ _ _ _ 64 _ HH3.out.rd (by decide) hk).mono ?_
       rintro e w3 ⟨X1, a1, HX1, Ha1, hge1, hle1, rfl, hk3, hr3⟩
       have HH4 := lH (HH3.out.step hk3 hr3)
       have HB4 := lH (HTo.out _ _ _ hk3 HB3.out hsz2)
       have he : X1.toList.isEmpty = decide (a1 = k) := by rw [HX1.out]; exact piece_empty (by rw [← HSz.out]; exact hle1) hge1
       have hsz3 := Nat.le_trans hbw HB4.out.size
       clear HH3 HB3 hk3 hr3 hsz2
       by_cases h0 : a1 = k
       · rw [decide_eq_true h0] at he
         have hM : R = none := by
          rw [← HR.out, HE.out]
          split
          · rfl
          · simp [headN, ← Ha1.out, h0]
         subst hM
         clear h0
         go_wp2_with fail
         refine (HFa.out _ _ _ _ _ HH4.out.rd).mono ?_
         rintro e w4 ⟨rfl, hk4, why4, hw4, hr4⟩
         go_wp2_with fail
         go_ret
         exact ⟨HTo.out _ _ _ hk4 HB4.out hsz3, .inr ⟨rfl, rfl, _, _, _, _, _, _, _, hw4, HH4.out.step hk4 hr4⟩⟩
       · rw [decide_eq_false h0] at he
         have h64 : ¬ 64 ≤ hl.length := fun h => by
          have hnk : ¬ k < s.size := fun h' => hmany ⟨h, h'⟩
          omega
         rw [if_neg h64] at HE
         have h1 := hge1
         go_wp2_with fail
         refine (HMu.out _ _ _ _ _ _ HH4.out.rd (by decide) hle1).mono ?_
         rintro e w4 ⟨hk4, hor⟩
         have HB5 := lH (HTo.out _ _ _ hk4 HB4.out hsz3)
         have hsz4 := Nat.le_trans hbw HB5.out.size
         rcases hor with ⟨a4, hm4, rfl, hr4⟩ | ⟨hm4, rfl, a4, why4, hw4, hr4⟩
         · have HH5 := lH (HH4.out.step hk4 hr4)
           have ha4 := must_le' hle1 hLe.out hm4
           clear HH4 HB4 hk4 hr4 hsz3
           have c0 : w4.cell? ⟨g, 0, none⟩ = some (.string s) := HH5.out.rd.cell 0
           go_wp2_with fail
           refine (HBl.out _ _ _ _ s.size _ HH5.out.rd (by omega) ha4).mono ?_
           rintro e w5 ⟨X5, a5, HX5, Ha5, hge5, hle5, rfl, hk5, hr5⟩
           have HH6 := lH (HH5.out.step hk5 hr5)
           have HB6 := lH (HTo.out _ _ _ hk5 HB5.out hsz4)
           have hsz5 := Nat.le_trans hbw HB6.out.size
           clear HH5 HB5 hk5 hr5 hsz4 c0 HX5
           have c0 : w5.cell? ⟨g, 0, none⟩ = some (.string s) := HH6.out.rd.cell 0
           have c1 : w5.cell? ⟨g, 1, none⟩ = some (.int .i64 (a5 : Int)) := HH6.out.rd.cell 1
           go_wp2_with fail
           refine (HVa.out _ _ _ _ s.size _ HH6.out.rd (by omega) hle5).mono ?_
           rintro e w6 ⟨X6, a6, HX6, Ha6, hge6, hle6, rfl, hk6, hr6⟩
           have HH7 := lH (HH6.out.step hk6 hr6)
           have HB7 := lH (HTo.out _ _ _ hk6 HB6.out hsz5)
           have hsz6 := Nat.le_trans hbw HB7.out.size
           clear HH6 HB6 hk6 hr6 hsz5 c0 c1
           have HTr := lH (fun w => trimX (piece s.data.toList a5 a6) (by have := hLe.out; unfold piece; rw [List.length_take, List.length_drop]; omega) w)
           rw [← HX6.out] at HTr
           go_wp2_with fail
           refine (HTr.out _).mono ?_
           rintro e w7 ⟨X7, HX7, rfl, hb7⟩
           have HH8 := lH (HH7.out.below hb7)
           have HB8 := lH (HB7.out.trans (Keeps.of_below hb7))
           have hsz7 := Nat.le_trans hbw HB8.out.size
           clear HH7 HB7 hb7 hsz6 HTr
           go_wp2_with fail
           refine (HMu.out _ _ _ _ _ _ HH8.out.rd (by decide) hle6).mono ?_
           rintro e w8 ⟨hk8, hor⟩
           have HB9 := lH (HTo.out _ _ _ hk8 HB8.out hsz7)
           have hsz8 := Nat.le_trans hbw HB9.out.size
           rcases hor with ⟨a8, hm8, rfl, hr8⟩ | ⟨hm8, rfl, a8, why8, hw8, hr8⟩
           · have HH9 := lH (HH8.out.step hk8 hr8)
             have ha8 := must_le' hle6 hLe.out hm8
             have hN : headN s.data.toList k = some (piece s.data.toList k a1, trimR (piece s.data.toList a5 a6), a5, a8) := by
              simp [headN, ← Ha1.out, h0, show mustN s.data.toList [58] a1 = _ from hm4, ← HSz.out, ← Ha5.out, ← Ha6.out, show mustN s.data.toList [13, 10] a6 = _ from hm8]
             rw [hN] at HE
             have hfar : k < a8 := (head_far hN).1
             have HR2 : Hid (headsN s.data.toList a8 (hl ++ [(piece s.data.toList k a1, trimR (piece s.data.toList a5 a6))]) (lenN lno (piece s.data.toList k a1) (trimR (piece s.data.toList a5 a6)) a5) = R) := by
              show _ = _
              rw [← HR.out, HE.out]
             clear HH8 HB8 hk8 hr8 hsz7 HR HE hN hm8 hm4 HX6
             have hX1s : X1.size ≤ 9223372036854775807 := by rw [HX1.out, bytes_size]; unfold piece; rw [List.length_take]; omega
             have HSe := lH (fun w => HSa.out X1 hX1s w)
             obtain ⟨T, HT⟩ : ∃ z, Hid (sameS X1 (bytes clenL) = z) := ⟨_, rfl⟩
             rw [HT.out] at HSe
             have hT2 : sameS (bytes (piece s.data.toList k a1)) (bytes clenL) = T := by rw [← HX1.out]; exact HT.out
             have hcl : bytes clenL = ⟨#[67, 111, 110, 116, 101, 110, 116, 45, 76, 101, 110, 103, 116, 104]⟩ := rfl
             rw [hcl] at HSe
             clear hX1s HT hcl
             cases lno with
             | none =>
              have hl1 : ln = -1 := HLn.out
              subst hl1
              have c9 : w8.cell? ⟨g, 9, none⟩ = some (.int .i64 (-1)) := HH9.out.rd.cell 9
              cases T with
              | true =>
               have hln2 : LnIs (a5 : Int) X7 (lenN none (piece s.data.toList k a1) (trimR (piece s.data.toList a5 a6)) a5) := by
                unfold lenN
                rw [if_pos ⟨rfl, hT2⟩]
                exact ⟨rfl, HX7.out⟩
               have HLn2 := lH hln2
               clear hln2 hT2
               go_wp2_with (first | (go_at_call 50; refine (HSe.out _).mono ?_; rintro e w10 ⟨rfl, hb10⟩; have HH10 := lH (HH9.out.below hb10); have HB10 := lH (HB9.out.trans (Keeps.of_below hb10)); have c9 : w10.cell? ⟨g, 9, none⟩ = some (.int .i64 (-1)) := HH10.out.rd.cell 9; have c10 : w10.cell? ⟨g, 10, none⟩ = some (.string many) := HH10.out.rd.cell 10; have z9 := HH10.out.rd.frozen 9; have z10 := HH10.out.rd.frozen 10; have c5 : w10.cell? ⟨g, 5, none⟩ = some (.slice A hl.length c) := HH10.out.rd.cell 5; have n5 := World.new_ne w10 _ c5; have hWs : ((w10.setCell ⟨g, 9, none⟩ (.int .i64 (a5 : Int))).setCell ⟨g, 10, none⟩ (.string X7)).heap.size = w10.heap.size := (by simp [World.setCell]); have HKy := lH (((Keeps.refl (· = g) w10).setCell (p := ⟨g, 9, none⟩) (.inl rfl) (.int .i64 (a5 : Int))).setCell (p := ⟨g, 10, none⟩) (.inl rfl) (.string X7)); have HHy := lH (HH10.out.step HKy.out ((HH10.out.rd.set_ 9 (.int .i64 (a5 : Int))).set_ 10 (.string X7))); have HBy := lH (HTo.out _ _ _ HKy.out HB10.out (Nat.le_trans hbw HB10.out.size)); clear hb10) | (at_builtin; refine wpList_append_lies _ rfl _ _ 41 rfl base 48 i0 (.agg #[.string ⟨#[]⟩, .string ⟨#[]⟩]) 2 32 underlying41 HI.out.1 HI.out.2.1 HI.out.2.2.1 HI.out.2.2.2 rfl (by decide) _ _ _ rfl (HHy.out.owns.alloc _) ⟨w10.heap.size, 0, none⟩ 1 1 [.string X1, .string X7] rfl rfl (by rw [← hWs]; exact World.news_of_block (cs := #[.string X1, .string X7]) (t := 48) (fr := (0, 0)) (heap_alloc_new ((w10.setCell ⟨g, 9, none⟩ (.int .i64 (a5 : Int))).setCell ⟨g, 10, none⟩ (.string X7)) _)) (by simp [Value.oneCell']) (by decide) (by unfold maxLen; omega) (by omega) (by have := HBy.out.size; simp at this ⊢; omega) _ rfl ?_; intro g9 cap9 w9 hown9 hgrow9 _ _; have f9 := (HHy.out.rd.alloc (.cells #[.string X1, .string X7] 48)).grown hgrow9 (Ne.symm (own_blk_ne HHy.out.owns HHy.out.rd (by decide))); have fz := f9.frozen 5; have fc : w9.cell? ⟨g, 5, none⟩ = some (.slice A hl.length c) := f9.cell 5; have HA9 := lH (HHy.out.app (q := (piece s.data.toList k a1, trimR (piece s.data.toList a5 a6))) (o := .cells #[.string X1, .string X7] 48) (by rw [HX1.out, HX7.out] at hown9; exact hown9) hgrow9 (Nat.le_trans hbw HBy.out.size)); clear hown9 hgrow9 f9))
               go_roundg (s.size - a8)
               case rel => exact ⟨a8, _, _, _, _, _, ha8, by omega, by simp only [List.length_append, List.length_singleton]; omega, HLn2.out, HA9.out.1, HBy.out.trans HA9.out.2, HR2.out⟩
               case measure => omega
              | false =>
               have hln2 : LnIs (-1 : Int) many (lenN none (piece s.data.toList k a1) (trimR (piece s.data.toList a5 a6)) a5) := by
                unfold lenN
                rw [if_neg (by rw [hT2]; decide)]
                exact rfl
               have HLn2 := lH hln2
               clear hln2 hT2
               go_wp2_with (first | (go_at_call 50; refine (HSe.out _).mono ?_; rintro e w10 ⟨rfl, hb10⟩; have HHy := lH (HH9.out.below hb10); have HBy := lH (HB9.out.trans (Keeps.of_below hb10)); have c5 : w10.cell? ⟨g, 5, none⟩ = some (.slice A hl.length c) := HHy.out.rd.cell 5; have n5 := World.new_ne w10 _ c5; clear hb10) | (at_builtin; refine wpList_append_lies _ rfl _ _ 41 rfl base 48 i0 (.agg #[.string ⟨#[]⟩, .string ⟨#[]⟩]) 2 32 underlying41 HI.out.1 HI.out.2.1 HI.out.2.2.1 HI.out.2.2.2 rfl (by decide) _ _ _ rfl (HHy.out.owns.alloc _) ⟨w10.heap.size, 0, none⟩ 1 1 [.string X1, .string X7] rfl rfl (World.news_of_block (cs := #[.string X1, .string X7]) (t := 48) (fr := (0, 0)) (heap_alloc_new w10 _)) (by simp [Value.oneCell']) (by decide) (by unfold maxLen; omega) (by omega) (by have := HBy.out.size; simp at this ⊢; omega) _ rfl ?_; intro g9 cap9 w9 hown9 hgrow9 _ _; have f9 := (HHy.out.rd.alloc (.cells #[.string X1, .string X7] 48)).grown hgrow9 (Ne.symm (own_blk_ne HHy.out.owns HHy.out.rd (by decide))); have fz := f9.frozen 5; have fc : w9.cell? ⟨g, 5, none⟩ = some (.slice A hl.length c) := f9.cell 5; have HA9 := lH (HHy.out.app (q := (piece s.data.toList k a1, trimR (piece s.data.toList a5 a6))) (o := .cells #[.string X1, .string X7] 48) (by rw [HX1.out, HX7.out] at hown9; exact hown9) hgrow9 (Nat.le_trans hbw HBy.out.size)); clear hown9 hgrow9 f9))
               go_roundg (s.size - a8)
               case rel => exact ⟨a8, _, _, _, _, _, ha8, by omega, by simp only [List.length_append, List.length_singleton]; omega, HLn2.out, HA9.out.1, HBy.out.trans HA9.out.2, HR2.out⟩
               case measure => omega
             | some fx =>
              obtain ⟨f0, x0⟩ := fx
              obtain ⟨hl1, hmx⟩ := HLn.out
              subst hl1 hmx
              have c9 : w8.cell? ⟨g, 9, none⟩ = some (.int .i64 (f0 : Int)) := HH9.out.rd.cell 9
              have hf0 : ¬ ((f0 : Int) < 0) := by omega
              have hf1 : decide ((f0 : Int) < 0) = false := decide_eq_false hf0
              have hln2 : LnIs (f0 : Int) (bytes x0) (lenN (some (f0, x0)) (piece s.data.toList k a1) (trimR (piece s.data.toList a5 a6)) a5) := by
               unfold lenN
               rw [if_neg (by simp)]
               exact ⟨rfl, rfl⟩
              have HLn2 := lH hln2
              clear hln2 hT2
              have c5 : w8.cell? ⟨g, 5, none⟩ = some (.slice A hl.length c) := HH9.out.rd.cell 5
              have n5 := World.new_ne w8 _ c5
              go_wp2_with (first | (at_builtin; refine wpList_append_lies _ rfl _ _ 41 rfl base 48 i0 (.agg #[.string ⟨#[]⟩, .string ⟨#[]⟩]) 2 32 underlying41 HI.out.1 HI.out.2.1 HI.out.2.2.1 HI.out.2.2.2 rfl (by decide) _ _ _ rfl (HH9.out.owns.alloc _) ⟨w8.heap.size, 0, none⟩ 1 1 [.string X1, .string X7] rfl rfl (World.news_of_block (cs := #[.string X1, .string X7]) (t := 48) (fr := (0, 0)) (heap_alloc_new w8 _)) (by simp [Value.oneCell']) (by decide) (by unfold maxLen; omega) (by omega) (by have := HB9.out.size; simp; omega) _ rfl ?_; intro g9 cap9 w9 hown9 hgrow9 _ _; have f9 := (HH9.out.rd.alloc (.cells #[.string X1, .string X7] 48)).grown hgrow9 (Ne.symm (own_blk_ne HH9.out.owns HH9.out.rd (by decide))); have fz := f9.frozen 5; have fc : w9.cell? ⟨g, 5, none⟩ = some (.slice A hl.length c) := f9.cell 5; have HA9 := lH (HH9.out.app (q := (piece s.data.toList k a1, trimR (piece s.data.toList a5 a6))) (o := .cells #[.string X1, .string X7] 48) (by rw [HX1.out, HX7.out] at hown9; exact hown9) (by rw [HX1.out, HX7.out] at hgrow9 ⊢; exact hgrow9) (Nat.le_trans hbw HB9.out.size)); clear hown9 hgrow9 f9))
              go_roundg (s.size - a8)
              case rel => exact ⟨a8, _, _, _, _, _, ha8, by omega, by simp only [List.length_append, List.length_singleton]; omega, HLn2.out, HA9.out.1, HB9.out.trans HA9.out.2, HR2.out⟩
              case measure => omega
           · have hM : R = none := by
              rw [← HR.out, HE.out]
              simp [headN, ← Ha1.out, h0, show mustN s.data.toList [58] a1 = _ from hm4, ← HSz.out, ← Ha5.out, ← Ha6.out, show mustN s.data.toList [13, 10] a6 = _ from hm8]
             subst hM
             go_wp2_with fail
             go_ret
             exact ⟨HB9.out, .inr ⟨rfl, rfl, _, _, _, _, _, _, _, hw8, HH8.out.step hk8 hr8⟩⟩
         · have hM : R = none := by
            rw [← HR.out, HE.out]
            simp [headN, ← Ha1.out, h0, show mustN s.data.toList [58] a1 = _ from hm4]
           subst hM
           go_wp2_with fail
           go_ret
           exact ⟨HB5.out, .inr ⟨rfl, rfl, _, _, _, _, _, _, _, hw4, HH4.out.step hk4 hr4⟩⟩
end
end Rw
open Go Go.RowKit
namespace Rw
theorem grow_below (w : World) (q : Nat) (os : Array Obj) : Below w.heap.size w (Sort.grow (w.drewN q) os) :=
 ⟨rfl, rfl, rfl, by first | (simp [Sort.grow]; done) | (simp [Sort.grow]; omega), fun i hi => by
  show ((w.drewN q).heap ++ os)[i]? = _
  rw [Array.getElem?_append_left (by show i < w.heap.size; omega)]
  rfl⟩
theorem itoaX (n : Nat) (hn : n ≤ 1000000) (w : World) (hp : Lib.TabIs prog w "internal/strconv.uint64pow10" .u64 Lib.pow10Tab) : Calls prog 98 #[.int .i64 (n : Int)] w fun e w' => e = .returned (.string (bytes (Lib.itoa n))) ∧ Below w.heap.size w w' := by
 refine (Tryz.strconv_Itoa (n : Int) (by omega) (by omega) w hp).mono ?_
 rintro e w' ⟨rfl, k, os, rfl⟩
 exact ⟨rfl, grow_below w k os⟩
section
variable (s m p y b : ByteArray) (why fat : Int) (g base : Nat)
theorem list_beq (x y : Bytes) : ((bytes x).toList == (bytes y).toList) = decide (x = y) := by
 rw [Lib.toList_data, Lib.toList_data, bytes_list, bytes_list, Bool.eq_iff_iff]
 simp
theorem body_any (a : Nat) (many : ByteArray) (v : Value) (ln : Int) (lno : Option (Nat × Bytes)) (hl : List (Bytes × Bytes)) (w : World) (h : HS s base w g a m p y v b why fat ln many hl) (hln : LnIs ln many lno) (hs : s.size ≤ 1000000) (ha : a ≤ s.size) (_hbw : base ≤ w.heap.size) (hp : ∀ w', KB base g w w' → Lib.TabIs prog w' "internal/strconv.uint64pow10" .u64 Lib.pow10Tab) :
  Calls prog 53 #[.pointer (some ⟨g, 0, none⟩)] w fun e w' => KB base g w w' ∧ ((lenOk lno (s.data.toList.drop a) = true ∧ e = .returned (.bool true) ∧ HS s base w' g a m p y v (bytes (s.data.toList.drop a)) why fat ln many hl) ∨
   (lenOk lno (s.data.toList.drop a) = false ∧ e = .returned (.bool false) ∧ ∃ why' fat', why' ≠ 0 ∧ HS s base w' g a m p y v (bytes (s.data.toList.drop a)) why' fat' ln many hl)) := by
 have HH := lH h
 have hx := (extract_piece s a s.size).trans (congrArg bytes (piece_end s a))
 have hq0 : (0 : Int) ≤ (a : Int) := by omega
 have hq1 : (a : Int) ≤ (s.size : Int) := by omega
 have c0 : w.cell? ⟨g, 0, none⟩ = some (.string s) := h.rd.cell 0
 have c1 : w.cell? ⟨g, 1, none⟩ = some (.int .i64 (a : Int)) := h.rd.cell 1
 have c6 : w.cell? ⟨g, 6, none⟩ = some (.string b) := h.rd.cell 6
 have z6 := h.rd.frozen 6
 clear h
 go_enter func53, ntmps53
 go_wp2_with fail
 go_region_law (fail)
 all_goals
  have HR1 := lH ((HH.out.rd.set_ 6 (.string (bytes (s.data.toList.drop a)))).drew)
  have HK1 := lH (((Keeps.refl (· = g) w).setCell (p := ⟨g, 6, none⟩) (.inl rfl) (.string (bytes (s.data.toList.drop a)))).drew)
  have HH1 := lH (HH.out.step HK1.out HR1.out)
  have HB1 := lH (HK1.out.mono (S' := fun i => i = g ∨ base ≤ i) (fun i _ hi => .inl hi))
  have HN : Hid ((s.data.toList.drop a).length ≤ 1000000) := by
   show _ ≤ _
   rw [List.length_drop, ← Lib.size_eq]; omega
  obtain ⟨X, HX⟩ : ∃ X, Hid (bytes (s.data.toList.drop a) = X) := ⟨_, rfl⟩
  have hXs : X.size = (s.data.toList.drop a).length := by rw [← HX.out, bytes_size]
  rw [HX.out] at HH1 HB1 ⊢
  clear HR1 HK1
  generalize (w.setCell ⟨g, 6, none⟩ (.string X)).drew = w1 at *
  clear c0 c1 c6 z6 hx hq0 hq1
  have c9 : w1.cell? ⟨g, 9, none⟩ = some (.int .i64 ln) := HH1.out.rd.cell 9
  cases lno with
  | none =>
   have hl1 : ln = -1 := hln
   subst hl1
   go_wp2_with fail
   go_quiet (fail)
   go_wp2_with fail
   go_ret
   exact ⟨HB1.out.drewN _, .inl ⟨rfl, rfl, by rw [HX.out]; exact HH1.out.drewN _⟩⟩
  | some fx =>
   obtain ⟨f0, x0⟩ := fx
   obtain ⟨hl1, hmy⟩ := hln
   subst hl1 hmy
   have hf0 : (0 : Int) ≤ (f0 : Int) := by omega
   have c10 : w1.cell? ⟨g, 10, none⟩ = some (.string (bytes x0)) := HH1.out.rd.cell 10
   have c6 : w1.cell? ⟨g, 6, none⟩ = some (.string X) := HH1.out.rd.cell 6
   have HIt := lH (fun w' hb => itoaX (s.data.toList.drop a).length HN.out w' (hp w' hb))
   rw [← hXs] at HIt
   have HXs := lH hXs
   clear hXs
   go_wp2_with fail
   go_region_held3 (fun w' => w'.cell? ⟨g, 10, none⟩ = some (.string (bytes x0)) ∧ w'.cell? ⟨g, 6, none⟩ = some (.string X) ∧ w'.cell? ⟨g, 9, none⟩ = some (.int .i64 (f0 : Int))) (first | exact ⟨c10, c6, c9⟩ | exact ⟨d10, d6, d9⟩)
    (first
     | (go_at_call 98; refine (HIt.out w1.drew HB1.out.drew).mono ?_; rintro e w2 ⟨rfl, hb2⟩; have HB2 := lH hb2; have d10 := (hb2.cell (p := ⟨g, 10, none⟩) HH1.out.rd.lt).trans c10; have d6 := (hb2.cell (p := ⟨g, 6, none⟩) HH1.out.rd.lt).trans c6; have d9 := (hb2.cell (p := ⟨g, 9, none⟩) HH1.out.rd.lt).trans c9; clear hb2))
   have HB3 : Hid (KB base g w w2) := HB1.out.trans (Keeps.of_below (show Below w1.heap.size w1 w2 from ⟨HB2.out.os, HB2.out.tape, HB2.out.output, HB2.out.size, HB2.out.block⟩))
   have HH2 := lH (HH1.out.below (show Below w1.heap.size w1 w2 from ⟨HB2.out.os, HB2.out.tape, HB2.out.output, HB2.out.size, HB2.out.block⟩))
   have HOk : Hid (lenOk (some (f0, x0)) (s.data.toList.drop a) = ((bytes x0).toList == (bytes (Lib.itoa (X.size : Int))).toList)) := by
    show _ = _
    rw [list_beq, HXs.out]
    rfl
   have e7 : w2.cell? ⟨g, 7, none⟩ = some (.int .i64 why) := HH2.out.rd.cell 7
   have e8 : w2.cell? ⟨g, 8, none⟩ = some (.int .i64 fat) := HH2.out.rd.cell 8
   have z7 := HH2.out.rd.frozen 7
   have z8 := HH2.out.rd.frozen 8
   clear HB2 d10 d6 c10 c6 c9
   cases hcmp : ((bytes x0).toList == (bytes (Lib.itoa (X.size : Int))).toList) with
   | true =>
    go_wp2_with fail
    go_ret
    exact ⟨HB3.out, .inl ⟨HOk.out.trans hcmp, rfl, by rw [HX.out]; exact HH2.out⟩⟩
   | false =>
    go_wp2_with fail
    go_ret
    have hk4 : Keeps (· = g) w2 ((w2.setCell ⟨g, 7, none⟩ (.int .i64 11)).setCell ⟨g, 8, none⟩ (.int .i64 (f0 : Int))) := ((Keeps.refl (· = g) w2).setCell (p := ⟨g, 7, none⟩) (.inl rfl) (.int .i64 11)).setCell (p := ⟨g, 8, none⟩) (.inl rfl) (.int .i64 (f0 : Int))
    exact ⟨HB3.out.trans (hk4.mono (S' := fun i => i = g ∨ base ≤ i) (fun i _ hi => .inl hi)), .inr ⟨HOk.out.trans hcmp, rfl, _, _, (by decide : (11 : Int) ≠ 0), by rw [HX.out]; exact HH2.out.step hk4 ((HH2.out.rd.set_ 7 (.int .i64 11)).set_ 8 (.int .i64 (f0 : Int)))⟩⟩
end
end Rw
end Go.Proofs.YtgpemnmopogppaaGreatDoor
