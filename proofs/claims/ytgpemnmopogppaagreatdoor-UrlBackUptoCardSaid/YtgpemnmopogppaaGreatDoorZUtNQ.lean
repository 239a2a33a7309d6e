/- url.Put: the tree where the walk stands, and the rest of the tree around it: plain lemmas. -/
import Derived.Test.YtgpemnmopogppaaGreatDoorZUtLQ
import Derived.Test.YtgpemnmopogppaaGreatDoorZUtK
import Derived.Test.YtgpemnmopogppaaGreatDoorZNmPQ
namespace Go.Proofs.YtgpemnmopogppaaGreatDoor
open Go Go.RowKit
namespace Ut
open Go.Proofs.YtgpemnmopogppaaGreatDoor.Nm (normG keyV norm_any)
open Go.Proofs.YtgpemnmopogppaaGreatDoor.Dp
/-! ### what the steps say, along the way -/
/-- The whole, by what is still to be done at the place. -/
def Link (o : Option (List GI × Int)) (room : Bool) (o' : Option (List GI × Int)) (C : GV → GV) : Prop :=
  if room = true then o = o'.map (fun p => kidsG (C (.mk 4 p.2 ⟨#[]⟩ p.1))) ∧ ∀ nx gs, ∃ nx' gs', C (.mk 4 nx ⟨#[]⟩ gs) = .mk 4 nx' ⟨#[]⟩ gs' else o = none
theorem Link.start (o : Option (List GI × Int)) : Link o true o id := by
  rw [Link, if_pos rfl]
  refine ⟨?_, fun nx gs => ⟨nx, gs, rfl⟩⟩
  cases o with
  | none => rfl
  | some p => simp [kidsG]
theorem Link.child {o : Option (List GI × Int)} {room : Bool} {s : ByteArray} {r : List ByteArray} {step text : ByteArray} {hd : Bool} {gs gs1 : List GI} {nx nx1 : Int} {C : GV → GV} {j : Nat} {it : GI} {t1 : ByteArray}
    (h : Link o room (putO (s :: r) step hd text gs nx) C) (hne : ¬ (step = ⟨#[]⟩ ∧ hd = false)) (hf : findK (gs.map GI.keyG) (normG true 0 step) 0 = Int.ofNat j) (hi : gs[j]? = some it) (hv : it.val = .mk 4 nx1 t1 gs1) :
    Link o room (putO r s false text gs1 nx1) (fun g => C (.mk 4 nx ⟨#[]⟩ (gs.set j (giOf (normG true 0 step) g)))) := by
  unfold Link at h ⊢
  split
  · rename_i hr
    rw [if_pos hr] at h
    obtain ⟨h1, h2⟩ := h
    refine ⟨?_, fun _ _ => h2 _ _⟩
    have hj : (0 : Int) ≤ Int.ofNat j := Int.natCast_nonneg j
    have hsub : subG gs (normG true 0 step) = (gs1, nx1) := by
      unfold subG
      rw [hf, if_pos hj]
      show ((gs[j]?).map _).getD _ = _
      rw [hi]
      show kidsG it.val = _
      rw [hv, kidsG, if_pos rfl]
    have hset : ∀ v, setG gs nx (giOf (true, 0, step) v) = some (gs.set j (giOf (normG true 0 step) v), nx) := fun v => by
      unfold setG
      show (if 0 ≤ findK (gs.map GI.keyG) (normG true 0 step) 0 then some (gs.set (findK (gs.map GI.keyG) (normG true 0 step) 0).toNat (giOf (normG true 0 step) v), nx) else _) = _
      rw [hf, if_pos hj]
      rfl
    rw [h1, putO, if_neg hne, hsub, keyT, if_neg hne]
    cases putO r s false text gs1 nx1 with
    | none => rfl
    | some p => simp [hset]
  · rename_i hr
    rw [if_neg hr] at h
    exact h
theorem Link.new {o : Option (List GI × Int)} {room : Bool} {s : ByteArray} {r : List ByteArray} {step text : ByteArray} {hd : Bool} {gs : List GI} {nx nx' : Int} {C : GV → GV} {k : Key3} {G : GV → List GI}
    (h : Link o room (putO (s :: r) step hd text gs nx) C) (hsub : (if step = ⟨#[]⟩ ∧ hd = false then ([], 0) else subG gs (normG true 0 step)) = ([], 0)) (hk : keyT step hd nx = some k) (hset : ∀ v, setG gs nx (giOf k v) = some (G v, nx')) :
    Link o room (putO r s false text [] 0) (fun g => C (.mk 4 nx' ⟨#[]⟩ (G g))) := by
  unfold Link at h ⊢
  split
  · rename_i hr
    rw [if_pos hr] at h
    obtain ⟨h1, h2⟩ := h
    refine ⟨?_, fun _ _ => h2 _ _⟩
    rw [h1, putO, hsub, hk]
    cases putO r s false text [] 0 with
    | none => rfl
    | some p => simp [hset]
  · rename_i hr
    rw [if_neg hr] at h
    exact h
theorem Link.fail {o : Option (List GI × Int)} {room : Bool} {s : ByteArray} {r : List ByteArray} {step text : ByteArray} {hd : Bool} {gs : List GI} {nx : Int} {C C' : GV → GV} {o' : Option (List GI × Int)}
    (h : Link o room (putO (s :: r) step hd text gs nx) C) (hno : ∀ k, keyT step hd nx = some k → ∀ v, setG gs nx (giOf k v) = none) : Link o false o' C' := by
  unfold Link at h ⊢
  rw [if_neg (by decide)]
  split at h
  · rw [h.1, putO]
    cases putO r s false text (if step = ⟨#[]⟩ ∧ hd = false then ([], 0) else subG gs (normG true 0 step)).1 (if step = ⟨#[]⟩ ∧ hd = false then ([], 0) else subG gs (normG true 0 step)).2 with
    | none => rfl
    | some p =>
      cases hk : keyT step hd nx with
      | none => rfl
      | some k => simp [hno k hk]
  · exact h
/-- At the last step. -/
theorem Link.last {o : Option (List GI × Int)} {room : Bool} {step text : ByteArray} {hd : Bool} {gs : List GI} {nx nx' : Int} {C : GV → GV} {k : Key3} {G : GV → List GI}
    (h : Link o room (putO [] step hd text gs nx) C) (hk : keyT step hd nx = some k) (hset : ∀ v, setG gs nx (giOf k v) = some (G v, nx')) :
    (room = false → o = none) ∧ (room = true → ∃ nx'' gs'', C (.mk 4 nx' ⟨#[]⟩ (G (leafG text))) = .mk 4 nx'' ⟨#[]⟩ gs'' ∧ o = some (gs'', nx'')) := by
  unfold Link at h
  refine ⟨fun hr => ?_, fun hr => ?_⟩
  · rw [hr, if_neg (by decide)] at h
    exact h
  · rw [if_pos hr] at h
    obtain ⟨h1, h2⟩ := h
    obtain ⟨nx'', gs'', e⟩ := h2 nx' (G (leafG text))
    refine ⟨nx'', gs'', e, ?_⟩
    rw [h1, putO, hk, Option.bind_some, hset, Option.map_some, e, kidsG, if_pos rfl]
theorem Link.last_fail {o : Option (List GI × Int)} {room : Bool} {step text : ByteArray} {hd : Bool} {gs : List GI} {nx : Int} {C : GV → GV}
    (h : Link o room (putO [] step hd text gs nx) C) (hno : ∀ k, keyT step hd nx = some k → ∀ v, setG gs nx (giOf k v) = none) : o = none := by
  unfold Link at h
  split at h
  · rw [h.1, putO]
    cases hk : keyT step hd nx with
    | none => rfl
    | some k => simp [hno k hk]
  · exact h
/-! ### where the walk stands -/
structure AtSt (n0 : Nat) (W : World) (p0 q : Nat) (C : GV → GV) (b mb : Nat) (sv : Value) (ts : List TS) (nx bk bn : Int) (bt : ByteArray) (bA : Option Addr) (bl bc : Nat) : Prop where
  ex : ∃ (R F : Nat → Prop) (G : Nat → Nat → Prop), NodeAt W F q b mb sv ts nx G ∧ Hole W R q p0 C ∧ (∀ j, F j → ¬ R j) ∧ ∀ j, F j ∨ R j → n0 ≤ j
  blk : Blk W q 106 #[.pointer (some ⟨b, 0, none⟩), .int .i64 bk, .int .i64 bn, .string bt, .slice bA bl bc]
  base : bk = 4 → (bn < 0 → nx = bn) ∧ (0 ≤ nx → bn ≤ nx)
section
variable {n0 : Nat} {W W2 W3 : World} {p0 q b mb : Nat} {C : GV → GV} {sv : Value} {ts : List TS} {nx bk bn : Int} {bt : ByteArray} {bA : Option Addr} {bl bc : Nat}
theorem AtSt.list (h : AtSt n0 W p0 q C b mb sv ts nx bk bn bt bA bl bc) : LstP W b mb false sv (ts.map TS.pk) nx := by
  obtain ⟨R, F, G, h1, _⟩ := h.ex
  exact h1.hl
theorem AtSt.len (h : AtSt n0 W p0 q C b mb sv ts nx bk bn bt bA bl bc) : ts.length ≤ 2048 := by
  obtain ⟨R, F, G, h1, _⟩ := h.ex
  exact h1.hn
theorem AtSt.under (h : AtSt n0 W p0 q C b mb sv ts nx bk bn bt bA bl bc) (hb : Below W.heap.size W W2) : AtSt n0 W2 p0 q C b mb sv ts nx bk bn bt bA bl bc := by
  obtain ⟨R, F, G, h1, h2, h3, h4⟩ := h.ex
  exact ⟨⟨R, F, G, h1.below hb, h2.keeps (Keeps.of_below (S := fun _ => False) hb) (fun _ _ => id), h3, h4⟩, blk_below h.blk hb, h.base⟩
theorem AtSt.of_tree {S : Nat → Prop} {nx : Int} {t : ByteArray} {gs : List GI} {n0 p : Nat} {W : World} (h : TreeAt W S p (.mk 4 nx t gs)) (hS : ∀ j, S j → n0 ≤ j) : ∃ b mb sv ts bk bn bt bA bl bc, t = ⟨#[]⟩ ∧ gs = ts.map TS.gi ∧ AtSt n0 W p p id b mb sv ts nx bk bn bt bA bl bc := by
  obtain ⟨e, b, mb, sv, bk, bn, bt, bA, bl, bc, ts, G, e2, h1, h2, h3⟩ := h.form
  exact ⟨b, mb, sv, ts, bk, bn, bt, bA, bl, bc, e, e2, ⟨fun _ => False, S, G, h1, Hole.start _ _, fun _ _ => id, fun j hj => hj.elim (hS j) False.elim⟩, h2, h3⟩
theorem AtSt.root (h : AtSt n0 W p0 q C b mb sv ts nx bk bn bt bA bl bc) : ∃ S, TreeAt W S p0 (C (.mk 4 nx ⟨#[]⟩ (ts.map TS.gi))) ∧ ∀ j, S j → n0 ≤ j := by
  obtain ⟨R, F, G, h1, h2, h3, h4⟩ := h.ex
  obtain ⟨S, h5, h6⟩ := h2.2 W F _ (Keeps.refl _ _) h3 (h1.tree h.blk h.base)
  exact ⟨S, h5, fun j hj => h4 j (h6 j hj).symm⟩
theorem AtSt.kid (h : AtSt n0 W p0 q C b mb sv ts nx bk bn bt bA bl bc) {i : Nat} {x : TS} (hx : ts[i]? = some x) :
    (∃ k n t A c, k ≠ 4 ∧ x.2.2 = .mk k n t [] ∧ Blk W x.2.1 106 #[.pointer none, .int .i64 k, .int .i64 n, .string t, .slice A 0 c]) ∨
    ∃ b' mb' sv' ts' nx' bk' bn' bt' bA' bl' bc', x.2.2 = .mk 4 nx' ⟨#[]⟩ (ts'.map TS.gi) ∧ AtSt n0 W p0 x.2.1 (fun g => C (.mk 4 nx ⟨#[]⟩ ((ts.map TS.gi).set i (giOf x.1 g)))) b' mb' sv' ts' nx' bk' bn' bt' bA' bl' bc' := by
  obtain ⟨R, F, G, h1, h2, h3, h4⟩ := h.ex
  have hi := (List.getElem?_eq_some_iff.1 hx).1
  have hT := h1.hc i x hx
  have hH := h1.hole h.blk h.base (own_ne h.blk h1.hl) hx
  have hC := h2.comp hH (fun j hj => h3 j hj.1)
  obtain ⟨kx, px, gx⟩ := x
  obtain ⟨k, n, t, l⟩ := gx
  by_cases hk : k = 4
  · subst hk
    obtain ⟨rfl, b', mb', sv', bk', bn', bt', bA', bl', bc', ts', G', rfl, g1, g2, g3⟩ := hT.form
    refine .inr ⟨b', mb', sv', ts', n, bk', bn', bt', bA', bl', bc', rfl, ⟨_, G i, G', g1, hC, fun j hj hR => ?_, fun j hj => ?_⟩, g2, g3⟩
    · have hF := (h1.hG i j hi hj).1
      rcases hR with hR | hR
      · exact h3 j hF hR
      · exact hR.2 hj
    · rcases hj with hj | hj | hj
      · exact h4 j (.inl (h1.hG i j hi hj).1)
      · exact h4 j (.inr hj)
      · exact h4 j (.inl hj.1)
  · cases hT with
    | leaf _ _ _ _ _ A c hk2 hb hp hlt => exact .inl ⟨k, n, t, A, c, hk, rfl, hb⟩
    | node _ _ b' mb' sv' bk' bn' bt' bA' bl' bc' ts' _ G' => exact absurd rfl hk
/-- A fresh tree put under a key. -/
theorem AtSt.put (h : AtSt n0 W p0 q C b mb sv ts nx bk bn bt bA bl bc) (hn0 : n0 ≤ W.heap.size) (hb : Below W.heap.size W W2) {Fx : Nat → Prop} {x : Nat} {gx : GV} (hT : TreeAt W2 Fx x gx) (hFx : ∀ j, Fx j → W.heap.size ≤ j)
    (hk : Keeps (ownL b mb sv) W2 W3) {sv' : Value} {ps' : List PK} {nx' : Int} {k : Key3} (hL2 : LstP W3 b mb false sv' ps' nx') (hset : setP (ts.map TS.pk) nx k x = some (ps', nx')) (ht : ∀ j, ownL b mb sv' j → turnL W2.heap.size b mb sv j) :
    ∃ i ts', ts'[i]? = some (normG k.1 k.2.1 k.2.2, x, gx) ∧ (∀ v, setG (ts.map TS.gi) nx (giOf k v) = some ((ts'.map TS.gi).set i (giOf (normG k.1 k.2.1 k.2.2) v), nx')) ∧ AtSt n0 W3 p0 q C b mb sv' ts' nx' bk bn bt bA bl bc := by
  obtain ⟨R, F, G, h1, h2, h3, h4⟩ := h.ex
  have hFlt := h1.hlt
  have hRlt := h2.1
  have hw2 := hb.size
  have hq := own_ne h.blk h1.hl
  have h1' := h1.below hb
  have h2' : Hole W2 R q p0 C := h2.keeps (Keeps.of_below (S := fun _ => False) hb) (fun _ _ => id)
  obtain ⟨i, ts', G', hN, hi, hGi, hv, hcase⟩ := h1'.set hq hk hL2 hset ht hT (fun j hj hF => by have := hFx j hj; have := hFlt j hF; omega)
  refine ⟨i, ts', hi, hv, ⟨R, _, G', hN, h2'.keeps hk (fun j hj ho => h3 j (h1.hF.2 j ho) hj), fun j hj hR => ?_, fun j hj => ?_⟩, (blk_below h.blk hb).keeps hk hq, ?_⟩
  · rcases hj with hj | hj | hj
    · exact h3 j hj hR
    · have := hFx j hj
      have := hRlt j hR
      omega
    · rcases ht j hj with h5 | h5
      · exact h3 j (h1.hF.2 j h5) hR
      · have := hRlt j hR
        omega
  · rcases hj with (hj | hj | hj) | hj
    · exact h4 j (.inl hj)
    · exact Nat.le_trans hn0 (hFx j hj)
    · rcases ht j hj with h5 | h5
      · exact h4 j (.inl (h1.hF.2 j h5))
      · omega
    · exact h4 j (.inr hj)
  · rcases hcase with ⟨_, _, e, _⟩ | ⟨_, _, e, _⟩
    · rw [e]; exact h.base
    · rw [e]; exact base_next h.base
/-- There was no room: the fresh tree lies apart. -/
theorem AtSt.fail (h : AtSt n0 W p0 q C b mb sv ts nx bk bn bt bA bl bc) (hn0 : n0 ≤ W.heap.size) (hb : Below W.heap.size W W2) {Fx : Nat → Prop} {x : Nat} {nx1 : Int} {t1 : ByteArray} {gs1 : List GI} (hT : TreeAt W2 Fx x (.mk 4 nx1 t1 gs1)) (hFx : ∀ j, Fx j → W.heap.size ≤ j) :
    ∃ b' mb' sv' ts' bk' bn' bt' bA' bl' bc', t1 = ⟨#[]⟩ ∧ gs1 = ts'.map TS.gi ∧ AtSt n0 W2 p0 x (fun _ => C (.mk 4 nx ⟨#[]⟩ (ts.map TS.gi))) b' mb' sv' ts' nx1 bk' bn' bt' bA' bl' bc' := by
  have h' := h.under hb
  obtain ⟨R, F, G, h1, h2, h3, h4⟩ := h.ex
  have hFlt := h1.hlt
  have hRlt := h2.1
  have h1' := h1.below hb
  have h2' : Hole W2 R q p0 C := h2.keeps (Keeps.of_below (S := fun _ => False) hb) (fun _ _ => id)
  have hc := h2'.const (x := x) (h1'.tree (blk_below h.blk hb) h.base) h3
  obtain ⟨e, b', mb', sv', bk', bn', bt', bA', bl', bc', ts', G', e2, g1, g2, g3⟩ := hT.form
  refine ⟨b', mb', sv', ts', bk', bn', bt', bA', bl', bc', e, e2, ⟨_, Fx, G', g1, hc, fun j hj hR => ?_, fun j hj => ?_⟩, g2, g3⟩
  · have := hFx j hj
    rcases hR with hR | hR
    · have := hRlt j hR; omega
    · have := hFlt j hR; omega
  · rcases hj with hj | hj | hj
    · exact Nat.le_trans hn0 (hFx j hj)
    · exact h4 j (.inr hj)
    · exact h4 j (.inl hj)
end
/-- An empty tree. -/
theorem tree_new {W W2 : World} {b mb x : Nat} (hL : LstP W2 b mb false (.slice none 0 0) [] 0) (hx : Blk W2 x 106 #[.pointer (some ⟨b, 0, none⟩), .int .i64 0, .int .i64 0, .string ⟨#[]⟩, .slice none 0 0]) (h1 : W.heap.size ≤ b) (h2 : W.heap.size ≤ mb) (h3 : W.heap.size ≤ x) :
    ∃ Fx, TreeAt W2 Fx x (.mk 4 0 ⟨#[]⟩ []) ∧ ∀ j, Fx j → W.heap.size ≤ j := by
  refine ⟨fun j => j = x ∨ j = b ∨ j = mb, ?_, fun j hj => by rcases hj with rfl | rfl | rfl <;> assumption⟩
  refine (TreeAt.node _ x b mb (.slice none 0 0) 0 0 ⟨#[]⟩ none 0 0 [] 0 (fun _ _ => False) hx (fun e => absurd e (by decide)) hL ⟨.inl rfl, fun j hj => ?_⟩ (fun _ _ _ h => h.elim) (fun _ _ _ _ _ h => h.elim) (fun i y h => by simp at h) (fun j hj => ?_) (Nat.zero_le _))
  · rcases hj with h | h | h
    · exact .inr (.inl h)
    · exact .inr (.inr h)
    · simp [Value.ownBlock] at h
  · rcases hj with rfl | rfl | rfl
    · exact hx.lt
    · exact hL.lt (.inl rfl)
    · exact hL.lt (.inr (.inl rfl))
theorem leaf_new {W W2 : World} {x : Nat} {text : ByteArray} (hx : Blk W2 x 106 #[.pointer none, .int .i64 3, .int .i64 0, .string text, .slice none 0 0]) (h3 : W.heap.size ≤ x) : ∃ Fx, TreeAt W2 Fx x (leafG text) ∧ ∀ j, Fx j → W.heap.size ≤ j :=
  ⟨fun j => j = x, .leaf _ x 3 0 text none 0 (by decide) hx rfl (fun j e => by rw [e]; exact hx.lt), fun j e => by rw [e]; exact h3⟩
end Ut
end Go.Proofs.YtgpemnmopogppaaGreatDoor
/- url.many: how many of so many items are left behind a value's: the walk. -/
namespace Go.Proofs.YtgpemnmopogppaaGreatDoor
open Go.RowKit
namespace Ut
open Go.Proofs.YtgpemnmopogppaaGreatDoor.Dp
section
variable {w : World} {B : Nat}
set_option maxRecDepth 100000 in
set_option maxHeartbeats 4000000 in
theorem many_any (hBw : B ≤ w.heap.size) {g : GV} {x : Value} (h : VAt w B g x) : ∀ (w' : World), Below B w w' → ∀ m : Int, 0 ≤ m → m ≤ 2048 →
    Calls Tryz.prog 68 #[x, .int .i64 m] w' fun e w'' => e = .returned (.int .i64 (leftV g m)) ∧ leftV g m ≤ m ∧ Below w'.heap.size w' w'' := by
  induction h with
  | mk k n t l A c b off C hc hn hA hi hv ih =>
    intro w' hb m hm0 hm1
    have hB' : B ≤ w'.heap.size := Nat.le_trans hBw hb.size
    have HA := Lib.hid hA
    have HI := Lib.hid hi
    have HV := Lib.hid ih
    have HW := Lib.hid hv
    have Hb := Lib.hid hb
    have HB0 := Lib.hid ((Below.refl w'.heap.size w').alloc (Nat.le_refl _) (.cells #[.int .i64 k, .int .i64 n, .string t, .slice A l.length c] 25))
    have HX0 := Lib.hid (Blk.new w' 25 #[.int .i64 k, .int .i64 n, .string t, .slice A l.length c])
    obtain ⟨M, HM⟩ : ∃ z, Hid (leftV (.mk k n t l) m = z) := ⟨_, rfl⟩
    have HM0 : Hid (M = leftL l (m - l.length)) := by
      show _ = _
      rw [← HM.out, leftV]
    rw [HM.out]
    clear hA hi hv ih hb HM
    go_enter Tryz.func68, Tryz.ntmps68
    go_wp2_with fail
    go_loopw [1, 5] (fun xn xi wx => ∃ (j : Nat) (q : Int), j ≤ l.length ∧ xi = .int .i64 j ∧ xn = .int .i64 q ∧ q ≤ m ∧ Hid (M = leftL (l.drop j) q) ∧ Hid (Below w'.heap.size w' wx) ∧ Hid (Blk wx w'.heap.size 25 #[.int .i64 k, .int .i64 n, .string t, .slice A l.length c])) (fun _ xi _ => l.length - (ixOf xi).toNat)
    case atStart => exact ⟨0, m - l.length, Nat.zero_le _, rfl, by go_num, by omega, by simpa using HM0, HB0, HX0⟩
    case round =>
      obtain ⟨j, q, hj, rfl, rfl, hq1, HL, HB, HX⟩ := hrel
      clear HB0 HM0 HX0
      have b3 : wr.cell? ⟨w'.heap.size, 3, none⟩ = some (.slice A l.length c) := HX.out.cell 3
      by_cases hlt : j < l.length
      · obtain ⟨it, hit⟩ : ∃ it, l[j]? = some it := ⟨_, List.getElem?_eq_getElem hlt⟩
        obtain ⟨rfl, hbB⟩ := HA.out (by omega)
        have hbw : Below B w wr := Hb.out.trans (HB.out.mono hB')
        have hwr := HB.out.size
        obtain ⟨c0, c1, c2, v0, v1, v2, v3, e, c3, c4, c5, c6⟩ := (HI.out j it hit).below hbw hbB
        have hform := HW.out j it hit
        rw [e] at hform
        obtain ⟨k1, n1, t1, A1, l1, e1, rfl, rfl, rfl, rfl⟩ := hform.form
        clear hform HW
        have HD := Lib.hid (HL.out.trans (leftL_drop l j it hit q))
        by_cases hq : q < 0
        · have hM : M = q := by rw [HD.out, if_pos hq]
          subst hM
          clear HI HV HL HD e
          go_wp2_with fail
          go_ret
          first | exact ⟨rfl, hq1, HB.out⟩ | exact ⟨rfl, HB.out⟩
        · have hR := fun wz (hz : Below B w wz) => HV.out j it hit wz hz q (by omega) (by omega)
          rw [e] at hR
          have HR := Lib.hid hR
          have HD2 := Lib.hid (HD.out.trans (if_neg hq))
          have Hbw := Lib.hid hbw
          have hqn : 0 ≤ q := by omega
          generalize leftV it.val q = q2 at *
          clear hR HI HV HL HD e hbw
          go_wp2_with (go_at_call 68; refine (HR.out _ Hbw.out).mono ?_; rintro e w2 ⟨rfl, hle, hb2⟩; have HB2 := Lib.hid (HB.out.trans (hb2.mono HB.out.size)); have HX2 := Lib.hid (blk_below HX.out hb2); clear hb2)
          go_roundw
          case rel => exact ⟨j + 1, q2, by omega, by go_num, rfl, by omega, HD2, HB2, HX2⟩
          case measure => simp [ixOf] <;> omega
      · obtain rfl : j = l.length := by omega
        have hM : M = q := by rw [HL.out, List.drop_length, leftL]
        subst hM
        clear HI HV HL HA
        go_wp2_with fail
        go_ret
        first | exact ⟨rfl, hq1, HB.out⟩ | exact ⟨rfl, HB.out⟩
end
end Ut
end Go.Proofs.YtgpemnmopogppaaGreatDoor
