import Derived.Test.YtgpemnmopogppaaGreatDoorZUfCQ
set_option maxRecDepth 1000000
set_option maxHeartbeats 16000000
namespace Go.Proofs.YtgpemnmopogppaaGreatDoor
open Held
open Go.Proofs.Tryz
open Go Go.RowKit
namespace Uf
open Go.Proofs.YtgpemnmopogppaaGreatDoor.Nm (normG keyV rnorm_any)
open Dp
open Ut
structure RwOwn (w : World) (sv : Value) (ps : List PI) (nx : Int) : Prop where
 owns : w.ownsRow 0 39 7 sv ps.length (rowC ps)
 wf : WfG (.mk 4 nx ⟨#[]⟩ (ps.map PI.it))
 val : ∀ q ∈ ps, VOwn w q.gv q.val
theorem RwOwn.under {w w' : World} {sv : Value} {ps : List PI} {nx : Int} (h : RwOwn w sv ps nx) (hb : Below w.heap.size w w') : RwOwn w' sv ps nx := ⟨own_below h.owns hb, h.wf, fun q hq => (h.val q hq).under hb⟩
theorem RwOwn.form {w : World} {sv : Value} {ps : List PI} {nx : Int} (h : RwOwn w sv ps nx) : ∃ A c, sv = .slice A ps.length c := by
 rcases h.owns.2 with ⟨e, h0⟩ | ⟨g, cap, cur, e, _⟩
 · exact ⟨none, 0, by rw [e, h0]⟩
 · exact ⟨_, _, e⟩
theorem RwOwn.box {w : World} {sv : Value} {ps : List PI} {nx : Int} {lb : Nat} (h : RwOwn w sv ps nx) (hb : Blk w lb 84 #[sv, .int .i64 nx]) : LOwn w lb sv ps nx := ⟨⟨hb, h.owns, Nat.zero_le _⟩, h.wf, h.val⟩
theorem LOwn.row {w : World} {lb : Nat} {sv : Value} {ps : List PI} {nx : Int} (h : LOwn w lb sv ps nx) : RwOwn w sv ps nx := ⟨h.lst.owns, h.wf, h.val⟩
theorem RwOwn.nil (w : World) : RwOwn w (.slice none 0 0) [] 0 := ⟨World.ownsRow_nil _ _ _ _, .empty, fun q hq => by cases hq⟩
theorem VOwn.row {w : World} {nx : Int} {t : ByteArray} {l : List GI} {A : Option Addr} {m c : Nat} (h : VOwn w (.mk 4 nx t l) (.agg #[.int .i64 4, .int .i64 nx, .string t, .slice A m c])) (hw : WfG (.mk 4 nx t l)) : ∃ ps, l = ps.map PI.it ∧ m = ps.length ∧ RwOwn w (.slice A m c) ps nx := by
 obtain ⟨ps, A', c', rfl, hx, ho, hv⟩ := h.form
 injection hx with hx
 have h3 := congrArg (fun a => a[3]?) hx
 simp at h3
 obtain ⟨rfl, rfl, rfl⟩ := h3
 obtain ⟨rfl, _⟩ := hw.kids
 exact ⟨ps, rfl, rfl, ho, hw, hv⟩
theorem RwOwn.value {w : World} {A : Option Addr} {m c : Nat} {ps : List PI} {nx : Int} (h : RwOwn w (.slice A m c) ps nx) (hm : m = ps.length) : VOwn w (.mk 4 nx ⟨#[]⟩ (ps.map PI.it)) (.agg #[.int .i64 4, .int .i64 nx, .string ⟨#[]⟩, .slice A (ps.map PI.it).length c]) := by
 subst hm
 rw [List.length_map]
 exact .mk 4 nx ⟨#[]⟩ ps A c h.owns h.val
structure PSt (w1 : World) (W : World) (sv : Value) (ps : List PI) (nx : Int) (kb : Bool) (ki : Int) (ks : ByteArray) (vk vn : Int) (vt : ByteArray) (vl : List GI) (vA : Option Addr) (vc : Nat) : Prop where
 lst : LOwn W w1.heap.size sv ps nx
 key : Blk W (w1.heap.size + 1) 37 #[.bool kb, .int .i64 ki, .string ks]
 res : Blk W (w1.heap.size + 2) 84 #[.slice none 0 0, .int .i64 0]
 box : Blk W (w1.heap.size + 3) 25 #[.int .i64 vk, .int .i64 vn, .string vt, .slice vA vl.length vc]
 own : VOwn W (.mk vk vn vt vl) (.agg #[.int .i64 vk, .int .i64 vn, .string vt, .slice vA vl.length vc])
 wf : WfG (.mk vk vn vt vl)
 low : Below w1.heap.size w1 W
theorem PSt.under {w1 W W' : World} {sv : Value} {ps : List PI} {nx : Int} {kb : Bool} {ki : Int} {ks : ByteArray} {vk vn : Int} {vt : ByteArray} {vl : List GI} {vA : Option Addr} {vc : Nat} (h : PSt w1 W sv ps nx kb ki ks vk vn vt vl vA vc) (hb : Below W.heap.size W W') : PSt w1 W' sv ps nx kb ki ks vk vn vt vl vA vc :=
 ⟨h.lst.under hb, blk_below h.key hb, blk_below h.res hb, blk_below h.box hb, h.own.under hb, h.wf, h.low.trans (hb.mono h.low.size)⟩
def RPutP (w1 : World) (r : (List GI × Int) × Bool) (e : Ending) (w2 : World) : Prop := ∃ A ps c nx ok, e = .returned (.tuple #[.agg #[.slice A ps.length c, .int .i64 nx], .bool ok]) ∧ r = ((ps.map PI.it, nx), ok) ∧ RwOwn w2 (.slice A ps.length c) ps nx ∧ Below w1.heap.size w1 w2
theorem pst_new (w1 : World) {A : Option Addr} {c : Nat} {ps : List PI} {nx : Int} (hR : RwOwn w1 (.slice A ps.length c) ps nx) (kb : Bool) (ki : Int) (ks text : ByteArray) (ht : text.size ≤ 140737488351232) :
  PSt w1 ((((w1.alloc (.cells #[.slice A ps.length c, .int .i64 nx] 84)).alloc (.cells #[.bool kb, .int .i64 ki, .string ks] 37)).alloc (.cells #[.slice none 0 0, .int .i64 0] 84)).alloc (.cells #[.int .i64 3, .int .i64 0, .string text, .slice none 0 0] 25)) (.slice A ps.length c) ps nx kb ki ks 3 0 text [] none 0 := by
 have hal := fun (wx : World) (o : Obj) => (Below.refl wx.heap.size wx).alloc (Nat.le_refl _) o
 have b1 := Blk.new w1 84 #[.slice A ps.length c, .int .i64 nx]
 have r1 := hR.under (hal w1 (.cells #[.slice A ps.length c, .int .i64 nx] 84))
 have c1 := hal w1 (.cells #[.slice A ps.length c, .int .i64 nx] 84)
 have z1 : (w1.alloc (.cells #[.slice A ps.length c, .int .i64 nx] 84)).heap.size = w1.heap.size + 1 := by simp
 generalize w1.alloc (.cells #[.slice A ps.length c, .int .i64 nx] 84) = W1 at *
 have b2 := Blk.new W1 37 #[.bool kb, .int .i64 ki, .string ks]
 have c2 := hal W1 (.cells #[.bool kb, .int .i64 ki, .string ks] 37)
 have z2 : (W1.alloc (.cells #[.bool kb, .int .i64 ki, .string ks] 37)).heap.size = w1.heap.size + 2 := by simp [z1]
 generalize W1.alloc (.cells #[.bool kb, .int .i64 ki, .string ks] 37) = W2 at *
 have b3 := Blk.new W2 84 #[.slice none 0 0, .int .i64 0]
 have c3 := hal W2 (.cells #[.slice none 0 0, .int .i64 0] 84)
 have z3 : (W2.alloc (.cells #[.slice none 0 0, .int .i64 0] 84)).heap.size = w1.heap.size + 3 := by simp [z2]
 generalize W2.alloc (.cells #[.slice none 0 0, .int .i64 0] 84) = W3 at *
 have b4 := Blk.new W3 25 #[.int .i64 3, .int .i64 0, .string text, .slice none 0 0]
 have c4 := hal W3 (.cells #[.int .i64 3, .int .i64 0, .string text, .slice none 0 0] 25)
 rw [z1] at b2
 rw [z2] at b3
 rw [z3] at b4
 exact ⟨(((r1.box b1).under c2).under c3).under c4, blk_below (blk_below b2 c3) c4, blk_below b3 c4, b4, .leaf _ _ _ _, leaf_wf ht, ((c1.trans (c2.mono (by omega))).trans (c3.mono (by omega))).trans (c4.mono (by omega))⟩
theorem z2c {w : World} {b : Nat} {t : TypeId} {a0 a1 : Value} (h : Blk w b t #[a0, a1]) : (w.cell? ⟨b, 0, none⟩ = some a0 ∧ w.cell? ⟨b, 1, none⟩ = some a1) ∧ w.frozen? ⟨b, 0, none⟩ = false ∧ w.frozen? ⟨b, 1, none⟩ = false := ⟨⟨h.cell 0, h.cell 1⟩, h.frozen 0, h.frozen 1⟩
theorem store2 {w : World} {r : Nat} {t : TypeId} {a0 a1 : Value} (h : Blk w r t #[a0, a1]) (u0 u1 : Value) :
  Blk ((w.setCell ⟨r, 0, none⟩ u0).setCell ⟨r, 1, none⟩ u1) r t #[u0, u1] ∧ Keeps (fun j => j = r) w ((w.setCell ⟨r, 0, none⟩ u0).setCell ⟨r, 1, none⟩ u1) :=
 ⟨(h.set_ 0 u0).set_ 1 u1, ((Keeps.refl (fun j => j = r) w).setCell (p := ⟨r, 0, none⟩) (.inl rfl) _).setCell (p := ⟨r, 1, none⟩) (.inl rfl) _⟩
structure PEnd (w1 W : World) (sv : Value) (ps : List PI) (nx : Int) : Prop where
 lst : LOwn W w1.heap.size sv ps nx
 res : Blk W (w1.heap.size + 2) 84 #[.slice none 0 0, .int .i64 0]
 low : Below w1.heap.size w1 W
theorem PSt.end_ {w1 W W2 : World} {sv : Value} {ps : List PI} {nx : Int} {kb : Bool} {ki : Int} {ks : ByteArray} {vk vn : Int} {vt : ByteArray} {vl : List GI} {vA : Option Addr} {vc : Nat} (h : PSt w1 W sv ps nx kb ki ks vk vn vt vl vA vc) (hb : Below W.heap.size W W2) : PEnd w1 W2 sv ps nx :=
 ⟨h.lst.under hb, blk_below h.res hb, h.low.trans (hb.mono h.low.size)⟩
theorem PSt.turn {w1 W W2 : World} {sv sv' : Value} {ps ps' : List PI} {nx nx' : Int} {kb : Bool} {ki : Int} {ks : ByteArray} {vk vn : Int} {vt : ByteArray} {vl : List GI} {vA : Option Addr} {vc : Nat} (h : PSt w1 W sv ps nx kb ki ks vk vn vt vl vA vc) (hk : Keeps (fun j => j = w1.heap.size) W W2) (hL : LOwn W2 w1.heap.size sv' ps' nx') : PEnd w1 W2 sv' ps' nx' :=
 ⟨hL, h.res.keeps hk (by omega), h.low.trans (hk.below h.low.size (fun j e => by omega))⟩
theorem PEnd.fin {w1 W wf : World} {A : Option Addr} {c : Nat} {ps : List PI} {nx : Int} (h : PEnd w1 W (.slice A ps.length c) ps nx) (hf : wf = (W.setCell ⟨w1.heap.size + 2, 0, none⟩ (.slice A ps.length c)).setCell ⟨w1.heap.size + 2, 1, none⟩ (.int .i64 nx)) :
  (wf.cell? ⟨w1.heap.size + 2, 0, none⟩ = some (.slice A ps.length c) ∧ wf.cell? ⟨w1.heap.size + 2, 1, none⟩ = some (.int .i64 nx)) ∧ RwOwn wf (.slice A ps.length c) ps nx ∧ Below w1.heap.size w1 wf := by
 obtain ⟨h1, h2⟩ := store2 h.res (.slice A ps.length c) (.int .i64 nx)
 rw [← hf] at h1 h2
 refine ⟨(z2c h1).1, (h.lst.keeps h2 (by omega) fun j e => ?_).row, h.low.trans (h2.below h.low.size (fun j e => by omega))⟩
 subst e
 exact ⟨_, _, h.res, by decide⟩
theorem setR_app {gs : List GI} {nx : Int} {k : Key3} {v : GV} : setR gs nx k true v = if nx < 0 then ((gs, nx), false) else match setG gs nx (giOf (false, nx, ⟨#[]⟩) v) with
  | some p => (p, true)
  | none => ((gs, nx), false) := rfl
theorem setR_set {gs : List GI} {nx : Int} {k : Key3} {v : GV} : setR gs nx k false v = match setG gs nx (giOf k v) with
  | some p => (p, true)
  | none => ((gs, nx), false) := rfl
theorem PSt.value {w1 W W2 wf : World} {sv : Value} {ps : List PI} {nx : Int} {kb : Bool} {ki : Int} {ks : ByteArray} {vk vn : Int} {vt : ByteArray} {vl : List GI} {vA A2 : Option Addr} {vc c2 : Nat} {ps2 : List PI} {nx2 : Int} (h : PSt w1 W sv ps nx kb ki ks vk vn vt vl vA vc) (hb : Below W.heap.size W W2) (hv : RwOwn W2 (.slice A2 ps2.length c2) ps2 nx2)
  (hf : wf = (((W2.setCell ⟨w1.heap.size + 3, 0, none⟩ (.int .i64 4)).setCell ⟨w1.heap.size + 3, 1, none⟩ (.int .i64 nx2)).setCell ⟨w1.heap.size + 3, 2, none⟩ (.string ⟨#[]⟩)).setCell ⟨w1.heap.size + 3, 3, none⟩ (.slice A2 ps2.length c2)) : PSt w1 wf sv ps nx kb ki ks 4 nx2 ⟨#[]⟩ (ps2.map PI.it) A2 c2 := by
 have h' := h.under hb
 obtain ⟨h1, h2⟩ := store4 h'.box (.int .i64 4) (.int .i64 nx2) (.string ⟨#[]⟩) (.slice A2 ps2.length c2)
 rw [← hf] at h1 h2
 have hS : ∀ j, j = w1.heap.size + 3 → ∃ t cs, Blk W2 j t cs ∧ t ≠ 39 := fun j e => by
  subst e
  exact ⟨_, _, h'.box, by decide⟩
 exact ⟨h'.lst.keeps h2 (by omega) hS, h'.key.keeps h2 (by omega), h'.res.keeps h2 (by omega), by rw [List.length_map]; exact h1, (hv.value rfl).keeps h2 hS, hv.wf, h'.low.trans (h2.below h'.low.size (fun j e => by omega))⟩
theorem rget_own (w1 : World) {lb : Nat} {sv : Value} {ps : List PI} {nx : Int} (hL : LOwn w1 lb sv ps nx) (kb : Bool) (ki : Int) (ks : ByteArray) (hs : ks.size ≤ 140737488351232) :
  Calls prog 117 #[.pointer (some ⟨lb, 0, none⟩), .agg #[.bool kb, .int .i64 ki, .string ks]] w1 fun e w2 => ∃ gk gn gt gl gA gc there, e = .returned (.tuple #[.agg #[.int .i64 gk, .int .i64 gn, .string gt, .slice gA (gl : List GI).length gc], .bool there]) ∧ VOwn w2 (.mk gk gn gt gl) (.agg #[.int .i64 gk, .int .i64 gn, .string gt, .slice gA gl.length gc]) ∧ WfG (.mk gk gn gt gl) ∧ subG (ps.map PI.it) (normG kb ki ks) = (if there = true ∧ gk = 4 then (gl, gn) else ([], 0)) ∧ Below w1.heap.size w1 w2 := by
 have h := rget w1 hL.lst kb ki ks hs (vok_all hL.wf hL.val)
 by_cases hf : findK (ps.map PI.key) (normG kb ki ks) 0 < 0
 · refine (h.1 hf).mono ?_
   rintro e w2 ⟨rfl, hb⟩
   refine ⟨0, 0, ⟨#[]⟩, [], none, 0, false, rfl, .leaf _ _ _ _, .leaf 0 0 _ (by decide) ⟨by decide, by decide⟩ ⟨by decide, by decide⟩ (by decide), ?_, hb⟩
   unfold subG
   rw [keys_of, if_neg (by omega)]
   rfl
 · obtain ⟨_, hat⟩ := findK_at (ps.map PI.key) (normG kb ki ks) 0 (by omega) (by omega)
   rw [List.getElem?_map, Int.sub_zero] at hat
   obtain ⟨p0, hp0, hkp⟩ := Option.map_eq_some_iff.1 hat
   refine (h.2 _ p0 (Int.toNat_of_nonneg (by omega)).symm hp0).mono ?_
   rintro e w2 ⟨rfl, hb⟩
   have hm := List.mem_of_getElem? hp0
   have hv : VOwn w2 p0.gv p0.val := (hL.val p0 hm).under hb
   have hw : WfG p0.gv := by
    obtain ⟨_, _, _, _, hkid⟩ := hL.wf.kids
    exact hkid (findK (ps.map PI.key) (normG kb ki ks) 0).toNat p0.it (by rw [List.getElem?_map, hp0]; rfl)
   refine ⟨p0.k, p0.n, p0.t, p0.l, p0.A, p0.c, true, rfl, hv, hw, ?_, hb⟩
   unfold subG
   rw [keys_of, if_pos (by omega), List.getElem?_map, hp0]
   show kidsG p0.gv = _
   show kidsG (.mk p0.k p0.n p0.t p0.l) = _
   unfold kidsG
   simp
structure InSt (wa : World) (n2 : Nat) (W : World) (gk gn : Int) (gt : ByteArray) (gl : List GI) (gA : Option Addr) (gc : Nat) : Prop where
 old : Blk W n2 25 #[.int .i64 gk, .int .i64 gn, .string gt, .slice gA gl.length gc]
 box : Blk W (n2 + 1) 84 #[.slice none 0 0, .int .i64 0]
 own : VOwn W (.mk gk gn gt gl) (.agg #[.int .i64 gk, .int .i64 gn, .string gt, .slice gA gl.length gc])
 low : Below wa.heap.size wa W
 size : W.heap.size = n2 + 2
theorem in_new {wa w2 : World} {gk gn : Int} {gt : ByteArray} {gl : List GI} {gA : Option Addr} {gc : Nat} (hv : VOwn w2 (.mk gk gn gt gl) (.agg #[.int .i64 gk, .int .i64 gn, .string gt, .slice gA gl.length gc])) (hb : Below wa.heap.size wa w2) :
  InSt wa w2.heap.size ((w2.alloc (.cells #[.int .i64 gk, .int .i64 gn, .string gt, .slice gA gl.length gc] 25)).alloc (.cells #[.slice none 0 0, .int .i64 0] 84)) gk gn gt gl gA gc := by
 have hal := fun (wx : World) (o : Obj) => (Below.refl wx.heap.size wx).alloc (Nat.le_refl _) o
 have b1 := Blk.new w2 25 #[.int .i64 gk, .int .i64 gn, .string gt, .slice gA gl.length gc]
 have c1 := hal w2 (.cells #[.int .i64 gk, .int .i64 gn, .string gt, .slice gA gl.length gc] 25)
 have z1 : (w2.alloc (.cells #[.int .i64 gk, .int .i64 gn, .string gt, .slice gA gl.length gc] 25)).heap.size = w2.heap.size + 1 := by simp
 generalize w2.alloc (.cells #[.int .i64 gk, .int .i64 gn, .string gt, .slice gA gl.length gc] 25) = W1 at *
 have b2 := Blk.new W1 84 #[.slice none 0 0, .int .i64 0]
 have c2 := hal W1 (.cells #[.slice none 0 0, .int .i64 0] 84)
 rw [z1] at b2
 have h2 := hb.size
 exact ⟨blk_below b1 c2, b2, (hv.under c1).under c2, (hb.trans (c1.mono h2)).trans (c2.mono (by omega)), by simp [z1]⟩
structure InEnd (w1 wa : World) (n2 : Nat) (W : World) (sv : Value) (ps : List PI) (nx : Int) (k : Key3) (next : Bool) (text : ByteArray) (Ai : Option Addr) (ci : Nat) (psi : List PI) (nxi : Int) : Prop where
 st : PSt w1 W sv ps nx k.1 k.2.1 k.2.2 3 0 text [] none 0
 box : Blk W (n2 + 1) 84 #[.slice Ai psi.length ci, .int .i64 nxi]
 row : RwOwn W (.slice Ai psi.length ci) psi nxi
 eq : inR (ps.map PI.it) k next = (psi.map PI.it, nxi)
 low : Below wa.heap.size wa W
theorem InSt.skip {w1 wa W : World} {n2 : Nat} {gk gn : Int} {gt : ByteArray} {gl : List GI} {gA : Option Addr} {gc : Nat} (h : InSt wa n2 W gk gn gt gl gA gc) {sv : Value} {ps : List PI} {nx : Int} {k : Key3} {next there : Bool} {text : ByteArray} (hp : PSt w1 wa sv ps nx k.1 k.2.1 k.2.2 3 0 text [] none 0)
  (hs : subG (ps.map PI.it) (normG k.1 k.2.1 k.2.2) = (if there = true ∧ gk = 4 then (gl, gn) else ([], 0))) (hn : next = true ∨ there = false ∨ gk ≠ 4) : InEnd w1 wa n2 W sv ps nx k next text none 0 [] 0 := by
 refine ⟨hp.under h.low, h.box, .nil W, ?_, h.low⟩
 unfold inR
 split
 · rfl
 · rename_i hx
   rw [hs, if_neg]
   · rfl
   · rintro ⟨h1, h2⟩
     rcases hn with h | h | h
     · exact hx h
     · rw [h1] at h; cases h
     · exact h h2
theorem InSt.pick {w1 wa W wf : World} {n2 : Nat} {gn : Int} {gt : ByteArray} {gl : List GI} {gA : Option Addr} {gc : Nat} (h : InSt wa n2 W 4 gn gt gl gA gc) (hw : WfG (.mk 4 gn gt gl)) (h2 : wa.heap.size ≤ n2) {sv : Value} {ps : List PI} {nx : Int} {k : Key3} {text : ByteArray} (hp : PSt w1 wa sv ps nx k.1 k.2.1 k.2.2 3 0 text [] none 0)
  (hs : subG (ps.map PI.it) (normG k.1 k.2.1 k.2.2) = (if true = true ∧ (4 : Int) = 4 then (gl, gn) else ([], 0)))
  (hf : wf = (W.setCell ⟨n2 + 1, 0, none⟩ (.slice gA gl.length gc)).setCell ⟨n2 + 1, 1, none⟩ (.int .i64 gn)) : ∃ psi, gl.length = psi.length ∧ InEnd w1 wa n2 wf sv ps nx k false text gA gc psi gn := by
 obtain ⟨psi, rfl, hm, hr⟩ := h.own.row hw
 obtain ⟨h1, h3⟩ := store2 h.box (.slice gA (psi.map PI.it).length gc) (.int .i64 gn)
 rw [← hf] at h1 h3
 have hS : ∀ j, j = n2 + 1 → ∃ t cs, Blk W j t cs ∧ t ≠ 39 := fun j e => by
  subst e
  exact ⟨_, _, h.box, by decide⟩
 have hbw : Below wa.heap.size wa wf := h.low.trans (h3.below h.low.size (fun j e => by omega))
 rw [List.length_map] at h1
 refine ⟨psi, List.length_map _, ⟨hp.under hbw, h1, ?_, ?_, hbw⟩⟩
 · have hr' : RwOwn W (.slice gA psi.length gc) psi gn := by rw [← hm]; exact hr
   refine ⟨row_keep hr'.owns h3 fun g e hs => ?_, hr'.wf, fun q hq => (hr'.val q hq).keeps h3 hS⟩
   obtain ⟨t, cs, hb, hne⟩ := hS g hs
   exact row_ne hr'.owns hb hne e.symm
 · unfold inR
   rw [if_neg (by simp), hs, if_pos ⟨rfl, rfl⟩]
theorem z_old {W : World} {zb n : Nat} {wc : World} {a0 a1 : Value} {A2 : Option Addr} {c2 : Nat} {ps2 : List PI} {nx2 : Int} (hz : Blk W zb 84 #[a0, a1]) (hr : RwOwn W (.slice A2 ps2.length c2) ps2 nx2) (hb : Below n wc W) (hn : n ≤ zb) (hw : n ≤ W.heap.size) :
  Blk ((W.setCell ⟨zb, 0, none⟩ (.slice A2 ps2.length c2)).setCell ⟨zb, 1, none⟩ (.int .i64 nx2)) zb 84 #[.slice A2 ps2.length c2, .int .i64 nx2] ∧ RwOwn ((W.setCell ⟨zb, 0, none⟩ (.slice A2 ps2.length c2)).setCell ⟨zb, 1, none⟩ (.int .i64 nx2)) (.slice A2 ps2.length c2) ps2 nx2 ∧ Below n wc ((W.setCell ⟨zb, 0, none⟩ (.slice A2 ps2.length c2)).setCell ⟨zb, 1, none⟩ (.int .i64 nx2)) := by
 obtain ⟨h1, h3⟩ := store2 hz (.slice A2 ps2.length c2) (.int .i64 nx2)
 have hS : ∀ j, j = zb → ∃ t cs, Blk W j t cs ∧ t ≠ 39 := fun j e => by
  subst e
  exact ⟨_, _, hz, by decide⟩
 refine ⟨h1, ⟨row_keep hr.owns h3 fun g e hs => ?_, hr.wf, fun q hq => (hr.val q hq).keeps h3 hS⟩, hb.trans (h3.below hw (fun j e => by omega))⟩
 obtain ⟨t, cs, hb, hne⟩ := hS g hs
 exact row_ne hr.owns hb hne e.symm
theorem z_new {w3 wc : World} {n : Nat} {A2 : Option Addr} {c2 : Nat} {ps2 : List PI} {nx2 : Int} (hr : RwOwn w3 (.slice A2 ps2.length c2) ps2 nx2) (hb : Below n wc w3) (hn : n ≤ w3.heap.size) :
  Blk (w3.alloc (.cells #[.slice A2 ps2.length c2, .int .i64 nx2] 84)) w3.heap.size 84 #[.slice A2 ps2.length c2, .int .i64 nx2] ∧ RwOwn (w3.alloc (.cells #[.slice A2 ps2.length c2, .int .i64 nx2] 84)) (.slice A2 ps2.length c2) ps2 nx2 ∧ Below n wc (w3.alloc (.cells #[.slice A2 ps2.length c2, .int .i64 nx2] 84)) :=
 ⟨Blk.new w3 _ _, hr.under ((Below.refl w3.heap.size w3).alloc (Nat.le_refl _) _), hb.alloc hn _⟩
theorem putR_cons {s : ByteArray} {r : List ByteArray} {k : Key3} {next hd ok2 : Bool} {text : ByteArray} {gs gi g2 : List GI} {nx nxi nx2 : Int} {PR : (List GI × Int) × Bool} (hPR : putR (s :: r) k next text gs nx = PR) (he : inR gs k next = (gi, nxi)) (hd' : hd = decide (s = ⟨#[]⟩)) (h2 : putR r (true, 0, s) hd text gi nxi = ((g2, nx2), ok2)) :
  PR = ((setR gs nx k next (.mk 4 nx2 ⟨#[]⟩ g2)).1, ok2 && (setR gs nx k next (.mk 4 nx2 ⟨#[]⟩ g2)).2) := by
 rw [← hPR, putR, he, ← hd', h2]
def TbP (tb next there : Bool) (gk : Int) : Prop := (tb = true ∧ next = false ∧ there = true ∧ gk = 4) ∨ (tb = false ∧ (next = true ∨ there = false ∨ gk ≠ 4))
def RPut (text : ByteArray) (sts : List ByteArray) : Prop := ∀ (w1 : World) (kb : Bool) (ki : Int) (ks : ByteArray) (next : Bool) (A : Option Addr) (c : Nat) (ps : List PI) (nx : Int) (As : Option Addr) (cs : Nat), In64 ki → ks.size ≤ 140737488351232 → RwOwn w1 (.slice A ps.length c) ps nx → Reads w1 w1.heap.size 1 As sts.length (sts.map Value.string) → sts.length ≤ cs →
  Calls prog 71 #[.agg #[.slice A ps.length c, .int .i64 nx], .agg #[.bool kb, .int .i64 ki, .string ks], .bool next, .slice As sts.length cs, .string text] w1 fun e w2 => RPutP w1 (putR sts (kb, ki, ks) next text (ps.map PI.it) nx) e w2
theorem rput_step (text : ByteArray) (ht : text.size ≤ 140737488351232) (sts : List ByteArray) (hlen : sts.length ≤ 140737488351232) (hss : ∀ s ∈ sts, s.size ≤ 140737488351232) (HIH : Hid (∀ s r, sts = s :: r → RPut text r)) : RPut text sts := by
 intro w1 kb ki ks next A c ps nx As cs hki hks hR hSt hcs
 have hal := fun (wx : World) (o : Obj) => (Below.refl wx.heap.size wx).alloc (Nat.le_refl _) o
 have HAL := lH hal
 have HP := lH (pst_new w1 hR kb ki ks text ht)
 have HSt := lH hSt
 have HSs := lH hss
 have hsz : ((((w1.alloc (.cells #[.slice A ps.length c, .int .i64 nx] 84)).alloc (.cells #[.bool kb, .int .i64 ki, .string ks] 37)).alloc (.cells #[.slice none 0 0, .int .i64 0] 84)).alloc (.cells #[.int .i64 3, .int .i64 0, .string text, .slice none 0 0] 25)).heap.size = w1.heap.size + 4 := by simp
 have HSz := lH hsz
 unfold RPutP
 obtain ⟨PR, hPR⟩ : ∃ z, putR sts (kb, ki, ks) next text (ps.map PI.it) nx = z := ⟨_, rfl⟩
 rw [hPR]
 have HPR := lH hPR
 have hss := hss
 clear hal hR hSt hsz hPR hss
 go_enter func71, ntmps71
 go_upto_region 2 with fail
 generalize (((w1.alloc (.cells #[.slice A ps.length c, .int .i64 nx] 84)).alloc (.cells #[.bool kb, .int .i64 ki, .string ks] 37)).alloc (.cells #[.slice none 0 0, .int .i64 0] 84)).alloc (.cells #[.int .i64 3, .int .i64 0, .string text, .slice none 0 0] 25) = wa at *
 go_upto_if 24 with fail
 go_cut [13] (fun x13 wx => ∃ vk vn vt vl vA vc ok0, x13 = .bool ok0 ∧ Hid (PSt w1 wx (.slice A ps.length c) ps nx kb ki ks vk vn vt vl vA vc) ∧ Hid (PR = ((setR (ps.map PI.it) nx (kb, ki, ks) next (.mk vk vn vt vl)).1, ok0 && (setR (ps.map PI.it) nx (kb, ki, ks) next (.mk vk vn vt vl)).2)))
 case first =>
  cases sts with
  | nil =>
   go_wp2_with fail
   go_meet
   case rel => exact ⟨3, 0, text, [], none, 0, true, by trivial, HP, by show _ = _; rw [← HPR.out]; rw [putR, Bool.true_and]; rfl⟩
  | cons s r =>
   have hb0 : 0 < (s :: r).length := Nat.succ_pos _
   obtain ⟨k0, k1, k2⟩ := z3 HP.out.key
   have HGet := lH (rget_own wa HP.out.lst kb ki ks hks)
   go_upto_region 6 with (go_at_call 117; refine HGet.out.mono ?_; rintro e w2 ⟨gk, gn, gt, gl, gA, gc, there, rfl, hv2, hw2, hs2, hb2⟩; have HV2 := lH hv2; have HW2 := lH hw2; have HS2 := lH hs2; have HB2 := lH hb2; clear hv2 hw2 hs2 hb2)
   have HIn := lH (in_new HV2.out HB2.out)
   have hn2 := HB2.out.size
   generalize (w2.alloc (.cells #[.int .i64 gk, .int .i64 gn, .string gt, .slice gA gl.length gc] 25)).alloc (.cells #[.slice none 0 0, .int .i64 0] 84) = wb at *
   generalize w2.heap.size = n2 at *
   obtain ⟨⟨o0, o1, o2, o3⟩, -⟩ := z8 HIn.out.old
   obtain ⟨⟨i0, i1⟩, if0, if1⟩ := z2c HIn.out.box
   have hno : ¬ (n2 = n2 + 1) := by omega
   clear HV2 HB2 k0 k1 k2
   go_cut [40] (fun x wx => ∃ tb, x = .bool tb ∧ wx = wb ∧ Hid (TbP tb next there gk))
   case first =>
    cases next with
    | true =>
     go_wp2_with fail
     go_meet
     case rel => exact ⟨false, by trivial, by trivial, .inr ⟨rfl, .inl rfl⟩⟩
    | false =>
     cases there with
     | false =>
      go_wp2_with fail
      go_meet
      case rel => exact ⟨false, by trivial, by trivial, .inr ⟨rfl, .inr (.inl rfl)⟩⟩
     | true =>
      by_cases hk4 : gk = 4
      · have hb4 : (gk == 4) = true := by simpa using hk4
        go_wp2_with fail
        go_meet
        case rel => exact ⟨true, by trivial, by trivial, .inl ⟨rfl, rfl, rfl, hk4⟩⟩
      · have hb4 : (gk == 4) = false := by simpa using hk4
        go_wp2_with fail
        go_meet
        case rel => exact ⟨false, by trivial, by trivial, .inr ⟨rfl, .inr (.inr hk4)⟩⟩
   case rest =>
   obtain ⟨tb, rfl, rfl, HTb⟩ := hcut
   go_upto_if 40 with fail
   go_cut [] (fun wx => ∃ Ai ci psi nxi, Hid (InEnd w1 wa n2 wx (.slice A ps.length c) ps nx (kb, ki, ks) next text Ai ci psi nxi))
   case first =>
    rcases HTb.out with ⟨rfl, rfl, rfl, rfl⟩ | ⟨rfl, hsk⟩
    · have HF := lH (fun wf hf => HIn.out.pick (wf := wf) HW2.out hn2 (k := (kb, ki, ks)) HP.out HS2.out hf)
      go_wp2_with fail
      go_meet
      case rel =>
       obtain ⟨psi, hl, he⟩ := HF.out _ rfl
       rw [hl] at *
       exact ⟨_, _, psi, _, he⟩
    · have HSk := lH (HIn.out.skip (text := text) (k := (kb, ki, ks)) HP.out HS2.out hsk)
      clear hsk
      go_wp2_with fail
      go_meet
      case rel => exact ⟨_, _, _, _, HSk.out⟩
   case rest =>
    obtain ⟨Ai, ci, psi, nxi, HE⟩ := hcut
    have HRs := lH (HSt.out.below HE.out.st.low)
    obtain ⟨ad, u, hAs, hadB, hu, hcell⟩ := HRs.out.at_ (k := 0) (Nat.succ_pos _)
    obtain rfl : u = .string s := by simpa using hu.symm
    subst hAs
    have hcsz := HE.out.st.low.size
    have HRd : Hid (∀ wq, Below wc.heap.size wc wq → wq.cell? ⟨n2 + 1, 0, none⟩ = some (.slice Ai psi.length ci) ∧ wq.cell? ⟨n2 + 1, 1, none⟩ = some (.int .i64 nxi) ∧ wq.cell? (ad.add 0) = some (.string s) ∧ wq.cell? ad = some (.string s)) := fun wq hq =>
     ⟨(blk_below HE.out.box hq).cell 0, (blk_below HE.out.box hq).cell 1, (hq.cell (by rw [block_of_add]; omega)).trans hcell, (hq.cell (p := ad) (by omega)).trans hcell⟩
    obtain ⟨hd, hhd, hdd⟩ : ∃ b, s.toList.isEmpty = b ∧ b = decide (s = ⟨#[]⟩) := by
     refine ⟨_, rfl, ?_⟩
     by_cases h0 : s = ⟨#[]⟩
     · subst h0; simp
     · rw [(not_empty h0).2.1]; simp [h0]
    obtain ⟨AN, hAN⟩ : ∃ z, (if cs = 1 then some ad else some (⟨ad.block, ad.off + 1, none⟩ : Addr)) = z := ⟨_, rfl⟩
    have HPut : Hid (∀ (wz : World), Below wc.heap.size wc wz → Calls prog 71 #[.agg #[.slice Ai psi.length ci, .int .i64 nxi], .agg #[.bool true, .int .i64 0, .string s], .bool hd, .slice AN r.length (cs - 1), .string text] wz fun e w2 => RPutP wz (putR r (true, 0, s) hd text (psi.map PI.it) nxi) e w2) := fun wz hz =>
     HIH.out s r rfl wz true 0 s hd Ai ci psi nxi AN (cs - 1) ⟨by decide, by decide⟩ (HSs.out s List.mem_cons_self) (HE.out.row.under hz) (by
      have h := (HRs.out.cut (k := 1) (cap := cs) (Nat.succ_le_succ (Nat.zero_le _)) hcs).keep (w' := wz) (fun p hp => hz.cell (by omega))
      rw [← hAN]
      exact h.more (by have := hz.size; omega)) (by simp at hcs; omega)
    have HDd := lH hdd
    clear hdd
    have hle : (1 : Int) ≤ (r.length : Int) + 1 := by omega
    clear hu hcell hb0 HGet HS2 HW2 HTb HIn o0 o1 o2 o3 i0 i1 if0 if1
    go_upto_region 8 with fail
    -- the region that holds the call
    refine wp_region_held_drew (S := (fun wz => Below wc.heap.size wc wz)) (by kernel_rfl) ?_ (fun hHeld => ?_)
    · exact (Below.refl wc.heap.size wc).drew
    refine hdt (v := ?v1) (hy := ?hy1) op0 ?rest1
    case hy1 => (intro wq hSq; (try dsimp only at hSq); obtain ⟨y0, y1, y2, y3⟩ := HRd.out wq hSq; first | (go_simp; done) | (go_simp; with_reducible rfl))
    try simp only [hdq]
    refine hdt (v := ?v2) (hy := ?hy2) op1 ?rest2
    case hy2 => (intro wq hSq; (try dsimp only at hSq); obtain ⟨y0, y1, y2, y3⟩ := HRd.out wq hSq; first | (go_simp; done) | (go_simp; with_reducible rfl))
    try simp only [hdq]
    refine hdt (v := ?v3) (hy := ?hy3) op2 ?rest3
    case hy3 => (intro wq hSq; (try dsimp only at hSq); obtain ⟨y0, y1, y2, y3⟩ := HRd.out wq hSq; first | (go_simp; done) | (go_simp; with_reducible rfl))
    try simp only [hdq]
    refine hdt (v := ?v4) (hy := ?hy4) op3 ?rest4
    case hy4 => (intro wq hSq; (try dsimp only at hSq); obtain ⟨y0, y1, y2, y3⟩ := HRd.out wq hSq; first | (go_simp; done) | (go_simp; with_reducible rfl))
    try simp only [hdq]
    refine hdt (v := ?v5) (hy := ?hy5) op4 ?rest5
    case hy5 => (intro wq hSq; (try dsimp only at hSq); obtain ⟨y0, y1, y2, y3⟩ := HRd.out wq hSq; first | (go_simp; done) | (go_simp; with_reducible rfl))
    try simp only [hdq]
    refine hdt (v := ?v6) (hy := ?hy6) op5 ?rest6
    case hy6 => (intro wq hSq; (try dsimp only at hSq); obtain ⟨y0, y1, y2, y3⟩ := HRd.out wq hSq; first | (go_simp; done) | (go_simp; with_reducible rfl))
    try simp only [hdq]
    refine hdt (v := ?v7) (hy := ?hy7) op6 ?rest7
    case hy7 => (intro wq hSq; (try dsimp only at hSq); obtain ⟨y0, y1, y2, y3⟩ := HRd.out wq hSq; first | (go_simp; done) | (go_simp; with_reducible rfl))
    try simp only [hdq]
    refine hdt (v := ?v8) (hy := ?hy8) op7 ?rest8
    case hy8 => (intro wq hSq; (try dsimp only at hSq); obtain ⟨y0, y1, y2, y3⟩ := HRd.out wq hSq; first | (go_simp; done) | (go_simp; with_reducible rfl))
    try simp only [hdq]
    refine hdt (v := ?v9) (hy := ?hy9) op8 ?rest9
    case hy9 => (intro wq hSq; (try dsimp only at hSq); obtain ⟨y0, y1, y2, y3⟩ := HRd.out wq hSq; first | (go_simp; done) | (go_simp; with_reducible rfl))
    try simp only [hdq]
    refine hdt (v := ?v10) (hy := ?hy10) op9 ?rest10
    case hy10 => (intro wq hSq; (try dsimp only at hSq); obtain ⟨y0, y1, y2, y3⟩ := HRd.out wq hSq; first | (go_simp; done) | (go_simp; with_reducible rfl))
    try simp only [hdq]
    refine hdt (v := ?v11) (hy := ?hy11) op10 ?rest11
    case hy11 => (intro wq hSq; (try dsimp only at hSq); obtain ⟨y0, y1, y2, y3⟩ := HRd.out wq hSq; first | (go_simp; done) | (go_simp; with_reducible rfl))
    try simp only [hdq]
    refine hdt (v := ?v12) (hy := ?hy12) op11 ?rest12
    case hy12 => (intro wq hSq; (try dsimp only at hSq); obtain ⟨y0, y1, y2, y3⟩ := HRd.out wq hSq; first | (go_simp; done) | (go_simp; with_reducible rfl))
    try simp only [hdq]
    refine hdr2 op12 (fun K hK => ?_) op16 (fun K hK => ?_)
    · go_simp
      go_at_call 71
      refine (HPut.out _ ?_).mono ?_
      · exact drewU (Below.refl wc.heap.size wc) 1
      rintro e w3 ⟨A2, ps2, c2, nx2, ok2, rfl, hPe, hRo, hb3⟩
      have HPe := lH hPe
      have HRo := lH hRo
      have HB3 : Hid (Below wc.heap.size wc w3) := (drewU (Below.refl wc.heap.size wc) 1).trans (hb3.mono (by simp))
      clear hPe hRo hb3
      try (go_wp2_with fail)
      refine hK.out _ _ ?_ (fun hHeld => ?_)
      · exact HB3.out
      clear hK K
      try simp only [hdq]
      refine hdt (v := ?v13) (hy := ?hy13) op13 ?rest13
      case hy13 => (intro wq hSq; (try dsimp only at hSq); obtain ⟨y0, y1, y2, y3⟩ := HRd.out wq hSq; first | (go_simp; done) | (go_simp; with_reducible rfl))
      try simp only [hdq]
      refine hdt (v := ?v14) (hy := ?hy14) op14 ?rest14
      case hy14 => (intro wq hSq; (try dsimp only at hSq); obtain ⟨y0, y1, y2, y3⟩ := HRd.out wq hSq; first | (go_simp; done) | (go_simp; with_reducible rfl))
      try simp only [hdq]
      refine hdt (v := ?v15) (hy := ?hy15) op15 ?rest15
      case hy15 => (intro wq hSq; (try dsimp only at hSq); obtain ⟨y0, y1, y2, y3⟩ := HRd.out wq hSq; first | (go_simp; done) | (go_simp; with_reducible rfl))
      try simp only [hdq]
      refine hdr1 op16 (fun K hK => ?_)
      go_simp
      refine hK.out _ _ ?_ (fun hHeld => ?_)
      · exact (HB3.out.alloc HB3.out.size _)
      clear hK K
      try simp only [hdq]
      refine hdr1 op17 (fun K hK => ?_)
      go_simp
      refine hK.out _ _ ?_ (fun hHeld => ?_)
      · exact (z_new HRo.out HB3.out HB3.out.size).2.2
      clear hK K
      try simp only [hdq]
      refine hdt (v := ?v16) (hy := ?hy16) op18 ?rest16
      case hy16 => (intro wq hSq; (try dsimp only at hSq); obtain ⟨y0, y1, y2, y3⟩ := HRd.out wq hSq; first | (go_simp; done) | (go_simp; with_reducible rfl))
      try simp only [hdq]
      refine wpAnyH_done (by kernel_rfl) ?_ _
      have HF := lH (z_new HRo.out HB3.out HB3.out.size)
      have HZb : Hid (wc.heap.size ≤ w3.heap.size) := HB3.out.size
      generalize w3.alloc (.cells #[.slice A2 ps2.length c2, .int .i64 nx2] 84) = wz at *
      obtain ⟨⟨c0, c1⟩, -⟩ := z2c HF.out.1
      obtain ⟨⟨b0, b1, b2, b3⟩, bf0, bf1, bf2, bf3⟩ := z8 (blk_below HE.out.st.box HF.out.2.2)
      go_wp2_with fail
      go_meet
      case rel => exact ⟨4, nx2, ⟨#[]⟩, ps2.map PI.it, A2, c2, ok2, by trivial, HE.out.st.value HF.out.2.2 HF.out.2.1 rfl, putR_cons HPR.out HE.out.eq HDd.out HPe.out⟩
    · go_simp
      refine hK.out _ _ ?_ (fun hHeld => ?_)
      · exact ((Below.refl wc.heap.size wc).drew.alloc (Nat.le_refl _) _)
      clear hK K
      try simp only [hdq]
      refine hdr1 op12 (fun K hK => ?_)
      go_simp
      go_at_call 71
      refine (HPut.out _ ?_).mono ?_
      · exact drewU ((Below.refl wc.heap.size wc).alloc (Nat.le_refl _) (.cells #[.slice none 0 0, .int .i64 0] 84)) 1
      rintro e w3 ⟨A2, ps2, c2, nx2, ok2, rfl, hPe, hRo, hb3⟩
      have HPe := lH hPe
      have HRo := lH hRo
      have HB3 : Hid (Below wc.heap.size wc w3) := (drewU ((Below.refl wc.heap.size wc).alloc (Nat.le_refl _) (.cells #[.slice none 0 0, .int .i64 0] 84)) 1).trans (hb3.mono (by simp))
      have HZ3 : Hid (Blk w3 wc.heap.size 84 #[.slice none 0 0, .int .i64 0]) := blk_below (Blk.drew (Blk.new wc _ _)) hb3
      obtain ⟨⟨zc0, zc1⟩, zf0, zf1⟩ := z2c HZ3.out
      clear hPe hRo hb3
      try (go_wp2_with fail)
      refine hK.out _ _ ?_ (fun hHeld => ?_)
      · exact HB3.out
      clear hK K
      try simp only [hdq]
      refine hdt (v := ?v17) (hy := ?hy17) op13 ?rest17
      case hy17 => (intro wq hSq; (try dsimp only at hSq); obtain ⟨y0, y1, y2, y3⟩ := HRd.out wq hSq; first | (go_simp; done) | (go_simp; with_reducible rfl))
      try simp only [hdq]
      refine hdt (v := ?v18) (hy := ?hy18) op14 ?rest18
      case hy18 => (intro wq hSq; (try dsimp only at hSq); obtain ⟨y0, y1, y2, y3⟩ := HRd.out wq hSq; first | (go_simp; done) | (go_simp; with_reducible rfl))
      try simp only [hdq]
      refine hdt (v := ?v19) (hy := ?hy19) op15 ?rest19
      case hy19 => (intro wq hSq; (try dsimp only at hSq); obtain ⟨y0, y1, y2, y3⟩ := HRd.out wq hSq; first | (go_simp; done) | (go_simp; with_reducible rfl))
      try simp only [hdq]
      refine hdr1 op17 (fun K hK => ?_)
      go_simp
      refine hK.out _ _ ?_ (fun hHeld => ?_)
      · exact (z_old HZ3.out HRo.out HB3.out (Nat.le_refl _) HB3.out.size).2.2
      clear hK K
      try simp only [hdq]
      refine hdt (v := ?v20) (hy := ?hy20) op18 ?rest20
      case hy20 => (intro wq hSq; (try dsimp only at hSq); obtain ⟨y0, y1, y2, y3⟩ := HRd.out wq hSq; first | (go_simp; done) | (go_simp; with_reducible rfl))
      try simp only [hdq]
      refine wpAnyH_done (by kernel_rfl) ?_ _
      have HF := lH (z_old HZ3.out HRo.out HB3.out (Nat.le_refl _) HB3.out.size)
      have HZb : Hid (wc.heap.size ≤ wc.heap.size) := Nat.le_refl _
      generalize (w3.setCell ⟨wc.heap.size, 0, none⟩ (.slice A2 ps2.length c2)).setCell ⟨wc.heap.size, 1, none⟩ (.int .i64 nx2) = wz at *
      obtain ⟨⟨c0, c1⟩, -⟩ := z2c HF.out.1
      obtain ⟨⟨b0, b1, b2, b3⟩, bf0, bf1, bf2, bf3⟩ := z8 (blk_below HE.out.st.box HF.out.2.2)
      go_wp2_with fail
      go_meet
      case rel => exact ⟨4, nx2, ⟨#[]⟩, ps2.map PI.it, A2, c2, ok2, by trivial, HE.out.st.value HF.out.2.2 HF.out.2.1 rfl, putR_cons HPR.out HE.out.eq HDd.out HPe.out⟩
    -- behind it
 case rest =>
  obtain ⟨vk, vn, vt, vl, vA, vc, ok0, rfl, HP, HR⟩ := hcut
  obtain ⟨⟨v0, v1, v2, v3⟩, -⟩ := z8 HP.out.box
  obtain ⟨k0, k1, k2⟩ := z3 HP.out.key
  clear HIH HSt HSs HSz HPR
  cases next with
  | true =>
   have HApp := lH (rappend wc HP.out.lst vk vn vt vl vA vc HP.out.own HP.out.wf)
   go_upto_region 15 with (go_at_call 118; refine HApp.out.mono ?_; rintro e w2 ⟨K0, K1, K2, en, rfl, hA⟩; have HA := lH hA; clear hA)
   rcases HA.out with ⟨rfl, hb2, hno⟩ | ⟨rfl, hnx0, hk2, gs', nx', sv', ps', hset, hgs, hL2⟩
   · have HE := lH (HP.out.end_ hb2)
     have HNo : Hid (setR (ps.map PI.it) nx (kb, ki, ks) true (.mk vk vn vt vl) = ((ps.map PI.it, nx), false)) := by
      show _ = _
      rw [setR_app]
      by_cases hn : nx < 0
      · rw [if_pos hn]
      · rw [if_neg hn, hno (by omega)]
     clear hb2 hno HA HApp
     obtain ⟨⟨q0, q1⟩, qf0, qf1⟩ := z2c HE.out.res
     obtain ⟨⟨l0, l1⟩, -⟩ := z2c HE.out.lst.lst.blk
     have HF := lH (fun wf hf => HE.out.fin (wf := wf) hf)
     cases ok0 with
     | true =>
      go_wp2_with fail
      have HF := lH (HF.out _ rfl)
      generalize ((w2.setCell ⟨w1.heap.size + 2, 0, none⟩ _).setCell ⟨w1.heap.size + 2, 1, none⟩ _) = wf at *
      obtain ⟨e0, e1⟩ := HF.out.1
      refine bodyPost_ret (v := .tuple #[.agg #[.slice A ps.length c, .int .i64 nx], .bool false]) (by simp [results, results71, go_sem, e0, e1]) rfl ?_
      exact ⟨A, ps, c, nx, false, rfl, by rw [HR.out, HNo.out]; simp, HF.out.2⟩
     | false =>
      go_wp2_with fail
      have HF := lH (HF.out _ rfl)
      generalize ((w2.setCell ⟨w1.heap.size + 2, 0, none⟩ _).setCell ⟨w1.heap.size + 2, 1, none⟩ _) = wf at *
      obtain ⟨e0, e1⟩ := HF.out.1
      refine bodyPost_ret (v := .tuple #[.agg #[.slice A ps.length c, .int .i64 nx], .bool false]) (by simp [results, results71, go_sem, e0, e1]) rfl ?_
      exact ⟨A, ps, c, nx, false, rfl, by rw [HR.out, HNo.out]; simp, HF.out.2⟩
   · have HE := lH (HP.out.turn hk2 hL2)
     have HNo : Hid (setR (ps.map PI.it) nx (kb, ki, ks) true (.mk vk vn vt vl) = ((ps'.map PI.it, nx'), true)) := by
      show _ = _
      rw [setR_app, if_neg (by omega), hset, hgs]
     clear hk2 hL2 hset hgs HA HApp
     obtain ⟨⟨q0, q1⟩, qf0, qf1⟩ := z2c HE.out.res
     obtain ⟨As', cs', rfl⟩ := HE.out.lst.row.form
     obtain ⟨⟨l0, l1⟩, -⟩ := z2c HE.out.lst.lst.blk
     have HF := lH (fun wf hf => HE.out.fin (wf := wf) hf)
     cases ok0 with
     | true =>
      go_wp2_with fail
      have HF := lH (HF.out _ rfl)
      generalize ((w2.setCell ⟨w1.heap.size + 2, 0, none⟩ _).setCell ⟨w1.heap.size + 2, 1, none⟩ _) = wf at *
      obtain ⟨e0, e1⟩ := HF.out.1
      refine bodyPost_ret (v := .tuple #[.agg #[.slice As' ps'.length cs', .int .i64 nx'], .bool true]) (by simp [results, results71, go_sem, e0, e1]) rfl ?_
      exact ⟨As', ps', cs', nx', true, rfl, by rw [HR.out, HNo.out]; simp, HF.out.2⟩
     | false =>
      go_wp2_with fail
      have HF := lH (HF.out _ rfl)
      generalize ((w2.setCell ⟨w1.heap.size + 2, 0, none⟩ _).setCell ⟨w1.heap.size + 2, 1, none⟩ _) = wf at *
      obtain ⟨e0, e1⟩ := HF.out.1
      refine bodyPost_ret (v := .tuple #[.agg #[.slice As' ps'.length cs', .int .i64 nx'], .bool false]) (by simp [results, results71, go_sem, e0, e1]) rfl ?_
      exact ⟨As', ps', cs', nx', false, rfl, by rw [HR.out, HNo.out]; simp, HF.out.2⟩
  | false =>
   have HSet := lH (rset_own wc HP.out.lst ⟨kb, ki, ks, vk, vn, vt, vl, vA, vc⟩ hki hks HP.out.own HP.out.wf)
   cases hs : setG (ps.map PI.it) nx (giOf (kb, ki, ks) (.mk vk vn vt vl)) with
   | none =>
    have HS1 := lH (HSet.out.1 hs)
    have HNo := lH hs
    clear HSet hs
    go_upto_region 15 with (go_at_call 48; refine HS1.out.mono ?_; rintro e w2 ⟨rfl, hb2⟩; have HE := lH (HP.out.end_ hb2); clear hb2)
    have HNo2 : Hid (setR (ps.map PI.it) nx (kb, ki, ks) false (.mk vk vn vt vl) = ((ps.map PI.it, nx), false)) := by
     show _ = _
     rw [setR_set, HNo.out]
    obtain ⟨⟨q0, q1⟩, qf0, qf1⟩ := z2c HE.out.res
    obtain ⟨⟨l0, l1⟩, -⟩ := z2c HE.out.lst.lst.blk
    have HF := lH (fun wf hf => HE.out.fin (wf := wf) hf)
    cases ok0 with
    | true =>
     go_wp2_with fail
     have HF := lH (HF.out _ rfl)
     generalize ((w2.setCell ⟨w1.heap.size + 2, 0, none⟩ _).setCell ⟨w1.heap.size + 2, 1, none⟩ _) = wf at *
     obtain ⟨e0, e1⟩ := HF.out.1
     refine bodyPost_ret (v := .tuple #[.agg #[.slice A ps.length c, .int .i64 nx], .bool false]) (by simp [results, results71, go_sem, e0, e1]) rfl ?_
     exact ⟨A, ps, c, nx, false, rfl, by rw [HR.out, HNo2.out]; simp, HF.out.2⟩
    | false =>
     go_wp2_with fail
     have HF := lH (HF.out _ rfl)
     generalize ((w2.setCell ⟨w1.heap.size + 2, 0, none⟩ _).setCell ⟨w1.heap.size + 2, 1, none⟩ _) = wf at *
     obtain ⟨e0, e1⟩ := HF.out.1
     refine bodyPost_ret (v := .tuple #[.agg #[.slice A ps.length c, .int .i64 nx], .bool false]) (by simp [results, results71, go_sem, e0, e1]) rfl ?_
     exact ⟨A, ps, c, nx, false, rfl, by rw [HR.out, HNo2.out]; simp, HF.out.2⟩
   | some r =>
    obtain ⟨gs', nx'⟩ := r
    have HS1 := lH (HSet.out.2 gs' nx' hs)
    have HYes := lH hs
    clear HSet hs
    go_upto_region 15 with (go_at_call 48; refine HS1.out.mono ?_; rintro e w2 ⟨rfl, hk2, sv', ps', hgs, hL2⟩; have HE := lH (HP.out.turn hk2 hL2); have HGs := lH hgs; clear hk2 hgs hL2)
    have HNo2 : Hid (setR (ps.map PI.it) nx (kb, ki, ks) false (.mk vk vn vt vl) = ((ps'.map PI.it, nx'), true)) := by
     show _ = _
     rw [setR_set, HYes.out, HGs.out]
    obtain ⟨⟨q0, q1⟩, qf0, qf1⟩ := z2c HE.out.res
    obtain ⟨As', cs', rfl⟩ := HE.out.lst.row.form
    obtain ⟨⟨l0, l1⟩, -⟩ := z2c HE.out.lst.lst.blk
    have HF := lH (fun wf hf => HE.out.fin (wf := wf) hf)
    cases ok0 with
    | true =>
     go_wp2_with fail
     have HF := lH (HF.out _ rfl)
     generalize ((w2.setCell ⟨w1.heap.size + 2, 0, none⟩ _).setCell ⟨w1.heap.size + 2, 1, none⟩ _) = wf at *
     obtain ⟨e0, e1⟩ := HF.out.1
     refine bodyPost_ret (v := .tuple #[.agg #[.slice As' ps'.length cs', .int .i64 nx'], .bool true]) (by simp [results, results71, go_sem, e0, e1]) rfl ?_
     exact ⟨As', ps', cs', nx', true, rfl, by rw [HR.out, HNo2.out]; simp, HF.out.2⟩
    | false =>
     go_wp2_with fail
     have HF := lH (HF.out _ rfl)
     generalize ((w2.setCell ⟨w1.heap.size + 2, 0, none⟩ _).setCell ⟨w1.heap.size + 2, 1, none⟩ _) = wf at *
     obtain ⟨e0, e1⟩ := HF.out.1
     refine bodyPost_ret (v := .tuple #[.agg #[.slice As' ps'.length cs', .int .i64 nx'], .bool false]) (by simp [results, results71, go_sem, e0, e1]) rfl ?_
     exact ⟨As', ps', cs', nx', false, rfl, by rw [HR.out, HNo2.out]; simp, HF.out.2⟩
theorem rput_any (text : ByteArray) (ht : text.size ≤ 140737488351232) : ∀ (sts : List ByteArray), sts.length ≤ 140737488351232 → (∀ s ∈ sts, s.size ≤ 140737488351232) → RPut text sts := by
 intro sts
 induction sts with
 | nil => exact fun hl hs => rput_step text ht [] hl hs (fun s r h => by cases h)
 | cons s r ih =>
  intro hl hs
  refine rput_step text ht _ hl hs fun s' r' h => ?_
  injection h with h1 h2
  subst h2
  exact ih (by simp at hl; omega) fun x hx => hs x (List.mem_cons_of_mem _ hx)
end Uf
end Go.Proofs.YtgpemnmopogppaaGreatDoor
