/- url.Put: the walk. -/
import Derived.Test.YtgpemnmopogppaaGreatDoorZUtNQ
import Derived.Test.YtgpemnmopogppaaGreatDoorZUpC
namespace Go.Proofs.YtgpemnmopogppaaGreatDoor
open Go Go.RowKit
namespace Ut
open Go.Proofs.YtgpemnmopogppaaGreatDoor.Nm (normG keyV norm_any)
open Go.Proofs.YtgpemnmopogppaaGreatDoor.Dp
section
variable {w : World} {B : Nat}
theorem get_cases (hLib : ∀ w', Below B w w' → LibS w') (w1 : World) (hb : Below B w w1) {b mb : Nat} {sh : Bool} {sv : Value} {ps : List PK} {nx : Int} (hL : LstP w1 b mb sh sv ps nx) (hB1 : B ≤ w1.heap.size) (step : ByteArray) (hs : step.size ≤ 140737488351232) (hn : ps.length ≤ 2048) :
    (findK (ps.map Prod.fst) (normG true 0 step) 0 < 0 → Calls Tryz.prog 65 #[.pointer (some ⟨b, 0, none⟩), .agg #[.bool true, .int .i64 0, .string step]] w1 fun e w2 => e = .returned (.tuple #[.pointer none, .bool false]) ∧ Below w1.heap.size w1 w2) ∧
    (∀ i q, findK (ps.map Prod.fst) (normG true 0 step) 0 = Int.ofNat i → ps[i]? = some (normG true 0 step, q) → Calls Tryz.prog 65 #[.pointer (some ⟨b, 0, none⟩), .agg #[.bool true, .int .i64 0, .string step]] w1 fun e w2 => e = .returned (.tuple #[.pointer (some ⟨q, 0, none⟩), .bool true]) ∧ Below w1.heap.size w1 w2) := by
  have h := get_any hLib w1 hb hL hB1 (true, 0, step) z64 hs hn
  refine ⟨fun h0 => h.mono fun e w2 ⟨hb2, hc⟩ => ?_, fun i q h0 h1 => h.mono fun e w2 ⟨hb2, hc⟩ => ?_⟩
  · rcases hc with ⟨_, rfl⟩ | ⟨i, q, hf, _⟩
    · exact ⟨rfl, hb2⟩
    · have hf : findK (ps.map Prod.fst) (normG true 0 step) 0 = Int.ofNat i := hf
      have := Int.natCast_nonneg i
      rw [hf] at h0
      exact absurd h0 (by show ¬ ((i : Int) < 0); omega)
  · rcases hc with ⟨hf, _⟩ | ⟨i', q', hf, h2, rfl⟩
    · have hf : findK (ps.map Prod.fst) (normG true 0 step) 0 < 0 := hf
      rw [h0] at hf
      exact absurd hf (by show ¬ ((i : Int) < 0); omega)
    · have hf : findK (ps.map Prod.fst) (normG true 0 step) 0 = Int.ofNat i' := hf
      rw [h0] at hf
      injection hf with hf
      subst hf
      have h2 : ps[i]? = some (normG true 0 step, q') := h2
      rw [h1] at h2
      injection h2 with h2
      injection h2 with _ h2
      subst h2
      exact ⟨rfl, hb2⟩
theorem put_cases (hLib : ∀ w', Below B w w' → LibS w') (w1 : World) (hb : Below B w w1) {p b mb : Nat} {sv : Value} {ps : List PK} {nx bk bn : Int} {bt : ByteArray} {bA : Option Addr} {bl bc : Nat} (hL : LstP w1 b mb false sv ps nx) (hB1 : B ≤ w1.heap.size)
    (hbk : Blk w1 p 106 #[.pointer (some ⟨b, 0, none⟩), .int .i64 bk, .int .i64 bn, .string bt, .slice bA bl bc]) (hbase : bk = 4 → (bn < 0 → nx = bn) ∧ (0 ≤ nx → bn ≤ nx)) (step : ByteArray) (head : Bool) (hs : step.size ≤ 140737488351232) (q : Nat) (hn : ps.length ≤ 2048) (hnx : In64 nx) :
    ((∀ k, keyT step head nx = some k → setP ps nx k q = none) → Calls Tryz.prog 67 #[.pointer (some ⟨p, 0, none⟩), .string step, .bool head, .pointer (some ⟨q, 0, none⟩)] w1 fun e w2 => e = .returned (.bool false) ∧ Below w1.heap.size w1 w2) ∧
    (∀ k ps' nx', keyT step head nx = some k → setP ps nx k q = some (ps', nx') → Calls Tryz.prog 67 #[.pointer (some ⟨p, 0, none⟩), .string step, .bool head, .pointer (some ⟨q, 0, none⟩)] w1 fun e w2 => e = .returned (.bool true) ∧ Keeps (ownL b mb sv) w1 w2 ∧ ∃ sv', LstP w2 b mb false sv' ps' nx' ∧ ∀ j, ownL b mb sv' j → turnL w1.heap.size b mb sv j) := by
  have h := put_any hLib w1 hb hL hB1 hbk hbase step head hs q hn hnx
  refine ⟨fun h0 => h.mono fun e w2 ⟨hk, hc⟩ => ?_, fun k ps' nx' h0 h1 => h.mono fun e w2 ⟨hk, hc⟩ => ?_⟩
  · rcases hc with ⟨rfl, hb2, _⟩ | ⟨k, ps', nx', sv', _, hkt, hs', _⟩
    · exact ⟨rfl, hb2⟩
    · rw [h0 k hkt] at hs'
      cases hs'
  · rcases hc with ⟨_, _, h2⟩ | ⟨k', ps2, nx2, sv', rfl, hkt, hs', hL2, ht⟩
    · rw [h2 k h0] at h1
      cases h1
    · rw [h0] at hkt
      injection hkt with hkt
      subst hkt
      rw [h1] at hs'
      injection hs' with hs'
      injection hs' with e1 e2
      subst e1 e2
      exact ⟨rfl, hk, sv', hL2, ht⟩
theorem stepsL_le : ∀ (n : Nat) (l : List UInt8), l.length ≤ n → ∀ s ∈ stepsL l, s.length ≤ l.length
  | _, [], _, s, h => by rw [stepsL] at h; cases h
  | 0, _ :: _, hl, s, h => by simp at hl
  | n + 1, x :: r, hl, s, h => by
    rw [stepsL] at h
    split at h
    · rcases List.mem_cons.1 h with rfl | h
      · have := (List.takeWhile_sublist (l := r) (fun c : UInt8 => c != 93)).length_le
        simp only [List.length_cons]
        omega
      · have h1 := (List.dropWhile_sublist (l := r) (fun c : UInt8 => c != 93)).length_le
        have h2 : ((r.dropWhile (· != 93)).drop 1).length ≤ r.length := by rw [List.length_drop]; omega
        simp only [List.length_cons] at hl ⊢
        have := stepsL_le n _ (by omega) s h
        omega
    · cases h
theorem fin4 {w' w2 : World} {g : GV} {a0 a1 a2 a3 u0 u1 u2 u3 : Value} {n : Nat} (hz : Blk w2 (w'.heap.size + 1) 25 #[a0, a1, a2, a3]) (hv : VIn w2 (fun b => n ≤ b ∧ b < w2.heap.size) g (.agg #[u0, u1, u2, u3])) (hn : w'.heap.size + 2 ≤ n) (hb : Below w'.heap.size w' w2) {wf : World}
    (hf : wf = (((w2.setCell ⟨w'.heap.size + 1, 0, none⟩ u0).setCell ⟨w'.heap.size + 1, 1, none⟩ u1).setCell ⟨w'.heap.size + 1, 2, none⟩ u2).setCell ⟨w'.heap.size + 1, 3, none⟩ u3) :
    Blk wf (w'.heap.size + 1) 25 #[u0, u1, u2, u3] ∧ VIn wf (fun b => w'.heap.size ≤ b ∧ b < wf.heap.size) g (.agg #[u0, u1, u2, u3]) ∧ Below w'.heap.size w' wf := by
  obtain ⟨h1, h2⟩ := store4 hz u0 u1 u2 u3
  rw [← hf] at h1 h2
  have hs := h2.size
  refine ⟨h1, hv.keep (fun b hb => ⟨by omega, by omega⟩) fun q hq => h2.cell hq.2 (fun e => by have := hq.1; omega), hb.trans (h2.below hb.size (fun j e => by rw [e]; omega))⟩
theorem z8 {w : World} {b : Nat} {t : TypeId} {a0 a1 a2 a3 : Value} (h : Blk w b t #[a0, a1, a2, a3]) : (w.cell? ⟨b, 0, none⟩ = some a0 ∧ w.cell? ⟨b, 1, none⟩ = some a1 ∧ w.cell? ⟨b, 2, none⟩ = some a2 ∧ w.cell? ⟨b, 3, none⟩ = some a3) ∧ w.frozen? ⟨b, 0, none⟩ = false ∧ w.frozen? ⟨b, 1, none⟩ = false ∧ w.frozen? ⟨b, 2, none⟩ = false ∧ w.frozen? ⟨b, 3, none⟩ = false :=
  ⟨⟨h.cell 0, h.cell 1, h.cell 2, h.cell 3⟩, h.frozen 0, h.frozen 1, h.frozen 2, h.frozen 3⟩
def ixO : Value → Int
  | .int _ q => q
  | _ => 0
theorem sub_none {ts : List TS} {step : ByteArray} (h : findK ((ts.map TS.pk).map Prod.fst) (normG true 0 step) 0 < 0) : subG (ts.map TS.gi) (normG true 0 step) = ([], 0) := by
  unfold subG
  rw [gi_key, ← pk_fst, if_neg (by omega)]
theorem sub_leaf {ts : List TS} {step : ByteArray} {j : Nat} {x : TS} {k n : Int} {t : ByteArray} {l : List GI} (h : findK ((ts.map TS.pk).map Prod.fst) (normG true 0 step) 0 = Int.ofNat j) (hx : ts[j]? = some x) (hk : k ≠ 4) (hv : x.2.2 = .mk k n t l) : subG (ts.map TS.gi) (normG true 0 step) = ([], 0) := by
  unfold subG
  rw [gi_key, ← pk_fst, h]
  split
  · show (((ts.map TS.gi)[j]?).map _).getD _ = _
    rw [List.getElem?_map, hx]
    show kidsG (TS.gi x).val = _
    rw [show (TS.gi x).val = x.2.2 from rfl, hv, kidsG, if_neg hk]
  · rfl
theorem AtSt.own_ge {n0 : Nat} {W : World} {p0 q b mb : Nat} {C : GV → GV} {sv : Value} {ts : List TS} {nx bk bn : Int} {bt : ByteArray} {bA : Option Addr} {bl bc : Nat} (h : AtSt n0 W p0 q C b mb sv ts nx bk bn bt bA bl bc) (j : Nat) (hj : ownL b mb sv j) : n0 ≤ j := by
  obtain ⟨R, F, G, h1, _, _, h4⟩ := h.ex
  exact h4 j (.inl (h1.hF.2 j hj))
theorem val_fin {w' wz w5 w6 : World} {F5 : Nat → Prop} {k n : Int} {t : ByteArray} {l : List GI} {e : Ending} (hz : Blk wz (w'.heap.size + 1) 25 #[.int .i64 0, .int .i64 0, .string ⟨#[]⟩, .slice none 0 0]) (hb : Below w'.heap.size w' wz) (hn : w'.heap.size + 2 ≤ wz.heap.size) (hb5 : Below wz.heap.size wz w5)
    (hF : ∀ j, F5 j → w'.heap.size + 2 ≤ j) (hv : ValP w5 F5 (.mk k n t l) e w6) : ∃ A2 c2, e = .returned (.agg #[.int .i64 k, .int .i64 n, .string t, .slice A2 l.length c2]) ∧ Hid (Blk w6 (w'.heap.size + 1) 25 #[.int .i64 0, .int .i64 0, .string ⟨#[]⟩, .slice none 0 0]) ∧ Hid (VIn w6 (fun b => w'.heap.size + 2 ≤ b ∧ b < w6.heap.size) (.mk k n t l) (.agg #[.int .i64 k, .int .i64 n, .string t, .slice A2 l.length c2])) ∧ Hid (Below w'.heap.size w' w6) := by
  obtain ⟨u, h1, h2, h3⟩ := hv
  obtain ⟨A2, c2, rfl⟩ := h2.form
  have h5 := hb5.size
  have h6 := h3.size
  have h0 := hb.size
  exact ⟨A2, c2, h1, (blk_below hz hb5).keeps h3 (fun hj => by have := hF _ hj; omega), h2.keep (fun b hb => ⟨by omega, hb.2⟩) fun _ _ => rfl, (hb.trans (hb5.mono h0)).trans (h3.below (by omega) (fun j hj => by have := hF j hj; omega))⟩
/-- Where the walk stands behind a step. -/
def StepSt (n0 : Nat) (wp : World) (p0 : Nat) (o : Option (List GI × Int)) (r : List ByteArray) (step text : ByteArray) (hd : Bool) (q : Nat) (room : Bool) (W : World) : Prop :=
  ∃ C b mb sv ts nx bk bn bt bA bl bc, AtSt n0 W p0 q C b mb sv ts nx bk bn bt bA bl bc ∧ WfG (.mk 4 nx ⟨#[]⟩ (ts.map TS.gi)) ∧ Link o room (putO r step hd text (ts.map TS.gi) nx) C ∧ Below n0 wp W
/-- What lies at the root behind the last step. -/
def LastSt (n0 : Nat) (wp : World) (p0 : Nat) (o : Option (List GI × Int)) (room : Bool) (W : World) : Prop :=
  ∃ S G', TreeAt W S p0 G' ∧ (∀ j, S j → n0 ≤ j) ∧ Below n0 wp W ∧ (room = false → o = none) ∧ (room = true → ∃ nx' gs', G' = .mk 4 nx' ⟨#[]⟩ gs' ∧ o = some (gs', nx'))
set_option maxRecDepth 100000 in
set_option maxHeartbeats 8000000 in
theorem uput_any (hBw : B ≤ w.heap.size) (hLib : ∀ w', Below B w w' → LibS w') (m : Int) (hm : ∀ w', Below B w w' → w'.cell? ⟨0, 0, none⟩ = some (.int .i64 m)) {nx0 : Int} {gs0 : List GI} {x : Value} (h : VAt w B (.mk 4 nx0 ⟨#[]⟩ gs0) x) (hg : WfG (.mk 4 nx0 ⟨#[]⟩ gs0))
    (name text : List UInt8) (hname : name.length ≤ 16777216) (htext : text.length ≤ 16777216) (w' : World) (hb : Below B w w') :
    Calls Tryz.prog 28 #[x, .string (mkB name), .string (mkB text)] w' fun e w'' => ∃ y, e = .returned (.tuple #[y, .int .i64 0]) ∧ VIn w'' (fun b => w'.heap.size ≤ b ∧ b < w''.heap.size) (putQ name text (.mk 4 nx0 ⟨#[]⟩ gs0)) y ∧ Below w'.heap.size w' w'' := by
  obtain ⟨A, c, rfl⟩ := (VIn.of h).form
  have hB' : B ≤ w'.heap.size := Nat.le_trans hBw hb.size
  have HPa := Lib.hid (fun wz (hz : Below B w wz) => Up.path_any name hname wz (hLib wz hz) m (hm wz hz))
  have HGr := Lib.hid (fun wz (hz : Below B w wz) => grown_any hBw hLib h hg wz hz)
  have HVal := Lib.hid (fun wz F p G (hT : TreeAt wz F p G) => value_any hT.lim wz F p hT)
  have HLib := Lib.hid hLib
  have Hb := Lib.hid hb
  have HWf := Lib.hid hg
  have hsz : ((w'.alloc (.cells #[.int .i64 4, .int .i64 nx0, .string ⟨#[]⟩, .slice A gs0.length c] 25)).alloc (.cells #[.int .i64 0, .int .i64 0, .string ⟨#[]⟩, .slice none 0 0] 25)).heap.size = w'.heap.size + 2 := by simp
  have hal := fun (w1 : World) (o : Obj) => (Below.refl w1.heap.size w1).alloc (Nat.le_refl _) o
  have HBa := Lib.hid ((hal w' (.cells #[.int .i64 4, .int .i64 nx0, .string ⟨#[]⟩, .slice A gs0.length c] 25)).alloc (by simp) (.cells #[.int .i64 0, .int .i64 0, .string ⟨#[]⟩, .slice none 0 0] 25))
  have HXa := Lib.hid (blk_below (Blk.new w' 25 #[.int .i64 4, .int .i64 nx0, .string ⟨#[]⟩, .slice A gs0.length c]) (hal _ (.cells #[.int .i64 0, .int .i64 0, .string ⟨#[]⟩, .slice none 0 0] 25)))
  have hz0 := Blk.new (w'.alloc (.cells #[.int .i64 4, .int .i64 nx0, .string ⟨#[]⟩, .slice A gs0.length c] 25)) 25 #[.int .i64 0, .int .i64 0, .string ⟨#[]⟩, .slice none 0 0]
  rw [show (w'.alloc (.cells #[.int .i64 4, .int .i64 nx0, .string ⟨#[]⟩, .slice A gs0.length c] 25)).heap.size = w'.heap.size + 1 by simp] at hz0
  have HZa := Lib.hid hz0
  have hbz := Lib.hid (hb.trans (HBa.out.mono hB'))
  have Hsz := Lib.hid hsz
  have HAL := Lib.hid hal
  unfold putQ
  obtain ⟨H, hH⟩ : ∃ H : ByteArray, mkB (headL name) = H := ⟨_, rfl⟩
  obtain ⟨L, hL⟩ : ∃ L : List ByteArray, (stepsL (restL name)).map mkB = L := ⟨_, rfl⟩
  obtain ⟨T, hT⟩ : ∃ T : ByteArray, mkB text = T := ⟨_, rfl⟩
  have hHs : H.size ≤ 140737488351232 := by
    rw [← hH, mkB_size, headL, List.length_map]
    have := (List.takeWhile_sublist (l := name) (fun c : UInt8 => c != 91)).length_le
    omega
  have hTs : T.size ≤ 140737488351232 := by rw [← hT, mkB_size]; omega
  have hPa : Hid (∀ wz, Below B w wz → Calls Tryz.prog 62 #[.string (mkB name)] wz fun e w2 => ∃ As cs, e = .returned (.tuple #[.string H, .slice As L.length cs]) ∧ w2.ownsRow wz.heap.size 9 1 (.slice As L.length cs) L.length (L.map .string) ∧ Below wz.heap.size wz w2) := fun wz hz => (HPa.out wz hz).mono fun e w2 ⟨As, cs, h1, h2, h3⟩ => by
    have hLl : L.length = (stepsL (restL name)).length := by rw [← hL, List.length_map]
    have hLm : L.map Value.string = (stepsL (restL name)).map fun p => .string (mkB p) := by rw [← hL, List.map_map]; rfl
    rw [hLl, hLm, ← hH]
    exact ⟨As, cs, h1, h2, h3⟩
  have HLs : Hid (∀ (i : Nat) (s : ByteArray), L[i]? = some s → s.size ≤ 140737488351232) := by
    intro i s hs
    have hs := List.mem_of_getElem? hs
    rw [← hL] at hs
    obtain ⟨l, hl, rfl⟩ := List.mem_map.1 hs
    have h1 := stepsL_le _ (restL name) (Nat.le_refl _) l hl
    have h2 := Up.rest_len name
    rw [mkB_size]
    omega
  rw [hH, hL, hT]
  clear hH hL hT HPa hm hLib hb hg h hal hz0 hsz
  generalize mkB name = NM at *
  go_enter Tryz.func28, Tryz.ntmps28
  go_upto_region 1 with fail
  generalize (w'.alloc (.cells #[.int .i64 4, .int .i64 nx0, .string ⟨#[]⟩, .slice A gs0.length c] 25)).alloc (.cells #[.int .i64 0, .int .i64 0, .string ⟨#[]⟩, .slice none 0 0] 25) = wa at *
  have x0 : wa.cell? ⟨w'.heap.size, 0, none⟩ = some (.int .i64 4) := HXa.out.cell 0
  go_upto_region 4 with (go_at_call 62; refine (hPa.out _ hbz.out).mono ?_; rintro e wp ⟨As, cs, rfl, hown, hbp⟩; have HOw := Lib.hid hown; have HBp := Lib.hid hbp; clear hown hbp)
  have hpz := HBp.out.size
  have HZp := Lib.hid (blk_below HZa.out HBp.out)
  have HXp := Lib.hid (blk_below HXa.out HBp.out)
  have hbp := Lib.hid (hbz.out.trans (HBp.out.mono (Nat.le_trans hBw hbz.out.size)))
  have x0 : wp.cell? ⟨w'.heap.size, 0, none⟩ = some (.int .i64 4) := HXp.out.cell 0
  have x1 : wp.cell? ⟨w'.heap.size, 1, none⟩ = some (.int .i64 nx0) := HXp.out.cell 1
  have x2 : wp.cell? ⟨w'.heap.size, 2, none⟩ = some (.string ⟨#[]⟩) := HXp.out.cell 2
  have x3 : wp.cell? ⟨w'.heap.size, 3, none⟩ = some (.slice A gs0.length c) := HXp.out.cell 3
  go_upto_region 5 with (go_at_call 63; refine (HGr.out _ hbp.out).mono ?_; rintro e wg ⟨p0, F0, rfl, hT0, hbg, hF0⟩; have HT0 := Lib.hid hT0; have HBg := Lib.hid hbg; have HF0 := Lib.hid hF0; clear hT0 hbg hF0)
  have HZg := Lib.hid (blk_below HZp.out HBg.out)
  have HXg := Lib.hid (blk_below HXp.out HBg.out)
  have hgz := HBg.out.size
  clear x0 x1 x2 x3 HZa HXa
  have hhz := Hsz.out
  have HEarly : Hid (H = ⟨#[]⟩ ∨ 64 ≤ L.length → ∀ (e : Ending) (w2 : World), ValP wg F0 (.mk 4 nx0 ⟨#[]⟩ gs0) e w2 → ∃ A2 c2, e = .returned (.agg #[.int .i64 4, .int .i64 nx0, .string ⟨#[]⟩, .slice A2 gs0.length c2]) ∧ Hid (Blk w2 (w'.heap.size + 1) 25 #[.int .i64 0, .int .i64 0, .string ⟨#[]⟩, .slice none 0 0]) ∧ Hid (VIn w2 (fun b => wp.heap.size ≤ b ∧ b < w2.heap.size) (putV H L T (.mk 4 nx0 ⟨#[]⟩ gs0)) (.agg #[.int .i64 4, .int .i64 nx0, .string ⟨#[]⟩, .slice A2 gs0.length c2])) ∧ Hid (Below w'.heap.size w' w2)) := by
    intro hc e w2 ⟨u, h1, h2, h3⟩
    have hp : putV H L T (.mk 4 nx0 ⟨#[]⟩ gs0) = .mk 4 nx0 ⟨#[]⟩ gs0 := by unfold putV; rw [if_pos hc]
    obtain ⟨A2, c2, rfl⟩ := h2.form
    rw [hp]
    exact ⟨A2, c2, h1, HZg.out.keeps h3 (fun hj => by have := HF0.out _ hj; omega), h2.keep (fun b hb => ⟨by omega, hb.2⟩) fun _ _ => rfl, (HBa.out.trans (HBp.out.mono HBa.out.size)).trans ((HBg.out.mono (by omega)).trans (h3.below (by omega) (fun j hj => by have := HF0.out j hj; omega)))⟩
  by_cases hH0 : H = ⟨#[]⟩
  · have HE := Lib.hid (HEarly.out (.inl hH0))
    subst hH0
    clear HEarly HGr hPa HLib
    go_wp2_with (go_at_call 64; refine (HVal.out _ _ _ _ HT0.out).mono ?_; intro e w2 hv; obtain ⟨A2, c2, rfl, HZ2, HY, HB2⟩ := HE.out e w2 hv; obtain ⟨⟨z0, z1, z2, z3⟩, zf0, zf1, zf2, zf3⟩ := z8 HZ2.out; clear hv)
    have HF := Lib.hid (fin4 HZ2.out HY.out (by omega) HB2.out rfl)
    generalize (((w2.setCell ⟨w'.heap.size + 1, 0, none⟩ (.int .i64 4)).setCell ⟨w'.heap.size + 1, 1, none⟩ (.int .i64 nx0)).setCell ⟨w'.heap.size + 1, 2, none⟩ (.string ⟨#[]⟩)).setCell ⟨w'.heap.size + 1, 3, none⟩ (.slice A2 gs0.length c2) = wf at *
    have e0 : wf.cell? ⟨w'.heap.size + 1, 0, none⟩ = some (.int .i64 4) := HF.out.1.cell 0
    have e1 : wf.cell? ⟨w'.heap.size + 1, 1, none⟩ = some (.int .i64 nx0) := HF.out.1.cell 1
    have e2 : wf.cell? ⟨w'.heap.size + 1, 2, none⟩ = some (.string ⟨#[]⟩) := HF.out.1.cell 2
    have e3 : wf.cell? ⟨w'.heap.size + 1, 3, none⟩ = some (.slice A2 gs0.length c2) := HF.out.1.cell 3
    refine bodyPost_ret (v := .tuple #[.agg #[.int .i64 4, .int .i64 nx0, .string ⟨#[]⟩, .slice A2 gs0.length c2], .int .i64 0]) (by simp [results, Tryz.results28, go_sem, e0, e1, e2, e3]) rfl ?_
    exact ⟨_, rfl, HF.out.2⟩
  · obtain ⟨hq1, hq2, hq3⟩ := not_empty hH0
    by_cases h64 : 64 ≤ L.length
    · have HE := Lib.hid (HEarly.out (.inr h64))
      have h64I : (64 : Int) ≤ (L.length : Int) := by omega
      clear HEarly HGr hPa HLib
      go_wp2_with (go_at_call 64; refine (HVal.out _ _ _ _ HT0.out).mono ?_; intro e w2 hv; obtain ⟨A2, c2, rfl, HZ2, HY, HB2⟩ := HE.out e w2 hv; obtain ⟨⟨z0, z1, z2, z3⟩, zf0, zf1, zf2, zf3⟩ := z8 HZ2.out; clear hv)
      have HF := Lib.hid (fin4 HZ2.out HY.out (by omega) HB2.out rfl)
      generalize (((w2.setCell ⟨w'.heap.size + 1, 0, none⟩ (.int .i64 4)).setCell ⟨w'.heap.size + 1, 1, none⟩ (.int .i64 nx0)).setCell ⟨w'.heap.size + 1, 2, none⟩ (.string ⟨#[]⟩)).setCell ⟨w'.heap.size + 1, 3, none⟩ (.slice A2 gs0.length c2) = wf at *
      have e0 : wf.cell? ⟨w'.heap.size + 1, 0, none⟩ = some (.int .i64 4) := HF.out.1.cell 0
      have e1 : wf.cell? ⟨w'.heap.size + 1, 1, none⟩ = some (.int .i64 nx0) := HF.out.1.cell 1
      have e2 : wf.cell? ⟨w'.heap.size + 1, 2, none⟩ = some (.string ⟨#[]⟩) := HF.out.1.cell 2
      have e3 : wf.cell? ⟨w'.heap.size + 1, 3, none⟩ = some (.slice A2 gs0.length c2) := HF.out.1.cell 3
      refine bodyPost_ret (v := .tuple #[.agg #[.int .i64 4, .int .i64 nx0, .string ⟨#[]⟩, .slice A2 gs0.length c2], .int .i64 0]) (by simp [results, Tryz.results28, go_sem, e0, e1, e2, e3]) rfl ?_
      exact ⟨_, rfl, HF.out.2⟩
    · have h64I : ¬ (64 : Int) ≤ (L.length : Int) := by omega
      have hL64 : L.length < 64 := by omega
      clear HEarly hPa
      have hpv : putV H L T (.mk 4 nx0 ⟨#[]⟩ gs0) = match putO L H true T gs0 nx0 with | none => .mk 4 nx0 ⟨#[]⟩ gs0 | some p => if 0 ≤ leftV (.mk 4 p.2 ⟨#[]⟩ p.1) 2048 then .mk 4 p.2 ⟨#[]⟩ p.1 else .mk 4 nx0 ⟨#[]⟩ gs0 := by
        unfold putV
        rw [if_neg (fun hc => hc.elim hH0 h64), kidsG, if_pos rfl]
        rfl
      have HPv := Lib.hid hpv
      have HS0 : Hid (StepSt wp.heap.size wp p0 (putO L H true T gs0 nx0) L H T true p0 true wg) := by
        obtain ⟨b, mb, sv, ts, bk, bn, bt, bA, bl, bc, _, e, hA⟩ := AtSt.of_tree HT0.out HF0.out
        have hw := HWf.out
        rw [e] at hw ⊢
        exact ⟨id, b, mb, sv, ts, nx0, bk, bn, bt, bA, bl, bc, hA, hw, Link.start _, HBg.out⟩
      generalize putO L H true T gs0 nx0 = o at *
      obtain ⟨G1, hGe⟩ : ∃ z, putV H L T (.mk 4 nx0 ⟨#[]⟩ gs0) = z := ⟨_, rfl⟩
      have HGe := Lib.hid hGe
      rw [hGe] at HPv
      clear hGe
      clear hpv
      go_wp2_with fail
      go_loopw [11, 12, 13, 43] (fun x11 x12 x13 x43 wx => ∃ (i q : Nat) (step : ByteArray) (room : Bool), i ≤ L.length ∧ x43 = .int .i64 i ∧ x11 = .pointer (some ⟨q, 0, none⟩) ∧ x12 = .string step ∧ x13 = .bool room ∧ step.size ≤ 140737488351232 ∧ Hid (StepSt wp.heap.size wp p0 o (L.drop i) step T (decide (i = 0)) q room wx)) (fun _ _ _ x43 _ => L.length - (ixO x43).toNat)
      case atStart => exact ⟨0, p0, H, true, Nat.zero_le _, rfl, rfl, rfl, rfl, hHs, HS0⟩
      case round =>
        clear HS0 hq1 hq2 hq3 HT0 HF0 hH0 h64 h64I hHs
        obtain ⟨i, q, step, room, hi, rfl, rfl, rfl, rfl, hst, HS⟩ := hrel
        by_cases hlt : i < L.length
        · obtain ⟨s, hs⟩ : ∃ s, L[i]? = some s := ⟨_, List.getElem?_eq_getElem hlt⟩
          have hss := HLs.out i s hs
          have hdr : L.drop i = s :: L.drop (i + 1) := by
            obtain ⟨h1, h2⟩ := List.getElem?_eq_some_iff.1 hs
            rw [List.drop_eq_getElem_cons h1, h2]
          obtain ⟨gr, cap, hAs, _, hgr⟩ := HOw.out.form (by omega)
          obtain ⟨rfl, rfl⟩ : As = some ⟨gr, 0, none⟩ ∧ cs = cap := by
            injection hAs with h1 h2 h3
            exact ⟨h1, h3⟩
          obtain ⟨C, b, mb, sv, ts, nx, bk, bn, bt, bA, bl, bc, hA, hwf, hlk, hbl⟩ := HS.out
          rw [hdr] at hlk
          have hcs : wr.cell? ⟨gr, i, none⟩ = some (.string s) := by
            have h1 := addr_add0 (HOw.out.cells (g := gr) rfl i (.string s) (by rw [List.getElem?_map, hs]; rfl))
            exact (hbl.cell (p := ⟨gr, i, none⟩) hgr).trans h1
          have hc0 : wr.cell? ⟨q, 0, none⟩ = some (.pointer (some ⟨b, 0, none⟩)) := hA.blk.cell 0
          have hbw : Below B w wr := hbp.out.trans (hbl.mono (Nat.le_trans hBw hbp.out.size))
          have hBr : B ≤ wr.heap.size := Nat.le_trans hBw hbw.size
          have hgc := get_cases HLib.out wr hbw hA.list hBr step hst (by simpa using hA.len)
          have hlt' : (i : Int) < (L.length : Int) := by omega
          have HGc := Lib.hid hgc
          have HA := Lib.hid hA
          have HLk := Lib.hid hlk
          have Hbl := Lib.hid hbl
          have HWr := Lib.hid hwf
          have Hbw := Lib.hid hbw
          have HHs := Lib.hid hs
          clear hgc hA hlk hbl hwf hbw HS hs hdr
          go_upto_region 11 with fail
          go_cut [16, 17] (fun x16 x17 wx => Hid (Below wr.heap.size wr wx) ∧ ((x17 = .bool false ∧ x16 = .pointer none ∧ Hid (findK ((ts.map TS.pk).map Prod.fst) (normG true 0 step) 0 < 0)) ∨ ∃ q1, x17 = .bool true ∧ x16 = .pointer (some ⟨q1, 0, none⟩) ∧ Hid (∃ j, findK ((ts.map TS.pk).map Prod.fst) (normG true 0 step) 0 = Int.ofNat j ∧ (ts.map TS.pk)[j]? = some (normG true 0 step, q1))))
          case first =>
            by_cases hf : findK ((ts.map TS.pk).map Prod.fst) (normG true 0 step) 0 < 0
            · have HG1 := Lib.hid (HGc.out.1 hf)
              have Hf := Lib.hid hf
              clear HGc hf HGr
              go_wp2_with (go_at_call 65; refine HG1.out.mono ?_; rintro e wx ⟨rfl, hbx⟩)
              go_meet
              case rel => exact ⟨hbx, .inl ⟨by trivial, by trivial, Hf⟩⟩
            · obtain ⟨_, hat⟩ := findK_at ((ts.map TS.pk).map Prod.fst) (normG true 0 step) 0 (by omega) (by omega)
              rw [List.getElem?_map, Int.sub_zero] at hat
              obtain ⟨⟨k0, q1⟩, hp0, hkey⟩ := Option.map_eq_some_iff.1 hat
              have hkey : k0 = normG true 0 step := hkey
              subst hkey
              have hj : findK ((ts.map TS.pk).map Prod.fst) (normG true 0 step) 0 = Int.ofNat (findK ((ts.map TS.pk).map Prod.fst) (normG true 0 step) 0).toNat := (Int.toNat_of_nonneg (by omega)).symm
              have HG1 := Lib.hid (HGc.out.2 _ q1 hj hp0)
              have Hf : Hid (∃ j, findK ((ts.map TS.pk).map Prod.fst) (normG true 0 step) 0 = Int.ofNat j ∧ (ts.map TS.pk)[j]? = some (normG true 0 step, q1)) := ⟨_, hj, hp0⟩
              clear HGc hf HGr hat hp0 hj
              go_wp2_with (go_at_call 65; refine HG1.out.mono ?_; rintro e wx ⟨rfl, hbx⟩)
              go_meet
              case rel => exact ⟨hbx, .inr ⟨q1, by trivial, by trivial, Hf⟩⟩
          case rest =>
            obtain ⟨HBx, hx⟩ := hcut
            have HAx := Lib.hid (HA.out.under HBx.out)
            clear HGc hc0 hcs
            go_upto_region 12 with fail
            go_cut [74] (fun x74 wx => wx = wc ∧ ((x74 = .bool true ∧ Hid ((if step = ⟨#[]⟩ ∧ decide (i = 0) = false then ([], 0) else subG (ts.map TS.gi) (normG true 0 step)) = (([], 0) : List GI × Int))) ∨ ∃ q1, x74 = .bool false ∧ u16 = .pointer (some ⟨q1, 0, none⟩) ∧ Hid (StepSt wp.heap.size wp p0 o (L.drop (i + 1)) s T false q1 room wc)))
            case first =>
              rcases hx with ⟨rfl, rfl, Hf⟩ | ⟨q1, rfl, rfl, Hf⟩
              · have Hsub : Hid ((if step = ⟨#[]⟩ ∧ decide (i = 0) = false then ([], 0) else subG (ts.map TS.gi) (normG true 0 step)) = (([], 0) : List GI × Int)) := by
                  show _ = _
                  split
                  · rfl
                  · exact sub_none Hf.out
                clear Hf HGr
                go_wp2_with fail
                go_meet
                case rel => exact ⟨rfl, .inl ⟨by trivial, Hsub⟩⟩
              · obtain ⟨j, hf, hps⟩ := Hf.out
                rw [List.getElem?_map] at hps
                obtain ⟨⟨k0, q0, gx⟩, hx0, hpk⟩ := Option.map_eq_some_iff.1 hps
                have hpk : (k0, q0) = (normG true 0 step, q1) := hpk
                injection hpk with e1 e2
                subst e1 e2
                by_cases hc : step = ⟨#[]⟩ ∧ i ≠ 0
                · obtain ⟨rfl, hi0⟩ := hc
                  have Hsub : Hid ((if (⟨#[]⟩ : ByteArray) = ⟨#[]⟩ ∧ decide (i = 0) = false then ([], 0) else subG (ts.map TS.gi) (normG true 0 ⟨#[]⟩)) = (([], 0) : List GI × Int)) := by
                    show _ = _
                    rw [if_pos ⟨rfl, decide_eq_false hi0⟩]
                  have hiI : (0 : Int) < (i : Int) := by omega
                  clear Hf hf hps hx0 HGr hpk
                  go_wp2_with fail
                  go_meet
                  case rel => exact ⟨rfl, .inl ⟨by trivial, Hsub⟩⟩
                · have hne : ¬ (step = ⟨#[]⟩ ∧ decide (i = 0) = false) := fun h => hc ⟨h.1, of_decide_eq_false h.2⟩
                  rcases HAx.out.kid hx0 with ⟨k, n, t, A', c', hk, hv, hbl⟩ | ⟨b', mb', sv', ts', nx', bk', bn', bt', bA', bl', bc', hv, hA'⟩
                  · have Hsub : Hid ((if step = ⟨#[]⟩ ∧ decide (i = 0) = false then ([], 0) else subG (ts.map TS.gi) (normG true 0 step)) = (([], 0) : List GI × Int)) := by
                      show _ = _
                      rw [if_neg hne]
                      exact sub_leaf hf hx0 hk hv
                    have hc0 : wc.cell? ⟨q0, 0, none⟩ = some (.pointer none) := hbl.cell 0
                    clear Hf hf hps hx0 HGr hpk hv hbl hne
                    by_cases hs0 : step = ⟨#[]⟩
                    · obtain rfl : i = 0 := Classical.byContradiction fun h => hc ⟨hs0, h⟩
                      subst hs0
                      clear hc
                      go_wp2_with fail
                      go_meet
                      case rel => exact ⟨rfl, .inl ⟨by trivial, Hsub⟩⟩
                    · obtain ⟨hq1, hq2, hq3⟩ := not_empty hs0
                      clear hc
                      go_wp2_with fail
                      go_meet
                      case rel => exact ⟨rfl, .inl ⟨by trivial, Hsub⟩⟩
                  · have HSt : Hid (StepSt wp.heap.size wp p0 o (L.drop (i + 1)) s T false q0 room wc) := by
                      have hwk : WfG (.mk 4 nx' ⟨#[]⟩ (ts'.map TS.gi)) := by
                        have h1 := HWr.out.kids.2.2.2.2 j (TS.gi (normG true 0 step, q0, gx)) (by rw [List.getElem?_map, hx0]; rfl)
                        rw [← hv]
                        exact h1
                      refine ⟨_, b', mb', sv', ts', nx', bk', bn', bt', bA', bl', bc', hA', hwk, ?_, Hbl.out.trans (HBx.out.mono Hbl.out.size)⟩
                      refine HLk.out.child (j := j) (it := TS.gi (normG true 0 step, q0, gx)) (t1 := ⟨#[]⟩) hne ?_ (by rw [List.getElem?_map, hx0]; rfl) (by rw [← hv]; rfl)
                      rw [gi_key, ← pk_fst]
                      exact hf
                    have hc0 : wc.cell? ⟨q0, 0, none⟩ = some (.pointer (some ⟨b', 0, none⟩)) := hA'.blk.cell 0
                    clear Hf hf hps hx0 HGr hpk hv hA' hne
                    by_cases hs0 : step = ⟨#[]⟩
                    · obtain rfl : i = 0 := Classical.byContradiction fun h => hc ⟨hs0, h⟩
                      subst hs0
                      clear hc
                      go_wp2_with fail
                      go_meet
                      case rel => exact ⟨rfl, .inr ⟨q0, by trivial, by trivial, HSt⟩⟩
                    · obtain ⟨hq1, hq2, hq3⟩ := not_empty hs0
                      clear hc
                      go_wp2_with fail
                      go_meet
                      case rel => exact ⟨rfl, .inr ⟨q0, by trivial, by trivial, HSt⟩⟩
            case rest =>
              obtain ⟨rfl, hx2⟩ := hcut
              clear hx
              go_upto_if 74 with fail
              go_cut [13, 16] (fun x13 x16 wx => ∃ q1 room1, x13 = .bool room1 ∧ x16 = .pointer (some ⟨q1, 0, none⟩) ∧ Hid (StepSt wp.heap.size wp p0 o (L.drop (i + 1)) s T false q1 room1 wx))
              case first =>
                rcases hx2 with ⟨rfl, Hsub⟩ | ⟨q1, rfl, rfl, HSt⟩
                · have HN := Lib.hid (new_any wc)
                  clear HGr
                  go_upto_region 14 with (go_at_call 66; refine HN.out.mono ?_; rintro e wn ⟨rfl, hLn, hbn, hsn⟩; have HLn := Lib.hid hLn; have HBn := Lib.hid hbn; have HSn := Lib.hid hsn; clear hLn hbn hsn)
                  have hnb := HAL.out wn (.cells #[.pointer (some ⟨wc.heap.size + 1, 0, none⟩), .int .i64 0, .int .i64 0, .string ⟨#[]⟩, .slice none 0 0] 106)
                  have hxb := Blk.new wn 106 #[.pointer (some ⟨wc.heap.size + 1, 0, none⟩), .int .i64 0, .int .i64 0, .string ⟨#[]⟩, .slice none 0 0]
                  have hxn : wc.heap.size ≤ wn.heap.size := HBn.out.size
                  generalize wn.alloc (.cells #[.pointer (some ⟨wc.heap.size + 1, 0, none⟩), .int .i64 0, .int .i64 0, .string ⟨#[]⟩, .slice none 0 0] 106) = WX at *
                  have hcx : Below wc.heap.size wc WX := HBn.out.trans (hnb.mono HBn.out.size)
                  obtain ⟨Fx, hTx, hFx⟩ := tree_new (W := wc) (HLn.out.below hnb) hxb (Nat.le_succ _) (Nat.le_refl _) hxn
                  have hrc := HBx.out.size
                  have hnr : wp.heap.size ≤ wc.heap.size := Nat.le_trans Hbl.out.size hrc
                  have hwX : Below B w WX := (Hbw.out.trans (HBx.out.mono hBr)).trans (hcx.mono (by omega))
                  have hAX := HAx.out.under hcx
                  have HPc := Lib.hid (put_cases HLib.out WX hwX hAX.list (Nat.le_trans hBw hwX.size) hAX.blk hAX.base step (decide (i = 0)) hst wn.heap.size (by simpa using HAx.out.len) HWr.out.in64)
                  have HHo := Lib.hid (fun (W3 : World) (hb3 : Below WX.heap.size WX W3) => HAx.out.fail hnr (hcx.trans (hb3.mono hcx.size)) (hTx.under hb3) hFx)
                  have HPu := Lib.hid (fun (W3 : World) (hk : Keeps (ownL b mb sv) WX W3) (sv' : Value) (ps' : List PK) (nx' : Int) (k : Key3) (hL2 : LstP W3 b mb false sv' ps' nx') (hset : setP (ts.map TS.pk) nx k wn.heap.size = some (ps', nx')) (ht : ∀ j, ownL b mb sv' j → turnL WX.heap.size b mb sv j) => HAx.out.put hnr hcx hTx hFx hk hL2 hset ht)
                  have HBlc := Lib.hid (Hbl.out.trans ((HBx.out.trans (hcx.mono hrc)).mono Hbl.out.size))
                  have HszX := Lib.hid (Nat.le_trans hnr hcx.size)
                  clear hnb hxb hcx hTx hFx hAX hwX HN HLn HBn HSn
                  obtain ⟨hd, hhd⟩ : ∃ b, decide (i = 0) = b := ⟨_, rfl⟩
                  have hb0 : ((i : Int) == 0) = hd := by rw [← hhd, Bool.eq_iff_iff]; simp
                  rw [hhd] at HPc HLk Hsub
                  clear hhd
                  by_cases hno : ∀ k, keyT step hd nx = some k → setP (ts.map TS.pk) nx k wn.heap.size = none
                  · have HP1 := Lib.hid (HPc.out.1 hno)
                    have HNo := Lib.hid hno
                    clear HPc HPu hno
                    go_wp2_with (go_at_call 67; refine HP1.out.mono ?_; rintro e w3 ⟨rfl, hb3⟩)
                    go_meet
                    case rel =>
                      obtain ⟨b', mb', sv', ts', bk', bn', bt', bA', bl', bc', _, e2, hA3⟩ := HHo.out _ hb3
                      have e3 : ts'.map TS.gi = [] := e2.symm
                      refine ⟨_, false, by trivial, by trivial, ⟨_, b', mb', sv', ts', 0, bk', bn', bt', bA', bl', bc', hA3, by rw [e3]; exact .empty, HLk.out.fail fun k hk v => setP_none (HNo.out k hk) v, HBlc.out.trans (hb3.mono HszX.out)⟩⟩
                  · obtain ⟨k, ps', nx', hkt, hset⟩ : ∃ k ps' nx', keyT step hd nx = some k ∧ setP (ts.map TS.pk) nx k wn.heap.size = some (ps', nx') := by
                      refine Classical.byContradiction fun hn => hno fun k hk => ?_
                      cases hs : setP (ts.map TS.pk) nx k wn.heap.size with
                      | none => rfl
                      | some r => exact absurd ⟨k, r.1, r.2, hk, hs⟩ hn
                    have HP1 := Lib.hid (HPc.out.2 k ps' nx' hkt hset)
                    have HKt := Lib.hid hkt
                    have HSet := Lib.hid hset
                    clear HPc HHo hno hkt hset
                    go_wp2_with (go_at_call 67; refine HP1.out.mono ?_; rintro e w3 ⟨rfl, hk3, sv', hL3, ht3⟩)
                    go_meet
                    case rel =>
                      obtain ⟨i', ts2, hi', hset', hA3⟩ := HPu.out _ hk3 sv' ps' nx' k hL3 HSet.out ht3
                      rcases hA3.kid hi' with ⟨k1, n1, t1, A1, c1, hk1, hv1, _⟩ | ⟨b', mb', sv2, ts', nx2, bk', bn', bt', bA', bl', bc', hv1, hA4⟩
                      · injection hv1 with e1
                        exact absurd e1.symm hk1
                      · have e3 : ts'.map TS.gi = [] := by injection hv1 with _ _ _ e4; exact e4.symm
                        have e5 : nx2 = 0 := by injection hv1 with _ e4; exact e4.symm
                        subst e5
                        refine ⟨_, room, by trivial, by trivial, ⟨_, b', mb', sv2, ts', 0, bk', bn', bt', bA', bl', bc', hA4, by rw [e3]; exact .empty, ?_, HBlc.out.trans (hk3.below HszX.out HA.out.own_ge)⟩⟩
                        rw [e3]
                        exact HLk.out.new (G := fun v => (ts2.map TS.gi).set i' (giOf (normG k.1 k.2.1 k.2.2) v)) Hsub.out HKt.out hset'
                · clear HGr
                  go_wp2_with fail
                  go_meet
                  case rel => exact ⟨q1, room, by trivial, by trivial, HSt⟩
              case rest =>
                obtain ⟨q1, room1, rfl, rfl, HSt⟩ := hcut
                clear HGr
                go_wp2_with fail
                go_roundw
                case rel => exact ⟨i + 1, q1, s, room1, by omega, by go_num, by trivial, by trivial, by trivial, hss, by simpa using HSt⟩
                case measure => simp [ixO] <;> omega
        · obtain rfl : i = L.length := by omega
          obtain ⟨C, b, mb, sv, ts, nx, bk, bn, bt, bA, bl, bc, hA, hwf, hlk, hbl⟩ := HS.out
          rw [List.drop_length] at hlk
          have hbw : Below B w wr := hbp.out.trans (hbl.mono (Nat.le_trans hBw hbp.out.size))
          have hBr : B ≤ wr.heap.size := Nat.le_trans hBw hbw.size
          obtain ⟨hd, hhd⟩ : ∃ b, decide (L.length = 0) = b := ⟨_, rfl⟩
          have hb0 : ((L.length : Int) == 0) = hd := by rw [← hhd, Bool.eq_iff_iff]; simp
          rw [hhd] at hlk
          have hnb := HAL.out wr (.cells #[.pointer none, .int .i64 3, .int .i64 0, .string T, .slice none 0 0] 106)
          have hxb := Blk.new wr 106 #[.pointer none, .int .i64 3, .int .i64 0, .string T, .slice none 0 0]
          obtain ⟨WX, hWX⟩ : ∃ z, wr.alloc (.cells #[.pointer none, .int .i64 3, .int .i64 0, .string T, .slice none 0 0] 106) = z := ⟨_, rfl⟩
          have HWX := Lib.hid hWX
          rw [hWX] at hnb hxb
          obtain ⟨Fx, hTx, hFx⟩ := leaf_new (W := wr) hxb (Nat.le_refl _)
          have hnr : wp.heap.size ≤ wr.heap.size := hbl.size
          have hwX : Below B w WX := hbw.trans (hnb.mono hBr)
          have hAX := hA.under hnb
          have HPc := Lib.hid (put_cases HLib.out WX hwX hAX.list (Nat.le_trans hBw hwX.size) hAX.blk hAX.base step hd hst wr.heap.size (by simpa using hA.len) hwf.in64)
          have HPu := Lib.hid (fun (W3 : World) (hk : Keeps (ownL b mb sv) WX W3) (sv' : Value) (ps' : List PK) (nx' : Int) (k : Key3) (hL2 : LstP W3 b mb false sv' ps' nx') (hset : setP (ts.map TS.pk) nx k wr.heap.size = some (ps', nx')) (ht : ∀ j, ownL b mb sv' j → turnL WX.heap.size b mb sv j) => hA.put hnr hnb hTx hFx hk hL2 hset ht)
          have HLk := Lib.hid hlk
          have HBlc := Lib.hid (hbl.trans (hnb.mono hnr))
          have HszX := Lib.hid (Nat.le_trans hnr hnb.size)
          have HA := Lib.hid hAX
          clear hhd hnb hxb hWX hTx hFx hnr hwX hAX hlk hbl hA hwf HS hlt hbw hi
          go_upto_region 17 with fail
          go_cut [13] (fun x13 wx => ∃ room1, x13 = .bool room1 ∧ Hid (LastSt wp.heap.size wp p0 o room1 wx))
          case first =>
            have hWX := HWX.out
            by_cases hno : ∀ k, keyT step hd nx = some k → setP (ts.map TS.pk) nx k wr.heap.size = none
            · have HP1 := Lib.hid (HPc.out.1 hno)
              have HNo := Lib.hid hno
              clear HPc HPu hno HGr hWX
              go_wp2_with (go_at_call 67; rw [HWX.out]; refine HP1.out.mono ?_; rintro e w3 ⟨rfl, hb3⟩)
              go_meet
              case rel =>
                obtain ⟨S, hS, hS2⟩ := (HA.out.under hb3).root
                exact ⟨false, by trivial, ⟨S, _, hS, hS2, HBlc.out.trans (hb3.mono HszX.out), fun _ => HLk.out.last_fail fun k hk v => setP_none (HNo.out k hk) v, fun h => by cases h⟩⟩
            · obtain ⟨k, ps', nx', hkt, hset⟩ : ∃ k ps' nx', keyT step hd nx = some k ∧ setP (ts.map TS.pk) nx k wr.heap.size = some (ps', nx') := by
                refine Classical.byContradiction fun hn => hno fun k hk => ?_
                cases hs : setP (ts.map TS.pk) nx k wr.heap.size with
                | none => rfl
                | some r => exact absurd ⟨k, r.1, r.2, hk, hs⟩ hn
              have HP1 := Lib.hid (HPc.out.2 k ps' nx' hkt hset)
              have HKt := Lib.hid hkt
              have HSet := Lib.hid hset
              clear HPc hno hkt hset HGr hWX
              go_wp2_with (go_at_call 67; rw [HWX.out]; refine HP1.out.mono ?_; rintro e w3 ⟨rfl, hk3, sv', hL3, ht3⟩)
              go_meet
              case rel =>
                obtain ⟨i', ts2, hi', hset', hA3⟩ := HPu.out _ hk3 sv' ps' nx' k hL3 HSet.out ht3
                obtain ⟨S, hS, hS2⟩ := hA3.root
                obtain ⟨hl1, hl2⟩ := HLk.out.last (G := fun v => (ts2.map TS.gi).set i' (giOf (normG k.1 k.2.1 k.2.2) v)) HKt.out hset'
                have hself : (ts2.map TS.gi).set i' (giOf (normG k.1 k.2.1 k.2.2) (leafG T)) = ts2.map TS.gi := by
                  refine List.ext_getElem? fun j => ?_
                  rw [List.getElem?_set]
                  split
                  · rename_i e
                    subst e
                    rw [List.getElem?_map, hi']
                    have := (List.getElem?_eq_some_iff.1 hi').1
                    simp [this]
                    rfl
                  · rfl
                rw [hself] at hl2
                exact ⟨room, by trivial, ⟨S, _, hS, hS2, HBlc.out.trans (hk3.below HszX.out HA.out.own_ge), hl1, hl2⟩⟩
          case rest =>
            obtain ⟨room1, rfl, HL⟩ := hcut
            clear HPc HPu HLk HA HWX HBlc HszX hb0
            obtain ⟨S, ⟨k1, n1, t1, l1⟩, hTr, hSg, hbr, hr0, hr1⟩ := HL.out
            have HV1 : Hid (Calls Tryz.prog 64 #[.pointer (some ⟨p0, 0, none⟩)] wc fun e w2 => ∃ A2 c2, e = .returned (.agg #[.int .i64 k1, .int .i64 n1, .string t1, .slice A2 l1.length c2]) ∧ VIn w2 (fun b => wc.heap.size ≤ b ∧ b < w2.heap.size) (.mk k1 n1 t1 l1) (.agg #[.int .i64 k1, .int .i64 n1, .string t1, .slice A2 l1.length c2]) ∧ Keeps S wc w2) := (HVal.out wc S p0 _ hTr).mono fun e w2 ⟨u, h1, h2, h3⟩ => by
              have h2' : VIn w2 (fun b => wc.heap.size ≤ b ∧ b < w2.heap.size) (.mk k1 n1 t1 l1) u := h2
              obtain ⟨A2, c2, rfl⟩ := h2'.form
              exact ⟨A2, c2, h1, h2', h3⟩
            have HSg := Lib.hid hSg
            have Hbr := Lib.hid hbr
            have Hr0 := Lib.hid hr0
            have Hr1 := Lib.hid hr1
            clear HL hTr hSg hbr hr0 hr1
            go_upto_region 19 with (go_at_call 64; refine HV1.out.mono ?_; rintro e w2 ⟨A2, c2, rfl, hy, hk2⟩; have HY2 := Lib.hid hy; have HK2 := Lib.hid hk2; clear hy hk2)
            have hcz := Hbr.out.size
            have hk2s := HK2.out.size
            have hB2 : Below wp.heap.size wp w2 := Hbr.out.trans (HK2.out.below hcz HSg.out)
            have HT3 := Lib.hid (Blk.new w2 25 #[.int .i64 k1, .int .i64 n1, .string t1, .slice A2 l1.length c2])
            have hn3 : (w2.alloc (.cells #[.int .i64 k1, .int .i64 n1, .string t1, .slice A2 l1.length c2] 25)).heap.size = w2.heap.size + 1 := by simp
            have HB3 := Lib.hid (hB2.alloc (by omega) (.cells #[.int .i64 k1, .int .i64 n1, .string t1, .slice A2 l1.length c2] 25))
            have HY3 := Lib.hid (HY2.out.under (B := w2.heap.size) (HAL.out w2 (.cells #[.int .i64 k1, .int .i64 n1, .string t1, .slice A2 l1.length c2] 25)) (fun b hb => hb.2))
            clear HV1 HY2 HK2 hB2
            generalize w2.alloc (.cells #[.int .i64 k1, .int .i64 n1, .string t1, .slice A2 l1.length c2] 25) = w3 at *
            have HX3 := Lib.hid (HXp.out.below HB3.out HXp.out.lt)
            have HZ3 := Lib.hid (HZp.out.below HB3.out HZp.out.lt)
            have hbw3 := Lib.hid (hbp.out.trans (HB3.out.mono (Nat.le_trans hBw hbp.out.size)))
            have hB'3 := Lib.hid ((HBa.out.trans (HBp.out.mono HBa.out.size)).trans (HB3.out.mono (by omega)))
            have hn3' : w'.heap.size + 2 ≤ w3.heap.size := by omega
            cases room1 with
            | false =>
              have hG : G1 = .mk 4 nx0 ⟨#[]⟩ gs0 := by rw [HPv.out, Hr0.out rfl]
              subst hG
              have x0 : w3.cell? ⟨w'.heap.size, 0, none⟩ = some (.int .i64 4) := HX3.out.cell 0
              have x1 : w3.cell? ⟨w'.heap.size, 1, none⟩ = some (.int .i64 nx0) := HX3.out.cell 1
              have x2 : w3.cell? ⟨w'.heap.size, 2, none⟩ = some (.string ⟨#[]⟩) := HX3.out.cell 2
              have x3 : w3.cell? ⟨w'.heap.size, 3, none⟩ = some (.slice A gs0.length c) := HX3.out.cell 3
              have hn3 := Lib.hid hn3
              clear Hr0 Hr1 HPv HY3 HT3
              go_wp2_with (first | (go_at_call 63; refine (HGr.out _ hbw3.out).mono ?_; rintro e w5 ⟨p5, F5, rfl, hT5, hb5, hF5⟩; have HT5 := Lib.hid hT5; have HB5 := Lib.hid hb5; have HF5 := Lib.hid hF5; clear hT5 hb5 hF5) | (go_at_call 64; refine (HVal.out _ _ _ _ HT5.out).mono ?_; intro e w6 hv; obtain ⟨A2, c2, rfl, HZ2, HY, HB2⟩ := val_fin HZ3.out hB'3.out hn3' HB5.out (fun j hj => Nat.le_trans hn3' (HF5.out j hj)) hv; obtain ⟨⟨z0, z1, z2, z3⟩, zf0, zf1, zf2, zf3⟩ := z8 HZ2.out; clear hv))
              have HF := Lib.hid (fin4 HZ2.out HY.out (Nat.le_refl _) HB2.out rfl)
              generalize (((w6.setCell ⟨w'.heap.size + 1, 0, none⟩ (.int .i64 4)).setCell ⟨w'.heap.size + 1, 1, none⟩ (.int .i64 nx0)).setCell ⟨w'.heap.size + 1, 2, none⟩ (.string ⟨#[]⟩)).setCell ⟨w'.heap.size + 1, 3, none⟩ (.slice A2 gs0.length c2) = wf at *
              have e0 : wf.cell? ⟨w'.heap.size + 1, 0, none⟩ = some (.int .i64 4) := HF.out.1.cell 0
              have e1 : wf.cell? ⟨w'.heap.size + 1, 1, none⟩ = some (.int .i64 nx0) := HF.out.1.cell 1
              have e2 : wf.cell? ⟨w'.heap.size + 1, 2, none⟩ = some (.string ⟨#[]⟩) := HF.out.1.cell 2
              have e3 : wf.cell? ⟨w'.heap.size + 1, 3, none⟩ = some (.slice A2 gs0.length c2) := HF.out.1.cell 3
              refine bodyPost_ret (v := .tuple #[.agg #[.int .i64 4, .int .i64 nx0, .string ⟨#[]⟩, .slice A2 gs0.length c2], .int .i64 0]) (by simp [results, Tryz.results28, go_sem, e0, e1, e2, e3]) rfl ?_
              exact ⟨_, rfl, by rw [HGe.out]; exact HF.out.2⟩
            | true =>
              obtain ⟨nx2, gs2, hG, hso⟩ := Hr1.out rfl
              injection hG with g1 g2 g3 g4
              subst g1 g2 g3 g4
              have hVA : VAt w3 w2.heap.size (.mk 4 n1 ⟨#[]⟩ l1) (.agg #[.int .i64 4, .int .i64 n1, .string ⟨#[]⟩, .slice A2 l1.length c2]) := HY3.out.at_ (fun b _ hS => hS.2) (fun b hS => by have := hS.2; omega)
              have HM := Lib.hid (many_any (w := w3) (by omega) hVA w3 (Below.refl _ _) 2048 (by decide) (by decide))
              have hn3 := Lib.hid hn3
              have y0 : w3.cell? ⟨w2.heap.size, 0, none⟩ = some (.int .i64 4) := HT3.out.cell 0
              have y1 : w3.cell? ⟨w2.heap.size, 1, none⟩ = some (.int .i64 n1) := HT3.out.cell 1
              have y2 : w3.cell? ⟨w2.heap.size, 2, none⟩ = some (.string ⟨#[]⟩) := HT3.out.cell 2
              have y3 : w3.cell? ⟨w2.heap.size, 3, none⟩ = some (.slice A2 l1.length c2) := HT3.out.cell 3
              have HPo : Hid (G1 = if 0 ≤ leftV (.mk 4 n1 ⟨#[]⟩ l1) 2048 then .mk 4 n1 ⟨#[]⟩ l1 else .mk 4 nx0 ⟨#[]⟩ gs0) := by
                show _ = _
                rw [HPv.out, hso]
              clear Hr0 Hr1 HPv hVA hso
              by_cases hfew : 0 ≤ leftV (.mk 4 n1 ⟨#[]⟩ l1) 2048
              · have hG : G1 = .mk 4 n1 ⟨#[]⟩ l1 := by rw [HPo.out, if_pos hfew]
                subst hG
                clear HPo
                generalize hq : leftV (.mk 4 n1 ⟨#[]⟩ l1) 2048 = LV at *
                have hlv : ¬ LV < 0 := by omega
                clear hq hfew HGr
                go_wp2_with (go_at_call 68; refine HM.out.mono ?_; rintro e w4 ⟨rfl, hle, hb4⟩; have HB4 := Lib.hid hb4; have HT4 := Lib.hid (blk_below HT3.out HB4.out); have HZ4 := Lib.hid (blk_below HZ3.out HB4.out); have HX4 := Lib.hid (blk_below HX3.out HB4.out); obtain ⟨⟨y0', y1', y2', y3'⟩, -⟩ := z8 HT4.out; obtain ⟨⟨z0, z1, z2, z3⟩, zf0, zf1, zf2, zf3⟩ := z8 HZ4.out; clear hb4 hle)
                have HY4 := Lib.hid (HY3.out.under (B := w3.heap.size) HB4.out (fun b hb => by have := hb.2; have := hn3.out; omega))
                have hBY := Lib.hid (hB'3.out.trans (HB4.out.mono hB'3.out.size))
                have hw4s := HB4.out.size
                have hn3o := hn3.out
                have HF := Lib.hid (fin4 HZ4.out (HY4.out.keep (S' := fun b => wc.heap.size ≤ b ∧ b < w4.heap.size) (fun b hb => ⟨hb.1, by have := hb.2; omega⟩) (fun _ _ => rfl)) (by omega) hBY.out rfl)
                generalize (((w4.setCell ⟨w'.heap.size + 1, 0, none⟩ (.int .i64 4)).setCell ⟨w'.heap.size + 1, 1, none⟩ (.int .i64 n1)).setCell ⟨w'.heap.size + 1, 2, none⟩ (.string ⟨#[]⟩)).setCell ⟨w'.heap.size + 1, 3, none⟩ (.slice A2 l1.length c2) = wf at *
                have e0 : wf.cell? ⟨w'.heap.size + 1, 0, none⟩ = some (.int .i64 4) := HF.out.1.cell 0
                have e1 : wf.cell? ⟨w'.heap.size + 1, 1, none⟩ = some (.int .i64 n1) := HF.out.1.cell 1
                have e2 : wf.cell? ⟨w'.heap.size + 1, 2, none⟩ = some (.string ⟨#[]⟩) := HF.out.1.cell 2
                have e3 : wf.cell? ⟨w'.heap.size + 1, 3, none⟩ = some (.slice A2 l1.length c2) := HF.out.1.cell 3
                refine bodyPost_ret (v := .tuple #[.agg #[.int .i64 4, .int .i64 n1, .string ⟨#[]⟩, .slice A2 l1.length c2], .int .i64 0]) (by simp [results, Tryz.results28, go_sem, e0, e1, e2, e3]) rfl ?_
                exact ⟨_, rfl, by rw [HGe.out]; exact HF.out.2⟩
              · have hG : G1 = .mk 4 nx0 ⟨#[]⟩ gs0 := by rw [HPo.out, if_neg hfew]
                subst hG
                clear HPo
                generalize hq : leftV (.mk 4 n1 ⟨#[]⟩ l1) 2048 = LV at *
                have hlv : LV < 0 := by omega
                clear hq hfew
                go_wp2_with (first | (go_at_call 68; refine HM.out.mono ?_; rintro e w4 ⟨rfl, hle, hb4⟩; have HB4 := Lib.hid hb4; have HT4 := Lib.hid (blk_below HT3.out HB4.out); have HZ4 := Lib.hid (blk_below HZ3.out HB4.out); have HX4 := Lib.hid (blk_below HX3.out HB4.out); obtain ⟨⟨x0, x1, x2, x3⟩, -⟩ := z8 HX4.out; have hbw4 := Lib.hid (hbw3.out.trans (HB4.out.mono (Nat.le_trans hBw hbw3.out.size))); have hB'4 := Lib.hid (hB'3.out.trans (HB4.out.mono hB'3.out.size)); have hn4 := Lib.hid (Nat.le_trans hn3' HB4.out.size); clear hb4 hle) | (go_at_call 63; refine (HGr.out _ hbw4.out).mono ?_; rintro e w5 ⟨p5, F5, rfl, hT5, hb5, hF5⟩; have HT5 := Lib.hid hT5; have HB5 := Lib.hid hb5; have HF5 := Lib.hid hF5; clear hT5 hb5 hF5) | (go_at_call 64; refine (HVal.out _ _ _ _ HT5.out).mono ?_; intro e w6 hv; obtain ⟨A2, c2, rfl, HZ2, HY, HB2⟩ := val_fin HZ4.out hB'4.out hn4.out HB5.out (fun j hj => Nat.le_trans hn4.out (HF5.out j hj)) hv; obtain ⟨⟨z0, z1, z2, z3⟩, zf0, zf1, zf2, zf3⟩ := z8 HZ2.out; clear hv))
                have HF := Lib.hid (fin4 HZ2.out HY.out (Nat.le_refl _) HB2.out rfl)
                generalize (((w6.setCell ⟨w'.heap.size + 1, 0, none⟩ (.int .i64 4)).setCell ⟨w'.heap.size + 1, 1, none⟩ (.int .i64 nx0)).setCell ⟨w'.heap.size + 1, 2, none⟩ (.string ⟨#[]⟩)).setCell ⟨w'.heap.size + 1, 3, none⟩ (.slice A2 gs0.length c2) = wf at *
                have e0 : wf.cell? ⟨w'.heap.size + 1, 0, none⟩ = some (.int .i64 4) := HF.out.1.cell 0
                have e1 : wf.cell? ⟨w'.heap.size + 1, 1, none⟩ = some (.int .i64 nx0) := HF.out.1.cell 1
                have e2 : wf.cell? ⟨w'.heap.size + 1, 2, none⟩ = some (.string ⟨#[]⟩) := HF.out.1.cell 2
                have e3 : wf.cell? ⟨w'.heap.size + 1, 3, none⟩ = some (.slice A2 gs0.length c2) := HF.out.1.cell 3
                refine bodyPost_ret (v := .tuple #[.agg #[.int .i64 4, .int .i64 nx0, .string ⟨#[]⟩, .slice A2 gs0.length c2], .int .i64 0]) (by simp [results, Tryz.results28, go_sem, e0, e1, e2, e3]) rfl ?_
                exact ⟨_, rfl, by rw [HGe.out]; exact HF.out.2⟩
end
end Ut
end Go.Proofs.YtgpemnmopogppaaGreatDoor
