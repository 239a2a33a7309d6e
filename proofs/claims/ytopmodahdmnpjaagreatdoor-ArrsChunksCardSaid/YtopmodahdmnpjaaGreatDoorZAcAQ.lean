/- A Go call as a step of a region; how a function is entered. -/
import Derived.Test.YtopmodahdmnpjaaGreatDoorZAppsQ
import Derived.WalkKit
import Derived.RegionTactic
import Derived.Test.YtopmodahdmnpjaaGreatDoorZAsF
import Derived.Test.YtopmodahdmnpjaaGreatDoorZDoF
import Derived.Test.YtopmodahdmnpjaaGreatDoorZDoGrQ
import Derived.Test.YtopmodahdmnpjaaGreatDoorZAsA
namespace Go.Proofs.YtopmodahdmnpjaaGreatDoor
open Go Go.RowKit
namespace Dp
/-- A Go call as a step law for go_region_law. -/
theorem step_callD {P : Program} {ops : Array Oper} {o : Oper} {a : Act} {w : World} {K : Act → World → Prop} {Q : Exit → Act → World → Prop} {E : Prop} (hgd : o.guard = none) (f : FuncId) (xs : Array Operand) (ats : Array TypeId)
    (ho : o.op = .call { callee := .value (.func f), args := xs, argTypes := ats }) (args : Array Value) (hargs : #[] ++ xs.map a.eval ++ #[] = args)
    (eg : (callFunc f args).run P w = .ok (.enter f args) w) (R : Value → World → Prop) (hc : Calls P f args w fun e w' => ∃ v, e = .returned v ∧ R v w')
    (h : ∀ v w', R v w' → K (a.put o.dst v) w') : if Region.wanted o (yielded ops a.tmps) = true then Oper.wp P o a w K Q else E := by
  have hw : Region.wanted o (yielded ops a.tmps) = true := by simp [Region.wanted, hgd]
  rw [if_pos hw]
  obtain ⟨dst, op, ty, pos, after, guard⟩ := o
  simp only at ho hgd
  subst ho hgd
  unfold Oper.wp
  rw [execOp_call_go, hargs, eg, Oper.upon_enter]
  refine hc.mono ?_
  rintro e w' ⟨v, rfl, hR⟩
  exact h v w' hR
theorem enter_ofD {P : Program} {f : FuncId} {fn : Func} {c : Code} (hf : P.funcs[f]? = some fn) (hname : (fn.name == "runtime.NumGoroutine") = false) (hb : fn.body = some c) (args : Array Value) (w : World) : (callFunc f args).run P w = .ok (.enter f args) w := by
  have h1 : fn.name ≠ "runtime.NumGoroutine" := by simpa using hname
  simp [callFunc, hf, h1, hb]
end Dp
end Go.Proofs.YtopmodahdmnpjaaGreatDoor
/- arrs: what array_chunk, array_values and array_merge do with one item; their arguments: the walks. -/
namespace Go.Proofs.YtopmodahdmnpjaaGreatDoor
open Go Go.RowKit
namespace Dp
section
variable {w : World} {B : Nat}
set_option maxRecDepth 100000 in
theorem number2_any (n : Int) (t : ByteArray) (A : Option Addr) (l c : Nat) (w : World) : Calls Tryz.prog 107 #[.agg #[.int .i64 2, .int .i64 n, .string t, .slice A l c]] w fun e w' => e = .returned (.int .i64 n) ∧ Below w.heap.size w w' := by
  have HB := Lib.hid ((Below.refl w.heap.size w).alloc (Nat.le_refl _) (.cells #[.int .i64 2, .int .i64 n, .string t, .slice A l c] 24))
  have HN := Lib.hid (Blk.new w 24 #[.int .i64 2, .int .i64 n, .string t, .slice A l c])
  go_enter Tryz.func107, Tryz.ntmps107
  go_upto_region 1 with fail
  have d0 := HN.out.cell 0
  have d1 := HN.out.cell 1
  generalize w.alloc (.cells #[.int .i64 2, .int .i64 n, .string t, .slice A l c] 24) = wi at *
  go_wp2_with fail
  go_ret
  exact ⟨rfl, HB.out⟩
set_option maxRecDepth 100000 in
theorem n_arg (w : World) (g ac : Nat) (n : Int) (t : ByteArray) (A : Option Addr) (l c : Nat) (h0 : w.cell? ⟨g, 4, none⟩ = some (.int .i64 2)) (h1 : w.cell? ⟨g, 5, none⟩ = some (.int .i64 n)) (h2 : w.cell? ⟨g, 6, none⟩ = some (.string t)) (h3 : w.cell? ⟨g, 7, none⟩ = some (.slice A l c)) :
    Calls Tryz.prog 64 #[.slice (some ⟨g, 0, none⟩) 2 ac, .int .i64 1] w fun e w' => e = .returned (.int .i64 n) ∧ Below w.heap.size w w' := by
  have HC := Lib.hid (number2_any n t A l c w)
  go_enter Tryz.func64, Tryz.ntmps64
  go_wp2_with (go_at_call 107; refine HC.out.mono ?_; rintro e w2 ⟨rfl, hb2⟩)
  go_ret
  exact ⟨rfl, hb2⟩
set_option maxRecDepth 100000 in
theorem flag_arg (w : World) (g ac : Nat) :
    Calls Tryz.prog 100 #[.slice (some ⟨g, 0, none⟩) 2 ac, .int .i64 2] w fun e w' => e = .returned (.bool false) ∧ Below w.heap.size w w' := by
  go_enter Tryz.func100, Tryz.ntmps100
  go_wp2_with fail
  go_ret
  exact ⟨rfl, Below.refl _ _⟩
set_option maxRecDepth 100000 in
theorem items_at (w : World) (g ac L i : Nat) (hi : i < L) (A : Option Addr) (l c : Nat) (k n : Int) (t : ByteArray) (h0 : w.cell? ⟨g, i * 4, none⟩ = some (.int .i64 k)) (h1 : w.cell? ⟨g, i * 4 + 1, none⟩ = some (.int .i64 n)) (h2 : w.cell? ⟨g, i * 4 + 2, none⟩ = some (.string t)) (h3 : w.cell? ⟨g, i * 4 + 3, none⟩ = some (.slice A l c)) :
    Calls Tryz.prog 21 #[.slice (some ⟨g, 0, none⟩) L ac, .int .i64 i] w fun e w' => e = .returned (.slice A l c) ∧ Below w.heap.size w w' := by
  have hI : (i : Int) < (L : Int) := by omega
  go_enter Tryz.func21, Tryz.ntmps21
  go_wp2_with fail
  go_ret
  exact ⟨rfl, Below.refl _ _⟩
set_option maxRecDepth 100000 in
set_option maxHeartbeats 4000000 in
theorem clos_vals (hLib : ∀ w', Below B w w' → LibS w') : ClosApp w B 89 #[] := by
  intro w1 hb hB1 base b mb sv ps nx hL hv hn hnx hnx0 ib ii is k n t l A c hp
  have hal := (Below.refl w1.heap.size w1).alloc (Nat.le_refl _) (.cells #[.bool ib, .int .i64 ii, .string is, .int .i64 k, .int .i64 n, .string t, .slice A l.length c] 34)
  have hbase : base ≤ w1.heap.size := by have := hL.hb; have := hL.blk.lt; omega
  have HI := Lib.hid (Blk.new w1 34 #[.bool ib, .int .i64 ii, .string is, .int .i64 k, .int .i64 n, .string t, .slice A l.length c])
  have HBi := Lib.hid hal
  have HAp := Lib.hid (append_er hLib _ (hb.alloc hB1 (.cells #[.bool ib, .int .i64 ii, .string is, .int .i64 k, .int .i64 n, .string t, .slice A l.length c] 34)) (hL.below hal) (by have := hal.size; omega) k n t l A c hnx0 hp hv hn hnx)
  clear hal hLib hp hv hnx hL hb
  go_enter Tryz.func89, Tryz.ntmps89
  go_upto_region 1 with fail
  have d3 := HI.out.cell 3
  have d4 := HI.out.cell 4
  have d5 := HI.out.cell 5
  have d6 := HI.out.cell 6
  generalize w1.alloc (.cells #[.bool ib, .int .i64 ii, .string is, .int .i64 k, .int .i64 n, .string t, .slice A l.length c] 34) = wi at *
  go_wp2_with (go_at_call 87; refine HAp.out.mono ?_; rintro e w2 ⟨er, u, rfl, hb2, hpo⟩; have HB2 := Lib.hid ((HBi.out.mono hbase).trans hb2); have HP := Lib.hid hpo; clear hb2 hpo; have zK := Blk.new w2 32 #[.bool false, .int .i64 0, .string ⟨#[]⟩]; have z0 := zK.frozen 0; have z1 := zK.frozen 1; have z2 := zK.frozen 2; clear zK)
  go_ret
  have hsz := HB2.out.size
  refine ⟨er, rfl, HB2.out.alloc (by omega) _, ?_⟩
  rcases HP.out with h | ⟨ps', sv', nx', h1, h2, h3, h4⟩
  · exact .inl h
  · exact .inr ⟨ps', sv', nx', h1, h2, h3.below ((Below.refl _ _).alloc (Nat.le_refl _) _), h4⟩
set_option maxRecDepth 100000 in
set_option maxHeartbeats 4000000 in
theorem clos_chunk (hLib : ∀ w', Below B w w' → LibS w') (kb g ac : Nat) (hk : w.cell? ⟨kb, 0, none⟩ = some (.slice (some ⟨g, 0, none⟩) 2 ac)) (hkb : kb < B) : ClosApp w B 110 #[.pointer (some ⟨kb, 0, none⟩)] := by
  intro w1 hb hB1 base b mb sv ps nx hL hv hn hnx hnx0 ib ii is k n t l A c hp
  have hal := (Below.refl w1.heap.size w1).alloc (Nat.le_refl _) (.cells #[.bool ib, .int .i64 ii, .string is, .int .i64 k, .int .i64 n, .string t, .slice A l.length c] 34)
  have hbase : base ≤ w1.heap.size := by have := hL.hb; have := hL.blk.lt; omega
  have HI := Lib.hid (Blk.new w1 34 #[.bool ib, .int .i64 ii, .string is, .int .i64 k, .int .i64 n, .string t, .slice A l.length c])
  have HBi := Lib.hid hal
  have hkc : w1.cell? ⟨kb, 0, none⟩ = some (.slice (some ⟨g, 0, none⟩) 2 ac) := (hb.cell hkb).trans hk
  have hkc2 : (w1.alloc (.cells #[.bool ib, .int .i64 ii, .string is, .int .i64 k, .int .i64 n, .string t, .slice A l.length c] 34)).cell? ⟨kb, 0, none⟩ = some (.slice (some ⟨g, 0, none⟩) 2 ac) := (hal.cell (World.block_lt_of_cell? w1 _ hkc)).trans hkc
  have HAp := Lib.hid (fun wz (hz : Below (w1.alloc (.cells #[.bool ib, .int .i64 ii, .string is, .int .i64 k, .int .i64 n, .string t, .slice A l.length c] 34)).heap.size (w1.alloc (.cells #[.bool ib, .int .i64 ii, .string is, .int .i64 k, .int .i64 n, .string t, .slice A l.length c] 34)) wz) => append_er hLib wz ((hb.alloc hB1 (.cells #[.bool ib, .int .i64 ii, .string is, .int .i64 k, .int .i64 n, .string t, .slice A l.length c] 34)).trans (hz.mono (by have := hal.size; omega))) ((hL.below hal).below hz) (by have := hal.size; have := hz.size; omega) k n t l A c hnx0 hp hv hn hnx)
  clear hal hLib hp hv hnx hL hb hkc
  go_enter Tryz.func110, Tryz.ntmps110
  go_upto_region 1 with fail
  have hbi : base ≤ (w1.alloc (.cells #[.bool ib, .int .i64 ii, .string is, .int .i64 k, .int .i64 n, .string t, .slice A l.length c] 34)).heap.size := Nat.le_trans hbase HBi.out.size
  have d3 := HI.out.cell 3
  have d4 := HI.out.cell 4
  have d5 := HI.out.cell 5
  have d6 := HI.out.cell 6
  generalize w1.alloc (.cells #[.bool ib, .int .i64 ii, .string is, .int .i64 k, .int .i64 n, .string t, .slice A l.length c] 34) = wi at *
  go_wp2_with (first | (go_at_call 100; refine (flag_arg _ g ac).mono ?_; rintro e wf ⟨rfl, hbf⟩; have HBf := Lib.hid hbf; have f3 := (blk_below HI.out hbf).cell 3; have f4 := (blk_below HI.out hbf).cell 4; have f5 := (blk_below HI.out hbf).cell 5; have f6 := (blk_below HI.out hbf).cell 6; clear hbf) | (go_at_call 87; refine (HAp.out _ HBf.out).mono ?_; rintro e w2 ⟨er, u, rfl, hb2, hpo⟩; have HB2 := Lib.hid (((HBi.out.mono hbase).trans (HBf.out.mono hbi)).trans hb2); have HP := Lib.hid hpo; clear hb2 hpo; have zK := Blk.new w2 32 #[.bool false, .int .i64 0, .string ⟨#[]⟩]; have z0 := zK.frozen 0; have z1 := zK.frozen 1; have z2 := zK.frozen 2; clear zK))
  go_ret
  have hsz := HB2.out.size
  refine ⟨er, rfl, HB2.out.alloc (by omega) _, ?_⟩
  rcases HP.out with h | ⟨ps', sv', nx', h1, h2, h3, h4⟩
  · exact .inl h
  · exact .inr ⟨ps', sv', nx', h1, h2, h3.below ((Below.refl _ _).alloc (Nat.le_refl _) _), h4⟩
set_option maxRecDepth 100000 in
set_option maxHeartbeats 4000000 in
theorem put_app (hLib : ∀ w', Below B w w' → LibS w') (w1 : World) (hb : Below B w w1) (hB1 : B ≤ w1.heap.size) (base b mb : Nat) (sv : Value) (ps : List PI) (nx : Int) (hL : LstAt base w1 b mb false sv ps nx) (hv : ∀ q ∈ ps, Vok w B q) (hn : ps.length ≤ 2048) (hnx : In64 nx) (hnx0 : 0 ≤ nx)
    (ii : Int) (is : ByteArray) (k n : Int) (t : ByteArray) (l : List GI) (A : Option Addr) (c : Nat) (hp : VAt w B (.mk k n t l) (.agg #[.int .i64 k, .int .i64 n, .string t, .slice A l.length c]) ∧ Fit (.mk k n t l) ∧ Sml (.mk k n t l)) :
    Calls Tryz.prog 91 #[.pointer (some ⟨b, 0, none⟩), .agg #[.bool false, .int .i64 ii, .string is, .int .i64 k, .int .i64 n, .string t, .slice A l.length c], .bool false] w1 fun e w2 => ∃ er : Int, e = .returned (.int .i64 er) ∧ Below base w1 w2 ∧
      ((er = 8 ∧ setG (ps.map PI.it) nx (.mk false nx ⟨#[]⟩ (.mk k n t l)) = none) ∨ ∃ ps' sv' nx', er = 0 ∧ setG (ps.map PI.it) nx (.mk false nx ⟨#[]⟩ (.mk k n t l)) = some (ps'.map PI.it, nx') ∧ LstAt base w2 b mb false sv' ps' nx' ∧ (∀ q ∈ ps', Vok w B q) ∧ ps'.length ≤ 2048 ∧ In64 nx') := by
  have hal := (Below.refl w1.heap.size w1).alloc (Nat.le_refl _) (.cells #[.bool false, .int .i64 ii, .string is, .int .i64 k, .int .i64 n, .string t, .slice A l.length c] 34)
  have hbase : base ≤ w1.heap.size := by have := hL.hb; have := hL.blk.lt; omega
  have HI := Lib.hid (Blk.new w1 34 #[.bool false, .int .i64 ii, .string is, .int .i64 k, .int .i64 n, .string t, .slice A l.length c])
  have HBi := Lib.hid hal
  have HAp := Lib.hid (append_er hLib _ (hb.alloc hB1 (.cells #[.bool false, .int .i64 ii, .string is, .int .i64 k, .int .i64 n, .string t, .slice A l.length c] 34)) (hL.below hal) (by have := hal.size; omega) k n t l A c hnx0 hp hv hn hnx)
  clear hal hLib hp hv hnx hL hb
  go_enter Tryz.func91, Tryz.ntmps91
  go_upto_region 1 with fail
  have d0 := HI.out.cell 0
  have d3 := HI.out.cell 3
  have d4 := HI.out.cell 4
  have d5 := HI.out.cell 5
  have d6 := HI.out.cell 6
  generalize w1.alloc (.cells #[.bool false, .int .i64 ii, .string is, .int .i64 k, .int .i64 n, .string t, .slice A l.length c] 34) = wi at *
  go_wp2_with (go_at_call 87; refine HAp.out.mono ?_; rintro e w2 ⟨er, u, rfl, hb2, hpo⟩; have HB2 := Lib.hid ((HBi.out.mono hbase).trans hb2); have HP := Lib.hid hpo; clear hb2 hpo; have zK := Blk.new w2 32 #[.bool false, .int .i64 0, .string ⟨#[]⟩]; have z0 := zK.frozen 0; have z1 := zK.frozen 1; have z2 := zK.frozen 2; clear zK)
  go_ret
  have hsz := HB2.out.size
  refine ⟨er, rfl, HB2.out.alloc (by omega) _, ?_⟩
  rcases HP.out with h | ⟨ps', sv', nx', h1, h2, h3, h4⟩
  · exact .inl h
  · exact .inr ⟨ps', sv', nx', h1, h2, h3.below ((Below.refl _ _).alloc (Nat.le_refl _) _), h4⟩
end
end Dp
end Go.Proofs.YtopmodahdmnpjaaGreatDoor
/- A range over a function whose body writes memory of its own: the law of the statement, where the body goes on to the end. -/
namespace Go.Proofs.YtopmodahdmnpjaaGreatDoor
open Go Go.RowKit
namespace Dp
/-- A part of the loop's own gear: neither cells nor a map. -/
def Gear (o : Obj) : Prop := o.isCells = false ∧ ∀ es c, o ≠ .map es c
/-- What a round keeps: the loops' own gear. -/
def KG (A B : World) : Prop := ∀ (j : Nat) (o : Obj), A.heap[j]? = some o → Gear o → B.heap[j]? = some o
theorem KG.trans {A B C : World} (h : KG A B) (k : KG B C) : KG A C := fun j o ho hg => k j o (h j o ho hg) hg
theorem KG.below {A B : World} (h : Below A.heap.size A B) : KG A B := fun j _o ho _ => (h.block j (Array.getElem?_eq_some_iff.1 ho).1).trans ho
theorem gear_loop (x : Loop) : Gear (.loop x) := ⟨rfl, fun _ _ h => by cases h⟩
theorem gear_def (x : Option (List Go.Deferred)) : Gear (.deferred x) := ⟨rfl, fun _ _ h => by cases h⟩
section
variable {α : Type} {P : Program} {n : Nat} {g : Operand} {ps : Array Tmp} {assign body : Code} {Q : Exit → Act → World → Prop} {a : Act} {w : World} {gf : Nat} {lb : Array Value} {encs : α → Array Value} {xs : List α}
theorem range_G (hg : a.eval g = .func (.func gf) #[] lb) (eg : ∀ args w, (callFunc gf args).run P w = .ok (.enter gf args) w) (hps : ∀ x, (encs x).size = ps.size)
    (I : List α → World → Prop)
    (hseq : ∀ (l : Nat) (J : List α → World → Prop) (W : World), (∀ pre A, J pre A → I pre A) → (∀ pre A B, J pre A → Below A.heap.size A B → J pre B) →
      (∀ pre x W1, J pre W1 → pre ++ [x] <+: xs → YieldAt Fence.wide (n - 1 - 1) P l (encs x) W1 fun e W' => e = .returned (.bool true) ∧ J (pre ++ [x]) W') → J [] W →
      CallsIn Fence.wide (n - 1) P gf (#[.func (.yield l) #[] #[]] ++ lb) W fun e W' => (∃ v, e = .returned v) ∧ J xs W')
    (Ax : List α → α → Act → World → Prop) (hI : ∀ pre A B, I pre A → Below A.heap.size A B → I pre B)
    (hIp : ∀ pre A l o o', I pre A → w.heap.size ≤ l → A.heap[l]? = some o → Gear o → Gear o' → I pre (A.putObj l o'))
    (hAp : ∀ pre x a' A l o o', Ax pre x a' A → w.heap.size ≤ l → A.heap[l]? = some o → Gear o → Gear o' → Ax pre x a' (A.putObj l o')) (h0 : I [] w)
    (hassign : ∀ (l : Nat) (pre : List α) (x : α) (W : World) (K : Act → World → Prop), pre ++ [x] <+: xs → I pre W → (∀ a' W', Ax pre x a' W' → I pre W' → KG W W' → K a' W') →
      assign.wpIn (Fence.wide.inRound l) (n - 1 - 1) P (Exit.then K (fun _ _ _ => False)) { tmps := (ps.zip (encs x)).foldl (fun t (p, v) => t.setIfInBounds p v) a.tmps, defers := [] } W)
    (hbody : ∀ (l : Nat) (pre : List α) (x : α) (a' : Act) (W : World), pre ++ [x] <+: xs → Ax pre x a' W → I pre W → body.wpIn (Fence.wide.inRound l) (n - 1 - 1) P (fun e _ W' => e = .normal ∧ I (pre ++ [x]) W' ∧ KG W W') a' W)
    (hdone : ∀ (D : Nat) (W : World), w.heap.size ≤ D → I xs W → W.heap[D]? = some (.deferred (some [])) → Q .normal { a with defers := { target := .collected D, args := #[] } :: a.defers } W) :
    (Code.rangeFunc g ps assign body).wpIn Fence.wide n P Q a w := by
  refine wpIn_rangeFunc ?_
  intro fn hfn
  obtain ⟨rec, hrec⟩ : ∃ rec : LoopState → Option Code → Loop, rec = fun st pe => { state := st, pending := pe, fn, tmps := a.tmps, params := ps, assign, body, defers := w.heap.size } := ⟨_, rfl⟩
  obtain ⟨W1, hW1⟩ : ∃ W1, (w.alloc (.deferred (some []))).alloc (.loop (rec .ready none)) = W1 := ⟨_, rfl⟩
  have hL1 : W1.heap[w.heap.size + 1]? = some (.loop (rec .ready none)) := by
    rw [← hW1]
    have := World.alloc_heap_new (w.alloc (.deferred (some []))) (.loop (rec .ready none))
    rwa [World.size_alloc] at this
  have hK1 : W1.heap[w.heap.size]? = some (.deferred (some [])) := by
    rw [← hW1]
    exact (Below.heap_alloc _ _ _ (by simp)).trans (World.alloc_heap_new w _)
  have hb1 : Below w.heap.size w W1 := by
    rw [← hW1]
    exact ((Below.refl _ w).alloc (Nat.le_refl _) _).alloc (by simp) _
  refine ⟨w.heap.size + 1, [{ target := .collected w.heap.size, args := #[] }], W1, { target := .fn (.func gf) lb, args := #[.func (.yield (w.heap.size + 1)) #[] #[]] }, W1, gf,
    #[.func (.yield (w.heap.size + 1)) #[] #[]] ++ lb, W1, ?_, ?_, fun f' hf' => trivial, ?_, fun h => by simp [Fence.wide] at h, ?_⟩
  · rw [← hW1, hrec]
    exact run_enterLoop_outer _ _ _ _ _
  · simp only [resolve, hg]
    simp [go_sem]
  · simp [invoke, go_sem, eg]
  · refine (hseq (w.heap.size + 1) (fun pre W => I pre W ∧ W.heap[w.heap.size + 1]? = some (.loop (rec .ready none)) ∧ W.heap[w.heap.size]? = some (.deferred (some []))) W1 (fun _ _ h => h.1) (fun pre A B hs hk => ⟨hI pre A B hs.1 hk, (hk.block _ (Array.getElem?_eq_some_iff.1 hs.2.1).1).trans hs.2.1, (hk.block _ (Array.getElem?_eq_some_iff.1 hs.2.2).1).trans hs.2.2⟩) ?_ ⟨hI _ _ _ h0 hb1, hL1, hK1⟩).mono ?_
    · rintro pre x W ⟨hi, hl, hk⟩ hpx
      have hlt : w.heap.size + 1 < W.heap.size := (Array.getElem?_eq_some_iff.1 hl).1
      have hy := run_yield (P := P) (args := encs x) hl (by rw [hrec]; exact hps x)
      rw [hrec] at hy
      refine ⟨fn, _, assign, body, hy, roundIn_of_wpIn hfn (hassign _ pre x W _ hpx hi (fun a' W2 hax hi2 hkt => ?_))⟩
      have hl2 := hkt _ _ hl (gear_loop _)
      have hk2 := hkt _ _ hk (gear_def _)
      have hlt2 : w.heap.size + 1 < W2.heap.size := (Array.getElem?_eq_some_iff.1 hl2).1
      refine ⟨_, run_beginRound hl2 (by rw [hrec]), ?_⟩
      have hl3 : (W2.putObj (w.heap.size + 1) (.loop { rec .ready none with state := .busy })).heap[w.heap.size + 1]? = some (.loop { rec .ready none with state := .busy }) := World.putObj_heap_same hlt2
      have hk3 : (W2.putObj (w.heap.size + 1) (.loop { rec .ready none with state := .busy })).heap[w.heap.size]? = some (.deferred (some [])) := (World.putObj_heap_other (by omega)).trans hk2
      refine wpIn_mono (hbody _ pre x _ _ hpx (hAp _ _ _ _ _ _ _ hax (by omega) hl2 (gear_loop _) (gear_loop _)) (hIp _ _ _ _ _ hi2 (by omega) hl2 (gear_loop _) (gear_loop _))) ?_
      rintro e a3 W3 ⟨rfl, hi3, hkt3⟩
      have hl4 := hkt3 _ _ hl3 (gear_loop _)
      have hk4 := hkt3 _ _ hk3 (gear_def _)
      have hlt4 : w.heap.size + 1 < W3.heap.size := (Array.getElem?_eq_some_iff.1 hl4).1
      have hend := run_endRound (P := P) none hl4
      refine ⟨_, _, hend, rfl, hIp _ _ _ _ _ hi3 (by omega) hl4 (gear_loop _) (gear_loop _), ?_, (World.putObj_heap_other (by omega)).trans hk4⟩
      rw [World.putObj_heap_same hlt4, hrec]
      rfl
    · rintro e W2 ⟨⟨v, rfl⟩, hi, hl, hk⟩
      have hend := run_endLoop (P := P) hl (by rw [hrec]; simp)
      rw [hrec] at hend
      refine ⟨none, _, hend, hdone _ _ (Nat.le_refl _) (hIp _ _ _ _ _ hi (by omega) hl (gear_loop _) (gear_loop _)) ((World.putObj_heap_other (by omega)).trans hk)⟩
end
end Dp
end Go.Proofs.YtopmodahdmnpjaaGreatDoor
/- slices.Chunk: its iterator: the walk. -/
namespace Go.Proofs.YtopmodahdmnpjaaGreatDoor
open Go Go.RowKit
namespace Dp
/-- Where the pieces begin, and how long they are. -/
def partsF (n L : Nat) : Nat → Nat → List (Nat × Nat)
  | 0, _ => []
  | f + 1, i => if i < L then (i, min n (L - i)) :: partsF n L f (i + n) else []
def parts (n L : Nat) : List (Nat × Nat) := partsF n L L 0
theorem partsF_end (n L : Nat) : ∀ (f i : Nat), ¬ i < L → partsF n L f i = []
  | 0, _, _ => rfl
  | _ + 1, _, h => by rw [partsF, if_neg h]
/-- A piece, as it is yielded. -/
def encC (bb off : Nat) (x : Nat × Nat) : Array Value := #[.slice (some ⟨bb, off + x.1 * 7, none⟩) x.2 x.2]
set_option maxRecDepth 100000 in
theorem chunk_any (A : Option Addr) (L c n : Nat) (hn : 1 ≤ n) (w : World) : Calls Tryz.prog 109 #[.slice A L c, .int .i64 n] w fun e w' => e = .returned (.func (.func 151) #[] #[.pointer (some ⟨w.heap.size, 0, none⟩), .pointer (some ⟨w.heap.size + 1, 0, none⟩)]) ∧ w' = (w.alloc (.cells #[.slice A L c] 22)).alloc (.cells #[.int .i64 n] 3) := by
  have hnI : ¬ ((n : Int) < 1) := by omega
  go_enter Tryz.func109, Tryz.ntmps109
  go_wp2_with fail
  go_ret
  exact ⟨by simp, rfl⟩
set_option maxRecDepth 100000 in
set_option maxHeartbeats 2000000 in
theorem chunk1_in {bb off bs bn l n L c : Nat} {A : Option Addr} (hn : 1 ≤ n) (hn2 : n ≤ 2048) (hL : L ≤ 2048) (hc : L ≤ c) (hA : 0 < L → A = some ⟨bb, off, none⟩) (J : List (Nat × Nat) → World → Prop) (W : World) (hbx : ∀ pre Wz, J pre Wz → Wz.cell? ⟨bs, 0, none⟩ = some (.slice A L c) ∧ Wz.cell? ⟨bn, 0, none⟩ = some (.int .i64 n))
    (hJ : ∀ pre A B, J pre A → Below A.heap.size A B → J pre B) (hY : ∀ pre x W1, J pre W1 → pre ++ [x] <+: parts n L → YieldAt Fence.wide 4 Tryz.prog l (encC bb off x) W1 fun e W' => e = .returned (.bool true) ∧ J (pre ++ [x]) W') (h0 : J [] W) :
    CallsIn Fence.wide 5 Tryz.prog 151 #[.func (.yield l) #[] #[], .pointer (some ⟨bs, 0, none⟩), .pointer (some ⟨bn, 0, none⟩)] W fun e W' => (∃ v, e = .returned v) ∧ J (parts n L) W' := by
  have HJ := Lib.hid hJ
  have HY := Lib.hid hY
  have HX := Lib.hid hbx
  have HJ0 : Hid (J [] W) := h0
  clear hJ hY h0 hbx
  refine callsIn_of_wp Tryz.func151 rfl trivial ?_ rfl
  simp only [Tryz.ntmps151, List.size_toArray, List.length_cons, List.length_nil, Nat.reduceAdd, Nat.reduceSub, Array.replicate_succ, Array.replicate_zero, List.push_toArray, List.append_toArray, List.nil_append, List.cons_append]
  gi_wp2
  gi_loopw [4] (fun xi wr => ∃ (i f : Nat) (pre : List (Nat × Nat)), i ≤ L + n ∧ xi = .int .i64 i ∧ L ≤ i + f ∧ pre ++ partsF n L f i = parts n L ∧ Hid (J pre wr)) (fun xi _ => L + n - (ixOf xi).toNat)
  case atStart => exact ⟨0, L, [], Nat.zero_le _, rfl, by omega, rfl, HJ0⟩
  case round =>
    obtain ⟨i, f, pre, hi, rfl, hf, hp, HJr⟩ := hrel
    clear HJ0
    obtain ⟨c1, c2⟩ := HX.out _ _ HJr.out
    by_cases hlt : i < L
    · obtain ⟨f', rfl⟩ : ∃ f', f = f' + 1 := ⟨f - 1, by omega⟩
      rw [partsF, if_pos hlt] at hp
      have hA' := hA (by omega)
      subst hA'
      have hI : (i : Int) < (L : Int) := by omega
      obtain ⟨e, he⟩ : ∃ e, e = min n (L - i) := ⟨_, rfl⟩
      have hmin : min (n : Int) ((L : Int) - (i : Int)) = (e : Int) := by omega
      have hmin2 : min (n : Int) ((L - i : Nat) : Int) = (e : Int) := by omega
      have hw1 : IntKind.i64.wrap ((i : Int) + (e : Int)) = ((i + e : Nat) : Int) := by rw [show (i : Int) + (e : Int) = ((i + e : Nat) : Int) by omega]; exact IntWalk.i64_in _ (by omega)
      rw [← he] at hp
      have heL : i + e ≤ L := by omega
      have heI : ((i + e : Nat) : Int) ≤ (L : Int) := by omega
      clear he
      gi_wp2
      gi_region
      have HJd : Hid (J pre wr.drew) := HJ.out _ _ _ HJr.out (drewU (Below.refl wr.heap.size wr) 1)
      obtain ⟨fn, tmps, assign, body, hy, hR⟩ := HY.out pre (i, e) wr.drew HJd.out ⟨partsF n L f' (i + n), by rw [← hp]; simp⟩
      dsimp only [encC] at hy
      have HR := Lib.hid hR
      obtain ⟨d1, d2⟩ := HX.out _ wr.drew HJd.out
      clear hR c1 c2 HJd HJr
      have heC : ((i + e : Nat) : Int) ≤ (c : Int) := by omega
      have heC2 : i + e ≤ c := by omega
      have hle : ((i : Nat) : Int) ≤ ((i + e : Nat) : Int) := by omega
      have hsub : i + e - i = e := by omega
      gi_wp2
      refine HR.out.mono ?_
      rintro e' W3 ⟨rfl, hJ3⟩
      have HJ3 : Hid (J (pre ++ [(i, e)]) W3) := hJ3
      obtain ⟨d3, d4⟩ := HX.out _ _ HJ3.out
      have hw2 : IntKind.i64.wrap ((i : Int) + (n : Int)) = ((i + n : Nat) : Int) := by rw [show (i : Int) + (n : Int) = ((i + n : Nat) : Int) by omega]; exact IntWalk.i64_in _ (by omega)
      clear hJ3 HR hy d1 d2
      gi_wp2
      go_roundw
      case rel => exact ⟨i + n, f', pre ++ [(i, e)], by omega, by go_num, by omega, by rw [← hp]; simp, HJ3⟩
      case measure => simp [ixOf] <;> omega
    · rw [partsF_end n L f i hlt, List.append_nil] at hp
      subst hp
      have hI : ¬ ((i : Int) < (L : Int)) := by omega
      gi_wp2
      go_end0
      exact ⟨⟨_, rfl⟩, HJr.out⟩
end Dp
end Go.Proofs.YtopmodahdmnpjaaGreatDoor
/- list.List of values: Set and Append, whatever is kept of the values: the walks. -/
namespace Go.Proofs.YtopmodahdmnpjaaGreatDoor
open Go Go.RowKit
namespace Dp
open Go.Proofs.YtopmodahdmnpjaaGreatDoor.Nm (normG keyV norm_any)
theorem set_stepV {w : World} {B : Nat} (hLib : ∀ w', Below B w w' → LibS w') (w1 : World) (hb : Below B w w1) {base b mb : Nat} {sv : Value} {ps : List PI} {nx : Int} (hL : LstAt base w1 b mb false sv ps nx) (hB1 : B ≤ w1.heap.size) (p : PI) (hk : In64 p.i) (hs : p.s.size ≤ 140737488351232)
    (V : GV → Value → Prop) (hp : V p.gv p.val) (hv : ∀ q ∈ ps, (KeyOK q.key ∧ V q.gv q.val)) (hn : ps.length ≤ 2048) (hnx : In64 nx) :
    Calls Tryz.prog 95 #[.pointer (some ⟨b, 0, none⟩), .agg #[.bool p.b, .int .i64 p.i, .string p.s], p.val] w1 fun e w2 => Fr base b mb sv.ownBlock w1 w2 ∧ ((setG (ps.map PI.it) nx p.it = none ∧ e = .returned (.int .i64 8)) ∨ ∃ ps' sv' nx', setG (ps.map PI.it) nx p.it = some (ps'.map PI.it, nx') ∧ e = .returned (.int .i64 0) ∧ LstAt base w2 b mb false sv' ps' nx' ∧ (∀ q ∈ ps', (KeyOK q.key ∧ V q.gv q.val)) ∧ ps'.length ≤ 2048 ∧ In64 nx') := by
  have hKO := normG_key p.b p.i p.s hk hs
  have hset : setG (ps.map PI.it) nx p.it = if 0 ≤ findK (ps.map PI.key) (normG p.b p.i p.s) 0 then some ((ps.map PI.it).set (findK (ps.map PI.key) (normG p.b p.i p.s) 0).toNat (giOf (normG p.b p.i p.s) p.gv), nx) else if 2048 ≤ (ps.map PI.it).length then none else some (ps.map PI.it ++ [giOf (normG p.b p.i p.s) p.gv], nextK nx (normG p.b p.i p.s)) := by
    unfold setG
    rw [keys_of]
    rfl
  by_cases h : 0 ≤ findK (ps.map PI.key) (normG p.b p.i p.s) 0
  · obtain ⟨_, hat⟩ := findK_at (ps.map PI.key) (normG p.b p.i p.s) 0 (by omega) h
    rw [List.getElem?_map, Int.sub_zero] at hat
    obtain ⟨p0, hp0, hkey⟩ := Option.map_eq_some_iff.1 hat
    refine (set_found hLib w1 hb hL hB1 p hk hs _ (Int.toNat_of_nonneg h).symm p0 hp0 hn).mono ?_
    rintro e w2 ⟨rfl, hL2, hb2⟩
    refine ⟨hb2, .inr ⟨_, sv, nx, ?_, rfl, hL2, fun q hq => ?_, by simpa using hn, hnx⟩⟩
    · rw [hset, if_pos h, keys_put hp0, hkey]
    · rcases List.mem_or_eq_of_mem_set hq with hq | rfl
      · exact hv q hq
      · exact ⟨by have := (hv p0 (List.mem_of_getElem? hp0)).1; exact this, hp⟩
  · rw [if_neg h] at hset
    by_cases h2 : 2048 ≤ ps.length
    · refine (set_full hLib w1 hb hL hB1 p hk hs (by omega) h2 (by omega)).mono ?_
      rintro e w2 ⟨rfl, _, hb2⟩
      exact ⟨hb2, .inl ⟨by rw [hset, if_pos (by simpa using h2)], rfl⟩⟩
    · refine (set_new hLib w1 hb hL hB1 p hk hs (by omega) (by omega) hnx).mono ?_
      rintro e w2 ⟨rfl, ⟨sv', hL2⟩, hb2⟩
      refine ⟨hb2, .inr ⟨_, sv', _, ?_, rfl, hL2, fun q hq => ?_, by simp; omega, nextK_in hnx hKO⟩⟩
      · rw [hset, if_neg (by simpa using h2), List.map_append]
        rfl
      · rcases List.mem_append.1 hq with hq | hq
        · exact hv q hq
        · have e : q = PI.key_ p (normG p.b p.i p.s) := by simpa using hq
          subst e
          exact ⟨hKO, hp⟩
/-- What an append of a value to a list gives. -/
def AppPostV (V : GV → Value → Prop) (base b mb : Nat) (ps : List PI) (sv : Value) (nx : Int) (p : PI) (w1 : World) (e : Ending) (w2 : World) : Prop :=
  Fr base b mb sv.ownBlock w1 w2 ∧ ((setG (ps.map PI.it) nx p.it = none ∧ ∃ n : Int, e = .returned (.tuple #[.agg #[.bool false, .int .i64 n, .string ⟨#[]⟩], .int .i64 8])) ∨
    ∃ ps' sv' nx', setG (ps.map PI.it) nx p.it = some (ps'.map PI.it, nx') ∧ (∃ n : Int, e = .returned (.tuple #[.agg #[.bool false, .int .i64 n, .string ⟨#[]⟩], .int .i64 0])) ∧ LstAt base w2 b mb false sv' ps' nx' ∧ (∀ q ∈ ps', (KeyOK q.key ∧ V q.gv q.val)) ∧ ps'.length ≤ 2048 ∧ In64 nx')
section
variable {w : World} {B : Nat}
set_option maxRecDepth 100000 in
set_option maxHeartbeats 4000000 in
theorem append_stepV (hLib : ∀ w', Below B w w' → LibS w') (w1 : World) (hb : Below B w w1) {base b mb : Nat} {sv : Value} {ps : List PI} {nx : Int} (hL : LstAt base w1 b mb false sv ps nx) (hB1 : B ≤ w1.heap.size) (k n : Int) (t : ByteArray) (l : List GI) (A : Option Addr) (c : Nat) (hnx0 : 0 ≤ nx)
    (V : GV → Value → Prop) (hp : V (.mk k n t l) (.agg #[.int .i64 k, .int .i64 n, .string t, .slice A l.length c])) (hv : ∀ q ∈ ps, (KeyOK q.key ∧ V q.gv q.val)) (hn : ps.length ≤ 2048) (hnx : In64 nx) :
    Calls Tryz.prog 87 #[.pointer (some ⟨b, 0, none⟩), .agg #[.int .i64 k, .int .i64 n, .string t, .slice A l.length c]] w1 (AppPostV V base b mb ps sv nx ⟨false, nx, ⟨#[]⟩, k, n, t, l, A, c⟩ w1) := by
  have hbl := hL.blk.lt
  have hml := hL.idx.lt
  have hob : ∀ g, sv.ownBlock = some g → g < w1.heap.size := fun g e => (hL.owns.lt g e).2
  have hbase : base ≤ w1.heap.size := by have := hL.hb; omega
  have hal := fun (wx : World) (o : Obj) => (Below.refl wx.heap.size wx).alloc (Nat.le_refl _) o
  have hs1 : (w1.alloc (.cells #[.int .i64 k, .int .i64 n, .string t, .slice A l.length c] 24)).heap.size = w1.heap.size + 1 := by simp
  have hs2 : ((w1.alloc (.cells #[.int .i64 k, .int .i64 n, .string t, .slice A l.length c] 24)).alloc (.cells #[.bool false, .int .i64 0, .string ⟨#[]⟩] 32)).heap.size = w1.heap.size + 1 + 1 := by simp
  have hBa2 := (hal w1 (.cells #[.int .i64 k, .int .i64 n, .string t, .slice A l.length c] 24)).alloc (by rw [hs1]; omega) (.cells #[.bool false, .int .i64 0, .string ⟨#[]⟩] 32)
  have hBa := hBa2.alloc (by rw [hs2]; omega) (.cells #[.bool false, .int .i64 nx, .string ⟨#[]⟩] 32)
  have HBa := Lib.hid hBa
  have HLa := Lib.hid (hL.below hBa)
  have HL2 := Lib.hid (hL.below hBa2)
  have HVa := Lib.hid (((Blk.new w1 24 #[.int .i64 k, .int .i64 n, .string t, .slice A l.length c]).alloc (.cells #[.bool false, .int .i64 0, .string ⟨#[]⟩] 32)).alloc (.cells #[.bool false, .int .i64 nx, .string ⟨#[]⟩] 32))
  have hRa := (Blk.new (w1.alloc (.cells #[.int .i64 k, .int .i64 n, .string t, .slice A l.length c] 24)) 32 #[.bool false, .int .i64 0, .string ⟨#[]⟩]).alloc (.cells #[.bool false, .int .i64 nx, .string ⟨#[]⟩] 32)
  rw [hs1] at hRa
  have hKa := Blk.new ((w1.alloc (.cells #[.int .i64 k, .int .i64 n, .string t, .slice A l.length c] 24)).alloc (.cells #[.bool false, .int .i64 0, .string ⟨#[]⟩] 32)) 32 #[.bool false, .int .i64 nx, .string ⟨#[]⟩]
  rw [hs2] at hKa
  have hKz := Blk.new ((w1.alloc (.cells #[.int .i64 k, .int .i64 n, .string t, .slice A l.length c] 24)).alloc (.cells #[.bool false, .int .i64 0, .string ⟨#[]⟩] 32)) 32 #[.bool false, .int .i64 0, .string ⟨#[]⟩]
  rw [hs2] at hKz
  have HRa := Lib.hid hRa
  have HKa := Lib.hid hKa
  have z0 := hKz.frozen 0
  have z1 := hKz.frozen 1
  have z2 := hKz.frozen 2
  have HSt := Lib.hid (fun wi hz (hB : B ≤ wi.heap.size) hL2 => set_stepV hLib wi hz (base := base) (b := b) (mb := mb) (sv := sv) (ps := ps) (nx := nx) hL2 hB ⟨false, nx, ⟨#[]⟩, k, n, t, l, A, c⟩ hnx (Nat.zero_le _) V hp hv hn hnx)
  obtain ⟨l0, l1, l2, l3, l4⟩ := HL2.out.cells
  obtain ⟨m0, m1, m2, m3, m4⟩ := HLa.out.cells
  have HOb := Lib.hid hob
  have Hb := Lib.hid hb
  have hnn : ¬ nx < 0 := by omega
  have HOk := Lib.hid (ok_any _ b l0)
  clear hLib hp hv hnx hBa hBa2 hRa hKa hKz hal hob hL hb
  go_enter Tryz.func87, Tryz.ntmps87
  go_upto_region 6 with (go_at_call 142; refine HOk.out.mono ?_; rintro e w' ⟨rfl, rfl⟩)
  generalize ((w1.alloc (.cells #[.int .i64 k, .int .i64 n, .string t, .slice A l.length c] 24)).alloc (.cells #[.bool false, .int .i64 0, .string ⟨#[]⟩] 32)).alloc (.cells #[.bool false, .int .i64 nx, .string ⟨#[]⟩] 32) = w4 at *
  have k0 : w4.cell? ⟨w1.heap.size + 1 + 1, 0, none⟩ = some (.bool false) := HKa.out.cell 0
  have k1 : w4.cell? ⟨w1.heap.size + 1 + 1, 1, none⟩ = some (.int .i64 nx) := HKa.out.cell 1
  have k2 : w4.cell? ⟨w1.heap.size + 1 + 1, 2, none⟩ = some (.string ⟨#[]⟩) := HKa.out.cell 2
  have v0 : w4.cell? ⟨w1.heap.size, 0, none⟩ = some (.int .i64 k) := HVa.out.cell 0
  have v1 : w4.cell? ⟨w1.heap.size, 1, none⟩ = some (.int .i64 n) := HVa.out.cell 1
  have v2 : w4.cell? ⟨w1.heap.size, 2, none⟩ = some (.string t) := HVa.out.cell 2
  have v3 : w4.cell? ⟨w1.heap.size, 3, none⟩ = some (.slice A l.length c) := HVa.out.cell 3
  have hw4 := HBa.out.size
  have HS := Lib.hid (HSt.out w4 (Hb.out.trans (HBa.out.mono hB1)) (by omega) HLa.out)
  have HS' : Hid (Calls Tryz.prog 95 #[.pointer (some ⟨b, 0, none⟩), .agg #[.bool false, .int .i64 nx, .string ⟨#[]⟩], .agg #[.int .i64 k, .int .i64 n, .string t, .slice A l.length c]] w4 fun e w5 => ∃ er : Int, e = .returned (.int .i64 er) ∧ Fr base b mb sv.ownBlock w4 w5 ∧ ((er = 8 ∧ setG (ps.map PI.it) nx (.mk false nx ⟨#[]⟩ (.mk k n t l)) = none) ∨ ∃ ps' sv' nx', er = 0 ∧ setG (ps.map PI.it) nx (.mk false nx ⟨#[]⟩ (.mk k n t l)) = some (ps'.map PI.it, nx') ∧ LstAt base w5 b mb false sv' ps' nx' ∧ (∀ q ∈ ps', (KeyOK q.key ∧ V q.gv q.val)) ∧ ps'.length ≤ 2048 ∧ In64 nx')) := by
    refine HS.out.mono ?_
    rintro e w5 ⟨h1, ⟨h2, rfl⟩ | ⟨ps', sv', nx', h2, rfl, h3⟩⟩
    · exact ⟨8, rfl, h1, .inl ⟨rfl, h2⟩⟩
    · exact ⟨0, rfl, h1, .inr ⟨ps', sv', nx', rfl, h2, h3⟩⟩
  clear z0 z1 z2 HSt HOk HS HL2 l0 l1 l2 l3 l4 m0 m1 m2 m3 m4 hs1 hs2
  go_upto_region 7 with (go_at_call 95; refine HS'.out.mono ?_; rintro e w5 ⟨er, rfl, hfr, hpo⟩)
  have HF5 : Hid (Fr base b mb sv.ownBlock w1 w5) := ⟨(HBa.out.mono hbase).trans hfr.bel, fun i hi n1 n2 n3 => (hfr.blk i (by omega) n1 n2 n3).trans (HBa.out.block i hi)⟩
  have hR5 := hfr.blk3 HRa.out (by omega) (by omega) (fun e => by have := HOb.out _ e.symm; omega)
  have hK5 := hfr.blk3 HKa.out (by omega) (by omega) (fun e => by have := HOb.out _ e.symm; omega)
  have hsz5 := hfr.size
  have r0 : w5.cell? ⟨w1.heap.size + 1, 0, none⟩ = some (.bool false) := hR5.cell 0
  have r1 : w5.cell? ⟨w1.heap.size + 1, 1, none⟩ = some (.int .i64 0) := hR5.cell 1
  have r2 : w5.cell? ⟨w1.heap.size + 1, 2, none⟩ = some (.string ⟨#[]⟩) := hR5.cell 2
  have rf0 := hR5.frozen 0
  have rf1 := hR5.frozen 1
  have rf2 := hR5.frozen 2
  have k0 : w5.cell? ⟨w1.heap.size + 1 + 1, 0, none⟩ = some (.bool false) := hK5.cell 0
  have k1 : w5.cell? ⟨w1.heap.size + 1 + 1, 1, none⟩ = some (.int .i64 nx) := hK5.cell 1
  have k2 : w5.cell? ⟨w1.heap.size + 1 + 1, 2, none⟩ = some (.string ⟨#[]⟩) := hK5.cell 2
  have HR5 := Lib.hid hR5
  clear hR5 hK5 hfr HS' HRa HKa HVa HBa HLa v0 v1 v2 v3
  have hend : ∀ (u0 u1 u2 : Value), ∃ cs, Blk (((w5.setCell ⟨w1.heap.size + 1, 0, none⟩ u0).setCell ⟨w1.heap.size + 1, 1, none⟩ u1).setCell ⟨w1.heap.size + 1, 2, none⟩ u2) (w1.heap.size + 1) 32 cs ∧ cs = #[u0, u1, u2] ∧ Keeps (fun j => j = w1.heap.size + 1) w5 (((w5.setCell ⟨w1.heap.size + 1, 0, none⟩ u0).setCell ⟨w1.heap.size + 1, 1, none⟩ u1).setCell ⟨w1.heap.size + 1, 2, none⟩ u2) := fun u0 u1 u2 =>
    ⟨_, ((HR5.out.set_ 0 u0).set_ 1 u1).set_ 2 u2, rfl, ((set_keeps w5 (w1.heap.size + 1) 0 u0).trans (set_keeps _ (w1.heap.size + 1) 1 u1)).trans (set_keeps _ (w1.heap.size + 1) 2 u2)⟩
  have HE := Lib.hid hend
  clear hend
  rcases hpo with ⟨rfl, hno⟩ | ⟨ps', sv', nx', rfl, hso, hL5, hv5, hn5, hx5⟩
  · have HN := Lib.hid hno
    clear hno
    go_wp2_with fail
    obtain ⟨cs, q1, rfl, q2⟩ := HE.out (.bool false) (.int .i64 0) (.string ⟨#[]⟩)
    generalize ((w5.setCell ⟨w1.heap.size + 1, 0, none⟩ (.bool false)).setCell ⟨w1.heap.size + 1, 1, none⟩ (.int .i64 0)).setCell ⟨w1.heap.size + 1, 2, none⟩ (.string ⟨#[]⟩) = w6 at *
    have e0 : w6.cell? ⟨w1.heap.size + 1, 0, none⟩ = _ := q1.cell 0
    have e1 : w6.cell? ⟨w1.heap.size + 1, 1, none⟩ = _ := q1.cell 1
    have e2 : w6.cell? ⟨w1.heap.size + 1, 2, none⟩ = _ := q1.cell 2
    simp at e0 e1 e2
    refine bodyPost_ret (v := .tuple #[.agg #[.bool false, .int .i64 0, .string ⟨#[]⟩], .int .i64 8]) (by simp [results, Tryz.results87, go_sem, e0, e1, e2]) rfl ?_
    exact ⟨HF5.out.keeps q2 hbase (fun j e => by omega) (fun j e => .inr (.inr (.inr (by omega)))), .inl ⟨HN.out, _, rfl⟩⟩
  · have HN := Lib.hid hso
    have HL5 := Lib.hid hL5
    have HV5 := Lib.hid hv5
    have HX5 := Lib.hid hx5
    have hw5 : some (w1.heap.size + 1) ≠ sv'.ownBlock := fun e => row_ne hL5.owns HR5.out (by decide) e
    have hw6 : w1.heap.size + 1 ≠ mb := by omega
    have hw7 : w1.heap.size + 1 ≠ b := by omega
    clear hso hL5 hv5 hx5
    go_wp2_with fail
    obtain ⟨cs, q1, rfl, q2⟩ := HE.out (.bool false) (.int .i64 nx) (.string ⟨#[]⟩)
    generalize ((w5.setCell ⟨w1.heap.size + 1, 0, none⟩ (.bool false)).setCell ⟨w1.heap.size + 1, 1, none⟩ (.int .i64 nx)).setCell ⟨w1.heap.size + 1, 2, none⟩ (.string ⟨#[]⟩) = w6 at *
    have e0 : w6.cell? ⟨w1.heap.size + 1, 0, none⟩ = _ := q1.cell 0
    have e1 : w6.cell? ⟨w1.heap.size + 1, 1, none⟩ = _ := q1.cell 1
    have e2 : w6.cell? ⟨w1.heap.size + 1, 2, none⟩ = _ := q1.cell 2
    simp at e0 e1 e2
    refine bodyPost_ret (v := .tuple #[.agg #[.bool false, .int .i64 nx, .string ⟨#[]⟩], .int .i64 0]) (by simp [results, Tryz.results87, go_sem, e0, e1, e2]) rfl ?_
    exact ⟨HF5.out.keeps q2 hbase (fun j e => by omega) (fun j e => .inr (.inr (.inr (by omega)))), .inr ⟨ps', sv', nx', HN.out, ⟨_, rfl⟩, ⟨HL5.out.blk.keeps q2 (fun e => hw7 e.symm), HL5.out.idx.keeps q2 (fun e => hw6 e.symm), own_keeps HL5.out.owns q2 hw5, HL5.out.hb, HL5.out.hm⟩, HV5.out, hn5, HX5.out⟩⟩
end
end Dp
end Go.Proofs.YtopmodahdmnpjaaGreatDoor
/- array_chunk: what its walk keeps: plain lemmas on memory. -/
namespace Go.Proofs.YtopmodahdmnpjaaGreatDoor
open Go Go.RowKit
namespace Dp
theorem vin_own {w : World} {S : Nat → Prop} {base : Nat} {e : TypeId} {ps : List PI} {A : Option Addr} {c : Nat} (h : w.ownsRow base e 7 (.slice A ps.length c) ps.length (rowC ps)) (hS : ∀ g, A = some ⟨g, 0, none⟩ → S g) (hp : ∀ p ∈ ps, VIn w S p.gv p.val) (k n : Int) (t : ByteArray) :
    VIn w S (.mk k n t (ps.map PI.it)) (.agg #[.int .i64 k, .int .i64 n, .string t, .slice A ps.length c]) := by
  have hlen : (ps.map PI.it).length = ps.length := by simp
  obtain ⟨g, hg⟩ : ∃ g, 0 < ps.length → A = some ⟨g, 0, none⟩ ∧ base ≤ g ∧ g < w.heap.size := by
    by_cases h0 : 0 < ps.length
    · obtain ⟨g, cap, hv, hb, hlt⟩ := h.form h0
      injection hv with hA
      exact ⟨g, fun _ => ⟨hA, hb, hlt⟩⟩
    · exact ⟨0, fun h1 => absurd h1 h0⟩
  have hcap : ps.length ≤ c ∧ ps.length ≤ 9223372036854775807 := by
    rcases h.2 with ⟨hv, h0⟩ | ⟨g', cap, cur, hv, _, _, hnc, hcm, _⟩
    · rw [h0]
      exact ⟨Nat.zero_le _, Nat.zero_le _⟩
    · injection hv with _ _ e
      subst e
      exact ⟨hnc, Nat.le_trans (Nat.le_trans hnc hcm) (by decide)⟩
  have key := VIn.mk (w := w) (S := S) k n t (ps.map PI.it) A c g 0 (fun i => match ps[i]? with | some p => p.val | none => .nilIface) (by rw [hlen]; exact hcap.1) (by rw [hlen]; exact hcap.2) (fun h0 => by
    rw [hlen] at h0
    exact ⟨(hg h0).1, hS g (hg h0).1⟩) ?_ ?_
  · rw [hlen] at key
    exact key
  · intro i it hit
    rw [List.getElem?_map] at hit
    obtain ⟨p, hpi, rfl⟩ := Option.map_eq_some_iff.1 hit
    have hlt : i < ps.length := (List.getElem?_eq_some_iff.1 hpi).1
    obtain ⟨hA, _, _⟩ := hg (by omega)
    subst hA
    have hc : ∀ r, r < 7 → ∀ u, p.cells[r]? = some u → w.cell? ⟨g, 0 + i * 7 + r, none⟩ = some u := fun r hr u hu => by
      have := h.cells (g := g) rfl (i * 7 + r) u ((rowC_get ps i p hpi r hr).trans hu)
      rw [Nat.zero_add]
      exact addr_add0 this
    refine ⟨hc 0 (by decide) _ rfl, hc 1 (by decide) _ rfl, hc 2 (by decide) _ rfl, .int .i64 p.k, .int .i64 p.n, .string p.t, .slice p.A p.l.length p.c, by rw [hpi]; rfl, hc 3 (by decide) _ rfl, hc 4 (by decide) _ rfl, hc 5 (by decide) _ rfl, hc 6 (by decide) _ rfl⟩
  · intro i it hit
    rw [List.getElem?_map] at hit
    obtain ⟨p, hpi, rfl⟩ := Option.map_eq_some_iff.1 hit
    have := hp p (List.mem_of_getElem? hpi)
    simp only [hpi]
    exact this
/-- A block that a value of the walk's may lie in: it is no list's. -/
def Val (N : Nat) (W : World) (i : Nat) : Prop := i < N ∨ ∃ cs fz, W.heap[i]? = some (.cells cs 34 fz)
def VC (N : Nat) (W : World) (g : GV) (v : Value) : Prop := VIn W (Val N W) g v ∧ Fit g ∧ Sml g
theorem VC.keep {N : Nat} {A B : World} {g : GV} {v : Value} (h : VC N A g v) (hk : ∀ i, Val N A i → B.heap[i]? = A.heap[i]?) : VC N B g v :=
  ⟨h.1.keep (fun i hi => by
      rcases hi with h | ⟨cs, fz, e⟩
      · exact .inl h
      · exact .inr ⟨cs, fz, (hk i (.inr ⟨cs, fz, e⟩)).trans e⟩) (fun _ hp => World.cell?_of_block (hk _ hp)), h.2⟩
theorem VC.lt {N : Nat} {W : World} {i : Nat} (h : Val N W i) (hN : N ≤ W.heap.size) : i < W.heap.size := by
  rcases h with h | ⟨cs, fz, e⟩
  · omega
  · exact (Array.getElem?_eq_some_iff.1 e).1
theorem VC.at_ {N : Nat} {W : World} {g : GV} {v : Value} (h : VC N W g v) (hN : N ≤ W.heap.size) : VAt W W.heap.size g v := h.1.at_ (fun _ h _ => h) (fun _ hb => VC.lt hb hN)
theorem VC.below {N : Nat} {A B : World} {g : GV} {v : Value} (h : VC N A g v) (hb : Below A.heap.size A B) (hN : N ≤ A.heap.size) : VC N B g v := h.keep fun _ hi => hb.block _ (VC.lt hi hN)
theorem VC.fr {N base b mb : Nat} {A B : World} {sv : Value} {ps : List PI} {nx : Int} {g : GV} {v : Value} (h : VC N A g v) (hL : LstAt base A b mb false sv ps nx) (hf : Fr base b mb sv.ownBlock A B) (hN : N ≤ base) : VC N B g v := by
  have hbb := hL.hb
  have hbm := hL.hm
  refine h.keep fun i hi => ?_
  have hlt : i < A.heap.size := VC.lt hi (Nat.le_trans hN (Nat.le_trans hbb (Nat.le_of_lt hL.blk.lt)))
  refine hf.blk i hlt ?_ ?_ ?_
  · rintro rfl
    rcases hi with h | ⟨cs, fz, e⟩
    · omega
    · have e2 := hL.blk
      unfold Blk at e2
      rw [e2] at e
      injection e with e
      injection e with _ e _
      exact absurd e (by decide)
  · rintro rfl
    rcases hi with h | ⟨cs, fz, e⟩
    · omega
    · obtain ⟨D, ⟨es, ck, e2, _⟩, _⟩ := hL.idx
      rw [e2] at e
      cases e
  · intro e0
    rcases hi with h | ⟨cs, fz, e⟩
    · have := (hL.owns.lt i e0.symm).1
      omega
    · rcases hL.owns.2 with ⟨h2, _⟩ | ⟨g2, cap, cur, h2, _, hg, _⟩
      · rw [h2] at e0
        cases e0
      · rw [h2] at e0
        have e1 : i = g2 := by simpa [Value.ownBlock] using e0
        subst e1
        rw [e] at hg
        injection hg with hg
        injection hg with _ hg _
        exact absurd hg (by decide)
theorem VC.apart {N x : Nat} {A B : World} {g : GV} {v : Value} {t : TypeId} {cs : Array Value} (h : VC N A g v) (hb : Blk A x t cs) (ht : t ≠ 34) (hk : Keeps (fun j => j = x) A B) (hN : N ≤ x) : VC N B g v := by
  refine h.keep fun i hi => hk.block i (VC.lt hi (Nat.le_trans hN (Nat.le_of_lt hb.lt))) ?_
  rintro rfl
  rcases hi with h | ⟨cs, fz, e⟩
  · omega
  · unfold Blk at hb
    rw [hb] at e
    injection e with e
    injection e with _ e _
    exact ht e
theorem VC.put {N l : Nat} {A : World} {o o' : Obj} {g : GV} {v : Value} (h : VC N A g v) (hl : A.heap[l]? = some o) (ho : Gear o) (hN : N ≤ l) : VC N (A.putObj l o') g v := by
  refine h.keep fun i hi => World.putObj_heap_other ?_
  rintro rfl
  rcases hi with h | ⟨cs, fz, e⟩
  · omega
  · rw [e] at hl
    cases hl
    cases ho.1
/-- A piece's list. -/
def chunkV (l : List GI) (x : Nat × Nat) : GI := .mk false 0 ⟨#[]⟩ (.mk 4 ((l.drop x.1).take x.2).length ⟨#[]⟩ (renum ((l.drop x.1).take x.2) 0))
/-- How far the pieces have come. -/
structure ChS (w0 : World) (l : List GI) (M pb g ac bs : Nat) (A : Option Addr) (c m : Nat) (pre : List (Nat × Nat)) (W : World) : Prop where
  ex : ∃ sv ps, LstAt M W (M + 1) M false sv ps pre.length ∧ ps.map PI.it = renum (pre.map (chunkV l)) 0 ∧ ∀ q ∈ ps, KeyOK q.key ∧ VC (w0.heap.size + 1) W q.gv q.val
  low : Below w0.heap.size w0 W
  args : Blk W w0.heap.size 49 #[.slice (some ⟨g, 0, none⟩) 2 ac]
  res : Blk W (w0.heap.size + 1) 24 #[.int .i64 0, .int .i64 0, .string ⟨#[]⟩, .slice none 0 0]
  ptr : Blk W pb 74 #[.pointer (some ⟨M + 1, 0, none⟩)]
  bsl : Blk W bs 22 #[.slice A l.length c]
  bnm : Blk W (bs + 1) 3 #[.int .i64 m]
section
variable {w0 : World} {l : List GI} {M pb g ac bs c m : Nat} {A : Option Addr} {pre : List (Nat × Nat)} {W : World}
theorem ChS.below {W' : World} (h : ChS w0 l M pb g ac bs A c m pre W) (hb : Below W.heap.size W W') : ChS w0 l M pb g ac bs A c m pre W' := by
  obtain ⟨⟨sv, ps, hL, hp, hv⟩, h1, h2, h3, h4, h5, h6⟩ := h
  exact ⟨⟨sv, ps, hL.below hb, hp, fun q hq => ⟨(hv q hq).1, (hv q hq).2.below hb h2.lt⟩⟩, h1.trans (hb.mono h1.size), blk_below h2 hb, blk_below h3 hb, blk_below h4 hb, blk_below h5 hb, blk_below h6 hb⟩
theorem gear_keeps {A : World} {x : Nat} {o o' : Obj} : Keeps (fun j => j = x) A (A.putObj x o') := by
  have hg := grownBy_putObj' A x o'
  exact ⟨hg.os, hg.tape, hg.output, hg.size, fun i _ hn => World.putObj_heap_other hn⟩
theorem ChS.put {x : Nat} {o o' : Obj} (h : ChS w0 l M pb g ac bs A c m pre W) (hx : W.heap[x]? = some o) (ho : Gear o) (hw : w0.heap.size + 1 ≤ x) : ChS w0 l M pb g ac bs A c m pre (W.putObj x o') := by
  obtain ⟨⟨sv, ps, hL, hp, hv⟩, h1, h2, h3, h4, h5, h6⟩ := h
  have hk := gear_keeps (A := W) (x := x) (o := o) (o' := o')
  refine ⟨⟨sv, ps, ⟨blk_put hL.blk hx ho.1 o', hL.idx.keeps hk ?_, ownsRow_putObj hL.owns o' hx ho.1, hL.hb, hL.hm⟩, hp, fun q hq => ⟨(hv q hq).1, (hv q hq).2.put hx ho hw⟩⟩, h1.trans ((hk.below h1.size (fun i e => by subst e; omega))), blk_put h2 hx ho.1 o', blk_put h3 hx ho.1 o', blk_put h4 hx ho.1 o', blk_put h5 hx ho.1 o', blk_put h6 hx ho.1 o'⟩
  rintro e
  obtain ⟨D, ⟨es, ck, e2, _⟩, _⟩ := hL.idx
  rw [e] at e2
  rw [hx] at e2
  injection e2 with e2
  exact ho.2 _ _ e2
/-- One piece more. -/
theorem ChS.next {W6 W7 : World} {x : Nat × Nat} {sv sv' : Value} {ps ps' : List PI} {nx' : Int} (h : ChS w0 l M pb g ac bs A c m pre W6) (hL : LstAt M W6 (M + 1) M false sv ps pre.length)
    (hL' : LstAt M W7 (M + 1) M false sv' ps' nx') (hf : Fr M (M + 1) M sv.ownBlock W6 W7) (hp : ps.map PI.it = renum (pre.map (chunkV l)) 0) (hlen : pre.length < 2048)
    (hs : setG (ps.map PI.it) pre.length (.mk false pre.length ⟨#[]⟩ (chunkV l x).val) = some (ps'.map PI.it, nx')) (hv : ∀ q ∈ ps', KeyOK q.key ∧ VC (w0.heap.size + 1) W6 q.gv q.val) (hM : w0.heap.size + 2 ≤ M) (hpb : M + 1 < pb) (hbs : pb < bs) :
    ChS w0 l M pb g ac bs A c m (pre ++ [x]) W7 := by
  have hst := set_renum (pre.map (chunkV l)) (chunkV l x).val (by simpa using hlen)
  rw [List.length_map] at hst
  rw [hp, hst] at hs
  injection hs with hs
  injection hs with e1 e2
  have hob : ∀ (t : TypeId) (cs : Array Value) (y : Nat), Blk W6 y t cs → t ≠ 136 → y ≠ M + 1 → y ≠ M → Blk W7 y t cs := fun t cs y hb ht n1 n2 => hf.blk3 hb n1 n2 (row_ne hL.owns hb ht)
  refine ⟨⟨sv', ps', ?_, ?_, fun q hq => ⟨(hv q hq).1, (hv q hq).2.fr hL hf (by omega)⟩⟩, h.low.trans (hf.bel.mono (by omega)), hob _ _ _ h.args (by decide) (by omega) (by omega), hob _ _ _ h.res (by decide) (by omega) (by omega), hob _ _ _ h.ptr (by decide) (by omega) (by omega), hob _ _ _ h.bsl (by decide) (by omega) (by omega), hob _ _ _ h.bnm (by decide) (by omega) (by omega)⟩
  · rw [List.length_append]
    show LstAt _ _ _ _ _ _ _ ((pre.length + 1 : Nat) : Int)
    rw [e2]
    exact hL'
  · rw [← e1, List.map_append]
    rfl
theorem partsF_mem (n L : Nat) (hn : 1 ≤ n) : ∀ (f i : Nat) (x : Nat × Nat), x ∈ partsF n L f i → x.1 + x.2 ≤ L ∧ 1 ≤ x.2 ∧ x.2 ≤ n
  | 0, _, _, h => by cases h
  | f + 1, i, x, h => by
    rw [partsF] at h
    split at h
    · rcases List.mem_cons.1 h with rfl | h
      · dsimp only
        omega
      · exact partsF_mem n L hn f _ x h
    · cases h
theorem partsF_len (n L : Nat) : ∀ (f i : Nat), (partsF n L f i).length ≤ f
  | 0, _ => Nat.le_refl _
  | f + 1, i => by
    rw [partsF]
    split
    · rw [List.length_cons]
      exact Nat.succ_le_succ (partsF_len n L f _)
    · exact Nat.zero_le _
theorem piece_len (l : List GI) (x : Nat × Nat) (h : x.1 + x.2 ≤ l.length) : ((l.drop x.1).take x.2).length = x.2 := by rw [List.length_take, List.length_drop]; omega
theorem piece_get (l : List GI) (x : Nat × Nat) (j : Nat) (it : GI) (h : ((l.drop x.1).take x.2)[j]? = some it) : l[x.1 + j]? = some it := by
  rw [List.getElem?_take] at h
  split at h
  · rwa [List.getElem?_drop] at h
  · cases h
theorem renum_get : ∀ (l : List GI) (k i : Nat) (it : GI), (renum l k)[i]? = some it → ∃ it0, l[i]? = some it0 ∧ it = .mk false ((k + i : Nat) : Int) ⟨#[]⟩ it0.val
  | [], _, i, _, h => by simp [renum] at h
  | x :: r, k, 0, it, h => by
    simp [renum] at h
    exact ⟨x, rfl, h.symm⟩
  | x :: r, k, i + 1, it, h => by
    rw [renum, List.getElem?_cons_succ] at h
    obtain ⟨it0, h1, h2⟩ := renum_get r (k + 1) i it h
    exact ⟨it0, by simpa using h1, by rw [h2, show k + 1 + i = k + (i + 1) by omega]⟩
theorem fit_renum (l : List GI) (n : Int) (hn : In64 n) (hl : l.length ≤ 2048) (h : ∀ (i : Nat) (it : GI), l[i]? = some it → Fit it.val) : Fit (.mk 4 n ⟨#[]⟩ (renum l 0)) := by
  refine .mk _ _ _ _ (by unfold In64; omega) hn (Nat.zero_le _) (fun i it hi => ?_) (fun i it hi => ?_)
  · obtain ⟨it0, h1, rfl⟩ := renum_get l 0 i it hi
    have := (List.getElem?_eq_some_iff.1 h1).1
    refine ⟨?_, Nat.zero_le _⟩
    show In64 ((0 + i : Nat) : Int)
    unfold In64
    omega
  · obtain ⟨it0, h1, rfl⟩ := renum_get l 0 i it hi
    exact h i it0 h1
theorem sml_renum (l : List GI) (n : Int) (hl : l.length ≤ 2048) (h : ∀ (i : Nat) (it : GI), l[i]? = some it → Sml it.val) : Sml (.mk 4 n ⟨#[]⟩ (renum l 0)) := by
  refine .mk _ _ _ _ (by rw [renum_len]; omega) (fun i it hi => ?_)
  obtain ⟨it0, h1, rfl⟩ := renum_get l 0 i it hi
  exact h i it0 h1
/-- A list that was made, as a value. -/
theorem vc_made {N base : Nat} {W W2 : World} {ps : List PI} {sv : Value} {l : List GI} (ho : W2.ownsRow base 34 7 sv ps.length (rowC ps)) (hps : ps.map PI.it = renum l 0) (hv : ∀ q ∈ ps, Vok W N q) (hb : Below W.heap.size W W2) (hN : N ≤ W.heap.size) (hl : l.length ≤ 2048)
    (h1 : ∀ (i : Nat) (it : GI), l[i]? = some it → Fit it.val) (h2 : ∀ (i : Nat) (it : GI), l[i]? = some it → Sml it.val) : ∃ A c, sv = .slice A l.length c ∧ VC N W2 (.mk 4 l.length ⟨#[]⟩ (renum l 0)) (.agg #[.int .i64 4, .int .i64 l.length, .string ⟨#[]⟩, .slice A l.length c]) := by
  obtain ⟨A, c, rfl⟩ := own_form0 ho
  have hlen : ps.length = l.length := by
    have := congrArg List.length hps
    rwa [List.length_map, renum_len] at this
  have hV := vin_own (S := Val N W2) ho (fun g e => by
    subst e
    rcases ho.2 with ⟨e, _⟩ | ⟨g', cap, cur, e, _, hg, _⟩
    · cases e
    · injection e with e
      injection e with e
      injection e with e _
      subst e
      exact .inr ⟨cur, _, hg⟩) (fun q hq => ((VIn.of (hv q hq).2.1).under (hb.mono hN) (fun _ h => h)).keep (fun _ h => .inl h) (fun _ _ => rfl)) 4 l.length ⟨#[]⟩
  rw [hps, hlen] at hV
  exact ⟨A, c, by rw [hlen], hV, fit_renum l _ (by unfold In64; omega) hl h1, sml_renum l _ hl h2⟩
theorem KG.fr {base b mb : Nat} {A B : World} {sv : Value} {ps : List PI} {nx : Int} (hL : LstAt base A b mb false sv ps nx) (hf : Fr base b mb sv.ownBlock A B) : KG A B := by
  intro j o ho hg
  refine (hf.blk j (Array.getElem?_eq_some_iff.1 ho).1 ?_ ?_ ?_).trans ho
  · rintro rfl
    have e2 := hL.blk
    unfold Blk at e2
    rw [e2] at ho
    injection ho with ho
    subst ho
    cases hg.1
  · rintro rfl
    obtain ⟨D, ⟨es, ck, e2, _⟩, _⟩ := hL.idx
    rw [e2] at ho
    injection ho with ho
    exact hg.2 _ _ ho.symm
  · intro e0
    rcases hL.owns.2 with ⟨h2, _⟩ | ⟨g2, cap, cur, h2, _, hg2, _⟩
    · rw [h2] at e0
      cases e0
    · rw [h2] at e0
      have e1 : j = g2 := by simpa [Value.ownBlock] using e0
      subst e1
      rw [hg2] at ho
      injection ho with ho
      subst ho
      cases hg.1
theorem vat_below {w w' : World} {B B' : Nat} {g : GV} {x : Value} (h : VAt w B g x) (hb : Below B w w') (hB : B ≤ B') (hBw : B ≤ w'.heap.size) : VAt w' B' g x :=
  ((VIn.of h).under hb (fun _ h => h)).at_ (fun _ _ h => Nat.lt_of_lt_of_le h hB) (fun _ h => Nat.lt_of_lt_of_le h hBw)
theorem ChS.app (h : ChS w0 l M pb g ac bs A c m pre W) (x : Nat × Nat) (hM : w0.heap.size + 2 ≤ M) (hpb : M + 1 < pb) (hbs : pb < bs) (hlen : pre.length < 2048) (hLib : ∀ w', Below w0.heap.size w0 w' → LibS w') {A2 : Option Addr} {c2 e : Nat} (he : ((l.drop x.1).take x.2).length = e) (hv : VC (w0.heap.size + 1) W (.mk 4 e ⟨#[]⟩ (renum ((l.drop x.1).take x.2) 0)) (.agg #[.int .i64 4, .int .i64 e, .string ⟨#[]⟩, .slice A2 e c2])) :
    Calls Tryz.prog 87 #[.pointer (some ⟨M + 1, 0, none⟩), .agg #[.int .i64 4, .int .i64 e, .string ⟨#[]⟩, .slice A2 e c2]] W fun e' W' => (∃ v, e' = .returned v) ∧ ChS w0 l M pb g ac bs A c m (pre ++ [x]) W' ∧ KG W W' := by
  obtain ⟨sv, ps, hL, hp, hvs⟩ := h.ex
  have hps : ps.length = pre.length := by
    have := congrArg List.length hp
    rwa [List.length_map, renum_len, List.length_map] at this
  have hl2 : (renum ((l.drop x.1).take x.2) 0).length = e := by rw [renum_len, he]
  have h1 := append_stepV (w := W) (B := W.heap.size) (fun wz hz => hLib wz (h.low.trans (hz.mono h.low.size))) W (Below.refl _ _) hL (Nat.le_refl _) 4 e ⟨#[]⟩ (renum ((l.drop x.1).take x.2) 0) A2 c2 (by omega) (VC (w0.heap.size + 1) W) (by rw [hl2]; exact hv) hvs (by omega) (by unfold In64; omega)
  rw [hl2] at h1
  refine h1.mono ?_
  have hst := set_renum (pre.map (chunkV l)) (chunkV l x).val (by simpa using hlen)
  have hcv : (chunkV l x).val = .mk 4 e ⟨#[]⟩ (renum ((l.drop x.1).take x.2) 0) := by rw [← he]; rfl
  rw [List.length_map, hcv] at hst
  rintro e' W' ⟨hf, ⟨h2, _⟩ | ⟨ps', sv', nx', h2, ⟨u, rfl⟩, hL', hv', _, _⟩⟩
  · rw [hp] at h2
    have h3 : setG (renum (pre.map (chunkV l)) 0) pre.length (.mk false pre.length ⟨#[]⟩ (.mk 4 e ⟨#[]⟩ (renum ((l.drop x.1).take x.2) 0))) = none := h2
    rw [hst] at h3
    cases h3
  · exact ⟨⟨_, rfl⟩, h.next hL hL' hf hp hlen (by rw [hcv]; exact h2) hv' hM hpb hbs, KG.fr hL hf⟩
end
end Dp
end Go.Proofs.YtopmodahdmnpjaaGreatDoor
