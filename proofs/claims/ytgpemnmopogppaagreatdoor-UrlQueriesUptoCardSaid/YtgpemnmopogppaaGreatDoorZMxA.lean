/- The closed calls 'alive' of the laws of this seat, run by the evaluator. -/
import Derived.Test.YtgpemnmopogppaaGreatDoorZEnv
import Derived.Test.YtgpemnmopogppaaGreatDoorZShM
import Derived.Test.YtgpemnmopogppaaGreatDoorZWords
import Derived.Deep.QuietTactic
import Derived.BigQuiet
import Derived.Lib.SmallJoins
import Derived.Lib.Hide
import Derived.Lib.AtoiAll
import Derived.Lib.LaidTab
import Derived.Lib.AppendIntMem
import Derived.ProofKit
import Derived.Handy
namespace Go.Proofs.YtgpemnmopogppaaGreatDoor
open Go Go.Ev Go.RowKit
set_option maxRecDepth 1000000
/-- What the laws of this seat ask of the world. -/
structure LibS (w : World) : Prop where
  syn : ∃ tp p, w.var? Tryz.prog "strconv.ErrSyntax" = some #[.iface tp p]
  rng : ∃ tp p, w.var? Tryz.prog "strconv.ErrRange" = some #[.iface tp p]
  pow : Lib.TabIs Tryz.prog w "internal/strconv.uint64pow10" .u64 Lib.pow10Tab
theorem LibS.below' {w w' : World} {B : Nat} (h : LibS w) (hb : Below B w w') (hB : w.heap.size ≤ B) : LibS w' := by
  obtain ⟨tp, p, hv⟩ := h.syn
  obtain ⟨tq, q, hu⟩ := h.rng
  exact ⟨⟨tp, p, Joins.var_stays (g := 4) (by kernel_rfl) hv hb hB⟩, ⟨tq, q, Joins.var_stays (g := 5) (by kernel_rfl) hu hb hB⟩, Joins.tab_stays (g := 3) (by kernel_rfl) h.pow hb hB⟩
theorem LibS.below {w w' : World} (h : LibS w) (hb : Below w.heap.size w w') : LibS w' := h.below' hb (Nat.le_refl _)

theorem atoi_letter (c : UInt8) (l : List UInt8) (h : 65 ≤ c.toNat) : Lib.atoiAll (c :: l) = .syntax := by
  have h1 : ¬ (c.toNat = 43 ∨ c.toNat = 45) := by omega
  have h2 : ¬ (48 ≤ c.toNat ∧ c.toNat ≤ 57) := by omega
  unfold Lib.atoiAll
  simp only [h1, if_false, Lib.parseMag, Lib.parseUint10, h2]
  simp
theorem letter_at {s : ByteArray} {c : UInt8} {l : List UInt8} (h : s.data.toList = c :: l) (hc : 65 ≤ c.toNat) : Lib.atoiAll s.data.toList = .syntax := by rw [h]; exact atoi_letter c l hc
set_option maxRecDepth 100000 in
/-- list.Norm of a text that begins with a letter: itself. -/
theorem norm_letter (n : Int) (s : ByteArray) (c : UInt8) (l : List UInt8) (hs : s.data.toList = c :: l) (hc : 65 ≤ c.toNat) (hz : s.size ≤ 281474976710656) (w : World) (hL : LibS w) :
    Calls Tryz.prog 114 #[.agg #[.bool true, .int .i64 n, .string s]] w fun e w' => e = .returned (.agg #[.bool true, .int .i64 0, .string s]) ∧ Below w.heap.size w w' := by
  obtain ⟨tp, p, hv⟩ := hL.syn
  have HB0 := Lib.hid (((Below.refl w.heap.size w).alloc (Nat.le_refl _) (.cells #[.bool true, .int .i64 n, .string s] 37)).alloc (by simp) (.cells #[.bool false, .int .i64 0, .string ⟨#[]⟩] 37))
  have HK := Lib.hid ((Blk.new w 37 #[.bool true, .int .i64 n, .string s]).alloc (.cells #[.bool false, .int .i64 0, .string ⟨#[]⟩] 37))
  have HR0 : Blk ((w.alloc (.cells #[.bool true, .int .i64 n, .string s] 37)).alloc (.cells #[.bool false, .int .i64 0, .string ⟨#[]⟩] 37)) (w.heap.size + 1) 37 #[.bool false, .int .i64 0, .string ⟨#[]⟩] := by
    have := Blk.new (w.alloc (.cells #[.bool true, .int .i64 n, .string s] 37)) 37 #[.bool false, .int .i64 0, .string ⟨#[]⟩]
    simpa using this
  have HR := Lib.hid HR0
  have HV := Lib.hid (Joins.var_stays (P := Tryz.prog) (g := 4) (by kernel_rfl) hv HB0.out (Nat.le_refl _))
  have HA := Lib.hid (fun w hv => Tryz.strconv_Atoi_syntax_var s hz (letter_at hs hc) tp p w hv)
  clear HR0 hv
  go_enter Tryz.func114, Tryz.ntmps114
  go_wp2_with fail
  generalize (w.alloc (.cells #[.bool true, .int .i64 n, .string s] 37)).alloc (.cells #[.bool false, .int .i64 0, .string ⟨#[]⟩] 37) = w2 at *
  refine (HA.out w2 HV.out).mono ?_
  rintro e w3 ⟨N, rfl, hN, _, hb3⟩
  have HB3 := Lib.hid (HB0.out.trans (hb3.mono HB0.out.size))
  have HK3 := Lib.hid (HK.out.keeps (Keeps.of_below (S := fun _ => False) hb3) id)
  have HR3 := Lib.hid (HR.out.keeps (Keeps.of_below (S := fun _ => False) hb3) id)
  have k0 : w3.cell? ⟨w.heap.size, 0, none⟩ = some (.bool true) := HK3.out.cell 0
  have k1 : w3.cell? ⟨w.heap.size, 1, none⟩ = some (.int .i64 n) := HK3.out.cell 1
  have k2 : w3.cell? ⟨w.heap.size, 2, none⟩ = some (.string s) := HK3.out.cell 2
  have r0 : w3.cell? ⟨w.heap.size + 1, 0, none⟩ = some (.bool false) := HR3.out.cell 0
  have r1 : w3.cell? ⟨w.heap.size + 1, 1, none⟩ = some (.int .i64 0) := HR3.out.cell 1
  have r2 : w3.cell? ⟨w.heap.size + 1, 2, none⟩ = some (.string ⟨#[]⟩) := HR3.out.cell 2
  have z0 := HR3.out.frozen 0
  have z1 := HR3.out.frozen 1
  have z2 := HR3.out.frozen 2
  clear hb3 HB0 HK HR HV HA
  go_wp2_with fail
  go_quiet (fail)
  go_wp2_with fail
  have HR7 := ((HR3.out.drewN nq).set_ 0 (.bool true)).set_ 1 (.int .i64 0) |>.set_ 2 (.string s)
  have hb7 : ∀ v0 v1 v2, Below w.heap.size w ((((w3.drewN nq).setCell ⟨w.heap.size + 1, 0, none⟩ v0).setCell ⟨w.heap.size + 1, 1, none⟩ v1).setCell ⟨w.heap.size + 1, 2, none⟩ v2) := fun v0 v1 v2 =>
    ((((⟨HB3.out.os, HB3.out.tape, HB3.out.output, HB3.out.size, HB3.out.block⟩ : Below w.heap.size w (w3.drewN nq)).setCell (p := ⟨w.heap.size + 1, 0, none⟩) (by simp) v0).setCell (p := ⟨w.heap.size + 1, 1, none⟩) (by simp) v1).setCell (p := ⟨w.heap.size + 1, 2, none⟩) (by simp) v2)
  have HB7 := hb7 (.bool true) (.int .i64 0) (.string s)
  clear hb7
  generalize (((w3.drewN nq).setCell ⟨w.heap.size + 1, 0, none⟩ (.bool true)).setCell ⟨w.heap.size + 1, 1, none⟩ (.int .i64 0)).setCell ⟨w.heap.size + 1, 2, none⟩ (.string s) = w7 at *
  have e0 : w7.cell? ⟨w.heap.size + 1, 0, none⟩ = some (.bool true) := HR7.cell 0
  have e1 : w7.cell? ⟨w.heap.size + 1, 1, none⟩ = some (.int .i64 0) := HR7.cell 1
  have e2 : w7.cell? ⟨w.heap.size + 1, 2, none⟩ = some (.string s) := HR7.cell 2
  refine bodyPost_ret (v := .agg #[.bool true, .int .i64 0, .string s]) (by simp [results, Tryz.results114, go_sem, e0, e1, e2]) rfl ?_
  exact ⟨rfl, HB7⟩

noncomputable def prmB (f : Nat) (args : List V) : Option V :=
  cond (Nat.beq f 155) (match args with | [.str s, .int .u8 (.ofNat n)] => cond (Nat.ble n 255) (intK (idxB s 0 n) fun n => some (.int .i64 n)) none | _ => none)
  (cond (Nat.beq f 114) (match args with | [.agg [.bool true, .int .i64 _, .str (c :: s)]] => cond (Nat.ble 65 c) (cond (Nat.ble s.length 1000000) (some (.agg [.bool true, .int .i64 (.ofNat 0), .str (c :: s)])) none) none | _ => none)
  (cond (Nat.beq f 104) (match args with | [.str s, .str [c]] => natK (cntB s 0 c) fun n => some (.int .i64 (.ofNat n)) | _ => none)
  (cond (Nat.beq f 121) (match args with | [v] => some v | _ => none) none)))
noncomputable def memoB (f : Nat) (args : List V) (st : St) : Option (V × St) := cond (Nat.beq f 38) (joinM st args) none
noncomputable def extB (f : Nat) (args : List V) (st : St) : Option (V × St) :=
  cond (Nat.beq f 171) (extV .load .u32 args st)
  (cond (Nat.beq f 190) (extV .store .u32 args st)
  (cond (Nat.beq f 200) (extV .cas .i32 args st)
  (cond (Nat.beq f 205) (extV .add .i32 args st)
  (cond (Nat.beq f 199) (extV .nothing .i32 args st)
  (cond (Nat.beq f 201) (extV .nothing .i32 args st)
  (cond (Nat.beq f 202) (extV .mark .i32 args st)
  (cond (Nat.beq f 204) (extV .mark .i32 args st) none)))))))
theorem beq_cond {α : Type} {a b : Nat} {x y : Option α} {v : α} (h : cond (Nat.beq a b) x y = some v) : a = b ∧ x = some v ∨ y = some v := by
  cases hb : Nat.beq a b with
  | true => rw [hb] at h; exact .inl ⟨Nat.eq_of_beq_eq_true hb, h⟩
  | false => rw [hb] at h; exact .inr h
theorem extB_ok [Base] : ∀ f args st v st', extB f args st = some (v, st') → ExtOK Tryz.prog f args st v st' := by
  intro f args st v st' h
  rcases beq_cond h with ⟨rfl, g⟩ | g
  · exact ext_load Tryz.func171 (by kernel_rfl) (by kernel_rfl) rfl .u32 rfl g
  clear h
  rcases beq_cond g with ⟨rfl, h⟩ | h
  · exact ext_store Tryz.func190 (by kernel_rfl) (by kernel_rfl) rfl .u32 rfl h
  clear g
  rcases beq_cond h with ⟨rfl, g⟩ | g
  · exact ext_cas Tryz.func200 (by kernel_rfl) (by kernel_rfl) rfl .i32 rfl g
  clear h
  rcases beq_cond g with ⟨rfl, h⟩ | h
  · exact ext_add Tryz.func205 (by kernel_rfl) (by kernel_rfl) rfl .i32 rfl h
  clear g
  rcases beq_cond h with ⟨rfl, g⟩ | g
  · exact ext_mark0 Tryz.func199 (by kernel_rfl) (by kernel_rfl) rfl .disable rfl g
  clear h
  rcases beq_cond g with ⟨rfl, h⟩ | h
  · exact ext_mark0 Tryz.func201 (by kernel_rfl) (by kernel_rfl) rfl .enable rfl h
  clear g
  rcases beq_cond h with ⟨rfl, g⟩ | g
  · exact ext_marked Tryz.func202 (by kernel_rfl) (by kernel_rfl) rfl .acquire rfl g
  clear h
  rcases beq_cond g with ⟨rfl, h⟩ | h
  · exact ext_marked Tryz.func204 (by kernel_rfl) (by kernel_rfl) rfl .releaseMerge rfl h
  · cases h
theorem memoB_ok [Base] : ∀ f args st v st', memoB f args st = some (v, st') → MemoOK Tryz.prog f args st v st' := by
  intro f args st v st' h
  rcases beq_cond h with ⟨rfl, g⟩ | g
  · exact joinM_ok (fun bk o c xs sep w h1 h2 h3 h4 h5 => Tryz.strings_Join bk o c xs sep w h1 h2 h3 h4 h5) g
  · cases g
noncomputable def env00 : Env := mkEnv ftr ttr ptr noPrm noMemo []
theorem env00_ok [Base] : EnvOK env00 Tryz.prog := mkEnv_ok ftr_all ftr_names ttr_all ptr_all (mixed_of Tryz.checked) noPrm_ok noMemo_ok rfl
def liesL : List (TypeId × Nat × TypeId) := [(73, 0, 73)]
noncomputable def envB : Env := mkEnvX ftr ttr ptr prmB memoB extB liesL
theorem prmB_ok [Base] (hL : LibS Base.w0) : ∀ f args v, prmB f args = some v → ∀ (φ : Phi) (xs : Array Value) (w : World), Below Base.w0.heap.size Base.w0 w → VRs φ args xs.toList → PrimGives Tryz.prog φ w v ((callFunc f xs).run Tryz.prog w) := by
  intro f args v h φ xs w hw ha
  rcases beq_cond h with ⟨rfl, g⟩ | g
  · clear h
    split at g
    · rename_i s n
      obtain ⟨h1, h⟩ := cond_some g
      rw [intK_eq] at h
      cases h
      exact prim_indexByte Tryz.func155 (by kernel_rfl) (by kernel_rfl) rfl rfl (by have := Nat.le_of_ble_eq_true h1; omega) φ xs w ha
    · cases g
  clear h
  rcases beq_cond g with ⟨rfl, h⟩ | h
  · clear g
    split at h
    · rename_i n c s
      obtain ⟨h1, h⟩ := cond_some h
      obtain ⟨h2, h⟩ := cond_some h
      cases h
      have h1 := Nat.le_of_ble_eq_true h1
      have h2 := Nat.le_of_ble_eq_true h2
      obtain ⟨x, ys, e1, hx, hys⟩ := ha.inv
      rw [hys.inv_nil] at e1
      obtain ⟨cs, rfl, hcs⟩ := hx.inv_agg
      obtain ⟨x0, l0, e0, q0, hcs⟩ := hcs.inv
      obtain ⟨x1, l1, rfl, q1, hcs⟩ := hcs.inv
      obtain ⟨x2, l2, rfl, q2, hcs⟩ := hcs.inv
      rw [hcs.inv_nil] at e0
      cases q0
      cases q1
      cases q2 with
      | str _ hb =>
      obtain rfl : cs = #[.bool true, .int .i64 n, .string (mkS (c :: s))] := by cases cs; simpa using e0
      obtain rfl : xs = #[.agg #[.bool true, .int .i64 n, .string (mkS (c :: s))]] := by cases xs; simpa using e1
      have hc256 : c < 256 := hb c (by simp)
      refine .inr ⟨_, _, callFunc_enter env00_ok (fn := Tryz.f114) (by kernel_rfl) (by kernel_rfl) _ w, (norm_letter n (mkS (c :: s)) (UInt8.ofNat c) (s.map UInt8.ofNat) (by simp [mkS]) (by simp; omega) (by rw [mkS_size]; simp; omega) w (hL.below hw)).mono ?_⟩
      rintro e w' ⟨rfl, hbl⟩
      exact ⟨_, rfl, VRs.agg (xs := #[_, _, _]) (.cons (.bool _) (.cons (.int _ _) (.cons (.str _ hb) .nil))), hbl⟩
    · cases h
  clear g
  rcases beq_cond h with ⟨rfl, g⟩ | g
  · clear h
    split at g
    · rename_i s c
      rw [natK_eq] at g
      cases g
      exact prim_count1 env00_ok (f := 104) (fn := Tryz.f104) (by kernel_rfl) (by kernel_rfl) (fun s c w => Tryz.strings_Count_one s c w) φ xs w ha
    · cases g
  clear h
  rcases beq_cond g with ⟨rfl, h⟩ | h
  · clear g
    split at h
    · rename_i u
      cases h
      exact prim_noEscape Tryz.func121 (by kernel_rfl) (by kernel_rfl) rfl rfl φ xs w ha
    · cases h
  · cases h
theorem lies_ok : liesB Tryz.prog liesL = true := by kernel_rfl
theorem envB_ok [Base] (hL : LibS Base.w0) : EnvOK envB Tryz.prog := mkEnvX_ok ftr_all ftr_names ttr_all ptr_all (mixed_of Tryz.checked) (prmB_ok hL) memoB_ok lies_ok extB_ok
theorem alive_of {f : FuncId} {n : Nat} (h : okRes (.bool true) (call envB n f [] ⟨0, .e⟩) = true) (w : World) (hL : LibS w) : Calls Tryz.prog f #[] w fun e w' => e = .returned (.bool true) ∧ Below w.heap.size w w' := by
  letI : Base := ⟨w⟩
  cases hc : call envB n f [] ⟨0, .e⟩ with
  | none => rw [hc] at h; cases h
  | some p =>
    obtain ⟨v, st⟩ := p
    rw [hc] at h
    obtain ⟨rfl, _⟩ := flatEq_sound (show flatEq (.bool true) v = true from h)
    refine (call_sound (envB_ok hL) hc #[] w (Below.refl _ _) .nil).mono ?_
    rintro e w' ⟨φ, x, rfl, hv, hb⟩
    cases hv
    exact ⟨rfl, hb⟩
end Go.Proofs.YtgpemnmopogppaaGreatDoor
