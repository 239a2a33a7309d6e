/- What the laws of this seat ask of the world; list.Norm at a letter. -/
import Derived.Test.YtopmodahdmnpjaaGreatDoorZShM
import Derived.Test.YtopmodahdmnpjaaGreatDoorZWords
import Derived.Deep.QuietTactic
import Derived.Deep.CutRange
import Derived.BigQuiet
import Derived.Lib.SmallJoins
import Derived.Lib.Hide
import Derived.Lib.AtoiAll
import Derived.Lib.LaidTab
import Derived.Lib.AppendIntMem
import Derived.ProofKit
import Derived.Handy
namespace Go.Proofs.YtopmodahdmnpjaaGreatDoor
open Go Go.RowKit
set_option maxRecDepth 1000000
/-- What the laws of this seat ask of the world. -/
structure LibS (w : World) : Prop where
  syn : ∃ tp p, w.var? Tryz.prog "strconv.ErrSyntax" = some #[.iface tp p]
  rng : ∃ tp p, w.var? Tryz.prog "strconv.ErrRange" = some #[.iface tp p]
  pow : Lib.TabIs Tryz.prog w "internal/strconv.uint64pow10" .u64 Lib.pow10Tab
theorem LibS.below' {w w' : World} {B : Nat} (h : LibS w) (hb : Below B w w') (hB : w.heap.size ≤ B) : LibS w' := by
  obtain ⟨tp, p, hv⟩ := h.syn
  obtain ⟨tq, q, hu⟩ := h.rng
  exact ⟨⟨tp, p, Joins.var_stays (g := 3) (by kernel_rfl) hv hb hB⟩, ⟨tq, q, Joins.var_stays (g := 4) (by kernel_rfl) hu hb hB⟩, Joins.tab_stays (g := 5) (by kernel_rfl) h.pow hb hB⟩
theorem LibS.below {w w' : World} (h : LibS w) (hb : Below w.heap.size w w') : LibS w' := h.below' hb (Nat.le_refl _)

theorem atoi_letter (c : UInt8) (l : List UInt8) (h : 65 ≤ c.toNat) : Lib.atoiAll (c :: l) = .syntax := by
  have h1 : ¬ (c.toNat = 43 ∨ c.toNat = 45) := by omega
  have h2 : ¬ (48 ≤ c.toNat ∧ c.toNat ≤ 57) := by omega
  unfold Lib.atoiAll
  simp only [h1, if_false, Lib.parseMag, Lib.parseUint10, h2]
  simp
theorem letter_at {s : ByteArray} {c : UInt8} {l : List UInt8} (h : s.data.toList = c :: l) (hc : 65 ≤ c.toNat) : Lib.atoiAll s.data.toList = .syntax := by rw [h]; exact atoi_letter c l hc
set_option maxRecDepth 100000 in
/-- list.Norm of a text that begins with a letter: itself. -/
theorem norm_letter (n : Int) (s : ByteArray) (c : UInt8) (l : List UInt8) (hs : s.data.toList = c :: l) (hc : 65 ≤ c.toNat) (hz : s.size ≤ 281474976710656) (w : World) (hL : LibS w) :
    Calls Tryz.prog 145 #[.agg #[.bool true, .int .i64 n, .string s]] w fun e w' => e = .returned (.agg #[.bool true, .int .i64 0, .string s]) ∧ Below w.heap.size w w' := by
  obtain ⟨tp, p, hv⟩ := hL.syn
  have HB0 := Lib.hid (((Below.refl w.heap.size w).alloc (Nat.le_refl _) (.cells #[.bool true, .int .i64 n, .string s] 32)).alloc (by simp) (.cells #[.bool false, .int .i64 0, .string ⟨#[]⟩] 32))
  have HK := Lib.hid ((Blk.new w 32 #[.bool true, .int .i64 n, .string s]).alloc (.cells #[.bool false, .int .i64 0, .string ⟨#[]⟩] 32))
  have HR0 : Blk ((w.alloc (.cells #[.bool true, .int .i64 n, .string s] 32)).alloc (.cells #[.bool false, .int .i64 0, .string ⟨#[]⟩] 32)) (w.heap.size + 1) 32 #[.bool false, .int .i64 0, .string ⟨#[]⟩] := by
    have := Blk.new (w.alloc (.cells #[.bool true, .int .i64 n, .string s] 32)) 32 #[.bool false, .int .i64 0, .string ⟨#[]⟩]
    simpa using this
  have HR := Lib.hid HR0
  have HV := Lib.hid (Joins.var_stays (P := Tryz.prog) (g := 3) (by kernel_rfl) hv HB0.out (Nat.le_refl _))
  have HA := Lib.hid (fun w hv => Tryz.strconv_Atoi_syntax_var s hz (letter_at hs hc) tp p w hv)
  clear HR0 hv
  go_enter Tryz.func145, Tryz.ntmps145
  go_wp2_with fail
  generalize (w.alloc (.cells #[.bool true, .int .i64 n, .string s] 32)).alloc (.cells #[.bool false, .int .i64 0, .string ⟨#[]⟩] 32) = w2 at *
  refine (HA.out w2 HV.out).mono ?_
  rintro e w3 ⟨N, rfl, hN, _, hb3⟩
  have HB3 := Lib.hid (HB0.out.trans (hb3.mono HB0.out.size))
  have HK3 := Lib.hid (HK.out.keeps (Keeps.of_below (S := fun _ => False) hb3) id)
  have HR3 := Lib.hid (HR.out.keeps (Keeps.of_below (S := fun _ => False) hb3) id)
  have k0 : w3.cell? ⟨w.heap.size, 0, none⟩ = some (.bool true) := HK3.out.cell 0
  have k1 : w3.cell? ⟨w.heap.size, 1, none⟩ = some (.int .i64 n) := HK3.out.cell 1
  have k2 : w3.cell? ⟨w.heap.size, 2, none⟩ = some (.string s) := HK3.out.cell 2
  have r0 : w3.cell? ⟨w.heap.size + 1, 0, none⟩ = some (.bool false) := HR3.out.cell 0
  have r1 : w3.cell? ⟨w.heap.size + 1, 1, none⟩ = some (.int .i64 0) := HR3.out.cell 1
  have r2 : w3.cell? ⟨w.heap.size + 1, 2, none⟩ = some (.string ⟨#[]⟩) := HR3.out.cell 2
  have z0 := HR3.out.frozen 0
  have z1 := HR3.out.frozen 1
  have z2 := HR3.out.frozen 2
  clear hb3 HB0 HK HR HV HA
  go_wp2_with fail
  go_quiet (fail)
  go_wp2_with fail
  have HR7 := ((HR3.out.drewN nq).set_ 0 (.bool true)).set_ 1 (.int .i64 0) |>.set_ 2 (.string s)
  have hb7 : ∀ v0 v1 v2, Below w.heap.size w ((((w3.drewN nq).setCell ⟨w.heap.size + 1, 0, none⟩ v0).setCell ⟨w.heap.size + 1, 1, none⟩ v1).setCell ⟨w.heap.size + 1, 2, none⟩ v2) := fun v0 v1 v2 =>
    ((((⟨HB3.out.os, HB3.out.tape, HB3.out.output, HB3.out.size, HB3.out.block⟩ : Below w.heap.size w (w3.drewN nq)).setCell (p := ⟨w.heap.size + 1, 0, none⟩) (by simp) v0).setCell (p := ⟨w.heap.size + 1, 1, none⟩) (by simp) v1).setCell (p := ⟨w.heap.size + 1, 2, none⟩) (by simp) v2)
  have HB7 := hb7 (.bool true) (.int .i64 0) (.string s)
  clear hb7
  generalize (((w3.drewN nq).setCell ⟨w.heap.size + 1, 0, none⟩ (.bool true)).setCell ⟨w.heap.size + 1, 1, none⟩ (.int .i64 0)).setCell ⟨w.heap.size + 1, 2, none⟩ (.string s) = w7 at *
  have e0 : w7.cell? ⟨w.heap.size + 1, 0, none⟩ = some (.bool true) := HR7.cell 0
  have e1 : w7.cell? ⟨w.heap.size + 1, 1, none⟩ = some (.int .i64 0) := HR7.cell 1
  have e2 : w7.cell? ⟨w.heap.size + 1, 2, none⟩ = some (.string s) := HR7.cell 2
  refine bodyPost_ret (v := .agg #[.bool true, .int .i64 0, .string s]) (by simp [results, Tryz.results145, go_sem, e0, e1, e2]) rfl ?_
  exact ⟨rfl, HB7⟩
end Go.Proofs.YtopmodahdmnpjaaGreatDoor
