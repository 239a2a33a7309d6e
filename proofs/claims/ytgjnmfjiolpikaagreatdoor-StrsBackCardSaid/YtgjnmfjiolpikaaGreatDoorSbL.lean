/- strs.Call of explode, implode, hex2bin, bin2hex and strrev. -/
import Derived.Test.YtgjnmfjiolpikaaGreatDoorSbI
import Derived.Test.YtgjnmfjiolpikaaGreatDoorSbJ
import Derived.Test.YtgjnmfjiolpikaaGreatDoorSbK
import Derived.Test.YtgjnmfjiolpikaaGreatDoorDpRa
namespace Go.Proofs.YtgjnmfjiolpikaaGreatDoor
open Go Go.RowKit
set_option maxRecDepth 100000
namespace Sb
open Dp
open Go.Ev (mkS)
theorem rtext_any (t : ByteArray) (w : World) : Calls Tryz.prog 6 #[.string t] w fun e w' => e = .returned (.agg #[.int .i64 3, .int .i64 0, .string t, .slice none 0 0]) ∧ Below w.heap.size w w' := by
  have B := (Below.refl w.heap.size w).alloc (Nat.le_refl _) (.cells #[.int .i64 3, .int .i64 0, .string t, .slice none 0 0] 25)
  have HN := Blk.new w 25 #[.int .i64 3, .int .i64 0, .string t, .slice none 0 0]
  go_enter Tryz.func6, Tryz.ntmps6
  go_wp2_with fail
  generalize w.alloc (.cells #[.int .i64 3, .int .i64 0, .string t, .slice none 0 0] 25) = w1 at *
  have e0 : w1.cell? ⟨w.heap.size, 0, none⟩ = _ := HN.cell 0
  have e1 : w1.cell? ⟨w.heap.size, 1, none⟩ = _ := HN.cell 1
  have e2 : w1.cell? ⟨w.heap.size, 2, none⟩ = _ := HN.cell 2
  have e3 : w1.cell? ⟨w.heap.size, 3, none⟩ = _ := HN.cell 3
  simp at e0 e1 e2 e3
  refine bodyPost_ret (v := .agg #[.int .i64 3, .int .i64 0, .string t, .slice none 0 0]) (by simp [results, Tryz.results6, go_sem, e0, e1, e2, e3]) rfl ?_
  exact ⟨rfl, B⟩
theorem taken_sA (n : Int) (t : ByteArray) (A : Option Addr) (l c : Nat) (w : World) : Calls Tryz.prog 11 #[.int .u8 115, .agg #[.int .i64 3, .int .i64 n, .string t, .slice A l c]] w fun e w' => e = .returned (.bool true) ∧ Below w.heap.size w w' := by
  have B := (Below.refl w.heap.size w).alloc (Nat.le_refl _) (.cells #[.int .i64 3, .int .i64 n, .string t, .slice A l c] 25)
  go_enter Tryz.func11, Tryz.ntmps11
  go_wp2_with fail
  go_ret
  exact ⟨rfl, B⟩
theorem taken_aA (n : Int) (t : ByteArray) (A : Option Addr) (l c : Nat) (w : World) (hR : ∀ wz, Below w.heap.size w wz → Calls Tryz.prog 72 #[.agg #[.int .i64 4, .int .i64 n, .string t, .slice A l c]] wz fun e w' => e = .returned (.bool true) ∧ Below wz.heap.size wz w') :
    Calls Tryz.prog 11 #[.int .u8 97, .agg #[.int .i64 4, .int .i64 n, .string t, .slice A l c]] w fun e w' => e = .returned (.bool true) ∧ Below w.heap.size w w' := by
  have HB0 := Lib.hid ((Below.refl w.heap.size w).alloc (Nat.le_refl _) (.cells #[.int .i64 4, .int .i64 n, .string t, .slice A l c] 25))
  have HR := Lib.hid hR
  clear hR
  go_enter Tryz.func11, Tryz.ntmps11
  go_wp2_with (go_at_call 72; refine (HR.out _ HB0.out).mono ?_; rintro e w1 ⟨rfl, hb1⟩; have HB1 := Lib.hid (HB0.out.trans (hb1.mono HB0.out.size)); clear hb1)
  go_ret
  exact ⟨rfl, HB1.out⟩
theorem argsA_get {w : World} {cs : Array Value} {T : TypeId} {vs : List AV} (h : ∀ i, i < vs.length → cs[i * 4]? = some (.int .i64 (vs.getD i default).1) ∧ cs[i * 4 + 1]? = some (.int .i64 (vs.getD i default).2.1) ∧ cs[i * 4 + 2]? = some (.string (vs.getD i default).2.2.1) ∧ cs[i * 4 + 3]? = some (.slice (vs.getD i default).2.2.2.1 (vs.getD i default).2.2.2.2.1 (vs.getD i default).2.2.2.2.2)) :
    ArgsA (w.alloc (.cells cs T)) w.heap.size vs := by
  refine ⟨by simp, fun i hi => ?_⟩
  have hb := Blk.new w T cs
  obtain ⟨a, b, c, d⟩ := h i hi
  exact ⟨(hb.cell _).trans a, (hb.cell _).trans b, (hb.cell _).trans c, (hb.cell _).trans d⟩
theorem argsA1 (w : World) (k0 n0 : Int) (t0 : ByteArray) (A0 : Option Addr) (l0 c0 : Nat) : ArgsA (w.alloc (.cells #[.int .i64 k0, .int .i64 n0, .string t0, .slice A0 l0 c0] 25)) w.heap.size [(k0, n0, t0, A0, l0, c0)] := argsA_get fun i hi => by
  match i, hi with
  | 0, _ => exact ⟨rfl, rfl, rfl, rfl⟩
theorem argsA2 (w : World) (k0 n0 k1 n1 : Int) (t0 t1 : ByteArray) (A0 A1 : Option Addr) (l0 c0 l1 c1 : Nat) : ArgsA (w.alloc (.cells #[.int .i64 k0, .int .i64 n0, .string t0, .slice A0 l0 c0, .int .i64 k1, .int .i64 n1, .string t1, .slice A1 l1 c1] 25)) w.heap.size [(k0, n0, t0, A0, l0, c0), (k1, n1, t1, A1, l1, c1)] := argsA_get fun i hi => by
  match i, hi with
  | 0, _ => exact ⟨rfl, rfl, rfl, rfl⟩
  | 1, _ => exact ⟨rfl, rfl, rfl, rfl⟩
theorem explode_in (args : Array Value) (w : World) : (callFunc 45 args).run Tryz.prog w = .ok (.enter 45 args) w := enters_of Tryz.func45 (by kernel_rfl) rfl args w
theorem implode_in (args : Array Value) (w : World) : (callFunc 46 args).run Tryz.prog w = .ok (.enter 46 args) w := enters_of Tryz.func46 (by kernel_rfl) rfl args w
theorem hex2bin_in (args : Array Value) (w : World) : (callFunc 55 args).run Tryz.prog w = .ok (.enter 55 args) w := enters_of Tryz.func55 (by kernel_rfl) rfl args w
theorem bin2hex_in (args : Array Value) (w : World) : (callFunc 54 args).run Tryz.prog w = .ok (.enter 54 args) w := enters_of Tryz.func54 (by kernel_rfl) rfl args w
theorem rev_in (args : Array Value) (w : World) : (callFunc 30 args).run Tryz.prog w = .ok (.enter 30 args) w := enters_of Tryz.func30 (by kernel_rfl) rfl args w
theorem of_in (args : Array Value) (w : World) : (callFunc 77 args).run Tryz.prog w = .ok (.enter 77 args) w := enters_of Tryz.func77 (by kernel_rfl) rfl args w
/-- A call that gives a text. -/
theorem call_text (nm tk : ByteArray) (must : Nat) (fid : FuncId) (Cap : World → Array Value → Prop) (vs : List AV) (u : ByteArray) (m : Int) (w : World) (hL : LibA m w) (g cap : Nat)
    (hent : ∀ w' b, FnAt w' b → ∃ es clock i ca, w'.heap[b]? = some (.map es clock) ∧ Instr.findNow .string (.string nm) es.toList 0 = some (some (i, .agg #[.string tk, .int .i64 must, .bool false, .func (.func fid) #[] ca])) ∧ Cap w' ca)
    (hcap : ∀ w' w'' ca, Cap w' ca → Below w'.heap.size w' w'' → Cap w'' ca)
    (hn : must ≤ vs.length) (hm : vs.length ≤ tk.size) (htz : tk.size ≤ 1000)
    (htk : ∀ i (h : i < tk.size), i < vs.length → ∀ wz, Below w.heap.size w wz → Calls Tryz.prog 11 #[.int .u8 tk[i].toNat, avV (vs.getD i default)] wz fun e w' => e = .returned (.bool true) ∧ Below wz.heap.size wz w')
    (hA : ArgsA w g vs) (hu : u.size ≤ 65536)
    (hin : ∀ args w, (callFunc fid args).run Tryz.prog w = .ok (.enter fid args) w)
    (hdo : ∀ w' ca, LibA m w' → Below w.heap.size w w' → Cap w' ca → Calls Tryz.prog fid (#[.slice (some ⟨g, 0, none⟩) vs.length cap] ++ ca) w' fun e w'' => e = .returned (.tuple #[.agg #[.int .i64 3, .int .i64 0, .string u, .slice none 0 0], .int .i64 0]) ∧ Below w'.heap.size w' w'') :
    Calls Tryz.prog 5 #[.string nm, .slice (some ⟨g, 0, none⟩) vs.length cap] w fun e w' => ∃ A c, e = .returned (.tuple #[.agg #[.int .i64 3, .int .i64 0, .string u, .slice A 0 c], .int .i64 0]) ∧ Below w.heap.size w w' :=
  (call_gen nm tk must false fid Cap vs 3 0 u [] 0 m w hL g cap hent hcap hn hm htz htk hA (by simpa [sizesL] using hu) (by simp) hin (fun w' ca h1 h2 h3 => (hdo w' ca h1 h2 h3).mono (by rintro e w'' ⟨rfl, h⟩; exact ⟨none, 0, rfl, ans_text _ _ _, h⟩))).mono (by
    rintro e w' ⟨hb, h | h | h⟩
    · obtain ⟨_, _, A, c, rfl, _⟩ := h
      exact ⟨A, c, rfl, hb⟩
    · exact absurd rfl h.1
    · exact absurd h.2.1 (by simp))
theorem tk_s {i : Nat} {n : Int} {t : ByteArray} {A : Option Addr} {l c : Nat} (h : i < (mkS [115]).size) (wz : World) : Calls Tryz.prog 11 #[.int .u8 (mkS [115])[i].toNat, avV ([((3 : Int), n, t, A, l, c)].getD i default)] wz fun e w' => e = .returned (.bool true) ∧ Below wz.heap.size wz w' := by
  have hs : (mkS [115]).size = 1 := rfl
  obtain rfl : i = 0 := by omega
  exact taken_sA n t A l c wz
theorem fn_cap {inner : FuncId} (w' w'' : World) (ca : Array Value) (h : ∃ c, ca = #[.pointer (some ⟨c, 0, none⟩)] ∧ w'.cell? ⟨c, 0, none⟩ = some (.func (.func inner) #[] #[])) (hb : Below w'.heap.size w' w'') : ∃ c, ca = #[.pointer (some ⟨c, 0, none⟩)] ∧ w''.cell? ⟨c, 0, none⟩ = some (.func (.func inner) #[] #[]) := by
  obtain ⟨c, e, hc⟩ := h
  exact ⟨c, e, (hb.cell (p := ⟨c, 0, none⟩) (World.block_lt_of_cell? w' _ hc)).trans hc⟩
set_option maxHeartbeats 1000000 in
theorem call_bin (t : ByteArray) (ht : t.size ≤ 16384) (n : Int) (A : Option Addr) (l c : Nat) (m : Int) (w : World) (hL : LibA m w) (g cap : Nat) (hA : ArgsA w g [(3, n, t, A, l, c)]) :
    Calls Tryz.prog 5 #[.string ⟨#[98, 105, 110, 50, 104, 101, 120]⟩, .slice (some ⟨g, 0, none⟩) 1 cap] w fun e w' => ∃ A c, e = .returned (.tuple #[.agg #[.int .i64 3, .int .i64 0, .string (hexB t.data.toList), .slice A 0 c], .int .i64 0]) ∧ Below w.heap.size w w' := by
  have hu : (hexB t.data.toList).size ≤ 65536 := by
    have h1 := hexB_size t.data.toList
    have h2 : t.data.toList.length = t.size := by simp
    omega
  have h := call_text (mkS [98, 105, 110, 50, 104, 101, 120]) (mkS [115]) 1 77 (fun w' ca => ∃ c, ca = #[.pointer (some ⟨c, 0, none⟩)] ∧ w'.cell? ⟨c, 0, none⟩ = some (.func (.func 54) #[] #[])) [(3, n, t, A, l, c)] (hexB t.data.toList) m w hL g cap
    (fun w' b h => by
      obtain ⟨es, clock, hm, -, -, -, -, ⟨g5, ⟨i, f5⟩, c5⟩⟩ := h
      exact ⟨es, clock, i, _, hm, f5, g5, rfl, c5⟩)
    fn_cap (Nat.le_refl _) (Nat.le_refl _) (by show 1 ≤ 1000; omega) (fun i hi _ wz _ => tk_s hi wz) hA hu of_in
    (fun w1 ca hl1 hb1 hc => by
      obtain ⟨c1, rfl, hc1⟩ := hc
      exact of_do 54 n t (hexB t.data.toList) A l c bin2hex_in g cap c1 w1 (hA.below hb1 (Nat.le_refl _)) hc1 (fun wz hb2 => bin2hex_any t (by omega) m wz (hl1.below hb2)))
  exact h
set_option maxHeartbeats 1000000 in
theorem call_rev (t : ByteArray) (ht : t.size ≤ 16384) (n : Int) (A : Option Addr) (l c : Nat) (m : Int) (w : World) (hL : LibA m w) (g cap : Nat) (hA : ArgsA w g [(3, n, t, A, l, c)]) :
    Calls Tryz.prog 5 #[.string ⟨#[115, 116, 114, 114, 101, 118]⟩, .slice (some ⟨g, 0, none⟩) 1 cap] w fun e w' => ∃ A c, e = .returned (.tuple #[.agg #[.int .i64 3, .int .i64 0, .string (revB t), .slice A 0 c], .int .i64 0]) ∧ Below w.heap.size w w' := by
  have hu : (revB t).size ≤ 65536 := by rw [revB_size]; omega
  have h := call_text (mkS [115, 116, 114, 114, 101, 118]) (mkS [115]) 1 77 (fun w' ca => ∃ c, ca = #[.pointer (some ⟨c, 0, none⟩)] ∧ w'.cell? ⟨c, 0, none⟩ = some (.func (.func 30) #[] #[])) [(3, n, t, A, l, c)] (revB t) m w hL g cap
    (fun w' b h => by
      obtain ⟨es, clock, hm, -, -, -, ⟨g5, ⟨i, f5⟩, c5⟩, -⟩ := h
      exact ⟨es, clock, i, _, hm, f5, g5, rfl, c5⟩)
    fn_cap (Nat.le_refl _) (Nat.le_refl _) (by show 1 ≤ 1000; omega) (fun i hi _ wz _ => tk_s hi wz) hA hu of_in
    (fun w1 ca hl1 hb1 hc => by
      obtain ⟨c1, rfl, hc1⟩ := hc
      exact of_do 30 n t (revB t) A l c rev_in g cap c1 w1 (hA.below hb1 (Nat.le_refl _)) hc1 (fun wz hb2 => rev_fn t (by omega) wz))
  exact h
set_option maxHeartbeats 1000000 in
theorem call_hexb (q : List UInt8) (hq : q.length ≤ 16384) (n : Int) (A : Option Addr) (l c : Nat) (m : Int) (w : World) (hL : LibA m w) (g cap : Nat) (hA : ArgsA w g [(3, n, hexB q, A, l, c)]) :
    Calls Tryz.prog 5 #[.string ⟨#[104, 101, 120, 50, 98, 105, 110]⟩, .slice (some ⟨g, 0, none⟩) 1 cap] w fun e w' => ∃ A c, e = .returned (.tuple #[.agg #[.int .i64 3, .int .i64 0, .string ⟨q.toArray⟩, .slice A 0 c], .int .i64 0]) ∧ Below w.heap.size w w' := by
  have hu : (⟨q.toArray⟩ : ByteArray).size ≤ 65536 := by show q.toArray.size ≤ 65536; simp; omega
  have h := call_text (mkS [104, 101, 120, 50, 98, 105, 110]) (mkS [115]) 1 55 (fun _ ca => ca = #[]) [(3, n, hexB q, A, l, c)] ⟨q.toArray⟩ m w hL g cap
    (fun w' b h => by
      obtain ⟨es, clock, hm, -, -, ⟨i, f5⟩, -⟩ := h
      exact ⟨es, clock, i, _, hm, f5, rfl⟩)
    (fun _ _ _ h _ => h) (Nat.le_refl _) (Nat.le_refl _) (by show 1 ≤ 1000; omega) (fun i hi _ wz _ => tk_s hi wz) hA hu hex2bin_in
    (fun w1 ca hl1 hb1 hc => by
      subst hc
      exact hex2bin_do q (by omega) n A l c g cap m w1 hl1 (hA.below hb1 (Nat.le_refl _)))
  exact h
theorem tk_ss {i : Nat} {n0 n1 : Int} {s t : ByteArray} {A0 A1 : Option Addr} {l0 c0 l1 c1 : Nat} (h : i < (mkS [115, 115, 105]).size) (h2 : i < 2) (wz : World) : Calls Tryz.prog 11 #[.int .u8 (mkS [115, 115, 105])[i].toNat, avV ([((3 : Int), n0, s, A0, l0, c0), (3, n1, t, A1, l1, c1)].getD i default)] wz fun e w' => e = .returned (.bool true) ∧ Below wz.heap.size wz w' := by
  match i, h, h2 with
  | 0, _, _ => exact taken_sA n0 s A0 l0 c0 wz
  | 1, _, _ => exact taken_sA n1 t A1 l1 c1 wz
set_option maxHeartbeats 1000000 in
theorem call_expl (s t : ByteArray) (hs : 1 ≤ s.size) (ht : t.size ≤ 16384) (n0 n1 : Int) (A0 A1 : Option Addr) (l0 c0 l1 c1 : Nat) (m : Int) (w : World) (hL : LibA m w) (g cap : Nat) (hA : ArgsA w g [(3, n0, s, A0, l0, c0), (3, n1, t, A1, l1, c1)]) :
    Calls Tryz.prog 5 #[.string ⟨#[101, 120, 112, 108, 111, 100, 101]⟩, .slice (some ⟨g, 0, none⟩) 2 cap] w fun e w' => Below w.heap.size w w' ∧
      (((partsB s t).length ≤ 2048 ∧ ∃ A c, e = .returned (.tuple #[.agg #[.int .i64 4, .int .i64 (partsB s t).length, .string ⟨#[]⟩, .slice A (partsB s t).length c], .int .i64 0]) ∧ VIn w' (fun b => w.heap.size ≤ b ∧ b < w'.heap.size) (rowG (partsB s t)) (.agg #[.int .i64 4, .int .i64 (partsB s t).length, .string ⟨#[]⟩, .slice A (partsB s t).length c])) ∨
       e = .returned (.tuple #[.agg #[.int .i64 0, .int .i64 0, .string ⟨#[]⟩, .slice none 0 0], .int .i64 8])) := by
  obtain ⟨hp1, hp2⟩ := parts_len s t hs
  have hlen := rowI_len (partsB s t) 0
  have hsz : sizesL (rowI (partsB s t) 0) ≤ 65536 := by
    rw [sizes_row]
    have := sum_le s t (Lib.countB t s)
    show sumS (Lib.splitB s 0 (Lib.countB t s) t) ≤ 65536
    omega
  have h := call_gen (mkS [101, 120, 112, 108, 111, 100, 101]) (mkS [115, 115, 105]) 2 false 45 (fun _ ca => ca = #[]) [(3, n0, s, A0, l0, c0), (3, n1, t, A1, l1, c1)] 4 (partsB s t).length ⟨#[]⟩ (rowI (partsB s t) 0) 0 m w hL g cap
    (fun w' b h => by
      obtain ⟨es, clock, hm, ⟨i, f5⟩, -⟩ := h
      exact ⟨es, clock, i, _, hm, f5, rfl⟩)
    (fun _ _ _ h _ => h) (Nat.le_refl _) (by show 2 ≤ 3; omega) (by show 3 ≤ 1000; omega) (fun i hi h2 wz _ => tk_ss hi h2 wz) hA (by show 0 + _ ≤ 65536; omega) (by omega) explode_in
    (fun w1 ca hl1 hb1 hc => by
      subst hc
      rw [hlen]
      exact explode_do s t hs (by omega) n0 n1 A0 A1 l0 c0 l1 c1 g cap m w1 hl1 (hA.below hb1 (Nat.le_refl _)))
  rw [hlen] at h
  refine h.mono ?_
  rintro e w' ⟨hb, h | h | h⟩
  · obtain ⟨_, h2, A, c, rfl, hv⟩ := h
    exact ⟨hb, .inl ⟨h2, A, c, rfl, hv⟩⟩
  · exact absurd rfl h.1
  · exact ⟨hb, .inr h.2.2⟩
set_option maxHeartbeats 1000000 in
theorem call_expl0 (t : ByteArray) (n0 n1 : Int) (A0 A1 : Option Addr) (l0 c0 l1 c1 : Nat) (m : Int) (w : World) (hL : LibA m w) (g cap : Nat) (hA : ArgsA w g [(3, n0, ⟨#[]⟩, A0, l0, c0), (3, n1, t, A1, l1, c1)]) :
    Calls Tryz.prog 5 #[.string ⟨#[101, 120, 112, 108, 111, 100, 101]⟩, .slice (some ⟨g, 0, none⟩) 2 cap] w fun e w' => e = .returned (.tuple #[.agg #[.int .i64 0, .int .i64 0, .string ⟨#[]⟩, .slice none 0 0], .int .i64 1]) ∧ Below w.heap.size w w' := by
  have h := call_gen (mkS [101, 120, 112, 108, 111, 100, 101]) (mkS [115, 115, 105]) 2 false 45 (fun _ ca => ca = #[]) [(3, n0, ⟨#[]⟩, A0, l0, c0), (3, n1, t, A1, l1, c1)] 0 0 ⟨#[]⟩ [] 1 m w hL g cap
    (fun w' b h => by
      obtain ⟨es, clock, hm, ⟨i, f5⟩, -⟩ := h
      exact ⟨es, clock, i, _, hm, f5, rfl⟩)
    (fun _ _ _ h _ => h) (Nat.le_refl _) (by show 2 ≤ 3; omega) (by show 3 ≤ 1000; omega) (fun i hi h2 wz _ => tk_ss hi h2 wz) hA (by show 0 + 0 ≤ 65536; omega) (by simp) explode_in
    (fun w1 ca hl1 hb1 hc => by
      subst hc
      refine (explode_no t n0 n1 A0 A1 l0 c0 l1 c1 g cap w1 (hA.below hb1 (Nat.le_refl _))).mono ?_
      rintro e w2 ⟨rfl, hb2⟩
      exact ⟨none, 0, rfl, VIn.mk 0 0 ⟨#[]⟩ [] none 0 0 0 (fun _ => .nilIface) (Nat.zero_le _) (Nat.zero_le _) (fun h => absurd h (Nat.lt_irrefl 0)) (fun i it h => by simp at h) (fun i it h => by simp at h), hb2⟩)
  refine h.mono ?_
  rintro e w' ⟨hb, h | h | h⟩
  · exact absurd h.1 (by decide)
  · exact ⟨h.2, hb⟩
  · exact absurd h.1 (by decide)
theorem tk_sa {i : Nat} {n0 n1 : Int} {s t : ByteArray} {A0 A1 : Option Addr} {l0 c0 l1 c1 : Nat} (h : i < (mkS [115, 97]).size) (wz : World) (hR : ∀ wy, Below wz.heap.size wz wy → Calls Tryz.prog 72 #[.agg #[.int .i64 4, .int .i64 n1, .string t, .slice A1 l1 c1]] wy fun e w' => e = .returned (.bool true) ∧ Below wy.heap.size wy w') : Calls Tryz.prog 11 #[.int .u8 (mkS [115, 97])[i].toNat, avV ([((3 : Int), n0, s, A0, l0, c0), (4, n1, t, A1, l1, c1)].getD i default)] wz fun e w' => e = .returned (.bool true) ∧ Below wz.heap.size wz w' := by
  have h2 : i < 2 := h
  match i, h, h2 with
  | 0, _, _ => exact taken_sA n0 s A0 l0 c0 wz
  | 1, _, _ => exact taken_aA n1 t A1 l1 c1 wz hR
set_option maxHeartbeats 1000000 in
theorem call_impl (s t : ByteArray) (hs : 1 ≤ s.size) (ht : t.size ≤ 16384) (hfew : (partsB s t).length ≤ 2048) (n0 : Int) (A0 A1 : Option Addr) (l0 c0 c1 : Nat) (m : Int) (w : World) (hL : LibA m w) (hLS : LibS w) (g cap : Nat)
    (hX : VAt w w.heap.size (rowG (partsB s t)) (.agg #[.int .i64 4, .int .i64 (partsB s t).length, .string ⟨#[]⟩, .slice A1 (partsB s t).length c1]))
    (hA : ArgsA w g [(3, n0, s, A0, l0, c0), (4, (partsB s t).length, ⟨#[]⟩, A1, (partsB s t).length, c1)]) :
    Calls Tryz.prog 5 #[.string ⟨#[105, 109, 112, 108, 111, 100, 101]⟩, .slice (some ⟨g, 0, none⟩) 2 cap] w fun e w' => ∃ A c, e = .returned (.tuple #[.agg #[.int .i64 3, .int .i64 0, .string t, .slice A 0 c], .int .i64 0]) ∧ Below w.heap.size w w' := by
  obtain ⟨hp1, hp2⟩ := parts_len s t hs
  have hjn : joinB (partsB s t) s = t.data.toList := join_split s t _
  have htl : t.data.toList.length = t.size := by simp
  have hte : (⟨(joinB (partsB s t) s).toArray⟩ : ByteArray) = t := by rw [hjn]
  have hmem : ∀ x ∈ partsB s t, x.size ≤ 16384 := fun x hx => by
    have h1 := sum_mem _ x hx
    have h2 := sum_le s t (Lib.countB t s)
    have h3 : sumS (partsB s t) ≤ t.size := h2
    omega
  have hri : rightB (rowG (partsB s t)) = true := right_row _ hfew fun x hx => by have := hmem x hx; omega
  have hfi : Fit (rowG (partsB s t)) := fit_row _ (by omega) fun x hx => by have := hmem x hx; omega
  have hRt : ∀ wz, Below w.heap.size w wz → Calls Tryz.prog 72 #[.agg #[.int .i64 4, .int .i64 (partsB s t).length, .string ⟨#[]⟩, .slice A1 (partsB s t).length c1]] wz fun e w' => e = .returned (.bool true) ∧ Below wz.heap.size wz w' := fun wz hb => by
    have h := right_any (Nat.le_refl _) (fun w' hb => hLS.below' hb (Nat.le_refl _)) hX hfi wz hb
    rw [hri] at h
    exact h
  have hne : partsB s t ≠ [] := fun e => by rw [e] at hp1; simp at hp1
  have h := call_text (mkS [105, 109, 112, 108, 111, 100, 101]) (mkS [115, 97]) 2 46 (fun _ ca => ca = #[]) [(3, n0, s, A0, l0, c0), (4, (partsB s t).length, ⟨#[]⟩, A1, (partsB s t).length, c1)] t m w hL g cap
    (fun w' b h => by
      obtain ⟨es, clock, hm, -, ⟨i, f5⟩, -⟩ := h
      exact ⟨es, clock, i, _, hm, f5, rfl⟩)
    (fun _ _ _ h _ => h) (Nat.le_refl _) (Nat.le_refl _) (by show 2 ≤ 1000; omega) (fun i hi _ wz hb => tk_sa hi wz fun wy hb2 => hRt wy (hb.trans (hb2.mono hb.size))) hA (by omega) implode_in
    (fun w1 ca hl1 hb1 hc => by
      subst hc
      have hX1 : VAt w1 w1.heap.size (rowG (partsB s t)) (.agg #[.int .i64 4, .int .i64 (partsB s t).length, .string ⟨#[]⟩, .slice A1 (partsB s t).length c1]) :=
        ((VIn.of hX).keep (S' := fun b => b < w1.heap.size) (fun b hb => Nat.lt_of_lt_of_le hb hb1.size) fun p hp => hb1.cell hp).at_ (fun b _ h => h) (fun b h => h)
      have h := implode_do s (partsB s t) hne (by omega) (by rw [hjn]; omega) n0 A0 l0 c0 (partsB s t).length ⟨#[]⟩ A1 c1 g cap w1 (hA.below hb1 (Nat.le_refl _)) hX1
      rw [hte] at h
      exact h)
  exact h
end Sb
end Go.Proofs.YtgjnmfjiolpikaaGreatDoor
