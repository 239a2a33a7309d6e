import Derived.Test.YtgpemnmopogppaaGreatDoorZRwHQ
import Derived.Lib.SmallJoins
import Derived.Lib.LaidTab
import Derived.Laws.StructEq
import Derived.Laws.EntriesVeiled
set_option maxRecDepth 1000000
set_option maxHeartbeats 16000000
namespace Go.Proofs.YtgpemnmopogppaaGreatDoor
open Go.Proofs.Tryz
open Go Go.RowKit
namespace Rw
structure LibP (w : World) : Prop where
 pow : Lib.TabIs prog w "internal/strconv.uint64pow10" .u64 Lib.pow10Tab
 max : ∃ m, w.cell? ⟨0, 0, none⟩ = some (.int .i64 m)
theorem LibP.below {w w' : World} (h : LibP w) (hb : Below w.heap.size w w') : LibP w' := by
 obtain ⟨m, hm⟩ := h.max
 exact ⟨Joins.tab_stays (g := 3) (by kernel_rfl) h.pow hb (Nat.le_refl _), m, (hb.cell (p := ⟨0, 0, none⟩) (World.block_lt_of_cell? w _ hm)).trans hm⟩
theorem KB.low {base g : Nat} {w w' : World} {B : Nat} (h : KB base g w w') (hB : B ≤ w.heap.size) (h1 : B ≤ base) (h2 : B ≤ g) : Below B w w' := h.below hB (fun i hi => by rcases hi with rfl | hi <;> omega)
theorem fm_at : ∀ (l : List (Bytes × Bytes)) (k : Nat) (h : k < l.length), (l.flatMap prCells)[k * 2]? = some (.string (bytes l[k].1)) ∧ (l.flatMap prCells)[k * 2 + 1]? = some (.string (bytes l[k].2))
 | u :: l, 0, _ => by simp [prCells]
 | u :: l, k + 1, h => by
  have := fm_at l k (by simpa using h)
  rw [List.flatMap_cons, show (k + 1) * 2 = 2 + k * 2 by omega, show 2 + k * 2 + 1 = 2 + (k * 2 + 1) by omega]
  rw [List.getElem?_append_right (by simp [prCells]), List.getElem?_append_right (by simp [prCells])]
  simp only [prCells, List.length_cons, List.length_nil, show 2 + k * 2 - (0 + 1 + 1) = k * 2 by omega, show 2 + (k * 2 + 1) - (0 + 1 + 1) = k * 2 + 1 by omega, List.getElem_cons_succ]
  exact this
def strs (l : List (Bytes × Bytes)) : List (ByteArray × ByteArray) := l.map fun u => (bytes u.1, bytes u.2)
theorem pairs_of_own {w : World} {base n : Nat} {A : Option Addr} {c : Nat} {l : List (Bytes × Bytes)} (h : w.ownsRow base 48 2 (.slice A n c) l.length (l.flatMap prCells)) : PairsAt w w.heap.size A (strs l) := fun h0 => by
 have h1 : 0 < l.length := by simpa [strs] using h0
 obtain ⟨g, cap, hv, _, hlt⟩ := h.form h1
 have hA : A = some ⟨g, 0, none⟩ := by injection hv
 subst hA
 refine ⟨g, 0, rfl, hlt, fun k hk => ?_⟩
 have hk' : k < l.length := by simpa [strs] using hk
 obtain ⟨a1, a2⟩ := fm_at l k hk'
 have hc := h.cells (g := g) rfl
 have e : (strs l).getD k default = (bytes l[k].1, bytes l[k].2) := by simp [strs, hk']
 rw [e]
 have h1 := hc _ _ a1
 have h2 := hc _ _ a2
 rw [show (⟨g, 0, none⟩ : Addr).add (k * 2) = ⟨g, 0 + k * 2, none⟩ by unfold Addr.add; split <;> simp_all] at h1
 rw [show (⟨g, 0, none⟩ : Addr).add (k * 2 + 1) = ⟨g, 0 + k * 2 + 1, none⟩ by unfold Addr.add; split <;> simp_all] at h2
 exact ⟨h1, h2⟩
theorem own_mono {w : World} {B base n size : Nat} {e : TypeId} {v : Value} {xs : List Value} (hB : B ≤ base) (h : w.ownsRow base e size v n xs) : w.ownsRow B e size v n xs :=
 ⟨h.1, h.2.imp_right fun ⟨g, cap, cur, hv, hb, hr⟩ => ⟨g, cap, cur, hv, Nat.le_trans hB hb, hr⟩⟩
def reqV (q : Rq) (A : Option Addr) (c : Nat) : Value := .agg #[.string (bytes q.method), .string (bytes q.path), .string (bytes q.query), .slice A q.heads.length c, .string (bytes q.body)]
def req0 : Value := .agg #[.string ⟨#[]⟩, .string ⟨#[]⟩, .string ⟨#[]⟩, .slice none 0 0, .string ⟨#[]⟩]
def ParseP (L : Bytes) (w : World) (e : Ending) (w' : World) : Prop :=
 Below w.heap.size w w' ∧ ((∃ q A c, parseN L = some q ∧ q.heads.length ≤ 64 ∧ w'.ownsRow w.heap.size 48 2 (.slice A q.heads.length c) q.heads.length (q.heads.flatMap prCells) ∧ e = .returned (.tuple #[reqV q A c, .agg #[.int .i64 0, .int .i64 0]])) ∨
  (parseN L = none ∧ ∃ why fat, why ≠ 0 ∧ e = .returned (.tuple #[req0, .agg #[.int .i64 why, .int .i64 fat]])))
def PS (s : ByteArray) (base g : Nat) (wx : World) : Nat → Prop
 | 0 => HS s base wx g 0 ⟨#[]⟩ ⟨#[]⟩ ⟨#[]⟩ (.slice none 0 0) ⟨#[]⟩ 0 0 (-1) ⟨#[]⟩ []
 | 1 => ∃ m p y z, lineN s.data.toList = some (m, p, y, z) ∧ z ≤ s.size ∧ HS s base wx g z (bytes m) (bytes p) (bytes y) (.slice none 0 0) ⟨#[]⟩ 0 0 (-1) ⟨#[]⟩ []
 | 2 => ∃ m p y z hs ln z2 ln' many' v', lineN s.data.toList = some (m, p, y, z) ∧ headsN s.data.toList z [] none = some (hs, ln, z2) ∧ z2 ≤ s.size ∧ hs.length ≤ 64 ∧ LnIs ln' many' ln ∧ HS s base wx g z2 (bytes m) (bytes p) (bytes y) v' ⟨#[]⟩ 0 0 ln' many' hs
 | _ => ∃ m p y z hs ln z2 ln' many' v', lineN s.data.toList = some (m, p, y, z) ∧ headsN s.data.toList z [] none = some (hs, ln, z2) ∧ hs.length ≤ 64 ∧ lenOk ln (s.data.toList.drop z2) = true ∧ HS s base wx g z2 (bytes m) (bytes p) (bytes y) v' (bytes (s.data.toList.drop z2)) 0 0 ln' many' hs
theorem KB.blk {base g h : Nat} {w w' : World} {t : TypeId} {cs : Array Value} (k : KB base g w w') (hb : Blk w h t cs) (h1 : h ≠ g) (h2 : h < base) : Blk w' h t cs := hb.keeps k (by rintro (e | e) <;> omega)
theorem parse_no {s : ByteArray} (hlong : ¬ 65536 < s.data.toList.length) (h : lineN s.data.toList = none ∨ (∃ m p y z, lineN s.data.toList = some (m, p, y, z) ∧ (headsN s.data.toList z [] none = none ∨ ∃ hs ln z2, headsN s.data.toList z [] none = some (hs, ln, z2) ∧ lenOk ln (s.data.toList.drop z2) = false))) : parseN s.data.toList = none := by
 unfold parseN
 rw [if_neg hlong]
 rcases h with h | ⟨m, p, y, z, h1, h | ⟨hs, ln, z2, h2, h3⟩⟩
 · rw [h]
 · rw [h1]; dsimp only; rw [h]
 · rw [h1]; dsimp only; rw [h2]; dsimp only; rw [h3]; rfl
theorem parse_yes {s : ByteArray} (hlong : ¬ 65536 < s.data.toList.length) {m p y : Bytes} {z z2 : Nat} {hs : List (Bytes × Bytes)} {ln : Option (Nat × Bytes)} (h1 : lineN s.data.toList = some (m, p, y, z)) (h2 : headsN s.data.toList z [] none = some (hs, ln, z2)) (h3 : lenOk ln (s.data.toList.drop z2) = true) : parseN s.data.toList = some ⟨m, p, y, hs, s.data.toList.drop z2⟩ := by
 unfold parseN
 rw [if_neg hlong, h1]
 dsimp only
 rw [h2]
 dsimp only
 rw [if_pos h3]
theorem ended {w2 : World} {R0 R1 B : Nat} {tq tf : TypeId} {a0 a1 a2 a3 a4 b0 b1 : Value} (hQ : Blk w2 R0 tq #[a0, a1, a2, a3, a4]) (hF : Blk w2 R1 tf #[b0, b1]) (hne : R0 ≠ R1) (h0 : B ≤ R0) (h1 : B ≤ R1) (m p y v b x z : Value) :
  Blk (((((((w2.setCell ⟨R0, 0, none⟩ m).setCell ⟨R0, 1, none⟩ p).setCell ⟨R0, 2, none⟩ y).setCell ⟨R0, 3, none⟩ v).setCell ⟨R0, 4, none⟩ b).setCell ⟨R1, 0, none⟩ x).setCell ⟨R1, 1, none⟩ z) R0 tq #[m, p, y, v, b] ∧ Blk (((((((w2.setCell ⟨R0, 0, none⟩ m).setCell ⟨R0, 1, none⟩ p).setCell ⟨R0, 2, none⟩ y).setCell ⟨R0, 3, none⟩ v).setCell ⟨R0, 4, none⟩ b).setCell ⟨R1, 0, none⟩ x).setCell ⟨R1, 1, none⟩ z) R1 tf #[x, z] ∧ Below B w2 (((((((w2.setCell ⟨R0, 0, none⟩ m).setCell ⟨R0, 1, none⟩ p).setCell ⟨R0, 2, none⟩ y).setCell ⟨R0, 3, none⟩ v).setCell ⟨R0, 4, none⟩ b).setCell ⟨R1, 0, none⟩ x).setCell ⟨R1, 1, none⟩ z) := by
 refine ⟨?_, ?_, ?_⟩
 · exact (((((((hQ.set_ 0 m).set_ 1 p).set_ 2 y).set_ 3 v).set_ 4 b).far (p := ⟨R1, 0, none⟩) hne x).far (p := ⟨R1, 1, none⟩) hne z)
 · exact (((((((hF.far (p := ⟨R0, 0, none⟩) (Ne.symm hne) m).far (p := ⟨R0, 1, none⟩) (Ne.symm hne) p).far (p := ⟨R0, 2, none⟩) (Ne.symm hne) y).far (p := ⟨R0, 3, none⟩) (Ne.symm hne) v).far (p := ⟨R0, 4, none⟩) (Ne.symm hne) b).set_ 0 x).set_ 1 z)
 · exact (((((((Below.refl B w2).setCell (p := ⟨R0, 0, none⟩) h0 m).setCell (p := ⟨R0, 1, none⟩) h0 p).setCell (p := ⟨R0, 2, none⟩) h0 y).setCell (p := ⟨R0, 3, none⟩) h0 v).setCell (p := ⟨R0, 4, none⟩) h0 b).setCell (p := ⟨R1, 0, none⟩) h1 x).setCell (p := ⟨R1, 1, none⟩) h1 z
theorem own_step {w w' : World} {base n R : Nat} {v : Value} {xs : List Value} {t : TypeId} {cs : Array Value} (h : w.ownsRow base 48 2 v n xs) (hb : Blk w R t cs) (hne : 48 ≠ t) (hk : Keeps (· = R) w w') : w'.ownsRow base 48 2 v n xs :=
 h.kept (row := some R) ⟨hk.os, hk.tape, hk.output, hk.size, fun i hi hn => hk.block i hi (fun e => hn (by rw [e]))⟩ (.inr (own_blk_ne h hb hne))
theorem own_ended {w : World} {base n R R1 : Nat} {v : Value} {xs : List Value} {cs ds : Array Value} (h : w.ownsRow base 48 2 v n xs) (hq : Blk w R 43 cs) (hf : Blk w R1 53 ds) (hne : R ≠ R1) (m p y u b x z : Value) : (((((((w.setCell ⟨R, 0, none⟩ m).setCell ⟨R, 1, none⟩ p).setCell ⟨R, 2, none⟩ y).setCell ⟨R, 3, none⟩ u).setCell ⟨R, 4, none⟩ b).setCell ⟨R1, 0, none⟩ x).setCell ⟨R1, 1, none⟩ z).ownsRow base 48 2 v n xs := by
 have k1 : Keeps (· = R) w (((((w.setCell ⟨R, 0, none⟩ m).setCell ⟨R, 1, none⟩ p).setCell ⟨R, 2, none⟩ y).setCell ⟨R, 3, none⟩ u).setCell ⟨R, 4, none⟩ b) := (((((Keeps.refl (· = R) w).setCell (p := ⟨R, 0, none⟩) (.inl rfl) m).setCell (p := ⟨R, 1, none⟩) (.inl rfl) p).setCell (p := ⟨R, 2, none⟩) (.inl rfl) y).setCell (p := ⟨R, 3, none⟩) (.inl rfl) u).setCell (p := ⟨R, 4, none⟩) (.inl rfl) b
 have k2 : Keeps (· = R1) (((((w.setCell ⟨R, 0, none⟩ m).setCell ⟨R, 1, none⟩ p).setCell ⟨R, 2, none⟩ y).setCell ⟨R, 3, none⟩ u).setCell ⟨R, 4, none⟩ b) (((((((w.setCell ⟨R, 0, none⟩ m).setCell ⟨R, 1, none⟩ p).setCell ⟨R, 2, none⟩ y).setCell ⟨R, 3, none⟩ u).setCell ⟨R, 4, none⟩ b).setCell ⟨R1, 0, none⟩ x).setCell ⟨R1, 1, none⟩ z) := ((Keeps.refl (· = R1) _).setCell (p := ⟨R1, 0, none⟩) (.inl rfl) x).setCell (p := ⟨R1, 1, none⟩) (.inl rfl) z
 exact own_step (own_step h hq (by decide) k1) (hf.keeps k1 (Ne.symm hne)) (by decide) k2
theorem in_line (args : Array Value) (w : World) : (callFunc 51 args).run prog w = .ok (.enter 51 args) w := enters_of func51 (by kernel_rfl) rfl args w
theorem in_heads (args : Array Value) (w : World) : (callFunc 52 args).run prog w = .ok (.enter 52 args) w := enters_of func52 (by kernel_rfl) rfl args w
theorem in_body (args : Array Value) (w : World) : (callFunc 53 args).run prog w = .ok (.enter 53 args) w := enters_of func53 (by kernel_rfl) rfl args w
theorem parse_any (s : ByteArray) (hz : s.size ≤ 9223372036854775807) (w : World) (hL : LibP w) :
  Calls prog 23 #[.string s] w (ParseP s.data.toList w) := by
 have HZ := lH (Lib.size_eq s)
 by_cases hlong : 65536 < s.size
 · have hlI : (65536 : Int) < (s.size : Int) := by omega
   go_enter func23, ntmps23
   go_wp2_with fail
   have HQ := lH ((Blk.new w 43 #[.string ⟨#[]⟩, .string ⟨#[]⟩, .string ⟨#[]⟩, .slice none 0 0, .string ⟨#[]⟩]).alloc (.cells #[.int .i64 2, .int .i64 0] 53))
   have HF0 := Blk.new (w.alloc (.cells #[.string ⟨#[]⟩, .string ⟨#[]⟩, .string ⟨#[]⟩, .slice none 0 0, .string ⟨#[]⟩] 43)) 53 #[.int .i64 2, .int .i64 0]
   rw [show (w.alloc (.cells #[.string ⟨#[]⟩, .string ⟨#[]⟩, .string ⟨#[]⟩, .slice none 0 0, .string ⟨#[]⟩] 43)).heap.size = w.heap.size + 1 by simp] at HF0
   have HF := lH HF0
   have HB := lH (((Below.refl w.heap.size w).alloc (Nat.le_refl _) (.cells #[.string ⟨#[]⟩, .string ⟨#[]⟩, .string ⟨#[]⟩, .slice none 0 0, .string ⟨#[]⟩] 43)).alloc (by simp) (.cells #[.int .i64 2, .int .i64 0] 53))
   clear HF0
   generalize (w.alloc (.cells #[.string ⟨#[]⟩, .string ⟨#[]⟩, .string ⟨#[]⟩, .slice none 0 0, .string ⟨#[]⟩] 43)).alloc (.cells #[.int .i64 2, .int .i64 0] 53) = w1 at *
   have q0 : w1.cell? ⟨w.heap.size, 0, none⟩ = some (.string ⟨#[]⟩) := HQ.out.cell 0
   have q1 : w1.cell? ⟨w.heap.size, 1, none⟩ = some (.string ⟨#[]⟩) := HQ.out.cell 1
   have q2 : w1.cell? ⟨w.heap.size, 2, none⟩ = some (.string ⟨#[]⟩) := HQ.out.cell 2
   have q3 : w1.cell? ⟨w.heap.size, 3, none⟩ = some (.slice none 0 0) := HQ.out.cell 3
   have q4 : w1.cell? ⟨w.heap.size, 4, none⟩ = some (.string ⟨#[]⟩) := HQ.out.cell 4
   have f0 : w1.cell? ⟨w.heap.size + 1, 0, none⟩ = some (.int .i64 2) := HF.out.cell 0
   have f1 : w1.cell? ⟨w.heap.size + 1, 1, none⟩ = some (.int .i64 0) := HF.out.cell 1
   refine bodyPost_ret (v := .tuple #[req0, .agg #[.int .i64 2, .int .i64 0]]) (by simp [results, results23, go_sem, q0, q1, q2, q3, q4, f0, f1, req0]) rfl ?_
   refine ⟨HB.out, .inr ⟨?_, _, _, (by decide : (2 : Int) ≠ 0), rfl⟩⟩
   unfold parseN
   rw [if_pos (by rw [← HZ.out]; exact hlong)]
 · have hlI : ¬ ((65536 : Int) < (s.size : Int)) := by omega
   have hlL : Hid (¬ 65536 < s.data.toList.length) := by show ¬ _; rw [← HZ.out]; exact hlong
   go_enter func23, ntmps23
   go_wp2_with fail
   have l1 : (w.alloc (.cells #[.string ⟨#[]⟩, .string ⟨#[]⟩, .string ⟨#[]⟩, .slice none 0 0, .string ⟨#[]⟩] 43)).heap.size = w.heap.size + 1 := by simp
   have l2 : ((w.alloc (.cells #[.string ⟨#[]⟩, .string ⟨#[]⟩, .string ⟨#[]⟩, .slice none 0 0, .string ⟨#[]⟩] 43)).alloc (.cells #[.int .i64 0, .int .i64 0] 53)).heap.size = w.heap.size + 1 + 1 := by simp
   have l3 : (((w.alloc (.cells #[.string ⟨#[]⟩, .string ⟨#[]⟩, .string ⟨#[]⟩, .slice none 0 0, .string ⟨#[]⟩] 43)).alloc (.cells #[.int .i64 0, .int .i64 0] 53)).alloc (.cells #[.string s, .int .i64 0, .string ⟨#[]⟩, .string ⟨#[]⟩, .string ⟨#[]⟩, .slice none 0 0, .string ⟨#[]⟩, .int .i64 0, .int .i64 0, .int .i64 (-1), .string ⟨#[]⟩] 88)).heap.size = w.heap.size + 1 + 1 + 1 := by simp
   have l4 : ((((w.alloc (.cells #[.string ⟨#[]⟩, .string ⟨#[]⟩, .string ⟨#[]⟩, .slice none 0 0, .string ⟨#[]⟩] 43)).alloc (.cells #[.int .i64 0, .int .i64 0] 53)).alloc (.cells #[.string s, .int .i64 0, .string ⟨#[]⟩, .string ⟨#[]⟩, .string ⟨#[]⟩, .slice none 0 0, .string ⟨#[]⟩, .int .i64 0, .int .i64 0, .int .i64 (-1), .string ⟨#[]⟩] 88)).alloc (.cells #[.func (.func 51) #[.pointer (some ⟨w.heap.size + 1 + 1, 0, none⟩)] #[], .func (.func 52) #[.pointer (some ⟨w.heap.size + 1 + 1, 0, none⟩)] #[], .func (.func 53) #[.pointer (some ⟨w.heap.size + 1 + 1, 0, none⟩)] #[]] 27)).heap.size = w.heap.size + 1 + 1 + 1 + 1 := by simp
   have b1 := (Below.refl w.heap.size w).alloc (Nat.le_refl _) (.cells #[.string ⟨#[]⟩, .string ⟨#[]⟩, .string ⟨#[]⟩, .slice none 0 0, .string ⟨#[]⟩] 43)
   have b2 := b1.alloc (by simp) (.cells #[.int .i64 0, .int .i64 0] 53)
   have b3 := b2.alloc (by simp; omega) (.cells #[.string s, .int .i64 0, .string ⟨#[]⟩, .string ⟨#[]⟩, .string ⟨#[]⟩, .slice none 0 0, .string ⟨#[]⟩, .int .i64 0, .int .i64 0, .int .i64 (-1), .string ⟨#[]⟩] 88)
   have b4 := b3.alloc (by simp; omega) (.cells #[.func (.func 51) #[.pointer (some ⟨w.heap.size + 1 + 1, 0, none⟩)] #[], .func (.func 52) #[.pointer (some ⟨w.heap.size + 1 + 1, 0, none⟩)] #[], .func (.func 53) #[.pointer (some ⟨w.heap.size + 1 + 1, 0, none⟩)] #[]] 27)
   have x1 := (((Blk.new w 43 #[.string ⟨#[]⟩, .string ⟨#[]⟩, .string ⟨#[]⟩, .slice none 0 0, .string ⟨#[]⟩]).alloc (.cells #[.int .i64 0, .int .i64 0] 53)).alloc (.cells #[.string s, .int .i64 0, .string ⟨#[]⟩, .string ⟨#[]⟩, .string ⟨#[]⟩, .slice none 0 0, .string ⟨#[]⟩, .int .i64 0, .int .i64 0, .int .i64 (-1), .string ⟨#[]⟩] 88)).alloc (.cells #[.func (.func 51) #[.pointer (some ⟨w.heap.size + 1 + 1, 0, none⟩)] #[], .func (.func 52) #[.pointer (some ⟨w.heap.size + 1 + 1, 0, none⟩)] #[], .func (.func 53) #[.pointer (some ⟨w.heap.size + 1 + 1, 0, none⟩)] #[]] 27)
   have x2 := ((Blk.new (w.alloc (.cells #[.string ⟨#[]⟩, .string ⟨#[]⟩, .string ⟨#[]⟩, .slice none 0 0, .string ⟨#[]⟩] 43)) 53 #[.int .i64 0, .int .i64 0]).alloc (.cells #[.string s, .int .i64 0, .string ⟨#[]⟩, .string ⟨#[]⟩, .string ⟨#[]⟩, .slice none 0 0, .string ⟨#[]⟩, .int .i64 0, .int .i64 0, .int .i64 (-1), .string ⟨#[]⟩] 88)).alloc (.cells #[.func (.func 51) #[.pointer (some ⟨w.heap.size + 1 + 1, 0, none⟩)] #[], .func (.func 52) #[.pointer (some ⟨w.heap.size + 1 + 1, 0, none⟩)] #[], .func (.func 53) #[.pointer (some ⟨w.heap.size + 1 + 1, 0, none⟩)] #[]] 27)
   have x3 := (Blk.new ((w.alloc (.cells #[.string ⟨#[]⟩, .string ⟨#[]⟩, .string ⟨#[]⟩, .slice none 0 0, .string ⟨#[]⟩] 43)).alloc (.cells #[.int .i64 0, .int .i64 0] 53)) 88 #[.string s, .int .i64 0, .string ⟨#[]⟩, .string ⟨#[]⟩, .string ⟨#[]⟩, .slice none 0 0, .string ⟨#[]⟩, .int .i64 0, .int .i64 0, .int .i64 (-1), .string ⟨#[]⟩]).alloc (.cells #[.func (.func 51) #[.pointer (some ⟨w.heap.size + 1 + 1, 0, none⟩)] #[], .func (.func 52) #[.pointer (some ⟨w.heap.size + 1 + 1, 0, none⟩)] #[], .func (.func 53) #[.pointer (some ⟨w.heap.size + 1 + 1, 0, none⟩)] #[]] 27)
   have x4 := Blk.new (((w.alloc (.cells #[.string ⟨#[]⟩, .string ⟨#[]⟩, .string ⟨#[]⟩, .slice none 0 0, .string ⟨#[]⟩] 43)).alloc (.cells #[.int .i64 0, .int .i64 0] 53)).alloc (.cells #[.string s, .int .i64 0, .string ⟨#[]⟩, .string ⟨#[]⟩, .string ⟨#[]⟩, .slice none 0 0, .string ⟨#[]⟩, .int .i64 0, .int .i64 0, .int .i64 (-1), .string ⟨#[]⟩] 88)) 27 #[.func (.func 51) #[.pointer (some ⟨w.heap.size + 1 + 1, 0, none⟩)] #[], .func (.func 52) #[.pointer (some ⟨w.heap.size + 1 + 1, 0, none⟩)] #[], .func (.func 53) #[.pointer (some ⟨w.heap.size + 1 + 1, 0, none⟩)] #[]]
   rw [l1] at x2
   rw [l2] at x3
   rw [l3] at x4
   clear l1 l2 l3
   have HB := lH b4; have HQ := lH x1; have HF := lH x2; have HG := lH x3; have HFb := lH x4; have HSz := lH l4
   clear b1 b2 b3 b4 x1 x2 x3 x4 l4
   generalize (((w.alloc (.cells #[.string ⟨#[]⟩, .string ⟨#[]⟩, .string ⟨#[]⟩, .slice none 0 0, .string ⟨#[]⟩] 43)).alloc (.cells #[.int .i64 0, .int .i64 0] 53)).alloc (.cells #[.string s, .int .i64 0, .string ⟨#[]⟩, .string ⟨#[]⟩, .string ⟨#[]⟩, .slice none 0 0, .string ⟨#[]⟩, .int .i64 0, .int .i64 0, .int .i64 (-1), .string ⟨#[]⟩] 88)).alloc (.cells #[.func (.func 51) #[.pointer (some ⟨w.heap.size + 1 + 1, 0, none⟩)] #[], .func (.func 52) #[.pointer (some ⟨w.heap.size + 1 + 1, 0, none⟩)] #[], .func (.func 53) #[.pointer (some ⟨w.heap.size + 1 + 1, 0, none⟩)] #[]] 27) = w1 at *
   have HL := lH (fun w' (h : KB (w.heap.size + 1 + 1 + 1 + 1) (w.heap.size + 1 + 1) w1 w') => hL.below (HB.out.trans (h.low (B := w.heap.size) (by have := HSz.out; omega) (by omega) (by omega))))
   have HS0 : Hid (PS s (w.heap.size + 1 + 1 + 1 + 1) (w.heap.size + 1 + 1) w1 0) := ⟨HG.out, World.ownsRow_nil ..⟩
   have HMx := lH hL.max
   clear hL
   go_loopg [23] 3 (fun gk r wx => ∃ i : Nat, i + gk = 3 ∧ r = .int .i64 i ∧ Hid (KB (w.heap.size + 1 + 1 + 1 + 1) (w.heap.size + 1 + 1) w1 wx) ∧ Hid (PS s (w.heap.size + 1 + 1 + 1 + 1) (w.heap.size + 1 + 1) wx i))
   case atStart => exact ⟨0, rfl, rfl, Keeps.refl _ _, HS0.out⟩
   case round =>
    obtain ⟨i, hi, rfl, HK, HP⟩ := hrel
    have HQ1 := lH (HK.out.blk HQ.out (by omega) (by omega))
    have HF1 := lH (HK.out.blk HF.out (by omega) (by omega))
    have HFb1 := lH (HK.out.blk HFb.out (by omega) (by omega))
    have hsz := HSz.out
    have hszr := HK.out.size
    rcases (by omega : i = 0 ∨ i = 1 ∨ i = 2 ∨ i = 3) with rfl | rfl | rfl | rfl
    · have HP0 : Hid (HS s (w.heap.size + 1 + 1 + 1 + 1) wr (w.heap.size + 1 + 1) 0 ⟨#[]⟩ ⟨#[]⟩ ⟨#[]⟩ (.slice none 0 0) ⟨#[]⟩ 0 0 (-1) ⟨#[]⟩ []) := HP.out
      have p0 : wr.cell? ⟨w.heap.size + 1 + 1 + 1, 0, none⟩ = some (.func (.func 51) #[.pointer (some ⟨w.heap.size + 1 + 1, 0, none⟩)] #[]) := HFb1.out.cell 0
      have hin := in_line #[.pointer (some ⟨w.heap.size + 1 + 1, 0, none⟩)] wr
      obtain ⟨mx, hmx⟩ := (HL.out wr HK.out).max
      have HLi := lH (line_any s ⟨#[]⟩ ⟨#[]⟩ ⟨#[]⟩ ⟨#[]⟩ ⟨#[]⟩ (.slice none 0 0) 0 0 (-1) (w.heap.size + 1 + 1) wr HP0.out.rd (by omega) mx hmx (by
       obtain ⟨mz, hmz⟩ := HMx.out
       have := World.block_lt_of_cell? w _ hmz
       show w.heap.size + 1 + 1 ≠ 0
       simp only at this
       omega))
      clear hmx
      go_wp2_with fail
      refine HLi.out.mono ?_
      rintro e w2 ⟨hk2, hor⟩
      have HK2 : Hid (KB (w.heap.size + 1 + 1 + 1 + 1) (w.heap.size + 1 + 1) w1 w2) := lH (HK.out.trans (hk2.mono (S' := fun i => i = w.heap.size + 1 + 1 ∨ w.heap.size + 1 + 1 + 1 + 1 ≤ i) (fun i _ h => .inl h)))
      have hsz2 := HK2.out.size
      rcases hor with ⟨m, p, y, z, hl, hz2, rfl, hr2⟩ | ⟨hl, rfl, a2, m, p, y, why2, fat2, hw2, hr2⟩
      · have HP2 : Hid (PS s (w.heap.size + 1 + 1 + 1 + 1) (w.heap.size + 1 + 1) w2 1) := ⟨m, p, y, z, hl, hz2, HP0.out.step hk2 hr2⟩
        clear hk2 hr2 HLi hin p0 HP0 HP
        go_wp2_with fail
        go_roundg 2
        case rel => exact ⟨1, rfl, by go_num, HK2.out, HP2.out⟩
        case measure => omega
      · have HN : Hid (parseN s.data.toList = none) := parse_no hlL.out (.inl hl)
        have HR2 := lH hr2
        have HQ2 := lH (HK2.out.blk HQ.out (by omega) (by omega))
        have HF2 := lH (HK2.out.blk HF.out (by omega) (by omega))
        clear hk2 hr2 HLi HP0 hin p0 HP HQ1 HF1 HFb1
        have q0 : w2.cell? ⟨w.heap.size, 0, none⟩ = some (.string ⟨#[]⟩) := HQ2.out.cell 0
        have q1 : w2.cell? ⟨w.heap.size, 1, none⟩ = some (.string ⟨#[]⟩) := HQ2.out.cell 1
        have q2 : w2.cell? ⟨w.heap.size, 2, none⟩ = some (.string ⟨#[]⟩) := HQ2.out.cell 2
        have q3 : w2.cell? ⟨w.heap.size, 3, none⟩ = some (.slice none 0 0) := HQ2.out.cell 3
        have q4 : w2.cell? ⟨w.heap.size, 4, none⟩ = some (.string ⟨#[]⟩) := HQ2.out.cell 4
        have f0 : w2.cell? ⟨w.heap.size + 1, 0, none⟩ = some (.int .i64 0) := HF2.out.cell 0
        have f1 : w2.cell? ⟨w.heap.size + 1, 1, none⟩ = some (.int .i64 0) := HF2.out.cell 1
        have y0 := HQ2.out.frozen 0
        have y1 := HQ2.out.frozen 1
        have y2 := HQ2.out.frozen 2
        have y3 := HQ2.out.frozen 3
        have y4 := HQ2.out.frozen 4
        have k0 := HF2.out.frozen 0
        have k1 := HF2.out.frozen 1
        have g7 : w2.cell? ⟨w.heap.size + 1 + 1, 7, none⟩ = some (.int .i64 why2) := HR2.out.cell 7
        have g8 : w2.cell? ⟨w.heap.size + 1 + 1, 8, none⟩ = some (.int .i64 fat2) := HR2.out.cell 8
        go_wp2_with fail
        go_region_law (fail)
        all_goals
         have hend := ended (B := w.heap.size) HQ2.out HF2.out (by omega) (Nat.le_refl _) (by omega) (.string ⟨#[]⟩) (.string ⟨#[]⟩) (.string ⟨#[]⟩) (.slice none 0 0) (.string ⟨#[]⟩) (.int .i64 why2) (.int .i64 fat2)
         have HB3 := lH (HB.out.trans ((HK2.out.low (B := w.heap.size) (by omega) (by omega) (by omega)).trans hend.2.2))
         have HQ3 := lH hend.1
         have HF3 := lH hend.2.1
         generalize ((((((w2.setCell ⟨w.heap.size, 0, none⟩ (.string ⟨#[]⟩)).setCell ⟨w.heap.size, 1, none⟩ (.string ⟨#[]⟩)).setCell ⟨w.heap.size, 2, none⟩ (.string ⟨#[]⟩)).setCell ⟨w.heap.size, 3, none⟩ (.slice none 0 0)).setCell ⟨w.heap.size, 4, none⟩ (.string ⟨#[]⟩)).setCell ⟨w.heap.size + 1, 0, none⟩ (.int .i64 why2)).setCell ⟨w.heap.size + 1, 1, none⟩ (.int .i64 fat2) = w3 at *
         clear hend q0 q1 q2 q3 q4 f0 f1 y0 y1 y2 y3 y4 k0 k1 g7 g8 HQ2 HF2 HR2
         go_wp2_with fail
         have q0 : w3.cell? ⟨w.heap.size, 0, none⟩ = some (.string ⟨#[]⟩) := HQ3.out.cell 0
         have q1 : w3.cell? ⟨w.heap.size, 1, none⟩ = some (.string ⟨#[]⟩) := HQ3.out.cell 1
         have q2 : w3.cell? ⟨w.heap.size, 2, none⟩ = some (.string ⟨#[]⟩) := HQ3.out.cell 2
         have q3 : w3.cell? ⟨w.heap.size, 3, none⟩ = some (.slice none 0 0) := HQ3.out.cell 3
         have q4 : w3.cell? ⟨w.heap.size, 4, none⟩ = some (.string ⟨#[]⟩) := HQ3.out.cell 4
         have f0 : w3.cell? ⟨w.heap.size + 1, 0, none⟩ = some (.int .i64 why2) := HF3.out.cell 0
         have f1 : w3.cell? ⟨w.heap.size + 1, 1, none⟩ = some (.int .i64 fat2) := HF3.out.cell 1
         refine bodyPost_ret (v := .tuple #[req0, .agg #[.int .i64 why2, .int .i64 fat2]]) (by simp [results, results23, go_sem, q0, q1, q2, q3, q4, f0, f1, req0]) rfl ?_
         exact ⟨⟨HB3.out.os, HB3.out.tape, HB3.out.output, HB3.out.size, HB3.out.block⟩, .inr ⟨HN.out, _, _, hw2, rfl⟩⟩
    · obtain ⟨m, p, y, z, hl, hz1, hp1⟩ : ∃ m p y z, lineN s.data.toList = some (m, p, y, z) ∧ z ≤ s.size ∧ HS s (w.heap.size + 1 + 1 + 1 + 1) wr (w.heap.size + 1 + 1) z (bytes m) (bytes p) (bytes y) (.slice none 0 0) ⟨#[]⟩ 0 0 (-1) ⟨#[]⟩ [] := HP.out
      have HP0 := lH hp1
      have p0 : wr.cell? ⟨w.heap.size + 1 + 1 + 1, 1, none⟩ = some (.func (.func 52) #[.pointer (some ⟨w.heap.size + 1 + 1, 0, none⟩)] #[]) := HFb1.out.cell 1
      have hin := in_heads #[.pointer (some ⟨w.heap.size + 1 + 1, 0, none⟩)] wr
      have HLi := lH (heads_any s (bytes m) (bytes p) (bytes y) ⟨#[]⟩ 0 0 (w.heap.size + 1 + 1) (w.heap.size + 1 + 1 + 1 + 1) z ⟨#[]⟩ (.slice none 0 0) (-1) none wr HP0.out (show LnIs (-1) ⟨#[]⟩ none from rfl) (by omega) hz1 (by omega))
      clear hp1
      go_wp2_with fail
      refine HLi.out.mono ?_
      rintro e w2 ⟨hk2, hor⟩
      have HK2 : Hid (KB (w.heap.size + 1 + 1 + 1 + 1) (w.heap.size + 1 + 1) w1 w2) := lH (HK.out.trans hk2)
      have hsz2 := HK2.out.size
      rcases hor with ⟨hs, ln, z2, ln', many', v', hh, hz2, hlen, hln, rfl, hr2⟩ | ⟨hh, rfl, a2, v', ln', many', hs', why2, fat2, hw2, hr2'⟩
      · have HP2 : Hid (PS s (w.heap.size + 1 + 1 + 1 + 1) (w.heap.size + 1 + 1) w2 2) := ⟨m, p, y, z, hs, ln, z2, ln', many', v', hl, hh, hz2, hlen, hln, hr2⟩
        clear hk2 hr2 HLi hin p0 HP0 HP
        go_wp2_with fail
        go_roundg 1
        case rel => exact ⟨2, rfl, by go_num, HK2.out, HP2.out⟩
        case measure => omega
      · have hr2 := hr2'.rd
        have HN : Hid (parseN s.data.toList = none) := parse_no hlL.out (.inr ⟨m, p, y, z, hl, .inl hh⟩)
        have HR2 := lH hr2
        have HQ2 := lH (HK2.out.blk HQ.out (by omega) (by omega))
        have HF2 := lH (HK2.out.blk HF.out (by omega) (by omega))
        clear hk2 hr2 hr2' HLi HP0 hin p0 HP HQ1 HF1 HFb1
        have q0 : w2.cell? ⟨w.heap.size, 0, none⟩ = some (.string ⟨#[]⟩) := HQ2.out.cell 0
        have q1 : w2.cell? ⟨w.heap.size, 1, none⟩ = some (.string ⟨#[]⟩) := HQ2.out.cell 1
        have q2 : w2.cell? ⟨w.heap.size, 2, none⟩ = some (.string ⟨#[]⟩) := HQ2.out.cell 2
        have q3 : w2.cell? ⟨w.heap.size, 3, none⟩ = some (.slice none 0 0) := HQ2.out.cell 3
        have q4 : w2.cell? ⟨w.heap.size, 4, none⟩ = some (.string ⟨#[]⟩) := HQ2.out.cell 4
        have f0 : w2.cell? ⟨w.heap.size + 1, 0, none⟩ = some (.int .i64 0) := HF2.out.cell 0
        have f1 : w2.cell? ⟨w.heap.size + 1, 1, none⟩ = some (.int .i64 0) := HF2.out.cell 1
        have y0 := HQ2.out.frozen 0
        have y1 := HQ2.out.frozen 1
        have y2 := HQ2.out.frozen 2
        have y3 := HQ2.out.frozen 3
        have y4 := HQ2.out.frozen 4
        have k0 := HF2.out.frozen 0
        have k1 := HF2.out.frozen 1
        have g7 : w2.cell? ⟨w.heap.size + 1 + 1, 7, none⟩ = some (.int .i64 why2) := HR2.out.cell 7
        have g8 : w2.cell? ⟨w.heap.size + 1 + 1, 8, none⟩ = some (.int .i64 fat2) := HR2.out.cell 8
        go_wp2_with fail
        go_region_law (fail)
        all_goals
         have hend := ended (B := w.heap.size) HQ2.out HF2.out (by omega) (Nat.le_refl _) (by omega) (.string ⟨#[]⟩) (.string ⟨#[]⟩) (.string ⟨#[]⟩) (.slice none 0 0) (.string ⟨#[]⟩) (.int .i64 why2) (.int .i64 fat2)
         have HB3 := lH (HB.out.trans ((HK2.out.low (B := w.heap.size) (by omega) (by omega) (by omega)).trans hend.2.2))
         have HQ3 := lH hend.1
         have HF3 := lH hend.2.1
         generalize ((((((w2.setCell ⟨w.heap.size, 0, none⟩ (.string ⟨#[]⟩)).setCell ⟨w.heap.size, 1, none⟩ (.string ⟨#[]⟩)).setCell ⟨w.heap.size, 2, none⟩ (.string ⟨#[]⟩)).setCell ⟨w.heap.size, 3, none⟩ (.slice none 0 0)).setCell ⟨w.heap.size, 4, none⟩ (.string ⟨#[]⟩)).setCell ⟨w.heap.size + 1, 0, none⟩ (.int .i64 why2)).setCell ⟨w.heap.size + 1, 1, none⟩ (.int .i64 fat2) = w3 at *
         clear hend q0 q1 q2 q3 q4 f0 f1 y0 y1 y2 y3 y4 k0 k1 g7 g8 HQ2 HF2 HR2
         go_wp2_with fail
         have q0 : w3.cell? ⟨w.heap.size, 0, none⟩ = some (.string ⟨#[]⟩) := HQ3.out.cell 0
         have q1 : w3.cell? ⟨w.heap.size, 1, none⟩ = some (.string ⟨#[]⟩) := HQ3.out.cell 1
         have q2 : w3.cell? ⟨w.heap.size, 2, none⟩ = some (.string ⟨#[]⟩) := HQ3.out.cell 2
         have q3 : w3.cell? ⟨w.heap.size, 3, none⟩ = some (.slice none 0 0) := HQ3.out.cell 3
         have q4 : w3.cell? ⟨w.heap.size, 4, none⟩ = some (.string ⟨#[]⟩) := HQ3.out.cell 4
         have f0 : w3.cell? ⟨w.heap.size + 1, 0, none⟩ = some (.int .i64 why2) := HF3.out.cell 0
         have f1 : w3.cell? ⟨w.heap.size + 1, 1, none⟩ = some (.int .i64 fat2) := HF3.out.cell 1
         refine bodyPost_ret (v := .tuple #[req0, .agg #[.int .i64 why2, .int .i64 fat2]]) (by simp [results, results23, go_sem, q0, q1, q2, q3, q4, f0, f1, req0]) rfl ?_
         exact ⟨⟨HB3.out.os, HB3.out.tape, HB3.out.output, HB3.out.size, HB3.out.block⟩, .inr ⟨HN.out, _, _, hw2, rfl⟩⟩
    · obtain ⟨m, p, y, z, hs, ln, z2, ln', many', v', hl, hh, hz2, hlen, hln, hp1⟩ : ∃ m p y z hs ln z2 ln' many' v', lineN s.data.toList = some (m, p, y, z) ∧ headsN s.data.toList z [] none = some (hs, ln, z2) ∧ z2 ≤ s.size ∧ hs.length ≤ 64 ∧ LnIs ln' many' ln ∧ HS s (w.heap.size + 1 + 1 + 1 + 1) wr (w.heap.size + 1 + 1) z2 (bytes m) (bytes p) (bytes y) v' ⟨#[]⟩ 0 0 ln' many' hs := HP.out
      have HP0 := lH hp1
      have p0 : wr.cell? ⟨w.heap.size + 1 + 1 + 1, 2, none⟩ = some (.func (.func 53) #[.pointer (some ⟨w.heap.size + 1 + 1, 0, none⟩)] #[]) := HFb1.out.cell 2
      have hin := in_body #[.pointer (some ⟨w.heap.size + 1 + 1, 0, none⟩)] wr
      have HLi := lH (body_any s (bytes m) (bytes p) (bytes y) ⟨#[]⟩ 0 0 (w.heap.size + 1 + 1) (w.heap.size + 1 + 1 + 1 + 1) z2 many' v' ln' ln hs wr HP0.out hln (by omega) hz2 (by omega) (fun w' h => (HL.out w' (HK.out.trans h)).pow))
      clear hp1 hln
      go_wp2_with fail
      refine HLi.out.mono ?_
      rintro e w2 ⟨hk2, hor⟩
      have HK2 : Hid (KB (w.heap.size + 1 + 1 + 1 + 1) (w.heap.size + 1 + 1) w1 w2) := lH (HK.out.trans hk2)
      have hsz2 := HK2.out.size
      rcases hor with ⟨hb, rfl, hr2⟩ | ⟨hb, rfl, why2, fat2, hw2, hr2'⟩
      · have HP2 : Hid (PS s (w.heap.size + 1 + 1 + 1 + 1) (w.heap.size + 1 + 1) w2 3) := ⟨m, p, y, z, hs, ln, z2, ln', many', v', hl, hh, hlen, hb, hr2⟩
        clear hk2 hr2 HLi hin p0 HP0 HP
        go_wp2_with fail
        go_roundg 0
        case rel => exact ⟨3, rfl, by go_num, HK2.out, HP2.out⟩
        case measure => omega
      · have hr2 := hr2'.rd
        have HN : Hid (parseN s.data.toList = none) := parse_no hlL.out (.inr ⟨m, p, y, z, hl, .inr ⟨hs, ln, z2, hh, hb⟩⟩)
        have HR2 := lH hr2
        have HQ2 := lH (HK2.out.blk HQ.out (by omega) (by omega))
        have HF2 := lH (HK2.out.blk HF.out (by omega) (by omega))
        clear hk2 hr2 hr2' HLi HP0 hin p0 HP HQ1 HF1 HFb1
        have q0 : w2.cell? ⟨w.heap.size, 0, none⟩ = some (.string ⟨#[]⟩) := HQ2.out.cell 0
        have q1 : w2.cell? ⟨w.heap.size, 1, none⟩ = some (.string ⟨#[]⟩) := HQ2.out.cell 1
        have q2 : w2.cell? ⟨w.heap.size, 2, none⟩ = some (.string ⟨#[]⟩) := HQ2.out.cell 2
        have q3 : w2.cell? ⟨w.heap.size, 3, none⟩ = some (.slice none 0 0) := HQ2.out.cell 3
        have q4 : w2.cell? ⟨w.heap.size, 4, none⟩ = some (.string ⟨#[]⟩) := HQ2.out.cell 4
        have f0 : w2.cell? ⟨w.heap.size + 1, 0, none⟩ = some (.int .i64 0) := HF2.out.cell 0
        have f1 : w2.cell? ⟨w.heap.size + 1, 1, none⟩ = some (.int .i64 0) := HF2.out.cell 1
        have y0 := HQ2.out.frozen 0
        have y1 := HQ2.out.frozen 1
        have y2 := HQ2.out.frozen 2
        have y3 := HQ2.out.frozen 3
        have y4 := HQ2.out.frozen 4
        have k0 := HF2.out.frozen 0
        have k1 := HF2.out.frozen 1
        have g7 : w2.cell? ⟨w.heap.size + 1 + 1, 7, none⟩ = some (.int .i64 why2) := HR2.out.cell 7
        have g8 : w2.cell? ⟨w.heap.size + 1 + 1, 8, none⟩ = some (.int .i64 fat2) := HR2.out.cell 8
        go_wp2_with fail
        go_region_law (fail)
        all_goals
         have hend := ended (B := w.heap.size) HQ2.out HF2.out (by omega) (Nat.le_refl _) (by omega) (.string ⟨#[]⟩) (.string ⟨#[]⟩) (.string ⟨#[]⟩) (.slice none 0 0) (.string ⟨#[]⟩) (.int .i64 why2) (.int .i64 fat2)
         have HB3 := lH (HB.out.trans ((HK2.out.low (B := w.heap.size) (by omega) (by omega) (by omega)).trans hend.2.2))
         have HQ3 := lH hend.1
         have HF3 := lH hend.2.1
         generalize ((((((w2.setCell ⟨w.heap.size, 0, none⟩ (.string ⟨#[]⟩)).setCell ⟨w.heap.size, 1, none⟩ (.string ⟨#[]⟩)).setCell ⟨w.heap.size, 2, none⟩ (.string ⟨#[]⟩)).setCell ⟨w.heap.size, 3, none⟩ (.slice none 0 0)).setCell ⟨w.heap.size, 4, none⟩ (.string ⟨#[]⟩)).setCell ⟨w.heap.size + 1, 0, none⟩ (.int .i64 why2)).setCell ⟨w.heap.size + 1, 1, none⟩ (.int .i64 fat2) = w3 at *
         clear hend q0 q1 q2 q3 q4 f0 f1 y0 y1 y2 y3 y4 k0 k1 g7 g8 HQ2 HF2 HR2
         go_wp2_with fail
         have q0 : w3.cell? ⟨w.heap.size, 0, none⟩ = some (.string ⟨#[]⟩) := HQ3.out.cell 0
         have q1 : w3.cell? ⟨w.heap.size, 1, none⟩ = some (.string ⟨#[]⟩) := HQ3.out.cell 1
         have q2 : w3.cell? ⟨w.heap.size, 2, none⟩ = some (.string ⟨#[]⟩) := HQ3.out.cell 2
         have q3 : w3.cell? ⟨w.heap.size, 3, none⟩ = some (.slice none 0 0) := HQ3.out.cell 3
         have q4 : w3.cell? ⟨w.heap.size, 4, none⟩ = some (.string ⟨#[]⟩) := HQ3.out.cell 4
         have f0 : w3.cell? ⟨w.heap.size + 1, 0, none⟩ = some (.int .i64 why2) := HF3.out.cell 0
         have f1 : w3.cell? ⟨w.heap.size + 1, 1, none⟩ = some (.int .i64 fat2) := HF3.out.cell 1
         refine bodyPost_ret (v := .tuple #[req0, .agg #[.int .i64 why2, .int .i64 fat2]]) (by simp [results, results23, go_sem, q0, q1, q2, q3, q4, f0, f1, req0]) rfl ?_
         exact ⟨⟨HB3.out.os, HB3.out.tape, HB3.out.output, HB3.out.size, HB3.out.block⟩, .inr ⟨HN.out, _, _, hw2, rfl⟩⟩
    · obtain ⟨m, p, y, z, hs, ln, z2, ln', many', v', hl, hh, hlen, hb, hp1⟩ : ∃ m p y z hs ln z2 ln' many' v', lineN s.data.toList = some (m, p, y, z) ∧ headsN s.data.toList z [] none = some (hs, ln, z2) ∧ hs.length ≤ 64 ∧ lenOk ln (s.data.toList.drop z2) = true ∧ HS s (w.heap.size + 1 + 1 + 1 + 1) wr (w.heap.size + 1 + 1) z2 (bytes m) (bytes p) (bytes y) v' (bytes (s.data.toList.drop z2)) 0 0 ln' many' hs := HP.out
      obtain ⟨A, c, hv⟩ := hp1.slice
      subst hv
      have HPa := lH hp1.owns
      have HR2 := lH hp1.rd
      have HY := lH (parse_yes hlL.out hl hh hb)
      have HQ2 := HQ1
      have HF2 := HF1
      clear hp1 hl hh hb HP HFb1
      have q0 : wr.cell? ⟨w.heap.size, 0, none⟩ = some (.string ⟨#[]⟩) := HQ2.out.cell 0
      have q1 : wr.cell? ⟨w.heap.size, 1, none⟩ = some (.string ⟨#[]⟩) := HQ2.out.cell 1
      have q2 : wr.cell? ⟨w.heap.size, 2, none⟩ = some (.string ⟨#[]⟩) := HQ2.out.cell 2
      have q3 : wr.cell? ⟨w.heap.size, 3, none⟩ = some (.slice none 0 0) := HQ2.out.cell 3
      have q4 : wr.cell? ⟨w.heap.size, 4, none⟩ = some (.string ⟨#[]⟩) := HQ2.out.cell 4
      have f0 : wr.cell? ⟨w.heap.size + 1, 0, none⟩ = some (.int .i64 0) := HF2.out.cell 0
      have f1 : wr.cell? ⟨w.heap.size + 1, 1, none⟩ = some (.int .i64 0) := HF2.out.cell 1
      have y0 := HQ2.out.frozen 0
      have y1 := HQ2.out.frozen 1
      have y2 := HQ2.out.frozen 2
      have y3 := HQ2.out.frozen 3
      have y4 := HQ2.out.frozen 4
      have k0 := HF2.out.frozen 0
      have k1 := HF2.out.frozen 1
      have g2 : wr.cell? ⟨w.heap.size + 1 + 1, 2, none⟩ = some (.string (bytes m)) := HR2.out.cell 2
      have g3 : wr.cell? ⟨w.heap.size + 1 + 1, 3, none⟩ = some (.string (bytes p)) := HR2.out.cell 3
      have g4 : wr.cell? ⟨w.heap.size + 1 + 1, 4, none⟩ = some (.string (bytes y)) := HR2.out.cell 4
      have g5 : wr.cell? ⟨w.heap.size + 1 + 1, 5, none⟩ = some (.slice A hs.length c) := HR2.out.cell 5
      have g6 : wr.cell? ⟨w.heap.size + 1 + 1, 6, none⟩ = some (.string (bytes (s.data.toList.drop z2))) := HR2.out.cell 6
      go_wp2_with fail
      have hend := ended (B := w.heap.size) HQ2.out HF2.out (by omega) (Nat.le_refl _) (by omega) (.string (bytes m)) (.string (bytes p)) (.string (bytes y)) (.slice A hs.length c) (.string (bytes (s.data.toList.drop z2))) (.int .i64 0) (.int .i64 0)
      have HB3 := lH (HB.out.trans ((HK.out.low (B := w.heap.size) (by omega) (by omega) (by omega)).trans hend.2.2))
      have HPb := lH (own_mono (B := w.heap.size) (by omega) (own_ended HPa.out HQ2.out HF2.out (by omega) (.string (bytes m)) (.string (bytes p)) (.string (bytes y)) (.slice A hs.length c) (.string (bytes (s.data.toList.drop z2))) (.int .i64 0) (.int .i64 0)))
      have HQ3 := lH hend.1
      have HF3 := lH hend.2.1
      generalize ((((((wr.setCell ⟨w.heap.size, 0, none⟩ (.string (bytes m))).setCell ⟨w.heap.size, 1, none⟩ (.string (bytes p))).setCell ⟨w.heap.size, 2, none⟩ (.string (bytes y))).setCell ⟨w.heap.size, 3, none⟩ (.slice A hs.length c)).setCell ⟨w.heap.size, 4, none⟩ (.string (bytes (s.data.toList.drop z2)))).setCell ⟨w.heap.size + 1, 0, none⟩ (.int .i64 0)).setCell ⟨w.heap.size + 1, 1, none⟩ (.int .i64 0) = w3 at *
      clear hend q0 q1 q2 q3 q4 f0 f1 y0 y1 y2 y3 y4 k0 k1 g2 g3 g4 g5 g6 HQ2 HF2 HR2
      have q0 : w3.cell? ⟨w.heap.size, 0, none⟩ = some (.string (bytes m)) := HQ3.out.cell 0
      have q1 : w3.cell? ⟨w.heap.size, 1, none⟩ = some (.string (bytes p)) := HQ3.out.cell 1
      have q2 : w3.cell? ⟨w.heap.size, 2, none⟩ = some (.string (bytes y)) := HQ3.out.cell 2
      have q3 : w3.cell? ⟨w.heap.size, 3, none⟩ = some (.slice A hs.length c) := HQ3.out.cell 3
      have q4 : w3.cell? ⟨w.heap.size, 4, none⟩ = some (.string (bytes (s.data.toList.drop z2))) := HQ3.out.cell 4
      have f0 : w3.cell? ⟨w.heap.size + 1, 0, none⟩ = some (.int .i64 0) := HF3.out.cell 0
      have f1 : w3.cell? ⟨w.heap.size + 1, 1, none⟩ = some (.int .i64 0) := HF3.out.cell 1
      refine bodyPost_ret (v := .tuple #[reqV ⟨m, p, y, hs, s.data.toList.drop z2⟩ A c, .agg #[.int .i64 0, .int .i64 0]]) (by simp [results, results23, go_sem, q0, q1, q2, q3, q4, f0, f1, reqV]) rfl ?_
      exact ⟨HB3.out, .inl ⟨_, A, c, HY.out, hlen, HPb.out, rfl⟩⟩
end Rw
open Go Go.RowKit
namespace Rw
theorem ba_eq (a b : ByteArray) : (a.toList == b.toList) = decide (a = b) := by
 rw [Lib.toList_data, Lib.toList_data, Bool.eq_iff_iff, beq_iff_eq, decide_eq_true_iff]
 constructor
 · intro h; exact ByteArray.ext (Array.toList_inj.1 h)
 · rintro rfl; rfl
theorem drop_same {us vs : List (ByteArray × ByteArray)} {k : Nat} (h1 : k < us.length) (h2 : k < vs.length) : decide (us.drop k = vs.drop k) = ((us.getD k default).1.toList == (vs.getD k default).1.toList && (us.getD k default).2.toList == (vs.getD k default).2.toList && decide (us.drop (k + 1) = vs.drop (k + 1))) := by
 rw [List.drop_eq_getElem_cons h1, List.drop_eq_getElem_cons h2, show us.getD k default = us[k] by simp [h1], show vs.getD k default = vs[k] by simp [h2], ba_eq, ba_eq, Bool.eq_iff_iff]
 simp only [decide_eq_true_iff, Bool.and_eq_true, List.cons.injEq]
 constructor
 · rintro ⟨h, h'⟩; exact ⟨⟨by rw [h], by rw [h]⟩, h'⟩
 · rintro ⟨⟨h, h'⟩, h''⟩; exact ⟨Prod.ext h h', h''⟩
def sameQ (m1 p1 y1 b1 m2 p2 y2 b2 : ByteArray) (us vs : List (ByteArray × ByteArray)) : Bool := (m1.toList == m2.toList) && ((p1.toList == p2.toList) && ((y1.toList == y2.toList) && ((b1.toList == b2.toList) && decide (us = vs))))
section
variable (m1 p1 y1 b1 m2 p2 y2 b2 : ByteArray) (A A2 : Option Addr) (c c2 : Nat) (us vs : List (ByteArray × ByteArray)) (w : World)
theorem rsame10 (hA : PairsAt w w.heap.size A us) (hB : PairsAt w w.heap.size A2 vs) (hn : us.length ≤ 1000000000) (hn2 : vs.length ≤ 1000000000) :
  Calls prog 25 #[.agg #[.string m1, .string p1, .string y1, .slice A us.length c, .string b1], .agg #[.string m2, .string p2, .string y2, .slice A2 vs.length c2, .string b2]] w fun e w' => e = .returned (.bool (sameQ m1 p1 y1 b1 m2 p2 y2 b2 us vs)) ∧ Below w.heap.size w w' := by
 have HA := lH hA; have HB := lH hB
 clear hA hB
 obtain ⟨M, HM⟩ : ∃ z, Hid (sameQ m1 p1 y1 b1 m2 p2 y2 b2 us vs = z) := ⟨_, rfl⟩
 rw [HM.out]
 have HB0 := lH (((Below.refl w.heap.size w).alloc (Nat.le_refl _) (.cells #[.string m1, .string p1, .string y1, .slice A us.length c, .string b1] 43)).alloc (by simp) (.cells #[.string m2, .string p2, .string y2, .slice A2 vs.length c2, .string b2] 43))
 have HX0 := lH ((Blk.new w 43 #[.string m1, .string p1, .string y1, .slice A us.length c, .string b1]).alloc (.cells #[.string m2, .string p2, .string y2, .slice A2 vs.length c2, .string b2] 43))
 have hy := Blk.new (w.alloc (.cells #[.string m1, .string p1, .string y1, .slice A us.length c, .string b1] 43)) 43 #[.string m2, .string p2, .string y2, .slice A2 vs.length c2, .string b2]
 rw [show (w.alloc (.cells #[.string m1, .string p1, .string y1, .slice A us.length c, .string b1] 43)).heap.size = w.heap.size + 1 by simp] at hy
 have HY0 := lH hy
 clear hy
 cases e0 : (m1.toList == m2.toList) with
 | false =>
  have hM : M = false := by rw [← HM.out]; unfold sameQ; rw [e0]; simp
  subst hM
  clear HM
  go_enter func25, ntmps25
  go_wp2_with fail
  go_ret
  exact ⟨rfl, HB0.out⟩
 | true =>
  cases e1 : (p1.toList == p2.toList) with
  | false =>
   have hM : M = false := by rw [← HM.out]; unfold sameQ; rw [e0, e1]; simp
   subst hM
   clear HM
   go_enter func25, ntmps25
   go_wp2_with fail
   go_ret
   exact ⟨rfl, HB0.out⟩
  | true =>
   cases e2 : (y1.toList == y2.toList) with
   | false =>
    have hM : M = false := by rw [← HM.out]; unfold sameQ; rw [e0, e1, e2]; simp
    subst hM
    clear HM
    go_enter func25, ntmps25
    go_wp2_with fail
    go_ret
    exact ⟨rfl, HB0.out⟩
   | true =>
    cases e3 : (b1.toList == b2.toList) with
    | false =>
     have hM : M = false := by rw [← HM.out]; unfold sameQ; rw [e0, e1, e2, e3]; simp
     subst hM
     clear HM
     go_enter func25, ntmps25
     go_wp2_with fail
     go_ret
     exact ⟨rfl, HB0.out⟩
    | true =>
     by_cases hl : us.length = vs.length
     · have hlb : ((us.length : Int) == (vs.length : Int)) = true := by simp [hl]
       have HL := lH hl
       have HM2 : Hid (decide (us = vs) = M) := by
        show _ = _
        rw [← HM.out]; unfold sameQ; rw [e0, e1, e2, e3]; rfl
       clear hl HM
       go_enter func25, ntmps25
       go_wp2_with fail
       go_loopw [5] (fun x wx => ∃ k : Nat, k ≤ us.length ∧ x = .int .i64 k ∧ Hid (Below w.heap.size w wx) ∧ Hid (Blk wx w.heap.size 43 #[.string m1, .string p1, .string y1, .slice A us.length c, .string b1]) ∧ Hid (Blk wx (w.heap.size + 1) 43 #[.string m2, .string p2, .string y2, .slice A2 vs.length c2, .string b2]) ∧ Hid (decide (us.drop k = vs.drop k) = M)) (fun x _ => us.length - (ixOf x).toNat)
       case atStart => exact ⟨0, Nat.zero_le _, rfl, HB0, HX0, HY0, lH (by simpa using HM2.out)⟩
       case round =>
        obtain ⟨k, hk, rfl, HBe, HX, HY, HR⟩ := hrel
        have x3 : wr.cell? ⟨w.heap.size, 3, none⟩ = some (.slice A us.length c) := HX.out.cell 3
        have y3 : wr.cell? ⟨w.heap.size + 1, 3, none⟩ = some (.slice A2 vs.length c2) := HY.out.cell 3
        by_cases hlt : k < us.length
        · have hlt2 : k < vs.length := by rw [← HL.out]; exact hlt
          have hI : (k : Int) < (us.length : Int) := by omega
          have hI2 : (k : Int) < (vs.length : Int) := by omega
          have hI0 : (0 : Int) ≤ (k : Int) := by omega
          obtain ⟨g1, o1, rfl, hg1, hc1⟩ := HA.out (by omega)
          obtain ⟨g2, o2, rfl, hg2, hc2⟩ := HB.out (by omega)
          have q1 := (HBe.out.cell (p := ⟨g1, o1 + k * 2, none⟩) hg1).trans (hc1 k hlt).1
          have q2 := (HBe.out.cell (p := ⟨g1, o1 + k * 2 + 1, none⟩) hg1).trans (hc1 k hlt).2
          have q3 := (HBe.out.cell (p := ⟨g2, o2 + k * 2, none⟩) hg2).trans (hc2 k hlt2).1
          have q4 := (HBe.out.cell (p := ⟨g2, o2 + k * 2 + 1, none⟩) hg2).trans (hc2 k hlt2).2
          have HS := lH (drop_same hlt hlt2)
          clear hc1 hc2 HA HB HB0 HX0 HY0 HM2
          generalize us.getD k default = u at *
          generalize vs.getD k default = v at *
          obtain ⟨u1, u2⟩ := u
          obtain ⟨v1, v2⟩ := v
          dsimp only at q1 q2 q3 q4 HS
          by_cases f1 : u1.toList = v1.toList
          · by_cases f2 : u2.toList = v2.toList
            · have HR2 : Hid (decide (us.drop (k + 1) = vs.drop (k + 1)) = M) := by
               show _ = _
               rw [← HR.out, HS.out, beq_iff_eq.2 f1, beq_iff_eq.2 f2]; rfl
              clear HS HR
              go_wp2_with fail
              go_quiet (fail)
              go_wp2_with fail
              go_roundw
              case rel => exact ⟨k + 1, by omega, by go_num, ⟨HBe.out.os, HBe.out.tape, HBe.out.output, HBe.out.size, HBe.out.block⟩, HX.out.drewN _, HY.out.drewN _, HR2.out⟩
              case measure => simp [ixOf] <;> omega
            · have hM : M = false := by rw [← HR.out, HS.out, beq_iff_eq.2 f1, beq_eq_false_iff_ne.2 f2]; rfl
              subst hM
              clear HS HR
              go_wp2_with fail
              go_quiet (fail)
              go_wp2_with fail
              go_ret
              exact ⟨rfl, HBe.out.os, HBe.out.tape, HBe.out.output, HBe.out.size, HBe.out.block⟩
          · have hM : M = false := by rw [← HR.out, HS.out, beq_eq_false_iff_ne.2 f1]; rfl
            subst hM
            clear HS HR
            go_wp2_with fail
            go_quiet (fail)
            go_wp2_with fail
            go_ret
            exact ⟨rfl, HBe.out.os, HBe.out.tape, HBe.out.output, HBe.out.size, HBe.out.block⟩
        · have hI : ¬ ((k : Int) < (us.length : Int)) := by omega
          have hM : M = true := by
           rw [← HR.out, List.drop_eq_nil_of_le (by omega), List.drop_eq_nil_of_le (by have := HL.out; omega)]; rfl
          subst hM
          clear HR HM2
          go_wp2_with fail
          go_ret
          exact ⟨rfl, HBe.out⟩
     · have hlb : ((us.length : Int) == (vs.length : Int)) = false := by simp; omega
       have hM : M = false := by
        rw [← HM.out]; unfold sameQ
        rw [decide_eq_false (fun e : us = vs => hl (by rw [e]))]; simp
       subst hM
       clear HM hl
       go_enter func25, ntmps25
       go_wp2_with fail
       go_ret
       exact ⟨rfl, HB0.out⟩
end
end Rw
open Go Go.RowKit
namespace Rl
open Rw (parseN lineN headN headsN headsN_eq piece cutQ trimR trimR_len Rq)
theorem piece_le (s : Bytes) (a b : Nat) : (piece s a b).length ≤ s.length := by
 unfold piece
 rw [List.length_take, List.length_drop]
 omega
theorem cutQ_le : ∀ l : Bytes, (cutQ l).1.length ≤ l.length ∧ (cutQ l).2.length ≤ l.length
 | [] => by simp [cutQ]
 | c :: r => by
  have := cutQ_le r
  rw [cutQ]
  split <;> simp only [List.length_cons, List.length_nil] <;> omega
theorem lineN_le {s m p y : Bytes} {a : Nat} (h : lineN s = some (m, p, y, a)) : m.length ≤ s.length ∧ p.length ≤ s.length ∧ y.length ≤ s.length := by
 unfold lineN at h
 simp only at h
 split at h
 · cases h
 · split at h
   · cases h
   · split at h
     · cases h
     · split at h
       · cases h
       · simp only [Option.some.injEq, Prod.mk.injEq] at h
         obtain ⟨rfl, rfl, rfl, -⟩ := h
         exact ⟨piece_le _ _ _, Nat.le_trans (cutQ_le _).1 (piece_le _ _ _), Nat.le_trans (cutQ_le _).2 (piece_le _ _ _)⟩
theorem headN_le {s n v : Bytes} {a f z : Nat} (h : headN s a = some (n, v, f, z)) : n.length ≤ s.length ∧ v.length ≤ s.length := by
 unfold Rw.headN at h
 simp only at h
 split at h
 · cases h
 · split at h
   · cases h
   · split at h
     · cases h
     · simp only [Option.some.injEq, Prod.mk.injEq] at h
       obtain ⟨rfl, rfl, -, -⟩ := h
       exact ⟨piece_le _ _ _, Nat.le_trans (trimR_len _) (piece_le _ _ _)⟩
theorem headsN_le (s : Bytes) : ∀ (k a : Nat) (hs : List (Bytes × Bytes)) (ln : Option (Nat × Bytes)) (r : List (Bytes × Bytes)) (ln' : Option (Nat × Bytes)) (e : Nat), s.length - a ≤ k → (∀ u ∈ hs, u.1.length ≤ s.length ∧ u.2.length ≤ s.length) → headsN s a hs ln = some (r, ln', e) → ∀ u ∈ r, u.1.length ≤ s.length ∧ u.2.length ≤ s.length := by
 intro k
 induction k with
 | zero =>
  intro a hs ln r ln' e hk hh h
  rw [headsN_eq] at h
  split at h
  · split at h
    · cases h
    · simp only [Option.some.injEq, Prod.mk.injEq] at h
      obtain ⟨rfl, -, -⟩ := h
      exact hh
  · split at h
    · cases h
    · split at h
      · cases h
      · next n v f z hx =>
        have := Rw.head_far hx
        omega
 | succ k ih =>
  intro a hs ln r ln' e hk hh h
  rw [headsN_eq] at h
  split at h
  · split at h
    · cases h
    · simp only [Option.some.injEq, Prod.mk.injEq] at h
      obtain ⟨rfl, -, -⟩ := h
      exact hh
  · split at h
    · cases h
    · split at h
      · cases h
      · next n v f z hx =>
        have h1 := Rw.head_far hx
        refine ih z _ _ r ln' e (by omega) (fun u hu => ?_) h
        rcases List.mem_append.1 hu with hu | hu
        · exact hh u hu
        · rw [List.mem_singleton] at hu
          subst hu
          exact headN_le hx
theorem headsN_few (s : Bytes) : ∀ (k a : Nat) (hs : List (Bytes × Bytes)) (ln : Option (Nat × Bytes)) (r : List (Bytes × Bytes)) (ln' : Option (Nat × Bytes)) (e : Nat), s.length - a ≤ k → hs.length ≤ 64 → headsN s a hs ln = some (r, ln', e) → r.length ≤ 64 := by
 intro k
 induction k with
 | zero =>
  intro a hs ln r ln' e hk hh h
  rw [headsN_eq] at h
  split at h
  · split at h
    · cases h
    · simp only [Option.some.injEq, Prod.mk.injEq] at h
      obtain ⟨rfl, -, -⟩ := h
      exact hh
  · split at h
    · cases h
    · split at h
      · cases h
      · next n v f z hx =>
        have := Rw.head_far hx
        omega
 | succ k ih =>
  intro a hs ln r ln' e hk hh h
  rw [headsN_eq] at h
  split at h
  · split at h
    · cases h
    · simp only [Option.some.injEq, Prod.mk.injEq] at h
      obtain ⟨rfl, -, -⟩ := h
      exact hh
  · split at h
    · cases h
    · split at h
      · cases h
      · next n v f z hx =>
        have h1 := Rw.head_far hx
        exact ih z _ _ r ln' e (by omega) (by rw [List.length_append, List.length_singleton]; omega) h
theorem heads_few {s : Bytes} {q : Rq} (h : parseN s = some q) : q.heads.length ≤ 64 := by
 unfold parseN at h
 split at h
 · cases h
 · split at h
   · cases h
   · split at h
     · cases h
     · next hs ln e h2 =>
       split at h
       · cases h
         exact headsN_few s _ _ [] none hs ln e (Nat.le_refl _) (Nat.zero_le _) h2
       · cases h
theorem parseN_le {s : Bytes} {q : Rq} (h : parseN s = some q) : s.length ≤ 65536 ∧ q.method.length ≤ s.length ∧ q.path.length ≤ s.length ∧ q.query.length ≤ s.length ∧ q.body.length ≤ s.length ∧ ∀ u ∈ q.heads, u.1.length ≤ s.length ∧ u.2.length ≤ s.length := by
 unfold parseN at h
 split at h
 · cases h
 · next hl =>
   split at h
   · cases h
   · next m p y a h1 =>
     split at h
     · cases h
     · next hs ln e h2 =>
       split at h
       · cases h
         obtain ⟨l1, l2, l3⟩ := lineN_le h1
         exact ⟨by omega, l1, l2, l3, by show (s.drop e).length ≤ _; rw [List.length_drop]; omega, headsN_le s _ a [] none hs ln e (Nat.le_refl _) (fun u hu => by cases hu) h2⟩
       · cases h
end Rl
end Go.Proofs.YtgpemnmopogppaaGreatDoor
