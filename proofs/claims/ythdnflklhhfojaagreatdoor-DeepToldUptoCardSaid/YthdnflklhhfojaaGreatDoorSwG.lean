/- (*strings.byteStringReplacer).Replace with deep.quote's table: the walk. -/
import Derived.Test.YthdnflklhhfojaaGreatDoorSwF
import Derived.Test.YthdnflklhhfojaaGreatDoorSwR
import Derived.Test.YthdnflklhhfojaaGreatDoorHeld
import Derived.Laws.CopyOwn
import Derived.Laws.MakeOwn
import Derived.Laws.Rows
import Derived.BigQuiet
import Derived.Deep.RegionHeld3
import Derived.Lib.Builder
import Derived.Laws.Cover3
namespace Go.Proofs.YthdnflklhhfojaaGreatDoor
open Go Go.RowKit
namespace Sw
open Go.Proofs.YthdnflklhhfojaaGreatDoor.Dp (drewN')
/-- How many bytes of the first i get a backslash. -/
def specN (l : List UInt8) (i : Nat) : Nat := (escL (l.take i)).length - (l.take i).length
theorem escL_ge : ∀ l : List UInt8, l.length ≤ (escL l).length
  | [] => by simp
  | c :: r => by
    have := escL_ge r
    unfold escL
    split <;> simp only [List.length_cons] <;> omega
theorem escL_same : ∀ l : List UInt8, (escL l).length = l.length → escL l = l
  | [], _ => rfl
  | c :: r, h => by
    have hg := escL_ge r
    unfold escL at h ⊢
    split at h
    · simp only [List.length_cons] at h; omega
    · rename_i hn
      rw [if_neg hn, escL_same r (by simpa using h)]
theorem escL_count : ∀ l : List UInt8, (escL l).length = l.length + Lib.countByte l 39 + Lib.countByte l 92
  | [] => rfl
  | c :: r => by
    have ih := escL_count r
    unfold Lib.countByte at ih ⊢
    unfold escL
    rw [List.count_cons, List.count_cons]
    by_cases h1 : c = 39
    · subst h1
      rw [if_pos (by decide)]
      simp only [List.length_cons, beq_self_eq_true, if_true]
      rw [show ((39 : UInt8) == 92) = false by decide]
      simp only [Bool.false_eq_true, if_false]
      omega
    · by_cases h2 : c = 92
      · subst h2
        rw [if_pos (by decide)]
        simp only [List.length_cons, beq_self_eq_true, if_true]
        rw [show ((92 : UInt8) == 39) = false by decide]
        simp only [Bool.false_eq_true, if_false]
        omega
      · have e1 : (c == 39) = false := by simpa using h1
        have e2 : (c == 92) = false := by simpa using h2
        have n1 : ¬ c.toNat = 39 := fun e => h1 (by rw [← UInt8.toNat_inj]; exact e)
        have n2 : ¬ c.toNat = 92 := fun e => h2 (by rw [← UInt8.toNat_inj]; exact e)
        rw [if_neg (by omega), e1, e2]
        simp only [List.length_cons, Bool.false_eq_true, if_false]
        omega
theorem specN_zero (l : List UInt8) : specN l 0 = 0 := by simp [specN, escL]
theorem take_len (s : ByteArray) (i : Nat) (h : i ≤ s.size) : (s.data.toList.take i).length = i := by
  rw [List.length_take, show s.data.toList.length = s.size by simp]
  omega
theorem esc_len (s : ByteArray) (i : Nat) (h : i ≤ s.size) : (escL (s.data.toList.take i)).length = i + specN s.data.toList i := by
  have h1 := escL_ge (s.data.toList.take i)
  have h2 := take_len s i h
  unfold specN
  omega
theorem specN_succ (s : ByteArray) (i : Nat) (h : i < s.size) : specN s.data.toList (i + 1) = specN s.data.toList i + (if s[i].toNat = 39 ∨ s[i].toNat = 92 then 1 else 0) := by
  have h1 := esc_len s (i + 1) (by omega)
  have h2 := esc_len s i (by omega)
  have h3 := escL_take s i h
  have h4 := congrArg List.length h3
  rw [List.length_append, h1, h2] at h4
  split at h4
  · rename_i hc
    rw [if_pos hc]
    simp only [List.length_cons, List.length_nil] at h4
    omega
  · rename_i hc
    rw [if_neg hc]
    simp only [List.length_cons, List.length_nil] at h4
    omega
theorem specN_le (s : ByteArray) (i : Nat) (h : i ≤ s.size) : specN s.data.toList i ≤ i := by
  have h1 := escL_len (s.data.toList.take i)
  have h2 := take_len s i h
  unfold specN
  omega
theorem neq_some (a : Addr) (n c : Nat) (w : World) : (binOp .neq 43 (.slice (some a) n c) (.slice none 0 0)).run Tryz.prog w = .ok (.bool true) w := by
  rw [run_neq_slice_nil (w := w) 43 5 (some a) n c Tryz.underlying43]
  rfl
theorem neq_nil (w : World) : (binOp .neq 43 (.slice none 0 0) (.slice none 0 0)).run Tryz.prog w = .ok (.bool false) w := by
  rw [run_neq_slice_nil (w := w) 43 5 none 0 0 Tryz.underlying43]
  rfl
/-- A row of n bytes at g that is written over. -/
def Buf (B g n : Nat) (xs : List Value) (w : World) : Prop := B ≤ g ∧ w.heap[g]? = some (.cells xs.toArray 5 (0, 0)) ∧ xs.length = n
theorem Buf.cell {B g n : Nat} {xs : List Value} {w : World} (h : Buf B g n xs w) (k : Nat) (hk : k < n) : ∃ u, w.cell? ⟨g, k, none⟩ = some u := by
  rw [Lib.cell_of_heap h.2.1]
  exact ⟨_, by rw [List.getElem?_toArray, List.getElem?_eq_getElem (by rw [h.2.2]; exact hk)]⟩
theorem Buf.frozen {B g n : Nat} {xs : List Value} {w : World} (h : Buf B g n xs w) (k : Nat) : w.frozen? ⟨g, k, none⟩ = false := Lib.frozen_of_heap h.2.1 k
theorem Buf.store {B g n : Nat} {xs : List Value} {w : World} (h : Buf B g n xs w) (k : Nat) (v : Value) : Buf B g n (xs.set k v) (w.setCell ⟨g, k, none⟩ v) :=
  ⟨h.1, by rw [heap_setCell_same w g k xs.toArray _ v h.2.1]; simp, by rw [List.length_set]; exact h.2.2⟩
theorem take_set {α : Type} (xs : List α) (k : Nat) (v : α) (h : k < xs.length) : (xs.set k v).take (k + 1) = xs.take k ++ [v] := by
  rw [List.take_succ_eq_append_getElem (by rw [List.length_set]; exact h), List.getElem_set_self, List.take_set_of_le (by omega)]
theorem take_splice {α : Type} (xs : List α) (k : Nat) (cs : List α) (h : k + cs.length ≤ xs.length) : (splice xs k cs).take (k + cs.length) = xs.take k ++ cs := by
  unfold splice
  rw [← List.append_assoc, List.take_append_of_le_length (by simp; omega), List.take_of_length_le (by simp; omega)]
theorem back_bytes (w : World) (B g n : Nat) (xs : List Value) (l : List UInt8) (h : Buf B g n xs w) (hx : xs = Lib.byteCells l) (hl : l.length = n) : (convert 43 9 (.slice (some ⟨g, 0, none⟩) n n)).run Tryz.prog w = .ok (.string ⟨l.toArray⟩) w := by
  rw [← hl]
  refine run_convert_bytes_back w _ _ 5 ⟨g, 0, none⟩ l.length l Tryz.underlying43 Tryz.underlying5 Tryz.underlying9 fun j hj => ?_
  have hc : w.cell? ⟨g, j, none⟩ = some (.int .u8 (l[j].toNat : Int)) := by
    rw [Lib.cell_of_heap h.2.1, hx, List.getElem?_toArray]
    simp [Lib.byteCells, List.getElem?_map, List.getElem?_eq_getElem hj]
  unfold Addr.add
  split
  · rename_i h0
    subst h0
    exact hc
  · simpa using hc
theorem TabAt.below {w w' : World} {T : Nat} (h : TabAt w T) (hb : Below w.heap.size w w') : TabAt w' T := by
  have key : ∀ {b i : Nat} {v : Value}, w.cell? ⟨b, i, none⟩ = some v → w'.cell? ⟨b, i, none⟩ = some v := fun {b i v} hc => by
    have hlt : b < w.heap.size := by
      rcases Nat.lt_or_ge b w.heap.size with h' | h'
      · exact h'
      · simp [World.cell?, Array.getElem?_eq_none h'] at hc
    exact (hb.cell (p := ⟨b, i, none⟩) hlt).trans hc
  obtain ⟨a1, c1, p1, p2, p3⟩ := h.q
  obtain ⟨a2, c2, q1, q2, q3⟩ := h.b
  obtain ⟨a3, c3, r1, r2, r3⟩ := h.r
  exact ⟨fun i hi h1 h2 => key (h.nil i hi h1 h2), ⟨a1, c1, key p1, key p2, key p3⟩, ⟨a2, c2, key q1, key q2, key q3⟩, ⟨a3, c3, key r1, key r2, key r3⟩⟩
theorem escL_append : ∀ a b : List UInt8, escL (a ++ b) = escL a ++ escL b
  | [], b => rfl
  | c :: a, b => by
    rw [List.cons_append, escL, escL, escL_append a b]
    split <;> rfl
theorem escL_total (s : ByteArray) (i : Nat) (_h : i ≤ s.size) : (escL (s.data.toList.take i)).length ≤ (escL s.data.toList).length := by
  have h1 := escL_append (s.data.toList.take i) (s.data.toList.drop i)
  rw [List.take_append_drop] at h1
  rw [h1, List.length_append]
  omega
set_option maxRecDepth 100000 in
set_option maxHeartbeats 4000000 in
theorem bsr_any {w : World} {T : Nat} (hT : TabAt w T) (s : ByteArray) (hs : s.size ≤ 1048576) : Calls Tryz.prog 250 #[.pointer (some ⟨T, 0, none⟩), .string s] w fun e w' => e = .returned (.string ⟨(escL s.data.toList).toArray⟩) ∧ Below w.heap.size w w' := by
  obtain ⟨V, HV⟩ : ∃ V : ByteArray, Hid ((⟨(escL s.data.toList).toArray⟩ : ByteArray) = V) := ⟨_, rfl⟩
  rw [HV.out]
  obtain ⟨i0, hi0, hz0, hz1, hz2⟩ := info_parts Nm.u8_info
  obtain ⟨R, rc, r1, r2, r3⟩ := hT.r
  have HT := Lib.hid hT
  have HB0 := Lib.hid (Below.refl w.heap.size w)
  have hlt_of : ∀ {b i : Nat} {v : Value}, w.cell? ⟨b, i, none⟩ = some v → b < w.heap.size := fun {b i v} hc => by
    rcases Nat.lt_or_ge b w.heap.size with h' | h'
    · exact h'
    · simp [World.cell?, Array.getElem?_eq_none h'] at hc
  have HRlt := Lib.hid (hlt_of r2)
  have HTlt := Lib.hid (hlt_of r1)
  clear hlt_of
  have HC := Lib.hid (fun (c : UInt8) w1 => Tryz.strings_Count_one s c w1)
  have hcb := escL_count s.data.toList
  have hell := esc_len s s.size (Nat.le_refl _)
  have hall : s.data.toList.take s.size = s.data.toList := List.take_of_length_le (by simp)
  rw [hall] at hell
  have hle := specN_le s s.size (Nat.le_refl _)
  have hsl : s.data.toList.length = s.size := by simp
  have HEL := Lib.hid (And.intro hell (And.intro hcb (And.intro hall hsl)))
  obtain ⟨NS, hNS⟩ : ∃ n, specN s.data.toList s.size = n := ⟨_, rfl⟩
  have hsum : Lib.countByte s.data.toList 39 + Lib.countByte s.data.toList 92 = NS := by omega
  have hNS2 : NS ≤ s.size := by omega
  have HNS := Lib.hid hNS
  obtain ⟨N1, hN1⟩ : ∃ n, Lib.countByte s.data.toList 39 = n := ⟨_, rfl⟩
  obtain ⟨N2, hN2⟩ : ∃ n, Lib.countByte s.data.toList 92 = n := ⟨_, rfl⟩
  have HC1 : Hid (∀ w1, Calls Tryz.prog 118 #[.string s, .string ⟨#[39]⟩] w1 fun e w' => e = .returned (.int .i64 (N1 : Int)) ∧ w' = w1) := by
    intro w1
    have := HC.out 39 w1
    rw [hN1] at this
    exact this
  have HC2 : Hid (∀ w1, Calls Tryz.prog 118 #[.string s, .string ⟨#[92]⟩] w1 fun e w' => e = .returned (.int .i64 (N2 : Int)) ∧ w' = w1) := by
    intro w1
    have := HC.out 92 w1
    rw [hN2] at this
    exact this
  have hsum : N1 + N2 = NS := by omega
  have hmk : ∀ wz : World, (Instr.makeSlice 43 (.int .i64 ((s.size + NS : Nat) : Int)) (.int .i64 ((s.size + NS : Nat) : Int))).run Tryz.prog wz = .ok (.slice (some ⟨wz.heap.size, 0, none⟩) (s.size + NS) (s.size + NS)) (wz.alloc (.cells (madeCells #[Value.int IntKind.u8 0] (s.size + NS)) 5)) := by
    intro wz
    have := run_make (P := Tryz.prog) wz 43 5 i0 (.int .u8 0) Tryz.underlying43 hi0 hz0 .i64 .i64 ((s.size + NS : Nat) : Int) ((s.size + NS : Nat) : Int) (by omega) (Int.le_refl _) (by rw [hz2]; omega) (by omega)
    rw [hz1, Int.toNat_natCast, Nat.mul_one] at this
    exact this
  have HMK := Lib.hid hmk
  have hmk2 : ∀ wz : World, (Instr.makeSlice 43 (.int .i64 ((s.size : Int) + (NS : Int))) (.int .i64 ((s.size : Int) + (NS : Int)))).run Tryz.prog wz = .ok (.slice (some ⟨wz.heap.size, 0, none⟩) (s.size + NS) (s.size + NS)) (wz.alloc (.cells (madeCells #[Value.int IntKind.u8 0] (s.size + NS)) 5)) := by
    intro wz
    have := hmk wz
    rw [show ((s.size + NS : Nat) : Int) = (s.size : Int) + (NS : Int) by omega] at this
    exact this
  have HMK2 := Lib.hid hmk2
  have HU := Lib.hid (And.intro hi0 (And.intro hz0 (And.intro hz1 hz2)))
  have hU2 : (Tryz.prog.info? 5).map (·.size) = some 1 := by rw [hi0, Option.map_some, hz1]
  have HU2 := Lib.hid hU2
  have hne1 := neq_some
  have hne0 := neq_nil
  clear hi0 hz0 hz1 hz2 hT hcb hell hall hle HC hN1 hN2 hNS hsl hmk hU2 hmk2
  by_cases h16 : 16 ≤ s.size
  · have d16 : decide ((16 : Int) ≤ (s.size : Int)) = true := decide_eq_true (by omega)
    go_enter Tryz.func250, Tryz.ntmps250
    go_wp2_with fail
    go_loopw [5, 6, 32] (fun x5 x6 x32 wx => ∃ (j c : Nat), ((j = 0 ∧ 0 = c) ∨ (j = 1 ∧ N1 = c) ∨ (j = 2 ∧ NS = c)) ∧ x32 = .int .i64 j ∧ x5 = .int .i64 ((s.size + c : Nat) : Int) ∧ x6 = .bool (decide (0 < c)) ∧ Hid (Below w.heap.size w wx)) (fun _ _ x32 _ => 2 - (match x32 with | .int _ q => q | _ => 0).toNat)
    case atStart => exact ⟨0, 0, .inl ⟨rfl, rfl⟩, rfl, rfl, rfl, HB0⟩
    case round =>
      obtain ⟨j, c, hjc, rfl, rfl, rfl, HB⟩ := hrel
      have HTw := Lib.hid (HT.out.below HB.out)
      rcases hjc with ⟨rfl, rfl⟩ | ⟨rfl, rfl⟩ | ⟨rfl, rfl⟩
      · have hcell : wr.cell? ⟨R, 0, none⟩ = some (.string ⟨#[39]⟩) := (HB.out.cell (p := ⟨R, 0, none⟩) HRlt.out).trans r2
        obtain ⟨a, ac, t1, t2, t3⟩ := HTw.out.q
        by_cases hn : N1 = 0
        · have hN : Hid (N1 = 0) := by show _ = _; omega
          have HZ := Lib.hid hn
          have bn : (((N1 : Nat) : Int) != 0) = false := by simp [hn]
          clear HTw HEL HNS HMK HU HU2
          go_wp2_with (go_at_call 118; refine (HC1.out _).mono ?_; rintro e w1 ⟨rfl, rfl⟩)
          go_roundw
          case rel => exact ⟨1, 0, .inr (.inl ⟨rfl, by have := hN.out; omega⟩), by go_num, by trivial, by trivial, HB⟩
          case measure => simp <;> omega
        · have bn : (((N1 : Nat) : Int) != 0) = true := by simp; omega
          have hpos : decide (0 < N1) = true := decide_eq_true (by omega)
          have hw1 : IntKind.i64.wrap (((s.size + 0 : Nat) : Int) + (N1 : Int)) = ((s.size + N1 : Nat) : Int) := by rw [IntWalk.i64_in _ (by omega)]; omega
          have HBD := Lib.hid (fun k => drewN' HB.out k)
          have hix : ∀ h, (((⟨#[39]⟩ : ByteArray)[0]'h).toNat : Int) = 39 := fun _ => rfl
          clear HTw HEL HNS HMK HU HU2
          go_wp2_with (go_at_call 118; refine (HC1.out _).mono ?_; rintro e w1 ⟨rfl, rfl⟩)
          go_quiet (fail)
          go_wp2_with fail
          go_roundw
          case rel => exact ⟨1, N1, .inr (.inl ⟨rfl, rfl⟩), by go_num, by go_num, by rw [hpos], HBD.out _⟩
          case measure => simp <;> omega
      · have hcell : wr.cell? ⟨R, 1, none⟩ = some (.string ⟨#[92]⟩) := (HB.out.cell (p := ⟨R, 1, none⟩) HRlt.out).trans r3
        obtain ⟨a, ac, t1, t2, t3⟩ := HTw.out.b
        by_cases hn : N2 = 0
        · have hN : Hid (NS = N1) := by show _ = _; omega
          have HZ := Lib.hid hn
          have bn : (((N2 : Nat) : Int) != 0) = false := by simp [hn]
          clear HTw HEL HNS HMK HU HU2
          go_wp2_with (go_at_call 118; refine (HC2.out _).mono ?_; rintro e w1 ⟨rfl, rfl⟩)
          go_roundw
          case rel => exact ⟨2, N1, .inr (.inr ⟨rfl, by have := hN.out; omega⟩), by go_num, by trivial, by trivial, HB⟩
          case measure => simp <;> omega
        · have bn : (((N2 : Nat) : Int) != 0) = true := by simp; omega
          have hpos : decide (0 < NS) = true := decide_eq_true (by omega)
          have hw1 : IntKind.i64.wrap (((s.size + N1 : Nat) : Int) + (N2 : Int)) = ((s.size + NS : Nat) : Int) := by rw [IntWalk.i64_in _ (by omega)]; omega
          have HBD := Lib.hid (fun k => drewN' HB.out k)
          have hix : ∀ h, (((⟨#[92]⟩ : ByteArray)[0]'h).toNat : Int) = 92 := fun _ => rfl
          clear HTw HEL HNS HMK HU HU2
          go_wp2_with (go_at_call 118; refine (HC2.out _).mono ?_; rintro e w1 ⟨rfl, rfl⟩)
          go_quiet (fail)
          go_wp2_with fail
          go_roundw
          case rel => exact ⟨2, NS, .inr (.inr ⟨rfl, rfl⟩), by go_num, by go_num, by rw [hpos], HBD.out _⟩
          case measure => simp <;> omega
      · by_cases hz : NS = 0
        · have hsame : escL s.data.toList = s.data.toList := escL_same _ (by have h1 := HEL.out.1; have h2 := HNS.out; have h3 := HEL.out.2.2.2; omega)
          have hVs : s = V := by rw [← HV.out, hsame]
          subst hVs
          have dz : decide (0 < NS) = false := decide_eq_false (by omega)
          clear HEL HNS HMK HU HU2 hsame HV
          go_wp2_with fail
          go_ret
          exact ⟨rfl, HB.out⟩
        · have dz : decide (0 < NS) = true := decide_eq_true (by omega)
          have hmk := HMK.out
          have hmk2 := HMK2.out
          have HBa := Lib.hid (HB.out.alloc HB.out.size (.cells (madeCells #[Value.int IntKind.u8 0] (s.size + NS)) 5))
          have hwG := HB.out.size
          have HBf : Hid (Buf w.heap.size wr.heap.size (s.size + NS) (madeCells #[Value.int IntKind.u8 0] (s.size + NS)).toList (wr.alloc (.cells (madeCells #[Value.int IntKind.u8 0] (s.size + NS)) 5))) := by
            refine ⟨by omega, ?_, ?_⟩
            · rw [Array.toArray_toList]; exact heap_alloc_new wr _
            · rw [Array.length_toList, size_madeCells]
          have HTT := Lib.hid (escL_total s)
          have hn2 := hNS2
          clear HB
          go_wp2_with fail
          generalize (madeCells #[Value.int IntKind.u8 0] (s.size + NS)) = mc at *
          obtain ⟨G, hG⟩ : ∃ g, wr.heap.size = g := ⟨_, rfl⟩
          rw [hG] at HBf
          simp only [hG]
          generalize wr.alloc (.cells mc 5) = w1 at *
          clear hmk hmk2 hG hwG
          go_loopw [13, 14] (fun x13 x14 wx => ∃ (i E : Nat) (xs : List Value), i ≤ s.size ∧ x14 = .int .i64 i ∧ x13 = .int .i64 (E : Int) ∧ Hid (E = (escL (s.data.toList.take i)).length) ∧ Hid (Buf w.heap.size G (s.size + NS) xs wx) ∧ Hid (xs.take E = Lib.byteCells (escL (s.data.toList.take i))) ∧ Hid (Below w.heap.size w wx)) (fun _ x14 _ => s.size - (match x14 with | .int _ q => q | _ => 0).toNat)
          case atStart => exact ⟨0, 0, _, Nat.zero_le _, rfl, rfl, by simp [Hid, escL], HBf, by simp [Hid, escL, Lib.byteCells], HBa⟩
          case round =>
            clear HBf HBa
            obtain ⟨i, E, xs, hi, rfl, rfl, HE, HF, HX, HB⟩ := hrel
            by_cases hlt : i < s.size
            · have hc8 := s[i].toNat_lt
              have HTw := Lib.hid (HT.out.below HB.out)
              have hlt' : (i : Int) < (s.size : Int) := by omega
              have hES := escL_take s i hlt
              have htot := HTT.out (i + 1) (by omega)
              have hell := HEL.out.1
              have hns := HNS.out
              have hxl := HF.out.2.2
              by_cases h39 : s[i].toNat = 39
              · obtain ⟨a, ac, t1, t2, t3⟩ := HTw.out.q
                have hx : (s[i].toNat : Int) = 39 := by omega
                rw [if_pos (by omega)] at hES
                have hE2 : E + 2 = (escL (s.data.toList.take (i + 1))).length := by rw [hES, List.length_append, ← HE.out]; rfl
                have hEn : E + 2 ≤ s.size + NS := by omega
                have hsi : s[i] = 39 := by rw [← UInt8.toNat_inj]; exact h39
                have HX2 : Hid ((splice xs E [.int .u8 92, .int .u8 39]).take (E + 2) = Lib.byteCells (escL (s.data.toList.take (i + 1)))) := by
                  show _ = _
                  rw [show E + 2 = E + [Value.int .u8 92, Value.int .u8 39].length from rfl, take_splice xs E [.int .u8 92, .int .u8 39] (by simp only [List.length_cons, List.length_nil]; omega), HX.out, hES, Lib.byteCells_append, hsi]
                  rfl
                have HE2 := Lib.hid hE2
                have HFS := Lib.hid hxl
                have hE0 : (0 : Int) ≤ (E : Int) := by omega
                have hEn1 : (E : Int) ≤ (s.size : Int) + (NS : Int) := by omega
                have hNE : ¬ s.size + NS = E := by omega
                have hw2 : IntKind.i64.wrap ((E : Int) + 2) = ((E + 2 : Nat) : Int) := by rw [IntWalk.i64_in _ (by omega)]; omega
                have HFD : Hid (Buf w.heap.size G (s.size + NS) xs wr.drew) := HF.out
                have HBD := Lib.hid (drewN' HB.out 1)
                clear HTw hES htot hell hns hxl hE2 hsi HE HX HTT HEL HNS HMK h39 hc8
                go_wp2_with fail
                skip
                refine wp_region_held_drew (S := (fun wz => wz.cell? ⟨T, 39, none⟩ = some (.slice (some ⟨a, 0, none⟩) 2 ac))) (by kernel_rfl) ?_ (fun hHeld => ?_)
                · exact t1
                refine wpAnyH_take (i := 0) (v := ?v1) Held.op0 (by kernel_rfl) (by kernel_rfl) (by kernel_rfl) (fun _ _ _ h => h) (Or.inl ⟨by rfl, ?hy1⟩) (by assumption) ?rest1
                case hy1 => (intro wq hSq; (try dsimp only at hSq); first | (go_simp; done) | (go_simp; with_reducible rfl))
                try simp only [Act.put, List.setIfInBounds_toArray, List.set_cons_zero, List.set_cons_succ]
                refine wpAnyH_take (i := 1) (v := ?v2) Held.op1 (by kernel_rfl) (by kernel_rfl) (by kernel_rfl) (fun _ _ _ h => h) (Or.inl ⟨by rfl, ?hy2⟩) (by assumption) ?rest2
                case hy2 => (intro wq hSq; (try dsimp only at hSq); first | (go_simp; done) | (go_simp; with_reducible rfl))
                try simp only [Act.put, List.setIfInBounds_toArray, List.set_cons_zero, List.set_cons_succ]
                refine wpAnyH_take (i := 2) (v := ?v3) Held.op2 (by kernel_rfl) (by kernel_rfl) (by kernel_rfl) (fun _ _ _ h => h) (Or.inl ⟨by rfl, ?hy3⟩) (by assumption) ?rest3
                case hy3 => (intro wq hSq; (try dsimp only at hSq); first | (go_simp; done) | (go_simp; with_reducible rfl))
                try simp only [Act.put, List.setIfInBounds_toArray, List.set_cons_zero, List.set_cons_succ]
                refine wpAnyH_take (i := 3) (v := ?v4) Held.op3 (by kernel_rfl) (by kernel_rfl) (by kernel_rfl) (fun _ _ _ h => h) (Or.inl ⟨by rfl, ?hy4⟩) (by assumption) ?rest4
                case hy4 => (intro wq hSq; (try dsimp only at hSq); first | (go_simp; done) | (go_simp; with_reducible rfl))
                try simp only [Act.put, List.setIfInBounds_toArray, List.set_cons_zero, List.set_cons_succ]
                refine wpAnyH_take (i := 4) (v := ?v5) Held.op4 (by kernel_rfl) (by kernel_rfl) (by kernel_rfl) (fun _ _ _ h => h) (Or.inl ⟨by rfl, ?hy5⟩) (by assumption) ?rest5
                case hy5 => (intro wq hSq; (try dsimp only at hSq); first | (go_simp; done) | (go_simp; with_reducible rfl))
                try simp only [Act.put, List.setIfInBounds_toArray, List.set_cons_zero, List.set_cons_succ]
                refine wpAnyH_take (i := 5) (v := ?v6) Held.op5 (by kernel_rfl) (by kernel_rfl) (by kernel_rfl) (fun _ _ _ h => h) (Or.inl ⟨by rfl, ?hy6⟩) (by assumption) ?rest6
                case hy6 => (intro wq hSq; (try dsimp only at hSq); first | (go_simp; done) | (go_simp; with_reducible rfl))
                try simp only [Act.put, List.setIfInBounds_toArray, List.set_cons_zero, List.set_cons_succ]
                refine wpAnyH_take (i := 6) (v := ?v7) Held.op6 (by kernel_rfl) (by kernel_rfl) (by kernel_rfl) (fun _ _ _ h => h) (Or.inl ⟨by rfl, ?hy7⟩) (by assumption) ?rest7
                case hy7 => (intro wq hSq; (try dsimp only at hSq); first | (go_simp; done) | (go_simp; with_reducible rfl))
                try simp only [Act.put, List.setIfInBounds_toArray, List.set_cons_zero, List.set_cons_succ]
                refine wpAnyH_take (i := 7) (v := ?v8) Held.op7 (by kernel_rfl) (by kernel_rfl) (by kernel_rfl) (fun _ _ _ h => h) (Or.inl ⟨by rfl, ?hy8⟩) (by assumption) ?rest8
                case hy8 => (intro wq hSq; (try dsimp only at hSq); first | (go_simp; done) | (go_simp; with_reducible rfl))
                try simp only [Act.put, List.setIfInBounds_toArray, List.set_cons_zero, List.set_cons_succ]
                refine wpAnyH_take (i := 8) (v := ?v9) Held.op8 (by kernel_rfl) (by kernel_rfl) (by kernel_rfl) (fun _ _ _ h => h) (Or.inl ⟨by rfl, ?hy9⟩) (by assumption) ?rest9
                case hy9 => (intro wq hSq; (try dsimp only at hSq); first | (go_simp; done) | (go_simp; with_reducible rfl))
                try simp only [Act.put, List.setIfInBounds_toArray, List.set_cons_zero, List.set_cons_succ]
                refine wpAnyH_take (i := 9) (v := ?v10) Held.op9 (by kernel_rfl) (by kernel_rfl) (by kernel_rfl) (fun _ _ _ h => h) (Or.inl ⟨by rfl, ?hy10⟩) (by assumption) ?rest10
                case hy10 => (intro wq hSq; (try dsimp only at hSq); first | (go_simp; done) | (go_simp; with_reducible rfl))
                try simp only [Act.put, List.setIfInBounds_toArray, List.set_cons_zero, List.set_cons_succ]
                refine wpAnyH_ready (rs := [10]) (by kernel_rfl) (by simp) ?_
                refine AllReadyH.cons Held.op10 (fun K hK => ?_) AllReadyH.nil
                refine step_copy_splice rfl _ _ 43 43 rfl 5 Tryz.underlying43 HU2.out _ _ _ _ _ _ rfl rfl G E xs 5 HFD.out.2.1 [.int .u8 92, .int .u8 39] (by simp only [List.length_cons, List.length_nil]; exact (Nat.min_eq_left (by omega)).symm) (fun _ => ⟨rfl, ⟨a, 0, none⟩, rfl, fun j v hj => by match j, hj with | 0, hj => (simp at hj; subst hj; exact t2) | 1, hj => (simp at hj; subst hj; exact t3)⟩) (by have := HFS.out; simp only [List.length_cons, List.length_nil]; omega) (by intro v hv; simp at hv; rcases hv with rfl | rfl <;> rfl) w.heap.size w HBD.out HFD.out.1 ?_; intro w2 hgx hbx; have HB2 := Lib.hid hbx; have HF2 : Hid (Buf w.heap.size G (s.size + NS) (splice xs E [.int .u8 92, .int .u8 39]) w2) := ⟨HFD.out.1, hgx.out, by rw [length_splice _ _ _ (by have := HFS.out; simp only [List.length_cons, List.length_nil]; omega)]; exact HFS.out⟩; have t4 := (hbx.cell (p := ⟨T, 39, none⟩) HTlt.out).trans (((HBD.out.cell (p := ⟨T, 39, none⟩) HTlt.out).symm).trans t1); clear hgx hbx
                refine hK.out _ _ ?_ (fun hHeld => ?_)
                · exact t4
                clear hK K
                try simp only [Act.put, List.setIfInBounds_toArray, List.set_cons_zero, List.set_cons_succ]
                refine wpAnyH_take (i := 11) (v := ?v12) Held.op11 (by kernel_rfl) (by kernel_rfl) (by kernel_rfl) (fun _ _ _ h => h) (Or.inl ⟨by rfl, ?hy12⟩) (by assumption) ?rest12
                case hy12 => (intro wq hSq; (try dsimp only at hSq); first | (go_simp; done) | (go_simp; with_reducible rfl))
                try simp only [Act.put, List.setIfInBounds_toArray, List.set_cons_zero, List.set_cons_succ]
                refine wpAnyH_take (i := 12) (v := ?v13) Held.op12 (by kernel_rfl) (by kernel_rfl) (by kernel_rfl) (fun _ _ _ h => h) (Or.inl ⟨by rfl, ?hy13⟩) (by assumption) ?rest13
                case hy13 => (intro wq hSq; (try dsimp only at hSq); first | (go_simp; done) | (go_simp; with_reducible rfl))
                try simp only [Act.put, List.setIfInBounds_toArray, List.set_cons_zero, List.set_cons_succ]
                refine wpAnyH_done (by kernel_rfl) ?_ _
                go_wp2_with fail
                go_roundw
                case rel => exact ⟨i + 1, E + 2, _, by omega, by go_num, by go_num, HE2, HF2, HX2, HB2⟩
                case measure => simp <;> omega
              · skip
                by_cases h92 : s[i].toNat = 92
                · obtain ⟨a, ac, t1, t2, t3⟩ := HTw.out.b
                  have hx : (s[i].toNat : Int) = 92 := by omega
                  rw [if_pos (by omega)] at hES
                  have hE2 : E + 2 = (escL (s.data.toList.take (i + 1))).length := by rw [hES, List.length_append, ← HE.out]; rfl
                  have hEn : E + 2 ≤ s.size + NS := by omega
                  have hsi : s[i] = 92 := by rw [← UInt8.toNat_inj]; exact h92
                  have HX2 : Hid ((splice xs E [.int .u8 92, .int .u8 92]).take (E + 2) = Lib.byteCells (escL (s.data.toList.take (i + 1)))) := by
                    show _ = _
                    rw [show E + 2 = E + [Value.int .u8 92, Value.int .u8 92].length from rfl, take_splice xs E [.int .u8 92, .int .u8 92] (by simp only [List.length_cons, List.length_nil]; omega), HX.out, hES, Lib.byteCells_append, hsi]
                    rfl
                  have HE2 := Lib.hid hE2
                  have HFS := Lib.hid hxl
                  have hE0 : (0 : Int) ≤ (E : Int) := by omega
                  have hEn1 : (E : Int) ≤ (s.size : Int) + (NS : Int) := by omega
                  have hNE : ¬ s.size + NS = E := by omega
                  have hw2 : IntKind.i64.wrap ((E : Int) + 2) = ((E + 2 : Nat) : Int) := by rw [IntWalk.i64_in _ (by omega)]; omega
                  have HFD : Hid (Buf w.heap.size G (s.size + NS) xs wr.drew) := HF.out
                  have HBD := Lib.hid (drewN' HB.out 1)
                  clear HTw hES htot hell hns hxl hE2 hsi HE HX HTT HEL HNS HMK h39 h92 hc8
                  go_wp2_with fail
                  skip
                  refine wp_region_held_drew (S := (fun wz => wz.cell? ⟨T, 92, none⟩ = some (.slice (some ⟨a, 0, none⟩) 2 ac))) (by kernel_rfl) ?_ (fun hHeld => ?_)
                  · exact t1
                  refine wpAnyH_take (i := 0) (v := ?v14) Held.op0 (by kernel_rfl) (by kernel_rfl) (by kernel_rfl) (fun _ _ _ h => h) (Or.inl ⟨by rfl, ?hy14⟩) (by assumption) ?rest14
                  case hy14 => (intro wq hSq; (try dsimp only at hSq); first | (go_simp; done) | (go_simp; with_reducible rfl))
                  try simp only [Act.put, List.setIfInBounds_toArray, List.set_cons_zero, List.set_cons_succ]
                  refine wpAnyH_take (i := 1) (v := ?v15) Held.op1 (by kernel_rfl) (by kernel_rfl) (by kernel_rfl) (fun _ _ _ h => h) (Or.inl ⟨by rfl, ?hy15⟩) (by assumption) ?rest15
                  case hy15 => (intro wq hSq; (try dsimp only at hSq); first | (go_simp; done) | (go_simp; with_reducible rfl))
                  try simp only [Act.put, List.setIfInBounds_toArray, List.set_cons_zero, List.set_cons_succ]
                  refine wpAnyH_take (i := 2) (v := ?v16) Held.op2 (by kernel_rfl) (by kernel_rfl) (by kernel_rfl) (fun _ _ _ h => h) (Or.inl ⟨by rfl, ?hy16⟩) (by assumption) ?rest16
                  case hy16 => (intro wq hSq; (try dsimp only at hSq); first | (go_simp; done) | (go_simp; with_reducible rfl))
                  try simp only [Act.put, List.setIfInBounds_toArray, List.set_cons_zero, List.set_cons_succ]
                  refine wpAnyH_take (i := 3) (v := ?v17) Held.op3 (by kernel_rfl) (by kernel_rfl) (by kernel_rfl) (fun _ _ _ h => h) (Or.inl ⟨by rfl, ?hy17⟩) (by assumption) ?rest17
                  case hy17 => (intro wq hSq; (try dsimp only at hSq); first | (go_simp; done) | (go_simp; with_reducible rfl))
                  try simp only [Act.put, List.setIfInBounds_toArray, List.set_cons_zero, List.set_cons_succ]
                  refine wpAnyH_take (i := 4) (v := ?v18) Held.op4 (by kernel_rfl) (by kernel_rfl) (by kernel_rfl) (fun _ _ _ h => h) (Or.inl ⟨by rfl, ?hy18⟩) (by assumption) ?rest18
                  case hy18 => (intro wq hSq; (try dsimp only at hSq); first | (go_simp; done) | (go_simp; with_reducible rfl))
                  try simp only [Act.put, List.setIfInBounds_toArray, List.set_cons_zero, List.set_cons_succ]
                  refine wpAnyH_take (i := 5) (v := ?v19) Held.op5 (by kernel_rfl) (by kernel_rfl) (by kernel_rfl) (fun _ _ _ h => h) (Or.inl ⟨by rfl, ?hy19⟩) (by assumption) ?rest19
                  case hy19 => (intro wq hSq; (try dsimp only at hSq); first | (go_simp; done) | (go_simp; with_reducible rfl))
                  try simp only [Act.put, List.setIfInBounds_toArray, List.set_cons_zero, List.set_cons_succ]
                  refine wpAnyH_take (i := 6) (v := ?v20) Held.op6 (by kernel_rfl) (by kernel_rfl) (by kernel_rfl) (fun _ _ _ h => h) (Or.inl ⟨by rfl, ?hy20⟩) (by assumption) ?rest20
                  case hy20 => (intro wq hSq; (try dsimp only at hSq); first | (go_simp; done) | (go_simp; with_reducible rfl))
                  try simp only [Act.put, List.setIfInBounds_toArray, List.set_cons_zero, List.set_cons_succ]
                  refine wpAnyH_take (i := 7) (v := ?v21) Held.op7 (by kernel_rfl) (by kernel_rfl) (by kernel_rfl) (fun _ _ _ h => h) (Or.inl ⟨by rfl, ?hy21⟩) (by assumption) ?rest21
                  case hy21 => (intro wq hSq; (try dsimp only at hSq); first | (go_simp; done) | (go_simp; with_reducible rfl))
                  try simp only [Act.put, List.setIfInBounds_toArray, List.set_cons_zero, List.set_cons_succ]
                  refine wpAnyH_take (i := 8) (v := ?v22) Held.op8 (by kernel_rfl) (by kernel_rfl) (by kernel_rfl) (fun _ _ _ h => h) (Or.inl ⟨by rfl, ?hy22⟩) (by assumption) ?rest22
                  case hy22 => (intro wq hSq; (try dsimp only at hSq); first | (go_simp; done) | (go_simp; with_reducible rfl))
                  try simp only [Act.put, List.setIfInBounds_toArray, List.set_cons_zero, List.set_cons_succ]
                  refine wpAnyH_take (i := 9) (v := ?v23) Held.op9 (by kernel_rfl) (by kernel_rfl) (by kernel_rfl) (fun _ _ _ h => h) (Or.inl ⟨by rfl, ?hy23⟩) (by assumption) ?rest23
                  case hy23 => (intro wq hSq; (try dsimp only at hSq); first | (go_simp; done) | (go_simp; with_reducible rfl))
                  try simp only [Act.put, List.setIfInBounds_toArray, List.set_cons_zero, List.set_cons_succ]
                  refine wpAnyH_ready (rs := [10]) (by kernel_rfl) (by simp) ?_
                  refine AllReadyH.cons Held.op10 (fun K hK => ?_) AllReadyH.nil
                  refine step_copy_splice rfl _ _ 43 43 rfl 5 Tryz.underlying43 HU2.out _ _ _ _ _ _ rfl rfl G E xs 5 HFD.out.2.1 [.int .u8 92, .int .u8 92] (by simp only [List.length_cons, List.length_nil]; exact (Nat.min_eq_left (by omega)).symm) (fun _ => ⟨rfl, ⟨a, 0, none⟩, rfl, fun j v hj => by match j, hj with | 0, hj => (simp at hj; subst hj; exact t2) | 1, hj => (simp at hj; subst hj; exact t3)⟩) (by have := HFS.out; simp only [List.length_cons, List.length_nil]; omega) (by intro v hv; simp at hv; rcases hv with rfl | rfl <;> rfl) w.heap.size w HBD.out HFD.out.1 ?_; intro w2 hgx hbx; have HB2 := Lib.hid hbx; have HF2 : Hid (Buf w.heap.size G (s.size + NS) (splice xs E [.int .u8 92, .int .u8 92]) w2) := ⟨HFD.out.1, hgx.out, by rw [length_splice _ _ _ (by have := HFS.out; simp only [List.length_cons, List.length_nil]; omega)]; exact HFS.out⟩; have t4 := (hbx.cell (p := ⟨T, 92, none⟩) HTlt.out).trans (((HBD.out.cell (p := ⟨T, 92, none⟩) HTlt.out).symm).trans t1); clear hgx hbx
                  refine hK.out _ _ ?_ (fun hHeld => ?_)
                  · exact t4
                  clear hK K
                  try simp only [Act.put, List.setIfInBounds_toArray, List.set_cons_zero, List.set_cons_succ]
                  refine wpAnyH_take (i := 11) (v := ?v25) Held.op11 (by kernel_rfl) (by kernel_rfl) (by kernel_rfl) (fun _ _ _ h => h) (Or.inl ⟨by rfl, ?hy25⟩) (by assumption) ?rest25
                  case hy25 => (intro wq hSq; (try dsimp only at hSq); first | (go_simp; done) | (go_simp; with_reducible rfl))
                  try simp only [Act.put, List.setIfInBounds_toArray, List.set_cons_zero, List.set_cons_succ]
                  refine wpAnyH_take (i := 12) (v := ?v26) Held.op12 (by kernel_rfl) (by kernel_rfl) (by kernel_rfl) (fun _ _ _ h => h) (Or.inl ⟨by rfl, ?hy26⟩) (by assumption) ?rest26
                  case hy26 => (intro wq hSq; (try dsimp only at hSq); first | (go_simp; done) | (go_simp; with_reducible rfl))
                  try simp only [Act.put, List.setIfInBounds_toArray, List.set_cons_zero, List.set_cons_succ]
                  refine wpAnyH_done (by kernel_rfl) ?_ _
                  go_wp2_with fail
                  go_roundw
                  case rel => exact ⟨i + 1, E + 2, _, by omega, by go_num, by go_num, HE2, HF2, HX2, HB2⟩
                  case measure => simp <;> omega
                · have t1 := HTw.out.nil s[i].toNat (by omega) h39 h92
                  have hx0 : (0 : Int) ≤ (s[i].toNat : Int) := by omega
                  have hx1 : (s[i].toNat : Int) < 256 := by omega
                  rw [if_neg (by omega)] at hES
                  have hE2 : E + 1 = (escL (s.data.toList.take (i + 1))).length := by rw [hES, List.length_append, ← HE.out]; rfl
                  have hEn : E + 1 ≤ s.size + NS := by omega
                  have HX2 : Hid ((xs.set E (.int .u8 (s[i].toNat : Int))).take (E + 1) = Lib.byteCells (escL (s.data.toList.take (i + 1)))) := by
                    show _ = _
                    rw [take_set xs E _ (by omega), HX.out, hES, Lib.byteCells_append]
                    rfl
                  have HE2 := Lib.hid hE2
                  have hE0 : (0 : Int) ≤ (E : Int) := by omega
                  have hEn1 : (E : Int) < (s.size : Int) + (NS : Int) := by omega
                  obtain ⟨u, hu⟩ := HF.out.cell E (by omega)
                  have hfz := HF.out.frozen E
                  have HF2 := Lib.hid (HF.out.store E (.int .u8 (s[i].toNat : Int)))
                  have HB2 := Lib.hid (HB.out.setCell (p := ⟨G, E, none⟩) HF.out.1 (.int .u8 (s[i].toNat : Int)))
                  clear HTw hES htot hell hns hxl hE2 HE HX HTT HEL HNS HMK h39 h92 hc8
                  go_wp2_with fail
                  skip
                  go_roundw
                  case rel => exact ⟨i + 1, E + 1, _, by omega, by go_num, by go_num, HE2, HF2, HX2, HB2⟩
                  case measure => simp <;> omega
            · have hii : i = s.size := by omega
              have hEn : E = s.size + NS := by rw [HE.out, hii, HEL.out.2.2.1]; have h1 := HEL.out.1; have h2 := HNS.out; omega
              have hxx : xs = Lib.byteCells (escL s.data.toList) := by
                have := HX.out
                rw [hii, HEL.out.2.2.1, List.take_of_length_le (by rw [HF.out.2.2]; omega)] at this
                exact this
              have hconv := back_bytes wr _ _ _ _ (escL s.data.toList) HF.out hxx (by have h1 := HEL.out.1; have h2 := HNS.out; omega)
              rw [HV.out] at hconv
              clear hii hEn hxx HE HX HTT HEL HNS HMK HF HV
              go_wp2_with fail
              go_ret
              exact ⟨rfl, HB.out⟩

  · have d16 : decide ((16 : Int) ≤ (s.size : Int)) = false := decide_eq_false (by omega)
    go_enter Tryz.func250, Tryz.ntmps250
    go_wp2_with fail
    go_loopw [5, 6, 10] (fun x5 x6 x10 wx => ∃ (i c : Nat), i ≤ s.size ∧ x10 = .int .i64 i ∧ x5 = .int .i64 ((s.size + c : Nat) : Int) ∧ x6 = .bool (decide (0 < c)) ∧ Hid (c = specN s.data.toList i) ∧ Hid (Below w.heap.size w wx)) (fun _ _ x10 _ => s.size - (match x10 with | .int _ q => q | _ => 0).toNat)
    case atStart => exact ⟨0, 0, Nat.zero_le _, rfl, rfl, rfl, (specN_zero _).symm, HB0⟩
    case round =>
      obtain ⟨i, c, hi, rfl, rfl, rfl, HS, HB⟩ := hrel
      by_cases hlt : i < s.size
      · have hc8 := s[i].toNat_lt
        have HTw := Lib.hid (HT.out.below HB.out)
        have HSS := Lib.hid (specN_succ s i hlt)
        have hlt' : (i : Int) < (s.size : Int) := by omega
        have hci := specN_le s i hi
        have hcle : c ≤ s.size := by rw [HS.out]; omega
        clear hci
        by_cases h39 : s[i].toNat = 39
        · obtain ⟨a, ac, t1, t2, t3⟩ := HTw.out.q
          have hx : (s[i].toNat : Int) = 39 := by omega
          have HN : Hid (c + 1 = specN s.data.toList (i + 1)) := by
            show _ = _
            rw [HSS.out, if_pos (by omega), HS.out]
          clear HTw HEL HNS HMK HU HU2 HSS HS t2 t3 h39 hc8
          go_wp2_with fail
          skip
          go_roundw
          case rel => exact ⟨i + 1, c + 1, by omega, by go_num, by go_num, by rw [decide_eq_true (by omega)], HN, HB⟩
          case measure => simp <;> omega
        · skip
          by_cases h92 : s[i].toNat = 92
          · obtain ⟨a, ac, t1, t2, t3⟩ := HTw.out.b
            have hx : (s[i].toNat : Int) = 92 := by omega
            have HN : Hid (c + 1 = specN s.data.toList (i + 1)) := by
              show _ = _
              rw [HSS.out, if_pos (by omega), HS.out]
            clear HTw HEL HNS HMK HU HU2 HSS HS t2 t3 h39 h92 hc8
            go_wp2_with fail
            skip
            go_roundw
            case rel => exact ⟨i + 1, c + 1, by omega, by go_num, by go_num, by rw [decide_eq_true (by omega)], HN, HB⟩
            case measure => simp <;> omega
          · have t1 := HTw.out.nil s[i].toNat (by omega) h39 h92
            have hx0 : (0 : Int) ≤ (s[i].toNat : Int) := by omega
            have hx1 : (s[i].toNat : Int) < 256 := by omega
            have HN : Hid (c = specN s.data.toList (i + 1)) := by
              show _ = _
              rw [HSS.out, if_neg (by omega), HS.out]
              omega
            clear HTw HEL HNS HMK HU HU2 HSS HS h39 h92 hc8
            go_wp2_with fail
            skip
            go_roundw
            case rel => exact ⟨i + 1, c, by omega, by go_num, by trivial, by trivial, HN, HB⟩
            case measure => simp <;> omega
      · have hii : i = s.size := by omega
        have hcN : c = NS := by rw [HS.out, hii]; exact HNS.out
        by_cases hz : NS = 0
        · have hsame : escL s.data.toList = s.data.toList := escL_same _ (by have h1 := HEL.out.1; have h2 := HNS.out; have h3 := HEL.out.2.2.2; omega)
          have hVs : s = V := by rw [← HV.out, hsame]
          subst hVs
          have dz : decide (0 < NS) = false := decide_eq_false (by omega)
          clear HEL HNS HMK HU HU2 hsame HV
          go_wp2_with fail
          go_ret
          exact ⟨rfl, HB.out⟩
        · have dz : decide (0 < NS) = true := decide_eq_true (by omega)
          have hmk := HMK.out
          have hmk2 := HMK2.out
          have HBa := Lib.hid (HB.out.alloc HB.out.size (.cells (madeCells #[Value.int IntKind.u8 0] (s.size + NS)) 5))
          have hwG := HB.out.size
          have HBf : Hid (Buf w.heap.size wr.heap.size (s.size + NS) (madeCells #[Value.int IntKind.u8 0] (s.size + NS)).toList (wr.alloc (.cells (madeCells #[Value.int IntKind.u8 0] (s.size + NS)) 5))) := by
            refine ⟨by omega, ?_, ?_⟩
            · rw [Array.toArray_toList]; exact heap_alloc_new wr _
            · rw [Array.length_toList, size_madeCells]
          have HTT := Lib.hid (escL_total s)
          have hn2 := hNS2
          clear HB
          go_wp2_with fail
          generalize (madeCells #[Value.int IntKind.u8 0] (s.size + NS)) = mc at *
          obtain ⟨G, hG⟩ : ∃ g, wr.heap.size = g := ⟨_, rfl⟩
          rw [hG] at HBf
          simp only [hG]
          generalize wr.alloc (.cells mc 5) = w1 at *
          clear hmk hmk2 hG hwG
          go_loopw [13, 14] (fun x13 x14 wx => ∃ (i E : Nat) (xs : List Value), i ≤ s.size ∧ x14 = .int .i64 i ∧ x13 = .int .i64 (E : Int) ∧ Hid (E = (escL (s.data.toList.take i)).length) ∧ Hid (Buf w.heap.size G (s.size + NS) xs wx) ∧ Hid (xs.take E = Lib.byteCells (escL (s.data.toList.take i))) ∧ Hid (Below w.heap.size w wx)) (fun _ x14 _ => s.size - (match x14 with | .int _ q => q | _ => 0).toNat)
          case atStart => exact ⟨0, 0, _, Nat.zero_le _, rfl, rfl, by simp [Hid, escL], HBf, by simp [Hid, escL, Lib.byteCells], HBa⟩
          case round =>
            clear HBf HBa
            obtain ⟨i, E, xs, hi, rfl, rfl, HE, HF, HX, HB⟩ := hrel
            by_cases hlt : i < s.size
            · have hc8 := s[i].toNat_lt
              have HTw := Lib.hid (HT.out.below HB.out)
              have hlt' : (i : Int) < (s.size : Int) := by omega
              have hES := escL_take s i hlt
              have htot := HTT.out (i + 1) (by omega)
              have hell := HEL.out.1
              have hns := HNS.out
              have hxl := HF.out.2.2
              by_cases h39 : s[i].toNat = 39
              · obtain ⟨a, ac, t1, t2, t3⟩ := HTw.out.q
                have hx : (s[i].toNat : Int) = 39 := by omega
                rw [if_pos (by omega)] at hES
                have hE2 : E + 2 = (escL (s.data.toList.take (i + 1))).length := by rw [hES, List.length_append, ← HE.out]; rfl
                have hEn : E + 2 ≤ s.size + NS := by omega
                have hsi : s[i] = 39 := by rw [← UInt8.toNat_inj]; exact h39
                have HX2 : Hid ((splice xs E [.int .u8 92, .int .u8 39]).take (E + 2) = Lib.byteCells (escL (s.data.toList.take (i + 1)))) := by
                  show _ = _
                  rw [show E + 2 = E + [Value.int .u8 92, Value.int .u8 39].length from rfl, take_splice xs E [.int .u8 92, .int .u8 39] (by simp only [List.length_cons, List.length_nil]; omega), HX.out, hES, Lib.byteCells_append, hsi]
                  rfl
                have HE2 := Lib.hid hE2
                have HFS := Lib.hid hxl
                have hE0 : (0 : Int) ≤ (E : Int) := by omega
                have hEn1 : (E : Int) ≤ (s.size : Int) + (NS : Int) := by omega
                have hNE : ¬ s.size + NS = E := by omega
                have hw2 : IntKind.i64.wrap ((E : Int) + 2) = ((E + 2 : Nat) : Int) := by rw [IntWalk.i64_in _ (by omega)]; omega
                have HFD : Hid (Buf w.heap.size G (s.size + NS) xs wr.drew) := HF.out
                have HBD := Lib.hid (drewN' HB.out 1)
                clear HTw hES htot hell hns hxl hE2 hsi HE HX HTT HEL HNS HMK h39 hc8
                go_wp2_with fail
                skip
                refine wp_region_held_drew (S := (fun wz => wz.cell? ⟨T, 39, none⟩ = some (.slice (some ⟨a, 0, none⟩) 2 ac))) (by kernel_rfl) ?_ (fun hHeld => ?_)
                · exact t1
                refine wpAnyH_take (i := 0) (v := ?v27) Held.op0 (by kernel_rfl) (by kernel_rfl) (by kernel_rfl) (fun _ _ _ h => h) (Or.inl ⟨by rfl, ?hy27⟩) (by assumption) ?rest27
                case hy27 => (intro wq hSq; (try dsimp only at hSq); first | (go_simp; done) | (go_simp; with_reducible rfl))
                try simp only [Act.put, List.setIfInBounds_toArray, List.set_cons_zero, List.set_cons_succ]
                refine wpAnyH_take (i := 1) (v := ?v28) Held.op1 (by kernel_rfl) (by kernel_rfl) (by kernel_rfl) (fun _ _ _ h => h) (Or.inl ⟨by rfl, ?hy28⟩) (by assumption) ?rest28
                case hy28 => (intro wq hSq; (try dsimp only at hSq); first | (go_simp; done) | (go_simp; with_reducible rfl))
                try simp only [Act.put, List.setIfInBounds_toArray, List.set_cons_zero, List.set_cons_succ]
                refine wpAnyH_take (i := 2) (v := ?v29) Held.op2 (by kernel_rfl) (by kernel_rfl) (by kernel_rfl) (fun _ _ _ h => h) (Or.inl ⟨by rfl, ?hy29⟩) (by assumption) ?rest29
                case hy29 => (intro wq hSq; (try dsimp only at hSq); first | (go_simp; done) | (go_simp; with_reducible rfl))
                try simp only [Act.put, List.setIfInBounds_toArray, List.set_cons_zero, List.set_cons_succ]
                refine wpAnyH_take (i := 3) (v := ?v30) Held.op3 (by kernel_rfl) (by kernel_rfl) (by kernel_rfl) (fun _ _ _ h => h) (Or.inl ⟨by rfl, ?hy30⟩) (by assumption) ?rest30
                case hy30 => (intro wq hSq; (try dsimp only at hSq); first | (go_simp; done) | (go_simp; with_reducible rfl))
                try simp only [Act.put, List.setIfInBounds_toArray, List.set_cons_zero, List.set_cons_succ]
                refine wpAnyH_take (i := 4) (v := ?v31) Held.op4 (by kernel_rfl) (by kernel_rfl) (by kernel_rfl) (fun _ _ _ h => h) (Or.inl ⟨by rfl, ?hy31⟩) (by assumption) ?rest31
                case hy31 => (intro wq hSq; (try dsimp only at hSq); first | (go_simp; done) | (go_simp; with_reducible rfl))
                try simp only [Act.put, List.setIfInBounds_toArray, List.set_cons_zero, List.set_cons_succ]
                refine wpAnyH_take (i := 5) (v := ?v32) Held.op5 (by kernel_rfl) (by kernel_rfl) (by kernel_rfl) (fun _ _ _ h => h) (Or.inl ⟨by rfl, ?hy32⟩) (by assumption) ?rest32
                case hy32 => (intro wq hSq; (try dsimp only at hSq); first | (go_simp; done) | (go_simp; with_reducible rfl))
                try simp only [Act.put, List.setIfInBounds_toArray, List.set_cons_zero, List.set_cons_succ]
                refine wpAnyH_take (i := 6) (v := ?v33) Held.op6 (by kernel_rfl) (by kernel_rfl) (by kernel_rfl) (fun _ _ _ h => h) (Or.inl ⟨by rfl, ?hy33⟩) (by assumption) ?rest33
                case hy33 => (intro wq hSq; (try dsimp only at hSq); first | (go_simp; done) | (go_simp; with_reducible rfl))
                try simp only [Act.put, List.setIfInBounds_toArray, List.set_cons_zero, List.set_cons_succ]
                refine wpAnyH_take (i := 7) (v := ?v34) Held.op7 (by kernel_rfl) (by kernel_rfl) (by kernel_rfl) (fun _ _ _ h => h) (Or.inl ⟨by rfl, ?hy34⟩) (by assumption) ?rest34
                case hy34 => (intro wq hSq; (try dsimp only at hSq); first | (go_simp; done) | (go_simp; with_reducible rfl))
                try simp only [Act.put, List.setIfInBounds_toArray, List.set_cons_zero, List.set_cons_succ]
                refine wpAnyH_take (i := 8) (v := ?v35) Held.op8 (by kernel_rfl) (by kernel_rfl) (by kernel_rfl) (fun _ _ _ h => h) (Or.inl ⟨by rfl, ?hy35⟩) (by assumption) ?rest35
                case hy35 => (intro wq hSq; (try dsimp only at hSq); first | (go_simp; done) | (go_simp; with_reducible rfl))
                try simp only [Act.put, List.setIfInBounds_toArray, List.set_cons_zero, List.set_cons_succ]
                refine wpAnyH_take (i := 9) (v := ?v36) Held.op9 (by kernel_rfl) (by kernel_rfl) (by kernel_rfl) (fun _ _ _ h => h) (Or.inl ⟨by rfl, ?hy36⟩) (by assumption) ?rest36
                case hy36 => (intro wq hSq; (try dsimp only at hSq); first | (go_simp; done) | (go_simp; with_reducible rfl))
                try simp only [Act.put, List.setIfInBounds_toArray, List.set_cons_zero, List.set_cons_succ]
                refine wpAnyH_ready (rs := [10]) (by kernel_rfl) (by simp) ?_
                refine AllReadyH.cons Held.op10 (fun K hK => ?_) AllReadyH.nil
                refine step_copy_splice rfl _ _ 43 43 rfl 5 Tryz.underlying43 HU2.out _ _ _ _ _ _ rfl rfl G E xs 5 HFD.out.2.1 [.int .u8 92, .int .u8 39] (by simp only [List.length_cons, List.length_nil]; exact (Nat.min_eq_left (by omega)).symm) (fun _ => ⟨rfl, ⟨a, 0, none⟩, rfl, fun j v hj => by match j, hj with | 0, hj => (simp at hj; subst hj; exact t2) | 1, hj => (simp at hj; subst hj; exact t3)⟩) (by have := HFS.out; simp only [List.length_cons, List.length_nil]; omega) (by intro v hv; simp at hv; rcases hv with rfl | rfl <;> rfl) w.heap.size w HBD.out HFD.out.1 ?_; intro w2 hgx hbx; have HB2 := Lib.hid hbx; have HF2 : Hid (Buf w.heap.size G (s.size + NS) (splice xs E [.int .u8 92, .int .u8 39]) w2) := ⟨HFD.out.1, hgx.out, by rw [length_splice _ _ _ (by have := HFS.out; simp only [List.length_cons, List.length_nil]; omega)]; exact HFS.out⟩; have t4 := (hbx.cell (p := ⟨T, 39, none⟩) HTlt.out).trans (((HBD.out.cell (p := ⟨T, 39, none⟩) HTlt.out).symm).trans t1); clear hgx hbx
                refine hK.out _ _ ?_ (fun hHeld => ?_)
                · exact t4
                clear hK K
                try simp only [Act.put, List.setIfInBounds_toArray, List.set_cons_zero, List.set_cons_succ]
                refine wpAnyH_take (i := 11) (v := ?v38) Held.op11 (by kernel_rfl) (by kernel_rfl) (by kernel_rfl) (fun _ _ _ h => h) (Or.inl ⟨by rfl, ?hy38⟩) (by assumption) ?rest38
                case hy38 => (intro wq hSq; (try dsimp only at hSq); first | (go_simp; done) | (go_simp; with_reducible rfl))
                try simp only [Act.put, List.setIfInBounds_toArray, List.set_cons_zero, List.set_cons_succ]
                refine wpAnyH_take (i := 12) (v := ?v39) Held.op12 (by kernel_rfl) (by kernel_rfl) (by kernel_rfl) (fun _ _ _ h => h) (Or.inl ⟨by rfl, ?hy39⟩) (by assumption) ?rest39
                case hy39 => (intro wq hSq; (try dsimp only at hSq); first | (go_simp; done) | (go_simp; with_reducible rfl))
                try simp only [Act.put, List.setIfInBounds_toArray, List.set_cons_zero, List.set_cons_succ]
                refine wpAnyH_done (by kernel_rfl) ?_ _
                go_wp2_with fail
                go_roundw
                case rel => exact ⟨i + 1, E + 2, _, by omega, by go_num, by go_num, HE2, HF2, HX2, HB2⟩
                case measure => simp <;> omega
              · skip
                by_cases h92 : s[i].toNat = 92
                · obtain ⟨a, ac, t1, t2, t3⟩ := HTw.out.b
                  have hx : (s[i].toNat : Int) = 92 := by omega
                  rw [if_pos (by omega)] at hES
                  have hE2 : E + 2 = (escL (s.data.toList.take (i + 1))).length := by rw [hES, List.length_append, ← HE.out]; rfl
                  have hEn : E + 2 ≤ s.size + NS := by omega
                  have hsi : s[i] = 92 := by rw [← UInt8.toNat_inj]; exact h92
                  have HX2 : Hid ((splice xs E [.int .u8 92, .int .u8 92]).take (E + 2) = Lib.byteCells (escL (s.data.toList.take (i + 1)))) := by
                    show _ = _
                    rw [show E + 2 = E + [Value.int .u8 92, Value.int .u8 92].length from rfl, take_splice xs E [.int .u8 92, .int .u8 92] (by simp only [List.length_cons, List.length_nil]; omega), HX.out, hES, Lib.byteCells_append, hsi]
                    rfl
                  have HE2 := Lib.hid hE2
                  have HFS := Lib.hid hxl
                  have hE0 : (0 : Int) ≤ (E : Int) := by omega
                  have hEn1 : (E : Int) ≤ (s.size : Int) + (NS : Int) := by omega
                  have hNE : ¬ s.size + NS = E := by omega
                  have hw2 : IntKind.i64.wrap ((E : Int) + 2) = ((E + 2 : Nat) : Int) := by rw [IntWalk.i64_in _ (by omega)]; omega
                  have HFD : Hid (Buf w.heap.size G (s.size + NS) xs wr.drew) := HF.out
                  have HBD := Lib.hid (drewN' HB.out 1)
                  clear HTw hES htot hell hns hxl hE2 hsi HE HX HTT HEL HNS HMK h39 h92 hc8
                  go_wp2_with fail
                  skip
                  refine wp_region_held_drew (S := (fun wz => wz.cell? ⟨T, 92, none⟩ = some (.slice (some ⟨a, 0, none⟩) 2 ac))) (by kernel_rfl) ?_ (fun hHeld => ?_)
                  · exact t1
                  refine wpAnyH_take (i := 0) (v := ?v40) Held.op0 (by kernel_rfl) (by kernel_rfl) (by kernel_rfl) (fun _ _ _ h => h) (Or.inl ⟨by rfl, ?hy40⟩) (by assumption) ?rest40
                  case hy40 => (intro wq hSq; (try dsimp only at hSq); first | (go_simp; done) | (go_simp; with_reducible rfl))
                  try simp only [Act.put, List.setIfInBounds_toArray, List.set_cons_zero, List.set_cons_succ]
                  refine wpAnyH_take (i := 1) (v := ?v41) Held.op1 (by kernel_rfl) (by kernel_rfl) (by kernel_rfl) (fun _ _ _ h => h) (Or.inl ⟨by rfl, ?hy41⟩) (by assumption) ?rest41
                  case hy41 => (intro wq hSq; (try dsimp only at hSq); first | (go_simp; done) | (go_simp; with_reducible rfl))
                  try simp only [Act.put, List.setIfInBounds_toArray, List.set_cons_zero, List.set_cons_succ]
                  refine wpAnyH_take (i := 2) (v := ?v42) Held.op2 (by kernel_rfl) (by kernel_rfl) (by kernel_rfl) (fun _ _ _ h => h) (Or.inl ⟨by rfl, ?hy42⟩) (by assumption) ?rest42
                  case hy42 => (intro wq hSq; (try dsimp only at hSq); first | (go_simp; done) | (go_simp; with_reducible rfl))
                  try simp only [Act.put, List.setIfInBounds_toArray, List.set_cons_zero, List.set_cons_succ]
                  refine wpAnyH_take (i := 3) (v := ?v43) Held.op3 (by kernel_rfl) (by kernel_rfl) (by kernel_rfl) (fun _ _ _ h => h) (Or.inl ⟨by rfl, ?hy43⟩) (by assumption) ?rest43
                  case hy43 => (intro wq hSq; (try dsimp only at hSq); first | (go_simp; done) | (go_simp; with_reducible rfl))
                  try simp only [Act.put, List.setIfInBounds_toArray, List.set_cons_zero, List.set_cons_succ]
                  refine wpAnyH_take (i := 4) (v := ?v44) Held.op4 (by kernel_rfl) (by kernel_rfl) (by kernel_rfl) (fun _ _ _ h => h) (Or.inl ⟨by rfl, ?hy44⟩) (by assumption) ?rest44
                  case hy44 => (intro wq hSq; (try dsimp only at hSq); first | (go_simp; done) | (go_simp; with_reducible rfl))
                  try simp only [Act.put, List.setIfInBounds_toArray, List.set_cons_zero, List.set_cons_succ]
                  refine wpAnyH_take (i := 5) (v := ?v45) Held.op5 (by kernel_rfl) (by kernel_rfl) (by kernel_rfl) (fun _ _ _ h => h) (Or.inl ⟨by rfl, ?hy45⟩) (by assumption) ?rest45
                  case hy45 => (intro wq hSq; (try dsimp only at hSq); first | (go_simp; done) | (go_simp; with_reducible rfl))
                  try simp only [Act.put, List.setIfInBounds_toArray, List.set_cons_zero, List.set_cons_succ]
                  refine wpAnyH_take (i := 6) (v := ?v46) Held.op6 (by kernel_rfl) (by kernel_rfl) (by kernel_rfl) (fun _ _ _ h => h) (Or.inl ⟨by rfl, ?hy46⟩) (by assumption) ?rest46
                  case hy46 => (intro wq hSq; (try dsimp only at hSq); first | (go_simp; done) | (go_simp; with_reducible rfl))
                  try simp only [Act.put, List.setIfInBounds_toArray, List.set_cons_zero, List.set_cons_succ]
                  refine wpAnyH_take (i := 7) (v := ?v47) Held.op7 (by kernel_rfl) (by kernel_rfl) (by kernel_rfl) (fun _ _ _ h => h) (Or.inl ⟨by rfl, ?hy47⟩) (by assumption) ?rest47
                  case hy47 => (intro wq hSq; (try dsimp only at hSq); first | (go_simp; done) | (go_simp; with_reducible rfl))
                  try simp only [Act.put, List.setIfInBounds_toArray, List.set_cons_zero, List.set_cons_succ]
                  refine wpAnyH_take (i := 8) (v := ?v48) Held.op8 (by kernel_rfl) (by kernel_rfl) (by kernel_rfl) (fun _ _ _ h => h) (Or.inl ⟨by rfl, ?hy48⟩) (by assumption) ?rest48
                  case hy48 => (intro wq hSq; (try dsimp only at hSq); first | (go_simp; done) | (go_simp; with_reducible rfl))
                  try simp only [Act.put, List.setIfInBounds_toArray, List.set_cons_zero, List.set_cons_succ]
                  refine wpAnyH_take (i := 9) (v := ?v49) Held.op9 (by kernel_rfl) (by kernel_rfl) (by kernel_rfl) (fun _ _ _ h => h) (Or.inl ⟨by rfl, ?hy49⟩) (by assumption) ?rest49
                  case hy49 => (intro wq hSq; (try dsimp only at hSq); first | (go_simp; done) | (go_simp; with_reducible rfl))
                  try simp only [Act.put, List.setIfInBounds_toArray, List.set_cons_zero, List.set_cons_succ]
                  refine wpAnyH_ready (rs := [10]) (by kernel_rfl) (by simp) ?_
                  refine AllReadyH.cons Held.op10 (fun K hK => ?_) AllReadyH.nil
                  refine step_copy_splice rfl _ _ 43 43 rfl 5 Tryz.underlying43 HU2.out _ _ _ _ _ _ rfl rfl G E xs 5 HFD.out.2.1 [.int .u8 92, .int .u8 92] (by simp only [List.length_cons, List.length_nil]; exact (Nat.min_eq_left (by omega)).symm) (fun _ => ⟨rfl, ⟨a, 0, none⟩, rfl, fun j v hj => by match j, hj with | 0, hj => (simp at hj; subst hj; exact t2) | 1, hj => (simp at hj; subst hj; exact t3)⟩) (by have := HFS.out; simp only [List.length_cons, List.length_nil]; omega) (by intro v hv; simp at hv; rcases hv with rfl | rfl <;> rfl) w.heap.size w HBD.out HFD.out.1 ?_; intro w2 hgx hbx; have HB2 := Lib.hid hbx; have HF2 : Hid (Buf w.heap.size G (s.size + NS) (splice xs E [.int .u8 92, .int .u8 92]) w2) := ⟨HFD.out.1, hgx.out, by rw [length_splice _ _ _ (by have := HFS.out; simp only [List.length_cons, List.length_nil]; omega)]; exact HFS.out⟩; have t4 := (hbx.cell (p := ⟨T, 92, none⟩) HTlt.out).trans (((HBD.out.cell (p := ⟨T, 92, none⟩) HTlt.out).symm).trans t1); clear hgx hbx
                  refine hK.out _ _ ?_ (fun hHeld => ?_)
                  · exact t4
                  clear hK K
                  try simp only [Act.put, List.setIfInBounds_toArray, List.set_cons_zero, List.set_cons_succ]
                  refine wpAnyH_take (i := 11) (v := ?v51) Held.op11 (by kernel_rfl) (by kernel_rfl) (by kernel_rfl) (fun _ _ _ h => h) (Or.inl ⟨by rfl, ?hy51⟩) (by assumption) ?rest51
                  case hy51 => (intro wq hSq; (try dsimp only at hSq); first | (go_simp; done) | (go_simp; with_reducible rfl))
                  try simp only [Act.put, List.setIfInBounds_toArray, List.set_cons_zero, List.set_cons_succ]
                  refine wpAnyH_take (i := 12) (v := ?v52) Held.op12 (by kernel_rfl) (by kernel_rfl) (by kernel_rfl) (fun _ _ _ h => h) (Or.inl ⟨by rfl, ?hy52⟩) (by assumption) ?rest52
                  case hy52 => (intro wq hSq; (try dsimp only at hSq); first | (go_simp; done) | (go_simp; with_reducible rfl))
                  try simp only [Act.put, List.setIfInBounds_toArray, List.set_cons_zero, List.set_cons_succ]
                  refine wpAnyH_done (by kernel_rfl) ?_ _
                  go_wp2_with fail
                  go_roundw
                  case rel => exact ⟨i + 1, E + 2, _, by omega, by go_num, by go_num, HE2, HF2, HX2, HB2⟩
                  case measure => simp <;> omega
                · have t1 := HTw.out.nil s[i].toNat (by omega) h39 h92
                  have hx0 : (0 : Int) ≤ (s[i].toNat : Int) := by omega
                  have hx1 : (s[i].toNat : Int) < 256 := by omega
                  rw [if_neg (by omega)] at hES
                  have hE2 : E + 1 = (escL (s.data.toList.take (i + 1))).length := by rw [hES, List.length_append, ← HE.out]; rfl
                  have hEn : E + 1 ≤ s.size + NS := by omega
                  have HX2 : Hid ((xs.set E (.int .u8 (s[i].toNat : Int))).take (E + 1) = Lib.byteCells (escL (s.data.toList.take (i + 1)))) := by
                    show _ = _
                    rw [take_set xs E _ (by omega), HX.out, hES, Lib.byteCells_append]
                    rfl
                  have HE2 := Lib.hid hE2
                  have hE0 : (0 : Int) ≤ (E : Int) := by omega
                  have hEn1 : (E : Int) < (s.size : Int) + (NS : Int) := by omega
                  obtain ⟨u, hu⟩ := HF.out.cell E (by omega)
                  have hfz := HF.out.frozen E
                  have HF2 := Lib.hid (HF.out.store E (.int .u8 (s[i].toNat : Int)))
                  have HB2 := Lib.hid (HB.out.setCell (p := ⟨G, E, none⟩) HF.out.1 (.int .u8 (s[i].toNat : Int)))
                  clear HTw hES htot hell hns hxl hE2 HE HX HTT HEL HNS HMK h39 h92 hc8
                  go_wp2_with fail
                  skip
                  go_roundw
                  case rel => exact ⟨i + 1, E + 1, _, by omega, by go_num, by go_num, HE2, HF2, HX2, HB2⟩
                  case measure => simp <;> omega
            · have hii : i = s.size := by omega
              have hEn : E = s.size + NS := by rw [HE.out, hii, HEL.out.2.2.1]; have h1 := HEL.out.1; have h2 := HNS.out; omega
              have hxx : xs = Lib.byteCells (escL s.data.toList) := by
                have := HX.out
                rw [hii, HEL.out.2.2.1, List.take_of_length_le (by rw [HF.out.2.2]; omega)] at this
                exact this
              have hconv := back_bytes wr _ _ _ _ (escL s.data.toList) HF.out hxx (by have h1 := HEL.out.1; have h2 := HNS.out; omega)
              rw [HV.out] at hconv
              clear hii hEn hxx HE HX HTT HEL HNS HMK HF HV
              go_wp2_with fail
              go_ret
              exact ⟨rfl, HB.out⟩

end Sw
end Go.Proofs.YthdnflklhhfojaaGreatDoor
