/- url: how a text is encoded and decoded, and that it comes back: plain lists of bytes, no program. -/
import Derived.Lib.Hide
import Derived.Test.YtgpemnmopogppaaGreatDoorZShM
import Derived.Test.YtgpemnmopogppaaGreatDoorZWordsQ
import Derived.WalkKit
import Derived.BigQuiet
import Derived.Lib.FrozenHead2
import Derived.Lib.OthersKept
import Derived.Shelf.Strings.BuilderK
namespace Go.Proofs.YtgpemnmopogppaaGreatDoor
namespace Url
/-- What stands for itself. -/
def plain (c : UInt8) : Bool := (97 ≤ c && c ≤ 122) || (65 ≤ c && c ≤ 90) || (48 ≤ c && c ≤ 57) || c == 45 || c == 95 || c == 46
def digit (n : Nat) : UInt8 := if n < 10 then UInt8.ofNat (48 + n) else UInt8.ofNat (55 + n)
def encC (c : UInt8) : List UInt8 := if plain c then [c] else if c == 32 then [43] else [37, digit (c.toNat / 16), digit (c.toNat % 16)]
def encL : List UInt8 → List UInt8
  | [] => []
  | c :: l => encC c ++ encL l
/-- A hexadecimal digit's number. -/
def hexV (c : UInt8) : Option Nat := if 48 ≤ c && c ≤ 57 then some (c.toNat - 48) else if 97 ≤ c && c ≤ 102 then some (c.toNat - 87) else if 65 ≤ c && c ≤ 70 then some (c.toNat - 55) else none
def hex2 : List UInt8 → Option Nat
  | a :: b :: _ => match hexV a, hexV b with
    | some h, some l => some (16 * h + l)
    | _, _ => none
  | _ => none
def decL : Nat → List UInt8 → List UInt8
  | 0, _ => []
  | _, [] => []
  | n + 1, c :: l => if c == 43 then 32 :: decL n l else if c == 37 then match hex2 l with
      | some v => UInt8.ofNat v :: decL n (l.drop 2)
      | none => c :: decL n l
    else c :: decL n l
theorem hexV_digit : ∀ n : Fin 16, hexV (digit n.val) = some n.val := by decide
theorem digit_hex (n : Nat) (h : n < 16) : hexV (digit n) = some n := hexV_digit ⟨n, h⟩
theorem plain_not : ∀ c : Fin 256, plain (UInt8.ofNat c.val) = true → (UInt8.ofNat c.val == 43) = false ∧ (UInt8.ofNat c.val == 37) = false := by decide +kernel
theorem plain_no (c : UInt8) (h : plain c = true) : (c == 43) = false ∧ (c == 37) = false := by
  have := plain_not ⟨c.toNat, c.toNat_lt⟩
  simp only [UInt8.ofNat_toNat] at this
  exact this h
theorem encL_len (l : List UInt8) : (encL l).length ≤ 3 * l.length := by
  induction l with
  | nil => simp [encL]
  | cons c l ih =>
    simp only [encL, List.length_append, List.length_cons]
    have : (encC c).length ≤ 3 := by
      unfold encC
      by_cases h1 : plain c = true
      · simp [h1]
      · by_cases h2 : (c == 32) = true
        · simp [h1, h2]
        · simp [h1, h2]
    omega
/-- A text comes back. -/
theorem dec_enc : ∀ (l : List UInt8) (n : Nat), 3 * l.length ≤ n → decL n (encL l) = l := by
  intro l
  induction l with
  | nil => intro n _; cases n <;> rfl
  | cons c l ih =>
    intro n hn
    simp only [List.length_cons] at hn
    obtain ⟨n, rfl⟩ : ∃ k, n = k + 1 := ⟨n - 1, by omega⟩
    simp only [encL, encC]
    by_cases hp : plain c = true
    · obtain ⟨h1, h2⟩ := plain_no c hp
      rw [if_pos hp]
      simp only [List.cons_append, List.nil_append, decL, h1, h2, Bool.false_eq_true, if_false]
      rw [ih n (by omega)]
    · rw [if_neg hp]
      by_cases h32 : (c == 32) = true
      · rw [if_pos h32]
        have e : c = 32 := by simpa using h32
        subst e
        simp only [List.cons_append, List.nil_append, decL]
        rw [ih n (by omega)]
        rfl
      · rw [if_neg h32]
        have hc := c.toNat_lt
        have e1 := digit_hex (c.toNat / 16) (by omega)
        have e2 := digit_hex (c.toNat % 16) (by omega)
        simp only [List.cons_append, List.nil_append, decL, hex2, e1, e2, List.drop_succ_cons, List.drop_zero]
        rw [ih n (by omega)]
        have : 16 * (c.toNat / 16) + c.toNat % 16 = c.toNat := by omega
        rw [this]
        simp
end Url
end Go.Proofs.YtgpemnmopogppaaGreatDoor
/- url.hex; ostlerref09.hex: the walks. -/
namespace Go.Proofs.YtgpemnmopogppaaGreatDoor
open Go Go.RowKit
namespace Url
def plainI (x : Int) : Bool := (decide (97 ≤ x) && decide (x ≤ 122)) || (decide (65 ≤ x) && decide (x ≤ 90)) || (decide (48 ≤ x) && decide (x ≤ 57)) || x == 45 || x == 95 || x == 46
theorem plain_fin : ∀ c : Fin 256, plain (UInt8.ofNat c.val) = plainI (c.val : Int) := by decide +kernel
theorem plain_eq (c : UInt8) : plain c = plainI (c.toNat : Int) := by
  have := plain_fin ⟨c.toNat, c.toNat_lt⟩
  simp only [UInt8.ofNat_toNat] at this
  exact this
/-- A hexadecimal digit's number; -1. -/
def hx (c : UInt8) : Int := match hexV c with
  | some v => (v : Int)
  | none => -1
def hexI (x : Int) : Int := if 48 ≤ x ∧ x ≤ 57 then x - 48 else if 97 ≤ x ∧ x ≤ 102 then x - 87 else if 65 ≤ x ∧ x ≤ 70 then x - 55 else -1
theorem hx_fin : ∀ c : Fin 256, hx (UInt8.ofNat c.val) = hexI (c.val : Int) := by decide +kernel
theorem hx_eq (c : UInt8) : hx c = hexI (c.toNat : Int) := by
  have := hx_fin ⟨c.toNat, c.toNat_lt⟩
  simp only [UInt8.ofNat_toNat] at this
  exact this
def hexes : ByteArray := ⟨#[48, 49, 50, 51, 52, 53, 54, 55, 56, 57, 65, 66, 67, 68, 69, 70]⟩
theorem index_fin : ∀ c : Fin 256, Lib.indexByte hexes.data.toList (if 97 ≤ c.val ∧ c.val ≤ 102 then UInt8.ofNat (c.val - 32) else UInt8.ofNat c.val) = hexI (c.val : Int) := by decide +kernel
set_option maxRecDepth 100000 in
theorem hex_any (c : UInt8) (w : World) : Calls Tryz.prog 69 #[.int .u8 (c.toNat : Int)] w fun e w' => e = .returned (.int .i64 (hx c)) ∧ w = w' := by
  rw [hx_eq]
  have hc := c.toNat_lt
  have hi := index_fin ⟨c.toNat, hc⟩
  have HX := Lib.hid (fun (x : Int) (w : World) => Tryz.strings_IndexByte hexes x w)
  have hx0 : (0 : Int) ≤ (c.toNat : Int) := by omega
  have hx1 : (c.toNat : Int) < 256 := by omega
  simp only at hi
  by_cases h1 : 97 ≤ c.toNat ∧ c.toNat ≤ 102
  · rw [if_pos h1] at hi
    have e : UInt8.ofNat (c.toNat - 32) = ((c.toNat : Int) - 32).toNat.toUInt8 := by congr 1; omega
    rw [e] at hi
    obtain ⟨h97, h102⟩ : (97 : Int) ≤ (c.toNat : Int) ∧ (c.toNat : Int) ≤ 102 := by omega
    have HI := Lib.hid hi
    clear hi e h1
    generalize (c.toNat : Int) = x at *
    go_enter Tryz.func69, Tryz.ntmps69
    go_wp2_with (go_at_call 116; refine (HX.out _ _).mono ?_; rintro e w1 ⟨rfl, rfl⟩)
    go_ret
    exact ⟨by rw [← HI.out]; rfl, rfl⟩
  · rw [if_neg h1] at hi
    have e : UInt8.ofNat c.toNat = (c.toNat : Int).toNat.toUInt8 := by congr 1
    rw [e] at hi
    have HI := Lib.hid hi
    by_cases h2 : 97 ≤ c.toNat
    · have h97 : (97 : Int) ≤ (c.toNat : Int) := by omega
      have h102 : ¬ (c.toNat : Int) ≤ 102 := by omega
      clear hi e h1 h2
      generalize (c.toNat : Int) = x at *
      go_enter Tryz.func69, Tryz.ntmps69
      go_wp2_with (go_at_call 116; refine (HX.out _ _).mono ?_; rintro e w1 ⟨rfl, rfl⟩)
      go_ret
      exact ⟨by rw [← HI.out]; rfl, rfl⟩
    · have h97 : ¬ (97 : Int) ≤ (c.toNat : Int) := by omega
      clear hi e h1 h2
      generalize (c.toNat : Int) = x at *
      go_enter Tryz.func69, Tryz.ntmps69
      go_wp2_with (go_at_call 116; refine (HX.out _ _).mono ?_; rintro e w1 ⟨rfl, rfl⟩)
      go_ret
      exact ⟨by rw [← HI.out]; rfl, rfl⟩
/-- .. of the byte of a text at a place; -1. -/
def hxAt (s : ByteArray) (i : Nat) : Int := if h : i < s.size then hx s[i] else -1
end Url
end Go.Proofs.YtgpemnmopogppaaGreatDoor
/- strings.Builder: copyCheck, WriteByte, WriteString, String: the walks, over the library's words on builders. -/
namespace Go.Proofs.YtgpemnmopogppaaGreatDoor
open Go Go.RowKit
namespace Bd
abbrev ext := Tryz.Builder_Extra_169
theorem size : ∃ j, Tryz.prog.info? 73 = some j ∧ j.size = 2 := by
  obtain ⟨j, hj, h⟩ := Option.map_eq_some_iff.1 ext.toX72.sizeBuilder
  exact ⟨j, hj, h⟩
set_option maxHeartbeats 1000000 in
set_option maxRecDepth 100000 in
theorem check_used (b : Nat) (w : World) (h0 : w.cell? ⟨b, 0, none⟩ = some (.pointer (some ⟨b, 0, none⟩))) :
    Calls Tryz.prog 80 #[.pointer (some ⟨b, 0, none⟩)] w fun e w' => e = .returned (.tuple #[]) ∧ w' = w := by
  obtain ⟨j, hj, _⟩ := size
  go_enter Tryz.func80, Tryz.ntmps80
  go_wp2
  rw [Lib.run_neq_ptr_same w _ Tryz.underlying70 hj]
  go_wp2
  go_end0
  exact ⟨rfl, rfl⟩
set_option maxHeartbeats 1000000 in
set_option maxRecDepth 100000 in
theorem check_fresh (b : Nat) (w : World) (h0 : w.cell? ⟨b, 0, none⟩ = some (.pointer none)) (hsh : w.shape? b = some (73, 2)) (hfz : w.frozen? ⟨b, 0, none⟩ = false) :
    Calls Tryz.prog 80 #[.pointer (some ⟨b, 0, none⟩)] w fun e w' => e = .returned (.tuple #[]) ∧ w' = w.setCell ⟨b, 0, none⟩ (.pointer (some ⟨b, 0, none⟩)) := by
  obtain ⟨j, hj, hjs⟩ := size
  go_enter Tryz.func80, Tryz.ntmps80
  go_wp2
  rw [Lib.run_to_unsafe w ⟨b, 0, none⟩ Tryz.underlying70 Tryz.underlying153 hj (by rw [hjs]; decide) hsh (Nat.zero_lt_succ 1)]
  simp only [Result.andThen]
  rw [Oper.upon_value]
  go_wp2
  rw [run_callFunc_extern Tryz.func121 (by kernel_rfl) (by kernel_rfl) (by kernel_rfl) (e := Extern.AbiNoEscape.same) (by kernel_rfl)]
  rw [Lib.run_noEscape]
  simp only [Result.andThen]
  rw [Oper.upon_value]
  go_wp2
  rw [Lib.run_from_unsafe w ⟨b, 0, none⟩ Tryz.underlying153 Tryz.underlying70 hj hsh ext.toX72.liesBuilder]
  simp only [Result.andThen]
  rw [Oper.upon_value]
  go_wp2
  go_end0
  exact ⟨rfl, rfl⟩
theorem check (B b : Nat) (bs : List Value) (w : World) (h : Lib.IsBuilderF 73 5 B b bs w) :
    Calls Tryz.prog 80 #[.pointer (some ⟨b, 0, none⟩)] w fun e w' => e = .returned (.tuple #[]) ∧ Lib.BuilderAtF 73 5 B b (.pointer (some ⟨b, 0, none⟩)) bs w' ∧ Below B w w' ∧ Lib.OthersKept 5 (some b) w w' := by
  rcases h with h | h
  · refine (check_fresh b w h.cell0 h.shape h.frozen0).mono ?_
    rintro e w' ⟨rfl, rfl⟩
    exact ⟨rfl, h.used _, (Below.refl B w).setCell (p := ⟨b, 0, none⟩) h.1 _, (Lib.OthersKept.refl _ _ w).setCell ⟨b, 0, none⟩ rfl _⟩
  · refine (check_used b w h.cell0).mono ?_
    rintro e w' ⟨rfl, rfl⟩
    exact ⟨rfl, h, Below.refl B _, Lib.OthersKept.refl _ _ _⟩
theorem u8_parts : ∃ i : TypeInfo, Tryz.prog.info? 5 = some i ∧ i.zero = some (.int .u8 0) ∧ i.size = 1 ∧ i.bytes = 1 := info_parts ext.infoByte
set_option maxHeartbeats 2000000 in
set_option maxRecDepth 100000 in
/-- One byte more. -/
theorem byte (B b : Nat) (bs : List Value) (c : Int) (w : World) (h : Lib.IsBuilderF 73 5 B b bs w) (hlen : bs.length + 1 ≤ 140737488355328) (hBw : B ≤ w.heap.size) :
    Calls Tryz.prog 40 #[.pointer (some ⟨b, 0, none⟩), .int .u8 c] w fun e w' => e = .returned .nilIface ∧ Lib.IsBuilderF 73 5 B b (bs ++ [.int .u8 c]) w' ∧ Below B w w' ∧ Lib.OthersKept 5 (some b) w w' := by
  obtain ⟨i0, hi, hz0, hz1, hz2⟩ := u8_parts
  have HC := Lib.hid (check B b bs w h)
  go_enter Tryz.func40, Tryz.ntmps40
  go_wp2_with (go_at_call 80; refine HC.out.mono ?_)
  rintro e w1 ⟨rfl, h1, hb1, hk1⟩
  obtain ⟨hB, v, hbk, hown, hne⟩ := h1
  have c0 : w1.cell? ⟨b, 0, none⟩ = some (.pointer (some ⟨b, 0, none⟩)) := by rw [Lib.cell_of_heap hbk]; rfl
  have c1 : w1.cell? ⟨b, 1, none⟩ = some v := by rw [Lib.cell_of_heap hbk]; rfl
  have hsz := hb1.size
  clear HC h
  go_wp2_with (at_builtin; refine wpList_append_ownF _ rfl _ _ 71 rfl B 5 i0 (.int .u8 0) 1 1 Tryz.underlying71 hi hz0 hz1 hz2 rfl (by decide) _ _ _ rfl (hown.alloc _) ⟨w1.heap.size, 0, none⟩ 1 1 [.int .u8 c] rfl rfl ?c1 ?c2 ?c3 ?c4 ?c5 ?_)
  case c1 =>
    intro j u hj
    match j, hj with
    | 0, hj => simp at hj; subst hj; simp [Addr.add]
  case c2 => intro u hu; simp at hu; subst hu; rfl
  case c3 => unfold maxLen; omega
  case c4 => omega
  case c5 => simp; omega
  intro v' w2 hown' hgrow _
  have hlt : b < w1.heap.size := by
    rcases Nat.lt_or_ge b w1.heap.size with h' | h'
    · exact h'
    · simp [Array.getElem?_eq_none h'] at hbk
  have hb2 : w2.heap[b]? = some (.cells #[.pointer (some ⟨b, 0, none⟩), v] 73 (0, 0)) := by
    rw [hgrow.block b (by simp; omega) (fun e => hne e.symm), Lib.alloc_old w1 _ b hlt]
    exact hbk
  have d0 : w2.cell? ⟨b, 0, none⟩ = some (.pointer (some ⟨b, 0, none⟩)) := by rw [Lib.cell_of_heap hb2]; rfl
  have d1 : w2.cell? ⟨b, 1, none⟩ = some v := by rw [Lib.cell_of_heap hb2]; rfl
  have f1 : w2.frozen? ⟨b, 1, none⟩ = false := Lib.frozen_of_heap hb2 1
  obtain ⟨g, cap, rfl⟩ : ∃ g cap, v' = .slice (some ⟨g, 0, none⟩) (bs.length + 1) cap := by
    rcases hown'.2 with ⟨_, h0⟩ | ⟨g, cap, cur, fz, hv, _⟩
    · omega
    · exact ⟨g, cap, hv⟩
  go_wp2
  go_ret
  refine ⟨rfl, .inr ?_, ?_, ((hk1.alloc _).grown hgrow (Lib.ownsRowF_kind (hown.alloc _))).setCell ⟨b, 1, none⟩ rfl _⟩
  · exact Lib.BuilderAtF.put (T := 73) (e := 5) hB hb2 (bs' := bs ++ [.int .u8 c]) (by simpa using hown') ext.neB5
  · exact ((hb1.alloc (by omega) _).grown hgrow (by simp; omega) (fun k hk => (hown.lt k hk).1)).setCell (p := ⟨b, 1, none⟩) hB _
set_option maxHeartbeats 2000000 in
set_option maxRecDepth 100000 in
/-- A text more. -/
theorem text (B b : Nat) (bs : List Value) (s : ByteArray) (w : World) (h : Lib.IsBuilderF 73 5 B b bs w) (hlen : bs.length + s.size ≤ 140737488355328) (hBw : B ≤ w.heap.size) :
    Calls Tryz.prog 41 #[.pointer (some ⟨b, 0, none⟩), .string s] w fun e w' => e = .returned (.tuple #[.int .i64 s.size, .nilIface]) ∧ Lib.IsBuilderF 73 5 B b (bs ++ Lib.strCells s) w' ∧ Below B w w' ∧ Lib.OthersKept 5 (some b) w w' := by
  obtain ⟨i0, hi, hz0, hz1, hz2⟩ := u8_parts
  have HC := Lib.hid (check B b bs w h)
  go_enter Tryz.func41, Tryz.ntmps41
  go_wp2_with (go_at_call 80; refine HC.out.mono ?_)
  rintro e w1 ⟨rfl, h1, hb1, hk1⟩
  obtain ⟨hB, v, hbk, hown, hne⟩ := h1
  have c0 : w1.cell? ⟨b, 0, none⟩ = some (.pointer (some ⟨b, 0, none⟩)) := by rw [Lib.cell_of_heap hbk]; rfl
  have c1 : w1.cell? ⟨b, 1, none⟩ = some v := by rw [Lib.cell_of_heap hbk]; rfl
  have hsz := hb1.size
  clear HC h
  go_wp2_with (at_builtin; refine Lib.wpList_append_own_stringF _ rfl _ _ 71 9 rfl B 5 i0 Tryz.underlying71 Tryz.underlying9 hi hz0 hz1 hz2 _ _ _ rfl hown s rfl ?c3 ?c4 ?c5 ?_)
  case c3 => unfold maxLen; omega
  case c4 => omega
  case c5 => omega
  intro v' w2 hown' hgrow _
  have hlt : b < w1.heap.size := by
    rcases Nat.lt_or_ge b w1.heap.size with h' | h'
    · exact h'
    · simp [Array.getElem?_eq_none h'] at hbk
  have hb2 : w2.heap[b]? = some (.cells #[.pointer (some ⟨b, 0, none⟩), v] 73 (0, 0)) := by
    rw [hgrow.block b hlt (fun e => hne e.symm)]
    exact hbk
  have d0 : w2.cell? ⟨b, 0, none⟩ = some (.pointer (some ⟨b, 0, none⟩)) := by rw [Lib.cell_of_heap hb2]; rfl
  have d1 : w2.cell? ⟨b, 1, none⟩ = some v := by rw [Lib.cell_of_heap hb2]; rfl
  have f1 : w2.frozen? ⟨b, 1, none⟩ = false := Lib.frozen_of_heap hb2 1
  obtain ⟨ao, n', cap, rfl⟩ : ∃ ao n' cap, v' = .slice ao n' cap := by
    rcases hown'.2 with ⟨hv, _⟩ | ⟨g, cap, cur, fz, hv, _⟩
    · exact ⟨_, _, _, hv⟩
    · exact ⟨_, _, _, hv⟩
  go_wp2
  go_ret2
  refine ⟨rfl, .inr ?_, ?_, (hk1.grown hgrow (Lib.ownsRowF_kind hown)).setCell ⟨b, 1, none⟩ rfl _⟩
  · exact Lib.BuilderAtF.put (T := 73) (e := 5) hB hb2 (bs' := bs ++ Lib.strCells s) (by simpa [Lib.strCells_length] using hown') ext.neB5
  · exact (hb1.grown hgrow (by omega) (fun k hk => (hown.lt k hk).1)).setCell (p := ⟨b, 1, none⟩) hB _
end Bd
end Go.Proofs.YtgpemnmopogppaaGreatDoor
