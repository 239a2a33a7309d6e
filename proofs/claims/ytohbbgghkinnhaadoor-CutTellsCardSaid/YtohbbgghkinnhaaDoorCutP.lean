/- The walks of the reference: php, Long, Ends. -/
import Derived.Test.YtohbbgghkinnhaaDoorCutJ
import Derived.Laws.IdiomStrings
import Derived.Deep.QuietTactic
import Derived.BigQuiet
namespace Go.Proofs.YtohbbgghkinnhaaDoor
open Go.RowKit

/-! ### php -/
/-- How many bytes the tag <?php has at l's head; 0: it is none. -/
def phpN (l : Bytes) : Nat :=
  if Lib.hasPrefix l [60, 63] && decide (5 ≤ l.length) && phpB ((l.drop 2).take 3) then
    match l.drop 5 with
    | [] => 5
    | c :: r => if Lib.hasPrefix (c :: r) [13, 10] then 7 else if blankB c then 6 else 0
  else 0
theorem tagN_php (l : Bytes) (h : Lib.hasPrefix l [60, 63, 61] = false) : tagN l = if phpN l = 0 then (0, 0) else (2, phpN l) := by
  unfold tagN phpN
  rw [if_neg (by rw [h]; decide)]
  by_cases hc : (Lib.hasPrefix l [60, 63] && decide (5 ≤ l.length) && phpB ((l.drop 2).take 3)) = true
  · rw [if_pos hc, if_pos hc]
    cases l.drop 5 with
    | nil => rfl
    | cons c r =>
      simp only
      by_cases h1 : Lib.hasPrefix (c :: r) [13, 10] = true
      · rw [if_pos h1, if_pos h1]; rfl
      · rw [if_neg h1, if_neg h1]
        by_cases h2 : blankB c = true
        · rw [if_pos h2, if_pos h2]; rfl
        · rw [if_neg h2, if_neg h2]; rfl
  · rw [if_neg hc, if_neg hc]; rfl

def BlkF (w : World) (g : Nat) (t : TypeId) (cs : Array Value) : Prop := w.heap[g]? = some (.cells cs t (cs.size, cs.size + 1))
theorem BlkF.cell {w : World} {g : Nat} {t : TypeId} {cs : Array Value} (h : BlkF w g t cs) (i : Nat) : w.cell? ⟨g, i, none⟩ = cs[i]? := cell_of_row w g i cs t _ h
theorem BlkF.frozen {w : World} {g : Nat} {t : TypeId} {cs : Array Value} (h : BlkF w g t cs) (i : Nat) (hi : i < cs.size) : w.frozen? ⟨g, i, none⟩ = false := by
  unfold BlkF at h
  simp [World.frozen?, h]
  omega
theorem BlkF.set_ {w : World} {g : Nat} {t : TypeId} {cs : Array Value} (h : BlkF w g t cs) (i : Nat) (u : Value) : BlkF (w.setCell ⟨g, i, none⟩ u) g t (cs.setIfInBounds i u) := by
  unfold BlkF at h ⊢
  simp [World.setCell, Array.getElem?_modify, h]

/-- The three bytes in memory. -/
def Php3 (w0 w : World) (b0 b1 b2 : UInt8) : Prop := ∃ cs, BlkF w w0.heap.size 5 cs ∧ 3 ≤ cs.size ∧ cs[0]? = some (.int .u8 (b0.toNat : Int)) ∧ cs[1]? = some (.int .u8 (b1.toNat : Int)) ∧ cs[2]? = some (.int .u8 (b2.toNat : Int)) ∧ Below w0.heap.size w0 w
section
variable {w0 w : World} {b0 b1 b2 : UInt8}
theorem Php3.cells (h : Php3 w0 w b0 b1 b2) : w.cell? ⟨w0.heap.size, 0, none⟩ = some (.int .u8 (b0.toNat : Int)) ∧ w.cell? ⟨w0.heap.size, 1, none⟩ = some (.int .u8 (b1.toNat : Int)) ∧ w.cell? ⟨w0.heap.size, 2, none⟩ = some (.int .u8 (b2.toNat : Int)) ∧
    w.frozen? ⟨w0.heap.size, 0, none⟩ = false ∧ w.frozen? ⟨w0.heap.size, 1, none⟩ = false ∧ w.frozen? ⟨w0.heap.size, 2, none⟩ = false := by
  obtain ⟨cs, hb, hn, h0, h1, h2, _⟩ := h
  exact ⟨(hb.cell 0).trans h0, (hb.cell 1).trans h1, (hb.cell 2).trans h2, hb.frozen 0 (by omega), hb.frozen 1 (by omega), hb.frozen 2 (by omega)⟩
theorem Php3.set0 (h : Php3 w0 w b0 b1 b2) (b : UInt8) : Php3 w0 (w.setCell ⟨w0.heap.size, 0, none⟩ (.int .u8 (b.toNat : Int))) b b1 b2 := by
  obtain ⟨cs, hb, hn, h0, h1, h2, hl⟩ := h
  exact ⟨_, hb.set_ 0 _, by simpa using hn, by simp [show 0 < cs.size by omega], by simpa using h1, by simpa using h2, hl.setCell (p := ⟨w0.heap.size, 0, none⟩) (Nat.le_refl _) _⟩
theorem Php3.set1 (h : Php3 w0 w b0 b1 b2) (b : UInt8) : Php3 w0 (w.setCell ⟨w0.heap.size, 1, none⟩ (.int .u8 (b.toNat : Int))) b0 b b2 := by
  obtain ⟨cs, hb, hn, h0, h1, h2, hl⟩ := h
  exact ⟨_, hb.set_ 1 _, by simpa using hn, by simpa using h0, by simp [show 1 < cs.size by omega], by simpa using h2, hl.setCell (p := ⟨w0.heap.size, 1, none⟩) (Nat.le_refl _) _⟩
theorem Php3.set2 (h : Php3 w0 w b0 b1 b2) (b : UInt8) : Php3 w0 (w.setCell ⟨w0.heap.size, 2, none⟩ (.int .u8 (b.toNat : Int))) b0 b1 b := by
  obtain ⟨cs, hb, hn, h0, h1, h2, hl⟩ := h
  exact ⟨_, hb.set_ 2 _, by simpa using hn, by simpa using h0, by simpa using h1, by simp [show 2 < cs.size by omega], hl.setCell (p := ⟨w0.heap.size, 2, none⟩) (Nat.le_refl _) _⟩
end
theorem low_up (c : UInt8) (h : 65 ≤ c.toNat) (h' : c.toNat ≤ 90) : (lowB c).toNat = c.toNat + 32 := by
  have := lift8 (p := fun c => decide (65 ≤ c.toNat → c.toNat ≤ 90 → (lowB c).toNat = c.toNat + 32)) (by decide +kernel) c
  simp only [decide_eq_true_eq] at this
  exact this h h'
theorem low_same (c : UInt8) (h : c.toNat < 65 ∨ 90 < c.toNat) : lowB c = c := by
  have := lift8 (p := fun c => decide ((c.toNat < 65 ∨ 90 < c.toNat) → lowB c = c)) (by decide +kernel) c
  simp only [decide_eq_true_eq] at this
  exact this h
theorem php_start (w : World) (t : ByteArray) (h : t.size = 3) : Php3 w ((w.alloc (.cells (bytesRow t (grownCap w 3 0 5)) 5 ((bytesRow t (grownCap w 3 0 5)).size, (bytesRow t (grownCap w 3 0 5)).size + 1))).drew) t[0] t[1] t[2] := by
  have hcap := grownCap_ge w 3 0 5
  have hsz : (bytesRow t (grownCap w 3 0 5)).size = grownCap w 3 0 5 := by
    unfold bytesRow
    rw [Array.size_append, Array.size_map, Array.size_replicate]
    have : t.data.size = t.size := rfl
    omega
  have hc : ∀ k (hk : k < t.size), (bytesRow t (grownCap w 3 0 5))[k]? = some (.int .u8 (t[k].toNat : Int)) := by
    intro k hk
    unfold bytesRow
    rw [Array.getElem?_append_left (by rw [Array.size_map]; exact hk), Array.getElem?_map]
    have : t.data[k]? = some t[k] := by rw [Array.getElem?_eq_getElem hk]; rfl
    rw [this]; rfl
  refine ⟨bytesRow t (grownCap w 3 0 5), ?_, by omega, hc 0 (by omega), hc 1 (by omega), hc 2 (by omega), ?_⟩
  · unfold BlkF
    exact heap_alloc_new w _
  · exact ((Below.refl w.heap.size w).alloc (Nat.le_refl _) _).drew

theorem at_is (s : ByteArray) (hs : s.size ≤ 65536) (i : Nat) (hi : i ≤ 200000) (t : ByteArray) (ht : 0 < t.size) (ht2 : t.size ≤ 65536) (b : Bool) (h : Lib.hasPrefix (s.data.toList.drop i) t.data.toList = b) (w : World) :
    Calls Tryd.prog 22 #[.string s, .int .i64 (i : Int), .string t] w fun e w' => e = .returned (.bool b) ∧ w = w' := by
  have := at_any s (by omega) i (by omega) t (by omega) (.inr ht) w
  rw [show atB s.data.toList i t.data.toList = b from h] at this
  exact this
theorem php_tail (s : ByteArray) (i : Nat) (k3 : Lib.hasPrefix (s.data.toList.drop i) [60, 63] = true) (h5 : i + 5 ≤ s.size) (hp : phpB ((s.data.toList.drop (i + 2)).take 3) = true) :
    phpN (s.data.toList.drop i) = if i + 5 = s.size then 5 else if Lib.hasPrefix (s.data.toList.drop (i + 5)) [13, 10] then 7 else if blankB (s.data.toList.getD (i + 5) 0) then 6 else 0 := by
  have hl := Lib.size_eq s
  unfold phpN
  rw [List.drop_drop, List.drop_drop, if_pos (by rw [k3, hp, decide_eq_true (by rw [List.length_drop]; omega)]; rfl)]
  by_cases h : i + 5 = s.size
  · rw [if_pos h, List.drop_eq_nil_of_le (by omega)]
  · rw [if_neg h, drop_cons s (i + 5) (by omega)]
    simp only
    rw [List.getD_eq_getElem?_getD, Lib.data_getElem? s (i + 5) (by omega)]
    rfl
theorem php_none (s : ByteArray) (i : Nat) (h : (Lib.hasPrefix (s.data.toList.drop i) [60, 63] && decide (i + 5 ≤ s.size) && phpB ((s.data.toList.drop (i + 2)).take 3)) = false) : phpN (s.data.toList.drop i) = 0 := by
  have hl := Lib.size_eq s
  unfold phpN
  rw [List.drop_drop, if_neg]
  intro hx
  have : decide (5 ≤ (s.data.toList.drop i).length) = decide (i + 5 ≤ s.size) := by
    rw [List.length_drop, decide_eq_decide]; omega
  rw [this, h] at hx
  exact absurd hx (by decide)
theorem php_mid (s : ByteArray) (i : Nat) (h5 : i + 5 ≤ s.size) : ∃ t : ByteArray, s.extract (i + 2) (i + 5) = t ∧ ∃ h : t.size = 3, (s.data.toList.drop (i + 2)).take 3 = [t[0], t[1], t[2]] := by
  refine ⟨_, rfl, by rw [ByteArray.size_extract]; omega, ?_⟩
  have h3 : (s.extract (i + 2) (i + 5)).size = 3 := by rw [ByteArray.size_extract]; omega
  rw [← three _ h3, Lib.extract_data, show i + 5 - (i + 2) = 3 by omega]

def PhpRel (w : World) (b0 b1 b2 : UInt8) (k : Value) (wr : World) : Prop :=
  (k = .int .i64 0 ∧ Hid (Php3 w wr b0 b1 b2)) ∨ (k = .int .i64 1 ∧ Hid (Php3 w wr (lowB b0) b1 b2)) ∨ (k = .int .i64 2 ∧ Hid (Php3 w wr (lowB b0) (lowB b1) b2)) ∨ (k = .int .i64 3 ∧ Hid (Php3 w wr (lowB b0) (lowB b1) (lowB b2)))

set_option maxRecDepth 100000 in
set_option maxHeartbeats 4000000 in
theorem php_any (s : ByteArray) (hs : s.size ≤ 65536) (i : Nat) (hi : i ≤ s.size) (w : World) :
    Calls Tryd.prog 23 #[.string s, .int .i64 (i : Int)] w fun e w' => e = .returned (.int .i64 (phpN (s.data.toList.drop i) : Nat)) ∧ Below w.heap.size w w' := by
  obtain ⟨b1, k1⟩ : ∃ b, Lib.hasPrefix (s.data.toList.drop i) [60, 63] = b := ⟨_, rfl⟩
  have HA := Lib.hid (at_is s hs i (by omega) ⟨#[60, 63]⟩ (by decide) (by decide) b1 k1)
  cases b1 with
  | false =>
    have HR := Lib.hid (php_none s i (by rw [k1]; rfl))
    go_enter Tryd.func23, Tryd.ntmps23
    go_wp2_with (go_at_call 22; refine (HA.out _).mono ?_; rintro e w1 ⟨rfl, rfl⟩)
    go_ret
    exact ⟨ret_int (by rw [HR.out]; rfl), Below.refl _ _⟩
  | true =>
    by_cases h5 : i + 5 ≤ s.size
    · obtain ⟨t, ht, h3, hd⟩ := php_mid s i h5
      have g1 : decide ((s.size : Int) < (i : Int) + 5) = false := by simp; omega
      have g2 : (i : Int) + 5 ≤ (s.size : Int) := by omega
      have hcv := run_bytes_of_string (P := Tryd.prog) w 9 48 5 t Tryd.underlying9 Tryd.underlying48 Tryd.underlying5
      have HS := Lib.hid (php_start w t h3)
      have HP := Lib.hid k1
      clear k1
      go_enter Tryd.func23, Tryd.ntmps23
      go_wp2_with (go_at_call 22; refine (HA.out _).mono ?_; rintro e w1 ⟨rfl, rfl⟩)
      go_loopw [6] (fun k wr => PhpRel w t[0] t[1] t[2] k wr) (fun k _ => 3 - (intOf k).toNat)
      case atStart => exact .inl ⟨rfl, HS.out⟩
      case round =>
        clear hcv HS
        rcases hrel with ⟨rfl, H⟩ | ⟨rfl, H⟩ | ⟨rfl, H⟩ | ⟨rfl, H⟩
        · obtain ⟨c0, c1, c2, f0, f1, f2⟩ := H.out.cells
          have hx := t[0].toNat_lt
          have hxI : (t[0].toNat : Int) ≤ 255 := by omega
          by_cases hu : 65 ≤ t[0].toNat ∧ t[0].toNat ≤ 90
          · have hlow := low_up t[0] hu.1 hu.2
            have hlI : ((lowB t[0]).toNat : Int) = (t[0].toNat : Int) + 32 := by omega
            have HN := Lib.hid (H.out.set0 (lowB t[0]))
            rw [hlI] at HN
            obtain ⟨hu1, hu2⟩ := hu
            have hv1 : (65 : Int) ≤ (t[0].toNat : Int) := by omega
            have hv2 : (t[0].toNat : Int) ≤ 90 := by omega
            clear hlow hlI
            go_wp2_with fail
            go_roundw
            case rel => exact .inr (.inl ⟨rfl, HN.out⟩)
            case measure => decide
          · have hlow := low_same t[0] (by omega)
            have Hlow := Lib.hid hlow
            clear hlow
            by_cases hv : t[0].toNat < 65
            · have hv1 : decide (65 ≤ t[0].toNat) = false := by simp; omega
              go_wp2_with fail
              go_roundw
              case rel => exact .inr (.inl ⟨rfl, (by rw [Hlow.out]; exact H)⟩)
              case measure => decide
            · have hv1 : decide (65 ≤ t[0].toNat) = true := by simp; omega
              have hv2 : decide (t[0].toNat ≤ 90) = false := by simp; omega
              go_wp2_with fail
              go_roundw
              case rel => exact .inr (.inl ⟨rfl, (by rw [Hlow.out]; exact H)⟩)
              case measure => decide
        · obtain ⟨c0, c1, c2, f0, f1, f2⟩ := H.out.cells
          have hx := t[1].toNat_lt
          have hxI : (t[1].toNat : Int) ≤ 255 := by omega
          by_cases hu : 65 ≤ t[1].toNat ∧ t[1].toNat ≤ 90
          · have hlow := low_up t[1] hu.1 hu.2
            have hlI : ((lowB t[1]).toNat : Int) = (t[1].toNat : Int) + 32 := by omega
            have HN := Lib.hid (H.out.set1 (lowB t[1]))
            rw [hlI] at HN
            obtain ⟨hu1, hu2⟩ := hu
            have hv1 : (65 : Int) ≤ (t[1].toNat : Int) := by omega
            have hv2 : (t[1].toNat : Int) ≤ 90 := by omega
            clear hlow hlI
            go_wp2_with fail
            go_roundw
            case rel => exact .inr (.inr (.inl ⟨rfl, HN.out⟩))
            case measure => decide
          · have hlow := low_same t[1] (by omega)
            have Hlow := Lib.hid hlow
            clear hlow
            by_cases hv : t[1].toNat < 65
            · have hv1 : decide (65 ≤ t[1].toNat) = false := by simp; omega
              go_wp2_with fail
              go_roundw
              case rel => exact .inr (.inr (.inl ⟨rfl, (by rw [Hlow.out]; exact H)⟩))
              case measure => decide
            · have hv1 : decide (65 ≤ t[1].toNat) = true := by simp; omega
              have hv2 : decide (t[1].toNat ≤ 90) = false := by simp; omega
              go_wp2_with fail
              go_roundw
              case rel => exact .inr (.inr (.inl ⟨rfl, (by rw [Hlow.out]; exact H)⟩))
              case measure => decide
        · obtain ⟨c0, c1, c2, f0, f1, f2⟩ := H.out.cells
          have hx := t[2].toNat_lt
          have hxI : (t[2].toNat : Int) ≤ 255 := by omega
          by_cases hu : 65 ≤ t[2].toNat ∧ t[2].toNat ≤ 90
          · have hlow := low_up t[2] hu.1 hu.2
            have hlI : ((lowB t[2]).toNat : Int) = (t[2].toNat : Int) + 32 := by omega
            have HN := Lib.hid (H.out.set2 (lowB t[2]))
            rw [hlI] at HN
            obtain ⟨hu1, hu2⟩ := hu
            have hv1 : (65 : Int) ≤ (t[2].toNat : Int) := by omega
            have hv2 : (t[2].toNat : Int) ≤ 90 := by omega
            clear hlow hlI
            go_wp2_with fail
            go_roundw
            case rel => exact .inr (.inr (.inr ⟨rfl, HN.out⟩))
            case measure => decide
          · have hlow := low_same t[2] (by omega)
            have Hlow := Lib.hid hlow
            clear hlow
            by_cases hv : t[2].toNat < 65
            · have hv1 : decide (65 ≤ t[2].toNat) = false := by simp; omega
              go_wp2_with fail
              go_roundw
              case rel => exact .inr (.inr (.inr ⟨rfl, (by rw [Hlow.out]; exact H)⟩))
              case measure => decide
            · have hv1 : decide (65 ≤ t[2].toNat) = true := by simp; omega
              have hv2 : decide (t[2].toNat ≤ 90) = false := by simp; omega
              go_wp2_with fail
              go_roundw
              case rel => exact .inr (.inr (.inr ⟨rfl, (by rw [Hlow.out]; exact H)⟩))
              case measure => decide
        · obtain ⟨c0, c1, c2, f0, f1, f2⟩ := H.out.cells
          have hcb : ∀ cap, (convert 48 9 (.slice (some ⟨w.heap.size, 0, none⟩) 3 cap)).run Tryd.prog wr = .ok (.string ⟨#[lowB t[0], lowB t[1], lowB t[2]]⟩) wr := fun cap =>
            run_convert_bytes_back (P := Tryd.prog) wr 48 9 5 ⟨w.heap.size, 0, none⟩ cap [lowB t[0], lowB t[1], lowB t[2]] Tryd.underlying48 Tryd.underlying5 Tryd.underlying9 (fun j hj => by
              match j, hj with
              | 0, _ => exact c0
              | 1, _ => exact c1
              | 2, _ => exact c2
              | j + 3, hj => simp at hj; omega)
          have hph : phpB ((s.data.toList.drop (i + 2)).take 3) = ([lowB t[0], lowB t[1], lowB t[2]] == [112, 104, 112]) := by rw [hd]; rfl
          have HBl : Hid (Below w.heap.size w wr) := by obtain ⟨_, _, _, _, _, _, h⟩ := H.out; exact h
          obtain ⟨u, hu⟩ : ∃ u : ByteArray, u = ⟨#[lowB t[0], lowB t[1], lowB t[2]]⟩ := ⟨_, rfl⟩
          have hul : u.toList = [lowB t[0], lowB t[1], lowB t[2]] := by rw [hu, Lib.toList_data]
          rw [← hu] at hcb
          rw [← hul] at hph
          clear hu hul c0 c1 c2 f0 f1 f2 hd H ht
          obtain ⟨b2, k2⟩ : ∃ b, phpB ((s.data.toList.drop (i + 2)).take 3) = b := ⟨_, rfl⟩
          rw [k2] at hph
          have hne : (u.toList == [112, 104, 112]) = b2 := hph.symm
          cases b2 with
          | false =>
            have HR := Lib.hid (php_none s i (by rw [k2]; simp))
            have hne' : (u.toList == [112, 104, 112]) = false := hne
            clear hph hne k2
            go_wp2_with fail
            go_ret
            exact ⟨ret_int (by rw [HR.out]; rfl), HBl.out⟩
          | true =>
            have hne' : (u.toList == [112, 104, 112]) = true := hne
            have hR := php_tail s i HP.out h5 k2
            clear hph hne k2
            by_cases h6 : i + 5 = s.size
            · rw [if_pos h6] at hR
              have HR := Lib.hid hR
              have g3 : ((i : Int) + 5 == (s.size : Int)) = true := by simp; omega
              clear hR
              go_wp2_with fail
              go_ret
              exact ⟨ret_int (by rw [HR.out]; rfl), HBl.out⟩
            · rw [if_neg h6] at hR
              have g3 : ((i : Int) + 5 == (s.size : Int)) = false := by simp; omega
              have g4 : (i : Int) + 5 < (s.size : Int) := by omega
              obtain ⟨b3, k3⟩ : ∃ b, Lib.hasPrefix (s.data.toList.drop (i + 5)) [13, 10] = b := ⟨_, rfl⟩
              have HA5 := Lib.hid (at_is s hs (i + 5) (by omega) ⟨#[13, 10]⟩ (by decide) (by decide) b3 k3)
              rw [k3] at hR
              clear k3
              cases b3 with
              | true =>
                have HR := Lib.hid hR
                clear hR
                go_wp2_with (go_at_call 22; refine (HA5.out _).mono ?_; rintro e w1 ⟨rfl, rfl⟩)
                go_ret
                exact ⟨ret_int (by rw [HR.out]; rfl), HBl.out⟩
              | false =>
                have hlt : i + 5 < s.size := by omega
                rw [if_neg (by decide), List.getD_eq_getElem?_getD, Lib.data_getElem? s (i + 5) hlt, Option.getD_some] at hR
                have hbl : blankB s[i + 5] = (((s[i + 5].toNat : Int) == 32) || ((s[i + 5].toNat : Int) == 9) || ((s[i + 5].toNat : Int) == 10) || ((s[i + 5].toNat : Int) == 13)) := by
                  unfold blankB
                  have e : ∀ n : UInt8, (s[i + 5] == n) = ((s[i + 5].toNat : Int) == (n.toNat : Int)) := fun n => by
                    rw [Bool.eq_iff_iff, beq_iff_eq, beq_iff_eq, ← UInt8.toNat_inj]; omega
                  rw [e, e, e, e]; rfl
                rw [hbl] at hR
                have HR := Lib.hid hR
                clear hR hbl
                obtain ⟨q1, hq1⟩ : ∃ b, ((s[i + 5].toNat : Int) == 32) = b := ⟨_, rfl⟩
                obtain ⟨q2, hq2⟩ : ∃ b, ((s[i + 5].toNat : Int) == 9) = b := ⟨_, rfl⟩
                obtain ⟨q3, hq3⟩ : ∃ b, ((s[i + 5].toNat : Int) == 10) = b := ⟨_, rfl⟩
                obtain ⟨q4, hq4⟩ : ∃ b, ((s[i + 5].toNat : Int) == 13) = b := ⟨_, rfl⟩
                rw [hq1, hq2, hq3, hq4] at HR
                cases q1 <;> cases q2 <;> cases q3 <;> cases q4
                all_goals
                  go_wp2_with (go_at_call 22; refine (HA5.out _).mono ?_; rintro e w1 ⟨rfl, rfl⟩)
                  go_ret
                  exact ⟨ret_int (by rw [HR.out]; rfl), HBl.out⟩
    · have HR := Lib.hid (php_none s i (by rw [decide_eq_false h5]; simp))
      have g1 : decide ((s.size : Int) < (i : Int) + 5) = true := by simp; omega
      clear k1
      go_enter Tryd.func23, Tryd.ntmps23
      go_wp2_with (go_at_call 22; refine (HA.out _).mono ?_; rintro e w1 ⟨rfl, rfl⟩)
      go_ret
      exact ⟨ret_int (by rw [HR.out]; rfl), Below.refl _ _⟩
end Go.Proofs.YtohbbgghkinnhaaDoor
