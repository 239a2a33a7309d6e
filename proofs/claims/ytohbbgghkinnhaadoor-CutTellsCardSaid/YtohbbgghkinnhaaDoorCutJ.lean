/- Pieces in memory; cut.Line; alive. -/
import Derived.Test.YtohbbgghkinnhaaDoorCutI
namespace Go.Proofs.YtohbbgghkinnhaaDoor
open Go.RowKit

theorem pcells_len (s : ByteArray) (L : List P3) : (L.flatMap (pcCells s)).length = L.length * 3 := by
  induction L with
  | nil => rfl
  | cons e r ih => rw [List.flatMap_cons, List.length_append, ih, List.length_cons]; simp [pcCells]; omega
theorem pcells_get (s : ByteArray) (L : List P3) (k r : Nat) (hr : r < 3) (hk : k < L.length) : (L.flatMap (pcCells s))[k * 3 + r]? = (pcCells s (L.getD k default))[r]? := by
  induction L generalizing k with
  | nil => simp at hk
  | cons e l ih =>
    rw [List.flatMap_cons]
    cases k with
    | zero => rw [List.getElem?_append_left (by simp [pcCells]; omega)]; simp
    | succ k =>
      rw [List.getElem?_append_right (by simp [pcCells]; omega)]
      have := ih k (by simpa using hk)
      rw [show (k + 1) * 3 + r - (pcCells s e).length = k * 3 + r by simp [pcCells]; omega, this]
      simp
theorem PiecesAt.shape {w : World} {base : Nat} {s : ByteArray} {v : Value} {L : List P3} (h : PiecesAt w base s v L) : ∃ A cap, v = .slice A L.length cap ∧ ∀ k, k < L.length → ∃ g, A = some ⟨g, 0, none⟩ ∧ base ≤ g ∧
    w.cell? ⟨g, k * 3, none⟩ = some (.int .i64 ((L.getD k default).kind : Int)) ∧ w.cell? ⟨g, k * 3 + 1, none⟩ = some (.string (s.extract (L.getD k default).a (L.getD k default).b)) ∧
    w.cell? ⟨g, k * 3 + 2, none⟩ = some (.int .i64 ((L.getD k default).a : Int)) := by
  have h0 := h
  unfold PiecesAt at h0
  rcases h0.2 with ⟨rfl, hx⟩ | ⟨g, cap, cur, rfl, hb, _⟩
  · have hz : L = [] := List.eq_nil_of_length_eq_zero hx
    subst hz
    exact ⟨_, _, rfl, fun j hj => absurd hj (by simp)⟩
  · refine ⟨_, _, rfl, fun k hk => ⟨g, rfl, hb, ?_, ?_, ?_⟩⟩
    · rw [h0.cellAt (k * 3) (by omega), show k * 3 = k * 3 + 0 from rfl, pcells_get s L k 0 (by omega) hk]; rfl
    · rw [h0.cellAt (k * 3 + 1) (by omega), pcells_get s L k 1 (by omega) hk]; rfl
    · rw [h0.cellAt (k * 3 + 2) (by omega), pcells_get s L k 2 (by omega) hk]; rfl

/-- The line of a byte: how many lines' ends stand ahead. -/
def lineOf (l : Bytes) (at_ : Int) : Int := wrap64 (1 + (Lib.countByte (l.take (min (max at_ 0) (l.length : Int)).toNat) 10 : Nat))

set_option maxRecDepth 100000 in
theorem line_any (s : ByteArray) (hs : s.size ≤ maxLen) (x : Int) (w : World) : Calls Tryd.prog 15 #[.string s, .int .i64 x] w fun e w' => e = .returned (.int .i64 (lineOf s.data.toList x)) ∧ w = w' := by
  unfold maxLen at hs
  obtain ⟨k, hk⟩ : ∃ k : Nat, min (max x 0) (s.size : Int) = k := ⟨(min (max x 0) (s.size : Int)).toNat, by omega⟩
  have hks : (k : Int) ≤ (s.size : Int) := by omega
  have hl : lineOf s.data.toList x = wrap64 (1 + (Lib.countByte (s.extract 0 k).data.toList 10 : Nat)) := by
    unfold lineOf
    rw [← Lib.size_eq, hk, Lib.extract_data]; simp
  have HC := Lib.hid (fun w => callsSym (Tryd.strings_Count_one (s.extract 0 k) 10 w))
  rw [hl]
  clear hl
  generalize Lib.countByte (s.extract 0 k).data.toList 10 = c at *
  go_enter Tryd.func15, Tryd.ntmps15
  go_wp2_with (go_at_call 26; refine (HC.out _).mono ?_; rintro e w1 ⟨rfl, rfl⟩)
  go_ret
  exact ⟨rfl, rfl⟩

/-! ### alive -/
def aliveF : ByteArray := ⟨#[97, 60, 63, 112, 104, 112, 32, 101, 99, 104, 111, 32, 39, 63, 62, 39, 59, 32, 63, 62, 10, 98]⟩
theorem alive_cut : cut3 aliveF.data.toList = [⟨1, 0, 1⟩, ⟨2, 7, 18⟩, ⟨1, 21, 22⟩] := by kernel_rfl
theorem alive_text : aliveF.extract 7 18 = ⟨#[101, 99, 104, 111, 32, 39, 63, 62, 39, 59, 32]⟩ := by kernel_rfl
theorem alive_last : aliveF.extract 21 22 = ⟨#[98]⟩ := by kernel_rfl
theorem alive_line : lineOf (⟨#[97, 10, 98]⟩ : ByteArray).data.toList 2 = 2 := by kernel_rfl

set_option maxRecDepth 100000 in
set_option maxHeartbeats 2000000 in
theorem alive_any (m : Int) (w : World) (hL : Lib2 m w) : Calls Tryd.prog 11 #[] w fun e w' => e = .returned (.bool true) ∧ Below w.heap.size w w' := by
  have HC := Lib.hid (cut_any aliveF (by decide) m w hL)
  have HLi := Lib.hid (line_any ⟨#[97, 10, 98]⟩ (by decide) 2)
  rw [alive_line] at HLi
  clear hL
  go_enter Tryd.func11, Tryd.ntmps11
  go_wp2_with fail
  refine HC.out.mono ?_
  rintro e w1 ⟨v, rfl, hp, hb⟩
  rw [alive_cut] at hp
  obtain ⟨A, cap, rfl, hcells⟩ := hp.shape
  obtain ⟨g, rfl, _, p0, p1, p2⟩ := hcells 1 (by decide)
  obtain ⟨g', hg', _, _, q1, _⟩ := hcells 2 (by decide)
  obtain rfl : g = g' := by simpa using hg'
  have p0' : w1.cell? ⟨g, 3, none⟩ = some (.int .i64 2) := p0
  have p1' : w1.cell? ⟨g, 4, none⟩ = some (.string (aliveF.extract 7 18)) := p1
  have p2' : w1.cell? ⟨g, 5, none⟩ = some (.int .i64 7) := p2
  have q1' : w1.cell? ⟨g, 7, none⟩ = some (.string (aliveF.extract 21 22)) := q1
  rw [alive_text] at p1'
  rw [alive_last] at q1'
  have Hb := Lib.hid hb
  clear hcells hg' p0 p1 p2 q1 hp hb
  go_wp2_with (go_at_call 15; refine (HLi.out _).mono ?_; rintro e w2 ⟨rfl, rfl⟩)
  go_ret
  exact ⟨rfl, Hb.out⟩
end Go.Proofs.YtohbbgghkinnhaaDoor
