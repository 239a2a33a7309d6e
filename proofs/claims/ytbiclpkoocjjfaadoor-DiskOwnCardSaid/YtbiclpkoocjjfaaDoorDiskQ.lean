/- The reference's named, parts, Path: what they return for every argument. -/
import Derived.Test.YtbiclpkoocjjfaaDoorDiskF
import Derived.Test.YtbiclpkoocjjfaaDoorSplit
namespace Go.Proofs.YtbiclpkoocjjfaaDoor
open Go.RowKit

theorem partsOf_data (s : ByteArray) : (partsOf s).map (·.data.toList) = splitS s.data.toList := split_data _ s rfl

set_option maxHeartbeats 400000 in
theorem rnamed_any (c : Int) (h0 : 0 ≤ c) (h : c ≤ 255) (w : World) : Calls Tryd.prog 37 #[.int .u8 c] w fun e w' => e = .returned (.bool (namedB c)) ∧ w = w' := by
  go_enter Tryd.func37, Tryd.ntmps37
  go_wp2
  all_goals
    go_ret
    refine ⟨ret_bool ?_, rfl⟩
    unfold namedB
    rw [Bool.eq_iff_iff]
    first | (simp; omega; done) | (simp; done)

/-- What the scan holds ahead of byte k: the pieces, where the next begins. -/
structure PI (s : ByteArray) (w : World) (k fr : Nat) (ps : List ByteArray) (v : Value) (wr : World) : Prop where
  owns : wr.ownsRow w.heap.size 9 1 v ps.length (ps.map Value.string)
  len : ps.length ≤ k
  bel : Below w.heap.size w wr
  at_ : k ≤ s.size → fr ≤ k ∧ (s.data.toList.take k).drop fr = (scanL (s.data.toList.take k)).2 ∧ ps.map (·.data.toList) = (scanL (s.data.toList.take k)).1
  past : s.size < k → ps.map (·.data.toList) = splitS s.data.toList

theorem string_info : (Tryd.prog.info? 9).map (fun i => (i.zero, i.size, i.bytes)) = some (some (.string ⟨#[]⟩), 1, 16) := by kernel_rfl

theorem piece_data (s : ByteArray) (fr k : Nat) (hk : k ≤ s.size) : (s.extract fr k).data.toList = (s.data.toList.take k).drop fr := by
  rw [Lib.extract_data, List.take_drop]
  by_cases h : fr ≤ k
  · rw [Nat.add_sub_cancel' h]
  · rw [List.drop_eq_nil_of_le (by rw [List.length_take]; omega), List.drop_eq_nil_of_le (by rw [List.length_take]; omega)]

theorem take_snoc (s : ByteArray) (k : Nat) (h : k < s.size) : s.data.toList.take (k + 1) = s.data.toList.take k ++ [s[k]] := by
  rw [List.take_succ_eq_append_getElem (by simpa using h)]; rfl

section
variable {s : ByteArray} {w wr wr0 : World} {k fr : Nat} {ps : List ByteArray} {v v' : Value} {o : Obj}
theorem PI.keeps (h : PI s w k fr ps v wr0) (hg : (wr0.alloc o).grownBy wr v.ownBlock) : Below w.heap.size w wr :=
  have hk' : Keeps (fun i => w.heap.size ≤ i) wr0 wr := ((Keeps.refl _ wr0).alloc o).trans (Keeps.of_grown hg (fun g hg => (h.owns.lt g hg).1))
  h.bel.trans (hk'.below h.bel.size (fun _ h => h))
/-- a piece more: at a slash. -/
theorem PI.slash (h : PI s w k fr ps v wr0) (hk : k < s.size) (hc : s[k] = 47)
    (hn : wr.ownsRow w.heap.size 9 1 v' (ps.length + 1) (ps.map Value.string ++ [.string (s.extract fr k)])) (hg : (wr0.alloc o).grownBy wr v.ownBlock) : PI s w (k + 1) (k + 1) (ps ++ [s.extract fr k]) v' wr := by
  obtain ⟨e1, e2, e3⟩ := h.at_ (by omega)
  have hl := h.len
  refine ⟨by simpa using hn, by simp; omega, h.keeps hg, fun _ => ⟨Nat.le_refl _, ?_, ?_⟩, fun h => absurd h (by omega)⟩
  · rw [take_snoc s k hk, scan_snoc, hc]
    unfold scanStep
    rw [if_pos rfl]
    exact List.drop_eq_nil_of_le (by simp; omega)
  · rw [take_snoc s k hk, scan_snoc, hc]
    unfold scanStep
    rw [if_pos rfl, List.map_append, e3, ← e2, List.map_cons, piece_data s fr k (by omega)]
    rfl
/-- the last piece. -/
theorem PI.last (h : PI s w s.size fr ps v wr0)
    (hn : wr.ownsRow w.heap.size 9 1 v' (ps.length + 1) (ps.map Value.string ++ [.string (s.extract fr s.size)])) (hg : (wr0.alloc o).grownBy wr v.ownBlock) : PI s w (s.size + 1) (s.size + 1) (ps ++ [s.extract fr s.size]) v' wr := by
  obtain ⟨e1, e2, e3⟩ := h.at_ (Nat.le_refl _)
  have hl := h.len
  refine ⟨by simpa using hn, by simp; omega, h.keeps hg, fun h => absurd h (by omega), fun _ => ?_⟩
  have hall : s.data.toList.take s.size = s.data.toList := List.take_of_length_le (by have := Lib.size_eq s; omega)
  rw [hall] at e2 e3
  rw [List.map_append, e3, scan_split, ← e2, List.map_cons, piece_data s fr s.size (Nat.le_refl _), hall]
  rfl
/-- a byte that is no slash. -/
theorem PI.byte (h : PI s w k fr ps v wr) (hk : k < s.size) (hc : s[k] ≠ 47) : PI s w (k + 1) fr ps v wr := by
  obtain ⟨e1, e2, e3⟩ := h.at_ (by omega)
  have hl := h.len
  refine ⟨h.owns, by omega, h.bel, fun _ => ⟨by omega, ?_, ?_⟩, fun h => absurd h (by omega)⟩
  · rw [take_snoc s k hk, scan_snoc]
    unfold scanStep
    rw [if_neg hc, ← e2, List.drop_append_of_le_length (by rw [List.length_take]; have := Lib.size_eq s; omega)]
  · rw [take_snoc s k hk, scan_snoc]
    unfold scanStep
    rw [if_neg hc]; exact e3
end

set_option maxRecDepth 100000 in
set_option maxHeartbeats 1000000 in
theorem parts_any (s : ByteArray) (hs : s.size ≤ 4398046511104) (w : World) :
    Calls Tryd.prog 36 #[.string s] w fun e w' => ∃ v ps, e = .returned v ∧ PI s w (s.size + 1) (s.size + 1) ps v w' := by
  obtain ⟨i0, hi0, hz0, hz1, hz2⟩ := info_parts string_info
  have HI := Lib.hid (And.intro hi0 (And.intro hz0 (And.intro hz1 hz2))); clear hi0 hz0 hz1 hz2
  go_enter Tryd.func36, Tryd.ntmps36
  go_wp2_with fail
  go_loopw [3, 4, 5] (fun v f i wr => ∃ (k fr : Nat) (ps : List ByteArray), k ≤ s.size + 1 ∧ i = .int .i64 k ∧ f = .int .i64 fr ∧ PI s w k fr ps v wr) (fun _ _ i _ => s.size + 1 - (intOf i).toNat)
  case atStart => exact ⟨0, 0, [], Nat.zero_le _, rfl, rfl, World.ownsRow_nil _ _ _ _, Nat.zero_le _, Below.refl _ _, fun _ => ⟨Nat.le_refl _, rfl, rfl⟩, fun h => absurd h (by omega)⟩
  case round =>
    obtain ⟨k, fr, ps, hk, rfl, rfl, hinv⟩ := hrel
    have Hinv := Lib.hid hinv
    have hl := hinv.len
    have hbs := hinv.bel.size
    clear hinv
    by_cases h1 : k ≤ s.size
    · obtain ⟨hfr, _, _⟩ := Hinv.out.at_ h1
      by_cases h2 : k = s.size
      · subst h2
        have g1 : ((s.size : Int) == (s.size : Int)) = true := by simp
        go_wp2_with (at_builtin; refine wpList_append_own _ rfl _ _ 68 rfl w.heap.size 9 i0 (.string ⟨#[]⟩) 1 16 Tryd.underlying68 HI.out.1 HI.out.2.1 HI.out.2.2.1 HI.out.2.2.2 rfl (by decide) _ _ _ rfl (Hinv.out.owns.alloc _) ⟨wr.heap.size, 0, none⟩ 1 1 [.string (s.extract fr s.size)] rfl rfl (cell_one_new _ _ _) (fun u hu => by simp at hu; subst hu; rfl) (by unfold maxLen; omega) (by omega) (by simp; omega) ?_; intro v' w1 hown1 hgrow1 hnil1)
        have HP := Lib.hid (Hinv.out.last hown1 hgrow1)
        clear hown1 hgrow1 hnil1
        go_wp2_with fail
        go_roundw
        case rel => exact ⟨s.size + 1, s.size + 1, _, by omega, by go_num, by go_num, HP.out⟩
        case measure => simp [intOf] <;> omega
      · have hlt : k < s.size := by omega
        have g1 : ((k : Int) == (s.size : Int)) = false := by simp; omega
        by_cases h3 : s[k] = 47
        · have g2 : ((s[k].toNat : Int) == 47) = true := by rw [h3]; rfl
          have HC := Lib.hid h3; clear h3
          go_wp2_with (at_builtin; refine wpList_append_own _ rfl _ _ 68 rfl w.heap.size 9 i0 (.string ⟨#[]⟩) 1 16 Tryd.underlying68 HI.out.1 HI.out.2.1 HI.out.2.2.1 HI.out.2.2.2 rfl (by decide) _ _ _ rfl (Hinv.out.owns.alloc _) ⟨wr.heap.size, 0, none⟩ 1 1 [.string (s.extract fr k)] rfl rfl (cell_one_new _ _ _) (fun u hu => by simp at hu; subst hu; rfl) (by unfold maxLen; omega) (by omega) (by simp; omega) ?_; intro v' w1 hown1 hgrow1 hnil1)
          have HP := Lib.hid (Hinv.out.slash hlt HC.out hown1 hgrow1)
          clear hown1 hgrow1 hnil1
          go_wp2_with fail
          go_roundw
          case rel => exact ⟨k + 1, k + 1, _, by omega, by go_num, by go_num, HP.out⟩
          case measure => simp [intOf] <;> omega
        · have g2 : ((s[k].toNat : Int) == 47) = false := by
            rw [beq_eq_false_iff_ne]; intro h; exact h3 (UInt8.toNat_inj.1 (by have : (47 : UInt8).toNat = 47 := rfl; omega))
          have HP := Lib.hid (Hinv.out.byte hlt h3)
          clear h3
          go_wp2_with fail
          go_roundw
          case rel => exact ⟨k + 1, fr, _, by omega, by go_num, rfl, HP.out⟩
          case measure => simp [intOf] <;> omega
    · obtain rfl : k = s.size + 1 := by omega
      go_wp2_with fail
      go_ret
      have hp := Hinv.out
      exact ⟨_, ps, rfl, ⟨hp.owns, hp.len, hp.bel, fun h => absurd h (by omega), hp.past⟩⟩

theorem own_strs {w : World} {base : Nat} {e : TypeId} {v : Value} {ps : List ByteArray} (h : w.ownsRow base e 1 v ps.length (ps.map Value.string)) :
    ∃ A cap, v = .slice A ps.length cap ∧ ∀ j, j < ps.length → ∃ g, A = some ⟨g, 0, none⟩ ∧ base ≤ g ∧ w.cell? ⟨g, j, none⟩ = some (.string (ps.getD j ByteArray.empty)) := by
  have h0 := h
  rcases h.2 with ⟨rfl, hx⟩ | ⟨g, cap, cur, rfl, hb, _⟩
  · have hz : ps = [] := by simpa using hx
    subst hz
    exact ⟨_, _, rfl, fun j hj => absurd hj (by simp)⟩
  · refine ⟨_, _, rfl, fun j hj => ⟨g, rfl, hb, ?_⟩⟩
    rw [h0.cellAt j (by omega)]
    simp [hj]

theorem map_data_inj : ∀ {a b : List ByteArray}, a.map (·.data.toList) = b.map (·.data.toList) → a = b
  | [], [], _ => rfl
  | [], _ :: _, h => by simp at h
  | _ :: _, [], h => by simp at h
  | x :: a, y :: b, h => by
    simp only [List.map_cons, List.cons.injEq] at h
    rw [WideShapes.bytes_inj h.1, map_data_inj h.2]

/-- The pieces are strings.Split's. -/
theorem PI.parts {s : ByteArray} {w wr : World} {fr : Nat} {ps : List ByteArray} {v : Value} (h : PI s w (s.size + 1) fr ps v wr) : ps = partsOf s :=
  map_data_inj ((h.past (Nat.lt_succ_self _)).trans (partsOf_data s).symm)

theorem pathB_small (s : ByteArray) (h : s.size < 2) : pathB s = false := by
  unfold pathB
  by_cases hp : Lib.hasPrefix s.data.toList [47] = true
  · have : s = ⟨#[47]⟩ := by
      apply WideShapes.bytes_inj
      unfold Lib.hasPrefix at hp
      have hl := Lib.size_eq s
      cases hd : s.data.toList with
      | nil => rw [hd] at hp; simp at hp
      | cons c r =>
        rw [hd] at hp hl
        simp at hp
        subst hp
        cases r with
        | nil => rfl
        | cons _ _ => simp at hl; omega
    subst this
    decide +kernel
  · rw [show Lib.hasPrefix s.data.toList [47] = false by simpa using hp]; rfl
theorem hasPrefix_slash (s : ByteArray) (h : 0 < s.size) : Lib.hasPrefix s.data.toList [47] = (s[0] == 47) := by
  have e : s.data.toList[0]? = some s[0] := Lib.data_getElem? s 0 h
  unfold Lib.hasPrefix
  cases hd : s.data.toList with
  | nil => rw [hd] at e; simp at e
  | cons c r =>
    rw [hd] at e
    simp at e
    subst e
    simp only [List.isPrefixOf, Bool.and_true]
    rw [Bool.eq_iff_iff, beq_iff_eq, beq_iff_eq]
    exact eq_comm
theorem restOf_extract (s : ByteArray) (h : Lib.hasPrefix s.data.toList [47] = true) : restOf s = s.extract 1 s.size := by
  apply WideShapes.bytes_inj
  rw [Lib.extract_to_end]
  unfold restOf Lib.trimPrefix
  rw [if_pos h]
  rfl
end Go.Proofs.YtbiclpkoocjjfaaDoor
