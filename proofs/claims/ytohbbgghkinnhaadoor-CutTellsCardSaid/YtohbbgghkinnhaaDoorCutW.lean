/- CutWithin: the plain law and the walk. -/
import Derived.Test.YtohbbgghkinnhaaDoorCutJ
import Derived.Deep.QuietTactic
import Derived.BigQuiet
namespace Go.Proofs.YtohbbgghkinnhaaDoor
open Go.RowKit

/-- The pieces stand behind byte k and behind one another, within n bytes; none outside of code is empty or has such a one ahead ('h': one stands ahead). -/
def okP (n : Nat) : Nat → Bool → List P3 → Prop
  | _, _, [] => True
  | k, h, p :: r => k ≤ p.a ∧ p.a ≤ p.b ∧ p.b ≤ n ∧ (p.kind = 1 → h = false ∧ p.a < p.b) ∧ okP n p.b (decide (p.kind = 1)) r
theorem okP_html {n k fr i : Nat} {r : List P3} (hk : k ≤ fr) (hfi : fr ≤ i) (hi : i ≤ n) (h : ∀ b, okP n i b r) : okP n k false (htmlP fr i ++ r) := by
  unfold htmlP
  split
  · rename_i hlt
    exact ⟨hk, by simp only; omega, hi, fun _ => ⟨rfl, hlt⟩, h _⟩
  · rename_i hlt
    obtain rfl : fr = i := by omega
    rw [List.nil_append]
    cases r with
    | nil => trivial
    | cons p r => have := h false; exact ⟨by have := this.1; omega, this.2⟩
theorem okP_cut (l : Bytes) : ∀ (m k i fr : Nat), l.length - i ≤ m → k ≤ fr → fr ≤ i → i ≤ l.length → okP l.length k false (cutR l i fr) := by
  intro m
  induction m with
  | zero =>
    intro k i fr hm hk hfi hi
    obtain rfl : i = l.length := by omega
    rw [cutR_end (Nat.le_refl _)]
    have := okP_html (r := []) hk hfi hi (fun _ => trivial)
    simpa using this
  | succ m ih =>
    intro k i fr hm hk hfi hi
    by_cases he : i = l.length
    · subst he
      rw [cutR_end (Nat.le_refl _)]
      have := okP_html (r := []) hk hfi hi (fun _ => trivial)
      simpa using this
    · by_cases ht : (tagN (l.drop i)).2 = 0
      · rw [cutR_none (by omega) ht]
        exact ih k (i + 1) fr (by omega) hk (by omega) (by omega)
      · obtain ⟨kd, n, hkn⟩ : ∃ kd n, tagN (l.drop i) = (kd, n) := ⟨_, _, rfl⟩
        have htl := tagN_len (l.drop i)
        have htk := tagN_kind (l.drop i)
        rw [List.length_drop, hkn] at htl
        rw [hkn] at htk ht
        simp only at htl htk ht
        rw [cutR_tag (by omega) hkn ht]
        have hcl := codeN_le (l.drop (i + n))
        rw [List.length_drop] at hcl
        have hc4 := closeN_le (l.drop (i + n + codeN (l.drop (i + n))))
        rw [List.length_drop] at hc4
        refine okP_html hk hfi (by omega) fun b => ⟨by simp only; omega, by simp only; omega, by simp only; omega, fun h => ?_, ?_⟩
        · simp only at h; omega
        · have hd : decide (kd = 1) = false := by simp; omega
          simp only [hd]
          exact ih _ _ _ (by omega) (by omega) (Nat.le_refl _) (by omega)
theorem okP_cut3 (l : Bytes) : okP l.length 0 false (cut3 l) := okP_cut l l.length 0 0 0 (by omega) (Nat.le_refl _) (Nat.le_refl _) (by omega)
/-- Where the piece ahead of the j-th ends, and whether it is outside of code. -/
def endBefore (ps : List P3) : Nat → Nat
  | 0 => 0
  | j + 1 => (ps.getD j default).b
def htmlBefore (ps : List P3) : Nat → Bool
  | 0 => false
  | j + 1 => decide ((ps.getD j default).kind = 1)
theorem okP_at' : ∀ (ps : List P3) (n k : Nat) (h : Bool) (j : Nat), okP n k h ps → j < ps.length →
    (if j = 0 then k else endBefore ps j) ≤ (ps.getD j default).a ∧ (ps.getD j default).a ≤ (ps.getD j default).b ∧ (ps.getD j default).b ≤ n ∧
    ((ps.getD j default).kind = 1 → (if j = 0 then h else htmlBefore ps j) = false ∧ (ps.getD j default).a < (ps.getD j default).b)
  | [], _, _, _, j, _, hj => absurd hj (by simp)
  | p :: r, n, k, h, 0, ho, _ => ⟨ho.1, ho.2.1, ho.2.2.1, ho.2.2.2.1⟩
  | p :: r, n, k, h, j + 1, ho, hj => by
    have := okP_at' r n p.b (decide (p.kind = 1)) j ho.2.2.2.2 (by simpa using hj)
    cases j with
    | zero => simpa [endBefore, htmlBefore] using this
    | succ j => simpa [endBefore, htmlBefore] using this
theorem okP_at {ps : List P3} {n : Nat} (j : Nat) (h : okP n 0 false ps) (hj : j < ps.length) :
    endBefore ps j ≤ (ps.getD j default).a ∧ (ps.getD j default).a ≤ (ps.getD j default).b ∧ (ps.getD j default).b ≤ n ∧
    ((ps.getD j default).kind = 1 → htmlBefore ps j = false ∧ (ps.getD j default).a < (ps.getD j default).b) := by
  have := okP_at' ps n 0 false j h hj
  cases j with
  | zero => simpa [endBefore, htmlBefore] using this
  | succ j => simpa using this
theorem below_drewN {B : Nat} {a w : World} (h : Below B a w) (n : Nat) : Below B a (w.drewN n) := ⟨h.os, h.tape, h.output, h.size, h.block⟩
theorem PiecesAt.below {w w' : World} {base : Nat} {s : ByteArray} {v : Value} {L : List P3} (h : PiecesAt w base s v L) (hb : Below w.heap.size w w') : PiecesAt w' base s v L := by
  unfold PiecesAt at *
  exact h.kept (row := none) ⟨hb.os, hb.tape, hb.output, hb.size, fun i hi _ => hb.block i hi⟩ (by cases v.ownBlock <;> simp)
theorem kind_small (l : Bytes) : ∀ (m i fr : Nat), l.length - i ≤ m → ∀ p ∈ cutR l i fr, p.kind ≤ 3 := by
  intro m
  have hh : ∀ a b, ∀ p ∈ htmlP a b, p.kind ≤ 3 := by
    intro a b p hp
    unfold htmlP at hp
    split at hp
    · obtain rfl : p = ⟨1, a, b⟩ := by simpa using hp
      show 1 ≤ 3
      omega
    · simp at hp
  induction m with
  | zero =>
    intro i fr hm
    rw [cutR_end (by omega)]
    exact hh _ _
  | succ m ih =>
    intro i fr hm
    by_cases he : l.length ≤ i
    · rw [cutR_end he]; exact hh _ _
    · by_cases ht : (tagN (l.drop i)).2 = 0
      · rw [cutR_none (by omega) ht]
        exact ih (i + 1) fr (by omega)
      · obtain ⟨kd, n, hkn⟩ : ∃ kd n, tagN (l.drop i) = (kd, n) := ⟨_, _, rfl⟩
        have htk := tagN_kind (l.drop i)
        rw [hkn] at htk ht
        simp only at htk ht
        rw [cutR_tag (by omega) hkn ht]
        intro p hp
        rcases List.mem_append.1 hp with hp | hp
        · exact hh _ _ p hp
        · rcases List.mem_cons.1 hp with rfl | hp
          · simp only; omega
          · exact ih _ _ (by omega) p hp
theorem kind_at (l : Bytes) (j : Nat) (hj : j < (cut3 l).length) : ((cut3 l).getD j default).kind ≤ 3 := by
  refine kind_small l l.length 0 0 (by omega) _ ?_
  rw [List.getD_eq_getElem?_getD, List.getElem?_eq_getElem hj]
  exact List.getElem_mem _
theorem pieces_few (l : Bytes) : ∀ (m i fr : Nat), l.length - i ≤ m → (cutR l i fr).length ≤ 2 * (l.length - i) + 1 := by
  intro m
  have hh : ∀ a b, (htmlP a b).length ≤ 1 := by
    intro a b
    unfold htmlP
    split <;> simp
  induction m with
  | zero =>
    intro i fr hm
    rw [cutR_end (by omega)]
    have := hh fr l.length
    omega
  | succ m ih =>
    intro i fr hm
    by_cases he : l.length ≤ i
    · rw [cutR_end he]
      have := hh fr l.length
      omega
    · by_cases ht : (tagN (l.drop i)).2 = 0
      · rw [cutR_none (by omega) ht]
        have := ih (i + 1) fr (by omega)
        omega
      · obtain ⟨kd, n, hkn⟩ : ∃ kd n, tagN (l.drop i) = (kd, n) := ⟨_, _, rfl⟩
        rw [hkn] at ht
        simp only at ht
        rw [cutR_tag (by omega) hkn ht, List.length_append, List.length_cons]
        have h1 := hh fr i
        have h2 := ih (i + n + codeN (l.drop (i + n)) + closeN (l.drop (i + n + codeN (l.drop (i + n))))) (i + n + codeN (l.drop (i + n)) + closeN (l.drop (i + n + codeN (l.drop (i + n))))) (by omega)
        have h3 := tagN_len (l.drop i)
        rw [hkn, List.length_drop] at h3
        simp only at h3
        omega
theorem cut3_few (s : ByteArray) (hs : s.size ≤ 65536) : (cut3 s.data.toList).length ≤ 131073 := by
  have := pieces_few s.data.toList _ 0 0 (Nat.le_refl _)
  have h2 := Lib.size_eq s
  unfold cut3
  omega

set_option maxRecDepth 100000 in
set_option maxHeartbeats 4000000 in
theorem within_any (s : ByteArray) (hs : s.size ≤ maxLen) (m : Int) (w : World) (hL : Lib2 m w) : Calls Tryd.prog 4 #[.string s] w fun e w' => e = .returned (.bool true) ∧ Below w.heap.size w w' := by
  have Hml := Lib.hid hs
  unfold maxLen at hs
  have HL := Lib.hid hL; clear hL
  by_cases hbig : 65536 < s.size
  · have hbI : (65536 : Int) < (s.size : Int) := by omega
    have HC := Lib.hid (cut_long s hbig Hml.out w)
    clear hbig
    go_enter Tryd.func4, Tryd.ntmps4
    go_wp2_with fail
    refine HC.out.mono ?_
    rintro e w1 ⟨rfl, hb1⟩
    have HL1 := Lib.hid (HL.out.below hb1)
    go_wp2_with (go_at_call 11; refine (alive_any m _ HL1.out).mono ?_; rintro e w2 ⟨rfl, hb2⟩)
    go_ret
    exact ⟨rfl, hb1.trans (hb2.mono hb1.size)⟩
  · have HC := Lib.hid (cut_any s (by omega) m w HL.out)
    have hok := okP_cut3 s.data.toList
    rw [← Lib.size_eq] at hok
    have HK := Lib.hid (kind_at s.data.toList)
    have hfew := cut3_few s (by omega)
    have hsz : s.size ≤ 65536 := by omega
    have HO := Lib.hid hok
    clear hok hbig
    go_enter Tryd.func4, Tryd.ntmps4
    go_wp2_with fail
    refine HC.out.mono ?_
    rintro e w1 ⟨v, rfl, hp, hb1⟩
    obtain ⟨L, hLd⟩ : ∃ L, cut3 s.data.toList = L := ⟨_, rfl⟩
    rw [hLd] at hp HK hfew HO
    have Hb1 := Lib.hid hb1
    have HL1 := Lib.hid (HL.out.below hb1)
    obtain ⟨A, cap, rfl, hcells⟩ := hp.shape
    have HP := Lib.hid hp
    have HA := Lib.hid hcells
    clear hp hb1 hcells HC hLd HL
    go_wp2_with fail
    go_loopw [5, 6, 24] (fun a h i wx => ∃ j : Nat, j ≤ L.length ∧ i = .int .i64 j ∧ a = .int .i64 (endBefore L j : Nat) ∧ h = .bool (htmlBefore L j) ∧ Hid (Below w1.heap.size w1 wx)) (fun _ _ i _ => L.length - (intOf i).toNat)
    case atStart => exact ⟨0, Nat.zero_le _, rfl, rfl, rfl, Below.refl _ _⟩
    case round =>
      obtain ⟨j, hj, rfl, rfl, rfl, HB⟩ := hrel
      by_cases hlt : j < L.length
      · obtain ⟨g, rfl, hg, p0, p1, p2⟩ := HA.out j hlt
        have hkd := HK.out j hlt
        have hgl := World.block_lt_of_cell? w1 _ p0
        have q0 := (HB.out.cell (p := ⟨g, j * 3, none⟩) hgl).trans p0
        have q1 := (HB.out.cell (p := ⟨g, j * 3 + 1, none⟩) hgl).trans p1
        have q2 := (HB.out.cell (p := ⟨g, j * 3 + 2, none⟩) hgl).trans p2
        obtain ⟨o1, o2, o3, o4⟩ := okP_at j HO.out hlt
        have e1 : endBefore L (j + 1) = (L.getD j default).b := rfl
        have e2 : htmlBefore L (j + 1) = decide ((L.getD j default).kind = 1) := rfl
        clear p0 p1 p2
        generalize L.getD j default = p at *
        obtain ⟨kd, a, b⟩ := p
        simp only at *
        obtain ⟨d, rfl⟩ : ∃ d, b = a + d := ⟨b - a, by omega⟩
        have hts : (s.extract a (a + d)).size = d := by rw [ByteArray.size_extract]; omega
        have htI : ((s.extract a (a + d)).size : Int) = (d : Int) := by omega
        generalize endBefore L j = eb at *
        generalize htmlBefore L j = hb at *
        have g1 : decide (a < eb) = false := by simp; omega
        have g2 : decide ((s.size : Int) < (a : Int) + (d : Int)) = false := by simp; omega
        have g3 : (a : Int) + (d : Int) ≤ (s.size : Int) := by omega
        have Hlast : Hid (Below w1.heap.size w1 (wr.alloc (.cells #[.int .i64 (kd : Int), .string (s.extract a (a + d)), .int .i64 (a : Int)] 32))) := HB.out.alloc HB.out.size _
        by_cases hk1 : kd = 1
        · subst hk1
          obtain ⟨rfl, hd0⟩ := o4 rfl
          have k6 : (s.extract a (a + d)).toList.isEmpty = false := by
            rw [Lib.toList_data]
            cases h : (s.extract a (a + d)).data.toList with
            | nil => have := Lib.size_eq (s.extract a (a + d)); rw [h] at this; simp at this; omega
            | cons _ _ => rfl
          clear hkd o1 o2 o3 o4
          go_wp2_with fail
          go_quiet (fail)
          go_wp2_with fail
          go_roundw
          case rel => exact ⟨j + 1, by omega, by go_num, by rw [e1]; go_num, by rw [e2]; rfl, below_drewN Hlast.out _⟩
          case measure => simp [intOf]; omega
        · have hk : ((kd : Int) == 1) = false := by simp; omega
          clear o1 o2 o3 o4
          go_wp2_with fail
          go_quiet (fail)
          go_wp2_with fail
          go_roundw
          case rel => exact ⟨j + 1, by omega, by go_num, by rw [e1]; go_num, by rw [e2]; simp [hk1], below_drewN Hlast.out _⟩
          case measure => simp [intOf]; omega
      · obtain rfl : j = L.length := by omega
        have HL2 := Lib.hid (HL1.out.below HB.out)
        have Hb2 := Lib.hid (Hb1.out.trans (HB.out.mono Hb1.out.size))
        clear HO HA HP HK
        go_wp2_with (go_at_call 11; refine (alive_any m _ HL2.out).mono ?_; rintro e w3 ⟨rfl, hb3⟩)
        go_ret
        exact ⟨rfl, Hb2.out.trans (hb3.mono Hb2.out.size)⟩
end Go.Proofs.YtohbbgghkinnhaaDoor
