/- disk.From: its walk. -/
import Derived.Test.YtbiclpkoocjjfaaDoorFromS
import Derived.Test.YtbiclpkoocjjfaaDoorApps
import Derived.Test.YtbiclpkoocjjfaaDoorJoin
import Derived.Test.YtbiclpkoocjjfaaDoorDiskF
import Derived.Deep.DeepCutAuto
namespace Go.Proofs.YtbiclpkoocjjfaaDoor
open Go.RowKit

theorem splitS_le : ∀ (l : List UInt8), ∀ x ∈ splitS l, x.length ≤ l.length
  | [], x, h => by
    rw [show splitS [] = [[]] from rfl] at h
    rw [List.mem_singleton.1 h]; simp
  | c :: r, x, h => by
    rw [splitS] at h
    split at h
    · rcases List.mem_cons.1 h with rfl | h
      · simp
      · have := splitS_le r x h; simp; omega
    · split at h
      · rename_i h0 t0 he
        rcases List.mem_cons.1 h with rfl | h
        · have := splitS_le r h0 (by rw [he]; simp); simp; omega
        · have := splitS_le r x (by rw [he]; simp [h]); simp; omega
      · rw [List.mem_singleton.1 h]; simp
theorem parts_size (s x : ByteArray) (h : x ∈ partsOf s) : x.size ≤ s.size := by
  have h1 : x.data.toList ∈ splitS s.data.toList := by rw [← partsOf_data]; exact List.mem_map_of_mem h
  have := splitS_le _ _ h1
  have a := Lib.size_eq x
  have b := Lib.size_eq s
  omega
theorem bytes_of {p : ByteArray} {l : List UInt8} (h : p.toList = l) : p = ⟨l.toArray⟩ := by
  rw [ByteArray.toList_eq] at h
  rw [← h]
def fromV : Option ByteArray → Value
  | none => .tuple #[.string ⟨#[]⟩, .bool false]
  | some t => .tuple #[.string t, .bool true]
def FromPost (b s : ByteArray) (w : World) (e : Ending) (w' : World) : Prop := e = .returned (fromV (fromB b s)) ∧ Below w.heap.size w w'
/-- The stack in memory. -/
structure StackInv (ps : List ByteArray) (base : Nat) (w2 : World) (k : Nat) (v : Value) (wr : World) (l : List ByteArray) : Prop where
  st : stackOf (ps.take k) = some l
  owns : wr.ownsRow base 9 1 v l.length (l.map Value.string)
  bel : Below w2.heap.size w2 wr
  len : l.length ≤ k
  small : ∀ x ∈ l, x.size ≤ 2097152
theorem own_drop {w : World} {base g n cap : Nat} {e : TypeId} {l : List ByteArray} (h : w.ownsRow base e 1 (.slice (some ⟨g, 0, none⟩) n cap) l.length (l.map Value.string)) : w.ownsRow base e 1 (.slice (some ⟨g, 0, none⟩) (n - 1) cap) l.dropLast.length (l.dropLast.map Value.string) := by
  obtain ⟨hx, ⟨hv, _⟩ | ⟨g', cap', cur, hv, hg, hh, hnc, hcm, hcs, htk⟩⟩ := h
  · cases hv
  · simp only [Value.slice.injEq, Option.some.injEq, Addr.mk.injEq] at hv
    obtain ⟨⟨rfl, _, _⟩, rfl, rfl⟩ := hv
    refine ⟨by simp, .inr ⟨g, cap, cur, by rw [List.length_dropLast], hg, hh, by rw [List.length_dropLast]; omega, hcm, hcs, ?_⟩⟩
    rw [List.dropLast_eq_take, List.map_take, ← htk, List.take_take]
    congr 1
    simp

theorem row_shape {w : World} {base n : Nat} {e : TypeId} {v : Value} {xs : List Value} (h : w.ownsRow base e 1 v n xs) : ∃ A c, v = .slice A n c := by
  obtain ⟨_, ⟨rfl, rfl⟩ | ⟨g, cap, _, rfl, _⟩⟩ := h
  · exact ⟨_, _, rfl⟩
  · exact ⟨_, _, rfl⟩
theorem own_cap {w : World} {base n c : Nat} {e : TypeId} {g : Nat} {xs : List Value} (h : w.ownsRow base e 1 (.slice (some ⟨g, 0, none⟩) n c) n xs) : n ≤ c ∧ c ≤ maxLen := by
  obtain ⟨_, ⟨hv, _⟩ | ⟨g', cap', cur, hv, hg, hh, hnc, hcm, hcs, htk⟩⟩ := h
  · cases hv
  · simp only [Value.slice.injEq] at hv
    obtain ⟨_, _, rfl⟩ := hv
    exact ⟨hnc, hcm⟩

theorem join_size (N : Nat) (l : List ByteArray) (hl : ∀ x ∈ l, x.size ≤ N) : (Lib.join (l.map (·.data.toList)) [47]).length ≤ l.length * (N + 1) := by
  have hb := catL_bound N l hl
  cases l with
  | nil => exact Nat.zero_le _
  | cons x r => rw [← join_cat, List.length_cons] at hb; omega
theorem join_any {A : Option Addr} {c base : Nat} {e : TypeId} (l : List ByteArray) (w : World) (h : w.ownsRow base e 1 (.slice A l.length c) l.length (l.map Value.string)) (hn : l.length ≤ 140737488355328) (hj : (Lib.join (l.map (·.data.toList)) [47]).length ≤ 140737488355328) :
    Calls Tryd.prog 35 #[.slice A l.length c, .string ⟨#[47]⟩] w fun e w' => e = .returned (.string ⟨(Lib.join (l.map (·.data.toList)) [47]).toArray⟩) ∧ Below w.heap.size w w' := by
  rcases Nat.eq_zero_or_pos l.length with h0 | h0
  · rw [h0, List.eq_nil_of_length_eq_zero h0]
    exact (Tryd.strings_Join_none A c ⟨#[47]⟩ w).mono fun e w' ⟨he, hw⟩ => ⟨he, by rw [hw]; exact Below.refl _ _⟩
  · obtain ⟨g, c', hv, _, hlt⟩ := h.form h0
    simp only [Value.slice.injEq] at hv
    obtain ⟨rfl, _, rfl⟩ := hv
    refine Tryd.strings_Join g 0 c l ⟨#[47]⟩ w (fun j x hx => ?_) hlt hn (own_cap h).1 hj
    have := h.cells (g := g) rfl j (.string x) (by rw [List.getElem?_map, hx]; rfl)
    have e : (⟨g, 0, none⟩ : Addr).add j = ⟨g, 0 + j, none⟩ := by unfold Addr.add; split <;> simp_all
    rw [e] at this
    exact this

set_option maxRecDepth 100000 in
set_option maxHeartbeats 4000000 in
theorem from_no (b s : ByteArray) (hb : b.size ≤ 1048576) (h : pathB b = false) (m : Int) (w : World) (hm : w.cell? ⟨0, 0, none⟩ = some (.int .i64 m)) :
    Calls Tryd.prog 18 #[.string b, .string s] w (FromPost b s w) := by
  have HP := Lib.hid (path_any b (by unfold maxLen; omega) m w hm)
  have HR : Hid (fromB b s = none) := by show _ = _; unfold fromB; rw [if_pos h]
  rw [h] at HP
  clear hm h
  go_enter Tryd.func18, Tryd.ntmps18
  go_wp2_with (go_at_call 16; refine HP.out.mono ?_; rintro e w1 ⟨rfl, hb1⟩)
  go_ret2
  exact ⟨by rw [HR.out]; rfl, hb1⟩

set_option maxRecDepth 100000 in
set_option maxHeartbeats 4000000 in
theorem from_yes (b s : ByteArray) (hb : b.size ≤ 1048576) (hs : s.size ≤ 1048576) (h : pathB b = true) (m : Int) (w : World) (hg : 0 < w.heap.size) (hm : w.cell? ⟨0, 0, none⟩ = some (.int .i64 m)) :
    Calls Tryd.prog 18 #[.string b, .string s] w (FromPost b s w) := by
  have HP := Lib.hid (path_any b (by unfold maxLen; omega) m w hm)
  have HR : Hid (fromB b s = (stackOf (partsOf (fullB b s))).bind fromL) := by show _ = _; unfold fromB; rw [h]; rfl
  have HM := Lib.hid hm
  rw [h] at HP
  have hfs := full_size b s
  obtain ⟨hl1, hl2⟩ := last_ge b
  have HX := Lib.hid (fun w => callsSym (Tryd.strings_HasPrefix s ⟨#[47]⟩ w))
  have HY := Lib.hid (fun w => callsSym (Tryd.strings_LastIndex_one b ⟨#[47]⟩ rfl (by omega) w))
  have hl3 : Lib.lastIndexByte b 47 = (lastK b : Int) - 1 := by omega
  rw [show (((⟨#[47]⟩ : ByteArray)[0]'(by decide)).toNat : Int) = 47 from rfl, hl3] at HY
  have HFull : Hid (∀ q, Lib.hasPrefix s.data.toList (⟨#[47]⟩ : ByteArray).data.toList = q → fullB b s = if q = true then s else b.extract 0 (lastK b) ++ s) := by
    intro q hq; unfold fullB; rw [← hq]
  clear hm h hl1 hl3
  obtain ⟨i0, hi0, hz0, hz1, hz2⟩ := info_parts string_info
  have HI := Lib.hid (And.intro hi0 (And.intro hz0 (And.intro hz1 hz2))); clear hi0 hz0 hz1 hz2
  generalize hq : Lib.hasPrefix s.data.toList (⟨#[47]⟩ : ByteArray).data.toList = q at HX
  have HF := Lib.hid (HFull.out q hq)
  clear HFull hq
  go_enter Tryd.func18, Tryd.ntmps18
  go_upto_if 15 with (first
    | (go_at_call 16; refine HP.out.mono ?_; rintro e w1 ⟨rfl, hb1⟩)
    | (go_at_call 33; refine (HX.out _).mono ?_; rintro e w2 ⟨rfl, rfl⟩))
  have Hb1 := Lib.hid hb1
  clear hb1
  go_cut [1] (fun x wx => x = .string (fullB b s) ∧ w1 = wx)
  case first =>
    cases q with
    | true =>
      go_wp2_with fail
      go_meet
      exact ⟨by rw [HF.out]; simp, rfl⟩
    | false =>
      go_wp2_with (go_at_call 34; refine (HY.out _).mono ?_; rintro e w2 ⟨rfl, rfl⟩)
      go_meet
      exact ⟨by rw [HF.out]; simp, rfl⟩
  case rest =>
    obtain ⟨rfl, rfl⟩ := hcut
    clear HP HX HY HF hl2
    generalize fullB b s = f at *
    have hm1 : w1.cell? ⟨0, 0, none⟩ = some (.int .i64 m) := (Hb1.out.cell (p := ⟨0, 0, none⟩) hg).trans HM.out
    have HS := Lib.hid (split_any f m w1 (by omega) hm1)
    have HM1 := Lib.hid hm1
    have hpl := partsOf_length f
    have HZ : Hid (∀ x ∈ partsOf f, x.size ≤ 2097152) := fun x hx => by have := parts_size f x hx; omega
    clear hm1
    go_wp2_with fail
    refine HS.out.mono ?_
    rintro e w2 ⟨rfl, hw2⟩
    have Hcell : Hid (∀ k (hk : k < (partsOf f).length), w2.cell? ⟨w1.heap.size, k, none⟩ = some (.string (partsOf f)[k])) := by
      intro k hk
      rw [hw2, cells_str w1 (partsOf f) _ k hk]
      simp [List.getD_eq_getElem?_getD, hk]
    have Hb2 : Hid (Below w.heap.size w w2) := by rw [hw2]; exact Hb1.out.alloc Hb1.out.size _
    have hg2 : w1.heap.size < w2.heap.size := by rw [hw2]; simp
    have HM2 : Hid (w2.cell? ⟨0, 0, none⟩ = some (.int .i64 m)) := (Hb2.out.cell (p := ⟨0, 0, none⟩) hg).trans HM.out
    clear hw2 HS
    generalize partsOf f = ps at *
    go_wp2_with fail
    go_loopw [6, 26] (fun v i wr => ∃ k : Nat, k ≤ ps.length ∧ i = .int .i64 (k : Nat) ∧ ∃ l, Hid (StackInv ps w2.heap.size w2 k v wr l)) (fun _ i _ => ps.length - (intOf i).toNat)
    case atStart => exact ⟨0, Nat.zero_le _, rfl, [], ⟨rfl, World.ownsRow_nil _ _ _ _, Below.refl _ _, Nat.le_refl _, fun x h => by cases h⟩⟩
    case round =>
      obtain ⟨k, hk, rfl, l, H⟩ := hrel
      by_cases hlt : k < ps.length
      · have hltI : (k : Int) < (ps.length : Int) := by omega
        have hc : wr.cell? ⟨w1.heap.size, k, none⟩ = some (.string ps[k]) := (H.out.bel.cell (p := ⟨w1.heap.size, k, none⟩) hg2).trans (Hcell.out k hlt)
        have HT : Hid (stackOf (ps.take (k + 1)) = stepF l ps[k]) := by show _ = _; rw [stack_take ps k hlt, H.out.st]; rfl
        have HZ1 := HZ.out ps[k] (List.getElem_mem hlt)
        have hll := H.out.len
        generalize ps[k] = p at *
        by_cases e1 : p.toList = [] ∨ p.toList = [46]
        · have HN : Hid (∀ v, StackInv ps w2.heap.size w2 k v wr l → StackInv ps w2.heap.size w2 (k + 1) v wr l) := fun v h => ⟨by rw [HT.out]; unfold stepF; rw [if_pos e1], h.owns, h.bel, Nat.le_succ_of_le h.len, h.small⟩
          clear HT
          rcases e1 with e | e
          · obtain rfl := bytes_of e
            clear e
            go_wp2_with fail
            go_roundw
            case rel => exact ⟨k + 1, by omega, by go_num, l, HN.out _ H.out⟩
            case measure => simp [intOf]; omega
          · obtain rfl := bytes_of e
            clear e
            go_wp2_with fail
            go_roundw
            case rel => exact ⟨k + 1, by omega, by go_num, l, HN.out _ H.out⟩
            case measure => simp [intOf]; omega
        · by_cases e2 : p.toList = [46, 46]
          · by_cases e3 : l.length = 0
            · have HE : Hid (fromB b s = none) := by
                show _ = _
                rw [HR.out, stack_fails ps (k + 1) (by rw [HT.out]; unfold stepF; rw [if_neg e1, if_pos e2, if_pos e3])]; rfl
              obtain ⟨A, c, rfl⟩ := row_shape H.out.owns
              rw [e3]
              have HB : Hid (Below w.heap.size w wr) := Hb2.out.trans (H.out.bel.mono Hb2.out.size)
              obtain rfl := bytes_of e2
              clear e2 e1 HT H e3
              go_wp2_with fail
              go_ret2
              exact ⟨by rw [HE.out]; rfl, HB.out⟩
            · obtain ⟨g, c, rfl, _, _⟩ := H.out.owns.form (by omega)
              have hnc := own_cap H.out.owns
              have HN : Hid (StackInv ps w2.heap.size w2 (k + 1) (.slice (some ⟨g, 0, none⟩) (l.length - 1) c) wr l.dropLast) :=
                ⟨by rw [HT.out]; unfold stepF; rw [if_neg e1, if_pos e2, if_neg e3], own_drop H.out.owns, H.out.bel, by rw [List.length_dropLast]; omega, fun x hx => H.out.small x (List.dropLast_subset l hx)⟩
              obtain rfl := bytes_of e2
              clear e2 e1 HT
              obtain ⟨n, hn⟩ : ∃ n, l.length = n + 1 := ⟨l.length - 1, by omega⟩
              rw [hn] at HN hnc
              rw [hn]
              rw [Nat.add_sub_cancel] at HN
              have hnc1 : n ≤ c := by omega
              have hc1 := hnc.2
              unfold maxLen at hc1
              have hnk : n + 1 ≤ k := by omega
              clear hn hnc hll H e3
              go_wp2_with fail
              go_roundw
              case rel => exact ⟨k + 1, by omega, by go_num, l.dropLast, HN⟩
              case measure => simp [intOf]; omega
          · have hown := H.out.owns
            have g1 : p.toList.isEmpty = false := by
              rw [List.isEmpty_eq_false_iff]; exact fun h => e1 (.inl h)
            have g2 : (p.toList == [46]) = false := beq_eq_false_iff_ne.2 fun h => e1 (.inr h)
            have g3 : (p.toList == [46, 46]) = false := beq_eq_false_iff_ne.2 e2
            have HN : Hid (stackOf (ps.take (k + 1)) = some (l ++ [p])) := by show _ = _; rw [HT.out]; unfold stepF; rw [if_neg e1, if_neg e2]
            have HO := Lib.hid hown
            have hbs : w2.heap.size ≤ wr.heap.size := H.out.bel.size
            clear hown e1 e2 HT
            go_wp2_with (at_builtin; refine wpList_append_own _ rfl _ _ 68 rfl w2.heap.size 9 i0 (.string ⟨#[]⟩) 1 16 Tryd.underlying68 HI.out.1 HI.out.2.1 HI.out.2.2.1 HI.out.2.2.2 rfl (by decide) _ _ _ rfl (HO.out.alloc _) ⟨wr.heap.size, 0, none⟩ 1 1 [.string p] rfl rfl (cell_one_new _ _ _) (fun u hu => by simp at hu; subst hu; rfl) (by unfold maxLen; omega) (by omega) (by simp; omega) ?_; intro v' w3 hown1 hgrow1 hnil1)
            have HP : Hid (StackInv ps w2.heap.size w2 (k + 1) v' w3 (l ++ [p])) := by
              refine ⟨HN.out, by simpa using hown1, ?_, by simp; omega, fun x hx => ?_⟩
              · exact (H.out.bel.alloc H.out.bel.size _).grown hgrow1 (by simp; omega) (fun g hg => (H.out.owns.lt g hg).1)
              · rcases List.mem_append.1 hx with h | h
                · exact H.out.small x h
                · rw [List.mem_singleton.1 h]; exact HZ1
            clear hown1 hgrow1 hnil1
            go_wp2_with fail
            go_roundw
            case rel => exact ⟨k + 1, by omega, by go_num, _, HP⟩
            case measure => simp [intOf]; omega
      · obtain rfl : k = ps.length := by omega
        have HB : Hid (Below w.heap.size w wr) := Hb2.out.trans (H.out.bel.mono Hb2.out.size)
        have HST : Hid (fromB b s = fromL l) := by
          show _ = _
          have := H.out.st
          rw [List.take_of_length_le (Nat.le_refl _)] at this
          rw [HR.out, this]; rfl
        have hll := H.out.len
        have hjn := join_size 2097152 l H.out.small
        have hjm : l.length * (2097152 + 1) ≤ 2097153 * 2097153 := Nat.mul_le_mul_right _ (by omega)
        obtain ⟨A, c, rfl⟩ := row_shape H.out.owns
        have HJC := Lib.hid (join_any l wr H.out.owns (by omega) (by omega))
        obtain ⟨jb, hjb⟩ : ∃ jb : ByteArray, jb = ⟨(Lib.join (l.map (·.data.toList)) [47]).toArray⟩ := ⟨_, rfl⟩
        have hjs : jb.size ≤ 2097153 * 2097153 := by
          have : jb.size = (Lib.join (l.map (·.data.toList)) [47]).length := by rw [hjb]; show (List.toArray _).size = _; rw [List.size_toArray]
          omega
        have HJB : Hid ((⟨#[47]⟩ ++ jb : ByteArray) = joinedB l) := by
          show _ = _
          rw [hjb]
          apply ByteArray.ext
          rw [ByteArray.data_append]
          unfold joinedB
          simp
        rw [← hjb] at HJC
        have hap : ((⟨#[47]⟩ ++ jb : ByteArray)).size ≤ 4398050705410 := by rw [ByteArray.size_append]; show 1 + jb.size ≤ _; omega
        have hl1 : l.length ≤ 2097153 := by omega
        have hjz : jb.size ≤ 4398050705409 := by omega
        clear hjb hjn hjm H hjs
        have HPa := Lib.hid (fun w hm => path_any (⟨#[47]⟩ ++ jb : ByteArray) (by unfold maxLen; omega) m w hm)
        have HM3 : Hid (wr.cell? ⟨0, 0, none⟩ = some (.int .i64 m)) := (HB.out.cell (p := ⟨0, 0, none⟩) hg).trans HM.out
        have hgr : 0 < wr.heap.size := Nat.lt_of_lt_of_le hg HB.out.size
        clear hap
        cases hpb : pathB (⟨#[47]⟩ ++ jb : ByteArray) with
        | true =>
          have HE : Hid (fromB b s = some (⟨#[47]⟩ ++ jb)) := by
            show _ = _
            rw [HST.out]; unfold fromL; rw [← HJB.out, if_pos hpb]
          rw [hpb] at HPa
          clear hpb HST HJB
          go_wp2_with (first
            | (go_at_call 35; refine HJC.out.mono ?_; rintro e w3 ⟨rfl, hb3⟩)
            | (go_at_call 16; refine (HPa.out _ ((hb3.cell (p := ⟨0, 0, none⟩) hgr).trans HM3.out)).mono ?_; rintro e w4 ⟨rfl, hb4⟩))
          go_ret2
          have h1 := HB.out.trans (hb3.mono HB.out.size)
          exact ⟨by rw [HE.out]; rfl, h1.trans (hb4.mono h1.size)⟩
        | false =>
          have HE : Hid (fromB b s = none) := by
            show _ = _
            rw [HST.out]; unfold fromL; rw [← HJB.out, if_neg (by rw [hpb]; decide)]
          rw [hpb] at HPa
          clear hpb HST HJB
          go_wp2_with (first
            | (go_at_call 35; refine HJC.out.mono ?_; rintro e w3 ⟨rfl, hb3⟩)
            | (go_at_call 16; refine (HPa.out _ ((hb3.cell (p := ⟨0, 0, none⟩) hgr).trans HM3.out)).mono ?_; rintro e w4 ⟨rfl, hb4⟩))
          go_ret2
          have h1 := HB.out.trans (hb3.mono HB.out.size)
          exact ⟨by rw [HE.out]; rfl, h1.trans (hb4.mono h1.size)⟩
end Go.Proofs.YtbiclpkoocjjfaaDoor
