/- The reference's From: its walk. -/
import Derived.Test.YtbiclpkoocjjfaaDoorFromW
import Derived.Test.YtbiclpkoocjjfaaDoorDiskR
namespace Go.Proofs.YtbiclpkoocjjfaaDoor
open Go.RowKit

def RCutF (w : World) (f : ByteArray) (x : Value) (wx : World) : Prop :=
  ∃ g cap, x = .slice (some ⟨g, 0, none⟩) ((partsOf f).length : Nat) cap ∧ (∀ k (hk : k < (partsOf f).length), wx.cell? ⟨g, k, none⟩ = some (.string (partsOf f)[k])) ∧ g < wx.heap.size ∧ Below w.heap.size w wx
theorem parts_pos (s : ByteArray) : 0 < (partsOf s).length := by
  have h := partsOf_data s
  have : (partsOf s).length = (splitS s.data.toList).length := by rw [← h, List.length_map]
  rw [this]
  exact List.length_pos_iff.2 (splitS_ne _)
theorem add_off (g j : Nat) : (⟨g, 0, none⟩ : Addr).add j = ⟨g, j, none⟩ := by unfold Addr.add; split <;> simp_all
theorem rcut_of {w wx : World} {f : ByteArray} {v : Value} {base : Nat} {n : Nat} {e : TypeId} (hown : wx.ownsRow base e 1 v n ((partsOf f).map Value.string)) (hn : n = (partsOf f).length) (hb : Below w.heap.size w wx) : RCutF w f v wx := by
  subst hn
  obtain ⟨g, cap, rfl, _, hlt⟩ := hown.form (parts_pos f)
  refine ⟨g, cap, rfl, fun k hk => ?_, hlt, hb⟩
  have := hown.cells (g := g) rfl k (.string (partsOf f)[k]) (by rw [List.getElem?_map, List.getElem?_eq_getElem hk]; rfl)
  rw [add_off] at this
  exact this
theorem catB_snoc (l : List ByteArray) (k : Nat) (h : k < l.length) : catB (l.take (k + 1)) = catB (l.take k) ++ (⟨#[47]⟩ ++ l[k]) := by
  apply ByteArray.ext
  rw [ByteArray.data_append, ByteArray.data_append]
  unfold catB
  rw [List.take_succ_eq_append_getElem h, catL_snoc]
  apply Array.toList_inj.1
  simp

theorem own_below {w w' : World} {base size n : Nat} {e : TypeId} {v : Value} {xs : List Value} (h : w.ownsRow base e size v n xs) (hb : Below w.heap.size w w') : w'.ownsRow base e size v n xs := by
  obtain ⟨hx, ⟨rfl, rfl⟩ | ⟨g, cap, cur, rfl, hg, hh, r⟩⟩ := h
  · exact ⟨hx, .inl ⟨rfl, rfl⟩⟩
  · exact ⟨hx, .inr ⟨g, cap, cur, rfl, hg, (hb.block g (by have := Array.getElem?_eq_some_iff.1 hh; exact this.1)).trans hh, r⟩⟩
theorem strs_one (l : List ByteArray) : ∀ u ∈ l.map Value.string, u.oneCell' = true := by
  intro u hu
  obtain ⟨x, _, rfl⟩ := List.mem_map.1 hu
  rfl
theorem below_nil {w w' : World} (h : w.grownBy w' (Value.slice none 0 0).ownBlock) : Below w.heap.size w w' :=
  (Below.refl _ _).grown h (Nat.le_refl _) (fun k hk => by simp [Value.ownBlock] at hk)

/-- What an element of the stack reads as. -/
theorem Reads.of_own' {w : World} {base : Nat} {e : TypeId} {v : Value} {l : List ByteArray} (h : w.ownsRow base e 1 v l.length (l.map Value.string)) : ∀ k (hk : k < l.length), ∃ g c, v = .slice (some ⟨g, 0, none⟩) l.length c ∧ w.cell? ⟨g, k, none⟩ = some (.string l[k]) := by
  intro k hk
  obtain ⟨g, c, rfl, _, hlt⟩ := h.form (by omega)
  refine ⟨g, c, rfl, ?_⟩
  have := h.cells (g := g) rfl k (.string l[k]) (by rw [List.getElem?_map, List.getElem?_eq_getElem hk]; rfl)
  rw [add_off] at this
  exact this
set_option maxRecDepth 100000 in
set_option maxHeartbeats 4000000 in
theorem rfrom_no (b s : ByteArray) (hb : b.size ≤ 1048576) (h : pathB b = false) (w : World) :
    Calls Tryd.prog 19 #[.string b, .string s] w (FromPost b s w) := by
  have HP := Lib.hid (rpath_any b (by unfold maxLen; omega) w)
  have HR : Hid (fromB b s = none) := by show _ = _; unfold fromB; rw [if_pos h]
  rw [h] at HP
  clear h
  go_enter Tryd.func19, Tryd.ntmps19
  go_wp2_with (go_at_call 20; refine HP.out.mono ?_; rintro e w1 ⟨rfl, hb1⟩)
  go_ret2
  exact ⟨by rw [HR.out]; rfl, hb1⟩

set_option maxRecDepth 100000 in
set_option maxHeartbeats 4000000 in
theorem rfrom_yes (b s : ByteArray) (hb : b.size ≤ 1048576) (hs : s.size ≤ 1048576) (h : pathB b = true) (w : World) :
    Calls Tryd.prog 19 #[.string b, .string s] w (FromPost b s w) := by
  have HP := Lib.hid (rpath_any b (by unfold maxLen; omega) w)
  have HR : Hid (fromB b s = (stackOf (partsOf (fullB b s))).bind fromL) := by show _ = _; unfold fromB; rw [h]; rfl
  rw [h] at HP
  have hfs := full_size b s
  have HX := Lib.hid (parts_any s (by omega))
  have HY := Lib.hid (parts_any b (by omega))
  clear h
  obtain ⟨i0, hi0, hz0, hz1, hz2⟩ := info_parts string_info
  have HI := Lib.hid (And.intro hi0 (And.intro hz0 (And.intro hz1 hz2))); clear hi0 hz0 hz1 hz2
  go_enter Tryd.func19, Tryd.ntmps19
  go_wp2_with fail
  refine HP.out.mono ?_
  rintro e w1 ⟨rfl, hb1⟩
  have Hb1 := Lib.hid hb1
  clear hb1
  go_wp2_with fail
  refine (HX.out _).mono ?_
  rintro e w2 ⟨v, ps, rfl, hpi⟩
  obtain rfl := hpi.parts
  have Hpi := Lib.hid hpi
  have Hb2 : Hid (Below w.heap.size w w2) := Hb1.out.trans (hpi.bel.mono Hb1.out.size)
  clear hpi
  have hpl := partsOf_length s
  have hpb := partsOf_length b
  have hppb := parts_pos b
  have hbs2 := Hb2.out.size
  have hcase : (0 < s.size ∧ Lib.hasPrefix s.data.toList [47] = true) ∨ (Lib.hasPrefix s.data.toList [47] = false) := by
    cases hq : Lib.hasPrefix s.data.toList [47] with
    | false => exact .inr rfl
    | true =>
      refine .inl ⟨?_, rfl⟩
      rcases Nat.eq_zero_or_pos s.size with h0 | h0
      · have : s.data.toList = [] := List.eq_nil_of_length_eq_zero (by rw [← Lib.size_eq]; exact h0)
        rw [this] at hq; cases hq
      · exact h0
  rcases hcase with ⟨hsz, hq⟩ | hq
  case' inl =>
    have h47 : s[0] = 47 := by have := hasPrefix_slash s hsz; rw [hq] at this; simpa using this.symm
    have g0 : ((s.size : Int) == 0) = false := beq_eq_false_iff_ne.2 (by omega)
    have g1 : ((s[0].toNat : Int) == 47) = true := by rw [h47]; rfl
    have g2 : ((s[0].toNat : Int) != 47) = false := by rw [h47]; rfl
    have HC : Hid (RCutF w (fullB b s) v w2) := by
      have : fullB b s = s := by unfold fullB; rw [if_pos hq]
      rw [this]
      exact rcut_of Hpi.out.owns rfl Hb2.out
    clear h47 hq HX HY Hpi HP Hb2 hbs2
    generalize fullB b s = f at *
    go_wp2_with fail
    obtain ⟨wx, hwx⟩ : ∃ wx, wx = w2 := ⟨_, rfl⟩
    subst hwx
  case' inr =>
    have HC1 : Hid (partsOf (fullB b s) = (partsOf b).dropLast ++ partsOf s) := by
      show _ = _
      rw [← full_parts b s hq]; unfold fullB; rw [if_neg (by rw [hq]; decide)]
    have hg : (((s.size : Int) == 0) = true) ∨ (0 < s.size ∧ ((s.size : Int) == 0) = false ∧ ∀ h : 0 < s.size, ((s[0].toNat : Int) != 47) = true) := by
      rcases Nat.eq_zero_or_pos s.size with h0 | h0
      · exact .inl (by rw [h0]; rfl)
      · refine .inr ⟨h0, beq_eq_false_iff_ne.2 (by omega), fun h => ?_⟩
        have := hasPrefix_slash s h0
        rw [hq] at this
        have hne : s[0] ≠ 47 := by simpa using this.symm
        rw [bne_iff_ne]
        exact fun e => hne (UInt8.toNat_inj.1 (by have : (47 : UInt8).toNat = 47 := rfl; omega))
    clear hq HP
    generalize fullB b s = f at *
    obtain ⟨n, hn⟩ : ∃ n, (partsOf b).length = n + 1 := ⟨(partsOf b).length - 1, by omega⟩
    have Hn := Lib.hid hn
    rw [hn] at hpb
    clear hn hppb
    rcases hg with g0 | ⟨hs0, g0, g1⟩
    case' inr => replace g1 := g1 hs0
    all_goals
      go_wp2_with fail
      refine (HY.out _).mono ?_
      rintro e w3 ⟨v3, ps3, rfl, hpi3⟩
      obtain rfl := hpi3.parts
      have ho3 := hpi3.owns
      obtain ⟨g3, c3, rfl, hg3, hl3⟩ := ho3.form (parts_pos b)
      obtain ⟨hnc, hcm⟩ := own_cap ho3
      have hd3 : w3.ownsRow w2.heap.size 9 1 (.slice (some ⟨g3, 0, none⟩) n c3) n ((partsOf b).dropLast.map Value.string) := by
        have := own_drop ho3
        rw [List.length_dropLast, Hn.out, Nat.add_sub_cancel] at this
        exact this
      have HD3 := Lib.hid (Reads.of_own hd3)
      rw [Hn.out] at hnc
      rw [Hn.out]
      have hlen3 : (partsOf b).dropLast.length = n := by rw [List.length_dropLast, Hn.out]; rfl
      have HB3 : Hid (Below w.heap.size w w3) := Hb2.out.trans (hpi3.bel.mono Hb2.out.size)
      have HO2 : Hid (w3.ownsRow w1.heap.size 9 1 v (partsOf s).length ((partsOf s).map Value.string)) := own_below Hpi.out.owns hpi3.bel
      have HL3 := Lib.hid hlen3
      have HS1 := Lib.hid (strs_one (partsOf b).dropLast)
      have HS2 := Lib.hid (strs_one (partsOf s))
      have hb3s := HB3.out.size
      obtain ⟨A, c, rfl⟩ := row_shape Hpi.out.owns
      unfold maxLen at hcm
      clear ho3 hd3 hlen3 hpi3 Hpi HX HY
      go_wp2_with (first
        | (at_builtin; refine wpList_append_any _ rfl (.const (.slice none 0 0)) (.tmp 31) _ rfl w.heap.size 9 i0 (.string ⟨#[]⟩) 1 16 Tryd.underlying68 HI.out.1 HI.out.2.1 HI.out.2.2.1 HI.out.2.2.2 rfl (by decide) (.slice none 0 0) 0 [] rfl (World.ownsRow_nil _ _ _ _) w3.heap.size (some ⟨g3, 0, none⟩) n c3 _ rfl HD3.out HS1.out (by unfold maxLen; omega) (by omega) hb3s ?_; intro v4 w4 hown4 hg4 hat4; have HB4 : Hid (Below w3.heap.size w3 w4) := below_nil hg4)
        | (at_builtin; refine wpList_append_any _ rfl (.tmp 32) (.tmp 33) _ rfl w.heap.size 9 i0 (.string ⟨#[]⟩) 1 16 Tryd.underlying68 HI.out.1 HI.out.2.1 HI.out.2.2.1 HI.out.2.2.2 rfl (by decide) v4 (0 + n) ([] ++ (partsOf b).dropLast.map Value.string) rfl hown4 w4.heap.size A (partsOf s).length c ((partsOf s).map Value.string) rfl (Reads.of_own (own_below HO2.out HB4.out)) HS2.out (by unfold maxLen; omega) (by omega) (Nat.le_trans hb3s HB4.out.size) ?_; intro v5 wx hown5 hg5 hat5))
      have HC : Hid (RCutF w f v5 wx) := by
        refine rcut_of (n := 0 + n + (partsOf s).length) (base := w.heap.size) (e := 9) ?_ ?_ ?_
        · rw [HC1.out, List.map_append]; exact hown5
        · rw [HC1.out, List.length_append, HL3.out]; omega
        · have h4 := HB3.out.trans (HB4.out.mono HB3.out.size)
          refine h4.grown hg5 h4.size (fun k hk => ?_)
          rcases hat4 with e | e
          · rw [e] at hk; simp [Value.ownBlock] at hk
          · rw [e] at hk
            have : w3.heap.size = k := Option.some.inj hk
            omega
      clear hown5 hg5 hat5 hown4 hg4 hat4 HB4 HC1 HL3 HS1 HS2 HO2 HD3 Hn
      obtain ⟨v, hvv⟩ : ∃ v, v = v5 := ⟨_, rfl⟩
      subst hvv
      go_wp2_with fail
  all_goals
    obtain ⟨g, cap, rfl, hcells, hgl, hbx⟩ := HC.out
    have HCell := Lib.hid hcells
    have HBx := Lib.hid hbx
    have hpf := partsOf_length f
    have HZ : Hid (∀ x ∈ partsOf f, x.size ≤ 2097152) := fun x hx => by have := parts_size f x hx; omega
    clear HC hcells hbx
    generalize partsOf f = ps at *
    go_loopw [8, 9] (fun v i wr => ∃ k : Nat, k ≤ ps.length ∧ i = .int .i64 (k : Nat) ∧ ∃ l, Hid (StackInv ps wx.heap.size wx k v wr l)) (fun _ i _ => ps.length - (intOf i).toNat)
    case atStart => exact ⟨0, Nat.zero_le _, rfl, [], ⟨rfl, World.ownsRow_nil _ _ _ _, Below.refl _ _, Nat.le_refl _, fun x h => by cases h⟩⟩
    case round =>
      obtain ⟨k, hk, rfl, l, H⟩ := hrel
      by_cases hlt : k < ps.length
      · have hltI : (k : Int) < (ps.length : Int) := by omega
        have hc : wr.cell? ⟨g, k, none⟩ = some (.string ps[k]) := (H.out.bel.cell (p := ⟨g, k, none⟩) hgl).trans (HCell.out k hlt)
        have HT : Hid (stackOf (ps.take (k + 1)) = stepF l ps[k]) := by show _ = _; rw [stack_take ps k hlt, H.out.st]; rfl
        have HZ1 := HZ.out ps[k] (List.getElem_mem hlt)
        have hll := H.out.len
        generalize ps[k] = p at *
        by_cases e1 : p.toList = [] ∨ p.toList = [46]
        · have HN : Hid (∀ v, StackInv ps wx.heap.size wx k v wr l → StackInv ps wx.heap.size wx (k + 1) v wr l) := fun v h => ⟨by rw [HT.out]; unfold stepF; rw [if_pos e1], h.owns, h.bel, Nat.le_succ_of_le h.len, h.small⟩
          clear HT
          rcases e1 with e | e
          · obtain rfl := bytes_of e
            clear e
            go_wp2_with fail
            go_roundw
            case rel => exact ⟨k + 1, by omega, by go_num, l, HN.out _ H.out⟩
            case measure => simp [intOf]; omega
          · obtain rfl := bytes_of e
            clear e
            go_wp2_with fail
            go_roundw
            case rel => exact ⟨k + 1, by omega, by go_num, l, HN.out _ H.out⟩
            case measure => simp [intOf]; omega
        · by_cases e2 : p.toList = [46, 46]
          · by_cases e3 : l.length = 0
            · have HE : Hid (fromB b s = none) := by
                show _ = _
                rw [HR.out, stack_fails ps (k + 1) (by rw [HT.out]; unfold stepF; rw [if_neg e1, if_pos e2, if_pos e3])]; rfl
              obtain ⟨A, c, rfl⟩ := row_shape H.out.owns
              rw [e3]
              have HB : Hid (Below w.heap.size w wr) := HBx.out.trans (H.out.bel.mono HBx.out.size)
              obtain rfl := bytes_of e2
              clear e2 e1 HT H e3
              go_wp2_with fail
              go_ret2
              exact ⟨by rw [HE.out]; rfl, HB.out⟩
            · obtain ⟨g', c, rfl, _, _⟩ := H.out.owns.form (by omega)
              have hnc := own_cap H.out.owns
              have HN : Hid (StackInv ps wx.heap.size wx (k + 1) (.slice (some ⟨g', 0, none⟩) (l.length - 1) c) wr l.dropLast) :=
                ⟨by rw [HT.out]; unfold stepF; rw [if_neg e1, if_pos e2, if_neg e3], own_drop H.out.owns, H.out.bel, by rw [List.length_dropLast]; omega, fun x hx => H.out.small x (List.dropLast_subset l hx)⟩
              obtain rfl := bytes_of e2
              clear e2 e1 HT
              obtain ⟨n', hn⟩ : ∃ n, l.length = n + 1 := ⟨l.length - 1, by omega⟩
              rw [hn] at HN hnc
              rw [hn]
              rw [Nat.add_sub_cancel] at HN
              have hnc1 : n' ≤ c := by omega
              have hc1 := hnc.2
              unfold maxLen at hc1
              have hnk : n' + 1 ≤ k := by omega
              clear hn hnc hll H e3
              go_wp2_with fail
              go_roundw
              case rel => exact ⟨k + 1, by omega, by go_num, l.dropLast, HN⟩
              case measure => simp [intOf]; omega
          · have hown := H.out.owns
            have g1 : p.toList.isEmpty = false := by
              rw [List.isEmpty_eq_false_iff]; exact fun h => e1 (.inl h)
            have g2 : (p.toList == [46]) = false := beq_eq_false_iff_ne.2 fun h => e1 (.inr h)
            have g3 : (p.toList == [46, 46]) = false := beq_eq_false_iff_ne.2 e2
            have HN : Hid (stackOf (ps.take (k + 1)) = some (l ++ [p])) := by show _ = _; rw [HT.out]; unfold stepF; rw [if_neg e1, if_neg e2]
            have HO := Lib.hid hown
            have hbs : wx.heap.size ≤ wr.heap.size := H.out.bel.size
            clear hown e1 e2 HT
            go_wp2_with (at_builtin; refine wpList_append_own _ rfl _ _ 68 rfl wx.heap.size 9 i0 (.string ⟨#[]⟩) 1 16 Tryd.underlying68 HI.out.1 HI.out.2.1 HI.out.2.2.1 HI.out.2.2.2 rfl (by decide) _ _ _ rfl (HO.out.alloc _) ⟨wr.heap.size, 0, none⟩ 1 1 [.string p] rfl rfl (cell_one_new _ _ _) (fun u hu => by simp at hu; subst hu; rfl) (by unfold maxLen; omega) (by omega) (by simp; omega) ?_; intro v' w3 hown1 hgrow1 hnil1)
            have HP : Hid (StackInv ps wx.heap.size wx (k + 1) v' w3 (l ++ [p])) := by
              refine ⟨HN.out, by simpa using hown1, ?_, by simp; omega, fun x hx => ?_⟩
              · exact (H.out.bel.alloc H.out.bel.size _).grown hgrow1 (by simp; omega) (fun g hg => (H.out.owns.lt g hg).1)
              · rcases List.mem_append.1 hx with h | h
                · exact H.out.small x h
                · rw [List.mem_singleton.1 h]; exact HZ1
            clear hown1 hgrow1 hnil1
            go_wp2_with fail
            go_roundw
            case rel => exact ⟨k + 1, by omega, by go_num, _, HP⟩
            case measure => simp [intOf]; omega
      · obtain rfl : k = ps.length := by omega
        have HB : Hid (Below w.heap.size w wr) := HBx.out.trans (H.out.bel.mono HBx.out.size)
        have HST : Hid (fromB b s = fromL l) := by
          show _ = _
          have := H.out.st
          rw [List.take_of_length_le (Nat.le_refl _)] at this
          rw [HR.out, this]; rfl
        have hll := H.out.len
        have hcb := catL_bound 2097152 l H.out.small
        have hcm2 : l.length * (2097152 + 1) ≤ 2097153 * 2097153 := Nat.mul_le_mul_right _ (by omega)
        have HSm : Hid (∀ x ∈ l, x.size ≤ 2097152) := H.out.small
        have HOw := Lib.hid (Reads.of_own' H.out.owns)
        obtain ⟨A', c', rfl⟩ := row_shape H.out.owns
        have hl1 : l.length ≤ 2097153 := by omega
        clear H hk hlt
        go_wp2_with fail
        go_loop [10, 11] (fun t i => ∃ k : Nat, k ≤ l.length ∧ i = .int .i64 (k : Nat) ∧ t = .string (catB (l.take k))) (fun _ i => l.length - (intOf i).toNat)
        case atStart => exact ⟨0, Nat.zero_le _, rfl, rfl⟩
        case round =>
          obtain ⟨k, hk, rfl, rfl⟩ := hrel
          have hTs := catB_size (l.take k)
          have hTl := catL_take l k
          have HFin : Hid ((k = l.length ∨ 512 < (catB (l.take k)).size) → fromB b s = if pathB (catB (l.take k)) = true then some (catB (l.take k)) else none) := fun h => by
            rw [HST.out, from_cat l k hk (h.imp id (fun h => by omega))]
          have hTb : (catB (l.take k)).size ≤ 4398050705409 := by omega
          clear hTs hTl
          by_cases hgo : k < l.length ∧ (catB (l.take k)).size ≤ 512
          · obtain ⟨hlt, h512⟩ := hgo
            obtain ⟨g', c2, hv, hcell⟩ := HOw.out k hlt
            simp only [Value.slice.injEq] at hv
            obtain ⟨rfl, _, rfl⟩ := hv
            have hsz := HSm.out l[k] (List.getElem_mem hlt)
            have HSn := Lib.hid (catB_snoc l k hlt)
            have hltI : (k : Int) < (l.length : Int) := by omega
            have h512I : ((catB (l.take k)).size : Int) ≤ 512 := by omega
            generalize l[k] = x at *
            generalize catB (l.take k) = T at *
            go_wp2_with fail
            go_round
            case rel => exact ⟨k + 1, by omega, by go_num, by rw [HSn.out]⟩
            case measure => simp [intOf]; omega
          · have HE := Lib.hid (HFin.out (by omega))
            have HPa := Lib.hid (rpath_any (catB (l.take k)) (by unfold maxLen; omega))
            have htest : ¬ ((k : Int) < (l.length : Int)) ∨ ((k : Int) < (l.length : Int) ∧ decide (((catB (l.take k)).size : Int) ≤ 512) = false) := by
              by_cases h1 : k < l.length
              · exact .inr ⟨by omega, decide_eq_false (by omega)⟩
              · exact .inl (by omega)
            clear hgo HFin
            generalize catB (l.take k) = T at *
            cases hpb : pathB T with
            | true =>
              rw [hpb] at HE HPa
              clear hpb
              rcases htest with t1 | ⟨t1, t2⟩
              case' inl => obtain rfl : k = l.length := by omega
              all_goals
                go_wp2_with (go_at_call 20; refine (HPa.out _).mono ?_; rintro e w4 ⟨rfl, hb4⟩)
                go_ret2
                exact ⟨by rw [HE.out]; rfl, HB.out.trans (hb4.mono HB.out.size)⟩
            | false =>
              rw [hpb] at HE HPa
              clear hpb
              rcases htest with t1 | ⟨t1, t2⟩
              case' inl => obtain rfl : k = l.length := by omega
              all_goals
                go_wp2_with (go_at_call 20; refine (HPa.out _).mono ?_; rintro e w4 ⟨rfl, hb4⟩)
                go_ret2
                exact ⟨by rw [HE.out]; rfl, HB.out.trans (hb4.mono HB.out.size)⟩
end Go.Proofs.YtbiclpkoocjjfaaDoor
