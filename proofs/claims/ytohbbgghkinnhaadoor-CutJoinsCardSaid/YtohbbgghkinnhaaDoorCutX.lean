/- CutJoins: the walk. -/
import Derived.Test.YtohbbgghkinnhaaDoorCutW
import Derived.Test.YtohbbgghkinnhaaDoorCutT
namespace Go.Proofs.YtohbbgghkinnhaaDoor
open Go.RowKit

/-- cut.Cut at any file: its pieces, or the error. -/
def CutPost (file : ByteArray) (w : World) (e : Ending) (w' : World) : Prop :=
  ∃ v er, e = .returned (.tuple #[v, .int .i64 er]) ∧ Below w.heap.size w w' ∧ ((er = 0 ∧ file.size ≤ 65536 ∧ PiecesAt w' w.heap.size file v (cut3 file.data.toList)) ∨ (er = 2 ∧ 65536 < file.size))
theorem cut_all (file : ByteArray) (hml : file.size ≤ maxLen) (m : Int) (w : World) (hL : Lib2 m w) : Calls Tryd.prog 8 #[.string file] w (CutPost file w) := by
  by_cases h : 65536 < file.size
  · exact (cut_long file h hml w).mono fun e w' ⟨he, hb⟩ => ⟨_, _, he, hb, .inr ⟨rfl, h⟩⟩
  · exact (cut_any file (by omega) m w hL).mono fun e w' ⟨v, he, hp, hb⟩ => ⟨_, _, he, hb, .inl ⟨rfl, by omega, hp⟩⟩

theorem app_data (a b : ByteArray) : (a ++ b).data.toList = a.data.toList ++ b.data.toList := by simp
theorem app_size (a b : ByteArray) : (a ++ b).size = a.size + b.size := by simp
def joinS (a b : ByteArray) : ByteArray := a ++ ⟨#[120, 63, 62, 60, 63, 61, 49, 63, 62]⟩ ++ b
theorem join_data (a b : ByteArray) : (joinS a b).data.toList = (a.data.toList ++ [120]) ++ (midB ++ b.data.toList) := by
  unfold joinS
  rw [app_data, app_data]
  simp [midB]
theorem join_size (a b : ByteArray) : (joinS a b).size = a.size + 9 + b.size := by
  unfold joinS
  rw [app_size, app_size]
  rfl
theorem join_text (a b : ByteArray) (x y : Nat) : (joinS a b).extract (a.size + 9 + x) (a.size + 9 + y) = b.extract x y := by
  apply WideShapes.bytes_inj
  rw [Lib.extract_data, Lib.extract_data, join_data, ← List.append_assoc]
  have hl : (a.data.toList ++ [120] ++ midB).length = a.size + 9 := by simp [midB, ← Lib.size_eq]
  rw [← hl, drop_shift]
  congr 1
  omega
theorem join_one (a b : ByteArray) : (joinS a b).extract (a.size + 6) (a.size + 7) = ⟨#[49]⟩ := by
  apply WideShapes.bytes_inj
  rw [Lib.extract_data, join_data, List.append_assoc]
  have hl : a.data.toList.length = a.size := (Lib.size_eq a).symm
  rw [show a.size + 6 = a.data.toList.length + 6 by omega, drop_shift]
  rw [show a.size + 7 - (a.data.toList.length + 6) = 1 by omega]
  rfl
/-- What CutJoins finds. -/
theorem join_found (a b : ByteArray) (hb : ∀ c t, b.data.toList = c :: t → c ≠ 10 ∧ c ≠ 13) (L M : List P3) (hL : cut3 (a ++ ⟨#[120]⟩ : ByteArray).data.toList = L) (hM : cut3 b.data.toList = M) (hl : lastHtml L) :
    (cut3 (joinS a b).data.toList).length = L.length + 1 + M.length ∧ (cut3 (joinS a b).data.toList).getD L.length default = ⟨3, a.size + 6, a.size + 7⟩ ∧
    ∀ i, i < M.length → (cut3 (joinS a b).data.toList).getD (L.length + 1 + i) default = shiftP (a.size + 9) (M.getD i default) := by
  have e : (a ++ ⟨#[120]⟩ : ByteArray).data.toList = a.data.toList ++ [120] := app_data a _
  rw [e] at hL
  subst hL hM
  have hla : (a.data.toList ++ [120]).length = a.size + 1 := by simp [← Lib.size_eq]
  obtain ⟨ps, h1, h2⟩ := join_cut a.data.toList b.data.toList hb _ 0 0 (Nat.le_refl _) (Nat.zero_le _) (Nat.le_refl _) hl
  have h3 : cut3 (joinS a b).data.toList = ps ++ ⟨3, a.size + 6, a.size + 7⟩ :: (cut3 b.data.toList).map (shiftP (a.size + 9)) := by
    unfold cut3
    rw [join_data, h2, hla]
    rfl
  have h1' : ps.length = (cut3 (a.data.toList ++ [120])).length := h1
  rw [h3, ← h1']
  refine ⟨by simp; omega, by simp [List.getD_eq_getElem?_getD], fun i hi => ?_⟩
  rw [List.getD_eq_getElem?_getD, List.getD_eq_getElem?_getD, List.getElem?_append_right (by omega), show ps.length + 1 + i - ps.length = i + 1 by omega, List.getElem?_cons_succ, List.getElem?_map, List.getElem?_eq_getElem hi]
  rfl
theorem last_of (L : List P3) (n : Nat) (h : L.length = n + 1) (hk : (L.getD n default).kind = 1) : lastHtml L := by
  rcases List.eq_nil_or_concat L with rfl | ⟨vs, v, rfl⟩
  · simp at h
  · refine ⟨vs, v, by simp, ?_⟩
    have : vs.length = n := by simpa using h
    subst this
    simpa [List.getD_eq_getElem?_getD] using hk
theorem head_not (b : ByteArray) (h : 0 < b.size) (h1 : b[0] ≠ 10) (h2 : b[0] ≠ 13) : ∀ c t, b.data.toList = c :: t → c ≠ 10 ∧ c ≠ 13 := by
  intro c t e
  have := drop_cons b 0 h
  rw [List.drop_zero, e] at this
  injection this with hc _
  subst hc
  exact ⟨h1, h2⟩

set_option maxRecDepth 100000 in
set_option maxHeartbeats 8000000 in
theorem joins_any (a b : ByteArray) (ha : a.size ≤ 140737488351232) (hb : b.size ≤ 140737488351232) (m : Int) (w : World) (hL : Lib2 m w) : Calls Tryd.prog 6 #[.string a, .string b] w fun e w' => e = .returned (.bool true) ∧ Below w.heap.size w w' := by
  have hax : (a ++ ⟨#[120]⟩ : ByteArray).size = a.size + 1 := app_size a _
  have hjs := join_size a b
  have HC1 := Lib.hid (cut_all (a ++ ⟨#[120]⟩) (by unfold maxLen; omega) m w hL)
  have HC2 := Lib.hid (cut_all b (by unfold maxLen; omega) m)
  have HC3 := Lib.hid (cut_all (joinS a b) (by unfold maxLen; omega) m)
  have HF := Lib.hid (join_found a b)
  have HT := Lib.hid (join_text a b)
  have HO := Lib.hid (join_one a b)
  have hj : a ++ ⟨#[120, 63, 62, 60, 63, 61, 49, 63, 62]⟩ ++ b = joinS a b := rfl
  have HL := Lib.hid hL; clear hL
  go_enter Tryd.func6, Tryd.ntmps6
  go_wp2_with fail
  generalize joinS a b = s at *
  generalize a ++ ⟨#[120]⟩ = ax at *
  clear hj
  refine HC1.out.mono ?_
  rintro e w1 ⟨v1, er1, rfl, hb1, hr1⟩
  have HL1 := Lib.hid (HL.out.below hb1)
  have Hb1 := Lib.hid hb1
  clear hb1 HC1 HL
  go_wp2_with fail
  refine (HC2.out w1 HL1.out).mono ?_
  rintro e w2 ⟨v2, er2, rfl, hb2, hr2⟩
  have HL2 := Lib.hid (HL1.out.below hb2)
  have Hb2 := Lib.hid hb2
  clear hb2 HC2 HL1
  go_wp2_with fail
  refine (HC3.out w2 HL2.out).mono ?_
  rintro e w3 ⟨v3, er3, rfl, hb3, hr3⟩
  have HL3 := Lib.hid (HL2.out.below hb3)
  have Hb3 := Lib.hid hb3
  have Hw3 := Lib.hid ((Hb1.out.trans (Hb2.out.mono Hb1.out.size)).trans (hb3.mono (Nat.le_trans Hb1.out.size Hb2.out.size)))
  clear hb3 HC3 HL2
  by_cases hbig : 65536 < s.size
  · obtain rfl : er3 = 2 := by
      rcases hr3 with ⟨_, h, _⟩ | ⟨h, _⟩
      · omega
      · exact h
    have h1 : er1 = 0 ∨ er1 = 2 := hr1.imp And.left And.left
    have h2 : er2 = 0 ∨ er2 = 2 := hr2.imp And.left And.left
    clear hr1 hr2 hr3 HF HT HO
    rcases h1 with rfl | rfl <;> rcases h2 with rfl | rfl
    all_goals
      go_wp2_with (go_at_call 11; refine (alive_any m _ HL3.out).mono ?_; rintro e w4 ⟨rfl, hb4⟩)
      go_ret
      exact ⟨rfl, Hw3.out.trans (hb4.mono Hw3.out.size)⟩
  · have H1 : er1 = 0 ∧ Hid (PiecesAt w1 w.heap.size ax v1 (cut3 ax.data.toList)) := by
      rcases hr1 with ⟨h, _, hp⟩ | ⟨_, h⟩
      · exact ⟨h, hp⟩
      · omega
    have H2 : er2 = 0 ∧ Hid (PiecesAt w2 w1.heap.size b v2 (cut3 b.data.toList)) := by
      rcases hr2 with ⟨h, _, hp⟩ | ⟨_, h⟩
      · exact ⟨h, hp⟩
      · omega
    have H3 : er3 = 0 ∧ Hid (PiecesAt w3 w2.heap.size s v3 (cut3 s.data.toList)) := by
      rcases hr3 with ⟨h, _, hp⟩ | ⟨_, h⟩
      · exact ⟨h, hp⟩
      · omega
    have hf1 := cut3_few ax (by omega)
    have hf2 := cut3_few b (by omega)
    have HK := Lib.hid (kind_at ax.data.toList)
    have HK2 := Lib.hid (kind_at b.data.toList)
    have hok := okP_cut3 b.data.toList
    rw [← Lib.size_eq] at hok
    have HO2 := Lib.hid hok
    clear hok hr1 hr2 hr3
    obtain ⟨rfl, H1⟩ := H1
    obtain ⟨rfl, H2⟩ := H2
    obtain ⟨rfl, H3⟩ := H3
    obtain ⟨L, hLd⟩ : ∃ L, cut3 ax.data.toList = L := ⟨_, rfl⟩
    obtain ⟨M, hMd⟩ : ∃ M, cut3 b.data.toList = M := ⟨_, rfl⟩
    have HLd := Lib.hid hLd
    have HMd := Lib.hid hMd
    rw [hLd] at H1 HK hf1
    rw [hMd] at H2 HK2 hf2 HO2
    clear hLd hMd
    obtain ⟨A1, c1, rfl, hA1⟩ := ((H1.out.below Hb2.out).below Hb3.out).shape
    obtain ⟨A2, c2, rfl, hA2⟩ := (H2.out.below Hb3.out).shape
    obtain ⟨A3, c3, rfl, hA3⟩ := H3.out.shape
    have HA1 := Lib.hid hA1
    have HA2 := Lib.hid hA2
    have HA3 := Lib.hid hA3
    clear hA1 hA2 hA3 H1 H2 H3 Hb1 Hb2 Hb3
    cases hLn : L.length with
    | zero =>
      rw [hLn] at *
      clear HF HT HO HA1 HA2 HA3
      go_wp2_with (go_at_call 11; refine (alive_any m _ HL3.out).mono ?_; rintro e w4 ⟨rfl, hb4⟩)
      go_ret
      exact ⟨rfl, Hw3.out.trans (hb4.mono Hw3.out.size)⟩
    | succ n =>
      obtain ⟨g1, rfl, _, p0, _, _⟩ := HA1.out n (by omega)
      have hkd := HK.out n (by omega)
      obtain ⟨kd, hkk⟩ : ∃ kd, (L.getD n default).kind = kd := ⟨_, rfl⟩
      rw [hkk] at p0 hkd
      have hn0 : ((n : Int) + 1 == 0) = false := by simp; omega
      by_cases hk1 : kd = 1
      · subst hk1
        have HLast := Lib.hid (last_of L n hLn hkk)
        clear hkk HA1 hkd
        have hbI : ¬ (65536 : Int) < 0 := by omega
        by_cases hz : b.size = 0
        · have k6 : b.toList.isEmpty = true := by
            rw [Lib.toList_data, List.isEmpty_iff]; exact List.eq_nil_of_length_eq_zero (by have := Lib.size_eq b; omega)
          have HBn : Hid (∀ c t, b.data.toList = c :: t → c ≠ 10 ∧ c ≠ 13) := fun c t e => by have := Lib.size_eq b; rw [e] at this; simp at this; omega
          clear hbI
          obtain ⟨hKl, hK0, hKi⟩ := HF.out HBn.out L M HLd.out HMd.out HLast.out
          rw [hLn] at hKl hK0 hKi
          have HKi := Lib.hid hKi
          clear hKi HF HBn HLast HLd HMd HK
          generalize cut3 s.data.toList = K at *
          obtain ⟨g3, rfl, _, z0, z1, z2⟩ := HA3.out (n + 1) (by omega)
          rw [hK0] at z0 z1 z2
          simp only at z0 z1 z2
          rw [HO.out] at z1
          clear hK0 HO
          have hKlI : ((K.length : Int) != (n : Int) + 1 + 1 + (M.length : Int)) = false := by simp; omega
          have HKl := Lib.hid hKl
          have hnb : n ≤ 131072 := by omega
          have zl : n + 1 < K.length := by omega
          have hKs : K.length ≤ 262148 := by omega
          clear hKl
          have z2' : w3.cell? ⟨g3, (n + 1) * 3 + 2, none⟩ = some (.int .i64 ((a.size : Int) + 6)) := z2
          have z0' : w3.cell? ⟨g3, (n + 1) * 3, none⟩ = some (.int .i64 3) := z0
          have p0' : w3.cell? ⟨g1, n * 3, none⟩ = some (.int .i64 1) := p0
          clear z0 z2 p0
          go_wp2_with fail
          go_loopw [95] (fun i wx => ∃ j : Nat, j ≤ M.length ∧ i = .int .i64 j ∧ Hid (Below w3.heap.size w3 wx)) (fun i _ => M.length - (intOf i).toNat)
          case atStart => exact ⟨0, Nat.zero_le _, rfl, Below.refl _ _⟩
          case round =>
            obtain ⟨j, hj, rfl, HB⟩ := hrel
            clear z0' z1 z2' p0'
            by_cases hlt : j < M.length
            · obtain ⟨g2, rfl, _, y0, y1, y2⟩ := HA2.out j hlt
              obtain ⟨g3', hg3, _, x0, x1, x2⟩ := HA3.out (n + 1 + 1 + j) (by have := HKl.out; omega)
              obtain rfl : g3 = g3' := by simpa using hg3
              have hkd := HK2.out j hlt
              obtain ⟨_, o2, o3, _⟩ := okP_at j HO2.out hlt
              rw [HKi.out j hlt] at x0 x1 x2
              have hg2l := World.block_lt_of_cell? w3 _ y0
              have hg3l := World.block_lt_of_cell? w3 _ x0
              have y0 := (HB.out.cell (p := ⟨g2, j * 3, none⟩) hg2l).trans y0
              have y1 := (HB.out.cell (p := ⟨g2, j * 3 + 1, none⟩) hg2l).trans y1
              have y2 := (HB.out.cell (p := ⟨g2, j * 3 + 2, none⟩) hg2l).trans y2
              have x0 := (HB.out.cell (p := ⟨g3, (n + 1 + 1 + j) * 3, none⟩) hg3l).trans x0
              have x1 := (HB.out.cell (p := ⟨g3, (n + 1 + 1 + j) * 3 + 1, none⟩) hg3l).trans x1
              have x2 := (HB.out.cell (p := ⟨g3, (n + 1 + 1 + j) * 3 + 2, none⟩) hg3l).trans x2
              clear hg3 HKi HA2 HA3
              generalize M.getD j default = p at *
              obtain ⟨kd, pa, pb⟩ := p
              simp only [shiftP] at *
              rw [HT.out] at x1
              have e2 : ((a.size + 9 + pa : Nat) : Int) = (pa : Int) + ((a.size : Int) + 9) := by omega
              rw [e2] at x2
              clear e2
              have hjb : j ≤ 131073 := by omega
              have hjl : n + 1 + 1 + j < K.length := by have := HKl.out; omega
              obtain ⟨q, hq⟩ : ∃ q, n + 1 + 1 + j = q := ⟨_, rfl⟩
              rw [hq] at x0 x1 x2 hjl
              have hqn : IntKind.i64.wrap ((n : Int) + 1 + 1) = (n : Int) + 1 + 1 := IntWalk.i64_in _ (by omega)
              have hqI : IntKind.i64.wrap ((n : Int) + 1 + 1 + (j : Int)) = (q : Int) := by rw [IntWalk.i64_in _ (by omega)]; omega
              generalize b.extract pa pb = tx at *
              have nl := World.block_lt_of_cell? wr _ x0
              have nc : ∀ k, (wr.alloc (.cells #[.int .i64 (kd : Int), .string tx, .int .i64 ((pa : Int) + ((a.size : Int) + 9))] 32)).cell? ⟨g3, k, none⟩ = wr.cell? ⟨g3, k, none⟩ := fun k => ((Below.refl wr.heap.size wr).alloc (Nat.le_refl _) _).cell (p := ⟨g3, k, none⟩) nl
              have Hlast : Hid (Below w3.heap.size w3 (wr.alloc (.cells #[.int .i64 (kd : Int), .string tx, .int .i64 ((pa : Int) + ((a.size : Int) + 9))] 32))) := HB.out.alloc HB.out.size _
              go_wp2_with fail
              go_quiet (fail)
              go_wp2_with fail
              go_roundw
              case rel => exact ⟨j + 1, by omega, by go_num, below_drewN Hlast.out _⟩
              case measure => simp [intOf]; omega
            · obtain rfl : j = M.length := by omega
              have HL4 := Lib.hid (HL3.out.below HB.out)
              have Hw4 := Lib.hid (Hw3.out.trans (HB.out.mono Hw3.out.size))
              clear HA2 HA3 HKi HT HO2 HK2 HKl
              go_wp2_with (go_at_call 11; refine (alive_any m _ HL4.out).mono ?_; rintro e w5 ⟨rfl, hb5⟩)
              go_ret
              exact ⟨rfl, Hw4.out.trans (hb5.mono Hw4.out.size)⟩
        · have k6 : b.toList.isEmpty = false := by
            rw [Lib.toList_data]
            cases h : b.data.toList with
            | nil => have := Lib.size_eq b; rw [h] at this; exact absurd this hz
            | cons _ _ => rfl
          have hb0 : 0 < b.size := by omega
          clear hbI
          by_cases h10 : b[0] = 10
          · have e10 : ((b[0].toNat : Int) == 10) = true := by rw [h10]; rfl
            clear HF HT HO HA2 HA3 h10
            go_wp2_with (go_at_call 11; refine (alive_any m _ HL3.out).mono ?_; rintro e w4 ⟨rfl, hb4⟩)
            go_ret
            exact ⟨rfl, Hw3.out.trans (hb4.mono Hw3.out.size)⟩
          · have e10 : ((b[0].toNat : Int) == 10) = false := ne_byte h10
            by_cases h13 : b[0] = 13
            · have e13 : ((b[0].toNat : Int) == 13) = true := by rw [h13]; rfl
              clear HF HT HO HA2 HA3 h10 h13
              go_wp2_with (go_at_call 11; refine (alive_any m _ HL3.out).mono ?_; rintro e w4 ⟨rfl, hb4⟩)
              go_ret
              exact ⟨rfl, Hw3.out.trans (hb4.mono Hw3.out.size)⟩
            · have e13 : ((b[0].toNat : Int) == 13) = false := ne_byte h13
              have HBn := Lib.hid (head_not b hb0 h10 h13)
              clear h10 h13
              obtain ⟨hKl, hK0, hKi⟩ := HF.out HBn.out L M HLd.out HMd.out HLast.out
              rw [hLn] at hKl hK0 hKi
              have HKi := Lib.hid hKi
              clear hKi HF HBn HLast HLd HMd HK
              generalize cut3 s.data.toList = K at *
              obtain ⟨g3, rfl, _, z0, z1, z2⟩ := HA3.out (n + 1) (by omega)
              rw [hK0] at z0 z1 z2
              simp only at z0 z1 z2
              rw [HO.out] at z1
              clear hK0 HO
              have hKlI : ((K.length : Int) != (n : Int) + 1 + 1 + (M.length : Int)) = false := by simp; omega
              have HKl := Lib.hid hKl
              have hnb : n ≤ 131072 := by omega
              have zl : n + 1 < K.length := by omega
              have hKs : K.length ≤ 262148 := by omega
              clear hKl
              have z2' : w3.cell? ⟨g3, (n + 1) * 3 + 2, none⟩ = some (.int .i64 ((a.size : Int) + 6)) := z2
              have z0' : w3.cell? ⟨g3, (n + 1) * 3, none⟩ = some (.int .i64 3) := z0
              have p0' : w3.cell? ⟨g1, n * 3, none⟩ = some (.int .i64 1) := p0
              clear z0 z2 p0
              go_wp2_with fail
              go_loopw [95] (fun i wx => ∃ j : Nat, j ≤ M.length ∧ i = .int .i64 j ∧ Hid (Below w3.heap.size w3 wx)) (fun i _ => M.length - (intOf i).toNat)
              case atStart => exact ⟨0, Nat.zero_le _, rfl, Below.refl _ _⟩
              case round =>
                obtain ⟨j, hj, rfl, HB⟩ := hrel
                clear z0' z1 z2' p0'
                by_cases hlt : j < M.length
                · obtain ⟨g2, rfl, _, y0, y1, y2⟩ := HA2.out j hlt
                  obtain ⟨g3', hg3, _, x0, x1, x2⟩ := HA3.out (n + 1 + 1 + j) (by have := HKl.out; omega)
                  obtain rfl : g3 = g3' := by simpa using hg3
                  have hkd := HK2.out j hlt
                  obtain ⟨_, o2, o3, _⟩ := okP_at j HO2.out hlt
                  rw [HKi.out j hlt] at x0 x1 x2
                  have hg2l := World.block_lt_of_cell? w3 _ y0
                  have hg3l := World.block_lt_of_cell? w3 _ x0
                  have y0 := (HB.out.cell (p := ⟨g2, j * 3, none⟩) hg2l).trans y0
                  have y1 := (HB.out.cell (p := ⟨g2, j * 3 + 1, none⟩) hg2l).trans y1
                  have y2 := (HB.out.cell (p := ⟨g2, j * 3 + 2, none⟩) hg2l).trans y2
                  have x0 := (HB.out.cell (p := ⟨g3, (n + 1 + 1 + j) * 3, none⟩) hg3l).trans x0
                  have x1 := (HB.out.cell (p := ⟨g3, (n + 1 + 1 + j) * 3 + 1, none⟩) hg3l).trans x1
                  have x2 := (HB.out.cell (p := ⟨g3, (n + 1 + 1 + j) * 3 + 2, none⟩) hg3l).trans x2
                  clear hg3 HKi HA2 HA3
                  generalize M.getD j default = p at *
                  obtain ⟨kd, pa, pb⟩ := p
                  simp only [shiftP] at *
                  rw [HT.out] at x1
                  have e2 : ((a.size + 9 + pa : Nat) : Int) = (pa : Int) + ((a.size : Int) + 9) := by omega
                  rw [e2] at x2
                  clear e2
                  have hjb : j ≤ 131073 := by omega
                  have hjl : n + 1 + 1 + j < K.length := by have := HKl.out; omega
                  obtain ⟨q, hq⟩ : ∃ q, n + 1 + 1 + j = q := ⟨_, rfl⟩
                  rw [hq] at x0 x1 x2 hjl
                  have hqn : IntKind.i64.wrap ((n : Int) + 1 + 1) = (n : Int) + 1 + 1 := IntWalk.i64_in _ (by omega)
                  have hqI : IntKind.i64.wrap ((n : Int) + 1 + 1 + (j : Int)) = (q : Int) := by rw [IntWalk.i64_in _ (by omega)]; omega
                  generalize b.extract pa pb = tx at *
                  have nl := World.block_lt_of_cell? wr _ x0
                  have nc : ∀ k, (wr.alloc (.cells #[.int .i64 (kd : Int), .string tx, .int .i64 ((pa : Int) + ((a.size : Int) + 9))] 32)).cell? ⟨g3, k, none⟩ = wr.cell? ⟨g3, k, none⟩ := fun k => ((Below.refl wr.heap.size wr).alloc (Nat.le_refl _) _).cell (p := ⟨g3, k, none⟩) nl
                  have Hlast : Hid (Below w3.heap.size w3 (wr.alloc (.cells #[.int .i64 (kd : Int), .string tx, .int .i64 ((pa : Int) + ((a.size : Int) + 9))] 32))) := HB.out.alloc HB.out.size _
                  go_wp2_with fail
                  go_quiet (fail)
                  go_wp2_with fail
                  go_roundw
                  case rel => exact ⟨j + 1, by omega, by go_num, below_drewN Hlast.out _⟩
                  case measure => simp [intOf]; omega
                · obtain rfl : j = M.length := by omega
                  have HL4 := Lib.hid (HL3.out.below HB.out)
                  have Hw4 := Lib.hid (Hw3.out.trans (HB.out.mono Hw3.out.size))
                  clear HA2 HA3 HKi HT HO2 HK2 HKl
                  go_wp2_with (go_at_call 11; refine (alive_any m _ HL4.out).mono ?_; rintro e w5 ⟨rfl, hb5⟩)
                  go_ret
                  exact ⟨rfl, Hw4.out.trans (hb5.mono Hw4.out.size)⟩
      · have hkI : ((kd : Int) != 1) = true := by simp; omega
        clear hkk HF HT HO HA1 HA2 HA3
        go_wp2_with (go_at_call 11; refine (alive_any m _ HL3.out).mono ?_; rintro e w4 ⟨rfl, hb4⟩)
        go_ret
        exact ⟨rfl, Hw3.out.trans (hb4.mono Hw3.out.size)⟩
end Go.Proofs.YtohbbgghkinnhaaDoor
