/- The walk of the statement DiskStamps. -/
import Derived.Test.YtbiclpkoocjjfaaDoorDiskF
import Derived.Test.YtbiclpkoocjjfaaDoorDiskP
namespace Go.Proofs.YtbiclpkoocjjfaaDoor
open Go.RowKit Go.Maps

structure ActV where
  kind : Int
  path : ByteArray
  text : ByteArray
  num : Int
instance : Inhabited ActV := ⟨⟨0, ⟨#[]⟩, ⟨#[]⟩, 0⟩⟩

/-- A slice of acts. -/
def ActsAt (w : World) (B : Nat) (A : Option Addr) (l : List ActV) : Prop :=
  0 < l.length → ∃ b off, A = some ⟨b, off, none⟩ ∧ b < B ∧ ∀ k, k < l.length →
    w.cell? ⟨b, off + k * 4, none⟩ = some (.int .i64 (l.getD k default).kind) ∧ w.cell? ⟨b, off + k * 4 + 1, none⟩ = some (.string (l.getD k default).path) ∧
    w.cell? ⟨b, off + k * 4 + 2, none⟩ = some (.string (l.getD k default).text) ∧ w.cell? ⟨b, off + k * 4 + 3, none⟩ = some (.int .i64 (l.getD k default).num)

theorem ownsRow_keeps {S : Nat → Prop} {w w' : World} {base : Nat} {e : TypeId} {size n : Nat} {v : Value} {xs : List Value} (h : w.ownsRow base e size v n xs) (k : Keeps S w w') (hS : ∀ i, base ≤ i → ¬ S i) : w'.ownsRow base e size v n xs := by
  obtain ⟨h1, h2⟩ := h
  refine ⟨h1, ?_⟩
  rcases h2 with h2 | ⟨g, cap, cur, rfl, hb, hh, r⟩
  · exact .inl h2
  · refine .inr ⟨g, cap, cur, rfl, hb, (k.block g ?_ (hS g hb)).trans hh, r⟩
    exact (Array.getElem?_eq_some_iff.1 hh).1

/-- What holds at the head of each round. -/
def StInv (w : World) (b bf bt base k : Nat) (v : Value) (wr : World) : Prop :=
  ∃ (F T : DataW Unit) (W R : Int) (zs : List Int), DiskAt wr b bf bt (10 * k) F T W R ∧ Calm T ∧ 0 ≤ W ∧ W ≤ k ∧ 0 ≤ R ∧ R ≤ 5 * k ∧
    wr.ownsRow base 3 1 v zs.length (zs.map (Value.int .i64)) ∧ zs.length ≤ k ∧ (∀ z ∈ zs, z ≤ W) ∧ Below w.heap.size w wr ∧ base ≤ wr.heap.size

theorem own_shape {w : World} {base : Nat} {e : TypeId} {v : Value} {zs : List Int} (h : w.ownsRow base e 1 v zs.length (zs.map (Value.int .i64))) :
    ∃ A cap, v = .slice A zs.length cap ∧ ∀ j, j < zs.length → ∃ g, A = some ⟨g, 0, none⟩ ∧ base ≤ g ∧ w.cell? ⟨g, j, none⟩ = some (.int .i64 (zs.getD j 0)) := by
  have h0 := h
  rcases h.2 with ⟨rfl, hx⟩ | ⟨g, cap, cur, rfl, hb, _⟩
  · have hz : zs = [] := by simpa using hx
    subst hz
    exact ⟨_, _, rfl, fun j hj => absurd hj (by simp)⟩
  · refine ⟨_, _, rfl, fun j hj => ⟨g, rfl, hb, ?_⟩⟩
    rw [h0.cellAt j (by omega)]
    simp [hj]

theorem int_info : (Tryd.prog.info? 3).map (fun i => (i.zero, i.size, i.bytes)) = some (some (.int .i64 0), 1, 8) := by kernel_rfl

theorem st_append {w : World} {b bf bt base k n : Nat} {v v' : Value} {w6 w7 : World} {F T : DataW Unit} {W R : Int} {zs : List Int} {o : Obj} (hd : DiskAt w6 b bf bt n F T W R) (h1 : b < base) (h2 : bf < base) (h3 : bt < base) (hB : w.heap.size ≤ base) (hbs : base ≤ w6.heap.size)
    (hn : n ≤ 10 * k) (hT : Calm T) (hW0 : 0 ≤ W) (hW : W ≤ k) (hR0 : 0 ≤ R) (hR : R ≤ 5 * k) (hown : w6.ownsRow base 3 1 v zs.length (zs.map (Value.int .i64))) (hzl : zs.length + 1 ≤ k) (hz : ∀ z ∈ zs, z ≤ W) (hb : Below w.heap.size w w6)
    (hown7 : w7.ownsRow base 3 1 v' (zs.length + 1) (zs.map (Value.int .i64) ++ [.int .i64 W])) (hg : (w6.alloc o).grownBy w7 v.ownBlock) : StInv w b bf bt base k v' w7 := by
  have hk : Keeps (fun i => base ≤ i) w6 w7 := ((Keeps.refl _ w6).alloc o).trans (Keeps.of_grown hg (fun g hg => (hown.lt g hg).1))
  refine ⟨F, T, W, R, zs ++ [W], (hd.keeps hk (by omega) (by omega) (by omega)).mono hn, hT, hW0, hW, hR0, hR, ?_, by simpa using hzl, ?_, hb.trans (hk.below hb.size (fun i hi => Nat.le_trans hB hi)), Nat.le_trans hbs hk.size⟩
  · simpa using hown7
  · intro z hz'
    rcases List.mem_append.1 hz' with h | h
    · exact hz z h
    · simp at h; omega

theorem wrap_small (n : Nat) (h : n ≤ 3) : 0 ≤ IntKind.i64.wrap n ∧ IntKind.i64.wrap n ≤ 3 := by
  simp [IntKind.wrap, IntKind.bits, IntKind.signed]; omega
theorem and3 (x : Int) : ∃ q : Nat, bits .and .i64 x 3 = q ∧ q ≤ 3 := by
  have h : (BitVec.ofInt 64 x &&& BitVec.ofInt 64 3).toNat ≤ 3 := by
    rw [BitVec.toNat_and]; exact Nat.and_le_right
  have h2 : 0 ≤ bits .and .i64 x 3 ∧ bits .and .i64 x 3 ≤ 3 := wrap_small _ h
  exact ⟨(bits .and .i64 x 3).toNat, by omega, by omega⟩

/-- What the rounds of failing reads keep: q of the c faults are left. -/
def FInv (w : World) (b bf bt base hb0 n : Nat) (act : Array Value) (ty : TypeId) (F : DataW Unit) (W : Int) (p : ByteArray) (c : Int) (k j : Nat) (v : Value) (zs : List Int) (wq : World) : Prop :=
  ∃ (T : DataW Unit) (R : Int), DiskAt wq b bf bt (n + j) F T W R ∧ (pathB p = true → FaultsAt T p (c - j)) ∧ (pathB p = false → Calm T) ∧ 0 ≤ R ∧ R ≤ 5 * k + 1 + j ∧
    wq.ownsRow base 3 1 v zs.length (zs.map (Value.int .i64)) ∧ Below w.heap.size w wq ∧ base ≤ wq.heap.size ∧ Blk wq hb0 ty act

theorem tmod5 (a : Int) : -5 < a.tmod 5 ∧ a.tmod 5 < 5 := ⟨Int.lt_tmod_of_pos a (by decide), Int.tmod_lt_of_pos a (by decide)⟩

theorem new_none : newAll [] = (0, .map [], 0) := rfl
theorem atKey_none (p : Lit) (d : DataW Unit) : (DataW.map (H := Unit) []).atKey p d = d := rfl

set_option maxRecDepth 100000 in
set_option maxHeartbeats 2000000 in
theorem stamps_any (A : Option Addr) (c : Nat) (l : List ActV) (w : World) (m : Int) (hg : 0 < w.heap.size) (hm : w.cell? ⟨0, 0, none⟩ = some (.int .i64 m)) (hA : ActsAt w w.heap.size A l) (hn : l.length * 48 ≤ 140737488351232)
    (hsz : ∀ k, (l.getD k default).path.size ≤ maxLen ∧ (l.getD k default).text.size ≤ maxLen) (hnum : ∀ k, -9223372036854775808 ≤ (l.getD k default).num ∧ (l.getD k default).num ≤ 9223372036854775807 ∧ -9223372036854775808 ≤ (l.getD k default).kind ∧ (l.getD k default).kind ≤ 9223372036854775807) :
    Calls Tryd.prog 3 #[.slice A l.length c] w fun e w' => e = .returned (.bool true) ∧ Below w.heap.size w w' := by
  have HA := Lib.hid hA; clear hA
  have Hsz := Lib.hid hsz; clear hsz
  have Hnum := Lib.hid hnum; clear hnum
  obtain ⟨i0, hi0, hz0, hz1, hz2⟩ := info_parts int_info
  have HI := Lib.hid (And.intro hi0 (And.intro hz0 (And.intro hz1 hz2))); clear hi0 hz0 hz1 hz2
  go_enter Tryd.func3, Tryd.ntmps3
  go_wp2_with fail
  refine (new_any none 0 [] w m hg hm (fun h => absurd h (by decide)) (by decide) (fun k => ⟨by rw [show ([] : List (ByteArray × ByteArray)).getD k default = default from rfl]; decide, by rw [show ([] : List (ByteArray × ByteArray)).getD k default = default from rfl]; decide⟩)).mono ?_
  rintro e w1 ⟨rfl, hd1, hb1⟩
  replace hd1 := hd1 rfl
  rw [new_none] at hd1 ⊢
  rw [if_pos rfl]
  have hm1 := (hb1.cell (p := ⟨0, 0, none⟩) hg).trans hm
  go_wp2_with fail
  refine (alive_any w1 m (by have := hb1.size; omega) hm1).mono ?_
  rintro e w2 ⟨rfl, hb2⟩
  have hd2 := hd1.below hb2
  have hb2' := hb1.trans (hb2.mono hb1.size)
  have hsz2 : w.heap.size + 1 + 1 < w2.heap.size := hd2.blk.lt
  clear hd1 hb1 hm1 hb2
  go_wp2_with fail
  go_loopw [5, 35] (fun v i wr => ∃ k : Nat, k ≤ l.length ∧ i = .int .i64 k ∧ StInv w (w.heap.size + 1 + 1) w.heap.size (w.heap.size + 1) w2.heap.size k v wr) (fun _ i _ => l.length - (intOf i).toNat)
  case atStart => exact ⟨0, Nat.zero_le _, rfl, _, _, _, _, [], hd2, calm_none, by omega, by omega, by omega, by omega, World.ownsRow_nil _ _ _ _, by simp, by simp, hb2', Nat.le_refl _⟩
  case round =>
    clear hd2 hb2'
    obtain ⟨k, hk, rfl, hinv⟩ := hrel
    by_cases hlt : k < l.length
    · obtain ⟨F, T, W, R, zs, hd, hT, hW0, hW, hR0, hR, hown, hzl, hzs, hbl, hbs⟩ := hinv
      obtain ⟨ab, ao, rfl, hab, hc⟩ := HA.out (by omega)
      obtain ⟨c0, c1, c2, c3⟩ := hc k hlt
      have a0 := (hbl.cell (p := ⟨ab, ao + k * 4, none⟩) hab).trans c0
      have a1 := (hbl.cell (p := ⟨ab, ao + k * 4 + 1, none⟩) hab).trans c1
      have a2 := (hbl.cell (p := ⟨ab, ao + k * 4 + 2, none⟩) hab).trans c2
      have a3 := (hbl.cell (p := ⟨ab, ao + k * 4 + 3, none⟩) hab).trans c3
      obtain ⟨hs1, hs2⟩ := Hsz.out k
      obtain ⟨hn1, hn2, hn3, hn4⟩ := Hnum.out k
      clear hc c0 c1 c2 c3 hab HA Hsz Hnum
      generalize l.getD k default = a at *
      obtain ⟨kind, p, x, num⟩ := a
      dsimp only at a0 a1 a2 a3 hs1 hs2 hn1 hn2 hn3 hn4
      obtain ⟨t1, t2⟩ := tmod5 kind
      have hb3 := hbl.alloc (o := .cells #[.int .i64 kind, .string p, .string x, .int .i64 num] 30) hbl.size
      have hd3 := hd.alloc (.cells #[.int .i64 kind, .string p, .string x, .int .i64 num] 30)
      have HT := Lib.hid hT; clear hT
      have HZ := Lib.hid hzs; clear hzs
      have hm3 := (hb3.cell (p := ⟨0, 0, none⟩) hg).trans hm
      have Hm3 := Lib.hid hm3; clear hm3
      have hblk : Blk (wr.alloc (.cells #[.int .i64 kind, .string p, .string x, .int .i64 num] 30)) wr.heap.size 30 #[.int .i64 kind, .string p, .string x, .int .i64 num] := Blk.new _ _ _
      have hnot : ∀ i, w2.heap.size ≤ i → ¬ Own (w.heap.size + 1 + 1) w.heap.size (w.heap.size + 1) i := fun i hi h => by rcases h with rfl | rfl | rfl <;> omega
      have hlow : ∀ i, Own (w.heap.size + 1 + 1) w.heap.size (w.heap.size + 1) i → w.heap.size ≤ i := fun i h => by rcases h with rfl | rfl | rfl <;> omega
      have Hnot := Lib.hid hnot; clear hnot
      have Hlow := Lib.hid hlow; clear hlow
      have hown3 := hown.alloc (.cells #[.int .i64 kind, .string p, .string x, .int .i64 num] 30)
      have HM : Hid (IsMap F ∧ IsMap T) := ⟨hd.files.isMap, hd.faults.isMap⟩
      have HM0 := Lib.hid hm
      clear hd hbl hown hm
      have hz3 : w2.heap.size ≤ (wr.alloc (.cells #[.int .i64 kind, .string p, .string x, .int .i64 num] 30)).heap.size := by simp; omega
      obtain ⟨mA, mcap, rfl, hmet⟩ := own_shape hown3
      have Hmet := Lib.hid hmet; clear hmet
      go_wp2_with fail
      · clear Hmet
        refine (write_all p hs1 m _ Hm3.out hd3 x hs2 hW0 (by omega) (by unfold maxLen; omega)).mono ?_
        rintro e w4 ⟨rfl, hd4, hk4⟩
        have hb4 : Below w.heap.size w w4 := hb3.trans (hk4.below hb3.size Hlow.out)
        have hown4 := ownsRow_keeps hown3 hk4 Hnot.out
        have hz4 := Nat.le_trans hz3 hk4.size
        have hblk4 := hblk.keeps hk4 (Hnot.out _ hbs)
        have hm4 := (hk4.cell (p := ⟨0, 0, none⟩) (by simp) (fun h => by have h1 : w.heap.size ≤ 0 := Hlow.out _ h; omega)).trans Hm3.out
        clear hd3 hb3 hown3 hk4 hblk Hm3 hz3
        by_cases hz : writeI F p x = 0
        · have hpath := writeI_path hz
          rw [hz]
          have e1 : writeF F p x W = F.put (key p) (fileD x (W + 1)) := if_pos hz
          have e2 : writeW F p x W = W + 1 := if_pos hz
          rw [e1, e2] at hd4
          have hT5 : FaultsAt (T.put (key p) (.lit (.int .i64 0))) p 0 := (HT.out.at_ p).put HM.out.2 0
          have HT5 := Lib.hid hT5; clear hT5
          have HRI : Hid (readI (F.put (key p) (fileD x (W + 1))) (T.put (key p) (.lit (.int .i64 0))) p = 0) := by
            show readI _ _ _ = 0
            rw [readI_calm hpath HT5.out.1, hasF_put_same HM.out.1]; rfl
          have HRN : Hid (readN (F.put (key p) (fileD x (W + 1))) (T.put (key p) (.lit (.int .i64 0))) p = W + 1) := by
            show readN _ _ _ = W + 1
            unfold readN; rw [if_pos HRI.out, fileN_put_same HM.out.1]
          have HRT : Hid (readT (F.put (key p) (fileD x (W + 1))) (T.put (key p) (.lit (.int .i64 0))) p = T.put (key p) (.lit (.int .i64 0))) := readT_calm HT5.out.1
          have HFT : Hid (faultT T p 0 = T.put (key p) (.lit (.int .i64 0))) := if_pos (faultI_ok hpath (Int.le_refl 0))
          generalize F.put (key p) (fileD x (W + 1)) = F4 at *
          generalize T.put (key p) (.lit (.int .i64 0)) = T4 at *
          clear hz e1 e2
          have Hd4 := Lib.hid hd4; clear hd4
          have Hm4 := Lib.hid hm4; clear hm4
          have d1 : w4.cell? ⟨wr.heap.size, 1, none⟩ = some (.string p) := hblk4.cell 1
          go_wp2_with fail
          clear d1
          refine (fault_all p hs1 m w4 Hm4.out Hd4.out 0 (by omega) (by unfold maxLen; omega)).mono ?_
          rintro e w5 ⟨rfl, hd5, hk5⟩
          rw [HFT.out] at hd5
          have hb5 : Below w.heap.size w w5 := hb4.trans (hk5.below hb4.size Hlow.out)
          have hown5 := ownsRow_keeps hown4 hk5 Hnot.out
          have hz5 := Nat.le_trans hz4 hk5.size
          have hblk5 := hblk4.keeps hk5 (Hnot.out _ hbs)
          have hm5 := (hb5.cell (p := ⟨0, 0, none⟩) hg).trans HM0.out
          have Hd5 := Lib.hid hd5; clear hd5
          have Hm5 := Lib.hid hm5; clear hm5
          clear Hd4 Hm4 hb4 hown4 hblk4 hk5 hz4
          have d1 : w5.cell? ⟨wr.heap.size, 1, none⟩ = some (.string p) := hblk5.cell 1
          go_wp2_with fail
          clear d1
          refine (stamp_all p hs1 m w5 Hm5.out Hd5.out hR0 (by omega) (by unfold maxLen; omega)).mono ?_
          rintro e w6 ⟨rfl, hd6, hk6⟩
          rw [HRT.out] at hd6
          rw [HRN.out, HRI.out]
          have hb6 : Below w.heap.size w w6 := hb5.trans (hk6.below hb5.size Hlow.out)
          have hown6 := ownsRow_keeps hown5 hk6 Hnot.out
          have hz6 := Nat.le_trans hz5 hk6.size
          have hrk : 0 ≤ readK p R ∧ readK p R ≤ R + 1 := by unfold readK; split <;> omega
          have Hd6 := Lib.hid hd6; clear hd6
          clear Hd5 Hm5 hb5 hown5 hblk5 hk6 hz5 HRN HRI HRT HFT
          obtain ⟨_, _, hsh, hmet⟩ := own_shape hown6
          injection hsh with hsh1 hsh2 hsh3
          subst hsh1
          have Hmet := Lib.hid hmet; clear hmet hsh2 hsh3
          go_wp2_with fail
          go_loop [68] (fun i => ∃ j : Nat, j ≤ zs.length ∧ i = .int .i64 j) (fun i => zs.length - (intOf i).toNat)
          case atStart => exact ⟨0, Nat.zero_le _, rfl⟩
          case round =>
            obtain ⟨j, hj, rfl⟩ := hrel
            by_cases hjl : j < zs.length
            · obtain ⟨g, rfl, _, hcell⟩ := Hmet.out j hjl
              have hle : zs.getD j 0 ≤ W := HZ.out _ (by rw [List.getD_eq_getElem?_getD, List.getElem?_eq_getElem hjl]; exact List.getElem_mem hjl)
              generalize zs.getD j 0 = zj at *
              go_wp2_with fail
              go_round
              case rel => exact ⟨j + 1, by omega, by go_num⟩
              case measure => simp [intOf]; omega
            · go_wp2_with (at_builtin; refine wpList_append_own _ rfl _ _ 28 rfl w2.heap.size 3 i0 (.int .i64 0) 1 8 Tryd.underlying28 HI.out.1 HI.out.2.1 HI.out.2.2.1 HI.out.2.2.2 rfl (by decide) _ _ _ rfl (hown6.alloc _) ⟨w6.heap.size, 0, none⟩ 1 1 [.int .i64 (W + 1)] rfl rfl (cell_one_new _ _ _) (ints_oneCell .i64 [W + 1]) (by unfold maxLen; omega) (by omega) (by simp; omega) ?_; intro v' w7 hown7 hgrow7 hnil7)
              have hR7 : StInv w (w.heap.size + 1 + 1) w.heap.size (w.heap.size + 1) w2.heap.size (k + 1) v' w7 := by
                refine st_append Hd6.out (by omega) (by omega) (by omega) (by omega) hz6 (by omega) HT5.out.calm (by omega) (by omega) hrk.1 (by omega) hown6 (by omega) ?_ hb6 hown7 hgrow7
                intro z hz
                have := HZ.out z hz
                omega
              have HR7 := Lib.hid hR7; clear hR7 hown7 hgrow7 hnil7
              go_wp2_with fail
              go_roundw
              case rel => exact ⟨k + 1, by omega, by go_num, HR7.out⟩
              case measure => simp [intOf]; omega
        · have hz' : (writeI F p x != 0) = true := by simpa using hz
          have hd4' : ∃ F' W', DiskAt w4 (w.heap.size + 1 + 1) w.heap.size (w.heap.size + 1) (10 * k + 1) F' T W' R ∧ 0 ≤ W' ∧ W ≤ W' ∧ W' ≤ k := ⟨_, _, by have e1 : writeF F p x W = F := if_neg hz; have e2 : writeW F p x W = W := if_neg hz; rw [e1, e2] at hd4; exact hd4, hW0, Int.le_refl _, hW⟩
          clear hd4 hz hm4 hblk4
          generalize writeI F p x = q at *
          obtain ⟨F', W', hd4, hW0', hWW, hW'⟩ := hd4'
          go_wp2_with fail
          go_roundw
          case rel => exact ⟨k + 1, by omega, by go_num, _, _, _, _, zs, hd4.mono (by omega), HT.out, hW0', by omega, hR0, by omega, hown4, by omega, fun z hz => by have := HZ.out z hz; omega, hb4, hz4⟩
          case measure => simp [intOf]; omega
      · refine (remove_all p hs1 m _ Hm3.out hd3).mono ?_
        rintro e w4 ⟨rfl, hd4, hk4⟩
        have hb4 : Below w.heap.size w w4 := hb3.trans (hk4.below hb3.size Hlow.out)
        have hown4 := ownsRow_keeps hown3 hk4 Hnot.out
        have hz4 := Nat.le_trans hz3 hk4.size
        clear hd3 hb3 hown3 hk4 hblk
        go_wp2_with fail
        go_roundw
        case rel => exact ⟨k + 1, by omega, by go_num, _, _, _, _, zs, hd4.mono (by omega), HT.out, hW0, by omega, hR0, by omega, hown4, by omega, HZ.out, hb4, hz4⟩
        case measure => simp [intOf]; omega
      · clear Hmet
        refine (stamp_all p hs1 m _ Hm3.out hd3 hR0 (by omega) (by unfold maxLen; omega)).mono ?_
        rintro e w4 ⟨rfl, hd4, hk4⟩
        rw [readT_calm (HT.out p)] at hd4
        have hb4 : Below w.heap.size w w4 := hb3.trans (hk4.below hb3.size Hlow.out)
        have hown4 := ownsRow_keeps hown3 hk4 Hnot.out
        have hz4 := Nat.le_trans hz3 hk4.size
        have hblk4 := hblk.keeps hk4 (Hnot.out _ hbs)
        have hm4 := (hb4.cell (p := ⟨0, 0, none⟩) hg).trans HM0.out
        have hrk : 0 ≤ readK p R ∧ readK p R ≤ R + 1 := by unfold readK; split <;> omega
        clear hd3 hb3 hown3 hk4 hblk Hm3 hz3
        have Hd4 := Lib.hid hd4; clear hd4
        have Hm4 := Lib.hid hm4; clear hm4
        have HN : ∃ N0, Hid (readN F T p = N0) := ⟨_, rfl⟩
        obtain ⟨N0, HN⟩ := HN
        have HE : ∃ E0, Hid (readI F T p = E0) := ⟨_, rfl⟩
        obtain ⟨E0, HE⟩ := HE
        rw [HN.out, HE.out]
        have d1 : w4.cell? ⟨wr.heap.size, 1, none⟩ = some (.string p) := hblk4.cell 1
        have d3 : w4.cell? ⟨wr.heap.size, 3, none⟩ = some (.int .i64 num) := hblk4.cell 3
        go_wp2_with fail
        clear d1 d3
        obtain ⟨qn, hqn, hq3⟩ := and3 num
        have Hqn := Lib.hid hqn; clear hqn
        rw [Hqn.out]
        refine (fault_all p hs1 m w4 Hm4.out Hd4.out (qn : Int) (by omega) (by unfold maxLen; omega)).mono ?_
        rintro e w5 ⟨rfl, hd5, hk5⟩
        have hb5 : Below w.heap.size w w5 := hb4.trans (hk5.below hb4.size Hlow.out)
        have hown5 := ownsRow_keeps hown4 hk5 Hnot.out
        have hz5 := Nat.le_trans hz4 hk5.size
        have hblk5 := hblk4.keeps hk5 (Hnot.out _ hbs)
        have hm5 := (hb5.cell (p := ⟨0, 0, none⟩) hg).trans HM0.out
        have hF0 : FInv w (w.heap.size + 1 + 1) w.heap.size (w.heap.size + 1) w2.heap.size wr.heap.size (10 * k + 1 + 1) #[.int .i64 kind, .string p, .string x, .int .i64 num] 30 F W p qn k 0 (.slice mA zs.length mcap) zs w5 := by
          refine ⟨_, _, hd5, fun hp => ?_, fun hp => ?_, hrk.1, by omega, hown5, hb5, hz5, hblk5⟩
          · have e : faultT T p qn = T.put (key p) (.lit (.int .i64 qn)) := if_pos (faultI_ok hp (by omega))
            rw [e]
            simpa using (HT.out.at_ p).put HM.out.2 qn
          · have e : faultT T p qn = T := if_neg (by rw [faultI_bad hp]; decide)
            rw [e]; exact HT.out
        have HF0 := Lib.hid hF0; clear hF0
        have Hm5 := Lib.hid hm5; clear hm5
        have d3 : w5.cell? ⟨wr.heap.size, 3, none⟩ = some (.int .i64 num) := hblk5.cell 3
        clear Hd4 Hm4 hb4 hown4 hblk4 hk5 hz4 hd5 hb5 hown5 hz5
        go_wp2_with fail
        rw [Hqn.out]
        clear d3 hblk5 Hqn Hm5
        obtain ⟨wo, rfl⟩ : ∃ wo : World, wo = wr := ⟨_, rfl⟩
        go_loopw [105] (fun i wq => ∃ j : Nat, j ≤ qn ∧ i = .int .i64 j ∧ FInv w (w.heap.size + 1 + 1) w.heap.size (w.heap.size + 1) w2.heap.size wo.heap.size (10 * k + 1 + 1) #[.int .i64 kind, .string p, .string x, .int .i64 num] 30 F W p qn k j (.slice mA zs.length mcap) zs wq) (fun i _ => qn - (intOf i).toNat)
        case atStart => exact ⟨0, Nat.zero_le _, rfl, HF0.out⟩
        case round =>
          clear HF0
          obtain ⟨j, hj, rfl, T6, R6, hd6, hf1, hf2, hR60, hR6, hown6, hb6, hz6, hblk6⟩ := hrel
          have d1 : wr.cell? ⟨wo.heap.size, 1, none⟩ = some (.string p) := hblk6.cell 1
          have hm6 := (hb6.cell (p := ⟨0, 0, none⟩) hg).trans HM0.out
          have Hm6 := Lib.hid hm6; clear hm6
          have Hd6 := Lib.hid hd6
          have Hf1 := Lib.hid hf1; clear hf1
          have Hf2 := Lib.hid hf2; clear hf2
          have HM6 : Hid (IsMap T6) := hd6.faults.isMap
          clear hd6
          by_cases hjl : j < qn
          · go_wp2_with fail
            clear d1
            refine (read_all p hs1 m wr Hm6.out Hd6.out hR60 (by omega) (by unfold maxLen; omega)).mono ?_
            rintro e w7 ⟨rfl, hd7, hk7⟩
            have hb7 : Below w.heap.size w w7 := hb6.trans (hk7.below hb6.size Hlow.out)
            have hown7 := ownsRow_keeps hown6 hk7 Hnot.out
            have hz7 := Nat.le_trans hz6 hk7.size
            have hblk7 := hblk6.keeps hk7 (Hnot.out _ hbs)
            have hm7 := (hb7.cell (p := ⟨0, 0, none⟩) hg).trans HM0.out
            have hrk7 : 0 ≤ readK p R6 ∧ readK p R6 ≤ R6 + 1 := by unfold readK; split <;> omega
            have hF7 : FInv w (w.heap.size + 1 + 1) w.heap.size (w.heap.size + 1) w2.heap.size wo.heap.size (10 * k + 1 + 1) #[.int .i64 kind, .string p, .string x, .int .i64 num] 30 F W p qn k (j + 1) (.slice mA zs.length mcap) zs w7 ∧ (pathB p = true → readI F T6 p = 18) := by
              refine ⟨⟨_, _, hd7, fun hp => ?_, fun hp => ?_, hrk7.1, by omega, hown7, hb7, hz7, hblk7⟩, fun hp => readI_fault hp (by rw [(Hf1.out hp).1]; omega)⟩
              · have h18 : readI F T6 p = 18 := readI_fault hp (by rw [(Hf1.out hp).1]; omega)
                have e : readT F T6 p = T6.put (key p) (.lit (.int .i64 (faultC T6 p - 1))) := if_pos h18
                rw [e, (Hf1.out hp).1]
                have := (Hf1.out hp).put HM6.out (qn - j - 1)
                rwa [show ((qn : Int) - ((j + 1 : Nat) : Int)) = qn - j - 1 by omega]
              · have e : readT F T6 p = T6 := if_neg (by rw [readI_bad hp]; decide)
                rw [e]; exact Hf2.out hp
            have HF7 := Lib.hid hF7.1
            have H18 := Lib.hid hF7.2
            have Hm7 := Lib.hid hm7
            have d1 : w7.cell? ⟨wo.heap.size, 1, none⟩ = some (.string p) := hblk7.cell 1
            clear hF7 hm7 hd7 hk7 hb7 hown7 hz7 hblk7 Hd6 Hm6 Hf1 Hf2 HM6 hown6 hb6 hz6 hblk6
            generalize readS F T6 p = rs
            generalize readN F T6 p = rn
            generalize readI F T6 p = ri at *
            go_wp2_with fail
            clear d1
            refine (path_any p hs1 m w7 Hm7.out).mono ?_
            rintro e w8 ⟨rfl, hb8⟩
            have hF8 : FInv w (w.heap.size + 1 + 1) w.heap.size (w.heap.size + 1) w2.heap.size wo.heap.size (10 * k + 1 + 1) #[.int .i64 kind, .string p, .string x, .int .i64 num] 30 F W p qn k (j + 1) (.slice mA zs.length mcap) zs w8 := by
              obtain ⟨T8, R8, g1, g2, g3, g4, g5, g6, g7, g8, g9⟩ := HF7.out
              have hk8 : Keeps (fun _ => False) w7 w8 := Keeps.of_below hb8
              exact ⟨T8, R8, g1.below hb8, g2, g3, g4, g5, ownsRow_keeps g6 hk8 (fun _ _ h => h), g7.trans (hb8.mono g7.size), Nat.le_trans g8 hb8.size, g9.keeps hk8 id⟩
            have HF8 := Lib.hid hF8
            clear HF7 hF8 hb8 Hm7
            cases hpb : pathB p with
            | true =>
              obtain rfl : ri = 18 := H18.out hpb
              have Hpb := Lib.hid hpb; clear hpb H18
              go_wp2_with fail
              go_roundw
              case rel => exact ⟨j + 1, by omega, by go_num, HF8.out⟩
              case measure => simp [intOf]; omega
            | false =>
              have Hpb := Lib.hid hpb; clear hpb H18
              go_wp2_with fail
              go_roundw
              case rel => exact ⟨j + 1, by omega, by go_num, HF8.out⟩
              case measure => simp [intOf]; omega
          · obtain rfl : j = qn := by omega
            have hc6 : Calm T6 := by
              cases hpb : pathB p with
              | true => exact FaultsAt.calm (p := p) (by simpa using Hf1.out hpb)
              | false => exact Hf2.out hpb
            have HRI : Hid (readI F T6 p = E0) := (readI_same (hc6 p) (HT.out p)).trans HE.out
            have HRN : Hid (readN F T6 p = N0) := (readN_same (hc6 p) (HT.out p)).trans HN.out
            have HC6 := Lib.hid hc6; clear hc6
            go_wp2_with fail
            clear d1
            refine (stamp_all p hs1 m wr Hm6.out Hd6.out hR60 (by omega) (by unfold maxLen; omega)).mono ?_
            rintro e w7 ⟨rfl, hd7, hk7⟩
            rw [readT_calm (HC6.out p)] at hd7
            rw [HRI.out, HRN.out]
            have hb7 : Below w.heap.size w w7 := hb6.trans (hk7.below hb6.size Hlow.out)
            have hown7 := ownsRow_keeps hown6 hk7 Hnot.out
            have hz7 := Nat.le_trans hz6 hk7.size
            have hrk7 : 0 ≤ readK p R6 ∧ readK p R6 ≤ R6 + 1 := by unfold readK; split <;> omega
            have Hd7 := Lib.hid hd7; clear hd7
            clear hk7 Hd6 Hm6 Hf1 Hf2 HM6 hown6 hb6 hz6 hblk6 HRI HRN HN HE
            have gN : (N0 != N0) = false := by simp
            have gE : (E0 != E0) = false := by simp
            go_wp2_with fail
            go_roundw
            case rel => exact ⟨k + 1, by omega, by go_num, _, _, _, _, zs, Hd7.out.mono (by omega), HC6.out, hW0, by omega, hrk7.1, by omega, hown7, by omega, HZ.out, hb7, hz7⟩
            case measure => simp [intOf]; omega
      · go_roundw
        case rel => exact ⟨k + 1, by omega, by go_num, _, _, _, _, zs, hd3.mono (by omega), HT.out, hW0, by omega, hR0, by omega, hown3, by omega, HZ.out, hb3, hz3⟩
        case measure => simp [intOf]; omega
    · obtain ⟨F, T, W, R, zs, hd, hT, hW0, hW, hR0, hR, hown, hzl, hzs, hbl, hbs⟩ := hinv
      clear hd hT hown hzs hbs
      go_wp2_with fail
      go_ret
      exact ⟨rfl, hbl⟩
end Go.Proofs.YtbiclpkoocjjfaaDoor
