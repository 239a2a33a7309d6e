/- DiskPlays: the law's walk. -/
import Derived.Test.YtbiclpkoocjjfaaDoorPlayA
namespace Go.Proofs.YtbiclpkoocjjfaaDoor
open Go.RowKit Go.Maps

theorem FilesAt.below {w w' : World} {A : Option Addr} {fs : List (ByteArray × ByteArray)} (h : FilesAt w w.heap.size A fs) (hb1 : Below w.heap.size w w') : FilesAt w' w'.heap.size A fs := fun h0 => by
  obtain ⟨b, off, hA, hb, hc⟩ := h h0
  exact ⟨b, off, hA, Nat.lt_of_lt_of_le hb hb1.size, fun k hk => ⟨(hb1.cell (p := ⟨b, off + k * 2, none⟩) hb).trans (hc k hk).1, (hb1.cell (p := ⟨b, off + k * 2 + 1, none⟩) hb).trans (hc k hk).2⟩⟩
/-- What holds at the head of each round. -/
def PlInv (w : World) (db bf bt rb base N : Nat) (k : Nat) (wr : World) : Prop :=
  Below w.heap.size w wr ∧ base ≤ wr.heap.size ∧ ∃ v F T W R L, Both wr w.heap.size db bf bt (N + k) rb base v F T W R L ∧ 0 ≤ W ∧ W ≤ N + k ∧ 0 ≤ R ∧ R ≤ k ∧ L.length ≤ N + k

set_option maxRecDepth 100000 in
set_option maxHeartbeats 4000000 in
theorem plays_any (A : Option Addr) (c : Nat) (fs : List (ByteArray × ByteArray)) (A2 : Option Addr) (c2 : Nat) (l : List ActV) (w : World) (m : Int) (hg : 0 < w.heap.size) (hm : w.cell? ⟨0, 0, none⟩ = some (.int .i64 m))
    (hA : FilesAt w w.heap.size A fs) (hfs : ∀ k, (fs.getD k default).1.size ≤ maxLen ∧ (fs.getD k default).2.size ≤ maxLen)
    (hA2 : ActsAt w w.heap.size A2 l) (hN : fs.length ≤ 1048576) (hn : l.length ≤ 1048576)
    (hsz : ∀ k, (l.getD k default).path.size ≤ maxLen ∧ (l.getD k default).text.size ≤ maxLen) (hnum : ∀ k, -9223372036854775808 ≤ (l.getD k default).num ∧ (l.getD k default).num ≤ 9223372036854775807 ∧ -9223372036854775808 ≤ (l.getD k default).kind ∧ (l.getD k default).kind ≤ 9223372036854775807) :
    Calls Tryd.prog 7 #[.slice A fs.length c, .slice A2 l.length c2] w fun e w' => e = .returned (.bool true) ∧ Below w.heap.size w w' := by
  have HA := Lib.hid hA; clear hA
  have HA2 := Lib.hid hA2; clear hA2
  have Hfs := Lib.hid hfs; clear hfs
  have Hsz := Lib.hid hsz; clear hsz
  have Hnum := Lib.hid hnum; clear hnum
  have HM := Lib.hid hm
  have HNs := Lib.hid (new_sim fs)
  have HNl := Lib.hid (rnewAll_len fs)
  go_enter Tryd.func7, Tryd.ntmps7
  go_wp2_with fail
  refine (new_any A c fs w m hg hm HA.out (by omega) Hfs.out).mono ?_
  rintro e w1 ⟨rfl, hd1, hb1⟩
  have HA1 := Lib.hid (HA.out.below hb1)
  have Hb1 := Lib.hid hb1
  have Hd1 := Lib.hid hd1
  obtain ⟨E, HE⟩ : ∃ z, Hid ((newAll fs).1 = z) := ⟨_, rfl⟩
  have HE2 : Hid ((rnewAll fs).1 = E) := HNs.out.1.symm.trans HE.out
  rw [HE.out]
  have hsz1 := hb1.size
  clear hb1 hd1 hm
  by_cases hE : E = 0
  · subst hE
    rw [if_pos rfl]
    go_wp2_with fail
    refine (rnew_any A c fs w1 HA1.out (by omega) Hfs.out).mono ?_
    rintro e w2 ⟨v, W, rfl, ho, ⟨A3, n3, c3, rfl⟩, hb2⟩
    rw [HE2.out]
    obtain ⟨hown, rfl⟩ := ho HE2.out
    have hsz2 := hb2.size
    have Hb2 := Lib.hid (Hb1.out.trans (hb2.mono hsz1))
    have Hd2 := Lib.hid ((Hd1.out HE.out).below hb2)
    have HO := Lib.hid (own_mono hown (Nat.le_add_right w1.heap.size 2))
    have hlt1 : w.heap.size + 1 + 1 < w1.heap.size := (Hd1.out HE.out).blk.lt
    have hw2 := HNl.out.2
    clear hown ho hb2 Hd1
    generalize hWW : (rnewAll fs).2.2 = WW at *
    have HW := Lib.hid hWW
    clear hWW
    have HM2 : Hid ((w2.alloc (.cells #[.slice A3 n3 c3, .int .i64 WW, .int .i64 0] 43)).cell? ⟨0, 0, none⟩ = some (.int .i64 m)) := ((Hb2.out.alloc Hb2.out.size _).cell (p := ⟨0, 0, none⟩) hg).trans HM.out
    have HB2 : Hid (Both (w2.alloc (.cells #[.slice A3 n3 c3, .int .i64 WW, .int .i64 0] 43)) w.heap.size (w.heap.size + 1 + 1) w.heap.size (w.heap.size + 1) fs.length w2.heap.size w1.heap.size (.slice A3 n3 c3) (newAll fs).2.1 (.map []) WW 0 (rnewAll fs).2.1) := by
      have hs := HNs.out.2.1
      have ew : (newAll fs).2.2 = WW := hs.wr
      have hd2 := Hd2.out
      rw [ew] at hd2 hs
      refine ⟨hd2.alloc _, ⟨Blk.new _ _ _, HO.out.alloc _⟩, hs, HNs.out.2.2, fun i hi ho => ?_, fun i hi => ?_⟩
      · rcases hi with rfl | hi
        · rcases ho with h | h | h <;> omega
        · have := (HO.out.lt i hi).1
          rcases ho with h | h | h <;> omega
      · rcases hi with (h | h | h) | (h | h)
        · omega
        · omega
        · omega
        · omega
        · have := (HO.out.lt i h).1; omega
    have hz3 : 0 < (w2.alloc (.cells #[.slice A3 n3 c3, .int .i64 WW, .int .i64 0] 43)).heap.size := by simp
    have HB3 := Lib.hid (Hb2.out.alloc Hb2.out.size (.cells #[.slice A3 n3 c3, .int .i64 WW, .int .i64 0] 43))
    clear HO Hd2 Hb2
    go_wp2_with (go_at_call 10; refine (alive_any _ m hz3 HM2.out).mono ?_; rintro e w3 ⟨rfl, hb3⟩)
    have Hb4 : Hid (Below w.heap.size w w3) := HB3.out.trans (hb3.mono HB3.out.size)
    have HB4 : Hid (Both w3 w.heap.size (w.heap.size + 1 + 1) w.heap.size (w.heap.size + 1) fs.length w2.heap.size w1.heap.size (.slice A3 n3 c3) (newAll fs).2.1 (.map []) WW 0 (rnewAll fs).2.1) := HB2.out.below hb3
    have hb4 : w1.heap.size ≤ w3.heap.size := by have := hb3.size; simp at this; omega
    have hlen := HNl.out.1
    clear hb3 HB2 HB3 HM2
    go_wp2_with fail
    go_loopw [39] (fun i wr => ∃ k : Nat, k ≤ l.length ∧ i = .int .i64 (k : Nat) ∧ Hid (PlInv w (w.heap.size + 1 + 1) w.heap.size (w.heap.size + 1) w2.heap.size w1.heap.size fs.length k wr)) (fun i _ => l.length - (intOf i).toNat)
    case atStart => exact ⟨0, Nat.zero_le _, rfl, Hb4.out, hb4, _, _, _, _, _, _, HB4.out, hw2.1, by omega, Int.le_refl _, Int.le_refl _, by omega⟩
    case round =>
      obtain ⟨k, hk, rfl, H⟩ := hrel
      obtain ⟨hbl, hbs, v, F, T, W, R, L, hB, hW0, hWN, hR0, hRk, hLl⟩ := H.out
      have HBo := Lib.hid hB
      have Hbl := Lib.hid hbl
      have hgr : 0 < wr.heap.size := Nat.lt_of_lt_of_le hg hbl.size
      have hzr : w.heap.size ≤ wr.heap.size := hbl.size
      clear hB hbl H HB4 Hb4
      by_cases hlt : k < l.length
      · obtain ⟨xb, xo, rfl, hxb, hc⟩ := HA2.out (by omega)
        obtain ⟨c0, c1, c2, c3⟩ := hc k hlt
        have a0 := (Hbl.out.cell (p := ⟨xb, xo + k * 4, none⟩) hxb).trans c0
        have a1 := (Hbl.out.cell (p := ⟨xb, xo + k * 4 + 1, none⟩) hxb).trans c1
        have a2 := (Hbl.out.cell (p := ⟨xb, xo + k * 4 + 2, none⟩) hxb).trans c2
        have a3 := (Hbl.out.cell (p := ⟨xb, xo + k * 4 + 3, none⟩) hxb).trans c3
        obtain ⟨hs1, hs2⟩ := Hsz.out k
        obtain ⟨hn1, hn2, hn3, hn4⟩ := Hnum.out k
        clear hc c0 c1 c2 c3 hxb HA HA2 Hsz Hnum Hfs HA1
        generalize l.getD k default = a at *
        obtain ⟨kind, p, x, num⟩ := a
        dsimp only at a0 a1 a2 a3 hs1 hs2 hn1 hn2 hn3 hn4
        have hltI : (k : Int) < (l.length : Int) := by omega
        have HAl : Hid (Below wr.heap.size wr (wr.alloc (.cells #[.int .i64 kind, .string p, .string x, .int .i64 num] 30))) := (Below.refl _ _).alloc (Nat.le_refl _) _
        have HBa := Lib.hid (HBo.out.below HAl.out)
        have HMa : Hid ((wr.alloc (.cells #[.int .i64 kind, .string p, .string x, .int .i64 num] 30)).cell? ⟨0, 0, none⟩ = some (.int .i64 m)) := (HAl.out.cell (p := ⟨0, 0, none⟩) hgr).trans ((Hbl.out.cell (p := ⟨0, 0, none⟩) hg).trans HM.out)
        have hnm : fs.length + k < maxLen := by unfold maxLen; omega
        have HDo := Lib.hid (does_sim (k := k) (N := fs.length) kind p x num m _ (by simp) HMa.out HBa.out hg (by simp; omega) (by simp; omega) hs1 hs2 hnm hn2 hW0 hWN hR0 hRk hLl (by omega))
        clear HMa HBa
        go_wp2_with fail
        refine HDo.out.mono ?_
        rintro e w5 ⟨rfl, hb5, v5, F5, T5, W5, R5, L5, hB5, g1, g2, g3, g4, g5⟩
        have Hb5 : Hid (Below w.heap.size w w5) := by
          have h1 := Hbl.out.trans (HAl.out.mono Hbl.out.size)
          exact h1.trans hb5
        have hz5 : w1.heap.size ≤ w5.heap.size := by have := hb5.size; simp at this; omega
        have HB5 := Lib.hid hB5
        clear hb5 hB5 HDo HAl Hbl HBo
        go_wp2_with fail
        refine (stands_any w5 HB5.out.d HB5.out.r HB5.out.s (by have := HB5.out.sz; omega) (by omega)).mono ?_
        rintro e w6 ⟨rfl, hb6⟩
        have HN : Hid (PlInv w (w.heap.size + 1 + 1) w.heap.size (w.heap.size + 1) w2.heap.size w1.heap.size fs.length (k + 1) w6) :=
          ⟨Hb5.out.trans (hb6.mono Hb5.out.size), Nat.le_trans hz5 hb6.size, v5, F5, T5, W5, R5, L5, HB5.out.below hb6, g1, by omega, g3, by omega, by omega⟩
        clear hb6 HB5 Hb5
        go_wp2_with fail
        go_roundw
        case rel => exact ⟨k + 1, by omega, by go_num, HN⟩
        case measure => simp [intOf] <;> omega
      · obtain rfl : k = l.length := by omega
        clear hlt
        go_wp2_with fail
        refine (stands_any wr HBo.out.d HBo.out.r HBo.out.s (by have := HBo.out.sz; omega) (by omega)).mono ?_
        rintro e w6 ⟨rfl, hb6⟩
        go_wp2_with fail
        go_ret
        exact ⟨rfl, Hbl.out.trans (hb6.mono Hbl.out.size)⟩
  · have hE' : (E != 0) = true := by simpa using hE
    have hE2 : (E == 0) = false := by simpa using hE
    rw [if_neg hE]
    go_wp2_with fail
    refine (rnew_any A c fs w1 HA1.out (by omega) Hfs.out).mono ?_
    rintro e w2 ⟨v, W, rfl, ho, ⟨A3, n3, c3, rfl⟩, hb2⟩
    rw [HE2.out]
    have Hb2 := Lib.hid (Hb1.out.trans (hb2.mono hsz1))
    have HB3 := Lib.hid (Hb2.out.alloc Hb2.out.size (.cells #[.slice A3 n3 c3, .int .i64 W, .int .i64 0] 43))
    have HM2 : Hid ((w2.alloc (.cells #[.slice A3 n3 c3, .int .i64 W, .int .i64 0] 43)).cell? ⟨0, 0, none⟩ = some (.int .i64 m)) := (HB3.out.cell (p := ⟨0, 0, none⟩) hg).trans HM.out
    have hz3 : 0 < (w2.alloc (.cells #[.slice A3 n3 c3, .int .i64 W, .int .i64 0] 43)).heap.size := by simp
    clear ho hb2 hE
    go_wp2_with (go_at_call 10; refine (alive_any _ m hz3 HM2.out).mono ?_; rintro e w3 ⟨rfl, hb3⟩)
    go_ret
    exact ⟨rfl, HB3.out.trans (hb3.mono HB3.out.size)⟩
end Go.Proofs.YtbiclpkoocjjfaaDoor
