/- DiskOwn: the law's walk. -/
import Derived.Test.YtbiclpkoocjjfaaDoorPlayB
namespace Go.Proofs.YtbiclpkoocjjfaaDoor
open Go.RowKit Go.Maps

theorem add_off2 (g off j : Nat) : (⟨g, off, none⟩ : Addr).add j = ⟨g, off + j, none⟩ := by
  unfold Addr.add
  split
  · rename_i h; subst h; rfl
  · rfl
theorem files_reads {w : World} {A : Option Addr} {fs : List (ByteArray × ByteArray)} (h : FilesAt w w.heap.size A fs) : Reads w w.heap.size 2 A fs.length (fs.flatMap encF) := by
  refine ⟨fcells_len fs, fun h0 => ?_⟩
  obtain ⟨b, off, rfl, hb, hc⟩ := h h0
  refine ⟨_, rfl, hb, fun j u hu => ?_⟩
  have hj : j < fs.length * 2 := by
    have := (List.getElem?_eq_some_iff.1 hu).1
    rw [fcells_len] at this; exact this
  have hk : j / 2 < fs.length := by omega
  have e : j = j / 2 * 2 + j % 2 := by omega
  have hx := fcells_at fs (j / 2) (j % 2) hk (by omega)
  rw [← e, hu] at hx
  obtain ⟨c1, c2⟩ := hc (j / 2) hk
  have eg : fs.getD (j / 2) default = fs[j / 2] := getD_at fs _ hk
  rw [eg] at c1 c2
  rw [add_off2]
  rcases (by omega : j % 2 = 0 ∨ j % 2 = 1) with h2 | h2
  · rw [h2] at hx
    have : u = .string fs[j / 2].1 := by simpa [encF] using hx
    rw [this, ← c1]; congr 2; omega
  · rw [h2] at hx
    have : u = .string fs[j / 2].2 := by simpa [encF] using hx
    rw [this, ← c2]; congr 2; omega
theorem own_filesAt {w : World} {base : Nat} {e : TypeId} {A : Option Addr} {c : Nat} {fs : List (ByteArray × ByteArray)} (h : w.ownsRow base e 2 (.slice A fs.length c) fs.length (fs.flatMap encF)) : FilesAt w w.heap.size A fs := fun h0 => by
  obtain ⟨A', c', hv, hc⟩ := own_files h
  simp only [Value.slice.injEq] at hv
  obtain ⟨rfl, _, _⟩ := hv
  obtain ⟨g, rfl, _, _⟩ := hc 0 h0
  refine ⟨g, 0, rfl, ?_, fun k hk => ?_⟩
  · obtain ⟨g', _, hv', _, hlt⟩ := h.form h0
    simp only [Value.slice.injEq, Option.some.injEq, Addr.mk.injEq] at hv'
    obtain ⟨⟨rfl, _, _⟩, _, _⟩ := hv'
    exact hlt
  · obtain ⟨g', hg', q0, q1⟩ := hc k hk
    simp only [Option.some.injEq, Addr.mk.injEq] at hg'
    obtain ⟨rfl, _, _⟩ := hg'
    rw [show fs.getD k default = fs[k] from getD_at fs k hk, Nat.zero_add]
    exact ⟨q0, q1⟩

theorem own_lt_any {w : World} {base n size : Nat} {e : TypeId} {v : Value} {xs : List Value} (h : w.ownsRow base e size v n xs) {i : Nat} (hi : v.ownBlock = some i) : i < w.heap.size := by
  obtain ⟨hx, ⟨rfl, _⟩ | ⟨g, cap, cur, rfl, hg, hh, _⟩⟩ := h
  · cases hi
  · have : g = i := by simpa [Value.ownBlock] using hi
    subst this
    exact (Array.getElem?_eq_some_iff.1 hh).1
/-- A store into an owned row. -/
theorem own_set {w : World} {base n c g j : Nat} {e : TypeId} {xs : List Value} (h : w.ownsRow base e 2 (.slice (some ⟨g, 0, none⟩) n c) n xs) (u : Value) : (w.setCell ⟨g, j, none⟩ u).ownsRow base e 2 (.slice (some ⟨g, 0, none⟩) n c) n (xs.set j u) := by
  obtain ⟨hx, ⟨hv, _⟩ | ⟨g', cap', cur, hv, hg, hh, hnc, hcm, hcs, htk⟩⟩ := h
  · cases hv
  · simp only [Value.slice.injEq, Option.some.injEq, Addr.mk.injEq] at hv
    obtain ⟨⟨rfl, _, _⟩, _, rfl⟩ := hv
    have hb : Blk w g e cur := hh
    refine ⟨by rw [List.length_set]; exact hx, .inr ⟨g, c, cur.setIfInBounds j u, rfl, hg, hb.set_ j u, hnc, hcm, by rw [Array.size_setIfInBounds]; exact hcs, ?_⟩⟩
    rw [Array.toList_setIfInBounds, List.take_set, htk]
theorem own_facts {w : World} {base n c g : Nat} {e : TypeId} {xs : List Value} (h : w.ownsRow base e 2 (.slice (some ⟨g, 0, none⟩) n c) n xs) (j : Nat) (hj : j < n * 2) : (∃ u, w.cell? ⟨g, j, none⟩ = some u) ∧ w.frozen? ⟨g, j, none⟩ = false := by
  refine ⟨?_, h.frozenAt j⟩
  have hl : j < xs.length := by rw [h.1]; exact hj
  exact ⟨xs[j], by rw [h.cellAt j hj, List.getElem?_eq_getElem hl]⟩
theorem own_block_lt {w : World} {base n : Nat} {e : TypeId} {v : Value} {xs : List Value} (h : w.ownsRow base e 2 v n xs) {i : Nat} (hi : v.ownBlock = some i) : base ≤ i ∧ i < w.heap.size := by
  obtain ⟨hx, ⟨rfl, _⟩ | ⟨g, cap, cur, rfl, hg, hh, _⟩⟩ := h
  · cases hi
  · have : g = i := by simpa [Value.ownBlock] using hi
    subst this
    exact ⟨hg, (Array.getElem?_eq_some_iff.1 hh).1⟩
theorem own_some {w : World} {base n c : Nat} {A : Option Addr} {e : TypeId} {xs : List Value} (h : w.ownsRow base e 2 (.slice A n c) n xs) (h0 : 0 < n) : ∃ g, A = some ⟨g, 0, none⟩ := by
  obtain ⟨hx, ⟨hv, rfl⟩ | ⟨g, cap, cur, hv, _⟩⟩ := h
  · simp only [Value.slice.injEq] at hv; omega
  · simp only [Value.slice.injEq] at hv; exact ⟨g, hv.1⟩
theorem both_keeps {S : Nat → Prop} {w w' : World} {z db bf bt n rb base : Nat} {v : Value} {F T : DataW Unit} {W R : Int} {L : List Ent} (h : Both w z db bf bt n rb base v F T W R L) (k : Keeps S w w') (hS : ∀ i, S i → i < z ∨ w.heap.size ≤ i) : Both w' z db bf bt n rb base v F T W R L := by
  have h1 := h.low db (.inl (by simp [Own]))
  have h2 := h.low bf (.inl (by simp [Own]))
  have h3 := h.low bt (.inl (by simp [Own]))
  have g1 := h.d.blk.lt
  have g2 := h.d.files.lt
  have g3 := h.d.faults.lt
  refine ⟨h.d.keeps k (fun hs => ?_) (fun hs => ?_) (fun hs => ?_), h.r.keeps k (fun i hi hs => ?_), h.s, h.sz, h.sep, h.low⟩
  · rcases hS _ hs with h | h <;> omega
  · rcases hS _ hs with h | h <;> omega
  · rcases hS _ hs with h | h <;> omega
  · have h4 := h.low i (.inr hi)
    have h5 : i < w.heap.size := by
      rcases hi with rfl | hi
      · exact h.r.blk.lt
      · exact own_lt_any h.r.owns hi
    rcases hS _ hs with h | h <;> omega
theorem both_keepsW {S : Nat → Prop} {w w1 w' : World} {z db bf bt n rb base : Nat} {v : Value} {F T : DataW Unit} {W R : Int} {L : List Ent} (h : Both w z db bf bt n rb base v F T W R L) (hb : Below w.heap.size w w1) (k : Keeps S w1 w') (hS : ∀ i, S i → w.heap.size ≤ i) : Both w' z db bf bt n rb base v F T W R L :=
  h.below (hb.trans ((k.below hb.size hS).mono (Nat.le_refl _)))
/-- What a loop that writes over a row of its own keeps. -/
def Spoil (w3 : World) (base : Nat) (v : Value) (n : Nat) (wr : World) : Prop :=
  Keeps (fun i => v.ownBlock = some i) w3 wr ∧ ∃ xs, wr.ownsRow base 53 2 v n xs

set_option maxRecDepth 100000 in
set_option maxHeartbeats 4000000 in
theorem own_any (A : Option Addr) (c : Nat) (fs : List (ByteArray × ByteArray)) (w : World) (m : Int) (hg : 0 < w.heap.size) (hm : w.cell? ⟨0, 0, none⟩ = some (.int .i64 m))
    (hA : FilesAt w w.heap.size A fs) (hfs : ∀ k, (fs.getD k default).1.size ≤ maxLen ∧ (fs.getD k default).2.size ≤ maxLen) (hN : fs.length * 32 ≤ 140737488351232) :
    Calls Tryd.prog 6 #[.slice A fs.length c] w fun e w' => e = .returned (.bool true) ∧ Below w.heap.size w w' := by
  have HA := Lib.hid hA
  have HRd := Lib.hid (files_reads hA)
  have HOne := Lib.hid (fcells_one fs)
  have Hfs := Lib.hid hfs
  have HM := Lib.hid hm
  have HNs := Lib.hid (new_sim fs)
  have HNl := Lib.hid (rnewAll_len fs)
  obtain ⟨i0, hi0, hz0, hz1, hz2⟩ := info_parts file_info
  have HI := Lib.hid (And.intro hi0 (And.intro hz0 (And.intro hz1 hz2))); clear hi0 hz0 hz1 hz2
  clear hA hfs hm
  go_enter Tryd.func6, Tryd.ntmps6
  go_wp2_with (at_builtin; refine wpList_append_any _ rfl (.const (.slice none 0 0)) (.tmp 11) _ rfl w.heap.size 53 i0 _ 2 32 Tryd.underlying40 HI.out.1 HI.out.2.1 HI.out.2.2.1 HI.out.2.2.2 rfl (by decide) (.slice none 0 0) 0 [] rfl (World.ownsRow_nil _ _ _ _) w.heap.size A fs.length c (fs.flatMap encF) rfl HRd.out HOne.out (by unfold maxLen; omega) (by omega) (Nat.le_refl _) ?_; intro v0 w0 hown0 hg0 hat0)
  have HB0 : Hid (Below w.heap.size w w0) := below_nil' hg0
  have HO0 : Hid (w0.ownsRow w.heap.size 53 2 v0 fs.length (fs.flatMap encF)) := by
    show w0.ownsRow _ _ _ _ _ _
    simpa using hown0
  obtain ⟨A0, c0, rfl⟩ := own_shape2 HO0.out
  have HM0 : Hid (w0.cell? ⟨0, 0, none⟩ = some (.int .i64 m)) := (HB0.out.cell (p := ⟨0, 0, none⟩) hg).trans HM.out
  have hz0 : w.heap.size ≤ w0.heap.size := HB0.out.size
  clear hown0 hg0 hat0
  refine (new_any A0 c0 fs w0 m (by omega) HM0.out (own_filesAt HO0.out) (by omega) Hfs.out).mono ?_
  rintro e w1 ⟨rfl, hd1, hb1⟩
  have HA1 := Lib.hid ((HA.out.below HB0.out).below hb1)
  have Hb1 : Hid (Below w.heap.size w w1) := HB0.out.trans (hb1.mono HB0.out.size)
  have HO1 := Lib.hid (own_keep HO0.out hb1)
  have Hd1 := Lib.hid hd1
  obtain ⟨E, HE⟩ : ∃ z, Hid ((newAll fs).1 = z) := ⟨_, rfl⟩
  have HE2 : Hid ((rnewAll fs).1 = E) := HNs.out.1.symm.trans HE.out
  rw [HE.out]
  have hsz1 := hb1.size
  have HM1 : Hid (w1.cell? ⟨0, 0, none⟩ = some (.int .i64 m)) := (Hb1.out.cell (p := ⟨0, 0, none⟩) hg).trans HM.out
  have HO0x := HO0
  clear hb1 hd1 HO0 HM0
  by_cases hE : E = 0
  · subst hE
    rw [if_pos rfl]
    go_wp2_with fail
    refine (rnew_any A c fs w1 HA1.out (by omega) Hfs.out).mono ?_
    rintro e w2 ⟨v, W, rfl, ho, ⟨A3, n3, c3, rfl⟩, hb2⟩
    rw [HE2.out]
    obtain ⟨hown, rfl⟩ := ho HE2.out
    have hsz2 := hb2.size
    have Hb2 := Lib.hid (Hb1.out.trans (hb2.mono Hb1.out.size))
    have Hd2 := Lib.hid ((Hd1.out HE.out).below hb2)
    have HO := Lib.hid (own_mono hown (Nat.le_add_right w1.heap.size 2))
    have HI2 := Lib.hid (own_keep HO1.out hb2)
    have hlt1 : w0.heap.size + 1 + 1 < w1.heap.size := (Hd1.out HE.out).blk.lt
    have hw2 := HNl.out.2
    clear hown ho hb2 Hd1
    generalize hWW : (rnewAll fs).2.2 = WW at *
    clear hWW
    have HB2 : Hid (Both (w2.alloc (.cells #[.slice A3 n3 c3, .int .i64 WW, .int .i64 0] 43)) w0.heap.size (w0.heap.size + 1 + 1) w0.heap.size (w0.heap.size + 1) fs.length w2.heap.size w1.heap.size (.slice A3 n3 c3) (newAll fs).2.1 (.map []) WW 0 (rnewAll fs).2.1) := by
      have hs := HNs.out.2.1
      have ew : (newAll fs).2.2 = WW := hs.wr
      have hd2 := Hd2.out
      rw [ew] at hd2 hs
      refine ⟨hd2.alloc _, ⟨Blk.new _ _ _, HO.out.alloc _⟩, hs, HNs.out.2.2, fun i hi ho => ?_, fun i hi => ?_⟩
      · rcases hi with rfl | hi
        · rcases ho with h | h | h <;> omega
        · have := (HO.out.lt i hi).1
          rcases ho with h | h | h <;> omega
      · rcases hi with (h | h | h) | (h | h)
        · omega
        · omega
        · omega
        · omega
        · have := (HO.out.lt i h).1; omega
    have HI3 := Lib.hid (HI2.out.alloc (.cells #[.slice A3 n3 c3, .int .i64 WW, .int .i64 0] 43))
    have HB3 := Lib.hid (Hb2.out.alloc Hb2.out.size (.cells #[.slice A3 n3 c3, .int .i64 WW, .int .i64 0] 43))
    have hlt0 : ∀ i, (Value.slice A0 fs.length c0).ownBlock = some i → w.heap.size ≤ i ∧ i < w0.heap.size := fun i hi => own_block_lt HO0x.out hi
    clear HO Hd2 Hb2 HI2 HO1
    go_wp2_with fail
    generalize hw3 : w2.alloc (.cells #[.slice A3 n3 c3, .int .i64 WW, .int .i64 0] 43) = w3 at *
    have Hw3 := Lib.hid hw3
    clear hw3
    go_loopw [38] (fun x wr => ∃ k : Nat, k ≤ fs.length ∧ x = .int .i64 k ∧ Hid (Spoil w3 w.heap.size (.slice A0 fs.length c0) fs.length wr)) (fun x _ => fs.length - (intOf x).toNat)
    case atStart => exact ⟨0, Nat.zero_le _, rfl, Lib.hid ⟨Keeps.refl _ _, _, HI3.out⟩⟩
    case round =>
      obtain ⟨k, hk, rfl, H⟩ := hrel
      by_cases hlt : k < fs.length
      · obtain ⟨hkp, xs, ho⟩ := H.out
        obtain ⟨g, rfl⟩ := own_some ho (by omega)
        obtain ⟨⟨u0, c0a⟩, f0⟩ := own_facts ho (k * 2) (by omega)
        obtain ⟨⟨u1, c1a⟩, f1⟩ := own_facts ho (k * 2 + 1) (by omega)
        have hI : (k : Int) < (fs.length : Int) := by omega
        go_wp2_with fail
        go_roundw
        case rel => exact ⟨k + 1, by omega, by go_num, Lib.hid ⟨Keeps.setCell (p := ⟨g, k * 2 + 1, none⟩) (Keeps.setCell (p := ⟨g, k * 2, none⟩) hkp (.inl rfl) _) (.inl rfl) _, _, own_set (own_set ho _) _⟩⟩
        case measure => simp [intOf] <;> omega
      · obtain rfl : k = fs.length := by omega
        have HK := Lib.hid H.out.1
        have HB4 : Hid (Both wr w0.heap.size (w0.heap.size + 1 + 1) w0.heap.size (w0.heap.size + 1) fs.length w2.heap.size w1.heap.size (.slice A3 n3 c3) (newAll fs).2.1 (.map []) WW 0 (rnewAll fs).2.1) :=
          both_keeps HB2.out HK.out fun i hi => .inl (by have := hlt0 i hi; omega)
        have HB5 : Hid (Below w.heap.size w wr) := HB3.out.trans (HK.out.below HB3.out.size fun i hi => (hlt0 i hi).1)
        clear H HK HI3 HB2
        go_wp2_with fail
        refine (files_any wr HB4.out.d (by have := HB4.out.sz; omega)).mono ?_
        rintro e w4 ⟨v4, fs4, rfl, _, ho4, hl4, hb4⟩
        obtain ⟨A4, c4, rfl⟩ := own_shape2 ho4
        have HB6 := Lib.hid (HB4.out.below hb4)
        have HB7 := Lib.hid (HB5.out.trans (hb4.mono HB5.out.size))
        have HO4 := Lib.hid ho4
        have hlt4 : ∀ i, (Value.slice A4 fs4.length c4).ownBlock = some i → wr.heap.size ≤ i ∧ i < w4.heap.size := fun i hi => own_block_lt HO4.out hi
        have HB7x : Hid (wr.heap.size ≤ w4.heap.size) := hb4.size
        have hls4 : fs4.length ≤ 256 := by have := HB4.out.sz; omega
        have hz4 := HB5.out.size
        have hzz : w.heap.size ≤ w4.heap.size := HB7.out.size
        have HB8 := Lib.hid (fun (w' : World) (k : Keeps (fun i => (Value.slice A4 fs4.length c4).ownBlock = some i) w4 w') => (both_keepsW HB4.out hb4 k fun i hi => (hlt4 i hi).1))
        clear hb4 ho4 hl4 HB4
        obtain ⟨z1, hz1⟩ : ∃ z1, wr.heap.size = z1 := ⟨_, rfl⟩
        rw [hz1] at HO4 hlt4 hz4 HB7x
        clear HB5 hz1
        go_wp2_with fail
        go_loopw [50] (fun x wr => ∃ k : Nat, k ≤ fs4.length ∧ x = .int .i64 k ∧ Hid (Spoil w4 z1 (.slice A4 fs4.length c4) fs4.length wr)) (fun x _ => fs4.length - (intOf x).toNat)
        case atStart => exact ⟨0, Nat.zero_le _, rfl, Lib.hid ⟨Keeps.refl _ _, _, HO4.out⟩⟩
        case round =>
          obtain ⟨k, hk, rfl, H⟩ := hrel
          by_cases hlt : k < fs4.length
          · obtain ⟨hkp, xs, ho⟩ := H.out
            obtain ⟨g, rfl⟩ := own_some ho (by omega)
            obtain ⟨⟨u0, c0a⟩, f0⟩ := own_facts ho (k * 2) (by omega)
            obtain ⟨⟨u1, c1a⟩, f1⟩ := own_facts ho (k * 2 + 1) (by omega)
            have hI : (k : Int) < (fs4.length : Int) := by omega
            go_wp2_with fail
            go_roundw
            case rel => exact ⟨k + 1, by omega, by go_num, Lib.hid ⟨Keeps.setCell (p := ⟨g, k * 2 + 1, none⟩) (Keeps.setCell (p := ⟨g, k * 2, none⟩) hkp (.inl rfl) _) (.inl rfl) _, _, own_set (own_set ho _) _⟩⟩
            case measure => simp [intOf] <;> omega
          · obtain rfl : k = fs4.length := by omega
            obtain ⟨hkp, xs, ho⟩ := H.out
            have HKp := Lib.hid hkp
            have hzw : w.heap.size ≤ wr.heap.size := Nat.le_trans hzz hkp.size
            have hzv : z1 ≤ wr.heap.size := by have := hkp.size; have := HB7x.out; omega
            clear H HB6 HO4
            have HOw := Lib.hid ho
            clear hkp ho
            go_wp2_with (at_builtin; refine wpList_append_own _ rfl _ _ 40 rfl z1 53 i0 (.agg #[.string ⟨#[]⟩, .string ⟨#[]⟩]) 2 32 Tryd.underlying40 HI.out.1 HI.out.2.1 HI.out.2.2.1 HI.out.2.2.2 rfl (by decide) _ _ _ rfl (HOw.out.alloc _) ⟨wr.heap.size, 0, none⟩ 1 1 (encF (⟨#[]⟩, ⟨#[]⟩)) rfl rfl ?_ (encF_one (⟨#[]⟩, ⟨#[]⟩)) ?_ ?_ ?_ ?_)
            · have := World.news_of_block (w := wr.alloc (.cells #[.string ⟨#[]⟩, .string ⟨#[]⟩] 53)) (B := wr.heap.size) (cs := #[.string ⟨#[]⟩, .string ⟨#[]⟩]) (t := 53) (fr := (0, 0)) (by
                have := heap_alloc_new wr (.cells #[.string ⟨#[]⟩, .string ⟨#[]⟩] 53)
                simpa using this)
              exact this
            · unfold maxLen; omega
            · omega
            · simp; omega
            · intro v' w5 _ hg5 _
              have hk5 : Keeps (fun i => (Value.slice A4 fs4.length c4).ownBlock = some i) w4 w5 := (HKp.out.alloc _).trans (Keeps.of_grown hg5 fun g h => h)
              have HBf := Lib.hid (HB8.out w5 hk5)
              have HBw := Lib.hid (HB7.out.trans (hk5.below hzz fun i hi => by have := hlt4 i hi; omega))
              have hg5' : 0 < w5.heap.size := by have := HBw.out.size; omega
              have HM5 : Hid (w5.cell? ⟨0, 0, none⟩ = some (.int .i64 m)) := (HBw.out.cell (p := ⟨0, 0, none⟩) hg).trans HM.out
              have hLn : (rnewAll fs).2.1.length ≤ 2199023255552 := by have := rnewAll_ents fs HE2.out; omega
              clear hg5 hk5 HB8 HB7 HKp HOw
              go_wp2_with fail
              refine (stands_any w5 HBf.out.d HBf.out.r HBf.out.s (by have := HBf.out.sz; omega) hLn).mono ?_
              rintro e w6 ⟨rfl, hb6⟩
              have HBx := Lib.hid (HBw.out.trans (hb6.mono HBw.out.size))
              have hg6 : 0 < w6.heap.size := by have := hb6.size; omega
              have HM6 : Hid (w6.cell? ⟨0, 0, none⟩ = some (.int .i64 m)) := (HBx.out.cell (p := ⟨0, 0, none⟩) hg).trans HM.out
              clear hb6
              go_wp2_with (go_at_call 10; refine (alive_any _ m hg6 HM6.out).mono ?_; rintro e w7 ⟨rfl, hb7⟩)
              go_ret
              exact ⟨rfl, HBx.out.trans (hb7.mono HBx.out.size)⟩
  · have hE' : (E != 0) = true := by simpa using hE
    have hEE : (E != E) = false := by simp
    have hEq : (E == E) = true := by simp
    rw [if_neg hE]
    go_wp2_with fail
    refine (rnew_any A c fs w1 HA1.out (by omega) Hfs.out).mono ?_
    rintro e w2 ⟨v, W, rfl, ho, ⟨A3, n3, c3, rfl⟩, hb2⟩
    rw [HE2.out]
    have Hb2 := Lib.hid (Hb1.out.trans (hb2.mono Hb1.out.size))
    have HB3 := Lib.hid (Hb2.out.alloc Hb2.out.size (.cells #[.slice A3 n3 c3, .int .i64 W, .int .i64 0] 43))
    have HM2 : Hid ((w2.alloc (.cells #[.slice A3 n3 c3, .int .i64 W, .int .i64 0] 43)).cell? ⟨0, 0, none⟩ = some (.int .i64 m)) := (HB3.out.cell (p := ⟨0, 0, none⟩) hg).trans HM.out
    have hz3 : 0 < (w2.alloc (.cells #[.slice A3 n3 c3, .int .i64 W, .int .i64 0] 43)).heap.size := by simp
    clear ho hb2 hE
    go_wp2_with (go_at_call 10; refine (alive_any _ m hz3 HM2.out).mono ?_; rintro e w3 ⟨rfl, hb3⟩)
    go_ret
    exact ⟨rfl, HB3.out.trans (hb3.mono HB3.out.size)⟩
end Go.Proofs.YtbiclpkoocjjfaaDoor
