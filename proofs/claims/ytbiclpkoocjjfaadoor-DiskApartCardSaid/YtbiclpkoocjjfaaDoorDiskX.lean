/- The walk of the statement DiskApart. -/
import Derived.Test.YtbiclpkoocjjfaaDoorDiskV
namespace Go.Proofs.YtbiclpkoocjjfaaDoor
open Go.RowKit Go.Maps

/-- Of path q both states tell the same, but its stamp. -/
def Agree (q : ByteArray) (F T F0 T0 : DataW Unit) : Prop := Maps.has F (key q) = Maps.has F0 (key q) ∧ fileS F q = fileS F0 q ∧ faultC T q = faultC T0 q
section
variable {q p : ByteArray} {F T F0 T0 : DataW Unit}
theorem Agree.refl (q : ByteArray) (F T : DataW Unit) : Agree q F T F T := ⟨rfl, rfl, rfl⟩
theorem Agree.write (h : Agree q F T F0 T0) (hne : q ≠ p) (x : ByteArray) (W : Int) : Agree q (writeF F p x W) T F0 T0 := by
  unfold writeF; split
  · exact ⟨(hasF_put_other hne _).trans h.1, (fileS_put_other hne _).trans h.2.1, h.2.2⟩
  · exact h
theorem Agree.remove (h : Agree q F T F0 T0) (hne : q ≠ p) : Agree q (removeF F p) T F0 T0 := by
  unfold removeF; split
  · exact ⟨(hasF_del_other hne).trans h.1, (fileS_del_other hne).trans h.2.1, h.2.2⟩
  · exact h
theorem Agree.fault (h : Agree q F T F0 T0) (hne : q ≠ p) (x : Int) : Agree q F (faultT T p x) F0 T0 := by
  unfold faultT; split
  · exact ⟨h.1, h.2.1, (faultC_put_other hne _).trans h.2.2⟩
  · exact h
theorem Agree.read (h : Agree q F T F0 T0) (hne : q ≠ p) : Agree q F (readT F T p) F0 T0 := by
  unfold readT; split
  · exact ⟨h.1, h.2.1, (faultC_put_other hne _).trans h.2.2⟩
  · exact h
theorem Agree.readI (h : Agree q F T F0 T0) : readI F T q = readI F0 T0 q := by unfold Go.Proofs.YtbiclpkoocjjfaaDoor.readI; rw [h.1, h.2.2]
theorem Agree.readS (h : Agree q F T F0 T0) : readS F T q = readS F0 T0 q := by unfold Go.Proofs.YtbiclpkoocjjfaaDoor.readS; rw [h.readI, h.2.1]
end

/-- does at whatever act, beside a reference that has nothing yet: the disk goes on, and tells of another path what it told. -/
theorem does_apart {db bf bt n rb : Nat} {F T F0 T0 : DataW Unit} {W R : Int} {k N : Nat} (q : ByteArray) (kind : Int) (p x : ByteArray) (num : Int) (m : Int) (w : World) (hg : 0 < w.heap.size) (hm : w.cell? ⟨0, 0, none⟩ = some (.int .i64 m))
    (hd : DiskAt w db bf bt n F T W R) (hr : Blk w rb 43 #[.slice none 0 0, .int .i64 0, .int .i64 0]) (h1 : ¬ Own db bf bt rb) (hlow : ∀ i, Own db bf bt i → i ≠ 0) (hrb : rb ≠ 0)
    (hp : p.size ≤ maxLen) (hx : x.size ≤ maxLen) (hn : n < maxLen) (hnum : num ≤ 9223372036854775807) (hW0 : 0 ≤ W) (hWN : W ≤ N + k) (hR0 : 0 ≤ R) (hRk : R ≤ k) (hNk : N + k ≤ 4611686018427387904) (hne : q ≠ p) (ha : Agree q F T F0 T0) :
    Calls Tryd.prog 17 #[.pointer (some ⟨db, 0, none⟩), .pointer (some ⟨rb, 0, none⟩), .agg #[.int .i64 kind, .string p, .string x, .int .i64 num]] w fun e w' =>
      ∃ a, e = .returned (.bool a) ∧ ∃ F' T' W' R', DiskAt w' db bf bt (n + 1) F' T' W' R' ∧ Agree q F' T' F0 T0 ∧ 0 ≤ W' ∧ W' ≤ N + k + 1 ∧ 0 ≤ R' ∧ R' ≤ k + 1 ∧ Keeps (fun i => Own db bf bt i ∨ i = rb) w w' := by
  have hR : RefAt w rb w.heap.size (.slice none 0 0) [] 0 0 := ⟨hr, World.ownsRow_nil _ _ _ _⟩
  have hsep : ∀ i, ROwn rb (.slice none 0 0) i → ¬ Own db bf bt i := fun i hi h => by
    rcases hi with rfl | hi
    · exact h1 h
    · simp [Value.ownBlock] at hi
  have hlow' : ∀ i, Own db bf bt i ∨ ROwn rb (.slice none 0 0) i → i ≠ 0 := fun i hi => by
    rcases hi with h | rfl | h
    · exact hlow i h
    · exact hrb
    · simp [Value.ownBlock] at h
  have hkeep : ∀ {w'}, Keeps (fun i => Own db bf bt i ∨ ROwn rb (.slice none 0 0) i) w w' → Keeps (fun i => Own db bf bt i ∨ i = rb) w w' := fun h => h.mono (fun i _ hi => by
    rcases hi with h | rfl | h
    · exact .inl h
    · exact .inr rfl
    · simp [Value.ownBlock] at h)
  have hrk : 0 ≤ readK p R ∧ readK p R ≤ R + 1 := by unfold readK; split <;> omega
  have hww : 0 ≤ writeW F p x W ∧ writeW F p x W ≤ W + 1 := by unfold writeW; split <;> omega
  have hfl : (entOf [] p).faults ≤ 9223372036854775807 := by show (0 : Int) ≤ _; decide
  cases e0 : (kind.tmod 5 % 5 == 0) with
  | true =>
    refine (does0 db bf bt n rb w.heap.size (.slice none 0 0) F T W R [] 0 0 kind p x num m w hg hm hd hR hsep hlow' hp hx (Nat.le_refl _) hn (by decide) e0 hW0 (by omega) (by omega) (by omega)).mono ?_
    rintro e w' ⟨he, hd', v', _, hk, _⟩
    exact ⟨_, he, _, _, _, _, hd', ha.write hne x W, hww.1, by omega, hR0, by omega, hkeep hk⟩
  | false =>
    cases e1 : (kind.tmod 5 % 5 == 1) with
    | true =>
      refine (does1 db bf bt n rb w.heap.size (.slice none 0 0) F T W R [] 0 0 kind p x num m w hg hm hd hR hsep hlow' hp hx (Nat.le_refl _) hn (by decide) e0 e1).mono ?_
      rintro e w' ⟨he, hd', v', _, hk, _⟩
      exact ⟨_, he, _, _, _, _, hd', ha.remove hne, hW0, by omega, hR0, by omega, hkeep hk⟩
    | false =>
      cases e2 : (kind.tmod 5 % 5 == 2) with
      | true =>
        refine (does2 db bf bt n rb w.heap.size (.slice none 0 0) F T W R [] 0 0 kind p x num m w hg hm hd hR hsep hlow' hp hx (Nat.le_refl _) hn (by decide) e0 e1 e2 hnum).mono ?_
        rintro e w' ⟨he, hd', v', _, hk, _⟩
        exact ⟨_, he, _, _, _, _, hd', ha.fault hne num, hW0, by omega, hR0, by omega, hkeep hk⟩
      | false =>
        cases e3 : (kind.tmod 5 % 5 == 3) with
        | true =>
          refine (does3 db bf bt n rb w.heap.size (.slice none 0 0) F T W R [] 0 0 kind p x num m w hg hm hd hR hsep hlow' hp hx (Nat.le_refl _) hn (by decide) e0 e1 e2 e3 hR0 (by omega) (by omega) (by omega) hfl).mono ?_
          rintro e w' ⟨he, hd', v', _, hk, _⟩
          exact ⟨_, he, _, _, _, _, hd', ha.read hne, hW0, by omega, hrk.1, by omega, hkeep hk⟩
        | false =>
          refine (does4 db bf bt n rb w.heap.size (.slice none 0 0) F T W R [] 0 0 kind p x num m w hg hm hd hR hsep hlow' hp hx (Nat.le_refl _) hn (by decide) e0 e1 e2 e3 hR0 (by omega) (by omega) (by omega) hfl).mono ?_
          rintro e w' ⟨he, hd', v', _, hk, _⟩
          exact ⟨_, he, _, _, _, _, hd', ha.read hne, hW0, by omega, hrk.1, by omega, hkeep hk⟩

/-- What holds at the head of each round: a goes on, b stands. -/
def ApInv (w : World) (ab af at_ bb bf bt N : Nat) (q : ByteArray) (F0 T0 : DataW Unit) (Wb : Int) (k : Nat) (wr : World) : Prop :=
  ∃ (F T : DataW Unit) (W R : Int), DiskAt wr ab af at_ (N + k) F T W R ∧ Agree q F T F0 T0 ∧ 0 ≤ W ∧ W ≤ N + k ∧ 0 ≤ R ∧ R ≤ k ∧ DiskAt wr bb bf bt N F0 T0 Wb 0 ∧ Below w.heap.size w wr

theorem bytes_ne_of_size {a b : ByteArray} (h : a.size ≠ b.size) : a ≠ b := fun e => h (by rw [e])

set_option maxRecDepth 100000 in
set_option maxHeartbeats 2000000 in
theorem apart_any (A : Option Addr) (c : Nat) (fs : List (ByteArray × ByteArray)) (q : ByteArray) (A2 : Option Addr) (c2 : Nat) (l : List ActV) (w : World) (m : Int) (hg : 0 < w.heap.size) (hm : w.cell? ⟨0, 0, none⟩ = some (.int .i64 m))
    (hA : FilesAt w w.heap.size A fs) (hfn : fs.length ≤ 1152921504606846976) (hfs : ∀ k, (fs.getD k default).1.size ≤ maxLen ∧ (fs.getD k default).2.size ≤ maxLen) (hq : q.size ≤ maxLen)
    (hA2 : ActsAt w w.heap.size A2 l) (hn : l.length * 48 ≤ 140737488351232)
    (hsz : ∀ k, (l.getD k default).path.size ≤ maxLen ∧ (l.getD k default).text.size ≤ maxLen) (hnum : ∀ k, -9223372036854775808 ≤ (l.getD k default).num ∧ (l.getD k default).num ≤ 9223372036854775807 ∧ -9223372036854775808 ≤ (l.getD k default).kind ∧ (l.getD k default).kind ≤ 9223372036854775807) :
    Calls Tryd.prog 4 #[.slice A fs.length c, .string q, .slice A2 l.length c2] w fun e w' => e = .returned (.bool true) ∧ Below w.heap.size w w' := by
  have HA := Lib.hid hA; clear hA
  have HA2 := Lib.hid hA2; clear hA2
  have Hfs := Lib.hid hfs; clear hfs
  have Hsz := Lib.hid hsz; clear hsz
  have Hnum := Lib.hid hnum; clear hnum
  go_enter Tryd.func4, Tryd.ntmps4
  go_wp2_with fail
  refine (new_any A c fs w m hg hm HA.out hfn Hfs.out).mono ?_
  rintro e w1 ⟨rfl, hd1, hb1⟩
  have hg1 : 0 < w1.heap.size := Nat.lt_of_lt_of_le hg hb1.size
  have hm1 := (hb1.cell (p := ⟨0, 0, none⟩) hg).trans hm
  have HA1 : Hid (FilesAt w1 w1.heap.size A fs) := fun h => by
    obtain ⟨b, off, hA, hb, hc⟩ := HA.out h
    exact ⟨b, off, hA, Nat.lt_of_lt_of_le hb hb1.size, fun k hk => ⟨(hb1.cell (p := ⟨b, off + k * 2, none⟩) hb).trans (hc k hk).1, (hb1.cell (p := ⟨b, off + k * 2 + 1, none⟩) hb).trans (hc k hk).2⟩⟩
  obtain ⟨E, HE⟩ : ∃ z, Hid ((newAll fs).1 = z) := ⟨_, rfl⟩
  rw [HE.out]
  have gE : (E != E) = false := by simp
  by_cases hE : E = 0
  · subst hE
    replace hd1 := hd1 HE.out
    rw [if_pos rfl]
    have Hd1 := Lib.hid hd1; clear hd1
    go_wp2_with fail
    refine (new_any A c fs w1 m hg1 hm1 HA1.out hfn Hfs.out).mono ?_
    rintro e w2 ⟨rfl, hd2, hb2⟩
    replace hd2 := hd2 HE.out
    rw [HE.out, if_pos rfl]
    have hb2' := hb1.trans (hb2.mono hb1.size)
    have hm2 := (hb2'.cell (p := ⟨0, 0, none⟩) hg).trans hm
    have hda := Hd1.out.below hb2
    have hlt1 : w.heap.size + 1 + 1 < w1.heap.size := Hd1.out.blk.lt
    have hlt2 : w1.heap.size + 1 + 1 < w2.heap.size := hd2.blk.lt
    clear HA1 Hd1 hb1 hb2 hm1
    have Hda := Lib.hid hda; clear hda
    have Hdb := Lib.hid hd2; clear hd2
    go_wp2_with fail
    refine (alive_any w2 m (by omega) hm2).mono ?_
    rintro e w3 ⟨rfl, hb3⟩
    have hb3' := hb2'.trans (hb3.mono hb2'.size)
    have hm3 := (hb3'.cell (p := ⟨0, 0, none⟩) hg).trans hm
    have Hda3 := Lib.hid (Hda.out.below hb3)
    have Hdb3 := Lib.hid (Hdb.out.below hb3)
    clear Hda Hdb hb2' hm2 hb3
    go_wp2_with fail
    refine (path_any q hq m w3 hm3).mono ?_
    rintro e w4 ⟨rfl, hb4⟩
    have hb4' := hb3'.trans (hb4.mono hb3'.size)
    have Hda4 := Lib.hid (Hda3.out.below hb4)
    have Hdb4 := Lib.hid (Hdb3.out.below hb4)
    clear Hda3 Hdb3 hb3' hm3 hb4
    cases hpq : pathB q with
    | false =>
      clear Hda4 Hdb4
      go_wp2_with fail
      go_ret
      exact ⟨rfl, hb4'⟩
    | true =>
      have hq256 : q.size ≤ 256 := by
        unfold pathB at hpq
        simp at hpq
        exact hpq.1.2
      have hW := newAll_w fs
      have Hpq := Lib.hid hpq; clear hpq
      go_wp2_with fail
      go_loopw [44] (fun i wr => ∃ k : Nat, k ≤ l.length ∧ i = .int .i64 k ∧ ApInv w (w.heap.size + 1 + 1) w.heap.size (w.heap.size + 1) (w1.heap.size + 1 + 1) w1.heap.size (w1.heap.size + 1) fs.length q (newAll fs).2.1 (.map []) (newAll fs).2.2 k wr) (fun i _ => l.length - (intOf i).toNat)
      case atStart => exact ⟨0, Nat.zero_le _, rfl, _, _, _, _, Hda4.out, Agree.refl _ _ _, hW.1, by omega, by omega, by omega, Hdb4.out, hb4'⟩
      case round =>
        clear Hda4 Hdb4 hb4'
        obtain ⟨k, hk, rfl, F, T, W, R, hda, hag, hW0, hWN, hR0, hRk, hdb, hbl⟩ := hrel
        have Hda := Lib.hid hda
        have Hdb := Lib.hid hdb
        have Hag := Lib.hid hag
        clear hda hdb hag
        by_cases hlt : k < l.length
        · obtain ⟨xb, xo, rfl, hxb, hc⟩ := HA2.out (by omega)
          obtain ⟨c0, c1, c2, c3⟩ := hc k hlt
          have a0 := (hbl.cell (p := ⟨xb, xo + k * 4, none⟩) hxb).trans c0
          have a1 := (hbl.cell (p := ⟨xb, xo + k * 4 + 1, none⟩) hxb).trans c1
          have a2 := (hbl.cell (p := ⟨xb, xo + k * 4 + 2, none⟩) hxb).trans c2
          have a3 := (hbl.cell (p := ⟨xb, xo + k * 4 + 3, none⟩) hxb).trans c3
          obtain ⟨hs1, hs2⟩ := Hsz.out k
          obtain ⟨hn1, hn2, hn3, hn4⟩ := Hnum.out k
          clear hc c0 c1 c2 c3 hxb HA HA2 Hsz Hnum Hfs
          generalize l.getD k default = a at *
          obtain ⟨kind, p, x, num⟩ := a
          dsimp only at a0 a1 a2 a3 hs1 hs2 hn1 hn2 hn3 hn4
          have step : ∀ (p' : ByteArray) (w5 : World), q ≠ p' → p'.size ≤ maxLen → Below wr.heap.size wr w5 → Blk w5 (wr.heap.size + 1) 43 #[.slice none 0 0, .int .i64 0, .int .i64 0] →
              Calls Tryd.prog 17 #[.pointer (some ⟨w.heap.size + 1 + 1, 0, none⟩), .pointer (some ⟨wr.heap.size + 1, 0, none⟩), .agg #[.int .i64 kind, .string p', .string x, .int .i64 num]] w5 fun e w' =>
                ∃ a, e = .returned (.bool a) ∧ Hid (ApInv w (w.heap.size + 1 + 1) w.heap.size (w.heap.size + 1) (w1.heap.size + 1 + 1) w1.heap.size (w1.heap.size + 1) fs.length q (newAll fs).2.1 (.map []) (newAll fs).2.2 (k + 1) w') := by
            intro p' w5 hne hp' hb5 hblk5
            have hb5' := hbl.trans (hb5.mono hbl.size)
            have hda5 := Hda.out.below hb5
            have hdb5 := Hdb.out.below hb5
            have hlta : w.heap.size + 1 + 1 < wr.heap.size := Hda.out.blk.lt
            have hltb : w1.heap.size + 1 + 1 < wr.heap.size := Hdb.out.blk.lt
            refine (does_apart (k := k) (N := fs.length) q kind p' x num m w5 (by have := hb5.size; omega) ((hb5'.cell (p := ⟨0, 0, none⟩) hg).trans hm) hda5 hblk5 (fun h => by rcases h with h | h | h <;> omega) (fun i h => by rcases h with h | h | h <;> omega) (by omega) hp' hs2 (by unfold maxLen; omega) hn2 hW0 hWN hR0 hRk (by omega) hne Hag.out).mono ?_
            rintro e w6 ⟨a, rfl, F6, T6, W6, R6, hd6, hag6, g1, g2, g3, g4, hk6⟩
            refine ⟨a, rfl, F6, T6, W6, R6, ?_, hag6, g1, by omega, g3, by omega, ?_, hb5'.trans (hk6.below hb5'.size (fun i h => by rcases h with (h | h | h) | h <;> omega))⟩
            · exact hd6.mono (by omega)
            · exact hdb5.keeps hk6 (fun h => by rcases h with (h | h | h) | h <;> omega) (fun h => by rcases h with (h | h | h) | h <;> omega) (fun h => by rcases h with (h | h | h) | h <;> omega)
          have Hstep := Lib.hid step; clear step
          by_cases hpe : p = q
          · subst hpe
            have hpe' : (p.toList == p.toList) = true := by simp
            have hadd : ((2 : Int) + p.size) ≤ 9223372036854775807 := by omega
            go_wp2_with fail
            have hsz2 : ((⟨#[47, 120]⟩ : ByteArray) ++ p).size = 2 + p.size := by rw [ByteArray.size_append]; rfl
            have hnep : p ≠ (⟨#[47, 120]⟩ : ByteArray) ++ p := bytes_ne_of_size (by omega)
            have hszp : ((⟨#[47, 120]⟩ : ByteArray) ++ p).size ≤ maxLen := by unfold maxLen; omega
            clear hsz2
            generalize (⟨#[47, 120]⟩ : ByteArray) ++ p = p2 at *
            have hbx : Below wr.heap.size wr ((wr.alloc (.cells #[.int .i64 kind, .string p2, .string x, .int .i64 num] 30)).alloc (.cells #[.slice none 0 0, .int .i64 0, .int .i64 0] 43)) := ((Below.refl _ _).alloc (Nat.le_refl _) _).alloc (by simp) _
            refine (Hstep.out p2 _ hnep hszp hbx (by have := Blk.new (wr.alloc (.cells #[.int .i64 kind, .string p2, .string x, .int .i64 num] 30)) 43 #[.slice none 0 0, .int .i64 0, .int .i64 0]; simpa using this)).mono ?_
            rintro e w6 ⟨a, rfl, Hinv⟩
            clear Hstep hbx Hda Hdb Hag
            go_wp2_with fail
            go_roundw
            case rel => exact ⟨k + 1, by omega, by go_num, Hinv.out⟩
            case measure => simp [intOf] <;> omega
          · have hpe' : (p.toList == q.toList) = false := by
              rw [beq_eq_false_iff_ne]; intro h; rw [Lib.toList_data, Lib.toList_data] at h; exact hpe (WideShapes.bytes_inj h)
            go_wp2_with fail
            have hbx : Below wr.heap.size wr ((wr.alloc (.cells #[.int .i64 kind, .string p, .string x, .int .i64 num] 30)).alloc (.cells #[.slice none 0 0, .int .i64 0, .int .i64 0] 43)) := ((Below.refl _ _).alloc (Nat.le_refl _) _).alloc (by simp) _
            refine (Hstep.out p _ (fun h => hpe h.symm) hs1 hbx (by have := Blk.new (wr.alloc (.cells #[.int .i64 kind, .string p, .string x, .int .i64 num] 30)) 43 #[.slice none 0 0, .int .i64 0, .int .i64 0]; simpa using this)).mono ?_
            rintro e w6 ⟨a, rfl, Hinv⟩
            clear Hstep hbx Hda Hdb Hag
            go_wp2_with fail
            go_roundw
            case rel => exact ⟨k + 1, by omega, by go_num, Hinv.out⟩
            case measure => simp [intOf] <;> omega
        · have HRI : Hid (readI F T q = readI (newAll fs).2.1 (.map []) q) := Hag.out.readI
          have HRS : Hid (readS F T q = readS (newAll fs).2.1 (.map []) q) := Hag.out.readS
          have hlta : w.heap.size + 1 + 1 < wr.heap.size := Hda.out.blk.lt
          have hltb : w1.heap.size + 1 + 1 < wr.heap.size := Hdb.out.blk.lt
          go_wp2_with fail
          refine (read_all q hq m wr ((hbl.cell (p := ⟨0, 0, none⟩) hg).trans hm) Hda.out hR0 (by omega) (by unfold maxLen; omega)).mono ?_
          rintro e w6 ⟨rfl, hd6, hk6⟩
          have hdb6 := Hdb.out.keeps hk6 (fun h => by rcases h with h | h | h <;> omega) (fun h => by rcases h with h | h | h <;> omega) (fun h => by rcases h with h | h | h <;> omega)
          have hbl6 := hbl.trans (hk6.below hbl.size (fun i h => by rcases h with h | h | h <;> omega))
          have hm6 := (hbl6.cell (p := ⟨0, 0, none⟩) hg).trans hm
          have Hdb6 := Lib.hid hdb6; clear hdb6
          clear Hda Hdb hd6 hk6 Hag
          rw [HRI.out, HRS.out]
          obtain ⟨rs, Hrs⟩ : ∃ z, Hid (readS (newAll fs).2.1 (.map []) q = z) := ⟨_, rfl⟩
          obtain ⟨ri, Hri⟩ : ∃ z, Hid (readI (newAll fs).2.1 (.map []) q = z) := ⟨_, rfl⟩
          rw [Hrs.out, Hri.out]
          generalize readN F T q = rn
          go_wp2_with fail
          refine (read_all q hq m w6 hm6 Hdb6.out (by omega) (by omega) (by unfold maxLen; omega)).mono ?_
          rintro e w7 ⟨rfl, hd7, hk7⟩
          rw [Hrs.out, Hri.out]
          have hbl7 := hbl6.trans (hk7.below hbl6.size (fun i h => by rcases h with h | h | h <;> omega))
          clear Hdb6 hd7 hk7 hm6 HRI HRS Hrs Hri
          generalize readN (newAll fs).2.1 (.map []) q = rn2
          have z1 : (rs.toList == rs.toList) = true := by simp
          have z2 : (ri == ri) = true := by simp
          go_wp2_with fail
          go_ret
          exact ⟨rfl, hbl7⟩
  · have hE' : (E != 0) = true := by simpa using hE
    rw [if_neg hE]
    go_wp2_with fail
    refine (new_any A c fs w1 m hg1 hm1 HA1.out hfn Hfs.out).mono ?_
    rintro e w2 ⟨rfl, hd2, hb2⟩
    rw [HE.out, if_neg hE]
    have hb2' := hb1.trans (hb2.mono hb1.size)
    have hm2 := (hb2'.cell (p := ⟨0, 0, none⟩) hg).trans hm
    clear hd2 hd1 HA1 hb1 hb2 hm1
    go_wp2_with fail
    refine (alive_any w2 m (by have := hb2'.size; omega) hm2).mono ?_
    rintro e w3 ⟨rfl, hb3⟩
    have hb3' := hb2'.trans (hb3.mono hb2'.size)
    clear hb2' hb3 hm2
    go_wp2_with fail
    go_ret
    exact ⟨rfl, hb3'⟩
end Go.Proofs.YtbiclpkoocjjfaaDoor
