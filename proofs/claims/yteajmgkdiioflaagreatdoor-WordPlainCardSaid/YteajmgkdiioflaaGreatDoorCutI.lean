/- The walk of cut.Cut. -/
import Derived.Test.YteajmgkdiioflaaGreatDoorCutH
import Derived.Deep.DeepCutAuto
namespace Go.Proofs.YteajmgkdiioflaaGreatDoor
open Go.RowKit
attribute [local go_sem ↓] Go.wp_at_zero Go.wp_at_succ

theorem trimPrefix_suf (s p : ByteArray) (k : Nat) (b : Bool) (h : Lib.hasPrefix (s.data.toList.drop k) p.data.toList = b) (w : World) : Calls Tryz.prog 32 #[.string (suf s k), .string p] w fun e w' => e = .returned (.string (suf s (k + if b = true then p.size else 0))) ∧ w = w' := by
  have hc := callsSym (Tryz.strings_TrimPrefix (suf s k) p w)
  have e : (⟨(Lib.trimPrefix (suf s k).data.toList p.data.toList).toArray⟩ : ByteArray) = suf s (k + if b = true then p.size else 0) := by
    apply WideShapes.bytes_inj
    rw [suf_data, suf_data]
    unfold Lib.trimPrefix
    cases b with
    | true => rw [if_pos h, if_pos rfl, Lib.size_eq p, ← List.drop_drop]
    | false => rw [if_neg (by rw [h]; decide), if_neg (by decide), Nat.add_zero]
  rw [e] at hc
  exact hc
theorem tag_suf (s : ByteArray) (i : Nat) (hs : s.size ≤ 65536) (w : World) (hF : FoldAt w) :
    Calls Tryz.prog 30 #[.string (suf s i)] w fun e w' => e = .returned (.tuple #[.int .i64 ((tagN (s.data.toList.drop i)).1 : Nat), .int .i64 ((tagN (s.data.toList.drop i)).2 : Nat)]) ∧ Below w.heap.size w w' := by
  have := tag_any (suf s i) (by rw [suf_size]; unfold maxLen; omega) w hF
  rwa [suf_data] at this
theorem code_suf (s : ByteArray) (i : Nat) (hs : s.size ≤ 65536) (m : Int) (w : World) (hm : w.cell? ⟨0, 0, none⟩ = some (.int .i64 m)) : Calls Tryz.prog 31 #[.string (suf s i)] w fun e w' => e = .returned (.int .i64 (codeN (s.data.toList.drop i) : Nat)) ∧ w = w' := by
  have := code_any (suf s i) (by rw [suf_size]; omega) m w hm
  rwa [suf_data] at this

/-- What the walk needs of memory: two of the library's variables. -/
structure Lib2 (m : Int) (w : World) : Prop where
  fold : FoldAt w
  max : w.cell? ⟨0, 0, none⟩ = some (.int .i64 m)
theorem Lib2.below {m : Int} {w w' : World} (h : Lib2 m w) (hb : Below w.heap.size w w') : Lib2 m w' :=
  ⟨fold_below h.fold hb, (hb.cell (p := ⟨0, 0, none⟩) (World.block_lt_of_cell? w _ h.max)).trans h.max⟩

/-- The slice v holds the pieces ps of a file. -/
def PiecesAt (w : World) (base : Nat) (file : ByteArray) (v : Value) (ps : List P3) : Prop := w.ownsRow base 43 3 v ps.length (ps.flatMap (pcCells file))

set_option maxRecDepth 100000 in
theorem cut_long (file : ByteArray) (hfs : 65536 < file.size) (hml : file.size ≤ maxLen) (w : World) :
    Calls Tryz.prog 14 #[.string file] w fun e w' => e = .returned (.tuple #[.slice none 0 0, .int .i64 2]) ∧ Below w.heap.size w w' := by
  have hI : (65536 : Int) < (file.size : Int) := by omega
  go_enter Tryz.func14, Tryz.ntmps14
  go_wp2_with fail
  go_ret2
  exact ⟨rfl, (Below.refl _ _).alloc (Nat.le_refl _) _⟩

theorem cs_start (file : ByteArray) (w : World) (wr : World) (h : wr = (((w.alloc (.cells #[.string file] 9)).alloc (.cells #[.slice none 0 0] 36)).alloc (.cells #[.int .i64 0] 3))) : CS file w wr w.heap.size (.slice none 0 0) 0 [] := by
  have a1 := Blk.new w 9 #[.string file]
  have a2 := Blk.new (w.alloc (.cells #[.string file] 9)) 36 #[.slice none 0 0]
  have a3 := Blk.new ((w.alloc (.cells #[.string file] 9)).alloc (.cells #[.slice none 0 0] 36)) 3 #[.int .i64 0]
  have s1 : (w.alloc (.cells #[.string file] 9)).heap.size = w.heap.size + 1 := by simp
  have s2 : ((w.alloc (.cells #[.string file] 9)).alloc (.cells #[.slice none 0 0] 36)).heap.size = w.heap.size + 2 := by simp
  rw [s1] at a2
  rw [s2] at a3
  subst h
  refine ⟨(a1.alloc _).alloc _, a2.alloc _, a3, World.ownsRow_nil _ _ _ _, ?_, Nat.le_refl _⟩
  have hk : Keeps (fun i => w.heap.size ≤ i) w _ := (((Keeps.refl _ w).alloc (.cells #[.string file] 9)).alloc (.cells #[.slice none 0 0] 36)).alloc (.cells #[.int .i64 0] 3)
  exact hk.below (Nat.le_refl _) (fun _ h => h)

theorem CS.setFrom {file : ByteArray} {w0 w : World} {b : Nat} {v : Value} {fr : Nat} {ps : List P3} (h : CS file w0 w b v fr ps) (fr' : Nat) : CS file w0 (w.setCell ⟨b + 2, 0, none⟩ (.int .i64 (fr' : Int))) b v fr' ps := by
  have n3 := own_blk_ne h.owns h.fr (by decide)
  have hk := (Keeps.refl (fun i => w0.heap.size ≤ i) w).setCell (p := ⟨b + 2, 0, none⟩) (.inl (show w0.heap.size ≤ b + 2 by have := h.hb; omega)) (.int .i64 (fr' : Int))
  exact ⟨h.f.far (p := ⟨b + 2, 0, none⟩) (by simp) _, h.l.far (p := ⟨b + 2, 0, none⟩) (by simp) _, h.fr.set_ 0 _,
    h.owns.kept (row := some (b + 2)) (⟨rfl, rfl, rfl, by simp [World.setCell], fun i _ hi => Below.heap_setCell _ _ _ _ (fun e => hi (by rw [e]))⟩) (.inr n3),
    h.bel.trans (hk.below h.bel.size (fun _ h => h)), h.hb⟩

set_option maxRecDepth 100000 in
set_option maxHeartbeats 8000000 in
theorem cut_any (file : ByteArray) (hfs : file.size ≤ 65536) (m : Int) (w : World) (hL : Lib2 m w) :
    Calls Tryz.prog 14 #[.string file] w fun e w' => ∃ v, e = .returned (.tuple #[v, .int .i64 0]) ∧ PiecesAt w' w.heap.size file v (cut3 file.data.toList) ∧ Below w.heap.size w w' := by
  have HL := Lib.hid hL; clear hL
  have hI : ¬ ((65536 : Int) < (file.size : Int)) := by omega
  have Hst := Lib.hid (cs_start file w _ rfl)
  obtain ⟨i0, hi0, hz0, hz1, hz2⟩ := info_parts piece_info
  have HI := Lib.hid (And.intro hi0 (And.intro hz0 (And.intro hz1 hz2))); clear hi0 hz0 hz1 hz2
  go_enter Tryz.func14, Tryz.ntmps14
  go_wp2_with fail
  go_loopg [7] file.size (fun g r wx => ∃ i fr : Nat, ∃ v ps, i + g = file.size ∧ r = .int .i64 i ∧ fr ≤ i ∧ ps.length ≤ 2 * i ∧ Hid (CS file w wx w.heap.size v fr ps) ∧ Hid (cut3 file.data.toList = ps ++ cutR file.data.toList i fr))
  case atStart => exact ⟨0, 0, _, [], by omega, rfl, Nat.le_refl _, by simp, Hst, rfl⟩
  case round =>
    obtain ⟨i, fr, v, ps, hig, rfl, hfr, hpl, HC, HE⟩ := hrel
    have c1 : wr.cell? ⟨w.heap.size, 0, none⟩ = some (.string file) := HC.out.f.cell 0
    by_cases hlt : i < file.size
    · have hltI : (i : Int) < (file.size : Int) := by omega
      have hsl : file.extract i file.size = suf file i := rfl
      go_wp2_with fail
      refine (tag_suf file i hfs _ (HL.out.fold |> fun h => fold_below h HC.out.bel)).mono ?_
      rintro e w1 ⟨rfl, hb1⟩
      have HC1 := Lib.hid (HC.out.below hb1)
      clear HC c1 hb1 wr
      have hlen : i < file.data.toList.length := by have := Lib.size_eq file; omega
      obtain ⟨k, n, hkn⟩ : ∃ k n, tagN (file.data.toList.drop i) = (k, n) := ⟨_, _, rfl⟩
      have htl := tagN_len (file.data.toList.drop i)
      rw [List.length_drop, ← Lib.size_eq, hkn] at htl
      have htk := tagN_kind (file.data.toList.drop i)
      rw [hkn] at htk
      simp only at htl htk
      have c1 : w1.cell? ⟨w.heap.size, 0, none⟩ = some (.string file) := HC1.out.f.cell 0
      by_cases hn0 : n = 0
      · have HE2 : Hid (cut3 file.data.toList = ps ++ cutR file.data.toList (i + 1) fr) := by
          show cut3 file.data.toList = _
          rw [HE.out, cutR_none hlen (by rw [hkn]; exact hn0)]
        rw [hkn]
        simp only
        have hn0' : ((n : Int) == 0) = true := by simp; omega
        clear hkn hn0 HE
        go_wp2_with fail
        go_roundg (gk - 1)
        case rel => exact ⟨i + 1, fr, v, ps, by omega, by go_num, by omega, by omega, HC1, HE2⟩
        case measure => omega
      · have HT := Lib.hid (cutR_tag (fr := fr) hlen hkn hn0)
        rw [hkn]
        simp only
        have hn0' : ((n : Int) == 0) = false := by simp; omega
        clear hkn
        go_wp2_with (go_at_call 29; refine (html_any file hfs w _ w.heap.size v fr i ps HC1.out (by omega) (by omega)).mono ?_; rintro e w2 ⟨rfl, v2, hc2⟩; have HC2 := Lib.hid hc2; have d1 : w2.cell? ⟨w.heap.size, 0, none⟩ = some (.string file) := hc2.f.cell 0; clear hc2)
        have hsl2 : file.extract (i + n) file.size = suf file (i + n) := rfl
        have hinI : (i : Int) + (n : Int) ≤ (file.size : Int) := by omega
        rw [hsl2]
        refine (code_suf file (i + n) hfs m _ (HL.out.below HC2.out.bel).max).mono ?_
        rintro e w3 ⟨rfl, rfl⟩
        have hcl := codeN_le (file.data.toList.drop (i + n))
        rw [List.length_drop, ← Lib.size_eq] at hcl
        have hc4 := closeN_le (file.data.toList.drop (i + n + codeN (file.data.toList.drop (i + n))))
        rw [List.length_drop, ← Lib.size_eq] at hc4
        obtain ⟨d, hd⟩ : ∃ d, codeN (file.data.toList.drop (i + n)) = d := ⟨_, rfl⟩
        rw [hd] at HT hcl hc4 ⊢
        clear hd
        have c2 : w2.cell? ⟨w.heap.size + 1, 0, none⟩ = some v2 := HC2.out.l.cell 0
        have hdI : (i : Int) + (n : Int) + (d : Int) ≤ (file.size : Int) := by omega
        have hdI0 : (0 : Int) ≤ (i : Int) + (n : Int) := by omega
        have hdI2 : (i : Int) + (n : Int) ≤ (i : Int) + (n : Int) + (d : Int) := by omega
        clear c1 HC1
        go_wp2_with fail
        obtain ⟨p, hp⟩ : ∃ p : Nat, i + n = p := ⟨_, rfl⟩
        obtain ⟨q, hq⟩ : ∃ q : Nat, p + d = q := ⟨_, rfl⟩
        have hpI : (i : Int) + (n : Int) = (p : Int) := by omega
        have hqI : (p : Int) + (d : Int) = (q : Int) := by omega
        have hpq : (p : Int) ≤ (q : Int) := by omega
        have hqs : (q : Int) ≤ (file.size : Int) := by omega
        have hp0 : (0 : Int) ≤ (p : Int) := by omega
        rw [hp, hq] at HT hc4
        rw [hpI, hqI]
        rw [hp] at *
        clear hinI hdI hdI0 hdI2 hsl2
        have n1 := Ne.symm (own_blk_ne HC2.out.owns HC2.out.f (by decide))
        have n2 := Ne.symm (own_blk_ne HC2.out.owns HC2.out.l (by decide))
        have l1 := HC2.out.f.lt
        have l2 := HC2.out.l.lt
        have m1 := World.new_ne w2 _ d1
        have m2 := World.new_ne w2 _ c2
        have z2 := HC2.out.l.frozen 0
        have hbs := HC2.out.bel.size
        have hpl2 : (ps ++ htmlP fr i).length ≤ 2 * i + 1 := by rw [List.length_append]; unfold htmlP; split <;> simp <;> omega
        generalize hps2 : ps ++ htmlP fr i = ps2 at *
        go_cut [11] (fun x wx => x = .int .i64 (q : Int) ∧ ∃ v3, CS file w wx w.heap.size v3 fr (ps2 ++ [⟨k, p, q⟩]))
        case first =>
          go_region_law ((refine step_append_lies _ (by rfl) _ _ _ (by rfl) w.heap.size 43 i0 _ 3 32 Tryz.underlying36 HI.out.1 HI.out.2.1 HI.out.2.2.1 HI.out.2.2.2 rfl (by omega) v2 ps2.length _ (by rfl) ((HC2.out.owns.alloc _).drew) ⟨w2.heap.size, 0, none⟩ 1 1 (pcCells file ⟨k, p, q⟩) (by rfl) (by rfl) (World.news_of_block (cs := (pcCells file ⟨k, p, q⟩).toArray) (t := 43) (fr := (0, 0)) (heap_alloc_new w2 _)) (by simp [pcCells, Value.oneCell']) (by omega) (by unfold maxLen; omega) (by omega) (by simp; omega) (w2.heap.size + 1) (by simp) ?_; intro gg cap w1 hown1 hgrow hat hlt1; have hfz : w1.frozen? ⟨w.heap.size + 1, 0, none⟩ = false := (hgrow.frozen_far _ (by simp; omega) n2).trans ((HC2.out.l.alloc _).drew.frozen 0); have hfc : w1.cell? ⟨w.heap.size + 1, 0, none⟩ = some v2 := (hgrow.cell_far _ (by simp; omega) n2).trans ((HC2.out.l.alloc _).drew.cell 0)))
          all_goals
            go_wp2_with fail
            go_meet
            exact ⟨rfl, _, HC2.out.append hown1 hgrow⟩
        case rest =>
          obtain ⟨rfl, v3, hc3⟩ := hcut
          have HC3 := Lib.hid hc3; clear hc3
          have e1 : wc.cell? ⟨w.heap.size, 0, none⟩ = some (.string file) := HC3.out.f.cell 0
          have e3 : wc.cell? ⟨w.heap.size + 1 + 1, 0, none⟩ = some (.int .i64 (fr : Int)) := HC3.out.fr.cell 0
          have z3 : wc.frozen? ⟨w.heap.size + 1 + 1, 0, none⟩ = false := HC3.out.fr.frozen 0
          have hslq : file.extract q file.size = suf file q := rfl
          clear HC2 c2 d1 n1 n2 m1 m2 l1 l2 z2 hbs
          obtain ⟨b1, k1⟩ : ∃ b, Lib.hasPrefix (file.data.toList.drop q) [63, 62] = b := ⟨_, rfl⟩
          obtain ⟨b2, k2⟩ : ∃ b, Lib.hasPrefix (file.data.toList.drop (q + 2)) [13, 10] = b := ⟨_, rfl⟩
          obtain ⟨b3, k3⟩ : ∃ b, Lib.hasPrefix (file.data.toList.drop (q + 2)) [10] = b := ⟨_, rfl⟩
          have HA := Lib.hid (trimPrefix_suf file ⟨#[63, 62]⟩ q b1 k1)
          have HB := Lib.hid (cutPrefix_suf file ⟨#[13, 10]⟩ (q + 2) b2 k2)
          have HD := Lib.hid (trimPrefix_suf file ⟨#[10]⟩ (q + 2) b3 k3)
          cases b1 with
          | false =>
            have he : closeN (file.data.toList.drop q) = 0 := by unfold closeN; rw [if_neg (by rw [k1]; decide)]
            rw [he] at HT hc4
            have HE3 : Hid (cut3 file.data.toList = (ps2 ++ [⟨k, p, q⟩]) ++ cutR file.data.toList q q) := by
              show cut3 file.data.toList = _
              rw [HE.out, HT.out, ← hps2]; simp
            have hsz : ((suf file q).size : Int) = (file.size : Int) - (q : Int) := by rw [suf_size]; omega
            have hcan : (file.size : Int) - ((file.size : Int) - (q : Int)) = (q : Int) := by omega
            have HF : Hid (CS file w (wc.setCell ⟨w.heap.size + 1 + 1, 0, none⟩ (.int .i64 (q : Int))) w.heap.size v3 q (ps2 ++ [⟨k, p, q⟩])) := HC3.out.setFrom q
            have hgl : (ps2 ++ [(⟨k, p, q⟩ : P3)]).length ≤ 2 * q := by rw [List.length_append]; simp; omega
            have hqE : q ≤ file.size := by omega
            clear he HT HE hps2
            go_wp2_with fail
            refine (HA.out _).mono ?_
            rintro e w4 ⟨rfl, rfl⟩
            go_wp2_with fail
            go_roundg (file.size - q)
            case rel => exact ⟨q, q, v3, _, by omega, rfl, Nat.le_refl _, hgl, HF, HE3⟩
            case measure => omega
          | true =>
            have hsz2 : ((suf file (q + 2)).size : Int) = (file.size : Int) - ((q : Int) + 2) := by
              rw [suf_size]
              have := pre_le k1
              rw [List.length_drop, ← Lib.size_eq] at this
              simp at this
              omega
            cases b2 with
            | true =>
              have he : closeN (file.data.toList.drop q) = 4 := by unfold closeN; rw [if_pos k1, List.drop_drop, if_pos k2]
              rw [he] at HT hc4
              have HE3 : Hid (cut3 file.data.toList = (ps2 ++ [⟨k, p, q⟩]) ++ cutR file.data.toList (q + 4) (q + 4)) := by
                show cut3 file.data.toList = _
                rw [HE.out, HT.out, ← hps2]; simp
              have hsz : ((suf file (q + 4)).size : Int) = (file.size : Int) - ((q : Int) + 4) := by rw [suf_size]; omega
              have hcan : (file.size : Int) - ((file.size : Int) - ((q : Int) + 4)) = ((q : Int) + 4) := by omega
              have HF : Hid (CS file w (wc.setCell ⟨w.heap.size + 1 + 1, 0, none⟩ (.int .i64 ((q : Int) + 4))) w.heap.size v3 (q + 4) (ps2 ++ [⟨k, p, q⟩])) := HC3.out.setFrom (q + 4)
              have hgl : (ps2 ++ [(⟨k, p, q⟩ : P3)]).length ≤ 2 * (q + 4) := by rw [List.length_append]; simp; omega
              have hqE : (q + 4) ≤ file.size := by omega
              clear he HT HE hps2
              go_wp2_with fail
              refine (HA.out _).mono ?_
              rintro e w4 ⟨rfl, rfl⟩
              go_wp2_with fail
              refine (HB.out _).mono ?_
              rintro e w4 ⟨rfl, rfl⟩
              go_wp2_with fail
              go_roundg (file.size - (q + 4))
              case rel => exact ⟨(q + 4), (q + 4), v3, _, by omega, rfl, Nat.le_refl _, hgl, HF, HE3⟩
              case measure => omega
            | false =>
              cases b3 with
              | true =>
                have he : closeN (file.data.toList.drop q) = 3 := by unfold closeN; rw [if_pos k1, List.drop_drop, if_neg (by rw [k2]; decide), if_pos k3]
                rw [he] at HT hc4
                have HE3 : Hid (cut3 file.data.toList = (ps2 ++ [⟨k, p, q⟩]) ++ cutR file.data.toList (q + 3) (q + 3)) := by
                  show cut3 file.data.toList = _
                  rw [HE.out, HT.out, ← hps2]; simp
                have hsz : ((suf file (q + 3)).size : Int) = (file.size : Int) - ((q : Int) + 3) := by rw [suf_size]; omega
                have hcan : (file.size : Int) - ((file.size : Int) - ((q : Int) + 3)) = ((q : Int) + 3) := by omega
                have HF : Hid (CS file w (wc.setCell ⟨w.heap.size + 1 + 1, 0, none⟩ (.int .i64 ((q : Int) + 3))) w.heap.size v3 (q + 3) (ps2 ++ [⟨k, p, q⟩])) := HC3.out.setFrom (q + 3)
                have hgl : (ps2 ++ [(⟨k, p, q⟩ : P3)]).length ≤ 2 * (q + 3) := by rw [List.length_append]; simp; omega
                have hqE : (q + 3) ≤ file.size := by omega
                clear he HT HE hps2
                go_wp2_with fail
                refine (HA.out _).mono ?_
                rintro e w4 ⟨rfl, rfl⟩
                go_wp2_with fail
                refine (HB.out _).mono ?_
                rintro e w4 ⟨rfl, rfl⟩
                go_wp2_with fail
                refine (HD.out _).mono ?_
                rintro e w4 ⟨rfl, rfl⟩
                go_wp2_with fail
                go_roundg (file.size - (q + 3))
                case rel => exact ⟨(q + 3), (q + 3), v3, _, by omega, rfl, Nat.le_refl _, hgl, HF, HE3⟩
                case measure => omega
              | false =>
                have he : closeN (file.data.toList.drop q) = 2 := by unfold closeN; rw [if_pos k1, List.drop_drop, if_neg (by rw [k2]; decide), if_neg (by rw [k3]; decide)]
                rw [he] at HT hc4
                have HE3 : Hid (cut3 file.data.toList = (ps2 ++ [⟨k, p, q⟩]) ++ cutR file.data.toList (q + 2) (q + 2)) := by
                  show cut3 file.data.toList = _
                  rw [HE.out, HT.out, ← hps2]; simp
                have hcan : (file.size : Int) - ((file.size : Int) - ((q : Int) + 2)) = ((q : Int) + 2) := by omega
                have HF : Hid (CS file w (wc.setCell ⟨w.heap.size + 1 + 1, 0, none⟩ (.int .i64 ((q : Int) + 2))) w.heap.size v3 (q + 2) (ps2 ++ [⟨k, p, q⟩])) := HC3.out.setFrom (q + 2)
                have hgl : (ps2 ++ [(⟨k, p, q⟩ : P3)]).length ≤ 2 * (q + 2) := by rw [List.length_append]; simp; omega
                have hqE : (q + 2) ≤ file.size := by omega
                clear he HT HE hps2
                go_wp2_with fail
                refine (HA.out _).mono ?_
                rintro e w4 ⟨rfl, rfl⟩
                go_wp2_with fail
                refine (HB.out _).mono ?_
                rintro e w4 ⟨rfl, rfl⟩
                go_wp2_with fail
                refine (HD.out _).mono ?_
                rintro e w4 ⟨rfl, rfl⟩
                go_wp2_with fail
                go_roundg (file.size - (q + 2))
                case rel => exact ⟨(q + 2), (q + 2), v3, _, by omega, rfl, Nat.le_refl _, hgl, HF, HE3⟩
                case measure => omega
    · obtain rfl : i = file.size := by omega
      have hE : cut3 file.data.toList = ps ++ htmlP fr file.size := by rw [HE.out, cutR_end (by have := Lib.size_eq file; omega), ← Lib.size_eq]
      have HE2 := Lib.hid hE; clear hE HE
      go_wp2_with (go_at_call 29; refine (html_any file hfs w _ w.heap.size v fr file.size ps HC.out (by omega) (Nat.le_refl _)).mono ?_; rintro e w2 ⟨rfl, v2, hc2⟩; have HC2 := Lib.hid hc2; have d1 : w2.cell? ⟨w.heap.size + 1, 0, none⟩ = some v2 := hc2.l.cell 0; clear hc2)
      go_ret2
      exact ⟨v2, rfl, by unfold PiecesAt; rw [HE2.out]; exact HC2.out.owns, HC2.out.bel⟩
end Go.Proofs.YteajmgkdiioflaaGreatDoor
