/- (*strings.Replacer).Replace, url.path: the walks. -/
import Derived.Test.YtgpemnmopogppaaGreatDoorZRhAQ
import Derived.Test.YtgpemnmopogppaaGreatDoorZUrDaQ
import Derived.OwnWalk
import Derived.Scope
import Derived.WalkMore
import Derived.Deep.RegionHeld3
namespace Go.Proofs.YtgpemnmopogppaaGreatDoor
open Go Go.RowKit
namespace Up
open Go.Proofs.YtgpemnmopogppaaGreatDoor.Ut (mkB mkB_list mkB_size headL restL stepsL cutL)
set_option maxRecDepth 100000 in
set_option maxHeartbeats 1000000 in
theorem replace_any {w0 w : World} {g : Nat} (hN : RepN w0 w g) (hL : LibS w0) (s : ByteArray) (hs : s.size ≤ 9223372036854775807) : Calls Tryz.prog 109 #[.pointer (some ⟨g, 0, none⟩), .string s] w fun e w' => e = .returned (.string ⟨(s.data.toList.map barC).toArray⟩) ∧ Below w0.heap.size w0 w' := by
  have HD := Lib.hid (do_any hN hL)
  have HB := Lib.hid (fun (w1 : World) (T : Nat) (hT : TabAt w1 T) => brepl_any hT s hs)
  clear hN hL hs
  generalize (⟨(s.data.toList.map barC).toArray⟩ : ByteArray) = V at *
  go_enter Tryz.func109, Tryz.ntmps109
  go_wp2_with (go_at_call 141; refine HD.out.mono ?_; rintro e w1 ⟨rfl, hb, T, ht, hT⟩; have HB1 := Lib.hid hb; have HT := Lib.hid hT; clear hb hT)
  refine (HB.out _ T HT.out).mono ?_
  rintro e w2 ⟨rfl, hb2⟩
  go_wp2_with fail
  go_ret
  exact ⟨rfl, HB1.out.trans (hb2.mono HB1.out.size)⟩
theorem bar_fin : ∀ c : Fin 256, barC (UInt8.ofNat c.val) = Ut.barC (UInt8.ofNat c.val) := by decide +kernel
theorem bar_eq (c : UInt8) : barC c = Ut.barC c := by
  have := bar_fin ⟨c.toNat, c.toNat_lt⟩
  simp only [UInt8.ofNat_toNat] at this
  exact this
theorem bar_map (l : List UInt8) : l.map barC = l.map Ut.barC := List.map_congr_left fun c _ => bar_eq c
theorem str_info : (Tryz.prog.info? 9).map (fun i => (i.zero, i.size, i.bytes)) = some (some (.string ⟨#[]⟩), 1, 16) := by kernel_rfl
theorem one_new (w : World) (t : TypeId) (u : Value) : ∀ j v, [u][j]? = some v → (w.alloc (.cells #[u] t)).cell? ((⟨w.heap.size, 0, none⟩ : Addr).add j) = some v := by
  intro j v h
  match j, h with
  | 0, h =>
    simp at h
    subst h
    exact cell_of_row _ _ _ _ _ _ (heap_alloc_new w _)
theorem steps_go (r : List UInt8) (h : 93 ∈ r) : stepsL (91 :: r) = (cutL 93 r).1 :: stepsL (cutL 93 r).2 := by
  rw [stepsL, if_pos ⟨rfl, h⟩]
  rfl
theorem steps_end (r : List UInt8) (h : ¬ (r.head? = some 91 ∧ 93 ∈ r)) : stepsL r = [] := by
  cases r with
  | nil => rw [stepsL]
  | cons x r =>
    rw [stepsL, if_neg]
    rintro ⟨rfl, h2⟩
    exact h ⟨rfl, List.mem_cons_of_mem _ h2⟩
theorem mem_split (c : UInt8) (l : List UInt8) (h : c ∈ l) : ∃ a b, l = a ++ c :: b ∧ c ∉ a := by
  rcases Ut.index_at c l with ⟨h1, _⟩ | ⟨a, b, h1, h2, _⟩
  · exact absurd h h1
  · exact ⟨a, b, h1, h2⟩
theorem cutL_len (c : UInt8) (l : List UInt8) (h : c ∈ l) : (cutL c l).1.length + (cutL c l).2.length + 1 = l.length := by
  obtain ⟨a, b, rfl, h2⟩ := mem_split c l h
  rw [Ut.cutL_at c a b h2]
  simp
  omega
theorem tail_one (r : List UInt8) : (mkB (91 :: r)).extract 1 (mkB (91 :: r)).size = mkB r := by
  apply ByteArray.ext
  rw [← Array.toList_inj]
  simp [mkB]
  show List.take ((91 :: r).toArray.size - 1) r = r
  simp
theorem rest_found (l : List UInt8) (h : 91 ∈ l) : restL l = 91 :: (cutL 91 l).2 := by
  obtain ⟨a, b, rfl, h2⟩ := mem_split 91 l h
  rw [Ut.cutL_at 91 a b h2]
  exact (Ut.takeWhile_at 91 a b h2).2
theorem rest_len (l : List UInt8) : (restL l).length ≤ l.length := (List.dropWhile_sublist _).length_le
theorem rest_none (l : List UInt8) (h : 91 ∉ l) : restL l = [] := (Ut.takeWhile_all 91 l h).2
theorem open_cat (r : List UInt8) : (⟨#[91]⟩ : ByteArray) ++ mkB r = mkB (91 :: r) := by
  apply ByteArray.ext
  rw [← Array.toList_inj]
  simp [mkB]
/-- What path answers. -/
def PathP (w : World) (l : List UInt8) (e : Ending) (w' : World) : Prop := ∃ A c, e = .returned (.tuple #[.string (mkB (headL l)), .slice A (stepsL (restL l)).length c]) ∧ w'.ownsRow w.heap.size 9 1 (.slice A (stepsL (restL l)).length c) (stepsL (restL l)).length ((stepsL (restL l)).map fun p => .string (mkB p)) ∧ Below w.heap.size w w'
set_option maxRecDepth 100000 in
set_option maxHeartbeats 4000000 in
theorem path_any (l : List UInt8) (hl : l.length ≤ 16777216) (w : World) (hL : LibS w) (m : Int) (hm : w.cell? ⟨0, 0, none⟩ = some (.int .i64 m)) :
    Calls Tryz.prog 62 #[.string (mkB l)] w fun e w' => PathP w l e w' := by
  obtain ⟨i0, hi0, hz0, hz1, hz2⟩ := info_parts str_info
  have HI := Lib.hid (And.intro hi0 (And.intro hz0 (And.intro hz1 hz2)))
  have hglt : 0 < w.heap.size := by
    rcases Nat.lt_or_ge 0 w.heap.size with h' | h'
    · exact h'
    · simp [World.cell?, Array.getElem?_eq_none h'] at hm
  have hmx : ∀ wz, Below w.heap.size w wz → wz.cell? ⟨0, 0, none⟩ = some (.int .i64 m) := fun wz hb => (hb.cell (p := ⟨0, 0, none⟩) hglt).trans hm
  have HC1 := Lib.hid (Ut.cut_call m w 91 l (by omega) hm)
  have HC2 := Lib.hid (fun (r : List UInt8) (hr : r.length ≤ 16777216) wz (hb : Below w.heap.size w wz) => Ut.cut_call m wz 93 r (by omega) (hmx wz hb))
  have HCo := Lib.hid (fun (r : List UInt8) (hr : r.length ≤ 16777217) wz (hb : Below w.heap.size w wz) => Ut.contains_call m wz 93 r (by omega) (hmx wz hb))
  have HPx := Lib.hid (fun (r : List UInt8) wz => Ut.prefix_call wz 91 r)
  have HNw := Lib.hid (fun wz (hb : Below w.heap.size w wz) => new_any wz (hL.below hb))
  have HRe := Lib.hid (fun (w0 w1 : World) (g : Nat) (hN : RepN w0 w1 g) (hb : Below w.heap.size w w0) => replace_any hN (hL.below hb) (mkB (cutL 91 l).1) (by
    rw [mkB_size]
    have h1 := List.takeWhile_prefix (fun c : UInt8 => c != 91) (l := l)
    have h2 := h1.length_le
    show (l.takeWhile _).length ≤ _
    omega))
  have hhd : (⟨((mkB (cutL 91 l).1).data.toList.map barC).toArray⟩ : ByteArray) = mkB (headL l) := by
    rw [mkB_list, bar_map]
    rfl
  rw [hhd] at HRe
  have hon : oldNewA = #[.string ⟨#[32]⟩, .string ⟨#[95]⟩, .string ⟨#[46]⟩, .string ⟨#[95]⟩] := rfl
  rw [hon] at HNw
  have hHm : ∀ wz, wz = w.drewN 0 → wz = w := fun _ h => h
  clear hi0 hz0 hz1 hz2 hm hmx hglt hL hhd hon hHm
  obtain ⟨H, hH⟩ : ∃ H : ByteArray, mkB (headL l) = H := ⟨_, rfl⟩
  unfold PathP
  rw [hH] at HRe ⊢
  clear hH
  have hrl := rest_len l
  obtain ⟨fb, hfb⟩ : ∃ b, decide (91 ∈ l) = b := ⟨_, rfl⟩
  rw [hfb] at HC1
  have HR1 : Hid (fb = true → (⟨#[91]⟩ : ByteArray) ++ mkB (cutL 91 l).2 = mkB (restL l) ∧ (mkB (cutL 91 l).2).size ≤ 16777216) := by
    intro h
    have h := of_decide_eq_true (hfb.trans h)
    rw [rest_found l h, ← open_cat, mkB_size]
    exact ⟨rfl, by have := cutL_len 91 l h; omega⟩
  have HR2 : Hid (fb = false → mkB (cutL 91 l).2 = mkB (restL l)) := by
    intro h
    have h := of_decide_eq_false (hfb.trans h)
    rw [rest_none l h, cutL, (Ut.takeWhile_all 91 l h).2]
    rfl
  clear hfb
  generalize restL l = R0 at *
  generalize (cutL 91 l).1 = hd at *
  generalize mkB (cutL 91 l).2 = r1 at *
  go_enter Tryz.func62, Tryz.ntmps62
  go_upto_region 1 with fail
  refine wp_scope_straight ?_
  go_upto_if 17 with (go_at_call 27; refine HC1.out.mono ?_; rintro e w1 ⟨rfl, nd, rfl⟩)
  go_cut [5] from 18 to 19 (fun x5 wx => x5 = .string (mkB R0) ∧ ∃ nd, wx = w.drewN nd)
  case first =>
    cases fb with
    | true =>
      obtain ⟨hr, hz⟩ := HR1.out rfl
      have g1 : ¬ 9223372036854775807 < 1 + r1.size := by omega
      have Hr := Lib.hid hr
      clear hr hz HR1 HR2
      go_wp2_with fail
      go_meet
      case rel => exact ⟨by rw [← Hr.out], _, rfl⟩
    | false =>
      have Hr := Lib.hid (HR2.out rfl)
      clear HR1 HR2
      go_wp2_with fail
      go_meet
      case rel => exact ⟨by rw [Hr.out], _, rfl⟩
  case rest =>
    obtain ⟨rfl, nd, rfl⟩ := hcut
    clear HR1 HR2 HC1
    have HO0 := Lib.hid (World.ownsRow_nil (w.drewN nd) w.heap.size 9 1)
    have HB0 := Lib.hid (drewN' (Below.refl w.heap.size w) nd)
    go_wp2_with fail
    go_step3
    go_wp2_with fail
    go_loopw [5, 7] (fun x5 x7 wr => ∃ (r : List UInt8) (ss : List (List UInt8)) (A : Option Addr) (c : Nat), x5 = .string (mkB r) ∧ x7 = .slice A ss.length c ∧ Hid (stepsL R0 = ss ++ stepsL r) ∧ ss.length + r.length ≤ l.length ∧ Hid (wr.ownsRow w.heap.size 9 1 (.slice A ss.length c) ss.length (ss.map fun p => .string (mkB p))) ∧ Hid (Below w.heap.size w wr)) (fun x5 _ _ => match x5 with | .string t => t.size | _ => 0)
    case atStart => exact ⟨R0, [], none, 0, rfl, rfl, rfl, by simpa using hrl, HO0, HB0⟩
    case round =>
      clear HO0 HB0
      obtain ⟨r, ss, A, c, rfl, rfl, HS, hlen, HO, HB⟩ := hrel
      by_cases hgo : r.head? = some 91 ∧ 93 ∈ r
      · obtain ⟨h1, h2⟩ := hgo
        obtain ⟨r2, rfl⟩ : ∃ r2, r = 91 :: r2 := by
          cases r with
          | nil => cases h1
          | cons x r => exact ⟨r, by rw [show x = 91 by simpa using h1]⟩
        have h3 : 93 ∈ r2 := (List.mem_cons.1 h2).resolve_left (by decide)
        have hcl := cutL_len 93 r2 h3
        simp only [List.length_cons] at hlen
        have HP := Lib.hid (HPx.out (91 :: r2))
        rw [decide_eq_true h1] at HP
        have HCn := Lib.hid (HCo.out (91 :: r2) (by simp; omega))
        rw [decide_eq_true h2] at HCn
        have HCu := Lib.hid (HC2.out r2 (by omega))
        rw [decide_eq_true h3] at HCu
        have HS2 : Hid (stepsL R0 = (ss ++ [(cutL 93 r2).1]) ++ stepsL (cutL 93 r2).2) := by
          show _ = _
          rw [HS.out, steps_go r2 h3]
          simp
        have hsl := tail_one r2
        have hs1 : 1 ≤ (mkB (91 :: r2)).size := by rw [mkB_size]; simp
        have hm1 : (mkB (cutL 93 r2).2).size < (mkB (91 :: r2)).size := by rw [mkB_size, mkB_size]; simp; omega
        generalize (cutL 93 r2).2 = more at *
        generalize (cutL 93 r2).1 = st at *
        generalize mkB (91 :: r2) = rb at *
        generalize mkB r2 = rb2 at *
        have HM1 := Lib.hid hm1
        have hl2 : ss.length + 1 + more.length ≤ l.length := by omega
        have hl3 : ss.length ≤ 16777216 := by omega
        clear h1 h2 h3 hcl HPx HCo HC2 HS hm1 hlen HRe HNw
        go_wp2_with (first | (go_at_call 43; refine (HP.out _).mono ?_; rintro e w1 ⟨rfl, rfl⟩) | (go_at_call 107; refine (HCn.out _ HB.out).mono ?_; rintro e w1 ⟨rfl, rfl⟩) | (go_at_call 27; refine (HCu.out _ HB.out).mono ?_; rintro e w1 ⟨rfl, n1, rfl⟩) | (at_builtin; refine wpList_append_own _ rfl _ _ 57 rfl w.heap.size 9 i0 (.string ⟨#[]⟩) 1 16 Tryz.underlying57 HI.out.1 HI.out.2.1 HI.out.2.2.1 HI.out.2.2.2 rfl (by decide) _ _ _ rfl (Dp.own_below HO.out (((drewN' (Below.refl _ _) n1)).alloc (Nat.le_refl _) (.cells #[.string (mkB st)] 9))) ⟨w1.heap.size, 0, none⟩ 1 1 [.string (mkB st)] rfl rfl (one_new _ _ _) (by intro u hu; simp at hu; subst hu; rfl) (by unfold maxLen; omega) (by omega) (by have := HB.out.size; simp; omega) ?_; intro v' w3 hown3 hg3 _))
        obtain ⟨A3, c3, rfl⟩ : ∃ A3 c3, v' = .slice A3 (ss.length + 1) c3 := by
          rcases hown3.2 with ⟨e, h0⟩ | ⟨g, cap, cur, e, _⟩
          · exact absurd h0 (by omega)
          · exact ⟨_, _, e⟩
        have HO3 := Lib.hid hown3
        have HB3 := Lib.hid (((drewN' HB.out n1).alloc HB.out.size _).grown hg3 (by have := HB.out.size; simp; omega) (fun g e => (HO.out.lt g e).1))
        clear hown3 hg3 HO HB
        go_roundw
        case rel => exact ⟨more, ss ++ [st], A3, c3, by trivial, by simp, HS2, by simp; omega, Lib.hid (by simpa using HO3.out), HB3⟩
        case measure => exact HM1.out
      · have Hss : Hid (stepsL R0 = ss) := by
          show _ = _
          rw [HS.out, steps_end r hgo, List.append_nil]
        have HP := Lib.hid (HPx.out r)
        have HCn := Lib.hid (HCo.out r (by omega))
        obtain ⟨bp, hbp⟩ : ∃ b, decide (r.head? = some 91) = b := ⟨_, rfl⟩
        obtain ⟨bc, hbc⟩ : ∃ b, decide (93 ∈ r) = b := ⟨_, rfl⟩
        rw [hbp] at HP
        rw [hbc] at HCn
        have hno : ¬ (bp = true ∧ bc = true) := fun h => hgo ⟨of_decide_eq_true (hbp.trans h.1), of_decide_eq_true (hbc.trans h.2)⟩
        clear HPx HCo HC2 HS hgo hbp hbc
        cases bp with
        | false =>
          clear hno HCn
          go_wp2_with (first | (go_at_call 43; refine (HP.out _).mono ?_; rintro e w1 ⟨rfl, rfl⟩) | (go_at_call 108; refine (HNw.out _ HB.out).mono ?_; rintro e w1 ⟨g, rfl, hN⟩; have HG := Lib.hid hN; clear hN) | (go_at_call 109; refine (HRe.out _ _ _ HG.out HB.out).mono ?_; rintro e w2 ⟨rfl, hb2⟩))
          rw [Exit.noGoto_ret]
          go_ret2
          rw [Hss.out]
          exact ⟨A, c, rfl, Dp.own_below HO.out hb2, HB.out.trans (hb2.mono HB.out.size)⟩
        | true =>
          obtain rfl : bc = false := by cases bc <;> simp_all
          clear hno
          go_wp2_with (first | (go_at_call 43; refine (HP.out _).mono ?_; rintro e w1 ⟨rfl, rfl⟩) | (go_at_call 107; refine (HCn.out _ HB.out).mono ?_; rintro e w1 ⟨rfl, rfl⟩) | (go_at_call 108; refine (HNw.out _ HB.out).mono ?_; rintro e w1 ⟨g, rfl, hN⟩; have HG := Lib.hid hN; clear hN) | (go_at_call 109; refine (HRe.out _ _ _ HG.out HB.out).mono ?_; rintro e w2 ⟨rfl, hb2⟩))
          rw [Exit.noGoto_ret]
          go_ret2
          rw [Hss.out]
          exact ⟨A, c, rfl, Dp.own_below HO.out hb2, HB.out.trans (hb2.mono HB.out.size)⟩
end Up
end Go.Proofs.YtgpemnmopogppaaGreatDoor
