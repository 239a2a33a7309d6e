/- url.Query: the walk. -/
import Derived.Test.YtgpemnmopogppaaGreatDoorZUtO
import Derived.Test.YtgpemnmopogppaaGreatDoorZUrF
namespace Go.Proofs.YtgpemnmopogppaaGreatDoor
open Go Go.RowKit
namespace Ut
open Go.Proofs.YtgpemnmopogppaaGreatDoor.Dp
open Go.Proofs.YtgpemnmopogppaaGreatDoor.Url (decF)
/-- What the walk of a query has made. -/
structure QSt (W0 : World) (W : World) (r : List (List UInt8)) (k : Nat) (G0 : GV) (nx : Int) (l : List GI) (A : Option Addr) (c : Nat) : Prop where
  box : Blk W (W0.heap.size + 1) 25 #[.int .i64 4, .int .i64 nx, .string ⟨#[]⟩, .slice A l.length c]
  res : Blk W W0.heap.size 25 #[.int .i64 0, .int .i64 0, .string ⟨#[]⟩, .slice none 0 0]
  vin : VIn W (fun b => W0.heap.size + 3 ≤ b ∧ b < W.heap.size) (.mk 4 nx ⟨#[]⟩ l) (.agg #[.int .i64 4, .int .i64 nx, .string ⟨#[]⟩, .slice A l.length c])
  ok : QOk (.mk 4 nx ⟨#[]⟩ l)
  fin : queryF r k (.mk 4 nx ⟨#[]⟩ l) = G0
  low : Below W0.heap.size W0 W
theorem cutL_le (c : UInt8) (l : List UInt8) : (cutL c l).1.length ≤ l.length ∧ (cutL c l).2.length ≤ l.length := by
  have h1 := (List.takeWhile_sublist (l := l) (fun x : UInt8 => x != c)).length_le
  have h2 := (List.dropWhile_sublist (l := l) (fun x : UInt8 => x != c)).length_le
  unfold cutL
  simp only [List.length_drop]
  exact ⟨h1, by omega⟩
theorem putQ_ok {name text : List UInt8} {g : GV} (hg : QOk g) (hn : name.length ≤ 16777216) (ht : text.length ≤ 16777216) : QOk (putQ name text g) := by
  unfold putQ
  refine putV_ok hg ?_ (fun s hs => ?_) (by rw [mkB_size]; omega)
  · rw [mkB_size, headL, List.length_map]
    have := (List.takeWhile_sublist (l := name) (fun c : UInt8 => c != 91)).length_le
    omega
  · obtain ⟨l, hl, rfl⟩ := List.mem_map.1 hs
    have h1 := stepsL_le _ (restL name) (Nat.le_refl _) l hl
    have h2 := Up.rest_len name
    rw [mkB_size]
    omega
theorem decF_le (l : List UInt8) : (decF l).length ≤ l.length := Url.decF_len _ l (Nat.le_refl _)
theorem queryF_skip {p : List UInt8} {r : List (List UInt8)} {k : Nat} {g : GV} (h : p = [] ∨ 1000 ≤ k) : queryF (p :: r) k g = queryF r k g := by rw [queryF, if_pos h]
theorem queryF_take {p : List UInt8} {r : List (List UInt8)} {k : Nat} {g : GV} (h : ¬ (p = [] ∨ 1000 ≤ k)) : queryF (p :: r) k g = queryF r (k + 1) (putQ (decF (cutL 61 p).1) (decF (cutL 61 p).2) g) := by rw [queryF, if_neg h]
theorem splitL_len (c : UInt8) : ∀ s : List UInt8, (splitL c s).length ≤ s.length + 1
  | [] => by simp [splitL]
  | x :: r => by
    have ih := splitL_len c r
    rw [splitL]
    split
    · simp; omega
    · split
      · simp
      · rename_i h t he
        rw [he] at ih
        simp at ih ⊢
        omega
/-- A round's end. -/
theorem rnd_end {W0 wr w3 w4 wf : World} {r : List (List UInt8)} {p : List UInt8} {k : Nat} {G0 g : GV} {nx nx4 : Int} {l l4 : List GI} {A A4 : Option Addr} {c c4 : Nat} {S : List (List UInt8)}
    (hG : g = .mk 4 nx4 ⟨#[]⟩ l4) (hS : QSt W0 wr (p :: r) k G0 nx l A c ∧ Blk wr (W0.heap.size + 2) 9 (S.map fun p => Value.string (mkB p)).toArray) (hq : queryF (p :: r) k (.mk 4 nx ⟨#[]⟩ l) = queryF r (k + 1) g ∧ QOk g) (hb3 : Below wr.heap.size wr w3) (hb4 : Below wr.heap.size wr w4)
    (hy : VIn w4 (fun b => w3.heap.size ≤ b ∧ b < w4.heap.size) (.mk 4 nx4 ⟨#[]⟩ l4) (.agg #[.int .i64 4, .int .i64 nx4, .string ⟨#[]⟩, .slice A4 l4.length c4]))
    (hst : Blk wf (W0.heap.size + 1) 25 #[.int .i64 4, .int .i64 nx4, .string ⟨#[]⟩, .slice A4 l4.length c4] ∧ Keeps (fun j => j = W0.heap.size + 1) w4 wf) {wf' : World} (hwf : wf' = wf) :
    Hid (QSt W0 wf' r (k + 1) G0 nx4 l4 A4 c4 ∧ Blk wf' (W0.heap.size + 2) 9 (S.map fun p => Value.string (mkB p)).toArray) := by
  subst hwf hG
  obtain ⟨hS, hr⟩ := hS
  have h1 := hS.box.lt
  have h2 := hr.lt
  have h3 := hb3.size
  have h4 := hst.2.size
  have h5 := hb4.size
  refine ⟨⟨hst.1, (blk_below hS.res hb4).keeps hst.2 (by omega), hy.keep (fun b hb => ⟨by omega, by omega⟩) (fun q hq => hst.2.cell hq.2 (fun e => by have := hq.1; omega)), hq.2, hq.1.symm.trans hS.fin, ?_⟩, (blk_below hr hb4).keeps hst.2 (by omega)⟩
  exact (hS.low.trans (hb4.mono hS.low.size)).trans (hst.2.below (by have := hS.low.size; omega) (fun j e => by rw [e]; omega))
section
set_option maxRecDepth 100000 in
set_option maxHeartbeats 8000000 in
theorem uquery_any (s : List UInt8) (hs : s.length < 4294967281) (hp : ∀ p ∈ splitL 38 s, p.length < 4294967281 ∧ (cutL 61 p).1.length ≤ 16777216 ∧ (cutL 61 p).2.length ≤ 16777216) (w : World) (hL : LibS w) (m : Int) (hm : w.cell? ⟨0, 0, none⟩ = some (.int .i64 m)) :
    Calls Tryz.prog 10 #[.string (mkB s)] w fun e w' => ∃ y, e = .returned y ∧ VIn w' (fun b => w.heap.size ≤ b ∧ b < w'.heap.size) (queryG s) y ∧ Below w.heap.size w w' := by
  have hglt : 0 < w.heap.size := by
    rcases Nat.lt_or_ge 0 w.heap.size with h' | h'
    · exact h'
    · simp [World.cell?, Array.getElem?_eq_none h'] at hm
  have hmx : ∀ wz, Below w.heap.size w wz → wz.cell? ⟨0, 0, none⟩ = some (.int .i64 m) := fun wz hb => (hb.cell (p := ⟨0, 0, none⟩) hglt).trans hm
  have HLib := Lib.hid (fun wz (hb : Below w.heap.size w wz) => hL.below hb)
  have Hmx := Lib.hid hmx
  have hsz : ((w.alloc (.cells #[.int .i64 0, .int .i64 0, .string ⟨#[]⟩, .slice none 0 0] 25)).alloc (.cells #[.int .i64 4, .int .i64 0, .string ⟨#[]⟩, .slice none 0 0] 25)).heap.size = w.heap.size + 2 := by simp
  have hal := fun (w1 : World) (o : Obj) => (Below.refl w1.heap.size w1).alloc (Nat.le_refl _) o
  have HBa := Lib.hid ((hal w (.cells #[.int .i64 0, .int .i64 0, .string ⟨#[]⟩, .slice none 0 0] 25)).alloc (by simp) (.cells #[.int .i64 4, .int .i64 0, .string ⟨#[]⟩, .slice none 0 0] 25))
  have HZa := Lib.hid (blk_below (Blk.new w 25 #[.int .i64 0, .int .i64 0, .string ⟨#[]⟩, .slice none 0 0]) (hal _ (.cells #[.int .i64 4, .int .i64 0, .string ⟨#[]⟩, .slice none 0 0] 25)))
  have hx0 := Blk.new (w.alloc (.cells #[.int .i64 0, .int .i64 0, .string ⟨#[]⟩, .slice none 0 0] 25)) 25 #[.int .i64 4, .int .i64 0, .string ⟨#[]⟩, .slice none 0 0]
  rw [show (w.alloc (.cells #[.int .i64 0, .int .i64 0, .string ⟨#[]⟩, .slice none 0 0] 25)).heap.size = w.heap.size + 1 by simp] at hx0
  have HXa := Lib.hid hx0
  have HSp := Lib.hid (fun wz (hb : Below w.heap.size w wz) => split_call m wz 38 s hs (hmx wz hb))
  have HCu := Lib.hid (fun (p : List UInt8) (hl : p.length < 4294967281) wz (hb : Below w.heap.size w wz) => cut_call m wz 61 p hl (hmx wz hb))
  have HD := Lib.hid (fun (l : List UInt8) (hl : l.length ≤ 16777216) (wz : World) => show Calls Tryz.prog 29 #[.string (mkB l)] wz fun e w' => e = .returned (.string (mkB (decF l))) ∧ Below wz.heap.size wz w' by
    have h := Url.dec_any (mkB l) (by rw [mkB_size]; exact hl) wz
    rw [mkB_list] at h
    exact h)
  have Hsz := Lib.hid hsz
  have HP := Lib.hid hp
  obtain ⟨G0, hG0⟩ : ∃ z, queryG s = z := ⟨_, rfl⟩
  have HG0 := Lib.hid hG0
  rw [hG0]
  clear hG0 hp hsz hx0 hL hm hmx hal
  generalize mkB s = SB at *
  go_enter Tryz.func10, Tryz.ntmps10
  go_upto_region 3 with fail
  generalize (w.alloc (.cells #[.int .i64 0, .int .i64 0, .string ⟨#[]⟩, .slice none 0 0] 25)).alloc (.cells #[.int .i64 4, .int .i64 0, .string ⟨#[]⟩, .slice none 0 0] 25) = wa at *
  obtain ⟨PS, hPS⟩ : ∃ z, splitL 38 s = z := ⟨_, rfl⟩
  have HPl : Hid (PS.length ≤ s.length + 1) := by
    rw [← hPS]
    exact splitL_len 38 s
  have HSp2 : Hid (Calls Tryz.prog 26 #[.string SB, .string ⟨#[38]⟩] wa fun e w' => e = .returned (.slice (some ⟨w.heap.size + 2, 0, none⟩) PS.length PS.length) ∧ w' = wa.alloc (.cells (PS.map fun p => Value.string (mkB p)).toArray 9)) := (HSp.out wa HBa.out).mono fun e w2 ⟨h1, h2⟩ => by
    rw [hPS] at h1 h2
    rw [Hsz.out] at h1
    exact ⟨h1, h2⟩
  rw [hPS] at HP
  have HG1 : Hid (queryF PS 0 (.mk 4 0 ⟨#[]⟩ []) = G0) := by
    show _ = _
    rw [← HG0.out, queryG, hPS]
  have hPl : PS.length ≤ s.length + 1 := HPl.out
  have HR0 := Lib.hid (Blk.new wa 9 (PS.map fun p => Value.string (mkB p)).toArray)
  rw [Hsz.out] at HR0
  have HQ0 : Hid (QSt w (wa.alloc (.cells (PS.map fun p => Value.string (mkB p)).toArray 9)) PS 0 G0 0 [] none 0 ∧ Blk (wa.alloc (.cells (PS.map fun p => Value.string (mkB p)).toArray 9)) (w.heap.size + 2) 9 (PS.map fun p => Value.string (mkB p)).toArray) :=
    ⟨⟨HXa.out.alloc _, HZa.out.alloc _, .mk 4 0 ⟨#[]⟩ [] none 0 0 0 (fun _ => .nilIface) (Nat.zero_le _) (Nat.zero_le _) (fun h => absurd h (Nat.lt_irrefl 0)) (fun i it h => by simp at h) (fun i it h => by simp at h), .empty, HG1.out, HBa.out.alloc HBa.out.size _⟩, HR0.out⟩
  clear HSp HG0 HXa HZa hPS HR0 HPl HG1
  go_wp2_with (go_at_call 26; refine HSp2.out.mono ?_; rintro e w1 ⟨rfl, hw1⟩; rw [hw1]; clear hw1 w1)
  generalize wa.alloc (.cells (PS.map fun p => Value.string (mkB p)).toArray 9) = w1 at *
  clear HSp2 HBa Hsz
  go_loopw [4, 14] (fun x4 x14 wx => ∃ (j k : Nat) (nx : Int) (l : List GI) (A : Option Addr) (c : Nat), j ≤ PS.length ∧ k ≤ j ∧ x14 = .int .i64 j ∧ x4 = .int .i64 k ∧ Hid (QSt w wx (PS.drop j) k G0 nx l A c ∧ Blk wx (w.heap.size + 2) 9 (PS.map fun p => Value.string (mkB p)).toArray)) (fun _ x14 _ => PS.length - (ixO x14).toNat)
  case atStart => exact ⟨0, 0, 0, [], none, 0, Nat.zero_le _, Nat.le_refl _, rfl, rfl, HQ0⟩
  case round =>
    clear HQ0
    obtain ⟨j, k, nx, l, A, c, hj, hk, rfl, rfl, HQ⟩ := hrel
    by_cases hlt : j < PS.length
    · obtain ⟨p, hpj⟩ : ∃ p, PS[j]? = some p := ⟨_, List.getElem?_eq_getElem hlt⟩
      have hdr : PS.drop j = p :: PS.drop (j + 1) := by
        obtain ⟨h1, h2⟩ := List.getElem?_eq_some_iff.1 hpj
        rw [List.drop_eq_getElem_cons h1, h2]
      rw [hdr] at HQ
      have hcp : wr.cell? ⟨w.heap.size + 2, j, none⟩ = some (.string (mkB p)) := by
        have := HQ.out.2.cell j
        rw [this, List.getElem?_toArray, List.getElem?_map, hpj]
        rfl
      obtain ⟨hpl, hn1, hn2⟩ := HP.out p (List.mem_of_getElem? hpj)
      have hlt' : (j : Int) < (PS.length : Int) := by omega
      have HSt := HQ
      clear hdr hpj HQ
      by_cases hp0 : p = []
      · have HQ2 : Hid (QSt w wr (PS.drop (j + 1)) k G0 nx l A c ∧ Blk wr (w.heap.size + 2) 9 (PS.map fun p => Value.string (mkB p)).toArray) := ⟨⟨HSt.out.1.box, HSt.out.1.res, HSt.out.1.vin, HSt.out.1.ok, (queryF_skip (.inl hp0)).symm.trans HSt.out.1.fin, HSt.out.1.low⟩, HSt.out.2⟩
        subst hp0
        rw [mkB_nil] at hcp
        clear HSt HD HCu
        go_wp2_with fail
        go_roundw
        case rel => exact ⟨j + 1, k, nx, l, A, c, by omega, by omega, by go_num, by trivial, HQ2⟩
        case measure => simp [ixO] <;> omega
      · have hne : ¬ mkB p = ⟨#[]⟩ := fun e => hp0 (by rw [← mkB_list p, e])
        obtain ⟨hq1, hq2, hq3⟩ := not_empty hne
        by_cases hk0 : 1000 ≤ k
        · have HQ2 : Hid (QSt w wr (PS.drop (j + 1)) k G0 nx l A c ∧ Blk wr (w.heap.size + 2) 9 (PS.map fun p => Value.string (mkB p)).toArray) := ⟨⟨HSt.out.1.box, HSt.out.1.res, HSt.out.1.vin, HSt.out.1.ok, (queryF_skip (.inr hk0)).symm.trans HSt.out.1.fin, HSt.out.1.low⟩, HSt.out.2⟩
          have hkI : (1000 : Int) ≤ (k : Int) := by omega
          clear HSt HD HCu hp0
          go_wp2_with fail
          go_roundw
          case rel => exact ⟨j + 1, k, nx, l, A, c, by omega, by omega, by go_num, by trivial, HQ2⟩
          case measure => simp [ixO] <;> omega
        · have hkI : ¬ (1000 : Int) ≤ (k : Int) := by omega
          have HX := Lib.hid HSt.out.1.box
          have hdn := decF_le (cutL 61 p).1
          have hdt := decF_le (cutL 61 p).2
          have HQn := Lib.hid (And.intro (queryF_take (p := p) (r := PS.drop (j + 1)) (k := k) (g := .mk 4 nx ⟨#[]⟩ l) (fun h => h.elim hp0 hk0)) (putQ_ok (name := decF (cutL 61 p).1) (text := decF (cutL 61 p).2) HSt.out.1.ok (by omega) (by omega)))
          have hbw : Below w.heap.size w wr := HSt.out.1.low
          have hVA : VAt wr wr.heap.size (.mk 4 nx ⟨#[]⟩ l) (.agg #[.int .i64 4, .int .i64 nx, .string ⟨#[]⟩, .slice A l.length c]) := HSt.out.1.vin.at_ (fun b hb _ => hb) (fun b hS => hS.2)
          have HPut : Hid (∀ wz, Below wr.heap.size wr wz → Calls Tryz.prog 28 #[.agg #[.int .i64 4, .int .i64 nx, .string ⟨#[]⟩, .slice A l.length c], .string (mkB (decF (cutL 61 p).1)), .string (mkB (decF (cutL 61 p).2))] wz fun e w2 => ∃ nx4 l4 A4 c4, putQ (decF (cutL 61 p).1) (decF (cutL 61 p).2) (.mk 4 nx ⟨#[]⟩ l) = .mk 4 nx4 ⟨#[]⟩ l4 ∧ e = .returned (.tuple #[.agg #[.int .i64 4, .int .i64 nx4, .string ⟨#[]⟩, .slice A4 l4.length c4], .int .i64 0]) ∧ VIn w2 (fun b => wz.heap.size ≤ b ∧ b < w2.heap.size) (.mk 4 nx4 ⟨#[]⟩ l4) (.agg #[.int .i64 4, .int .i64 nx4, .string ⟨#[]⟩, .slice A4 l4.length c4]) ∧ Below wz.heap.size wz w2) := fun wz hz =>
            (uput_any (w := wr) (Nat.le_refl _) (fun w2 h2 => HLib.out w2 (hbw.trans (h2.mono hbw.size))) m (fun w2 h2 => Hmx.out w2 (hbw.trans (h2.mono hbw.size))) hVA HSt.out.1.ok.wf _ _ (by omega) (by omega) wz hz).mono fun e w2 ⟨y, h1, h2, h3⟩ => by
              obtain ⟨nx4, l4, hG⟩ := HQn.out.2.list
              rw [hG] at h2
              obtain ⟨A4, c4, rfl⟩ := h2.form
              exact ⟨nx4, l4, A4, c4, hG, h1, h2, h3⟩
          have HCp := Lib.hid (HCu.out p hpl wr hbw)
          obtain ⟨⟨v0, v1, v2, v3⟩, -⟩ := z8 HX.out
          clear hVA hdn hdt hp0 hk0 hne HCu
          generalize putQ (decF (cutL 61 p).1) (decF (cutL 61 p).2) (.mk 4 nx ⟨#[]⟩ l) = GN at *
          generalize (cutL 61 p).1 = NA at *
          generalize (cutL 61 p).2 = TA at *
          have hk1 : k < 1000 := by omega
          go_upto_region 9 with (go_at_call 27; refine HCp.out.mono ?_; rintro e w1 ⟨rfl, nd, rfl⟩)
          refine wp_region_held_drew (S := (fun _ => True)) (by kernel_rfl) ?_ (fun hHeld => ?_)
          · trivial
          refine wpAnyH_take (i := 1) (v := ?v1) Held.op1 (by kernel_rfl) (by kernel_rfl) (by kernel_rfl) (fun _ _ _ h => h) (Or.inl ⟨by rfl, ?hy1⟩) (by assumption) ?rest1
          case hy1 => (intro wq hSq; (try dsimp only at hSq); first | (go_simp; done) | (go_simp; with_reducible rfl))
          try simp only [Act.put, List.setIfInBounds_toArray, List.set_cons_zero, List.set_cons_succ]
          refine wpAnyH_take (i := 3) (v := ?v2) Held.op3 (by kernel_rfl) (by kernel_rfl) (by kernel_rfl) (fun _ _ _ h => h) (Or.inl ⟨by rfl, ?hy2⟩) (by assumption) ?rest2
          case hy2 => (intro wq hSq; (try dsimp only at hSq); first | (go_simp; done) | (go_simp; with_reducible rfl))
          try simp only [Act.put, List.setIfInBounds_toArray, List.set_cons_zero, List.set_cons_succ]
          refine wpAnyH_ready (rs := [0, 2]) (by kernel_rfl) (by simp) ?_
          refine AllReadyH.cons Held.op0 (fun K hK => ?_) (AllReadyH.cons Held.op2 (fun K hK => ?_) AllReadyH.nil)
          · go_simp
            refine hK.out _ _ ?_ (fun hHeld => ?_)
            · exact trivial
            clear hK K
            try simp only [Act.put, List.setIfInBounds_toArray, List.set_cons_zero, List.set_cons_succ]
            refine wpAnyH_ready (rs := [2]) (by kernel_rfl) (by simp) ?_
            refine AllReadyH.cons Held.op2 (fun K hK => ?_) AllReadyH.nil
            go_simp
            go_at_call 29
            refine (HD.out _ (by assumption) _).mono ?_
            rintro e w2 ⟨rfl, hb2⟩
            have HB2 : Hid (Below wr.heap.size wr w2) := (drewN' (Below.refl wr.heap.size wr) (nd + 1)).trans hb2
            obtain ⟨⟨v0w2, v1w2, v2w2, v3w2⟩, -⟩ := z8 (HX.out.below HB2.out HX.out.lt)
            clear hb2
            try (go_wp2_with fail)
            refine hK.out _ _ ?_ (fun hHeld => ?_)
            · exact trivial
            clear hK K
            try simp only [Act.put, List.setIfInBounds_toArray, List.set_cons_zero, List.set_cons_succ]
            refine wpAnyH_ready (rs := [4]) (by kernel_rfl) (by simp) ?_
            refine AllReadyH.cons Held.op4 (fun K hK => ?_) AllReadyH.nil
            go_simp
            go_at_call 29
            refine (HD.out _ (by assumption) _).mono ?_
            rintro e w3 ⟨rfl, hb2⟩
            have HB3 : Hid (Below wr.heap.size wr w3) := HB2.out.trans (hb2.mono HB2.out.size)
            obtain ⟨⟨v0w3, v1w3, v2w3, v3w3⟩, -⟩ := z8 (HX.out.below HB3.out HX.out.lt)
            clear hb2
            try (go_wp2_with fail)
            refine hK.out _ _ ?_ (fun hHeld => ?_)
            · exact trivial
            clear hK K
            try simp only [Act.put, List.setIfInBounds_toArray, List.set_cons_zero, List.set_cons_succ]
            refine wpAnyH_ready (rs := [5]) (by kernel_rfl) (by simp) ?_
            refine AllReadyH.cons Held.op5 (fun K hK => ?_) AllReadyH.nil
            go_simp
            go_at_call 28
            refine (HPut.out w3 HB3.out).mono ?_
            rintro e w4 ⟨nx4, l4, A4, c4, hG4, rfl, hy4, hb4⟩
            have HB4 : Hid (Below wr.heap.size wr w4) := HB3.out.trans (hb4.mono HB3.out.size)
            have HX4 := Lib.hid (HX.out.below HB4.out HX.out.lt)
            have HY4 := Lib.hid hy4
            have HG4 := Lib.hid hG4
            have HS3 := Lib.hid hb4.size
            obtain ⟨⟨b0, b1, b2, b3⟩, bf0, bf1, bf2, bf3⟩ := z8 HX4.out
            clear hy4 hb4 hG4
            try (go_wp2_with fail)
            refine hK.out _ _ ?_ (fun hHeld => ?_)
            · exact trivial
            clear hK K
            try simp only [Act.put, List.setIfInBounds_toArray, List.set_cons_zero, List.set_cons_succ]
            refine wpAnyH_take (i := 6) (v := ?v3) Held.op6 (by kernel_rfl) (by kernel_rfl) (by kernel_rfl) (fun _ _ _ h => h) (Or.inl ⟨by rfl, ?hy3⟩) (by assumption) ?rest3
            case hy3 => (intro wq hSq; (try dsimp only at hSq); first | (go_simp; done) | (go_simp; with_reducible rfl))
            try simp only [Act.put, List.setIfInBounds_toArray, List.set_cons_zero, List.set_cons_succ]
            refine wpAnyH_take (i := 7) (v := ?v4) Held.op7 (by kernel_rfl) (by kernel_rfl) (by kernel_rfl) (fun _ _ _ h => h) (Or.inl ⟨by rfl, ?hy4⟩) (by assumption) ?rest4
            case hy4 => (intro wq hSq; (try dsimp only at hSq); first | (go_simp; done) | (go_simp; with_reducible rfl))
            try simp only [Act.put, List.setIfInBounds_toArray, List.set_cons_zero, List.set_cons_succ]
            refine wpAnyH_take (i := 8) (v := ?v5) Held.op8 (by kernel_rfl) (by kernel_rfl) (by kernel_rfl) (fun _ _ _ h => h) (Or.inl ⟨by rfl, ?hy5⟩) (by assumption) ?rest5
            case hy5 => (intro wq hSq; (try dsimp only at hSq); first | (go_simp; done) | (go_simp; with_reducible rfl))
            try simp only [Act.put, List.setIfInBounds_toArray, List.set_cons_zero, List.set_cons_succ]
            refine wpAnyH_ready (rs := [9]) (by kernel_rfl) (by simp) ?_
            refine AllReadyH.cons Held.op9 (fun K hK => ?_) AllReadyH.nil
            go_simp
            refine hK.out _ _ ?_ (fun hHeld => ?_)
            · exact trivial
            clear hK K
            try simp only [Act.put, List.setIfInBounds_toArray, List.set_cons_zero, List.set_cons_succ]
            refine wpAnyH_done (by kernel_rfl) ?_ _
            go_wp2_with fail
            go_roundw
            case rel =>
              have hst := store4 HX4.out (.int .i64 4) (.int .i64 nx4) (.string ⟨#[]⟩) (.slice A4 l4.length c4)
              exact ⟨j + 1, k + 1, nx4, l4, A4, c4, by omega, by omega, by go_num, by go_num, rnd_end HG4.out HSt.out HQn.out HB3.out HB4.out HY4.out hst rfl⟩
            case measure => simp [ixO] <;> omega
          · go_simp
            go_at_call 29
            refine (HD.out _ (by assumption) _).mono ?_
            rintro e w2 ⟨rfl, hb2⟩
            have HB2 : Hid (Below wr.heap.size wr w2) := (drewN' (Below.refl wr.heap.size wr) (nd + 1)).trans hb2
            obtain ⟨⟨v0w2, v1w2, v2w2, v3w2⟩, -⟩ := z8 (HX.out.below HB2.out HX.out.lt)
            clear hb2
            try (go_wp2_with fail)
            refine hK.out _ _ ?_ (fun hHeld => ?_)
            · exact trivial
            clear hK K
            try simp only [Act.put, List.setIfInBounds_toArray, List.set_cons_zero, List.set_cons_succ]
            refine wpAnyH_ready (rs := [0, 4]) (by kernel_rfl) (by simp) ?_
            refine AllReadyH.cons Held.op0 (fun K hK => ?_) (AllReadyH.cons Held.op4 (fun K hK => ?_) AllReadyH.nil)
            · go_simp
              refine hK.out _ _ ?_ (fun hHeld => ?_)
              · exact trivial
              clear hK K
              try simp only [Act.put, List.setIfInBounds_toArray, List.set_cons_zero, List.set_cons_succ]
              refine wpAnyH_ready (rs := [4]) (by kernel_rfl) (by simp) ?_
              refine AllReadyH.cons Held.op4 (fun K hK => ?_) AllReadyH.nil
              go_simp
              go_at_call 29
              refine (HD.out _ (by assumption) _).mono ?_
              rintro e w3 ⟨rfl, hb2⟩
              have HB3 : Hid (Below wr.heap.size wr w3) := HB2.out.trans (hb2.mono HB2.out.size)
              obtain ⟨⟨v0w3, v1w3, v2w3, v3w3⟩, -⟩ := z8 (HX.out.below HB3.out HX.out.lt)
              clear hb2
              try (go_wp2_with fail)
              refine hK.out _ _ ?_ (fun hHeld => ?_)
              · exact trivial
              clear hK K
              try simp only [Act.put, List.setIfInBounds_toArray, List.set_cons_zero, List.set_cons_succ]
              refine wpAnyH_ready (rs := [5]) (by kernel_rfl) (by simp) ?_
              refine AllReadyH.cons Held.op5 (fun K hK => ?_) AllReadyH.nil
              go_simp
              go_at_call 28
              refine (HPut.out w3 HB3.out).mono ?_
              rintro e w4 ⟨nx4, l4, A4, c4, hG4, rfl, hy4, hb4⟩
              have HB4 : Hid (Below wr.heap.size wr w4) := HB3.out.trans (hb4.mono HB3.out.size)
              have HX4 := Lib.hid (HX.out.below HB4.out HX.out.lt)
              have HY4 := Lib.hid hy4
              have HG4 := Lib.hid hG4
              have HS3 := Lib.hid hb4.size
              obtain ⟨⟨b0, b1, b2, b3⟩, bf0, bf1, bf2, bf3⟩ := z8 HX4.out
              clear hy4 hb4 hG4
              try (go_wp2_with fail)
              refine hK.out _ _ ?_ (fun hHeld => ?_)
              · exact trivial
              clear hK K
              try simp only [Act.put, List.setIfInBounds_toArray, List.set_cons_zero, List.set_cons_succ]
              refine wpAnyH_take (i := 6) (v := ?v6) Held.op6 (by kernel_rfl) (by kernel_rfl) (by kernel_rfl) (fun _ _ _ h => h) (Or.inl ⟨by rfl, ?hy6⟩) (by assumption) ?rest6
              case hy6 => (intro wq hSq; (try dsimp only at hSq); first | (go_simp; done) | (go_simp; with_reducible rfl))
              try simp only [Act.put, List.setIfInBounds_toArray, List.set_cons_zero, List.set_cons_succ]
              refine wpAnyH_take (i := 7) (v := ?v7) Held.op7 (by kernel_rfl) (by kernel_rfl) (by kernel_rfl) (fun _ _ _ h => h) (Or.inl ⟨by rfl, ?hy7⟩) (by assumption) ?rest7
              case hy7 => (intro wq hSq; (try dsimp only at hSq); first | (go_simp; done) | (go_simp; with_reducible rfl))
              try simp only [Act.put, List.setIfInBounds_toArray, List.set_cons_zero, List.set_cons_succ]
              refine wpAnyH_take (i := 8) (v := ?v8) Held.op8 (by kernel_rfl) (by kernel_rfl) (by kernel_rfl) (fun _ _ _ h => h) (Or.inl ⟨by rfl, ?hy8⟩) (by assumption) ?rest8
              case hy8 => (intro wq hSq; (try dsimp only at hSq); first | (go_simp; done) | (go_simp; with_reducible rfl))
              try simp only [Act.put, List.setIfInBounds_toArray, List.set_cons_zero, List.set_cons_succ]
              refine wpAnyH_ready (rs := [9]) (by kernel_rfl) (by simp) ?_
              refine AllReadyH.cons Held.op9 (fun K hK => ?_) AllReadyH.nil
              go_simp
              refine hK.out _ _ ?_ (fun hHeld => ?_)
              · exact trivial
              clear hK K
              try simp only [Act.put, List.setIfInBounds_toArray, List.set_cons_zero, List.set_cons_succ]
              refine wpAnyH_done (by kernel_rfl) ?_ _
              go_wp2_with fail
              go_roundw
              case rel =>
                have hst := store4 HX4.out (.int .i64 4) (.int .i64 nx4) (.string ⟨#[]⟩) (.slice A4 l4.length c4)
                exact ⟨j + 1, k + 1, nx4, l4, A4, c4, by omega, by omega, by go_num, by go_num, rnd_end HG4.out HSt.out HQn.out HB3.out HB4.out HY4.out hst rfl⟩
              case measure => simp [ixO] <;> omega
            · go_simp
              go_at_call 29
              refine (HD.out _ (by assumption) _).mono ?_
              rintro e w3 ⟨rfl, hb2⟩
              have HB3 : Hid (Below wr.heap.size wr w3) := HB2.out.trans (hb2.mono HB2.out.size)
              obtain ⟨⟨v0w3, v1w3, v2w3, v3w3⟩, -⟩ := z8 (HX.out.below HB3.out HX.out.lt)
              clear hb2
              try (go_wp2_with fail)
              refine hK.out _ _ ?_ (fun hHeld => ?_)
              · exact trivial
              clear hK K
              try simp only [Act.put, List.setIfInBounds_toArray, List.set_cons_zero, List.set_cons_succ]
              refine wpAnyH_ready (rs := [0]) (by kernel_rfl) (by simp) ?_
              refine AllReadyH.cons Held.op0 (fun K hK => ?_) AllReadyH.nil
              go_simp
              refine hK.out _ _ ?_ (fun hHeld => ?_)
              · exact trivial
              clear hK K
              try simp only [Act.put, List.setIfInBounds_toArray, List.set_cons_zero, List.set_cons_succ]
              refine wpAnyH_ready (rs := [5]) (by kernel_rfl) (by simp) ?_
              refine AllReadyH.cons Held.op5 (fun K hK => ?_) AllReadyH.nil
              go_simp
              go_at_call 28
              refine (HPut.out w3 HB3.out).mono ?_
              rintro e w4 ⟨nx4, l4, A4, c4, hG4, rfl, hy4, hb4⟩
              have HB4 : Hid (Below wr.heap.size wr w4) := HB3.out.trans (hb4.mono HB3.out.size)
              have HX4 := Lib.hid (HX.out.below HB4.out HX.out.lt)
              have HY4 := Lib.hid hy4
              have HG4 := Lib.hid hG4
              have HS3 := Lib.hid hb4.size
              obtain ⟨⟨b0, b1, b2, b3⟩, bf0, bf1, bf2, bf3⟩ := z8 HX4.out
              clear hy4 hb4 hG4
              try (go_wp2_with fail)
              refine hK.out _ _ ?_ (fun hHeld => ?_)
              · exact trivial
              clear hK K
              try simp only [Act.put, List.setIfInBounds_toArray, List.set_cons_zero, List.set_cons_succ]
              refine wpAnyH_take (i := 6) (v := ?v9) Held.op6 (by kernel_rfl) (by kernel_rfl) (by kernel_rfl) (fun _ _ _ h => h) (Or.inl ⟨by rfl, ?hy9⟩) (by assumption) ?rest9
              case hy9 => (intro wq hSq; (try dsimp only at hSq); first | (go_simp; done) | (go_simp; with_reducible rfl))
              try simp only [Act.put, List.setIfInBounds_toArray, List.set_cons_zero, List.set_cons_succ]
              refine wpAnyH_take (i := 7) (v := ?v10) Held.op7 (by kernel_rfl) (by kernel_rfl) (by kernel_rfl) (fun _ _ _ h => h) (Or.inl ⟨by rfl, ?hy10⟩) (by assumption) ?rest10
              case hy10 => (intro wq hSq; (try dsimp only at hSq); first | (go_simp; done) | (go_simp; with_reducible rfl))
              try simp only [Act.put, List.setIfInBounds_toArray, List.set_cons_zero, List.set_cons_succ]
              refine wpAnyH_take (i := 8) (v := ?v11) Held.op8 (by kernel_rfl) (by kernel_rfl) (by kernel_rfl) (fun _ _ _ h => h) (Or.inl ⟨by rfl, ?hy11⟩) (by assumption) ?rest11
              case hy11 => (intro wq hSq; (try dsimp only at hSq); first | (go_simp; done) | (go_simp; with_reducible rfl))
              try simp only [Act.put, List.setIfInBounds_toArray, List.set_cons_zero, List.set_cons_succ]
              refine wpAnyH_ready (rs := [9]) (by kernel_rfl) (by simp) ?_
              refine AllReadyH.cons Held.op9 (fun K hK => ?_) AllReadyH.nil
              go_simp
              refine hK.out _ _ ?_ (fun hHeld => ?_)
              · exact trivial
              clear hK K
              try simp only [Act.put, List.setIfInBounds_toArray, List.set_cons_zero, List.set_cons_succ]
              refine wpAnyH_done (by kernel_rfl) ?_ _
              go_wp2_with fail
              go_roundw
              case rel =>
                have hst := store4 HX4.out (.int .i64 4) (.int .i64 nx4) (.string ⟨#[]⟩) (.slice A4 l4.length c4)
                exact ⟨j + 1, k + 1, nx4, l4, A4, c4, by omega, by omega, by go_num, by go_num, rnd_end HG4.out HSt.out HQn.out HB3.out HB4.out HY4.out hst rfl⟩
              case measure => simp [ixO] <;> omega
    · obtain rfl : j = PS.length := by omega
      have HF := HQ
      have hfin : G0 = .mk 4 nx ⟨#[]⟩ l := by
        have := HQ.out.1.fin
        rw [List.drop_length, queryF] at this
        exact this.symm
      subst hfin
      obtain ⟨⟨v0, v1, v2, v3⟩, -⟩ := z8 HQ.out.1.box
      obtain ⟨⟨z0, z1, z2, z3⟩, zf0, zf1, zf2, zf3⟩ := z8 HQ.out.1.res
      have hst := Lib.hid (store4 HQ.out.1.res (.int .i64 4) (.int .i64 nx) (.string ⟨#[]⟩) (.slice A l.length c))
      clear HQ HD HCu
      go_wp2_with fail
      generalize (((wr.setCell ⟨w.heap.size, 0, none⟩ (.int .i64 4)).setCell ⟨w.heap.size, 1, none⟩ (.int .i64 nx)).setCell ⟨w.heap.size, 2, none⟩ (.string ⟨#[]⟩)).setCell ⟨w.heap.size, 3, none⟩ (.slice A l.length c) = wf at *
      have e0 : wf.cell? ⟨w.heap.size, 0, none⟩ = some (.int .i64 4) := hst.out.1.cell 0
      have e1 : wf.cell? ⟨w.heap.size, 1, none⟩ = some (.int .i64 nx) := hst.out.1.cell 1
      have e2 : wf.cell? ⟨w.heap.size, 2, none⟩ = some (.string ⟨#[]⟩) := hst.out.1.cell 2
      have e3 : wf.cell? ⟨w.heap.size, 3, none⟩ = some (.slice A l.length c) := hst.out.1.cell 3
      refine bodyPost_ret (v := .agg #[.int .i64 4, .int .i64 nx, .string ⟨#[]⟩, .slice A l.length c]) (by simp [results, Tryz.results10, go_sem, e0, e1, e2, e3]) rfl ?_
      have hs2 := hst.out.2.size
      have hl2 := HF.out.1.low.size
      exact ⟨_, rfl, HF.out.1.vin.keep (fun b hb => ⟨by omega, by omega⟩) (fun q hq => hst.out.2.cell hq.2 (fun e => by have := hq.1; omega)), HF.out.1.low.trans (hst.out.2.below hl2 (fun j e => by rw [e]; exact Nat.le_refl _))⟩
end
end Ut
end Go.Proofs.YtgpemnmopogppaaGreatDoor
