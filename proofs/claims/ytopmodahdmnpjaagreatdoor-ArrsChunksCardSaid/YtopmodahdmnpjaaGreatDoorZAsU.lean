/- arrs.told: the walk. -/
import Derived.Test.YtopmodahdmnpjaaGreatDoorZAsT
namespace Go.Proofs.YtopmodahdmnpjaaGreatDoor
open Go Go.RowKit
namespace Dp
section
attribute [local go_sem] Oper.semAt_some
set_option maxRecDepth 100000 in
set_option maxHeartbeats 4000000 in
theorem told_any {base b mb : Nat} {sv : Value} {ps : List PI} {nx : Int} (w' : World) (hL : LstAt base w' b mb false sv ps nx) (hn : ps.length ≤ 2048) :
    Calls Tryz.prog 92 #[.pointer (some ⟨b, 0, none⟩)] w' fun e w2 => ∃ sv2, e = .returned (.tuple #[.agg #[.int .i64 4, .int .i64 nx, .string ⟨#[]⟩, sv2], .int .i64 0]) ∧ w2.ownsRow w'.heap.size 34 7 sv2 ps.length (rowC ps) ∧ Keeps (fun j => j = b) w' w2 := by
  have hal := fun (w1 : World) (o : Obj) => (Below.refl w1.heap.size w1).alloc (Nat.le_refl _) o
  have hBa := hal w' (.cells #[.int .i64 0, .int .i64 0, .string ⟨#[]⟩, .slice none 0 0] 24)
  have hsz : (w'.alloc (.cells #[.int .i64 0, .int .i64 0, .string ⟨#[]⟩, .slice none 0 0] 24)).heap.size = w'.heap.size + 1 := by simp
  have HZa := Lib.hid (Blk.new w' 24 #[.int .i64 0, .int .i64 0, .string ⟨#[]⟩, .slice none 0 0])
  have hLa := hL.below hBa
  have HNx := Lib.hid (next_any (w'.alloc (.cells #[.int .i64 0, .int .i64 0, .string ⟨#[]⟩, .slice none 0 0] 24)) b nx hLa.cells.1 hLa.cells.2.2.2.2)
  have HAl := Lib.hid (fun wz => all_any wz b)
  have hblt := hL.blk.lt
  have hs1 : ((w'.alloc (.cells #[.int .i64 0, .int .i64 0, .string ⟨#[]⟩, .slice none 0 0] 24)).alloc (.cells #[.int .i64 4, .int .i64 nx, .string ⟨#[]⟩, .slice none 0 0] 24)).heap.size = w'.heap.size + 2 := by simp
  have hVw := ((hBa.alloc (by rw [hsz]; omega) (.cells #[.int .i64 4, .int .i64 nx, .string ⟨#[]⟩, .slice none 0 0] 24))).alloc (by rw [hs1]; omega) (.cells #[.pointer (some ⟨b, 0, none⟩)] 74)
  have HVw := Lib.hid hVw
  have HLw := Lib.hid (hL.below hVw)
  have hVb := (Blk.new (w'.alloc (.cells #[.int .i64 0, .int .i64 0, .string ⟨#[]⟩, .slice none 0 0] 24)) 24 #[.int .i64 4, .int .i64 nx, .string ⟨#[]⟩, .slice none 0 0]).alloc (.cells #[.pointer (some ⟨b, 0, none⟩)] 74)
  rw [hsz] at hVb
  have hVz := Blk.new (w'.alloc (.cells #[.int .i64 0, .int .i64 0, .string ⟨#[]⟩, .slice none 0 0] 24)) 24 #[.int .i64 0, .int .i64 0, .string ⟨#[]⟩, .slice none 0 0]
  rw [hsz] at hVz
  have z0 := hVz.frozen 0
  have z1 := hVz.frozen 1
  have z2 := hVz.frozen 2
  have z3 := hVz.frozen 3
  have hBx := Blk.new ((w'.alloc (.cells #[.int .i64 0, .int .i64 0, .string ⟨#[]⟩, .slice none 0 0] 24)).alloc (.cells #[.int .i64 4, .int .i64 nx, .string ⟨#[]⟩, .slice none 0 0] 24)) 74 #[.pointer (some ⟨b, 0, none⟩)]
  rw [hs1] at hBx
  have HBx := Lib.hid hBx
  have HM0 : Hid (TdSt w' b (w'.heap.size + 1) nx [] (((w'.alloc (.cells #[.int .i64 0, .int .i64 0, .string ⟨#[]⟩, .slice none 0 0] 24)).alloc (.cells #[.int .i64 4, .int .i64 nx, .string ⟨#[]⟩, .slice none 0 0] 24)).alloc (.cells #[.pointer (some ⟨b, 0, none⟩)] 74))) := ⟨⟨_, World.ownsRow_nil _ _ _ _, hVb⟩, Keeps.of_below hVw, (HZa.out.alloc _).alloc _⟩
  clear hal hBa hLa hVb hVz hBx hVw hL
  refine (callsIn_wide (n := 6)).1 ?_
  refine callsIn_of_wp_marks Tryz.func92 rfl trivial ?_ rfl
  simp only [Tryz.ntmps92, List.size_toArray, List.length_cons, List.length_nil, Nat.reduceAdd, Nat.reduceSub, Array.replicate_succ, Array.replicate_zero, List.push_toArray, List.append_toArray, List.nil_append, List.cons_append]
  gi_wp2_with (first
    | (refine ⟨trivial, ?_⟩; gi_at_call 143; refine (callsIn_wide.2 HNx.out).mono ?_; rintro e wq ⟨rfl, he⟩; subst he)
    | (refine ⟨trivial, ?_⟩; gi_at_call 144; refine (callsIn_wide.2 (HAl.out _)).mono ?_; rintro e wq ⟨rfl, he⟩; subst he))
  clear HNx HAl
  generalize ((w'.alloc (.cells #[.int .i64 0, .int .i64 0, .string ⟨#[]⟩, .slice none 0 0] 24)).alloc (.cells #[.int .i64 4, .int .i64 nx, .string ⟨#[]⟩, .slice none 0 0] 24)).alloc (.cells #[.pointer (some ⟨b, 0, none⟩)] 74) = W0 at *
  refine range_T (b := b) (by have := HVw.out.size; omega) rfl (enters_of Tryz.func191 (by kernel_rfl) rfl) (encs := encP) (xs := ps) (fun _ => rfl)
    (fun l J W hbW hJ hY h0 => all1_in (bx := w'.heap.size + 2) hn J W ((hbW.cell (p := ⟨w'.heap.size + 2, 0, none⟩) HBx.out.lt).trans (HBx.out.cell 0)) (HLw.out.below hbW) hJ (fun pre x W1 h1 h2 => hY pre x W1 h1 h2) h0)
    (fun pre Wz => Hid (TdSt w' b (w'.heap.size + 1) nx pre Wz)) (fun _pre x a' Wz => ∃ kb xb, a' = { tmps := #[.pointer (some ⟨b, 0, none⟩), undef, .pointer (some ⟨w'.heap.size, 0, none⟩), .int .i64 0, .pointer (some ⟨w'.heap.size + 1, 0, none⟩), .pointer (some ⟨kb, 0, none⟩), .pointer (some ⟨xb, 0, none⟩), .pointer (some ⟨b, 0, none⟩), .int .i64 nx, .agg #[.int .i64 4, .int .i64 nx, .string ⟨#[]⟩, .slice none 0 0], .pointer (some ⟨b, 0, none⟩), .func (.func 191) #[] #[.pointer (some ⟨w'.heap.size + 2, 0, none⟩)], .agg #[.bool x.b, .int .i64 x.i, .string x.s], .agg #[.int .i64 x.k, .int .i64 x.n, .string x.t, .slice x.A x.l.length x.c], undef, undef, undef, undef, undef, undef, undef, undef, undef, undef, undef], defers := [] } ∧ Hid (Blk Wz kb 32 #[.bool x.b, .int .i64 x.i, .string x.s]) ∧ Hid (Blk Wz xb 24 #[.int .i64 x.k, .int .i64 x.n, .string x.t, .slice x.A x.l.length x.c]) ∧ w'.heap.size + 1 < kb ∧ w'.heap.size + 1 < xb)
    (fun pre A B hA hk => hA.out.keeps hk hblt (Nat.lt_succ_self _)) (fun pre A l o o' hA hl ho h1 h2 => hA.out.put ho h1 (by have := HVw.out.size; omega)) ?hAp HM0 ?assign ?body ?done
  case hAp =>
    rintro pre x a' A l o o' ⟨kb, xb, rfl, h1, h2, h3, h4⟩ hl ho hc hc'
    exact ⟨kb, xb, rfl, blk_put h1.out ho hc o', blk_put h2.out ho hc o', h3, h4⟩
  case assign =>
    intro l1 pre x W K hpx hM hK
    have hws : w'.heap.size + 1 < W.heap.size := by
      obtain ⟨sv2, _, hbv⟩ := hM.out.ex
      exact hbv.lt
    dsimp only [encP, PI.val]
    gi_wp2
    have hb1 := (Below.refl W.heap.size W).alloc (Nat.le_refl _) (.cells #[.bool x.b, .int .i64 x.i, .string x.s] 32)
    have hb2 := hb1.alloc (by simp) (.cells #[.int .i64 x.k, .int .i64 x.n, .string x.t, .slice x.A x.l.length x.c] 24)
    have hx := Blk.new (W.alloc (.cells #[.bool x.b, .int .i64 x.i, .string x.s] 32)) 24 #[.int .i64 x.k, .int .i64 x.n, .string x.t, .slice x.A x.l.length x.c]
    have hs2 : (W.alloc (.cells #[.bool x.b, .int .i64 x.i, .string x.s] 32)).heap.size = W.heap.size + 1 := by simp
    rw [hs2] at hx
    refine hK _ _ ⟨W.heap.size, W.heap.size + 1, rfl, (Blk.new W 32 #[.bool x.b, .int .i64 x.i, .string x.s]).alloc _, hx, hws, by omega⟩ (hM.out.below hb2) (KT.below hb2)
  case body =>
    rintro l1 pre x a' W hpx ⟨kb, xb, rfl, HKb, HXb, hkv, hxv⟩ hM
    obtain ⟨⟨sv2, hrq, hbv⟩, hbl, hrs⟩ := hM.out
    obtain ⟨A4, c4, rfl⟩ : ∃ A c, sv2 = .slice A pre.length c := by
      rcases hrq.2 with ⟨e, h0⟩ | ⟨g, cap, cur, e, _⟩
      · exact ⟨none, 0, by rw [e, h0]⟩
      · exact ⟨_, _, e⟩
    have HRq := Lib.hid hrq
    have HBv := Lib.hid hbv
    have HBl := Lib.hid hbl
    have HRs := Lib.hid hrs
    have HvW := Lib.hid (Nat.succ_le_of_lt hbv.lt)
    have HQl : Hid (pre.length ≤ 2048) := by
      have h2 := hpx.length_le
      simp at h2
      show _ ≤ _
      omega
    have v3 : W.cell? ⟨w'.heap.size + 1, 3, none⟩ = some (.slice A4 pre.length c4) := hbv.cell 3
    have hix : ((pre.length : Nat) : Int) < (pre.length : Int) + 1 := by omega
    have nkv : kb ≠ w'.heap.size + 1 := by omega
    have nxv : xb ≠ w'.heap.size + 1 := by omega
    clear hrq hbv hbl hrs hM hpx HLw HBx HM0 HVw
    gi_wp2
    refine region_round (S := (fun wz => wz.cell? ⟨kb, 0, none⟩ = some (.bool x.b) ∧ wz.cell? ⟨kb, 1, none⟩ = some (.int .i64 x.i) ∧ wz.cell? ⟨kb, 2, none⟩ = some (.string x.s) ∧ wz.cell? ⟨xb, 0, none⟩ = some (.int .i64 x.k) ∧ wz.cell? ⟨xb, 1, none⟩ = some (.int .i64 x.n) ∧ wz.cell? ⟨xb, 2, none⟩ = some (.string x.t) ∧ wz.cell? ⟨xb, 3, none⟩ = some (.slice x.A x.l.length x.c))) (by kernel_rfl) (by kernel_rfl) ?_ ?_ (fun hHeld => ?_)
    · rintro ⟨a9, w9, h9, -⟩
      cases h9
    · exact skv HKb.out.drew HXb.out.drew
    refine Held.tk (v := ?v1) Held.op0 (by assumption) ?_
    try simp only [Act.put, Held.sa, Held.sz, Held.ss]
    refine Held.tk (v := ?v2) Held.op2 (by assumption) ?_
    try simp only [Act.put, Held.sa, Held.sz, Held.ss]
    refine Held.tk (v := ?v3) Held.op3 (by assumption) ?_
    try simp only [Act.put, Held.sa, Held.sz, Held.ss]
    refine Held.tk (v := ?v4) Held.op4 (by assumption) ?_
    try simp only [Act.put, Held.sa, Held.sz, Held.ss]
    refine wpAnyH_ready (rs := [1, 6]) (by kernel_rfl) (by simp) ?_
    refine AllReadyH.cons Held.op1 (fun K hK => ?_) (AllReadyH.cons Held.op6 (fun K hK => ?_) AllReadyH.nil)
    · go_simp
      refine hK.out _ _ ?_ (fun hHeld => ?_)
      · exact skv HKb.out.drew HXb.out.drew
      clear hK K
      try simp only [Act.put, Held.sa, Held.sz, Held.ss]
      refine Held.tk (v := ?v5) Held.op5 (by assumption) ?_
      try simp only [Act.put, Held.sa, Held.sz, Held.ss]
      refine wpAnyH_ready (rs := [6]) (by kernel_rfl) (by simp) ?_
      refine AllReadyH.cons Held.op6 (fun K hK => ?_) AllReadyH.nil
      have HP : Hid (Below W.heap.size W (W.alloc (.cells #[.bool false, .int .i64 0, .string ⟨#[]⟩, .int .i64 0, .int .i64 0, .string ⟨#[]⟩, .slice none 0 0] 34)).drew ∧ Blk (W.alloc (.cells #[.bool false, .int .i64 0, .string ⟨#[]⟩, .int .i64 0, .int .i64 0, .string ⟨#[]⟩, .slice none 0 0] 34)).drew W.heap.size 34 #[.bool false, .int .i64 0, .string ⟨#[]⟩, .int .i64 0, .int .i64 0, .string ⟨#[]⟩, .slice none 0 0]) := ⟨drewU ((Below.refl W.heap.size W).alloc (Nat.le_refl _) _) 1, Blk.drew (Blk.new W _ _)⟩
      have HKbp : Hid (Blk (W.alloc (.cells #[.bool false, .int .i64 0, .string ⟨#[]⟩, .int .i64 0, .int .i64 0, .string ⟨#[]⟩, .slice none 0 0] 34)).drew kb 32 #[.bool x.b, .int .i64 x.i, .string x.s]) := Lib.hid (HKb.out.alloc (.cells #[.bool false, .int .i64 0, .string ⟨#[]⟩, .int .i64 0, .int .i64 0, .string ⟨#[]⟩, .slice none 0 0] 34)).drew
      have HXbp : Hid (Blk (W.alloc (.cells #[.bool false, .int .i64 0, .string ⟨#[]⟩, .int .i64 0, .int .i64 0, .string ⟨#[]⟩, .slice none 0 0] 34)).drew xb 24 #[.int .i64 x.k, .int .i64 x.n, .string x.t, .slice x.A x.l.length x.c]) := Lib.hid (HXb.out.alloc (.cells #[.bool false, .int .i64 0, .string ⟨#[]⟩, .int .i64 0, .int .i64 0, .string ⟨#[]⟩, .slice none 0 0] 34)).drew
      have v3p : (W.alloc (.cells #[.bool false, .int .i64 0, .string ⟨#[]⟩, .int .i64 0, .int .i64 0, .string ⟨#[]⟩, .slice none 0 0] 34)).drew.cell? ⟨w'.heap.size + 1, 3, none⟩ = some (.slice A4 pre.length c4) := (HBv.out.alloc _).drew.cell 3
      go_simp
      generalize (W.alloc (.cells #[.bool false, .int .i64 0, .string ⟨#[]⟩, .int .i64 0, .int .i64 0, .string ⟨#[]⟩, .slice none 0 0] 34)).drew = Wp at *
      refine hK.out _ _ ?_ (fun hHeld => ?_)
      · exact skv HKbp.out HXbp.out
      clear hK K
      try simp only [Act.put, Held.sa, Held.sz, Held.ss]
      refine wpAnyH_ready (rs := [7]) (by kernel_rfl) (by simp) ?_
      refine AllReadyH.cons Held.op7 (fun K hK => ?_) AllReadyH.nil
      refine step_app_item rfl (.tmp 15) (.tmp 20) rfl (w'.heap.size + 1 + 1) (.slice A4 pre.length c4) pre rfl (own_below HRq.out HP.out.1) ?_ (some ⟨W.heap.size, 0, none⟩) 1 1 [zeroPI] rfl (reads_one (p := zeroPI) HP.out.2) ?_ ?_
      · exact Nat.le_trans HvW.out HP.out.1.size
      · have := HQl.out; omega
      intro v7 w7 hown7 hg7 hor7
      obtain ⟨g7, cap7, rfl, hg7a, hg7b⟩ := hown7.form (Nat.succ_pos _)
      have HO7 := Lib.hid (show w7.ownsRow (w'.heap.size + 1 + 1) 34 7 (.slice (some ⟨g7, 0, none⟩) (pre.length + 1) cap7) (pre.length + 1) (rowC pre ++ rowC [zeroPI]) from hown7)
      have HE7 := Lib.hid (td_end (x := x) HRq.out HBv.out HBl.out HRs.out (Nat.lt_succ_self _) HP.out.1 HO7.out rfl hg7)
      have HBv7 := Lib.hid ((blk_below HBv.out HP.out.1).grown hg7 (fun e => by have := (HRq.out.lt _ e.symm).1; omega))
      have HKb7 := Lib.hid (HKbp.out.grown hg7 (row_ne (own_below HRq.out HP.out.1) HKbp.out (by decide)))
      have HXb7 := Lib.hid (HXbp.out.grown hg7 (row_ne (own_below HRq.out HP.out.1) HXbp.out (by decide)))
      have z := seven_row HO7.out
      obtain ⟨⟨z0, z1, z2, z3, z4, z5, z6⟩, y0, y1, y2, y3, y4, y5, y6⟩ := z
      have x2 : w7.cell? ⟨w'.heap.size + 1, 3, none⟩ = some (.slice A4 pre.length c4) := HBv7.out.cell 3
      have xf2 := HBv7.out.frozen 3
      have n1 : w'.heap.size + 1 ≠ g7 := by omega
      have n2 : g7 ≠ w'.heap.size + 1 := Ne.symm n1
      have n3 : kb ≠ g7 := fun e => row_ne HO7.out HKb7.out (by decide) (by rw [e]; rfl)
      have n4 : xb ≠ g7 := fun e => row_ne HO7.out HXb7.out (by decide) (by rw [e]; rfl)
      clear hown7 hg7 hor7
      refine hK.out _ _ ?_ (fun hHeld => ?_)
      · exact skv HKb7.out HXb7.out
      clear hK K
      try simp only [Act.put, Held.sa, Held.sz, Held.ss]
      refine Held.tk (v := ?v6) Held.op8 (by assumption) ?_
      try simp only [Act.put, Held.sa, Held.sz, Held.ss]
      refine Held.tk (v := ?v7) Held.op10 (by assumption) ?_
      try simp only [Act.put, Held.sa, Held.sz, Held.ss]
      refine wpAnyH_ready (rs := [9, 11]) (by kernel_rfl) (by simp) ?_
      refine AllReadyH.cons Held.op9 (fun K hK => ?_) (AllReadyH.cons Held.op11 (fun K hK => ?_) AllReadyH.nil)
      · go_simp
        refine hK.out _ _ ?_ (fun hHeld => ?_)
        · exact skv (HKb7.out.keeps (fill_keeps _ g7 (pre.length * 7) x) n3) (HXb7.out.keeps (fill_keeps _ g7 (pre.length * 7) x) n4)
        clear hK K
        try simp only [Act.put, Held.sa, Held.sz, Held.ss]
        refine wpAnyH_ready (rs := [11]) (by kernel_rfl) (by simp) ?_
        refine AllReadyH.cons Held.op11 (fun K hK => ?_) AllReadyH.nil
        go_simp
        refine hK.out _ _ ?_ (fun hHeld => ?_)
        · exact skv ((HKb7.out.keeps (fill_keeps _ g7 (pre.length * 7) x) n3).far nkv _) ((HXb7.out.keeps (fill_keeps _ g7 (pre.length * 7) x) n4).far nxv _)
        clear hK K
        try simp only [Act.put, Held.sa, Held.sz, Held.ss]
        refine wpAnyH_done (by kernel_rfl) ?_ _
        exact ⟨rfl, HE7.out.1⟩
      · go_simp
        refine hK.out _ _ ?_ (fun hHeld => ?_)
        · exact skv (HKb7.out.far nkv _) (HXb7.out.far nxv _)
        clear hK K
        try simp only [Act.put, Held.sa, Held.sz, Held.ss]
        refine wpAnyH_ready (rs := [9]) (by kernel_rfl) (by simp) ?_
        refine AllReadyH.cons Held.op9 (fun K hK => ?_) AllReadyH.nil
        go_simp
        refine hK.out _ _ ?_ (fun hHeld => ?_)
        · exact skv ((HKb7.out.far nkv _).keeps (fill_keeps _ g7 (pre.length * 7) x) n3) ((HXb7.out.far nxv _).keeps (fill_keeps _ g7 (pre.length * 7) x) n4)
        clear hK K
        try simp only [Act.put, Held.sa, Held.sz, Held.ss]
        refine wpAnyH_done (by kernel_rfl) ?_ _
        exact ⟨rfl, HE7.out.2⟩
    · have HP : Hid (Below W.heap.size W (W.alloc (.cells #[.bool false, .int .i64 0, .string ⟨#[]⟩, .int .i64 0, .int .i64 0, .string ⟨#[]⟩, .slice none 0 0] 34)).drew ∧ Blk (W.alloc (.cells #[.bool false, .int .i64 0, .string ⟨#[]⟩, .int .i64 0, .int .i64 0, .string ⟨#[]⟩, .slice none 0 0] 34)).drew W.heap.size 34 #[.bool false, .int .i64 0, .string ⟨#[]⟩, .int .i64 0, .int .i64 0, .string ⟨#[]⟩, .slice none 0 0]) := ⟨drewU ((Below.refl W.heap.size W).alloc (Nat.le_refl _) _) 1, Blk.drew (Blk.new W _ _)⟩
      have HKbp : Hid (Blk (W.alloc (.cells #[.bool false, .int .i64 0, .string ⟨#[]⟩, .int .i64 0, .int .i64 0, .string ⟨#[]⟩, .slice none 0 0] 34)).drew kb 32 #[.bool x.b, .int .i64 x.i, .string x.s]) := Lib.hid (HKb.out.alloc (.cells #[.bool false, .int .i64 0, .string ⟨#[]⟩, .int .i64 0, .int .i64 0, .string ⟨#[]⟩, .slice none 0 0] 34)).drew
      have HXbp : Hid (Blk (W.alloc (.cells #[.bool false, .int .i64 0, .string ⟨#[]⟩, .int .i64 0, .int .i64 0, .string ⟨#[]⟩, .slice none 0 0] 34)).drew xb 24 #[.int .i64 x.k, .int .i64 x.n, .string x.t, .slice x.A x.l.length x.c]) := Lib.hid (HXb.out.alloc (.cells #[.bool false, .int .i64 0, .string ⟨#[]⟩, .int .i64 0, .int .i64 0, .string ⟨#[]⟩, .slice none 0 0] 34)).drew
      have v3p : (W.alloc (.cells #[.bool false, .int .i64 0, .string ⟨#[]⟩, .int .i64 0, .int .i64 0, .string ⟨#[]⟩, .slice none 0 0] 34)).drew.cell? ⟨w'.heap.size + 1, 3, none⟩ = some (.slice A4 pre.length c4) := (HBv.out.alloc _).drew.cell 3
      go_simp
      generalize (W.alloc (.cells #[.bool false, .int .i64 0, .string ⟨#[]⟩, .int .i64 0, .int .i64 0, .string ⟨#[]⟩, .slice none 0 0] 34)).drew = Wp at *
      refine hK.out _ _ ?_ (fun hHeld => ?_)
      · exact skv HKbp.out HXbp.out
      clear hK K
      try simp only [Act.put, Held.sa, Held.sz, Held.ss]
      refine wpAnyH_ready (rs := [1]) (by kernel_rfl) (by simp) ?_
      refine AllReadyH.cons Held.op1 (fun K hK => ?_) AllReadyH.nil
      go_simp
      refine hK.out _ _ ?_ (fun hHeld => ?_)
      · exact skv HKbp.out HXbp.out
      clear hK K
      try simp only [Act.put, Held.sa, Held.sz, Held.ss]
      refine Held.tk (v := ?v8) Held.op5 (by assumption) ?_
      try simp only [Act.put, Held.sa, Held.sz, Held.ss]
      refine wpAnyH_ready (rs := [7]) (by kernel_rfl) (by simp) ?_
      refine AllReadyH.cons Held.op7 (fun K hK => ?_) AllReadyH.nil
      refine step_app_item rfl (.tmp 15) (.tmp 20) rfl (w'.heap.size + 1 + 1) (.slice A4 pre.length c4) pre rfl (own_below HRq.out HP.out.1) ?_ (some ⟨W.heap.size, 0, none⟩) 1 1 [zeroPI] rfl (reads_one (p := zeroPI) HP.out.2) ?_ ?_
      · exact Nat.le_trans HvW.out HP.out.1.size
      · have := HQl.out; omega
      intro v7 w7 hown7 hg7 hor7
      obtain ⟨g7, cap7, rfl, hg7a, hg7b⟩ := hown7.form (Nat.succ_pos _)
      have HO7 := Lib.hid (show w7.ownsRow (w'.heap.size + 1 + 1) 34 7 (.slice (some ⟨g7, 0, none⟩) (pre.length + 1) cap7) (pre.length + 1) (rowC pre ++ rowC [zeroPI]) from hown7)
      have HE7 := Lib.hid (td_end (x := x) HRq.out HBv.out HBl.out HRs.out (Nat.lt_succ_self _) HP.out.1 HO7.out rfl hg7)
      have HBv7 := Lib.hid ((blk_below HBv.out HP.out.1).grown hg7 (fun e => by have := (HRq.out.lt _ e.symm).1; omega))
      have HKb7 := Lib.hid (HKbp.out.grown hg7 (row_ne (own_below HRq.out HP.out.1) HKbp.out (by decide)))
      have HXb7 := Lib.hid (HXbp.out.grown hg7 (row_ne (own_below HRq.out HP.out.1) HXbp.out (by decide)))
      have z := seven_row HO7.out
      obtain ⟨⟨z0, z1, z2, z3, z4, z5, z6⟩, y0, y1, y2, y3, y4, y5, y6⟩ := z
      have x2 : w7.cell? ⟨w'.heap.size + 1, 3, none⟩ = some (.slice A4 pre.length c4) := HBv7.out.cell 3
      have xf2 := HBv7.out.frozen 3
      have n1 : w'.heap.size + 1 ≠ g7 := by omega
      have n2 : g7 ≠ w'.heap.size + 1 := Ne.symm n1
      have n3 : kb ≠ g7 := fun e => row_ne HO7.out HKb7.out (by decide) (by rw [e]; rfl)
      have n4 : xb ≠ g7 := fun e => row_ne HO7.out HXb7.out (by decide) (by rw [e]; rfl)
      clear hown7 hg7 hor7
      refine hK.out _ _ ?_ (fun hHeld => ?_)
      · exact skv HKb7.out HXb7.out
      clear hK K
      try simp only [Act.put, Held.sa, Held.sz, Held.ss]
      refine Held.tk (v := ?v9) Held.op8 (by assumption) ?_
      try simp only [Act.put, Held.sa, Held.sz, Held.ss]
      refine Held.tk (v := ?v10) Held.op10 (by assumption) ?_
      try simp only [Act.put, Held.sa, Held.sz, Held.ss]
      refine wpAnyH_ready (rs := [9, 11]) (by kernel_rfl) (by simp) ?_
      refine AllReadyH.cons Held.op9 (fun K hK => ?_) (AllReadyH.cons Held.op11 (fun K hK => ?_) AllReadyH.nil)
      · go_simp
        refine hK.out _ _ ?_ (fun hHeld => ?_)
        · exact skv (HKb7.out.keeps (fill_keeps _ g7 (pre.length * 7) x) n3) (HXb7.out.keeps (fill_keeps _ g7 (pre.length * 7) x) n4)
        clear hK K
        try simp only [Act.put, Held.sa, Held.sz, Held.ss]
        refine wpAnyH_ready (rs := [11]) (by kernel_rfl) (by simp) ?_
        refine AllReadyH.cons Held.op11 (fun K hK => ?_) AllReadyH.nil
        go_simp
        refine hK.out _ _ ?_ (fun hHeld => ?_)
        · exact skv ((HKb7.out.keeps (fill_keeps _ g7 (pre.length * 7) x) n3).far nkv _) ((HXb7.out.keeps (fill_keeps _ g7 (pre.length * 7) x) n4).far nxv _)
        clear hK K
        try simp only [Act.put, Held.sa, Held.sz, Held.ss]
        refine wpAnyH_done (by kernel_rfl) ?_ _
        exact ⟨rfl, HE7.out.1⟩
      · go_simp
        refine hK.out _ _ ?_ (fun hHeld => ?_)
        · exact skv (HKb7.out.far nkv _) (HXb7.out.far nxv _)
        clear hK K
        try simp only [Act.put, Held.sa, Held.sz, Held.ss]
        refine wpAnyH_ready (rs := [9]) (by kernel_rfl) (by simp) ?_
        refine AllReadyH.cons Held.op9 (fun K hK => ?_) AllReadyH.nil
        go_simp
        refine hK.out _ _ ?_ (fun hHeld => ?_)
        · exact skv ((HKb7.out.far nkv _).keeps (fill_keeps _ g7 (pre.length * 7) x) n3) ((HXb7.out.far nxv _).keeps (fill_keeps _ g7 (pre.length * 7) x) n4)
        clear hK K
        try simp only [Act.put, Held.sa, Held.sz, Held.ss]
        refine wpAnyH_done (by kernel_rfl) ?_ _
        exact ⟨rfl, HE7.out.2⟩
  case done =>
    intro D W hD hM hK
    have hDl := (Array.getElem?_eq_some_iff.1 hK).1
    have hVs := HBx.out.lt
    obtain ⟨⟨sv2, hrq, hbv⟩, hbl, hrs⟩ := hM.out
    obtain ⟨A4, c4, rfl⟩ : ∃ A c, sv2 = .slice A ps.length c := by
      rcases hrq.2 with ⟨e, h0⟩ | ⟨g, cap, cur, e, _⟩
      · exact ⟨none, 0, by rw [e, h0]⟩
      · exact ⟨_, _, e⟩
    have y0 : W.cell? ⟨w'.heap.size + 1, 0, none⟩ = some (.int .i64 4) := hbv.cell 0
    have y1 : W.cell? ⟨w'.heap.size + 1, 1, none⟩ = some (.int .i64 nx) := hbv.cell 1
    have y2 : W.cell? ⟨w'.heap.size + 1, 2, none⟩ = some (.string ⟨#[]⟩) := hbv.cell 2
    have y3 : W.cell? ⟨w'.heap.size + 1, 3, none⟩ = some (.slice A4 ps.length c4) := hbv.cell 3
    have z0 : W.cell? ⟨w'.heap.size, 0, none⟩ = some (.int .i64 0) := hrs.cell 0
    have z1 : W.cell? ⟨w'.heap.size, 1, none⟩ = some (.int .i64 0) := hrs.cell 1
    have z2 : W.cell? ⟨w'.heap.size, 2, none⟩ = some (.string ⟨#[]⟩) := hrs.cell 2
    have z3 : W.cell? ⟨w'.heap.size, 3, none⟩ = some (.slice none 0 0) := hrs.cell 3
    have zf0 := hrs.frozen 0
    have zf1 := hrs.frozen 1
    have zf2 := hrs.frozen 2
    have zf3 := hrs.frozen 3
    have HRq := Lib.hid hrq
    have HBl := Lib.hid hbl
    have HS4 := Lib.hid (store4 hrs (.int .i64 4) (.int .i64 nx) (.string ⟨#[]⟩) (.slice A4 ps.length c4))
    have HK := Lib.hid hK
    clear hrq hbv hbl hrs hM hK HLw HBx HM0 HVw
    gi_wp2
    have hDf := (HS4.out.2.block D hDl (by omega)).trans HK.out
    have hRf := own_keeps HRq.out HS4.out.2 (fun e => by have := (HRq.out.lt _ e.symm).1; omega)
    have hBf : Keeps (fun j => j = b) w' ((((W.setCell ⟨w'.heap.size, 0, none⟩ (.int .i64 4)).setCell ⟨w'.heap.size, 1, none⟩ (.int .i64 nx)).setCell ⟨w'.heap.size, 2, none⟩ (.string ⟨#[]⟩)).setCell ⟨w'.heap.size, 3, none⟩ (.slice A4 ps.length c4)) :=
      ⟨HS4.out.2.os.trans HBl.out.os, HS4.out.2.tape.trans HBl.out.tape, HS4.out.2.output.trans HBl.out.output, Nat.le_trans HBl.out.size HS4.out.2.size, fun i hi hn => (HS4.out.2.block i (Nat.lt_of_lt_of_le hi HBl.out.size) (by omega)).trans (HBl.out.block i hi hn)⟩
    generalize (((W.setCell ⟨w'.heap.size, 0, none⟩ (.int .i64 4)).setCell ⟨w'.heap.size, 1, none⟩ (.int .i64 nx)).setCell ⟨w'.heap.size, 2, none⟩ (.string ⟨#[]⟩)).setCell ⟨w'.heap.size, 3, none⟩ (.slice A4 ps.length c4) = wf at *
    have e0 : (wf.putObj D (.deferred none)).cell? ⟨w'.heap.size, 0, none⟩ = some (.int .i64 4) := (cell_put hDf rfl rfl _).trans (HS4.out.1.cell 0)
    have e1 : (wf.putObj D (.deferred none)).cell? ⟨w'.heap.size, 1, none⟩ = some (.int .i64 nx) := (cell_put hDf rfl rfl _).trans (HS4.out.1.cell 1)
    have e2 : (wf.putObj D (.deferred none)).cell? ⟨w'.heap.size, 2, none⟩ = some (.string ⟨#[]⟩) := (cell_put hDf rfl rfl _).trans (HS4.out.1.cell 2)
    have e3 : (wf.putObj D (.deferred none)).cell? ⟨w'.heap.size, 3, none⟩ = some (.slice A4 ps.length c4) := (cell_put hDf rfl rfl _).trans (HS4.out.1.cell 3)
    have hgp := grownBy_putObj' wf D (.deferred none)
    refine ⟨by simp, .inl ⟨_, _, rfl, run_takeDeferred hDf, ?_⟩⟩
    refine ⟨.tuple #[.agg #[.int .i64 4, .int .i64 nx, .string ⟨#[]⟩, .slice A4 ps.length c4], .int .i64 0], by simp [results, Tryz.results92, go_sem, e0, e1, e2, e3], .slice A4 ps.length c4, rfl, ?_, ?_⟩
    · have := ownsRow_putObj hRf (.deferred none) hDf rfl
      exact own_le2 this (by omega)
    · exact ⟨hgp.os.trans hBf.os, hgp.tape.trans hBf.tape, hgp.output.trans hBf.output, Nat.le_trans hBf.size hgp.size, fun i hi hn => (World.putObj_heap_other (by omega)).trans (hBf.block i hi hn)⟩
end
end Dp
end Go.Proofs.YtopmodahdmnpjaaGreatDoor
