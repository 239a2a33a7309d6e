/- ostlerref09.Enc: the walk. -/
import Derived.Test.YthdnflklhhfojaaGreatDoorUrC
import Derived.Test.YthdnflklhhfojaaGreatDoorApps
import Derived.Test.YthdnflklhhfojaaGreatDoorHeld
import Derived.Laws.IdiomStrings
namespace Go.Proofs.YthdnflklhhfojaaGreatDoor
open Go Go.RowKit
namespace Url
abbrev RowB (B : Nat) (v : Value) (l : List UInt8) (w : World) : Prop := w.ownsRow B 5 1 v l.length (Lib.byteCells l)
set_option maxRecDepth 100000 in
theorem row_back {B : Nat} {v : Value} {l : List UInt8} {w : World} (h : RowB B v l w) : (convert 43 9 v).run Tryz.prog w = .ok (.string ⟨l.toArray⟩) w := by
  rcases h.2 with ⟨rfl, h0⟩ | ⟨g, cap, cur, rfl, _⟩
  · obtain rfl := List.eq_nil_of_length_eq_zero h0
    simp [convert, go_sem, Tryz.underlying43, Tryz.underlying5, Tryz.underlying9]
    rfl
  · refine run_convert_bytes_back w _ _ 5 ⟨g, 0, none⟩ cap l Tryz.underlying43 Tryz.underlying5 Tryz.underlying9 fun j hj => ?_
    exact h.cells (g := g) rfl j _ (by simp [Lib.byteCells, List.getElem?_map, List.getElem?_eq_getElem hj])
theorem row_slice {B : Nat} {v : Value} {l : List UInt8} {w : World} (h : RowB B v l w) : ∃ A c, v = .slice A l.length c := by
  rcases h.2 with ⟨rfl, h0⟩ | ⟨g, cap, cur, rfl, _⟩
  · exact ⟨none, 0, by rw [h0]⟩
  · exact ⟨_, _, rfl⟩
theorem u8_info : (Tryz.prog.info? 5).map (fun i => (i.zero, i.size, i.bytes)) = some (some (.int .u8 0), 1, 1) := by kernel_rfl
/-- wp_append_own as a step of a region that draws. -/
theorem step_append_own {P : Program} {w : World} {ops : Array Oper} {o : Oper} {a : Act} {K : Act → World → Prop} {Q : Exit → Act → World → Prop} {E : Prop} (hgd : o.guard = none) (s x : Operand) (t : TypeId)
    (ho : o.op = .call { callee := .builtin .append, args := #[s, x], argTypes := #[t, t] })
    (base : Nat) (e : TypeId) (i : TypeInfo) (z : Value) (size bytes : Nat) (ht : P.underlying t = some (.slice e)) (hi : P.info? e = some i) (hz : i.zero = some z)
    (hsize : i.size = size) (hby : i.bytes = bytes) (hzs : z.cells.size = size) (hsz : 0 < size)
    (v : Value) (n : Nat) (xs : List Value) (hs : a.eval s = v) (hown : w.ownsRow base e size v n xs)
    (ad : Addr) (m c : Nat) (news : List Value) (hx : a.eval x = .slice (some ad) m c) (hl : news.length = m * size) (hnews : ∀ j u, news[j]? = some u → w.cell? (ad.add j) = some u) (h1 : ∀ u ∈ news, u.oneCell' = true)
    (h63 : n + m ≤ maxLen) (hbytes : (n + m) * bytes ≤ 140737488355328) (hbase : base ≤ w.heap.size)
    (h : ∀ v' w', w'.ownsRow base e size v' (n + m) (xs ++ news) → w.grownBy w' v.ownBlock → (v' = .slice none 0 0 ↔ v = .slice none 0 0 ∧ m = 0) → K (a.put o.dst v') w') :
    if Region.wanted o (yielded ops a.tmps) = true then Oper.wp P o a w K Q else E := by
  rw [if_pos (by simp [Region.wanted, hgd])]
  exact wp_append_own w s x t ho base e i z size bytes ht hi hz hsize hby hzs hsz v n xs hs hown ad m c news hx hl hnews h1 h63 hbytes hbase h
set_option maxRecDepth 100000 in
set_option maxHeartbeats 1000000 in
theorem renc_any (s : ByteArray) (hs : s.size ≤ 1048576) (w : World) : Calls Tryz.prog 11 #[.string s] w fun e w' => e = .returned (.string ⟨(encL s.data.toList).toArray⟩) ∧ Below w.heap.size w w' := by
  obtain ⟨i0, hi0, hz0, hz1, hz2⟩ := info_parts u8_info
  have HU := Lib.hid (And.intro hi0 (And.intro hz0 (And.intro hz1 hz2)))
  clear hi0 hz0 hz1 hz2
  have HP := Lib.hid (fun c w => rplain_any c w)
  have HDg := Lib.hid (fun n h w => rdigit_any n h w)
  go_enter Tryz.func11, Tryz.ntmps11
  go_wp2_with fail
  go_loopw [3, 4] (fun xv xi wx => ∃ (j : Nat) (v : Value), j ≤ s.size ∧ xi = .int .i64 j ∧ xv = v ∧ Hid (RowB w.heap.size v (encL (s.data.toList.take j)) wx) ∧ Hid (Below w.heap.size w wx)) (fun _ xi _ => s.size - (match xi with | .int _ q => q | _ => 0).toNat)
  case atStart => exact ⟨0, _, Nat.zero_le _, rfl, rfl, World.ownsRow_nil _ _ _ _, Below.refl _ _⟩
  case round =>
    obtain ⟨j, xv, hj, rfl, hxv, HI, HB⟩ := hrel
    have hxv := hxv.symm
    subst hxv
    by_cases hlt : j < s.size
    · have hlt' : (j : Int) < (s.size : Int) := by omega
      have hc := s[j].toNat_lt
      have hcl : (Lib.byteCells (encL (s.data.toList.take j))).length + 3 ≤ 140737488355328 := by
        rw [Lib.byteCells_length]
        have h1 := encL_len (s.data.toList.take j)
        have h2 : (s.data.toList.take j).length ≤ j := by rw [List.length_take]; exact Nat.min_le_left _ _
        omega
      have HC3 := Lib.hid hcl
      have HE := Lib.hid (encL_take s j hlt)
      have HPc := Lib.hid (fun w => HP.out s[j] w)
      have hx0 : (0 : Int) ≤ (s[j].toNat : Int) := by omega
      have hx1 : (s[j].toNat : Int) < 256 := by omega
      clear hcl
      obtain ⟨x, hxx⟩ : ∃ x : Int, (s[j].toNat : Int) = x := ⟨_, rfl⟩
      rw [hxx] at HPc hx0 hx1
      by_cases hp : plain s[j] = true
      · have HN : Hid (∀ w1 v, w1.ownsRow w.heap.size 5 1 v ((encL (s.data.toList.take j)).length + 1) (Lib.byteCells (encL (s.data.toList.take j)) ++ [.int .u8 x]) → RowB w.heap.size v (encL (s.data.toList.take (j + 1))) w1) := by
          intro w1 v h
          unfold RowB
          rw [HE.out, encC_plain (by rw [← plain_eq]; exact hp), Lib.byteCells_append, List.length_append]
          rw [← hxx] at h
          exact h
        rw [hp] at HPc
        clear HE hp
        go_wp2_with (first | (go_at_call 30; refine (HPc.out _).mono ?_; rintro e w1 ⟨rfl, rfl⟩) | (at_builtin; refine wpList_append_own _ rfl _ _ 43 rfl w.heap.size 5 i0 (.int .u8 0) 1 1 Tryz.underlying43 HU.out.1 HU.out.2.1 HU.out.2.2.1 HU.out.2.2.2 rfl (by decide) _ _ _ rfl (HI.out.alloc _) ⟨wr.heap.size, 0, none⟩ 1 1 [.int .u8 x] rfl rfl (World.news_of_block (cs := ([.int .u8 x]).toArray) (t := 5) (fr := (0, 0)) (heap_alloc_new wr _)) (by simp [Value.oneCell']) (by have := HC3.out; rw [Lib.byteCells_length] at this; unfold maxLen; omega) (by have := HC3.out; rw [Lib.byteCells_length] at this; omega) (by have := HB.out.size; simp; omega) ?_; intro v' w2 hown hgr _))
        have HN2 := Lib.hid (HN.out _ _ hown)
        have HB2 := Lib.hid ((HB.out.alloc HB.out.size (.cells #[.int .u8 x] 5)).grown hgr (by have := HB.out.size; simp; omega) (fun k hk => (HI.out.lt k hk).1))
        clear hown hgr
        go_wp2_with fail
        go_roundw
        case rel => exact ⟨j + 1, _, by omega, by go_num, rfl, HN2, HB2⟩
        case measure => simp <;> omega
      · have hp0 : plain s[j] = false := by simpa using hp
        rw [hp0] at HPc
        by_cases h32 : s[j].toNat = 32
        · have HN : Hid (∀ w1 v, w1.ownsRow w.heap.size 5 1 v ((encL (s.data.toList.take j)).length + 1) (Lib.byteCells (encL (s.data.toList.take j)) ++ [.int .u8 43]) → RowB w.heap.size v (encL (s.data.toList.take (j + 1))) w1) := by
            intro w1 v h
            unfold RowB
            rw [HE.out, encC_blank h32, Lib.byteCells_append, List.length_append]
            exact h
          obtain rfl : x = 32 := by omega
          clear HE hp hp0
          go_wp2_with (first | (go_at_call 30; refine (HPc.out _).mono ?_; rintro e w1 ⟨rfl, rfl⟩) | (at_builtin; refine wpList_append_own _ rfl _ _ 43 rfl w.heap.size 5 i0 (.int .u8 0) 1 1 Tryz.underlying43 HU.out.1 HU.out.2.1 HU.out.2.2.1 HU.out.2.2.2 rfl (by decide) _ _ _ rfl (HI.out.alloc _) ⟨wr.heap.size, 0, none⟩ 1 1 [.int .u8 43] rfl rfl (World.news_of_block (cs := ([.int .u8 43]).toArray) (t := 5) (fr := (0, 0)) (heap_alloc_new wr _)) (by simp [Value.oneCell']) (by have := HC3.out; rw [Lib.byteCells_length] at this; unfold maxLen; omega) (by have := HC3.out; rw [Lib.byteCells_length] at this; omega) (by have := HB.out.size; simp; omega) ?_; intro v' w2 hown hgr _))
          have HN2 := Lib.hid (HN.out _ _ hown)
          have HB2 := Lib.hid ((HB.out.alloc HB.out.size (.cells #[.int .u8 43] 5)).grown hgr (by have := HB.out.size; simp; omega) (fun k hk => (HI.out.lt k hk).1))
          clear hown hgr
          go_wp2_with fail
          go_roundw
          case rel => exact ⟨j + 1, _, by omega, by go_num, rfl, HN2, HB2⟩
          case measure => simp <;> omega
        · have HDH := Lib.hid (fun w => HDg.out (s[j].toNat / 16) (by omega) w)
          have HDL := Lib.hid (fun w => HDg.out (s[j].toNat % 16) (by omega) w)
          obtain ⟨H, hHn, hH, hH16⟩ : ∃ H : Nat, s[j].toNat / 16 = H ∧ x / 16 = (H : Int) ∧ H < 16 := ⟨_, rfl, by omega, by omega⟩
          obtain ⟨L, hLn, hL, hL16⟩ : ∃ L : Nat, s[j].toNat % 16 = L ∧ x % 16 = (L : Int) ∧ L < 16 := ⟨_, rfl, by omega, by omega⟩
          have HN : Hid (∀ w1 v, w1.ownsRow w.heap.size 5 1 v ((encL (s.data.toList.take j)).length + 3) (Lib.byteCells (encL (s.data.toList.take j)) ++ [.int .u8 37, .int .u8 ((digit H).toNat : Int), .int .u8 ((digit L).toNat : Int)]) → RowB w.heap.size v (encL (s.data.toList.take (j + 1))) w1) := by
            intro w1 v h
            unfold RowB
            rw [HE.out, encC_other (by rw [← plain_eq]; exact hp0) h32, hHn, hLn, Lib.byteCells_append, List.length_append]
            exact h
          rw [hHn] at HDH
          rw [hLn] at HDL
          have e32 : (x == 32) = false := by simp; omega
          have htd : Int.tdiv x 16 = (H : Int) := by rw [Int.tdiv_eq_ediv_of_nonneg (by omega)]; exact hH
          have htm : Int.tmod x 16 = (L : Int) := by rw [Int.tmod_eq_emod_of_nonneg (by omega)]; exact hL
          have hwx : IntKind.i64.wrap x = x := IntWalk.i64_in _ (by omega)
          have hwH : IntKind.i64.wrap (H : Int) = (H : Int) := IntWalk.i64_in _ (by omega)
          generalize ((digit H).toNat : Int) = dh at *
          generalize ((digit L).toNat : Int) = dl at *
          have HBD := Lib.hid (show Below w.heap.size w wr.drew from ⟨HB.out.os, HB.out.tape, HB.out.output, HB.out.size, HB.out.block⟩)
          have HID := Lib.hid (show RowB w.heap.size xv (encL (s.data.toList.take j)) wr.drew from HI.out)
          clear HE hp hp0 hHn hLn h32 HP HDg
          go_wp2_with (go_at_call 30; refine (HPc.out _).mono ?_; rintro e w1 ⟨rfl, rfl⟩)
          clear HPc
          refine wp_region_held_drew (S := (fun _ => True)) (by kernel_rfl) ?_ (fun hHeld => ?_)
          · exact trivial
          refine wpAnyH_take (i := 0) (v := ?v1) Held.op0 (by kernel_rfl) (by kernel_rfl) (by kernel_rfl) (fun _ _ _ h => h) (Or.inl ⟨by rfl, ?hy1⟩) (by assumption) ?rest1
          case hy1 => (intro wq hSq; (try dsimp only at hSq); first | (go_simp; done) | (go_simp; with_reducible rfl))
          try simp only [Act.put, List.setIfInBounds_toArray, List.set_cons_zero, List.set_cons_succ]
          refine wpAnyH_take (i := 1) (v := ?v2) Held.op1 (by kernel_rfl) (by kernel_rfl) (by kernel_rfl) (fun _ _ _ h => h) (Or.inl ⟨by rfl, ?hy2⟩) (by assumption) ?rest2
          case hy2 => (intro wq hSq; (try dsimp only at hSq); first | (go_simp; done) | (go_simp; with_reducible rfl))
          try simp only [Act.put, List.setIfInBounds_toArray, List.set_cons_zero, List.set_cons_succ]
          refine wpAnyH_take (i := 2) (v := ?v3) Held.op2 (by kernel_rfl) (by kernel_rfl) (by kernel_rfl) (fun _ _ _ h => h) (Or.inl ⟨by rfl, ?hy3⟩) (by assumption) ?rest3
          case hy3 => (intro wq hSq; (try dsimp only at hSq); first | (go_simp; done) | (go_simp; with_reducible rfl))
          try simp only [Act.put, List.setIfInBounds_toArray, List.set_cons_zero, List.set_cons_succ]
          refine wpAnyH_take (i := 3) (v := ?v4) Held.op3 (by kernel_rfl) (by kernel_rfl) (by kernel_rfl) (fun _ _ _ h => h) (Or.inl ⟨by rfl, ?hy4⟩) (by assumption) ?rest4
          case hy4 => (intro wq hSq; (try dsimp only at hSq); first | (go_simp; done) | (go_simp; with_reducible rfl))
          try simp only [Act.put, List.setIfInBounds_toArray, List.set_cons_zero, List.set_cons_succ]
          refine wpAnyH_take (i := 4) (v := ?v5) Held.op4 (by kernel_rfl) (by kernel_rfl) (by kernel_rfl) (fun _ _ _ h => h) (Or.inl ⟨by rfl, ?hy5⟩) (by assumption) ?rest5
          case hy5 => (intro wq hSq; (try dsimp only at hSq); first | (go_simp; done) | (go_simp; with_reducible rfl))
          try simp only [Act.put, List.setIfInBounds_toArray, List.set_cons_zero, List.set_cons_succ]
          refine wpAnyH_take (i := 5) (v := ?v6) Held.op5 (by kernel_rfl) (by kernel_rfl) (by kernel_rfl) (fun _ _ _ h => h) (Or.inl ⟨by rfl, ?hy6⟩) (by assumption) ?rest6
          case hy6 => (intro wq hSq; (try dsimp only at hSq); first | (go_simp; done) | (go_simp; with_reducible rfl))
          try simp only [Act.put, List.setIfInBounds_toArray, List.set_cons_zero, List.set_cons_succ]
          refine wpAnyH_take (i := 7) (v := ?v7) Held.op7 (by kernel_rfl) (by kernel_rfl) (by kernel_rfl) (fun _ _ _ h => h) (Or.inl ⟨by rfl, ?hy7⟩) (by assumption) ?rest7
          case hy7 => (intro wq hSq; (try dsimp only at hSq); first | (go_simp; done) | (go_simp; with_reducible rfl))
          try simp only [Act.put, List.setIfInBounds_toArray, List.set_cons_zero, List.set_cons_succ]
          refine wpAnyH_take (i := 8) (v := ?v8) Held.op8 (by kernel_rfl) (by kernel_rfl) (by kernel_rfl) (fun _ _ _ h => h) (Or.inl ⟨by rfl, ?hy8⟩) (by assumption) ?rest8
          case hy8 => (intro wq hSq; (try dsimp only at hSq); first | (go_simp; done) | (go_simp; with_reducible rfl))
          try simp only [Act.put, List.setIfInBounds_toArray, List.set_cons_zero, List.set_cons_succ]
          refine wpAnyH_take (i := 9) (v := ?v9) Held.op9 (by kernel_rfl) (by kernel_rfl) (by kernel_rfl) (fun _ _ _ h => h) (Or.inl ⟨by rfl, ?hy9⟩) (by assumption) ?rest9
          case hy9 => (intro wq hSq; (try dsimp only at hSq); first | (go_simp; done) | (go_simp; with_reducible rfl))
          try simp only [Act.put, List.setIfInBounds_toArray, List.set_cons_zero, List.set_cons_succ]
          refine wpAnyH_take (i := 10) (v := ?v10) Held.op10 (by kernel_rfl) (by kernel_rfl) (by kernel_rfl) (fun _ _ _ h => h) (Or.inl ⟨by rfl, ?hy10⟩) (by assumption) ?rest10
          case hy10 => (intro wq hSq; (try dsimp only at hSq); first | (go_simp; done) | (go_simp; with_reducible rfl))
          try simp only [Act.put, List.setIfInBounds_toArray, List.set_cons_zero, List.set_cons_succ]
          refine wpAnyH_take (i := 11) (v := ?v11) Held.op11 (by kernel_rfl) (by kernel_rfl) (by kernel_rfl) (fun _ _ _ h => h) (Or.inl ⟨by rfl, ?hy11⟩) (by assumption) ?rest11
          case hy11 => (intro wq hSq; (try dsimp only at hSq); first | (go_simp; done) | (go_simp; with_reducible rfl))
          try simp only [Act.put, List.setIfInBounds_toArray, List.set_cons_zero, List.set_cons_succ]
          refine wpAnyH_ready (rs := [6]) (by kernel_rfl) (by simp) ?_
          refine AllReadyH.cons Held.op6 (fun K hK => ?_) AllReadyH.nil
          go_simp
          go_at_call 31; refine (HDH.out _).mono ?_; rintro e w1 ⟨rfl, rfl⟩
          try (go_wp2_with fail)
          refine hK.out _ _ ?_ (fun hHeld => ?_)
          · exact trivial
          clear hK K
          try simp only [Act.put, List.setIfInBounds_toArray, List.set_cons_zero, List.set_cons_succ]
          refine wpAnyH_ready (rs := [12]) (by kernel_rfl) (by simp) ?_
          refine AllReadyH.cons Held.op12 (fun K hK => ?_) AllReadyH.nil
          go_simp
          go_at_call 31; refine (HDL.out _).mono ?_; rintro e w1 ⟨rfl, rfl⟩
          try (go_wp2_with fail)
          refine hK.out _ _ ?_ (fun hHeld => ?_)
          · exact trivial
          clear hK K
          try simp only [Act.put, List.setIfInBounds_toArray, List.set_cons_zero, List.set_cons_succ]
          refine wpAnyH_ready (rs := [13]) (by kernel_rfl) (by simp) ?_
          refine AllReadyH.cons Held.op13 (fun K hK => ?_) AllReadyH.nil
          go_simp
          refine hK.out _ _ ?_ (fun hHeld => ?_)
          · exact trivial
          clear hK K
          try simp only [Act.put, List.setIfInBounds_toArray, List.set_cons_zero, List.set_cons_succ]
          refine wpAnyH_ready (rs := [14]) (by kernel_rfl) (by simp) ?_
          refine AllReadyH.cons Held.op14 (fun K hK => ?_) AllReadyH.nil
          refine step_append_own rfl _ _ 43 rfl w.heap.size 5 i0 (.int .u8 0) 1 1 Tryz.underlying43 HU.out.1 HU.out.2.1 HU.out.2.2.1 HU.out.2.2.2 rfl (by decide) _ _ _ rfl (HID.out.alloc _) ⟨wr.drew.heap.size, 0, none⟩ 3 3 [.int .u8 37, .int .u8 dh, .int .u8 dl] rfl rfl (World.news_of_block (cs := ([.int .u8 37, .int .u8 dh, .int .u8 dl]).toArray) (t := 5) (fr := (0, 0)) (heap_alloc_new wr.drew _)) (by simp [Value.oneCell']) (by have := HC3.out; rw [Lib.byteCells_length] at this; unfold maxLen; omega) (by have := HC3.out; rw [Lib.byteCells_length] at this; omega) (by have := HB.out.size; simp; omega) ?_; intro v' w2 hown hgr _
          refine hK.out _ _ ?_ (fun hHeld => ?_)
          · exact trivial
          clear hK K
          try simp only [Act.put, List.setIfInBounds_toArray, List.set_cons_zero, List.set_cons_succ]
          refine wpAnyH_take (i := 15) (v := ?v16) Held.op15 (by kernel_rfl) (by kernel_rfl) (by kernel_rfl) (fun _ _ _ h => h) (Or.inl ⟨by rfl, ?hy16⟩) (by assumption) ?rest16
          case hy16 => (intro wq hSq; (try dsimp only at hSq); first | (go_simp; done) | (go_simp; with_reducible rfl))
          try simp only [Act.put, List.setIfInBounds_toArray, List.set_cons_zero, List.set_cons_succ]
          refine wpAnyH_done (by kernel_rfl) ?_ _
          have HN2 := Lib.hid (HN.out _ _ hown)
          have HB2 := Lib.hid ((HBD.out.alloc HBD.out.size (.cells #[.int .u8 37, .int .u8 dh, .int .u8 dl] 5)).grown hgr (by have := HB.out.size; simp; omega) (fun k hk => (HID.out.lt k hk).1))
          clear hown hgr
          go_wp2_with fail
          go_roundw
          case rel => exact ⟨j + 1, _, by omega, by go_num, rfl, HN2, HB2⟩
          case measure => simp <;> omega
    · obtain rfl : j = s.size := by omega
      have hall : s.data.toList.take s.size = s.data.toList := List.take_of_length_le (by simp)
      rw [hall] at HI
      have hconv := row_back HI.out
      obtain ⟨A, c, rfl⟩ := row_slice HI.out
      clear hall HP HDg HU
      go_wp2_with fail
      go_ret
      exact ⟨rfl, HB.out⟩
end Url
end Go.Proofs.YthdnflklhhfojaaGreatDoor
