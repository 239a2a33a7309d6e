/- arrs.Names: the walk. -/
import Derived.Test.YtgnfmcjfoheccaaGreatDoorArM
namespace Go.Proofs.YtgnfmcjfoheccaaGreatDoor
open Go Go.Ev Go.RowKit Go.Sort
open Go.Maps (Keyed)
theorem str_info : (Tryz.prog.info? 9).map (fun i => (i.zero, i.size, i.bytes)) = some (some (.string ⟨#[]⟩), 1, 16) := by kernel_rfl
theorem bytes_total (a b : List UInt8) : (decide (a ≤ b) || decide (b ≤ a)) = true := by
  rcases List.le_total a b with h | h
  · simp [h]
  · simp [h]
theorem sort_is {l : List (List UInt8)} (h : l.Perm (bytesOf sortedN)) : l.mergeSort (fun x y => decide (x ≤ y)) = bytesOf sortedN := by
  refine List.Perm.eq_of_pairwise (le := fun x y => decide (x ≤ y) = true) (fun a b _ _ h1 h2 => List.le_antisymm (of_decide_eq_true h1) (of_decide_eq_true h2)) ?_ sorted_le ((List.mergeSort_perm _ _).trans h)
  exact List.pairwise_mergeSort (le := fun x y : List UInt8 => decide (x ≤ y)) (fun a b c h1 h2 => decide_eq_true (List.le_trans (of_decide_eq_true h1) (of_decide_eq_true h2))) bytes_total l
theorem own_le2 {w : World} {B B' : Nat} {e : TypeId} {size n : Nat} {v : Value} {xs : List Value} (h : w.ownsRow B e size v n xs) (hb : B' ≤ B) : w.ownsRow B' e size v n xs :=
  ⟨h.1, h.2.imp id (fun ⟨g, cap, cur, a, b, c⟩ => ⟨g, cap, cur, a, Nat.le_trans hb b, c⟩)⟩
set_option maxRecDepth 100000 in
set_option maxHeartbeats 4000000 in
theorem names_walk (hS : SortC) {m : Int} (w : World) (hL : LibS m w) : Calls Tryz.prog 12 #[] w fun e w' => ∃ v, e = .returned v ∧ w'.ownsRow w.heap.size 9 1 v 47 ((bytesOf sortedN).map encStr) ∧ Below w.heap.size w w' := by
  have HF := Lib.hid (fn_map w hL)
  have HSo := Lib.hid hS
  obtain ⟨i0, hi0, hz0, hz1, hz2⟩ := info_parts str_info
  have HI := Lib.hid (And.intro hi0 (And.intro hz0 (And.intro hz1 hz2))); clear hi0 hz0 hz1 hz2
  go_enter Tryz.func12, Tryz.ntmps12
  go_wp2_with fail
  refine HF.out.mono ?_
  rintro e w1 ⟨b, rfl, hfm, hb1⟩
  obtain ⟨D, hown, hD, hsz⟩ := fn_owns hfm
  have Hown := Lib.hid hown
  have HD := Lib.hid hD
  have HB1 := Lib.hid hb1
  have hbl := hown.lt
  clear hown hD hfm hb1 HF
  go_wp2_with (at_range; refine wpList_range_own _ rfl _ 48 rfl 9 46 keyed Tryz.underlying48 unitR b 47 D rfl Hown.out ?_; intro w0 hrg0 hg0 hs0)
  go_frame
  go_loopw [1] (fun v wr => ∃ (left : Lit → Bool) (cnt : Nat) (l : List (List UInt8)), Hid (NInv D b w1 wr left cnt v l)) (fun _ wr => wr.rangeLeft b w1.heap.size)
  case atStart =>
    refine ⟨_, _, [], hrg0, World.ownsRow_nil _ _ _ _, (Below.refl _ _).grown hg0 (Nat.le_refl _) (fun k hk => (by cases hk)), hbl, by omega, by simp [hsz], fun p h => h, fun p => ⟨(fun h => (by cases h)), (fun ⟨h1, h2⟩ => (by rw [h1] at h2; cases h2))⟩, List.nodup_nil⟩
  case round =>
    clear hrg0 hg0 hs0
    obtain ⟨left, cnt, l, H⟩ := hrel
    have Hrg := Lib.hid H.out.rg
    have hlen := H.out.len
    have hbig := H.out.big
    go_wp2_with (at_next; refine wpList_next_ranges _ rfl _ rfl 9 keyed unitR (α := ByteArray) (β := Value) Value.string id ?_ ?_ b w1.heap.size 47 D left cnt rfl Hrg.out ?_ ?_)
    · intro kv kl h
      obtain ⟨s, rfl, _, _⟩ := Go.WideMaps.string_of_keyOf Tryz.underlying9 h
      exact ⟨s, rfl⟩
    · intro v y h
      exact ⟨v, rfl⟩
    · intro h0 hl0
      have HP := Lib.hid (H.out.perm hl0 HD.out)
      have hln : l.length = 47 := HP.out.length_eq.trans sorted_len
      have HO := Lib.hid H.out.owns
      have HBl := Lib.hid H.out.bel
      clear hl0 H Hrg
      obtain ⟨g, c, rfl, hg, hgl⟩ := HO.out.form (by omega)
      obtain ⟨_, ⟨hx, _⟩ | ⟨g', cap', cur, hv, hg', hbk, hc1, hc2, hc3, hc4⟩⟩ := HO.out
      · cases hx
      cases hv
      have HH := Lib.hid (HSo.out g 0 c l wr (holds_of_block hbk (by simpa using hc4)) hgl (by omega))
      have hms : l.mergeSort (fun x y => decide (x ≤ y)) = bytesOf sortedN := sort_is HP.out
      rw [hms, hln] at HH
      rw [hln]
      go_wp2_with fail
      refine HH.out.mono ?_
      rintro e w2 ⟨rfl, nn, os, rfl⟩
      have hl2 : (bytesOf sortedN).length = l.length := sorted_len.trans hln.symm
      have HR := Lib.hid (ownsRow_sorted (n := nn) (os := os) hl2 hg' hbk hc1 hc2 hc3)
      have HBz := Lib.hid (HBl.out.grown (grownBy_sorted (n := nn) (os := os) (bytesOf sortedN).toArray) HBl.out.size (fun k hk => by have : g = k := Option.some.inj hk; omega))
      rw [hln] at HR
      generalize grow (putRow encStr (Sort.ahead wr nn) g 0 (bytesOf sortedN).toArray) os = w5 at *
      go_wp2_with fail
      go_ret
      exact ⟨_, rfl, own_le2 HR.out (by have := HB1.out.size; omega), HB1.out.trans (HBz.out.mono HB1.out.size)⟩
    · intro x cc kl y1 y2 w2 cnt1 hkey hlx hv hat hrg1 hlt hg1 hs1 hen
      obtain ⟨s0, hs0, rfl, _⟩ := Go.WideMaps.string_of_keyOf Tryz.underlying9 hkey
      simp only [Value.string.injEq] at hs0
      subst hs0
      have HK : Hid (left (key x) = true ∧ w2.ranges Tryz.prog 9 unitR b w1.heap.size 47 D (fun z => left z && !z.sameKey (key x)) cnt1 ∧ cnt1 < cnt ∧ wr.grownBy w2 (some w1.heap.size) ∧ w2.heap.size = wr.heap.size) := ⟨hlx, hrg1, hlt, hg1, hs1⟩
      have HO1 := Lib.hid (own_grown H.out.owns hg1 (fun g hg => by have : w1.heap.size = g := Option.some.inj hg; omega))
      have hb1 : w1.heap.size + 1 ≤ w2.heap.size := by omega
      clear hlx hat hrg1 hlt hg1 hs1 hkey hv
      have hl41 : l.length ≤ 47 := by omega
      go_wp2_with (at_builtin; refine wpList_append_own _ rfl _ _ 41 rfl (w1.heap.size + 1) 9 i0 (.string ⟨#[]⟩) 1 16 Tryz.underlying41 HI.out.1 HI.out.2.1 HI.out.2.2.1 HI.out.2.2.2 rfl (by decide) _ _ _ rfl (HO1.out.alloc _) ⟨w2.heap.size, 0, none⟩ 1 1 [.string x] rfl rfl (cell_one_new _ _ _) (by intro u hu; simp at hu; subst hu; rfl) (by unfold maxLen; omega) (by omega) (by simp; omega) ?_; intro v' w3 hown3 hg3 _)
      have hex : encStr x.data.toList = .string x := rfl
      have HN : Hid (NInv D b w1 w3 (fun z => left z && !z.sameKey (key x)) cnt1 v' (l ++ [x.data.toList])) := H.out.next HK.out.1 HK.out.2.1 HK.out.2.2.1 HK.out.2.2.2.1 HK.out.2.2.2.2 hown3 hg3
      have hm : w3.rangeLeft b w1.heap.size < wr.rangeLeft b w1.heap.size := by
        rw [HN.out.rg.left_eq, H.out.rg.left_eq]; exact HK.out.2.2.1
      have HMs := Lib.hid hm
      clear hown3 hg3 hm hen
      go_wp2_with fail
      go_roundw
      case rel => exact ⟨_, _, _, HN⟩
      case measure => exact HMs.out
end Go.Proofs.YtgnfmcjfoheccaaGreatDoor
