/- url.path's replacer of blanks and points: strings.NewReplacer, sync.Once's first time, the table of bytes: the walks. (The parts of sync.Once are turned from the kit's worked proof of a lazy value.) -/
import Derived.Test.YtgpemnmopogppaaGreatDoorZAppsQ
import Derived.Defers
import Derived.Laws.Pointers
import Derived.Laws.LoneSync
import Derived.Laws.NewBlocks
import Derived.RegionTactic
import Derived.RegionCalls
import Derived.ChangeAlike
import Derived.Shelf.Abstract
import Derived.OwnWalk
import Derived.Deep.WholeRow
import Derived.Scope
namespace Go.Proofs.YtgpemnmopogppaaGreatDoor
open Go Go.RowKit
namespace Up
open Go.Proofs.YtgpemnmopogppaaGreatDoor.Dp (own_below drewU)
theorem disable (w : World) : (callFunc 199 #[]).run Tryz.prog w = .ok (.value (.tuple #[])) w := run_call_mark0 Tryz.func199 (by kernel_rfl) (by kernel_rfl) (by kernel_rfl) .disable (by kernel_rfl) w
theorem enable (w : World) : (callFunc 201 #[]).run Tryz.prog w = .ok (.value (.tuple #[])) w := run_call_mark0 Tryz.func201 (by kernel_rfl) (by kernel_rfl) (by kernel_rfl) .enable (by kernel_rfl) w
theorem acquire (a : Addr) (w : World) : (callFunc 202 #[.pointer (some a)]).run Tryz.prog w = .ok (.value (.tuple #[])) w := run_call_marked Tryz.func202 (by kernel_rfl) (by kernel_rfl) (by kernel_rfl) .acquire (by kernel_rfl) a w
theorem releaseMerge (a : Addr) (w : World) : (callFunc 204 #[.pointer (some a)]).run Tryz.prog w = .ok (.value (.tuple #[])) w := run_call_marked Tryz.func204 (by kernel_rfl) (by kernel_rfl) (by kernel_rfl) .releaseMerge (by kernel_rfl) a w
set_option maxRecDepth 100000 in
theorem store_deferred (a : Addr) (x : Value) (u : FrameMode) (w : World) (hc : w.cell? a = some x) (hz : w.frozen? a = false) :
    CallsD Tryz.prog 174 #[.pointer (some a), .bool true] u w fun e u' w' => u' = u ∧ (e = .returned (.tuple #[]) ∧ w' = w.drew.setCell a (.int .u32 1)) := by
  have hc' : w.drew.cell? a = some x := by go_simp
  have hz' : w.drew.frozen? a = false := by go_simp
  have hst := run_call_store (P := Tryz.prog) Tryz.func190 (by kernel_rfl) (by kernel_rfl) (by kernel_rfl) (by kernel_rfl) (k := .u32) (y := 1) hc' hz'
  go_enter_d Tryz.func174, Tryz.ntmps174
  go_wp2
  go_region_calls
  all_goals (go_end0; exact ⟨rfl, rfl⟩)
set_option maxRecDepth 100000 in
theorem unlock_deferred (a : Addr) (u : FrameMode) (w : World) (hc : w.cell? a = some (.int .i32 1)) (hz : w.frozen? a = false) :
    CallsD Tryz.prog 173 #[.pointer (some a)] u w fun e u' w' => u' = u ∧ (e = .returned (.tuple #[]) ∧ w' = w.setCell a (.int .i32 0)) := by
  have hd := disable
  have he := enable
  have hr := releaseMerge
  have hadd := run_call_add (P := Tryz.prog) Tryz.func205 (by kernel_rfl) (by kernel_rfl) (by kernel_rfl) .i32 (by kernel_rfl) (y := -1) (s := 0) hc hz (by simp [go_sem]; rfl)
  have hcv := run_convert_to_unsafe (P := Tryz.prog) (src := 259) (dst := 153) Tryz.underlying259 Tryz.underlying153 (by kernel_rfl) hc
  go_enter_d Tryz.func173, Tryz.ntmps173
  go_wp2
  go_end0
  go_wp2
set_option maxRecDepth 100000 in
theorem lock_free (a : Addr) (w : World) (hc : w.cell? a = some (.int .i32 0)) (hz : w.frozen? a = false) :
    Calls Tryz.prog 172 #[.pointer (some a)] w fun e w' => e = .returned (.tuple #[]) ∧ w' = w.setCell a (.int .i32 1) := by
  have hd := disable
  have he := enable
  have ha := acquire
  have hcas := run_call_cas_hit (P := Tryz.prog) Tryz.func200 (by kernel_rfl) (by kernel_rfl) (by kernel_rfl) .i32 (by kernel_rfl) (y := 1) hc hz
  have hc' : (w.setCell a (.int .i32 1)).cell? a = some (.int .i32 1) := World.cell?_setCell_same w a _ hc
  have hcv := run_convert_to_unsafe (P := Tryz.prog) (src := 259) (dst := 153) Tryz.underlying259 Tryz.underlying153 (by kernel_rfl) hc'
  go_enter Tryz.func172, Tryz.ntmps172
  go_wp2
  first | go_end0 | (simp only [Exit.inBlock, Exit.then]; refine bodyPost_ret (results_none rfl _ _ _) rfl ?_) | refine bodyPost_ret (results_none rfl _ _ _) rfl ?_
  go_wp2
end Up
end Go.Proofs.YtgpemnmopogppaaGreatDoor
/- strings.Replacer.build at url.path's bytes: the walk. -/
namespace Go.Proofs.YtgpemnmopogppaaGreatDoor
open Go Go.RowKit
namespace Up
open Go.Proofs.YtgpemnmopogppaaGreatDoor.Dp (own_below drewU)
def oldNewA : Array Value := #[.string ⟨#[32]⟩, .string ⟨#[95]⟩, .string ⟨#[46]⟩, .string ⟨#[95]⟩]
/-- What a byte is replaced by. -/
def barN (i : Nat) : Nat := cond (Nat.beq i 32) 95 (cond (Nat.beq i 46) 95 i)
/-- The table at T: what each byte is replaced by. -/
def TabAt (w : World) (T : Nat) : Prop := ∀ i, i < 256 → w.cell? ⟨T, i, none⟩ = some (.int .u8 (barN i : Int))
/-- The table's first n bytes are laid. -/
def TbN (w wx : World) (n : Nat) (g : Nat → Nat) : Prop := ∃ cs, Blk wx w.heap.size 221 cs ∧ cs.size = 256 ∧ (∀ j, j < n → cs[j]? = some (.int .u8 (g j : Int))) ∧ Below w.heap.size w wx
theorem TbN.at_ {w wx : World} {n j : Nat} {g : Nat → Nat} (h : TbN w wx n g) (hj : j < 256) : (∃ v, wx.cell? ⟨w.heap.size, j, none⟩ = some v) ∧ wx.frozen? ⟨w.heap.size, j, none⟩ = false := by
  obtain ⟨cs, hb, hs, _, _⟩ := h
  exact ⟨⟨cs[j], by rw [hb.cell j]; exact Array.getElem?_eq_getElem (by omega)⟩, hb.frozen j⟩
theorem TbN.next {w wx : World} {n : Nat} (h : TbN w wx n id) (hn : n < 256) : TbN w (wx.setCell ⟨w.heap.size, n, none⟩ (.int .u8 (n : Int))) (n + 1) id := by
  obtain ⟨cs, hb, hs, hc, hl⟩ := h
  refine ⟨_, hb.set_ n _, by simpa using hs, fun j hj => ?_, hl.setCell (p := ⟨w.heap.size, n, none⟩) (Nat.le_refl _) _⟩
  rw [Array.getElem?_setIfInBounds]
  by_cases e : n = j
  · subst e
    rw [if_pos rfl, if_pos (by omega)]
    rfl
  · rw [if_neg e]
    exact hc j (by omega)
theorem TbN.put {w wx : World} {g g' : Nat → Nat} (h : TbN w wx 256 g) (o v : Nat) (ho : o < 256) (hg : ∀ j, j < 256 → g' j = if j = o then v else g j) : TbN w (wx.setCell ⟨w.heap.size, o, none⟩ (.int .u8 (v : Int))) 256 g' := by
  obtain ⟨cs, hb, hs, hc, hl⟩ := h
  refine ⟨_, hb.set_ o _, by simpa using hs, fun j hj => ?_, hl.setCell (p := ⟨w.heap.size, o, none⟩) (Nat.le_refl _) _⟩
  rw [Array.getElem?_setIfInBounds, hg j hj]
  by_cases e : o = j
  · subst e
    rw [if_pos rfl, if_pos (by omega), if_pos rfl]
  · rw [if_neg e, if_neg (fun h => e h.symm)]
    exact hc j hj
def dotN (j : Nat) : Nat := if j = 46 then 95 else j
theorem bar_dot : ∀ j, j < 256 → barN j = if j = 32 then 95 else dotN j := by
  intro j _
  unfold barN dotN
  by_cases h : j = 32
  · subst h; rfl
  · rw [if_neg h]
    have b1 : Nat.beq j 32 = false := by rw [Bool.eq_false_iff]; exact fun e => h (Nat.eq_of_beq_eq_true e)
    rw [b1]
    by_cases h2 : j = 46
    · subst h2; rfl
    · rw [if_neg h2]
      have b2 : Nat.beq j 46 = false := by rw [Bool.eq_false_iff]; exact fun e => h2 (Nat.eq_of_beq_eq_true e)
      rw [b2]
      rfl
def ixV : Value → Int
  | .int _ q => q
  | _ => 0
set_option maxRecDepth 100000 in
set_option maxHeartbeats 4000000 in
theorem build_any (w : World) (g rb rc : Nat) (hg : w.cell? ⟨g, 4, none⟩ = some (.slice (some ⟨rb, 0, none⟩) 4 rc)) (c0 : w.cell? ⟨rb, 0, none⟩ = some (.string ⟨#[32]⟩)) (c1 : w.cell? ⟨rb, 1, none⟩ = some (.string ⟨#[95]⟩)) (c2 : w.cell? ⟨rb, 2, none⟩ = some (.string ⟨#[46]⟩)) (c3 : w.cell? ⟨rb, 3, none⟩ = some (.string ⟨#[95]⟩)) (hrb : rb < w.heap.size) :
    Calls Tryz.prog 159 #[.pointer (some ⟨g, 0, none⟩)] w fun e w' => ∃ T, e = .returned (.iface 222 (.pointer (some ⟨T, 0, none⟩))) ∧ TabAt w' T ∧ Below w.heap.size w w' ∧ w.heap.size ≤ T := by
  have hsc := run_storeCells_new (P := Tryz.prog) w 221 Tryz.zeroCells221 Tryz.zeroCells221 (by kernel_rfl) rfl (by kernel_rfl)
  have HT0 : Hid (TbN w (w.alloc (.cells Tryz.zeroCells221 221)) 0 id) := ⟨_, Blk.new w _ _, by kernel_rfl, fun j h => by omega, (Below.refl w.heap.size w).alloc (Nat.le_refl _) _⟩
  go_enter Tryz.func159, Tryz.ntmps159
  go_wp2_with fail
  go_loopw [4, 5] (fun x4 x5 wx => ∃ i : Nat, i ≤ 2 ∧ x5 = .int .i64 ((2 * i : Nat) : Int) ∧ x4 = .bool true ∧ w = wx) (fun _ x5 _ => (4 - ixV x5).toNat)
  case atStart => exact ⟨0, by decide, rfl, rfl, rfl⟩
  case round =>
    obtain ⟨i, hi, rfl, rfl, rfl⟩ := hrel
    rcases (by omega : i = 0 ∨ i = 1 ∨ i = 2) with rfl | rfl | rfl
    · go_wp2_with fail
      go_roundw
      case rel => exact ⟨1, by decide, by go_num, by trivial, by trivial⟩
      case measure => decide
    · go_wp2_with fail
      go_roundw
      case rel => exact ⟨2, by decide, by go_num, by trivial, by trivial⟩
      case measure => decide
    · go_upto_region 14 with fail
      generalize w.alloc (.cells Tryz.zeroCells221 221) = wa at *
      clear hsc
      go_wp2_with fail
      go_loopw [61] (fun x61 wx => ∃ k : Nat, k ≤ 256 ∧ x61 = .int .i64 k ∧ Hid (TbN w wx k id)) (fun x61 _ => 256 - (ixV x61).toNat)
      case atStart => exact ⟨0, by decide, rfl, HT0⟩
      case round =>
        clear HT0
        obtain ⟨k, hk, rfl, H⟩ := hrel
        by_cases hlt : k < 256
        · have hI : (k : Int) < 256 := by omega
          have h0 : (0 : Int) ≤ (k : Int) := by omega
          obtain ⟨⟨v, hv⟩, hz⟩ := H.out.at_ hlt
          have H2 := Lib.hid (H.out.next hlt)
          have hwk : IntKind.u8.wrap (k : Int) = (k : Int) := by
            have e1 : ((2 : Int) ^ IntKind.u8.bits) = 256 := by decide
            have e2 : ((2 : Int) ^ (IntKind.u8.bits - 1)) = 128 := by decide
            simp [IntKind.wrap, e1, e2, IntKind.signed]
            omega
          go_wp2_with fail
          go_roundw
          case rel => exact ⟨k + 1, by omega, by go_num, H2⟩
          case measure => simp [ixV] <;> omega
        · obtain rfl : k = 256 := by omega
          have hl := H.out
          obtain ⟨_, _, _, _, hlow⟩ := hl
          clear hlow
          go_wp2_with fail
          go_loopw [8] (fun x8 wx => ∃ m : Nat, m ≤ 2 ∧ x8 = .int .i64 (2 * (m : Int) - 2) ∧ Hid (TbN w wx 256 (match m with | 2 => id | 1 => dotN | _ => barN))) (fun x8 _ => (ixV x8 + 2).toNat)
          case atStart => exact ⟨2, by decide, rfl, H⟩
          case round =>
            clear H
            obtain ⟨m, hm, rfl, H⟩ := hrel
            have hl := H.out
            obtain ⟨_, _, _, _, hlow⟩ := hl
            have d0 : wr.cell? ⟨rb, 0, none⟩ = some (.string ⟨#[32]⟩) := (hlow.cell (p := ⟨rb, 0, none⟩) hrb).trans c0
            have d1 : wr.cell? ⟨rb, 1, none⟩ = some (.string ⟨#[95]⟩) := (hlow.cell (p := ⟨rb, 1, none⟩) hrb).trans c1
            have d2 : wr.cell? ⟨rb, 2, none⟩ = some (.string ⟨#[46]⟩) := (hlow.cell (p := ⟨rb, 2, none⟩) hrb).trans c2
            have d3 : wr.cell? ⟨rb, 3, none⟩ = some (.string ⟨#[95]⟩) := (hlow.cell (p := ⟨rb, 3, none⟩) hrb).trans c3
            have e46 : ∀ h : 0 < (⟨#[46]⟩ : ByteArray).size, ((⟨#[46]⟩ : ByteArray)[0]'h).toNat = 46 := fun _ => rfl
            have e95 : ∀ h : 0 < (⟨#[95]⟩ : ByteArray).size, ((⟨#[95]⟩ : ByteArray)[0]'h).toNat = 95 := fun _ => rfl
            have e32 : ∀ h : 0 < (⟨#[32]⟩ : ByteArray).size, ((⟨#[32]⟩ : ByteArray)[0]'h).toNat = 32 := fun _ => rfl
            have HLow := Lib.hid hlow
            clear hlow
            rcases (by omega : m = 2 ∨ m = 1 ∨ m = 0) with rfl | rfl | rfl
            · obtain ⟨⟨v, hv⟩, hz⟩ := H.out.at_ (j := 46) (by decide)
              have H2 : Hid (TbN w (wr.setCell ⟨w.heap.size, 46, none⟩ (.int .u8 95)) 256 dotN) := H.out.put 46 95 (by decide) (fun j _ => rfl)
              go_wp2_with fail
              go_roundw
              case rel => exact ⟨1, by decide, by go_num, H2⟩
              case measure => decide
            · obtain ⟨⟨v, hv⟩, hz⟩ := H.out.at_ (j := 32) (by decide)
              have H2 : Hid (TbN w (wr.setCell ⟨w.heap.size, 32, none⟩ (.int .u8 95)) 256 barN) := H.out.put 32 95 (by decide) (fun j hj => bar_dot j hj)
              go_wp2_with fail
              go_roundw
              case rel => exact ⟨0, by decide, by go_num, H2⟩
              case measure => decide
            · go_wp2_with fail
              go_ret
              obtain ⟨cs, hb, _, hc, hlo⟩ := H.out
              exact ⟨_, rfl, fun i hi => (hb.cell i).trans (hc i hi), hlo, Nat.le_refl _⟩
end Up
end Go.Proofs.YtgpemnmopogppaaGreatDoor
/- strings.NewReplacer, sync.Once's first time over it: the walks. -/
namespace Go.Proofs.YtgpemnmopogppaaGreatDoor
open Go Go.RowKit
namespace Up
open Go.Proofs.YtgpemnmopogppaaGreatDoor.Dp (own_below drewU blk_below)
theorem bo_in (args : Array Value) (w : World) : (callFunc 142 args).run Tryz.prog w = .ok (.enter 142 args) w := enters_of Tryz.func142 (by kernel_rfl) rfl args w
/-- The replacer as it is made: the once's state, what is made, the old and new texts. -/
structure RpSt (w : World) (g : Nat) (d s : Int) (v rv : Value) : Prop where
  blk : Blk w g 187 #[.int .u32 d, .int .i32 s, .int .u32 0, v, rv]
def RowAt (w : World) (rb : Nat) : Prop := w.cell? ⟨rb, 0, none⟩ = some (.string ⟨#[32]⟩) ∧ w.cell? ⟨rb, 1, none⟩ = some (.string ⟨#[95]⟩) ∧ w.cell? ⟨rb, 2, none⟩ = some (.string ⟨#[46]⟩) ∧ w.cell? ⟨rb, 3, none⟩ = some (.string ⟨#[95]⟩) ∧ rb < w.heap.size
theorem RowAt.keeps {w w' : World} {S : Nat → Prop} {rb : Nat} (h : RowAt w rb) (k : Keeps S w w') (hs : ¬ S rb) : RowAt w' rb := by
  obtain ⟨h0, h1, h2, h3, h4⟩ := h
  exact ⟨(k.cell (p := ⟨rb, 0, none⟩) h4 hs).trans h0, (k.cell (p := ⟨rb, 1, none⟩) h4 hs).trans h1, (k.cell (p := ⟨rb, 2, none⟩) h4 hs).trans h2, (k.cell (p := ⟨rb, 3, none⟩) h4 hs).trans h3, Nat.lt_of_lt_of_le h4 k.size⟩
theorem TabAt.keeps {w w' : World} {S : Nat → Prop} {T : Nat} (h : TabAt w T) (k : Keeps S w w') (hs : ¬ S T) (hT : T < w.heap.size) : TabAt w' T := fun i hi => (k.cell (p := ⟨T, i, none⟩) hT hs).trans (h i hi)
theorem tab_lt {w : World} {T : Nat} (h : TabAt w T) : T < w.heap.size := by
  have := World.block_lt_of_cell? w _ (h 0 (by decide))
  exact this
set_option maxRecDepth 100000 in
theorem load_any (a : Addr) (d : Int) (w : World) (h0 : w.cell? a = some (.int .u32 d)) : Calls Tryz.prog 157 #[.pointer (some a)] w fun e w' => e = .returned (.bool (d != 0)) ∧ w' = w := by
  have hl := run_call_load (P := Tryz.prog) Tryz.func171 (by kernel_rfl) (by kernel_rfl) (by kernel_rfl) .u32 (by kernel_rfl) h0
  go_enter Tryz.func157, Tryz.ntmps157
  go_wp2_with fail
  go_ret
  exact ⟨rfl, rfl⟩
set_option maxRecDepth 100000 in
set_option maxHeartbeats 4000000 in
theorem once_build (w : World) (g rb rc : Nat) (s : Int) (hB : Blk w g 187 #[.int .u32 0, .int .i32 s, .int .u32 0, .nilIface, .slice (some ⟨rb, 0, none⟩) 4 rc]) (hR : RowAt w rb) :
    Calls Tryz.prog 142 #[.pointer (some ⟨g, 0, none⟩)] w fun e w' => e = .returned (.tuple #[]) ∧ ∃ T, w.heap.size ≤ T ∧ TabAt w' T ∧ Blk w' g 187 #[.int .u32 0, .int .i32 s, .int .u32 0, .iface 222 (.pointer (some ⟨T, 0, none⟩)), .slice none 0 0] ∧ Keeps (fun j => j = g) w w' := by
  have HBu := Lib.hid (build_any w g rb rc (hB.cell 4) hR.1 hR.2.1 hR.2.2.1 hR.2.2.2.1 hR.2.2.2.2)
  have HB := Lib.hid hB
  have hgl := hB.lt
  clear hB hR
  go_enter Tryz.func142, Tryz.ntmps142
  go_upto_region 1 with (go_at_call 159; refine HBu.out.mono ?_; rintro e w1 ⟨T, rfl, hT, hb, hle⟩; have HT := Lib.hid hT; have HB1 := Lib.hid hb; have HLe := Lib.hid hle; have HK := Lib.hid (blk_below HB.out hb); have x3 : w1.cell? ⟨g, 3, none⟩ = some .nilIface := HK.out.cell 3; have f3 := HK.out.frozen 3; clear hT hb hle)
  have HK2 := Lib.hid (HK.out.set_ 3 (.iface 222 (.pointer (some ⟨T, 0, none⟩))))
  have x4 : (w1.setCell ⟨g, 3, none⟩ (.iface 222 (.pointer (some ⟨T, 0, none⟩)))).cell? ⟨g, 4, none⟩ = some (.slice (some ⟨rb, 0, none⟩) 4 rc) := HK2.out.cell 4
  have f4 := HK2.out.frozen 4
  go_wp2_with fail
  go_end0
  have hk : Keeps (fun j => j = g) w1 ((w1.setCell ⟨g, 3, none⟩ (.iface 222 (.pointer (some ⟨T, 0, none⟩)))).setCell ⟨g, 4, none⟩ (.slice none 0 0)) := ((Keeps.refl (fun j => j = g) w1).setCell (p := ⟨g, 3, none⟩) (.inl rfl) _).setCell (p := ⟨g, 4, none⟩) (.inl rfl) _
  exact ⟨rfl, T, HLe.out, HT.out.keeps hk (by have := HLe.out; omega) (tab_lt HT.out), HK2.out.set_ 4 _, (Keeps.of_below HB1.out).trans hk⟩
set_option maxRecDepth 100000 in
set_option maxHeartbeats 4000000 in
theorem slow_any (w : World) (g rb rc : Nat) (hB : Blk w g 187 #[.int .u32 0, .int .i32 0, .int .u32 0, .nilIface, .slice (some ⟨rb, 0, none⟩) 4 rc]) (hR : RowAt w rb) (hne : rb ≠ g) :
    Calls Tryz.prog 158 #[.pointer (some ⟨g, 0, none⟩), .func (.func 142) #[.pointer (some ⟨g, 0, none⟩)] #[]] w fun e w' => e = .returned (.tuple #[]) ∧ ∃ T, w.heap.size ≤ T ∧ TabAt w' T ∧ Blk w' g 187 #[.int .u32 1, .int .i32 0, .int .u32 0, .iface 222 (.pointer (some ⟨T, 0, none⟩)), .slice none 0 0] ∧ Keeps (fun j => j = g) w w' := by
  have hB1 := hB.set_ 1 (.int .i32 1)
  have hk1 := (Keeps.refl (fun j => j = g) w).setCell (p := ⟨g, 1, none⟩) (.inl rfl) (.int .i32 1)
  have HLd := Lib.hid (load_any ⟨g, 0, none⟩ 0 (w.setCell ⟨g, 1, none⟩ (.int .i32 1)) (hB1.cell 0))
  have hnot : ∀ (x : Bool) (w : World), (Op.unary .not (.bool x)).run Tryz.prog w = .ok (.bool (!x)) w := fun _ _ => rfl
  have HBo := Lib.hid (once_build (w.setCell ⟨g, 1, none⟩ (.int .i32 1)) g rb rc 1 hB1 (hR.keeps hk1 hne))
  have HK1 := Lib.hid hk1
  have HLk := Lib.hid (lock_free ⟨g, 1, none⟩ w (hB.cell 1) (hB.frozen 1))
  have hgl := hB.lt
  have hin := bo_in #[.pointer (some ⟨g, 0, none⟩)] (w.setCell ⟨g, 1, none⟩ (.int .i32 1))
  have hsz : (w.setCell ⟨g, 1, none⟩ (.int .i32 1)).heap.size = w.heap.size := by simp
  have HSz := Lib.hid hsz
  clear hB hR hB1 hk1 hsz
  go_enter_defers Tryz.func158, Tryz.ntmps158
  go_wp2_with (first | (go_at_call 172; refine HLk.out.mono ?_; rintro e w' ⟨rfl, rfl⟩) | (go_at_call 157; refine HLd.out.mono ?_; rintro e w' ⟨rfl, rfl⟩))
  refine HBo.out.mono ?_
  rintro e w3 ⟨rfl, T, hle, hT, hb3, hk3⟩
  have HT := Lib.hid hT
  have HB3 := Lib.hid hb3
  have HK3 := Lib.hid hk3
  have HLe := Lib.hid hle
  clear hle hT hb3 hk3 hin HBo HLd HLk
  go_wp2_with fail
  refine leaves_cons (f := 174) (args := #[.pointer (some ⟨g, 0, none⟩), .bool true]) (by simp) (by simp [go_sem]) ?_
  refine (store_deferred ⟨g, 0, none⟩ (.int .u32 0) .returning w3 (HB3.out.cell 0) (HB3.out.frozen 0)).mono ?_
  rintro e u' w'' ⟨rfl, rfl, rfl⟩
  have hb4 : Blk (w3.drew.setCell ⟨g, 0, none⟩ (.int .u32 1)) g 187 #[.int .u32 1, .int .i32 1, .int .u32 0, .iface 222 (.pointer (some ⟨T, 0, none⟩)), .slice none 0 0] := (Blk.drew HB3.out).set_ 0 (.int .u32 1)
  refine leaves_cons (f := 173) (args := #[.pointer (some ⟨g, 1, none⟩)]) (by simp [settle]) (by simp [go_sem]) ?_
  refine (unlock_deferred ⟨g, 1, none⟩ _ _ (hb4.cell 1) (hb4.frozen 1)).mono ?_
  rintro e u' w'' ⟨rfl, rfl, rfl⟩
  have hk4 : Keeps (fun j => j = g) w3 ((w3.drew.setCell ⟨g, 0, none⟩ (.int .u32 1)).setCell ⟨g, 1, none⟩ (.int .i32 0)) := (((Keeps.refl (fun j => j = g) w3).drew).setCell (p := ⟨g, 0, none⟩) (.inl rfl) _).setCell (p := ⟨g, 1, none⟩) (.inl rfl) _
  have hle := HLe.out
  have hsz := HSz.out
  have hfin : ∃ T, w.heap.size ≤ T ∧ TabAt ((w3.drew.setCell ⟨g, 0, none⟩ (.int .u32 1)).setCell ⟨g, 1, none⟩ (.int .i32 0)) T ∧ Blk ((w3.drew.setCell ⟨g, 0, none⟩ (.int .u32 1)).setCell ⟨g, 1, none⟩ (.int .i32 0)) g 187 #[.int .u32 1, .int .i32 0, .int .u32 0, .iface 222 (.pointer (some ⟨T, 0, none⟩)), .slice none 0 0] ∧ Keeps (fun j => j = g) w ((w3.drew.setCell ⟨g, 0, none⟩ (.int .u32 1)).setCell ⟨g, 1, none⟩ (.int .i32 0)) :=
    ⟨T, by omega, HT.out.keeps hk4 (by omega) (tab_lt HT.out), hb4.set_ 1 _, (HK1.out.trans HK3.out).trans hk4⟩
  generalize (w3.drew.setCell ⟨g, 0, none⟩ (.int .u32 1)).setCell ⟨g, 1, none⟩ (.int .i32 0) = wf at *
  have HF := Lib.hid hfin
  clear hfin hk4 hb4 hle hsz
  simp [Leaves, settle, results, Tryz.results158]
  exact HF.out
set_option maxRecDepth 100000 in
set_option maxHeartbeats 4000000 in
theorem once_do (w : World) (g rb rc : Nat) (hB : Blk w g 187 #[.int .u32 0, .int .i32 0, .int .u32 0, .nilIface, .slice (some ⟨rb, 0, none⟩) 4 rc]) (hR : RowAt w rb) (hne : rb ≠ g) :
    Calls Tryz.prog 141 #[.pointer (some ⟨g, 0, none⟩), .func (.func 142) #[.pointer (some ⟨g, 0, none⟩)] #[]] w fun e w' => e = .returned (.tuple #[]) ∧ ∃ T, w.heap.size ≤ T ∧ TabAt w' T ∧ Blk w' g 187 #[.int .u32 1, .int .i32 0, .int .u32 0, .iface 222 (.pointer (some ⟨T, 0, none⟩)), .slice none 0 0] ∧ Keeps (fun j => j = g) w w' := by
  have HLd := Lib.hid (load_any ⟨g, 0, none⟩ 0 w (hB.cell 0))
  have HSl := Lib.hid (slow_any w g rb rc hB hR hne)
  clear hB hR
  go_enter Tryz.func141, Tryz.ntmps141
  go_wp2_with (first | (go_at_call 157; refine HLd.out.mono ?_; rintro e w' ⟨rfl, rfl⟩) | (go_at_call 158; refine HSl.out.mono ?_; rintro e w1 ⟨rfl, hx⟩; have HX := Lib.hid hx; clear hx))
  go_end0
  exact ⟨rfl, HX.out⟩
theorem str_info1 : (Tryz.prog.info? 9).map (fun i => (i.zero, i.size, i.bytes)) = some (some (.string ⟨#[]⟩), 1, 16) := by kernel_rfl
/-- The replacer at g, as it was made in w0. -/
def RepN (w0 w : World) (g : Nat) : Prop := ∃ rb rc, w0.heap.size ≤ g ∧ Below w0.heap.size w0 w ∧ Blk w g 187 #[.int .u32 0, .int .i32 0, .int .u32 0, .nilIface, .slice (some ⟨rb, 0, none⟩) 4 rc] ∧ RowAt w rb ∧ rb ≠ g
theorem do_any {w0 w : World} {g : Nat} (hN : RepN w0 w g) (_hL : LibS w0) : Calls Tryz.prog 141 #[.pointer (some ⟨g, 0, none⟩), .func (.func 142) #[.pointer (some ⟨g, 0, none⟩)] #[]] w fun e w' =>
    e = .returned (.tuple #[]) ∧ Below w0.heap.size w0 w' ∧ ∃ T, w'.cell? ⟨g, 3, none⟩ = some (.iface 222 (.pointer (some ⟨T, 0, none⟩))) ∧ TabAt w' T := by
  obtain ⟨rb, rc, h1, h2, h3, h4, h5⟩ := hN
  refine (once_do w g rb rc h3 h4 h5).mono fun e w' ⟨he, T, hT1, hT2, hb, hk⟩ => ⟨he, h2.trans (hk.below h2.size (fun j e => by omega)), T, hb.cell 3, hT2⟩
set_option maxRecDepth 100000 in
set_option maxHeartbeats 4000000 in
theorem new_any (w : World) (_hL : LibS w) : Calls Tryz.prog 108 #[.slice (some ⟨w.heap.size, 0, none⟩) 4 4] (w.alloc (.cells oldNewA 9)) fun e w' => ∃ g, e = .returned (.pointer (some ⟨g, 0, none⟩)) ∧ RepN w w' g := by
  obtain ⟨i1, hi1, hz1, hz2, hz3⟩ := info_parts str_info1
  have HI1 := Lib.hid (And.intro hi1 (And.intro hz1 (And.intro hz2 hz3)))
  have HX := Lib.hid (Blk.new w 9 oldNewA)
  have HB := Lib.hid ((Below.refl w.heap.size w).alloc (Nat.le_refl _) (.cells oldNewA 9))
  have hsz : (w.alloc (.cells oldNewA 9)).heap.size = w.heap.size + 1 := by simp
  have HSz := Lib.hid hsz
  clear hi1 hz1 hz2 hz3 hsz
  generalize w.alloc (.cells oldNewA 9) = wa at *
  go_enter Tryz.func108, Tryz.ntmps108
  go_wp2_with (at_builtin; refine wpList_append_own _ rfl _ _ 57 rfl wa.heap.size 9 i1 (.string ⟨#[]⟩) 1 16 Tryz.underlying57 HI1.out.1 HI1.out.2.1 HI1.out.2.2.1 HI1.out.2.2.2 rfl (by decide) _ 0 [] rfl (World.ownsRow_nil _ _ _ _) ⟨w.heap.size, 0, none⟩ 4 4 oldNewA.toList rfl rfl ?_ (by decide) (by unfold maxLen; omega) (by omega) (Nat.le_refl _) ?_)
  · intro j u hj
    have hc := HX.out.cell j
    rw [← Array.getElem?_toList, hj] at hc
    rw [show (⟨w.heap.size, 0, none⟩ : Addr).add j = ⟨w.heap.size, j, none⟩ from by simp [Addr.add]; try omega]
    exact hc
  · intro v' w3 hown hg3 _
    obtain ⟨rb, rc, rfl, hrb, hrl⟩ := hown.form (by decide)
    have hc : ∀ (j : Nat) (v : Value), oldNewA.toList[j]? = some v → w3.cell? ⟨rb, j, none⟩ = some v := fun j v h => by
      have h1 := World.ownsRow.cells hown (g := rb) rfl j v h
      rw [show (⟨rb, 0, none⟩ : Addr).add j = ⟨rb, j, none⟩ from by simp [Addr.add]; try omega] at h1
      exact h1
    have hR : RowAt w3 rb := ⟨hc 0 _ rfl, hc 1 _ rfl, hc 2 _ rfl, hc 3 _ rfl, hrl⟩
    have HR := Lib.hid hR
    have HB3 := Lib.hid (Below.grown HB.out hg3 (by have := HSz.out; omega) (fun b h => by cases h))
    have hle : w.heap.size ≤ w3.heap.size := HB3.out.size
    have HLe := Lib.hid hle
    clear hc hR hown hg3 hle HB HX
    go_wp2_with fail
    go_ret
    exact ⟨w3.heap.size, rfl, rb, rc, HLe.out, HB3.out.alloc HLe.out _, Blk.new _ _ _, RowAt.keeps (S := fun _ => False) HR.out (Keeps.of_below ((Below.refl _ _).alloc (Nat.le_refl _) _)) (fun h => h), Nat.ne_of_lt HR.out.2.2.2.2⟩
end Up
end Go.Proofs.YtgpemnmopogppaaGreatDoor
