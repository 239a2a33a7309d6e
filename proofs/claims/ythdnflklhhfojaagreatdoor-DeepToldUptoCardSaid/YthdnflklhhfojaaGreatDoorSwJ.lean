/- deep.show at any value, deep.Show: the walks. -/
import Derived.Test.YthdnflklhhfojaaGreatDoorSwI
import Derived.Test.YthdnflklhhfojaaGreatDoorDpRa
namespace Go.Proofs.YthdnflklhhfojaaGreatDoor
open Go Go.RowKit
namespace Sw
open Go.Proofs.YthdnflklhhfojaaGreatDoor.Dp
theorem vat_up {w w' : World} {B B' : Nat} {g : GV} {x : Value} (h : VAt w B g x) (hb : Below B w w') (hB : B ≤ B') : VAt w' B' g x := by
  induction h with
  | mk k n t l A c b off C hc hn hA hi hv ih =>
    refine .mk k n t l A c b off C hc hn (fun h0 => ⟨(hA h0).1, Nat.lt_of_lt_of_le (hA h0).2 hB⟩) (fun i it hit => ?_) (fun i it hit => ih i it hit)
    have hl : 0 < l.length := by
      have := (List.getElem?_eq_some_iff.1 hit).1
      omega
    exact (hi i it hit).below hb (hA hl).2
section
variable {w : World} {B : Nat}
theorem dshow_any (hBw : B ≤ w.heap.size) (hLib : ∀ w', Below B w w' → LibS w') {g : GV} {x : Value} (h : VAt w B g x) : Short g → ∀ (d : Nat), mayV g (d : Int) = true → ∀ (b : Nat) (bs : List UInt8) (w' : World), Below B w w' → BuAt B b bs w' → bs.length + (showV g d).length ≤ 140737488355328 →
    Calls Tryz.prog 36 #[.pointer (some ⟨b, 0, none⟩), x, .int .i64 (d : Int)] w' (Shown B b (bs ++ showV g d) w') := by
  induction h with
  | mk k n t l A c b0 off C hc hn hA hi hv ih =>
    intro hS d hm b bs w' hb hbu hlen
    cases hS with
    | mk _ _ _ _ hn64 ht h1 h2 =>
    rw [showV] at hlen ⊢
    rw [mayV] at hm
    by_cases h4 : k = 4
    · subst h4
      rw [if_pos rfl] at hm
      by_cases hcd : t.size = 0 ∧ -1 ≤ n ∧ l.length ≤ 2048 ∧ (d : Int) < 64
      · rw [if_pos hcd] at hm
        rw [if_neg (by decide), if_neg (by decide), if_neg (by decide), if_neg (by decide), if_neg (by decide)] at hlen ⊢
        refine show_list hBw hLib n t l A c b0 off C hA hi hv h1 d (by omega) hcd.2.2.1 (fun i it hit b bs w1 hb hbu hl => ?_) b bs w' hb hbu hlen
        refine ih i it hit (h2 i it hit) (d + 1) ?_ b bs w1 hb hbu hl
        have := may_items l [] n d hm i it hit
        rw [show ((d + 1 : Nat) : Int) = (d : Int) + 1 by omega]
        exact this
      · rw [if_neg hcd] at hm
        cases hm
    · rw [if_neg h4, Bool.and_eq_true] at hm
      have hk : k = 0 ∨ k = 1 ∨ k = 2 ∨ k = 3 ∨ k = 5 := by
        have h2 := hm.2
        unfold flatB at h2
        by_cases e0 : k = 0
        · omega
        · by_cases e1 : k = 1
          · omega
          · by_cases e2 : k = 2
            · omega
            · by_cases e3 : k = 3
              · omega
              · by_cases e5 : k = 5
                · omega
                · rw [if_neg e0, if_neg e1, if_neg e2, if_neg e3, if_neg e5] at h2
                  cases h2
      obtain rfl | rfl | rfl | rfl | rfl := hk
      · rw [if_pos rfl] at hlen ⊢
        exact show_0 hBw hLib n t A l.length c d b bs w' hb hbu hlen
      · rw [if_neg (by decide), if_pos rfl] at hlen ⊢
        by_cases h1n : n = 1
        · subst h1n
          rw [if_pos rfl] at hlen ⊢
          exact show_1t hBw hLib t A l.length c d b bs w' hb hbu hlen
        · rw [if_neg h1n] at hlen ⊢
          exact show_1f hBw hLib n t A l.length c d b bs w' hb hbu h1n hlen
      · rw [if_neg (by decide), if_neg (by decide), if_pos rfl] at hlen ⊢
        exact show_2 hBw hLib n t A l.length c d b bs w' hb hbu hn64 hlen
      · rw [if_neg (by decide), if_neg (by decide), if_neg (by decide), if_pos rfl] at hlen ⊢
        exact show_3 hBw hLib n t A l.length c d b bs w' hb hbu ht hlen
      · rw [if_neg (by decide), if_neg (by decide), if_neg (by decide), if_neg (by decide), if_pos rfl] at hlen ⊢
        exact show_5 hBw hLib n t A l.length c d b bs w' hb hbu hn64 hlen
theorem bu_new (B : Nat) (w : World) (hB : B ≤ w.heap.size) : BuAt B w.heap.size [] (w.alloc (.cells #[.pointer none, .slice none 0 0] 45)) :=
  .inl ⟨hB, .slice none 0 0, heap_alloc_new w _, World.ownsRowF_nil _ _ _ _, by simp [Value.ownBlock]⟩
/-- The text of a value that may be, and the error. -/
def showS (g : GV) : ByteArray := if rightB g = true then ⟨(showV g 0).toArray⟩ else ⟨#[]⟩
def showE (g : GV) : Int := if rightB g = true then 0 else 1
set_option maxRecDepth 100000 in
set_option maxHeartbeats 1000000 in
theorem dShow_any (hBw : B ≤ w.heap.size) (hLib : ∀ w', Below B w w' → LibS w') {g : GV} {x : Value} (h : VAt w B g x) (hf : Fit g) (hS : Short g) (w' : World) (hb : Below B w w') :
    Calls Tryz.prog 15 #[x] w' fun e w'' => e = .returned (.tuple #[.string (showS g), .int .i64 (showE g)]) ∧ Below w'.heap.size w' w'' := by
  have hB' : B ≤ w'.heap.size := Nat.le_trans hBw hb.size
  have h' := vat_up h hb hB'
  have hLib' : ∀ w1, Below w'.heap.size w' w1 → LibS w1 := fun w1 h1 => hLib w1 (hb.trans (h1.mono hB'))
  have HR := Lib.hid (fun w1 h1 => right_any (Nat.le_refl _) hLib' h' hf w1 h1)
  have HSh := Lib.hid (fun (hr : rightB g = true) (b : Nat) (w1 : World) (h1 : Below w'.heap.size w' w1) (hbu : BuAt w'.heap.size b [] w1) => dshow_any (Nat.le_refl _) hLib' h' hS 0 (by unfold rightB at hr; rw [Bool.and_eq_true] at hr; exact hr.2) b [] w1 h1 hbu (by
    have h0 : 0 ≤ leftV g 2048 := by
      unfold rightB fewB at hr
      rw [Bool.and_eq_true] at hr
      exact of_decide_eq_true hr.1
    have := show_bound hS h0
    simp only [List.length_nil]
    omega))
  obtain ⟨k, n, t, A, l, c, rfl⟩ := vagg h
  have HY := Lib.hid ((Below.refl w'.heap.size w').alloc (Nat.le_refl _) (.cells #[.int .i64 k, .int .i64 n, .string t, .slice A l c] 27))
  have HX := Lib.hid (Blk.new w' 27 #[.int .i64 k, .int .i64 n, .string t, .slice A l c])
  clear h h' hb hBw hLib hf hS hB' hLib'
  unfold showS showE
  cases q : rightB g with
  | false =>
    rw [if_neg (by decide), if_neg (by decide)]
    clear HSh
    go_enter Tryz.func15, Tryz.ntmps15
    go_wp2_with (go_at_call 18; refine (HR.out _ HY.out).mono ?_; rintro e w2 ⟨rfl, hb2⟩; have HY := Lib.hid (HY.out.trans (hb2.mono HY.out.size)); clear hb2)
    go_ret2
    exact ⟨rfl, HY.out⟩
  | true =>
    rw [if_pos rfl, if_pos rfl]
    have HSh := Lib.hid (HSh.out q)
    generalize showV g 0 = S at *
    go_enter Tryz.func15, Tryz.ntmps15
    go_wp2_with (first | (go_at_call 18; refine (HR.out _ HY.out).mono ?_; rintro e w2 ⟨rfl, hb2⟩; have HY2 := Lib.hid (HY.out.trans (hb2.mono HY.out.size)); have HX2 := Lib.hid (blk_below HX.out hb2); have HN := Lib.hid (bu_new w'.heap.size w2 HY2.out.size); have HYn := Lib.hid (HY2.out.alloc HY2.out.size (.cells #[.pointer none, .slice none 0 0] 45)); have HXn := Lib.hid (blk_below HX2.out ((Below.refl _ _).alloc (Nat.le_refl _) (.cells #[.pointer none, .slice none 0 0] 45))); have x0 := HXn.out.cell 0; have x1 := HXn.out.cell 1; have x2 := HXn.out.cell 2; have x3 := HXn.out.cell 3; clear hb2) | (go_at_call 36; refine (HSh.out _ _ HYn.out HN.out).mono ?_; rintro e w3 ⟨rfl, hbu, hbl, -⟩; have HY3 := Lib.hid (HYn.out.trans hbl); have HBu := Lib.hid hbu; clear hbu hbl) | (go_at_call 29; refine (Any.Builder_String_any_k Tryz.lays169 Tryz.Builder_Extra_169 _ _ _ _ HBu.out HY3.out.size).mono ?_; rintro e w4 ⟨rfl, -, hb4, -⟩; have HY4 := Lib.hid (HY3.out.trans hb4)))
    go_ret2
    exact ⟨rfl, HY4.out⟩
end
end Sw
end Go.Proofs.YthdnflklhhfojaaGreatDoor
