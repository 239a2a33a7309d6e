/- RawApart: plain laws, the law's walk. -/
import Derived.Test.YtgpemnmopogppaaGreatDoorZRlKQ
import Derived.Deep.RegionHeld3
namespace Go.Proofs.YtgpemnmopogppaaGreatDoor
open Go Go.RowKit
namespace Rl
open Go.Proofs.YtgpemnmopogppaaGreatDoor.Dp
open Go.Proofs.YtgpemnmopogppaaGreatDoor.Ut (z8)
theorem findH_app (n : ByteArray) (u : ByteArray × ByteArray) (h : sameS u.1 n = false) : ∀ us : List (ByteArray × ByteArray), findH n (us ++ [u]) = findH n us
  | [] => by simp [findH, h]
  | x :: us => by rw [List.cons_append, findH, findH, findH_app n u h us]
theorem pieces_app (u : ByteArray × ByteArray) (h : sameS u.1 cookieB = false) : ∀ us : List (ByteArray × ByteArray), piecesL (us ++ [u]) = piecesL us
  | [] => by simp [piecesL, h]
  | x :: us => by rw [List.cons_append, piecesL, piecesL, pieces_app u h us]
theorem cook_app {u : ByteArray × ByteArray} (h : sameS u.1 cookieB = false) (us : List (ByteArray × ByteArray)) : cookG (us ++ [u]) = cookG us := by
  unfold cookG
  rw [pieces_app u h]
theorem post_app {u : ByteArray × ByteArray} (h : sameS u.1 ctypeB = false) (m b : ByteArray) (us : List (ByteArray × ByteArray)) : postG m b (us ++ [u]) = postG m b us := by
  unfold postG postB ctypeG
  rw [findH_app ctypeB u h]
theorem same_cookie (a : ByteArray) : sameS a ⟨#[99, 111, 111, 107, 105, 101]⟩ = sameS a cookieB := by
  unfold sameS
  rw [show (⟨#[99, 111, 111, 107, 105, 101]⟩ : ByteArray).data.toList.map lowB = cookieB.data.toList.map lowB from by decide]
theorem same_ctype (a : ByteArray) : sameS a ⟨#[99, 111, 110, 116, 101, 110, 116, 45, 116, 121, 112, 101]⟩ = sameS a ctypeB := by
  unfold sameS
  rw [show (⟨#[99, 111, 110, 116, 101, 110, 116, 45, 116, 121, 112, 101]⟩ : ByteArray).data.toList.map lowB = ctypeB.data.toList.map lowB from by decide]
theorem found_one (n : ByteArray) (u : ByteArray × ByteArray) : ∃ s, foundT (findH n [u]) = .tuple #[.string s, .bool (sameS u.1 n)] := by
  rw [findH]
  cases sameS u.1 n with
  | true => exact ⟨_, rfl⟩
  | false => exact ⟨_, rfl⟩
theorem one_small {mn mv : ByteArray} (h1 : mn.size ≤ 16777216) (h2 : mv.size ≤ 16777216) (k : Nat) : (([(mn, mv)] : List (ByteArray × ByteArray)).getD k default).1.size ≤ 16777216 ∧ (([(mn, mv)] : List (ByteArray × ByteArray)).getD k default).2.size ≤ 16777216 := by
  match k with
  | 0 => exact ⟨h1, h2⟩
  | k + 1 => exact ⟨Nat.le_trans (Nat.le_of_eq (by rfl)) (Nat.zero_le _), Nat.le_trans (Nat.le_of_eq (by rfl)) (Nat.zero_le _)⟩
theorem bounds_app {us : List (ByteArray × ByteArray)} {mn mv : ByteArray} (hz : ∀ k, (us.getD k default).1.size ≤ 16777216 ∧ (us.getD k default).2.size ≤ 16777216) (h1 : mn.size ≤ 16777216) (h2 : mv.size ≤ 16777216) (k : Nat) : ((us ++ [(mn, mv)]).getD k default).1.size ≤ 16777216 ∧ ((us ++ [(mn, mv)]).getD k default).2.size ≤ 16777216 := by
  by_cases h : k < us.length
  · have := hz k
    rwa [List.getD_eq_getElem?_getD, ← List.getElem?_append_left (l₂ := [(mn, mv)]) h, ← List.getD_eq_getElem?_getD] at this
  · have := one_small h1 h2 (k - us.length)
    rwa [List.getD_eq_getElem?_getD, ← List.getElem?_append_right (l₁ := us) (by omega), ← List.getD_eq_getElem?_getD] at this
theorem one_pair {w : World} {b : Nat} {mn mv : ByteArray} (h : Blk w b 48 #[.string mn, .string mv]) : PairsAt w w.heap.size (some ⟨b, 0, none⟩) [(mn, mv)] := fun _ => ⟨b, 0, rfl, h.lt, fun k hk => by
  obtain rfl : k = 0 := by simp at hk; exact hk
  exact ⟨h.cell 0, h.cell 1⟩⟩
theorem flat_at : ∀ (us : List (ByteArray × ByteArray)) (k : Nat) (h : k < us.length), (us.flatMap prC)[k * 2]? = some (.string us[k].1) ∧ (us.flatMap prC)[k * 2 + 1]? = some (.string us[k].2)
  | u :: l, 0, _ => by simp [prC]
  | u :: l, k + 1, h => by
    have := flat_at l k (by simpa using h)
    rw [List.flatMap_cons, show (k + 1) * 2 = 2 + k * 2 by omega, show 2 + k * 2 + 1 = 2 + (k * 2 + 1) by omega]
    rw [List.getElem?_append_right (by simp [prC]), List.getElem?_append_right (by simp [prC])]
    simp only [prC, List.length_cons, List.length_nil, show 2 + k * 2 - (0 + 1 + 1) = k * 2 by omega, show 2 + (k * 2 + 1) - (0 + 1 + 1) = k * 2 + 1 by omega, List.getElem_cons_succ]
    exact this
theorem flat_len : ∀ us : List (ByteArray × ByteArray), (us.flatMap prC).length = us.length * 2
  | [] => rfl
  | u :: l => by rw [List.flatMap_cons, List.length_append, flat_len l, List.length_cons]; simp [prC]; omega
theorem reads_pairs {w : World} {B : Nat} {A : Option Addr} {us : List (ByteArray × ByteArray)} (h : PairsAt w B A us) : Reads w B 2 A us.length (us.flatMap prC) := ⟨flat_len us, fun h0 => by
  obtain ⟨b, off, rfl, hb, hc⟩ := h h0
  refine ⟨⟨b, off, none⟩, rfl, hb, fun j u hu => ?_⟩
  have hj : j < us.length * 2 := by
    rw [← flat_len]
    exact (List.getElem?_eq_some_iff.1 hu).1
  have hk : j / 2 < us.length := by omega
  obtain ⟨h1, h2⟩ := hc (j / 2) hk
  obtain ⟨f1, f2⟩ := flat_at us (j / 2) hk
  have e : us.getD (j / 2) default = us[j / 2] := by simp [hk]
  rw [e] at h1 h2
  have ha : (⟨b, off, none⟩ : Addr).add j = ⟨b, off + j, none⟩ := by unfold Addr.add; split <;> simp_all
  rw [ha]
  rcases Nat.mod_two_eq_zero_or_one j with hm | hm
  · have ej : j / 2 * 2 = j := by omega
    rw [ej] at h1 f1
    rw [f1] at hu
    cases hu
    exact h1
  · have ej : j / 2 * 2 + 1 = j := by omega
    rw [Nat.add_assoc, ej] at h2
    rw [ej] at f2
    rw [f2] at hu
    cases hu
    exact h2⟩
theorem pairs_own {w : World} {base n : Nat} {v : Value} {us : List (ByteArray × ByteArray)} (h : w.ownsRow base 48 2 v n (us.flatMap prC)) (hn : n = us.length) (h0 : 0 < n) : ∃ A c, v = .slice A us.length c ∧ PairsAt w w.heap.size A us := by
  subst hn
  obtain ⟨g, cap, rfl, _, hlt⟩ := h.form h0
  refine ⟨_, _, rfl, fun _ => ⟨g, 0, rfl, hlt, fun k hk => ?_⟩⟩
  obtain ⟨f1, f2⟩ := flat_at us k hk
  have hc := h.cells (g := g) rfl
  have e : us.getD k default = us[k] := by simp [hk]
  rw [e, Nat.zero_add]
  exact ⟨addr_add0 (hc _ _ f1), addr_add0 (hc _ _ f2)⟩
theorem pairs_own2 {w : World} {base n c : Nat} {g : Nat} {us : List (ByteArray × ByteArray)} (h : w.ownsRow base 48 2 (.slice (some ⟨g, 0, none⟩) n c) n (us.flatMap prC)) (hn : n = us.length) (h0 : 0 < n) : PairsAt w w.heap.size (some ⟨g, 0, none⟩) us := by
  obtain ⟨A, c', e, hp⟩ := pairs_own h hn h0
  injection e with e1
  exact e1 ▸ hp
theorem cell_farS {w : World} {p q : Addr} {v : Value} (h : q.block ≠ p.block) : (w.setCell p v).cell? q = w.cell? q := World.cell?_of_block (Below.heap_setCell w p v q.block h)
theorem pairs_far {w : World} {g : Nat} {us : List (ByteArray × ByteArray)} (h : PairsAt w w.heap.size (some ⟨g, 0, none⟩) us) {p : Addr} (hp : p.block ≠ g) (v : Value) : PairsAt (w.setCell p v) (w.setCell p v).heap.size (some ⟨g, 0, none⟩) us := fun h0 => by
  obtain ⟨b, off, e, hb, hc⟩ := h h0
  cases e
  exact ⟨g, 0, rfl, by simpa using hb, fun k hk => ⟨(cell_farS (Ne.symm hp)).trans (hc k hk).1, (cell_farS (Ne.symm hp)).trans (hc k hk).2⟩⟩
theorem two_old {w w' : World} {g h : Nat} {a0 a1 a2 a3 b0 b1 b2 b3 : Value} (h1 : Blk w g 25 #[a0, a1, a2, a3]) (h2 : Blk w h 25 #[b0, b1, b2, b3]) (hb : Below w.heap.size w w') :
    (((((w'.alloc (.cells #[.int .i64 0, .int .i64 0, .string ⟨#[]⟩, .slice none 0 0] 25)).alloc (.cells #[.int .i64 0, .int .i64 0, .string ⟨#[]⟩, .slice none 0 0] 25)).cell? ⟨g, 0, none⟩ = some a0 ∧ ((w'.alloc (.cells #[.int .i64 0, .int .i64 0, .string ⟨#[]⟩, .slice none 0 0] 25)).alloc (.cells #[.int .i64 0, .int .i64 0, .string ⟨#[]⟩, .slice none 0 0] 25)).cell? ⟨g, 1, none⟩ = some a1 ∧ ((w'.alloc (.cells #[.int .i64 0, .int .i64 0, .string ⟨#[]⟩, .slice none 0 0] 25)).alloc (.cells #[.int .i64 0, .int .i64 0, .string ⟨#[]⟩, .slice none 0 0] 25)).cell? ⟨g, 2, none⟩ = some a2 ∧ ((w'.alloc (.cells #[.int .i64 0, .int .i64 0, .string ⟨#[]⟩, .slice none 0 0] 25)).alloc (.cells #[.int .i64 0, .int .i64 0, .string ⟨#[]⟩, .slice none 0 0] 25)).cell? ⟨g, 3, none⟩ = some a3) ∧ ((w'.alloc (.cells #[.int .i64 0, .int .i64 0, .string ⟨#[]⟩, .slice none 0 0] 25)).alloc (.cells #[.int .i64 0, .int .i64 0, .string ⟨#[]⟩, .slice none 0 0] 25)).frozen? ⟨g, 0, none⟩ = false ∧ ((w'.alloc (.cells #[.int .i64 0, .int .i64 0, .string ⟨#[]⟩, .slice none 0 0] 25)).alloc (.cells #[.int .i64 0, .int .i64 0, .string ⟨#[]⟩, .slice none 0 0] 25)).frozen? ⟨g, 1, none⟩ = false ∧ ((w'.alloc (.cells #[.int .i64 0, .int .i64 0, .string ⟨#[]⟩, .slice none 0 0] 25)).alloc (.cells #[.int .i64 0, .int .i64 0, .string ⟨#[]⟩, .slice none 0 0] 25)).frozen? ⟨g, 2, none⟩ = false ∧ ((w'.alloc (.cells #[.int .i64 0, .int .i64 0, .string ⟨#[]⟩, .slice none 0 0] 25)).alloc (.cells #[.int .i64 0, .int .i64 0, .string ⟨#[]⟩, .slice none 0 0] 25)).frozen? ⟨g, 3, none⟩ = false) ∧ ((((w'.alloc (.cells #[.int .i64 0, .int .i64 0, .string ⟨#[]⟩, .slice none 0 0] 25)).alloc (.cells #[.int .i64 0, .int .i64 0, .string ⟨#[]⟩, .slice none 0 0] 25)).cell? ⟨h, 0, none⟩ = some b0 ∧ ((w'.alloc (.cells #[.int .i64 0, .int .i64 0, .string ⟨#[]⟩, .slice none 0 0] 25)).alloc (.cells #[.int .i64 0, .int .i64 0, .string ⟨#[]⟩, .slice none 0 0] 25)).cell? ⟨h, 1, none⟩ = some b1 ∧ ((w'.alloc (.cells #[.int .i64 0, .int .i64 0, .string ⟨#[]⟩, .slice none 0 0] 25)).alloc (.cells #[.int .i64 0, .int .i64 0, .string ⟨#[]⟩, .slice none 0 0] 25)).cell? ⟨h, 2, none⟩ = some b2 ∧ ((w'.alloc (.cells #[.int .i64 0, .int .i64 0, .string ⟨#[]⟩, .slice none 0 0] 25)).alloc (.cells #[.int .i64 0, .int .i64 0, .string ⟨#[]⟩, .slice none 0 0] 25)).cell? ⟨h, 3, none⟩ = some b3) ∧ ((w'.alloc (.cells #[.int .i64 0, .int .i64 0, .string ⟨#[]⟩, .slice none 0 0] 25)).alloc (.cells #[.int .i64 0, .int .i64 0, .string ⟨#[]⟩, .slice none 0 0] 25)).frozen? ⟨h, 0, none⟩ = false ∧ ((w'.alloc (.cells #[.int .i64 0, .int .i64 0, .string ⟨#[]⟩, .slice none 0 0] 25)).alloc (.cells #[.int .i64 0, .int .i64 0, .string ⟨#[]⟩, .slice none 0 0] 25)).frozen? ⟨h, 1, none⟩ = false ∧ ((w'.alloc (.cells #[.int .i64 0, .int .i64 0, .string ⟨#[]⟩, .slice none 0 0] 25)).alloc (.cells #[.int .i64 0, .int .i64 0, .string ⟨#[]⟩, .slice none 0 0] 25)).frozen? ⟨h, 2, none⟩ = false ∧ ((w'.alloc (.cells #[.int .i64 0, .int .i64 0, .string ⟨#[]⟩, .slice none 0 0] 25)).alloc (.cells #[.int .i64 0, .int .i64 0, .string ⟨#[]⟩, .slice none 0 0] 25)).frozen? ⟨h, 3, none⟩ = false)) :=
  ⟨z8 (((blk_below h1 hb).alloc _).alloc _), z8 (((blk_below h2 hb).alloc _).alloc _)⟩
theorem four_stores {W : World} {g h a b : Nat} {t : TypeId} {x0 x1 x2 x3 y0 y1 y2 y3 z0 z1 z2 z3 v0 v1 v2 v3 : Value} (h1 : Blk W g t #[x0, x1, x2, x3]) (h2 : Blk W a t #[y0, y1, y2, y3]) (h3 : Blk W h t #[z0, z1, z2, z3]) (h4 : Blk W b t #[v0, v1, v2, v3]) (e1 : g ≠ a) (e2 : g ≠ h) (e3 : g ≠ b) (e4 : a ≠ h) (e5 : a ≠ b) (e6 : h ≠ b) (u0 u1 u2 u3 u4 u5 u6 u7 u8 u9 u10 u11 u12 u13 u14 u15 : Value) :
    Blk (((((((((((((((((W).setCell ⟨g, 0, none⟩ (u0)).setCell ⟨g, 1, none⟩ (u1)).setCell ⟨g, 2, none⟩ (u2)).setCell ⟨g, 3, none⟩ (u3)).setCell ⟨a, 0, none⟩ (u4)).setCell ⟨a, 1, none⟩ (u5)).setCell ⟨a, 2, none⟩ (u6)).setCell ⟨a, 3, none⟩ (u7)).setCell ⟨h, 0, none⟩ (u8)).setCell ⟨h, 1, none⟩ (u9)).setCell ⟨h, 2, none⟩ (u10)).setCell ⟨h, 3, none⟩ (u11)).setCell ⟨b, 0, none⟩ (u12)).setCell ⟨b, 1, none⟩ (u13)).setCell ⟨b, 2, none⟩ (u14)).setCell ⟨b, 3, none⟩ (u15)) g t #[u0, u1, u2, u3] ∧ Blk (((((((((((((((((W).setCell ⟨g, 0, none⟩ (u0)).setCell ⟨g, 1, none⟩ (u1)).setCell ⟨g, 2, none⟩ (u2)).setCell ⟨g, 3, none⟩ (u3)).setCell ⟨a, 0, none⟩ (u4)).setCell ⟨a, 1, none⟩ (u5)).setCell ⟨a, 2, none⟩ (u6)).setCell ⟨a, 3, none⟩ (u7)).setCell ⟨h, 0, none⟩ (u8)).setCell ⟨h, 1, none⟩ (u9)).setCell ⟨h, 2, none⟩ (u10)).setCell ⟨h, 3, none⟩ (u11)).setCell ⟨b, 0, none⟩ (u12)).setCell ⟨b, 1, none⟩ (u13)).setCell ⟨b, 2, none⟩ (u14)).setCell ⟨b, 3, none⟩ (u15)) a t #[u4, u5, u6, u7] ∧ Blk (((((((((((((((((W).setCell ⟨g, 0, none⟩ (u0)).setCell ⟨g, 1, none⟩ (u1)).setCell ⟨g, 2, none⟩ (u2)).setCell ⟨g, 3, none⟩ (u3)).setCell ⟨a, 0, none⟩ (u4)).setCell ⟨a, 1, none⟩ (u5)).setCell ⟨a, 2, none⟩ (u6)).setCell ⟨a, 3, none⟩ (u7)).setCell ⟨h, 0, none⟩ (u8)).setCell ⟨h, 1, none⟩ (u9)).setCell ⟨h, 2, none⟩ (u10)).setCell ⟨h, 3, none⟩ (u11)).setCell ⟨b, 0, none⟩ (u12)).setCell ⟨b, 1, none⟩ (u13)).setCell ⟨b, 2, none⟩ (u14)).setCell ⟨b, 3, none⟩ (u15)) h t #[u8, u9, u10, u11] ∧ Keeps (fun j => j = g ∨ j = a ∨ j = h ∨ j = b) W (((((((((((((((((W).setCell ⟨g, 0, none⟩ (u0)).setCell ⟨g, 1, none⟩ (u1)).setCell ⟨g, 2, none⟩ (u2)).setCell ⟨g, 3, none⟩ (u3)).setCell ⟨a, 0, none⟩ (u4)).setCell ⟨a, 1, none⟩ (u5)).setCell ⟨a, 2, none⟩ (u6)).setCell ⟨a, 3, none⟩ (u7)).setCell ⟨h, 0, none⟩ (u8)).setCell ⟨h, 1, none⟩ (u9)).setCell ⟨h, 2, none⟩ (u10)).setCell ⟨h, 3, none⟩ (u11)).setCell ⟨b, 0, none⟩ (u12)).setCell ⟨b, 1, none⟩ (u13)).setCell ⟨b, 2, none⟩ (u14)).setCell ⟨b, 3, none⟩ (u15)) := by
  obtain ⟨b1, k1⟩ := Ut.store4 h1 u0 u1 u2 u3
  obtain ⟨b2, k2⟩ := Ut.store4 (h2.keeps k1 (Ne.symm e1)) u4 u5 u6 u7
  obtain ⟨b3, k3⟩ := Ut.store4 ((h3.keeps k1 (Ne.symm e2)).keeps k2 (Ne.symm e4)) u8 u9 u10 u11
  obtain ⟨_, k4⟩ := Ut.store4 (((h4.keeps k1 (Ne.symm e3)).keeps k2 (Ne.symm e5)).keeps k3 (Ne.symm e6)) u12 u13 u14 u15
  exact ⟨((b1.keeps k2 e1).keeps k3 e2).keeps k4 e3, (b2.keeps k3 e4).keeps k4 e5, b3.keeps k4 e6, (((k1.mono (fun _ _ e => .inl e)).trans (k2.mono (fun _ _ e => .inr (.inl e)))).trans (k3.mono (fun _ _ e => .inr (.inr (.inl e))))).trans (k4.mono (fun _ _ e => .inr (.inr (.inr e))))⟩
theorem own_zero {w : World} {base n : Nat} {v : Value} {us : List (ByteArray × ByteArray)} (h : w.ownsRow base 48 2 v (0 + n) ([] ++ us.flatMap prC)) (hn : n = us.length := by rfl) : SetRow w base v us := by
  subst hn
  rw [Nat.zero_add] at h
  exact h
theorem blk_drew {w : World} {g : Nat} {t : TypeId} {cs : Array Value} (h : Blk w g t cs) : Blk w.drew g t cs := h
section
variable (rm rp ry rb bd mn mv : ByteArray) (A0 : Option Addr) (c0 : Nat) (us : List (ByteArray × ByteArray))
/-- raw.Lists, its posted list by its name. -/
theorem lists_at (b : ByteArray) (A : Option Addr) (c : Nat) (us : List (ByteArray × ByteArray)) (w : World) (hA : PairsAt w w.heap.size A us) (hn : us.length ≤ 4194304) (hz : ∀ k, (us.getD k default).1.size ≤ 16777216 ∧ (us.getD k default).2.size ≤ 16777216) (hm : rm.size ≤ 16777216) (hp : rp.size ≤ 16777216) (hy : ry.size ≤ 16777216) (hb : b.size ≤ 16777216)
    (hL : LibS w) (m : Int) (hmx : w.cell? ⟨0, 0, none⟩ = some (.int .i64 m)) :
    Calls Tryz.prog 19 #[.agg #[.string rm, .string rp, .string ry, .slice A us.length c, .string b]] w fun e w' => ∃ y0 y1 y2 y3, e = .returned (.tuple #[y0, y1, y2, y3]) ∧ VIn w' (fun b => w.heap.size ≤ b ∧ b < w'.heap.size) (Ut.queryG ry.data.toList) y0 ∧ VIn w' (fun b => w.heap.size ≤ b ∧ b < w'.heap.size) (postG rm b us) y1 ∧ VIn w' (fun b => w.heap.size ≤ b ∧ b < w'.heap.size) (cookG us) y2 ∧ VIn w' (fun b => w.heap.size ≤ b ∧ b < w'.heap.size) (serverG rm rp ry us) y3 ∧ Below w.heap.size w w' := by
  obtain ⟨pn, pgs, hpg⟩ := post_form rm b us hb
  rw [hpg]
  exact lists_any rm rp ry b A c us w hA hn hz hm hp hy hb hL m hmx pn pgs hpg
set_option maxRecDepth 100000 in
set_option maxHeartbeats 8000000 in
theorem rawApart_any (w : World) (hA : PairsAt w w.heap.size A0 us) (hn : us.length ≤ 4194303) (hz : ∀ k, (us.getD k default).1.size ≤ 16777216 ∧ (us.getD k default).2.size ≤ 16777216) (hm : rm.size ≤ 16777216) (hp : rp.size ≤ 16777216) (hy : ry.size ≤ 16777216) (hb : rb.size ≤ 16777216) (hbd : bd.size ≤ 16777216) (hmn : mn.size ≤ 16777216) (hmv : mv.size ≤ 16777216)
    (hL : LibS w) (m : Int) (hmx : w.cell? ⟨0, 0, none⟩ = some (.int .i64 m)) :
    Calls Tryz.prog 7 #[.agg #[.string rm, .string rp, .string ry, .slice A0 us.length c0, .string rb], .string bd, .agg #[.string mn, .string mv]] w fun e w' => e = .returned (.bool true) ∧ Below w.heap.size w w' := by
  have HMx := Lib.hid (fun wz (hb : Below w.heap.size w wz) => (hb.cell (p := ⟨0, 0, none⟩) (World.block_lt_of_cell? w _ hmx)).trans hmx)
  have HAl := Lib.hid (fun wz (hb : Below w.heap.size w wz) => alive10 wz (hL.below hb) m (HMx.out wz hb))
  have HQa := Lib.hid (fun wz (h : Below w.heap.size w wz) => lists_at rm rp ry rb A0 c0 us wz (hA.below h) (by omega) hz hm hp hy hb (hL.below h) m (HMx.out wz h))
  have HQb := Lib.hid (fun wz (h : Below w.heap.size w wz) => lists_at rm rp ry bd A0 c0 us wz (hA.below h) (by omega) hz hm hp hy hbd (hL.below h) m (HMx.out wz h))
  have HQc := Lib.hid (fun wz A c (hA : PairsAt wz wz.heap.size A (us ++ [(mn, mv)])) (h : Below w.heap.size w wz) => lists_at rm rp ry rb A c (us ++ [(mn, mv)]) wz hA (by simp; omega) (bounds_app hz hmn hmv) hm hp hy hb (hL.below h) m (HMx.out wz h))
  have HHd : Hid (∀ (n : ByteArray) (wz : World) (b0 : Nat), Blk wz b0 48 #[.string mn, .string mv] → Calls Tryz.prog 22 #[.agg #[.string ⟨#[]⟩, .string ⟨#[]⟩, .string ⟨#[]⟩, .slice (some ⟨b0, 0, none⟩) 1 1, .string ⟨#[]⟩], .string n] wz fun e w' => (∃ s, e = .returned (.tuple #[.string s, .bool (sameS mn n)])) ∧ Below wz.heap.size wz w') := fun n wz b0 hB => by
    obtain ⟨s, hs⟩ := found_one n (mn, mv)
    have h := head_any ⟨#[]⟩ ⟨#[]⟩ ⟨#[]⟩ ⟨#[]⟩ n (some ⟨b0, 0, none⟩) 1 [(mn, mv)] wz (one_pair hB) (by simp) (fun k => by have := (one_small (mv := mv) hmn hmv k).1; omega)
    rw [hs] at h
    exact h.mono fun e w' ⟨he, hb⟩ => ⟨⟨s, he⟩, hb⟩
  have HA1 := Lib.hid (fun wz (h : Below w.heap.size w wz) => hA.below h)
  clear hA hz hL hmx HMx
  obtain ⟨wA, hwA⟩ : ∃ z, (w.alloc (.cells #[.string rm, .string rp, .string ry, .slice A0 us.length c0, .string rb] 43)).alloc (.cells #[.string mn, .string mv] 48) = z := ⟨_, rfl⟩
  have HA := Lib.hid (((Below.refl w.heap.size w).alloc (Nat.le_refl _) (.cells #[.string rm, .string rp, .string ry, .slice A0 us.length c0, .string rb] 43)).alloc (by simp) (.cells #[.string mn, .string mv] 48))
  have HQ := Lib.hid (two_new w 43 48 #[.string rm, .string rp, .string ry, .slice A0 us.length c0, .string rb] #[.string mn, .string mv])
  rw [hwA] at HA HQ
  have HwA := Lib.hid hwA
  clear hwA
  go_enter Tryz.func7, Tryz.ntmps7
  go_upto_region 1 with fail
  rw [HwA.out]
  clear HwA
  have q0 : wA.cell? ⟨w.heap.size, 0, none⟩ = some (.string rm) := HQ.out.1.cell 0
  have q1 : wA.cell? ⟨w.heap.size, 1, none⟩ = some (.string rp) := HQ.out.1.cell 1
  have q2 : wA.cell? ⟨w.heap.size, 2, none⟩ = some (.string ry) := HQ.out.1.cell 2
  have q3 : wA.cell? ⟨w.heap.size, 3, none⟩ = some (.slice A0 us.length c0) := HQ.out.1.cell 3
  have q4 : wA.cell? ⟨w.heap.size, 4, none⟩ = some (.string rb) := HQ.out.1.cell 4
  go_upto_region 2 with (go_at_call 19; refine (HQa.out _ HA.out).mono ?_; rintro e w1 ⟨yv0, yv1, yv2, yv3, rfl, v0, v1, v2, v3, hb1⟩; obtain ⟨yk0, yn0, yt0, yl0, yA0, yc0, rfl⟩ := vin_form v0; obtain ⟨yk1, yn1, yt1, yl1, yA1, yc1, rfl⟩ := vin_form v1; obtain ⟨yk2, yn2, yt2, yl2, yA2, yc2, rfl⟩ := vin_form v2; obtain ⟨yk3, yn3, yt3, yl3, yA3, yc3, rfl⟩ := vin_form v3; have HVy := Lib.hid (And.intro v0 (And.intro v1 (And.intro v2 v3))); have HBy := Lib.hid hb1; clear v0 v1 v2 v3 hb1 q0 q1 q2 q3 q4)
  have HF := Lib.hid (four_all w1 25 #[.int .i64 yk0, .int .i64 yn0, .string yt0, .slice yA0 yl0 yc0] #[.int .i64 yk1, .int .i64 yn1, .string yt1, .slice yA1 yl1 yc1] #[.int .i64 yk2, .int .i64 yn2, .string yt2, .slice yA2 yl2 yc2] #[.int .i64 yk3, .int .i64 yn3, .string yt3, .slice yA3 yl3 yc3])
  generalize (((w1.alloc (.cells #[.int .i64 yk0, .int .i64 yn0, .string yt0, .slice yA0 yl0 yc0] 25)).alloc (.cells #[.int .i64 yk1, .int .i64 yn1, .string yt1, .slice yA1 yl1 yc1] 25)).alloc (.cells #[.int .i64 yk2, .int .i64 yn2, .string yt2, .slice yA2 yl2 yc2] 25)).alloc (.cells #[.int .i64 yk3, .int .i64 yn3, .string yt3, .slice yA3 yl3 yc3] 25) = wF at *
  have HBf : Hid (Below w.heap.size w wF) := HA.out.trans ((HBy.out.trans (HF.out.1.mono HBy.out.size)).mono HA.out.size)
  have HQ1 : Hid (Blk wF w.heap.size 43 #[.string rm, .string rp, .string ry, .slice A0 us.length c0, .string rb] ∧ Blk wF (w.heap.size + 1) 48 #[.string mn, .string mv]) := ⟨blk_below (blk_below HQ.out.1 HBy.out) HF.out.1, blk_below (blk_below HQ.out.2 HBy.out) HF.out.1⟩
  have q0 : wF.cell? ⟨w.heap.size, 0, none⟩ = some (.string rm) := HQ1.out.1.cell 0
  have q1 : wF.cell? ⟨w.heap.size, 1, none⟩ = some (.string rp) := HQ1.out.1.cell 1
  have q2 : wF.cell? ⟨w.heap.size, 2, none⟩ = some (.string ry) := HQ1.out.1.cell 2
  have q3 : wF.cell? ⟨w.heap.size, 3, none⟩ = some (.slice A0 us.length c0) := HQ1.out.1.cell 3
  have q4 : wF.cell? ⟨w.heap.size, 4, none⟩ = some (.string rb) := HQ1.out.1.cell 4
  go_upto_region 4 with fail
  have HQg := Lib.hid (Blk.new wF 43 #[.string rm, .string rp, .string ry, .slice A0 us.length c0, .string bd])
  have HBg0 := Lib.hid ((Below.refl wF.heap.size wF).alloc (Nat.le_refl _) (.cells #[.string rm, .string rp, .string ry, .slice A0 us.length c0, .string bd] 43))
  generalize wF.alloc (.cells #[.string rm, .string rp, .string ry, .slice A0 us.length c0, .string bd] 43) = wG at *
  have HBg := Lib.hid (HBf.out.trans (HBg0.out.mono HBf.out.size))
  clear q0 q1 q2 q3 q4
  have q0 : wG.cell? ⟨wF.heap.size, 0, none⟩ = some (.string rm) := HQg.out.cell 0
  have q1 : wG.cell? ⟨wF.heap.size, 1, none⟩ = some (.string rp) := HQg.out.cell 1
  have q2 : wG.cell? ⟨wF.heap.size, 2, none⟩ = some (.string ry) := HQg.out.cell 2
  have q3 : wG.cell? ⟨wF.heap.size, 3, none⟩ = some (.slice A0 us.length c0) := HQg.out.cell 3
  have q4 : wG.cell? ⟨wF.heap.size, 4, none⟩ = some (.string bd) := HQg.out.cell 4
  go_upto_region 5 with (go_at_call 19; refine (HQb.out _ HBg.out).mono ?_; rintro e w2 ⟨xv0, xv1, xv2, xv3, rfl, v0, v1, v2, v3, hb1⟩; obtain ⟨xk0, xn0, xt0, xl0, xA0, xc0, rfl⟩ := vin_form v0; obtain ⟨xk1, xn1, xt1, xl1, xA1, xc1, rfl⟩ := vin_form v1; obtain ⟨xk2, xn2, xt2, xl2, xA2, xc2, rfl⟩ := vin_form v2; obtain ⟨xk3, xn3, xt3, xl3, xA3, xc3, rfl⟩ := vin_form v3; have HVx := Lib.hid (And.intro v0 (And.intro v1 (And.intro v2 v3))); have HBx := Lib.hid hb1; clear v0 v1 v2 v3 hb1)
  have HG := Lib.hid (four_all w2 25 #[.int .i64 xk0, .int .i64 xn0, .string xt0, .slice xA0 xl0 xc0] #[.int .i64 xk1, .int .i64 xn1, .string xt1, .slice xA1 xl1 xc1] #[.int .i64 xk2, .int .i64 xn2, .string xt2, .slice xA2 xl2 xc2] #[.int .i64 xk3, .int .i64 xn3, .string xt3, .slice xA3 xl3 xc3])
  generalize (((w2.alloc (.cells #[.int .i64 xk0, .int .i64 xn0, .string xt0, .slice xA0 xl0 xc0] 25)).alloc (.cells #[.int .i64 xk1, .int .i64 xn1, .string xt1, .slice xA1 xl1 xc1] 25)).alloc (.cells #[.int .i64 xk2, .int .i64 xn2, .string xt2, .slice xA2 xl2 xc2] 25)).alloc (.cells #[.int .i64 xk3, .int .i64 xn3, .string xt3, .slice xA3 xl3 xc3] 25) = wH at *
  have HL12 : Hid (Below w1.heap.size w1 w2) := HF.out.1.trans ((HBg0.out.trans (HBx.out.mono HBg0.out.size)).mono HF.out.1.size)
  have HL1H : Hid (Below w1.heap.size w1 wH) := HL12.out.trans (HG.out.1.mono HL12.out.size)
  have HBH : Hid (Below w.heap.size w wH) := HBg.out.trans ((HBx.out.trans (HG.out.1.mono HBx.out.size)).mono HBg.out.size)
  have HQ2 : Hid (Blk wH w.heap.size 43 #[.string rm, .string rp, .string ry, .slice A0 us.length c0, .string rb] ∧ Blk wH (w.heap.size + 1) 48 #[.string mn, .string mv] ∧ Blk wH wF.heap.size 43 #[.string rm, .string rp, .string ry, .slice A0 us.length c0, .string bd]) :=
    have k (g : Nat) (t : TypeId) (cs : Array Value) (h : Blk wG g t cs) : Blk wH g t cs := blk_below (blk_below h HBx.out) HG.out.1
    ⟨k _ _ _ (blk_below HQ1.out.1 HBg0.out), k _ _ _ (blk_below HQ1.out.2 HBg0.out), k _ _ _ HQg.out⟩
  have HY : Hid (Blk wH w1.heap.size 25 #[.int .i64 yk0, .int .i64 yn0, .string yt0, .slice yA0 yl0 yc0] ∧ Blk wH (w1.heap.size + 1 + 1) 25 #[.int .i64 yk2, .int .i64 yn2, .string yt2, .slice yA2 yl2 yc2] ∧ Blk wH (w1.heap.size + 1 + 1 + 1) 25 #[.int .i64 yk3, .int .i64 yn3, .string yt3, .slice yA3 yl3 yc3]) :=
    have k (g : Nat) (t : TypeId) (cs : Array Value) (h : Blk wF g t cs) : Blk wH g t cs := blk_below (blk_below (blk_below h HBg0.out) HBx.out) HG.out.1
    ⟨k _ _ _ HF.out.2.1, k _ _ _ HF.out.2.2.2.1, k _ _ _ HF.out.2.2.2.2⟩
  have HX : Hid (Blk wH w2.heap.size 25 #[.int .i64 xk0, .int .i64 xn0, .string xt0, .slice xA0 xl0 xc0] ∧ Blk wH (w2.heap.size + 1 + 1) 25 #[.int .i64 xk2, .int .i64 xn2, .string xt2, .slice xA2 xl2 xc2] ∧ Blk wH (w2.heap.size + 1 + 1 + 1) 25 #[.int .i64 xk3, .int .i64 xn3, .string xt3, .slice xA3 xl3 xc3]) := ⟨HG.out.2.1, HG.out.2.2.2.1, HG.out.2.2.2.2⟩
  have HAy : Hid (∀ (g : GV) (y : Value), VIn w1 (fun b => wA.heap.size ≤ b ∧ b < w1.heap.size) g y → VAt w2 w2.heap.size g y) := fun g y h => (h.under HL12.out (fun b hb => hb.2)).at_ (fun b hb hS => hb) (fun b hS => Nat.lt_of_lt_of_le hS.2 HL12.out.size)
  have HAx : Hid (∀ (g : GV) (y : Value), VIn w2 (fun b => wG.heap.size ≤ b ∧ b < w2.heap.size) g y → VAt w2 w2.heap.size g y) := fun g y h => h.at_ (fun b hb hS => hb) (fun b hS => hS.2)
  have HLo : Hid (∀ wz, Below wH.heap.size wH wz → Below w2.heap.size w2 wz) := fun wz h => HG.out.1.trans (h.mono HG.out.1.size)
  have HN := Lib.hid (And.intro (fun wz (h : Below wH.heap.size wH wz) => raw_same (Nat.le_refl _) (HAy.out _ _ HVy.out.1) (HAx.out _ _ HVx.out.1) wz (HLo.out wz h)) (And.intro (fun wz (h : Below wH.heap.size wH wz) => raw_same (Nat.le_refl _) (HAy.out _ _ HVy.out.2.2.1) (HAx.out _ _ HVx.out.2.2.1) wz (HLo.out wz h)) (And.intro (fun wz (h : Below wH.heap.size wH wz) => raw_same (Nat.le_refl _) (HAy.out _ _ HVy.out.2.2.2) (HAx.out _ _ HVx.out.2.2.2) wz (HLo.out wz h)) trivial)))
  have HM := Lib.hid (And.intro (fun wz (h : Below wH.heap.size wH wz) => And.intro (blk_below HY.out.2.1 h) (blk_below HX.out.2.1 h)) (And.intro (fun wz (h : Below wH.heap.size wH wz) => And.intro (blk_below HY.out.2.2 h) (blk_below HX.out.2.2 h)) (And.intro (fun wz (h : Below wH.heap.size wH wz) => And.intro (blk_below HY.out.2.2 h) (blk_below HX.out.2.2 h)) trivial)))
  have HC := Lib.hid (Below.refl wH.heap.size wH)
  obtain ⟨⟨a0, a1, a2, a3⟩, _⟩ := z8 HY.out.1
  obtain ⟨⟨b0, b1, b2, b3⟩, _⟩ := z8 HX.out.1
  have HLF : Hid (w1.heap.size + 1 + 1 + 1 < wF.heap.size ∧ wF.heap.size < w2.heap.size) := ⟨HF.out.2.2.2.2.lt, Nat.lt_of_lt_of_le HQg.out.lt HBx.out.size⟩
  have HLw : Hid (w.heap.size + 1 < wF.heap.size) := HQ1.out.2.lt
  clear HF HG HAy HAx HQ HQ1 HQg HQb HA HBx HBf HBg0 HL12 q0 q1 q2 q3 q4
  go_upto_region 7 with (first
    | (go_at_call 9; refine (HN.out.1 _ HC.out).mono ?_; rintro e w3 ⟨rfl, hb⟩; have HC := Lib.hid (HC.out.trans (hb.mono HC.out.size)); clear hb a0 a1 a2 a3 b0 b1 b2 b3; obtain ⟨⟨a0, a1, a2, a3⟩, _⟩ := z8 (HM.out.1 _ HC.out).1; obtain ⟨⟨b0, b1, b2, b3⟩, _⟩ := z8 (HM.out.1 _ HC.out).2; have HN := Lib.hid HN.out.2; have HM := Lib.hid HM.out.2)
    | (go_at_call 21; refine (HAl.out _ (HBH.out.trans (HC.out.mono HBH.out.size))).mono ?_; rintro e wI ⟨rfl, hb5⟩; have HC := Lib.hid (HC.out.trans (hb5.mono HC.out.size)); clear hb5 a0 a1 a2 a3 b0 b1 b2 b3))
  clear HN HM HLo
  have HQI := Lib.hid (And.intro (blk_below HQ2.out.1 HC.out) (And.intro (blk_below HQ2.out.2.1 HC.out) (blk_below HQ2.out.2.2 HC.out)))
  have HYI := Lib.hid (And.intro (blk_below HY.out.1 HC.out) (blk_below HY.out.2.1 HC.out))
  have HXI := Lib.hid (And.intro (blk_below HX.out.1 HC.out) (blk_below HX.out.2.1 HC.out))
  have HBI := Lib.hid (HBH.out.trans (HC.out.mono HBH.out.size))
  have HL1I := Lib.hid (HL1H.out.trans (HC.out.mono HL1H.out.size))
  clear HQ2 HY HX HBH HL1H HC
  have e0 : wI.cell? ⟨w.heap.size + 1, 0, none⟩ = some (.string mn) := HQI.out.2.1.cell 0
  have e1 : wI.cell? ⟨w.heap.size + 1, 1, none⟩ = some (.string mv) := HQI.out.2.1.cell 1
  have HPn := Lib.hid (Blk.new wI 48 #[.string mn, .string mv])
  have HPb := Lib.hid ((Below.refl wI.heap.size wI).alloc (Nat.le_refl _) (.cells #[.string mn, .string mv] 48))
  go_upto_region 8 with (go_at_call 22; refine (HHd.out ⟨#[99, 111, 111, 107, 105, 101]⟩ _ wI.heap.size HPn.out).mono ?_; rintro e wJ ⟨⟨s1, rfl⟩, hb6⟩; have HBJ := Lib.hid (HPb.out.trans (hb6.mono HPb.out.size)); clear hb6 e0 e1)
  clear HPn HPb
  have e0 : wJ.cell? ⟨w.heap.size + 1, 0, none⟩ = some (.string mn) := (blk_below HQI.out.2.1 HBJ.out).cell 0
  have e1 : wJ.cell? ⟨w.heap.size + 1, 1, none⟩ = some (.string mv) := (blk_below HQI.out.2.1 HBJ.out).cell 1
  have HPn := Lib.hid (Blk.new wJ 48 #[.string mn, .string mv])
  have HPb := Lib.hid ((Below.refl wJ.heap.size wJ).alloc (Nat.le_refl _) (.cells #[.string mn, .string mv] 48))
  go_upto_region 9 with (go_at_call 22; refine (HHd.out ⟨#[99, 111, 110, 116, 101, 110, 116, 45, 116, 121, 112, 101]⟩ _ wJ.heap.size HPn.out).mono ?_; rintro e wK ⟨⟨s2, rfl⟩, hb6⟩; have HBK := Lib.hid (HBJ.out.trans ((HPb.out.trans (hb6.mono HPb.out.size)).mono HBJ.out.size)); clear hb6 e0 e1)
  clear HPn HPb HBJ
  rw [same_cookie, same_ctype]
  have HBk := Lib.hid (HBI.out.trans (HBK.out.mono HBI.out.size))
  have HL1K := Lib.hid (HL1I.out.trans (HBK.out.mono HL1I.out.size))
  have HQK := Lib.hid (And.intro (blk_below HQI.out.1 HBK.out) (And.intro (blk_below HQI.out.2.1 HBK.out) (blk_below HQI.out.2.2 HBK.out)))
  have HYK := Lib.hid (And.intro (blk_below HYI.out.1 HBK.out) (blk_below HYI.out.2 HBK.out))
  have HXK := Lib.hid (And.intro (blk_below HXI.out.1 HBK.out) (blk_below HXI.out.2 HBK.out))
  clear HBI HL1I HQI HYI HXI HBK
  obtain ⟨bc, hbc⟩ : ∃ b, sameS mn cookieB = b := ⟨_, rfl⟩
  obtain ⟨bt, hbt⟩ : ∃ b, sameS mn ctypeB = b := ⟨_, rfl⟩
  have HBc := Lib.hid hbc
  have HBt := Lib.hid hbt
  rw [hbc, hbt]
  clear hbc hbt
  cases bc
  case true =>
    cases bt <;>
    · go_wp2_with fail
      go_ret
      exact ⟨rfl, HBk.out⟩
  case false =>
  cases bt
  case true =>
    go_wp2_with fail
    go_ret
    exact ⟨rfl, HBk.out⟩
  case false =>
  have q0 : wK.cell? ⟨w.heap.size, 0, none⟩ = some (.string rm) := HQK.out.1.cell 0
  have q1 : wK.cell? ⟨w.heap.size, 1, none⟩ = some (.string rp) := HQK.out.1.cell 1
  have q2 : wK.cell? ⟨w.heap.size, 2, none⟩ = some (.string ry) := HQK.out.1.cell 2
  have q3 : wK.cell? ⟨w.heap.size, 3, none⟩ = some (.slice A0 us.length c0) := HQK.out.1.cell 3
  have q4 : wK.cell? ⟨w.heap.size, 4, none⟩ = some (.string rb) := HQK.out.1.cell 4
  have z0 := HQK.out.2.2.frozen 0
  have z1 := HQK.out.2.2.frozen 1
  have z2 := HQK.out.2.2.frozen 2
  have z3 := HQK.out.2.2.frozen 3
  have z4 := HQK.out.2.2.frozen 4
  have g0 : wK.cell? ⟨wF.heap.size, 0, none⟩ = some (.string rm) := HQK.out.2.2.cell 0
  have g1 : wK.cell? ⟨wF.heap.size, 1, none⟩ = some (.string rp) := HQK.out.2.2.cell 1
  have g2 : wK.cell? ⟨wF.heap.size, 2, none⟩ = some (.string ry) := HQK.out.2.2.cell 2
  have g3 : wK.cell? ⟨wF.heap.size, 3, none⟩ = some (.slice A0 us.length c0) := HQK.out.2.2.cell 3
  have g4 : wK.cell? ⟨wF.heap.size, 4, none⟩ = some (.string bd) := HQK.out.2.2.cell 4
  go_upto_region 12 with fail
  obtain ⟨w8, hw8⟩ : ∃ z, ((((wK.setCell ⟨wF.heap.size, 0, none⟩ (.string rm)).setCell ⟨wF.heap.size, 1, none⟩ (.string rp)).setCell ⟨wF.heap.size, 2, none⟩ (.string ry)).setCell ⟨wF.heap.size, 3, none⟩ (.slice A0 us.length c0)).setCell ⟨wF.heap.size, 4, none⟩ (.string rb) = z := ⟨_, rfl⟩
  rw [hw8]
  have hT : w1.heap.size ≤ wF.heap.size := by have := HLF.out; omega
  have HK8 : Hid (Keeps (fun j => j = wF.heap.size) wK w8) := hw8 ▸ (((((Keeps.refl (fun j => j = wF.heap.size) wK).setCell (p := ⟨wF.heap.size, 0, none⟩) (.inl rfl) (.string rm)).setCell (p := ⟨wF.heap.size, 1, none⟩) (.inl rfl) (.string rp)).setCell (p := ⟨wF.heap.size, 2, none⟩) (.inl rfl) (.string ry)).setCell (p := ⟨wF.heap.size, 3, none⟩) (.inl rfl) (.slice A0 us.length c0)).setCell (p := ⟨wF.heap.size, 4, none⟩) (.inl rfl) (.string rb)
  have HT8 : Hid (Blk w8 wF.heap.size 43 #[.string rm, .string rp, .string ry, .slice A0 us.length c0, .string rb]) := hw8 ▸ ((((HQK.out.2.2.set_ 0 (.string rm)).set_ 1 (.string rp)).set_ 2 (.string ry)).set_ 3 (.slice A0 us.length c0)).set_ 4 (.string rb)
  have HQ8 : Hid (Blk w8 w.heap.size 43 #[.string rm, .string rp, .string ry, .slice A0 us.length c0, .string rb] ∧ Blk w8 (w.heap.size + 1) 48 #[.string mn, .string mv]) := ⟨HQK.out.1.keeps HK8.out (by have := HLw.out; omega), HQK.out.2.1.keeps HK8.out (by have := HLw.out; omega)⟩
  have HL8 : Hid (Below w1.heap.size w1 w8) := HL1K.out.trans (HK8.out.below HL1K.out.size (fun j e => by omega))
  have HB8 : Hid (Below w.heap.size w w8) := HBk.out.trans (HK8.out.below HBk.out.size (fun j e => by have := HLw.out; omega))
  clear hw8 q0 q1 q2 q3 q4 z0 z1 z2 z3 z4 g0 g1 g2 g3 g4
  have HRd := Lib.hid (reads_pairs (HA1.out w8 HB8.out))
  have q3 : w8.cell? ⟨w.heap.size, 3, none⟩ = some (.slice A0 us.length c0) := HQ8.out.1.cell 3
  have e0 : w8.cell? ⟨w.heap.size + 1, 0, none⟩ = some (.string mn) := HQ8.out.2.cell 0
  have e1 : w8.cell? ⟨w.heap.size + 1, 1, none⟩ = some (.string mv) := HQ8.out.2.cell 1
  have g3 : w8.cell? ⟨wF.heap.size, 3, none⟩ = some (.slice A0 us.length c0) := HT8.out.cell 3
  have z3 : w8.frozen? ⟨wF.heap.size, 3, none⟩ = false := HT8.out.frozen 3
  have hq8 : w.heap.size + 1 < w8.heap.size := HQ8.out.2.lt
  have ht8 : wF.heap.size < w8.heap.size := HT8.out.lt
  go_region_held3 (fun w' => w'.cell? ⟨w.heap.size, 3, none⟩ = some (.slice A0 us.length c0) ∧ w'.cell? ⟨w.heap.size + 1, 0, none⟩ = some (.string mn) ∧ w'.cell? ⟨w.heap.size + 1, 1, none⟩ = some (.string mv))
    (first
      | exact ⟨q3, e0, e1⟩
      | exact ⟨a0, a1, a2⟩
      | exact ⟨b0, b1, b2⟩
      | exact ⟨(cell_farS (by show w.heap.size ≠ wF.heap.size; have := HLw.out; omega)).trans b0, (cell_farS (by show w.heap.size + 1 ≠ wF.heap.size; have := HLw.out; omega)).trans b1, (cell_farS (by show w.heap.size + 1 ≠ wF.heap.size; have := HLw.out; omega)).trans b2⟩
      | exact ⟨(World.cell?_alloc_lt _ _ _ (by show w.heap.size < _; omega)).trans a0, (World.cell?_alloc_lt _ _ _ hq5).trans a1, (World.cell?_alloc_lt _ _ _ hq5).trans a2⟩
      | exact ⟨(World.cell?_alloc_lt w8 _ _ (by show w.heap.size < _; omega)).trans q3, (World.cell?_alloc_lt w8 _ _ hq8).trans e0, (World.cell?_alloc_lt w8 _ _ hq8).trans e1⟩)
    (first
      | (refine step_app_pair rfl (.const (.slice none 0 0)) (.tmp 83) rfl w8.heap.size (.slice none 0 0) [] rfl ?_ ?_ A0 us.length c0 us ?_ ?_ ?_ ?_
         · exact World.ownsRow_nil _ _ _ _
         · first | exact Nat.le_refl _ | (simp; done)
         · rfl
         · first | exact HRd.out | exact (HRd.out.alloc (Nat.le_refl _) _).more (by simp)
         · show 0 + us.length ≤ _; omega
         intro v5 w5 hown5 hgr5 hat5
         have HT5 : Hid (Below w8.heap.size w8 w5) := by
           first
             | exact Below.grown (Below.refl _ w8).drew hgr5 (Nat.le_refl _) (fun j h => by cases h)
             | exact Below.grown (((Below.refl _ w8).alloc (Nat.le_refl _) _).drew) hgr5 (by simp) (fun j h => by cases h)
         have HV5 : Hid (∀ k, v5.ownBlock = some k → w8.heap.size ≤ k) := fun k hk => by
           rcases hat5 with h | h
           · rw [h] at hk
             cases hk
           · rw [h] at hk
             simp at hk
             omega
         have HN5 : Hid (Blk w5 w8.heap.size 48 #[.string mn, .string mv] ∨ True) := by
           first
             | exact .inl ((blk_drew (Blk.new w8 48 #[.string mn, .string mv])).grown hgr5 (fun e => by cases e))
             | exact .inr trivial
         have hq5 : w.heap.size + 1 < w5.heap.size := Nat.lt_of_lt_of_le hq8 HT5.out.size
         have a0 := (HT5.out.cell (p := ⟨w.heap.size, 3, none⟩) (by show w.heap.size < _; omega)).trans q3
         have a1 := (HT5.out.cell (p := ⟨w.heap.size + 1, 0, none⟩) hq8).trans e0
         have a2 := (HT5.out.cell (p := ⟨w.heap.size + 1, 1, none⟩) hq8).trans e1)
      | (refine step_app_pair rfl (.tmp 84) (.tmp 86) rfl w8.heap.size v5 us rfl ?_ ?_ (some ⟨w5.heap.size, 0, none⟩) 1 1 [(mn, mv)] ?_ ?_ ?_ ?_
         · exact own_zero (hown5.alloc _)
         · have := HT5.out.size; simp; omega
         · rfl
         · exact reads_pairs (one_pair (Blk.new w5 48 #[.string mn, .string mv]))
         · omega
         intro v6 w6 hown6 hgr6 hat6
         obtain ⟨g6, c6, rfl, hg6, hlt6⟩ := hown6.form (by omega)
         have HT6 : Hid (Below w8.heap.size w8 w6) := Below.grown (HT5.out.alloc HT5.out.size (.cells #[.string mn, .string mv] 48)) hgr6 (by have := HT5.out.size; simp; omega) HV5.out
         have HO6 := Lib.hid hown6
         have b0 := (HT6.out.cell (p := ⟨w.heap.size, 3, none⟩) (by show w.heap.size < _; omega)).trans q3
         have b1 := (HT6.out.cell (p := ⟨w.heap.size + 1, 0, none⟩) hq8).trans e0
         have b2 := (HT6.out.cell (p := ⟨w.heap.size + 1, 1, none⟩) hq8).trans e1
         have h3 : w6.cell? ⟨wF.heap.size, 3, none⟩ = some (.slice A0 us.length c0) := (HT6.out.cell (p := ⟨wF.heap.size, 3, none⟩) ht8).trans g3
         have hf3 : w6.frozen? ⟨wF.heap.size, 3, none⟩ = false := (HT8.out.below HT6.out ht8).frozen 3)
      | (refine step_app_pair rfl (.tmp 84) (.tmp 86) rfl w8.heap.size v5 us rfl ?_ ?_ (some ⟨w8.heap.size, 0, none⟩) 1 1 [(mn, mv)] ?_ ?_ ?_ ?_
         · exact own_zero hown5
         · exact HT5.out.size
         · rfl
         · have hk5 : Blk w5 w8.heap.size 48 #[.string mn, .string mv] := by
             first | exact (blk_drew (Blk.new w8 48 #[.string mn, .string mv])).grown hgr5 (fun e => by cases e)
           exact reads_pairs (one_pair hk5)
         · omega
         intro v6 w6 hown6 hgr6 hat6
         obtain ⟨g6, c6, rfl, hg6, hlt6⟩ := hown6.form (by omega)
         have HT6 : Hid (Below w8.heap.size w8 w6) := Below.grown HT5.out hgr6 HT5.out.size HV5.out
         have HO6 := Lib.hid hown6
         have b0 := (HT6.out.cell (p := ⟨w.heap.size, 3, none⟩) (by show w.heap.size < _; omega)).trans q3
         have b1 := (HT6.out.cell (p := ⟨w.heap.size + 1, 0, none⟩) hq8).trans e0
         have b2 := (HT6.out.cell (p := ⟨w.heap.size + 1, 1, none⟩) hq8).trans e1
         have h3 : w6.cell? ⟨wF.heap.size, 3, none⟩ = some (.slice A0 us.length c0) := (HT6.out.cell (p := ⟨wF.heap.size, 3, none⟩) ht8).trans g3
         have hf3 : w6.frozen? ⟨wF.heap.size, 3, none⟩ = false := (HT8.out.below HT6.out ht8).frozen 3)
      | (trace_state; fail))
  all_goals
    have HP6 : Hid (PairsAt w6 w6.heap.size (some ⟨g6, 0, none⟩) (us ++ [(mn, mv)])) := pairs_own2 (c := c6) (n := us.length + 1) (by rw [List.flatMap_append]; exact HO6.out) (by simp) (by omega)
    obtain ⟨wS, hwS⟩ : ∃ z, w6.setCell ⟨wF.heap.size, 3, none⟩ (.slice (some ⟨g6, 0, none⟩) (us.length + 1) c6) = z := ⟨_, rfl⟩
    rw [hwS]
    have hge6 : w8.heap.size ≤ g6 := hg6
    have HKS : Hid (Keeps (fun j => j = wF.heap.size) wK wS) := HK8.out.trans ((Keeps.of_below HT6.out).trans (hwS ▸ (Keeps.refl (fun j => j = wF.heap.size) w6).setCell (p := ⟨wF.heap.size, 3, none⟩) (.inl rfl) _))
    have HTS : Hid (Blk wS wF.heap.size 43 #[.string rm, .string rp, .string ry, .slice (some ⟨g6, 0, none⟩) (us.length + 1) c6, .string rb]) := hwS ▸ (HT8.out.below HT6.out ht8).set_ 3 _
    have HPS : Hid (PairsAt wS wS.heap.size (some ⟨g6, 0, none⟩) (us ++ [(mn, mv)])) := hwS ▸ pairs_far HP6.out (by show wF.heap.size ≠ g6; omega) _
    clear hwS HP6 HO6 HT6 HK8 HT8 HQ8 HL8 HB8 HT5 HV5 HRd b0 b1 b2 a0 a1 a2 e0 e1 g3 z3 h3 hf3 q3 hge6
    have HQS : Hid (Blk wS w.heap.size 43 #[.string rm, .string rp, .string ry, .slice A0 us.length c0, .string rb]) := HQK.out.1.keeps HKS.out (by have := HLw.out; omega)
    have HYS : Hid (Blk wS w1.heap.size 25 #[.int .i64 yk0, .int .i64 yn0, .string yt0, .slice yA0 yl0 yc0] ∧ Blk wS (w1.heap.size + 1 + 1) 25 #[.int .i64 yk2, .int .i64 yn2, .string yt2, .slice yA2 yl2 yc2]) := ⟨HYK.out.1.keeps HKS.out (by have := HLF.out; omega), HYK.out.2.keeps HKS.out (by have := HLF.out; omega)⟩
    have HXS : Hid (Blk wS w2.heap.size 25 #[.int .i64 xk0, .int .i64 xn0, .string xt0, .slice xA0 xl0 xc0] ∧ Blk wS (w2.heap.size + 1 + 1) 25 #[.int .i64 xk2, .int .i64 xn2, .string xt2, .slice xA2 xl2 xc2]) := ⟨HXK.out.1.keeps HKS.out (by have := HLF.out; omega), HXK.out.2.keeps HKS.out (by have := HLF.out; omega)⟩
    have HLS : Hid (Below w1.heap.size w1 wS) := HL1K.out.trans (HKS.out.below HL1K.out.size (fun j e => by have := HLF.out; omega))
    have HBS : Hid (Below w.heap.size w wS) := HBk.out.trans (HKS.out.below HBk.out.size (fun j e => by have := HLw.out; omega))
    clear HKS HQK HYK HXK HL1K HBk
    have q0 : wS.cell? ⟨w.heap.size, 0, none⟩ = some (.string rm) := HQS.out.cell 0
    have q1 : wS.cell? ⟨w.heap.size, 1, none⟩ = some (.string rp) := HQS.out.cell 1
    have q2 : wS.cell? ⟨w.heap.size, 2, none⟩ = some (.string ry) := HQS.out.cell 2
    have q3 : wS.cell? ⟨w.heap.size, 3, none⟩ = some (.slice A0 us.length c0) := HQS.out.cell 3
    have q4 : wS.cell? ⟨w.heap.size, 4, none⟩ = some (.string rb) := HQS.out.cell 4
    go_upto_region 14 with (go_at_call 19; refine (HQa.out _ HBS.out).mono ?_; rintro e w4 ⟨uv0, uv1, uv2, uv3, rfl, v0, v1, v2, v3, hb1⟩; obtain ⟨uk0, un0, ut0, ul0, uA0, uc0, rfl⟩ := vin_form v0; obtain ⟨uk1, un1, ut1, ul1, uA1, uc1, rfl⟩ := vin_form v1; obtain ⟨uk2, un2, ut2, ul2, uA2, uc2, rfl⟩ := vin_form v2; obtain ⟨uk3, un3, ut3, ul3, uA3, uc3, rfl⟩ := vin_form v3; have HVu := Lib.hid (And.intro v0 (And.intro v1 (And.intro v2 v3))); have HBu := Lib.hid hb1; clear v0 v1 v2 v3 hb1)
    have HG4 := Lib.hid (four_all w4 25 #[.int .i64 uk0, .int .i64 un0, .string ut0, .slice uA0 ul0 uc0] #[.int .i64 uk1, .int .i64 un1, .string ut1, .slice uA1 ul1 uc1] #[.int .i64 uk2, .int .i64 un2, .string ut2, .slice uA2 ul2 uc2] #[.int .i64 uk3, .int .i64 un3, .string ut3, .slice uA3 ul3 uc3])
    generalize (((w4.alloc (.cells #[.int .i64 uk0, .int .i64 un0, .string ut0, .slice uA0 ul0 uc0] 25)).alloc (.cells #[.int .i64 uk1, .int .i64 un1, .string ut1, .slice uA1 ul1 uc1] 25)).alloc (.cells #[.int .i64 uk2, .int .i64 un2, .string ut2, .slice uA2 ul2 uc2] 25)).alloc (.cells #[.int .i64 uk3, .int .i64 un3, .string ut3, .slice uA3 ul3 uc3] 25) = wU at *
    have HSU : Hid (Below wS.heap.size wS wU) := HBu.out.trans (HG4.out.1.mono HBu.out.size)
    have HBU : Hid (Below w.heap.size w wU) := HBS.out.trans (HSU.out.mono HBS.out.size)
    have HTU : Hid (Blk wU wF.heap.size 43 #[.string rm, .string rp, .string ry, .slice (some ⟨g6, 0, none⟩) (us.length + 1) c6, .string rb]) := blk_below HTS.out HSU.out
    have HPU : Hid (PairsAt wU wU.heap.size (some ⟨g6, 0, none⟩) (us ++ [(mn, mv)])) := HPS.out.below HSU.out
    have HYU : Hid (Blk wU w1.heap.size 25 #[.int .i64 yk0, .int .i64 yn0, .string yt0, .slice yA0 yl0 yc0] ∧ Blk wU (w1.heap.size + 1 + 1) 25 #[.int .i64 yk2, .int .i64 yn2, .string yt2, .slice yA2 yl2 yc2]) := ⟨blk_below HYS.out.1 HSU.out, blk_below HYS.out.2 HSU.out⟩
    have HXU : Hid (Blk wU w2.heap.size 25 #[.int .i64 xk0, .int .i64 xn0, .string xt0, .slice xA0 xl0 xc0] ∧ Blk wU (w2.heap.size + 1 + 1) 25 #[.int .i64 xk2, .int .i64 xn2, .string xt2, .slice xA2 xl2 xc2]) := ⟨blk_below HXS.out.1 HSU.out, blk_below HXS.out.2 HSU.out⟩
    have HLU : Hid (Below w1.heap.size w1 wU) := HLS.out.trans (HSU.out.mono HLS.out.size)
    have HS2 : Hid (w2.heap.size + 1 + 1 < wS.heap.size) := HXS.out.2.lt
    clear HTS HPS HYS HXS HLS HBS HQS q0 q1 q2 q3 q4
    have q0 : wU.cell? ⟨wF.heap.size, 0, none⟩ = some (.string rm) := HTU.out.cell 0
    have q1 : wU.cell? ⟨wF.heap.size, 1, none⟩ = some (.string rp) := HTU.out.cell 1
    have q2 : wU.cell? ⟨wF.heap.size, 2, none⟩ = some (.string ry) := HTU.out.cell 2
    have q3 : wU.cell? ⟨wF.heap.size, 3, none⟩ = some (.slice (some ⟨g6, 0, none⟩) (us.length + 1) c6) := HTU.out.cell 3
    have q4 : wU.cell? ⟨wF.heap.size, 4, none⟩ = some (.string rb) := HTU.out.cell 4
    have HQc5 := Lib.hid (HQc.out wU (some ⟨g6, 0, none⟩) c6 HPU.out HBU.out)
    rw [show (us ++ [(mn, mv)]).length = us.length + 1 by simp, cook_app HBc.out, post_app HBt.out] at HQc5
    have k0 := HXU.out.1.cell 0
    go_upto_region 15 with (go_at_call 19; refine (HQc5.out).mono ?_; rintro e w5 ⟨tv0, tv1, tv2, tv3, rfl, v0, v1, v2, v3, hb1⟩; obtain ⟨tk0, tn0, tt0, tl0, tA0, tc0, rfl⟩ := vin_form v0; obtain ⟨tk1, tn1, tt1, tl1, tA1, tc1, rfl⟩ := vin_form v1; obtain ⟨tk2, tn2, tt2, tl2, tA2, tc2, rfl⟩ := vin_form v2; obtain ⟨tk3, tn3, tt3, tl3, tA3, tc3, rfl⟩ := vin_form v3; have HVt := Lib.hid (And.intro v0 (And.intro v1 (And.intro v2 v3))); have HBt := Lib.hid hb1; clear v0 v1 v2 v3 hb1; have HZ := Lib.hid (two_old HXU.out.1 HXU.out.2 HBt.out); obtain ⟨⟨⟨o0, o1, o2, o3⟩, n0, n1, n2, n3⟩, ⟨⟨o4, o5, o6, o7⟩, n4, n5, n6, n7⟩⟩ := HZ.out; have hw5 : w2.heap.size + 1 + 1 < w5.heap.size := (blk_below HXU.out.2 HBt.out).lt; clear q0 q1 q2 q3 q4)
    have HK := Lib.hid (four_stores (a := w5.heap.size) (b := w5.heap.size + 1) (((blk_below HXU.out.1 HBt.out).alloc _).alloc _) ((Blk.new w5 25 #[.int .i64 0, .int .i64 0, .string ⟨#[]⟩, .slice none 0 0]).alloc (.cells #[.int .i64 0, .int .i64 0, .string ⟨#[]⟩, .slice none 0 0] 25)) (((blk_below HXU.out.2 HBt.out).alloc _).alloc _) (by simpa using Blk.new (w5.alloc (.cells #[.int .i64 0, .int .i64 0, .string ⟨#[]⟩, .slice none 0 0] 25)) 25 #[.int .i64 0, .int .i64 0, .string ⟨#[]⟩, .slice none 0 0]) (by omega) (by omega) (by omega) (by omega) (by omega) (by omega) (.int .i64 tk0) (.int .i64 tn0) (.string tt0) (.slice tA0 tl0 tc0) (.int .i64 tk1) (.int .i64 tn1) (.string tt1) (.slice tA1 tl1 tc1) (.int .i64 tk2) (.int .i64 tn2) (.string tt2) (.slice tA2 tl2 tc2) (.int .i64 tk3) (.int .i64 tn3) (.string tt3) (.slice tA3 tl3 tc3))
    have HAl5 : Hid (Below w5.heap.size w5 ((w5.alloc (.cells #[.int .i64 0, .int .i64 0, .string ⟨#[]⟩, .slice none 0 0] 25)).alloc (.cells #[.int .i64 0, .int .i64 0, .string ⟨#[]⟩, .slice none 0 0] 25))) := ((Below.refl w5.heap.size w5).alloc (Nat.le_refl _) _).alloc (by simp) _
    obtain ⟨wE, hwE⟩ : ∃ z, (((((((((((((((((w5.alloc (.cells #[.int .i64 0, .int .i64 0, .string ⟨#[]⟩, .slice none 0 0] 25)).alloc (.cells #[.int .i64 0, .int .i64 0, .string ⟨#[]⟩, .slice none 0 0] 25)).setCell ⟨w2.heap.size, 0, none⟩ (.int .i64 tk0)).setCell ⟨w2.heap.size, 1, none⟩ (.int .i64 tn0)).setCell ⟨w2.heap.size, 2, none⟩ (.string tt0)).setCell ⟨w2.heap.size, 3, none⟩ (.slice tA0 tl0 tc0)).setCell ⟨w5.heap.size, 0, none⟩ (.int .i64 tk1)).setCell ⟨w5.heap.size, 1, none⟩ (.int .i64 tn1)).setCell ⟨w5.heap.size, 2, none⟩ (.string tt1)).setCell ⟨w5.heap.size, 3, none⟩ (.slice tA1 tl1 tc1)).setCell ⟨w2.heap.size + 1 + 1, 0, none⟩ (.int .i64 tk2)).setCell ⟨w2.heap.size + 1 + 1, 1, none⟩ (.int .i64 tn2)).setCell ⟨w2.heap.size + 1 + 1, 2, none⟩ (.string tt2)).setCell ⟨w2.heap.size + 1 + 1, 3, none⟩ (.slice tA2 tl2 tc2)).setCell ⟨w5.heap.size + 1, 0, none⟩ (.int .i64 tk3)).setCell ⟨w5.heap.size + 1, 1, none⟩ (.int .i64 tn3)).setCell ⟨w5.heap.size + 1, 2, none⟩ (.string tt3)).setCell ⟨w5.heap.size + 1, 3, none⟩ (.slice tA3 tl3 tc3) = z := ⟨_, rfl⟩
    rw [hwE] at HK ⊢
    clear hwE o0 o1 o2 o3 o4 o5 o6 o7 n0 n1 n2 n3 n4 n5 n6 n7 HZ
    have HKE : Hid (Keeps (fun j => j = w2.heap.size ∨ j = w2.heap.size + 1 + 1 ∨ w5.heap.size ≤ j) w5 wE) := (Keeps.of_below HAl5.out).trans (HK.out.2.2.2.mono (fun j _ e => by rcases e with e | e | e | e <;> omega))
    have HS45 : Hid (wS.heap.size ≤ w4.heap.size ∧ w4.heap.size ≤ wU.heap.size ∧ wU.heap.size ≤ w5.heap.size ∧ wS.heap.size ≤ wU.heap.size) := ⟨HBu.out.size, HG4.out.1.size, HBt.out.size, HSU.out.size⟩
    have HK4 : Hid (Keeps (fun j => j = w2.heap.size ∨ j = w2.heap.size + 1 + 1 ∨ w5.heap.size ≤ j) w4 wE) := (Keeps.of_below (HG4.out.1.trans (HBt.out.mono HG4.out.1.size))).trans HKE.out
    have HLE : Hid (Below w1.heap.size w1 wE) := (HLU.out.trans (HBt.out.mono HLU.out.size)).trans (HKE.out.below (by have := HLU.out.size; have := HS45.out; omega) (fun j e => by have := HLF.out; have := HS2.out; have := HS45.out; rcases e with e | e | e <;> omega))
    have HBE : Hid (Below w.heap.size w wE) := (HBU.out.trans (HBt.out.mono HBU.out.size)).trans (HKE.out.below (by have := HBU.out.size; have := HS45.out; omega) (fun j e => by have := HLw.out; have := HLF.out; have := HS2.out; have := HS45.out; rcases e with e | e | e <;> omega))
    have HYE : Hid (Blk wE w1.heap.size 25 #[.int .i64 yk0, .int .i64 yn0, .string yt0, .slice yA0 yl0 yc0] ∧ Blk wE (w1.heap.size + 1 + 1) 25 #[.int .i64 yk2, .int .i64 yn2, .string yt2, .slice yA2 yl2 yc2] ∧ Blk wE (w4.heap.size + 1) 25 #[.int .i64 uk1, .int .i64 un1, .string ut1, .slice uA1 ul1 uc1]) := ⟨(blk_below HYU.out.1 HBt.out).keeps HKE.out (by have := HLF.out; have := HS2.out; have := HS45.out; omega), (blk_below HYU.out.2 HBt.out).keeps HKE.out (by have := HLF.out; have := HS2.out; have := HS45.out; omega), (blk_below HG4.out.2.2.1 HBt.out).keeps HKE.out (by have := HG4.out.2.2.1.lt; have := HS2.out; have := HS45.out; omega)⟩
    have VY : Hid (∀ (g : GV) (y : Value), VIn w1 (fun b => wA.heap.size ≤ b ∧ b < w1.heap.size) g y → VAt wE wE.heap.size g y) := fun g y h => (h.under HLE.out (fun b hb => hb.2)).at_ (fun b hb hS => hb) (fun b hS => Nat.lt_of_lt_of_le hS.2 HLE.out.size)
    have VU : Hid (∀ (g : GV) (y : Value), VIn w4 (fun b => wS.heap.size ≤ b ∧ b < w4.heap.size) g y → VAt wE wE.heap.size g y) := fun g y h => (h.keep (S' := fun b => wS.heap.size ≤ b ∧ b < w4.heap.size) (fun _ e => e) (fun p hp => HK4.out.cell hp.2 (by have := hp; have := HS2.out; have := HS45.out; omega))).at_ (fun b hb hS => hb) (fun b hS => Nat.lt_of_lt_of_le hS.2 HK4.out.size)
    have VT5 : Hid (∀ (g : GV) (y : Value), VIn w5 (fun b => wU.heap.size ≤ b ∧ b < w5.heap.size) g y → VAt wE wE.heap.size g y) := fun g y h => (h.keep (S' := fun b => wU.heap.size ≤ b ∧ b < w5.heap.size) (fun _ e => e) (fun p hp => HKE.out.cell hp.2 (by have := hp; have := HS2.out; have := HS45.out; omega))).at_ (fun b hb hS => hb) (fun b hS => Nat.lt_of_lt_of_le hS.2 HKE.out.size)
    have HN := Lib.hid (And.intro (fun wz (h : Below wE.heap.size wE wz) => raw_same (Nat.le_refl _) (VY.out _ _ HVy.out.1) (VT5.out _ _ HVt.out.1) wz h) (And.intro (fun wz (h : Below wE.heap.size wE wz) => raw_same (Nat.le_refl _) (VU.out _ _ HVu.out.2.1) (VT5.out _ _ HVt.out.2.1) wz h) (And.intro (fun wz (h : Below wE.heap.size wE wz) => raw_same (Nat.le_refl _) (VY.out _ _ HVy.out.2.2.1) (VT5.out _ _ HVt.out.2.2.1) wz h) trivial)))
    have HM := Lib.hid (And.intro (fun wz (h : Below wE.heap.size wE wz) => And.intro (blk_below HYE.out.2.2 h) (blk_below HK.out.2.1 h)) (And.intro (fun wz (h : Below wE.heap.size wE wz) => And.intro (blk_below HYE.out.2.1 h) (blk_below HK.out.2.2.1 h)) (And.intro (fun wz (h : Below wE.heap.size wE wz) => And.intro (blk_below HYE.out.2.1 h) (blk_below HK.out.2.2.1 h)) trivial)))
    have HC := Lib.hid (Below.refl wE.heap.size wE)
    obtain ⟨⟨a0, a1, a2, a3⟩, _⟩ := z8 HYE.out.1
    obtain ⟨⟨b0, b1, b2, b3⟩, _⟩ := z8 HK.out.1
    clear hw5
    go_wp2_with (go_at_call 9; refine (HN.out.1 _ HC.out).mono ?_; rintro e w3 ⟨rfl, hb⟩; have HC := Lib.hid (HC.out.trans (hb.mono HC.out.size)); clear hb a0 a1 a2 a3 b0 b1 b2 b3; obtain ⟨⟨a0, a1, a2, a3⟩, _⟩ := z8 (HM.out.1 _ HC.out).1; obtain ⟨⟨b0, b1, b2, b3⟩, _⟩ := z8 (HM.out.1 _ HC.out).2; have HN := Lib.hid HN.out.2; have HM := Lib.hid HM.out.2)
    go_ret
    exact ⟨rfl, HBE.out.trans (HC.out.mono HBE.out.size)⟩
end
end Rl
end Go.Proofs.YtgpemnmopogppaaGreatDoor
