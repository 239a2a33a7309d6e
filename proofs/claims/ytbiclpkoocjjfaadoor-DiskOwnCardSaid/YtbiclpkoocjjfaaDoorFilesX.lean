/- disk.Files at a disk that was made: the walk. -/
import Derived.Test.YtbiclpkoocjjfaaDoorFilesW
import Derived.StringKeys
namespace Go.Proofs.YtbiclpkoocjjfaaDoor
open Go.RowKit Go.Maps Go.Sort

theorem file_info : (Tryd.prog.info? 53).map (fun i => (i.zero, i.size, i.bytes)) = some (some (.agg #[.string ⟨#[]⟩, .string ⟨#[]⟩]), 2, 32) := by kernel_rfl
structure RInv (F : DataW Unit) (bf n : Nat) (w wr : World) (left : Lit → Bool) (cnt : Nat) (v : Value) (l : List FileV) : Prop where
  rg : wr.ranges Tryd.prog 9 fileElem bf w.heap.size n F left cnt
  owns : wr.ownsRow (w.heap.size + 1) 53 2 v l.length (l.flatMap encF)
  bel : Below w.heap.size w wr
  lt : bf < w.heap.size
  big : w.heap.size < wr.heap.size
  len : l.length + cnt ≤ Maps.size F
  sub : ∀ p, left (key p) = true → Maps.has F (key p) = true
  mem : ∀ p t, (p, t) ∈ l ↔ (Maps.has F (key p) = true ∧ left (key p) = false ∧ fileS F p = t)
  nd : l.Pairwise (fun a b => a.1 ≠ b.1)
theorem own_grown {w w' : World} {base size n : Nat} {e : TypeId} {v : Value} {xs : List Value} {row : Option Nat} (h : w.ownsRow base e size v n xs) (hg : w.grownBy w' row) (hr : ∀ g, row = some g → g < base) : w'.ownsRow base e size v n xs := by
  obtain ⟨hx, ⟨rfl, rfl⟩ | ⟨g, cap, cur, rfl, hb, hh, r⟩⟩ := h
  · exact ⟨hx, .inl ⟨rfl, rfl⟩⟩
  · exact ⟨hx, .inr ⟨g, cap, cur, rfl, hb, (hg.block g (Array.getElem?_eq_some_iff.1 hh).1 (fun e => by have := hr g e.symm; omega)).trans hh, r⟩⟩
theorem key_same (p q : ByteArray) : (key p).sameKey (key q) = decide (p = q) := by
  by_cases h : p = q
  · rw [h, decide_eq_true rfl]; exact WideAt.sameKey_self (isKey q)
  · rw [decide_eq_false h]; exact sameKey_ne (key_ne h)
theorem fileS_at {F : DataW Unit} {p s : ByteArray} {c : Int} (h : ∀ zd, F.atKey (key p) zd = fileD s c) : fileS F p = s := by
  unfold fileS; rw [h]; rfl
theorem RInv.next {F : DataW Unit} {bf n : Nat} {w wr w1 w3 : World} {left : Lit → Bool} {cnt cnt' : Nat} {v v' : Value} {l : List FileV} {x s : ByteArray} {c : Int} {o1 o2 : Obj} (h : RInv F bf n w wr left cnt v l)
    (hl : left (key x) = true) (hat : ∀ zd, F.atKey (key x) zd = fileD s c) (hrg : w1.ranges Tryd.prog 9 fileElem bf w.heap.size n F (fun z => left z && !z.sameKey (key x)) cnt') (hlt : cnt' < cnt) (hg1 : wr.grownBy w1 (some w.heap.size)) (hs1 : w1.heap.size = wr.heap.size)
    (hown : w3.ownsRow (w.heap.size + 1) 53 2 v' (l.length + 1) (l.flatMap encF ++ encF (x, s))) (hg3 : ((w1.alloc o1).alloc o2).grownBy w3 v.ownBlock) :
    RInv F bf n w w3 (fun z => left z && !z.sameKey (key x)) cnt' v' (l ++ [(x, s)]) := by
  have hvb : ∀ g, v.ownBlock = some g → w.heap.size + 1 ≤ g := fun g hg => (h.owns.lt g hg).1
  have hB1 : Below w.heap.size w w1 := h.bel.grown hg1 h.bel.size (fun k hk => by have : w.heap.size = k := Option.some.inj hk; omega)
  have hbig := h.big
  refine ⟨?_, by rw [List.length_append, List.flatMap_append]; simpa using hown, ?_, h.lt, ?_, ?_, ?_, ?_, ?_⟩
  · refine ((hrg.alloc o1).alloc o2).kept hg3 (fun e => ?_) (fun e => ?_)
    · have := hvb bf e.symm; have := h.lt; omega
    · have := hvb _ e.symm; omega
  · have hb2 := (hB1.alloc hB1.size o1).alloc (by have := hB1.size; simp; omega) o2
    exact hb2.grown hg3 hb2.size (fun k hk => by have := hvb k hk; omega)
  · have := hg3.size; simp at this; omega
  · have := h.len; rw [List.length_append]; simp; omega
  · intro p hp
    simp only [Bool.and_eq_true] at hp
    exact h.sub p hp.1
  · intro p t
    rw [List.mem_append, h.mem p t, List.mem_singleton, key_same]
    by_cases e : p = x
    · subst e
      simp only [Prod.mk.injEq, true_and, decide_true, Bool.not_true, Bool.and_false, hl]
      rw [fileS_at hat]
      have := h.sub p hl
      simp [this, eq_comm]
    · simp [e]
  · rw [List.pairwise_append]
    refine ⟨h.nd, List.pairwise_singleton _ _, fun a ha b hb => ?_⟩
    rw [List.mem_singleton.1 hb]
    intro e
    obtain ⟨p, t⟩ := a
    simp only at e
    subst e
    have := ((h.mem p t).1 ha).2.1
    rw [hl] at this; cases this
theorem RInv.files {F : DataW Unit} {bf n : Nat} {w wr : World} {left : Lit → Bool} {cnt : Nat} {v : Value} {l : List FileV} {d' : Array FileV} (h : RInv F bf n w wr left cnt v l) (h0 : ∀ kl, left kl = false)
    (hp : PermIn 0 l.toArray.size l.toArray d') (hs : SortedIn (ltOf fun x y : FileV => Lib.compareBytes x.1.data.toList y.1.data.toList) 0 l.toArray.size d') : FilesOf F d'.toList := by
  obtain ⟨hsz, _, hperm⟩ := hp
  have hz : l.toArray.size = l.length := List.size_toArray ..
  have hperm' : d'.toList.Perm l := by
    have e : List.take l.length d'.toList = d'.toList := List.take_of_length_le (by rw [Array.length_toList]; omega)
    have := hperm
    simp only [Array.toList_extract, List.extract, Nat.sub_zero, List.drop_zero, hz, e] at this
    simpa using this
  refine ⟨?_, fun p t => ?_⟩
  · have hnd : d'.toList.Pairwise (fun a b => a.1 ≠ b.1) := (hperm'.pairwise_iff (fun {a b} (h : a.1 ≠ b.1) => h.symm)).2 h.nd
    rw [List.pairwise_iff_getElem] at hnd ⊢
    intro i j hi hj hij
    have hne := hnd i j hi hj hij
    have hi' : i < d'.size := by simpa using hi
    have hj' : j < d'.size := by simpa using hj
    rcases fLt.total hne with h1 | h1
    · exact h1
    · exfalso
      have := hs i j (Nat.zero_le _) hij (by omega)
      rw [getElem!_pos d' j hj', getElem!_pos d' i hi'] at this
      have h2 : ¬ Lib.compareBytes d'[j].1.data.toList d'[i].1.data.toList < 0 := of_decide_eq_false this
      exact h2 h1
  · rw [hperm'.mem_iff, h.mem p t]
    simp [h0]

/-- What Files leaves. -/
def FilesPost (F : DataW Unit) (w : World) (e : Ending) (w' : World) : Prop :=
  ∃ v fs, e = .returned v ∧ FilesOf F fs ∧ w'.ownsRow w.heap.size 53 2 v fs.length (fs.flatMap encF) ∧ fs.length ≤ Maps.size F ∧ Below w.heap.size w w'
theorem own_shape2 {w : World} {base n : Nat} {e : TypeId} {v : Value} {xs : List Value} (h : w.ownsRow base e 2 v n xs) : ∃ A c, v = .slice A n c := by
  obtain ⟨_, ⟨rfl, rfl⟩ | ⟨g, cap, _, rfl, _⟩⟩ := h
  · exact ⟨_, _, rfl⟩
  · exact ⟨_, _, rfl⟩
theorem own_mono {w : World} {base base' size n : Nat} {e : TypeId} {v : Value} {xs : List Value} (h : w.ownsRow base e size v n xs) (hb : base' ≤ base) : w.ownsRow base' e size v n xs := by
  obtain ⟨hx, h | ⟨g, cap, cur, hv, hg, r⟩⟩ := h
  · exact ⟨hx, .inl h⟩
  · exact ⟨hx, .inr ⟨g, cap, cur, hv, Nat.le_trans hb hg, r⟩⟩

set_option maxRecDepth 100000 in
set_option maxHeartbeats 4000000 in
theorem files_any {b bf bt n : Nat} {F T : DataW Unit} {W R : Int} (w : World) (hd : DiskAt w b bf bt n F T W R) (hsz : Maps.size F ≤ 65536) :
    Calls Tryd.prog 22 #[.pointer (some ⟨b, 0, none⟩)] w (FilesPost F w) := by
  have hc := hd.c0
  have Hown := Lib.hid hd.files
  have hbf := hd.files.lt
  obtain ⟨i0, hi0, hz0, hz1, hz2⟩ := info_parts file_info
  have HI := Lib.hid (And.intro hi0 (And.intro hz0 (And.intro hz1 hz2))); clear hi0 hz0 hz1 hz2
  clear hd
  go_enter Tryd.func22, Tryd.ntmps22
  go_wp2_with (at_range; refine wpList_range_own _ rfl _ 58 rfl 9 66 keyed Tryd.underlying58 fileElem bf n F rfl Hown.out ?_; intro w0 hrg0 hg0 hs0)
  go_frame
  go_loopw [3] (fun v wr => ∃ (left : Lit → Bool) (cnt : Nat) (l : List FileV), Hid (RInv F bf n w wr left cnt v l)) (fun _ wr => wr.rangeLeft bf w.heap.size)
  case atStart =>
    refine ⟨_, _, [], hrg0, World.ownsRow_nil _ _ _ _, (Below.refl _ _).grown hg0 (Nat.le_refl _) (fun k hk => (by cases hk)), hbf, by omega, by simp, fun p h => h, fun p t => ⟨(fun h => (by cases h)), (fun ⟨h1, h2, _⟩ => (by rw [h1] at h2; cases h2))⟩, List.Pairwise.nil⟩
  case round =>
    obtain ⟨left, cnt, l, H⟩ := hrel
    have Hrg := Lib.hid H.out.rg
    have hlen := H.out.len
    have hbig := H.out.big
    go_wp2_with (at_next; refine wpList_next_ranges _ rfl _ rfl 9 keyed fileElem (α := ByteArray) (β := ByteArray × Int) Value.string (fun c => .agg #[.string c.1, .int .i64 c.2]) ?_ ?_ bf w.heap.size n F left cnt rfl Hrg.out ?_ ?_)
    · intro kv kl h
      obtain ⟨s, rfl, _, _⟩ := Go.WideMaps.string_of_keyOf Tryd.underlying9 h
      exact ⟨s, rfl⟩
    · intro v y h
      obtain ⟨s, c, rfl, _⟩ := fileElem_inv h
      exact ⟨(s, c), rfl⟩
    · intro h0 hl0
      have HL0 := Lib.hid hl0
      clear hl0
      have hl1 : l.length ≤ 65536 := by omega
      have hls : l.length ≤ Maps.size F := by omega
      rcases Nat.eq_zero_or_pos l.length with hz | hz
      · obtain ⟨A, c, rfl⟩ := own_shape2 H.out.owns
        have HF : Hid (FilesPost F w (.returned (.slice A 0 c)) wr) := by
          obtain rfl : l = [] := List.eq_nil_of_length_eq_zero hz
          refine ⟨_, [], rfl, ⟨List.Pairwise.nil, fun p t => ?_⟩, own_mono H.out.owns (Nat.le_succ _), Nat.zero_le _, H.out.bel⟩
          rw [H.out.mem p t]
          simp [HL0.out]
        rw [hz]
        clear hz hl1 hls hlen H Hrg HL0
        go_wp2_with (go_at_call 38; refine (AnyF.slices_SortFunc_none Tryd.sortF _ _ _ _).mono ?_; rintro e w' ⟨rfl, rfl⟩)
        go_ret
        exact HF.out
      · obtain ⟨g, c, rfl, hg, hgl⟩ := H.out.owns.form hz
        have HSo := Lib.hid (sort_any g c l.toArray wr (holds_own (d := l.toArray) (by simpa using H.out.owns) (by simp)) hgl (by rw [List.size_toArray]; omega))
        rw [List.size_toArray] at HSo
        have HO := Lib.hid H.out.owns
        clear Hrg
        go_wp2_with fail
        refine HSo.out.mono ?_
        rintro e w2 ⟨rfl, d', nn, os, hp, hs, rfl⟩
        have hds : d'.size = l.length := hp.1.trans (by rw [List.size_toArray])
        have e1 : d'.toList.length = l.length := (Array.length_toList (xs := d')).trans hds
        have HF : Hid (FilesPost F w (.returned (.slice (some ⟨g, 0, none⟩) l.length c)) (sortWorldK encF 2 wr g 0 nn d' os)) := by
          refine ⟨_, d'.toList, rfl, H.out.files HL0.out (by rw [List.size_toArray]; exact hp) (by rw [List.size_toArray]; exact hs), ?_, by rw [e1]; exact hls, below_sorted H.out.bel H.out.bel.size (by omega)⟩
          have := own_sorted (m := nn) (os := os) (d := d') HO.out hds
          rw [e1]
          exact own_mono this (Nat.le_succ _)
        clear hp hs hds e1 HO H HL0
        generalize sortWorldK encF 2 wr g 0 nn d' os = w5 at *
        go_wp2_with fail
        go_ret
        exact HF.out
    · intro x s cc kl y1 y2 w1 cnt1 hkey hlx hv hat hrg1 hlt hg1 hs1 hen
      obtain ⟨s0, hs0, rfl, _⟩ := Go.WideMaps.string_of_keyOf Tryd.underlying9 hkey
      simp only [Value.string.injEq] at hs0
      subst hs0
      rw [fileElem_mk] at hv
      simp only [Option.some.injEq, Prod.mk.injEq] at hv
      obtain ⟨rfl, rfl⟩ := hv
      have HK : Hid (left (key x) = true ∧ (∀ zd, F.atKey (key x) zd = fileD s cc) ∧ w1.ranges Tryd.prog 9 fileElem bf w.heap.size n F (fun z => left z && !z.sameKey (key x)) cnt1 ∧ cnt1 < cnt ∧ wr.grownBy w1 (some w.heap.size) ∧ w1.heap.size = wr.heap.size) := ⟨hlx, hat, hrg1, hlt, hg1, hs1⟩
      have HO1 := Lib.hid (own_grown H.out.owns hg1 (fun g hg => by have : w.heap.size = g := Option.some.inj hg; omega))
      have hl1 : l.length ≤ 65536 := by omega
      have hb1 : w.heap.size + 1 ≤ w1.heap.size := by omega
      clear hlx hat hrg1 hlt hg1 hs1 hkey
      go_wp2_with (at_builtin; refine wpList_append_own _ rfl _ _ 40 rfl (w.heap.size + 1) 53 i0 (.agg #[.string ⟨#[]⟩, .string ⟨#[]⟩]) 2 32 Tryd.underlying40 HI.out.1 HI.out.2.1 HI.out.2.2.1 HI.out.2.2.2 rfl (by decide) _ _ _ rfl ((HO1.out.alloc _).alloc _) ⟨w1.heap.size + 1, 0, none⟩ 1 1 (encF (x, s)) rfl rfl ?_ (encF_one (x, s)) ?_ ?_ ?_ ?_)
      · have := World.news_of_block (w := (w1.alloc (.cells #[.string s, .int .i64 cc] 66)).alloc (.cells #[.string x, .string s] 53)) (B := w1.heap.size + 1) (cs := #[.string x, .string s]) (t := 53) (fr := (0, 0)) (by
          have := heap_alloc_new (w1.alloc (.cells #[.string s, .int .i64 cc] 66)) (.cells #[.string x, .string s] 53)
          simpa using this)
        exact this
      · unfold maxLen; omega
      · omega
      · simp; omega
      · intro v' w3 hown3 hg3 _
        have HN : Hid (RInv F bf n w w3 (fun z => left z && !z.sameKey (key x)) cnt1 v' (l ++ [(x, s)])) := H.out.next HK.out.1 HK.out.2.1 HK.out.2.2.1 HK.out.2.2.2.1 HK.out.2.2.2.2.1 HK.out.2.2.2.2.2 hown3 hg3
        have hm : w3.rangeLeft bf w.heap.size < wr.rangeLeft bf w.heap.size := by
          rw [HN.out.rg.left_eq, H.out.rg.left_eq]; exact HK.out.2.2.2.1
        have HMs := Lib.hid hm
        clear hown3 hg3 hm hen
        go_wp2_with fail
        go_roundw
        case rel => exact ⟨_, _, _, HN⟩
        case measure => exact HMs.out
end Go.Proofs.YtbiclpkoocjjfaaDoor
