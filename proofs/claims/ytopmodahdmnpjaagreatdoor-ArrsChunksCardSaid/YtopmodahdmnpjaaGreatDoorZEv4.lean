/- The evaluator of closed calls: its operations are sound, second part. -/
import Derived.Test.YtopmodahdmnpjaaGreatDoorZEv3
import Derived.Lib.UnsafeStr
import Derived.MapKept
namespace Go.Ev
open Go.RowKit
variable [Base]

section
variable {E : Env} {P : Program} {φ : Phi}

omit [Base] in
theorem bytesK_eq {β : Type} (l : List Nat) : ∀ (K : List V → β), bytesK l K = K (l.map fun b => V.int .u8 (.ofNat b)) := by
  induction l with
  | nil => intro K; rfl
  | cons b l ih => intro K; exact ih _
omit [Base] in
theorem bytes_cells {s : List Nat} (hs : ∀ c ∈ s, c < 256) : VRs φ (s.map fun b => V.int .u8 (.ofNat b)) ((mkS s).data.map fun b => Value.int .u8 b.toNat).toList := by
  refine VRs.of_get (by simp [mkS]) (fun i v hv => ?_)
  simp only [List.getElem?_map, Option.map_eq_some_iff] at hv
  obtain ⟨b, hb, rfl⟩ := hv
  have hlt : b < 256 := hs b (by have := List.getElem?_eq_some_iff.1 hb; rw [← this.2]; exact List.getElem_mem _)
  refine ⟨.int .u8 (.ofNat b), ?_, .int _ _⟩
  simp [mkS, hb, Nat.mod_eq_of_lt hlt]

omit [Base] in
theorem lenV_sound {v : V} {x : Value} {n : Nat} (hv : VR φ v x) (h : lenV v = some n) (w : World) : (Builtin.lenOf x).run P w = .ok n w := by
  cases hv <;> first | (cases h; done) | (cases h; rfl) | skip
  rename_i s hs
  simp only [lenV, natK_eq, Option.some.injEq] at h
  subst h
  simp [Builtin.lenOf, mkS_size]

theorem takeCells_sound {st : St} {w : World} (hR : Rep φ st w) {v : V} {x : Value} {esz n m : Nat} {vs : List V} (hv : VR φ v x) (hl : lenV v = some m) (hn : n ≤ m) (h : takeCells st esz n v = some vs) :
    ∃ xs : Array Value, (Builtin.firstCells esz n x).run P w = .ok xs w ∧ VRs φ vs xs.toList ∧ xs.size = n * esz := by
  cases hv <;> first | (cases h; done) | skip
  · rename_i s hs
    simp only [lenV, natK_eq, Option.some.injEq] at hl
    subst hl
    obtain ⟨h1, h2⟩ := cond_some h
    have e1 := Nat.eq_of_beq_eq_true h1
    subst e1
    rw [bytesK_eq] at h2
    cases h2
    have ht : ∀ c ∈ s.take n, c < 256 := fun c hc => hs c (List.mem_of_mem_take hc)
    have e2 : (mkS s).extract 0 n = mkS (s.take n) := by rw [mkS_extract]; simp
    refine ⟨_, by simp only [Builtin.firstCells, e2]; rfl, bytes_cells ht, by simp [mkS, Nat.min_eq_left hn]⟩
  · cases h
    cases hl
    have : n = 0 := by omega
    subst this
    exact ⟨#[], rfl, .nil, by simp⟩
  · rename_i id off len esz' c b κ hφ _ _
    obtain ⟨xs, h1, h2, h3⟩ := cellsAt_sound (P := P) hR hφ h
    exact ⟨xs, h1, h2, h3⟩
  · rename_i id off len esz' c b κ hφ _ _ _
    obtain ⟨xs, h1, h2, h3⟩ := cellsAt_sound (P := P) hR hφ h
    exact ⟨xs, h1, h2, h3⟩
  · cases h
    cases hl
    have : n = 0 := by omega
    subst this
    refine ⟨#[], ?_, .nil, by simp⟩
    simp only [Builtin.firstCells, Nat.zero_mul]
    exact run_loadCells_zero _

omit [Base] in
theorem growBy_le (newLen : Nat) : ∀ (k c : Nat), c < newLen → Builtin.growBy newLen k c ≤ 2 * newLen + 1000 := by
  intro k
  induction k with
  | zero => intro c h; simp [Builtin.growBy]; omega
  | succ k ih =>
    intro c h
    rw [Builtin.growBy, if_neg (by omega)]
    by_cases h2 : c + (c + 768) / 4 < newLen
    · exact ih _ h2
    · cases k with
      | zero => simp [Builtin.growBy]; omega
      | succ k => rw [Builtin.growBy, if_pos (by omega)]; omega
omit [Base] in
theorem nextslicecap_le {newLen oldCap : Nat} (h : oldCap < newLen) : Builtin.nextslicecap newLen oldCap ≤ 2 * newLen + 1000 := by
  unfold Builtin.nextslicecap
  split
  · omega
  · split
    · omega
    · exact growBy_le _ _ _ h

theorem rep_drew {st : St} {w : World} (hR : Rep φ st w) : Rep φ st w.drew := hR.of_below ⟨rfl, rfl, rfl, Nat.le_refl _, fun _ _ => rfl⟩
omit [Base] in
theorem chg_drew (w : World) : Chg φ w φ w.drew := Chg.of_below ⟨rfl, rfl, rfl, Nat.le_refl _, fun _ _ => rfl⟩

/-- The element's row and the types of append's arguments. -/
structure AppOK (E : Env) (P : Program) (ats : Array TypeId) (e : TypeId) (ei : TypeInfo) : Prop where
  t : ∃ t, ats[0]? = some t ∧ ∀ w, (underlying t).run P w = .ok (.slice e) w
  u : ∃ u d, ats[1]? = some u ∧ (∀ w, (underlying u).run P w = .ok d w) ∧ notIntD d = true
  size : ∀ w, (sizeOf e).run P w = .ok ei.size w
  info : ∀ w, (typeInfo e).run P w = .ok ei w
  bytes : ei.bytes ≤ 10000

omit [Base] in
theorem notIntD_matches {d : TypeDesc} (h : notIntD d = true) : (match d with | .int _ => true | _ => false) = false := by cases d <;> first | rfl | cases h

omit [Base] in
theorem run_append_room {ats : Array TypeId} {ty e : TypeId} {ei : TypeInfo} (hA : AppOK E P ats e ei) {base : Option Addr} {sLen sCap n : Nat} {x : Value} {xs : Array Value} {w w' : World}
    (hl : (Builtin.lenOf x).run P w = .ok n w) (hx : (Builtin.firstCells ei.size n x).run P w = .ok xs w) (hn : sLen + n ≤ sCap) (hs : ∀ a, base = some a → (storeCells (a.add (sLen * ei.size)) xs.toList).run P w = .ok () w') (h0 : base = none → w' = w) :
    (Builtin.append_ ats ty #[.slice base sLen sCap, x]).run P w = .ok (.slice base (sLen + n) sCap) w' := by
  obtain ⟨t, ht, hu⟩ := hA.t
  obtain ⟨u, d, ht2, hu2, hd⟩ := hA.u
  unfold Builtin.append_
  cases d <;> first | (cases hd; done) | (
    simp only [ht, ht2, List.getElem?_toArray, List.getElem?_cons_zero, List.getElem?_cons_succ, Sem.run_bind, hu w, hA.size w, Result.andThen_ok, hu2 w, Sem.run_pure, Bool.false_eq_true, if_false, hl, Bool.not_false, if_true]
    rw [if_pos hn]
    simp only [Sem.run_bind, hx, Result.andThen_ok]
    cases base with
    | none => rw [h0 rfl]; rfl
    | some a => simp [hs a rfl])

omit [Base] in
theorem run_append_grow {ats : Array TypeId} {ty e : TypeId} {ei : TypeInfo} (hA : AppOK E P ats e ei) {base : Option Addr} {sLen sCap n : Nat} {x zx : Value} {old xs : Array Value} {w : World}
    (hl : (Builtin.lenOf x).run P w = .ok n w) (ho : (Builtin.firstCells ei.size sLen (.slice base sLen sCap)).run P w.drew = .ok old w.drew) (hx : (Builtin.firstCells ei.size n x).run P w.drew = .ok xs w.drew) (hz : (zeroValue e).run P w.drew = .ok zx w.drew)
    (hn : sCap < sLen + n) (hb : sLen + n ≤ 2000000) :
    ∃ newCap, sLen + n ≤ newCap ∧ (Builtin.append_ ats ty #[.slice base sLen sCap, x]).run P w = .ok (.slice (some ⟨w.heap.size, 0, none⟩) (sLen + n) newCap) (w.drew.alloc (.cells (old ++ xs ++ Builtin.zeroCells zx.cells (newCap - (sLen + n))) e)) := by
  obtain ⟨t, ht, hu⟩ := hA.t
  obtain ⟨u, d, ht2, hu2, hd⟩ := hA.u
  refine ⟨(Question.appendCap (sLen + n) sCap e).cut (w.tape w.drawn (.appendCap (sLen + n) sCap e)), by simp [Question.cut], ?_⟩
  have hcap := nextslicecap_le hn
  have hmul : Builtin.nextslicecap (sLen + n) sCap * ei.bytes ≤ (2 * 2000000 + 1000) * 10000 := Nat.mul_le_mul (by omega) hA.bytes
  have hmax : ¬ (((sLen + n : Nat) : Int) > IntKind.i64.max ∧ (False ∨ ei.bytes = 0)) := by
    intro h
    have : IntKind.i64.max = 9223372036854775807 := by decide
    omega
  have hbig : ¬ (Builtin.nextslicecap (sLen + n) sCap * ei.bytes > 2 ^ 48) := by omega
  unfold Builtin.append_
  cases d <;> first | (cases hd; done) | (
    simp only [ht, ht2, List.getElem?_toArray, List.getElem?_cons_zero, List.getElem?_cons_succ, Sem.run_bind, hu w, hA.size w, Result.andThen_ok, hu2 w, Sem.run_pure, Bool.false_eq_true, if_false, hl, Bool.not_false, if_true]
    rw [if_neg (by omega)]
    simp only [Sem.run_bind, hA.info w, Result.andThen_ok, Sem.run_ite, Sem.run_pure]
    rw [if_neg hmax]
    try simp only [Result.andThen_ok, Sem.run_pure]
    rw [if_neg hbig]
    simp only [Sem.run_bind, run_choose, Question.forced, Bool.false_eq_true, if_false, World.drew_eq, Result.andThen_ok, run_askRoom, ho, hx, hz, Sem.run_pure, hA.info]
    rfl)
end
end Go.Ev
namespace Go.Ev
open Go.RowKit
variable [Base]

section
variable {E : Env} {P : Program} {φ : Phi}

/-- What a value and a heap say of a run's end. -/
def OkAt (P : Program) (φ : Phi) (w : World) (v : V) (st' : St) (s : Sem Value) : Prop := ∃ φ' x w', s.run P w = .ok x w' ∧ Chg φ w φ' w' ∧ Rep φ' st' w' ∧ VR φ' v x
theorem OkAt.res {w : World} {v : V} {st' : St} {s : Sem Value} (h : OkAt P φ w v st' s) : ResOK P φ w (.val v st') ((vRun s).run P w) := by
  obtain ⟨φ', x, w', h1, h2, h3, h4⟩ := h
  exact .inl ⟨φ', x, w', vRun_ok h1, h2, h3, h4⟩

omit [Base] in
theorem isEl_some {e t : TypeId} {x : Option TypeId} (h : isEl e x = some t) : x = some t ∧ t = e := by
  cases x with
  | none => cases h
  | some u =>
    obtain ⟨h1, h2⟩ := cond_some (show cond (Nat.beq u e) (some e) none = some t from h)
    cases h2
    exact ⟨by rw [Nat.eq_of_beq_eq_true h1], rfl⟩
/-- A new row that begins with values at hand, and goes on with zeros, of open capacity. -/
theorem grown_sound {next : Nat} {blks : Tr Blk} {w : World} (hR : Rep φ ⟨next, blks⟩ w) (hg : blks.get next = none) {all : List V} {xs : Array Value} (hv : VRs φ all xs.toList) {len esz newCap : Nat} {zs : Array Value} {e : TypeId} (he : 0 < esz) (hlen : all.length = len * esz) (hcap : len ≤ newCap)
    (hz : zs.size = (newCap - len) * esz) :
    ∃ φ', Chg φ w φ' (w.drew.alloc (.cells (xs ++ zs) e)) ∧ Rep φ' ⟨next + 1, blks.set next (.cells (setCells 0 all .e 0) all.length 0 (some e))⟩ (w.drew.alloc (.cells (xs ++ zs) e)) ∧
      VR φ' (.sl next 0 len esz none) (.slice (some ⟨w.heap.size, 0, none⟩) len newCap) := by
  have hs : xs.size = all.length := by have := hv.1; simpa using this
  obtain ⟨h1, h2⟩ := new_sound (rep_drew hR) hg hv (xs ++ zs) e 0 0 (fun i y h => by
    have hi : i < xs.size := by have := (List.getElem?_eq_some_iff.1 h).1; simpa using this
    rw [Array.getElem?_append_left hi]; rw [← Array.getElem?_toList]; exact h) (by simp) (fun i _ => by omega) (some e) (fun _ e => by cases e; rfl)
  refine ⟨_, (chg_drew w).trans h1, h2, .slo next 0 len esz newCap _ _ Phi.add_self hcap he ?_⟩
  simp only [Array.size_append, hs, hz, hlen]
  rw [Nat.zero_add, ← Nat.add_mul]; congr 1; omega

omit [Base] in
theorem zeroCells_size (z : Array Value) (n : Nat) : (Builtin.zeroCells z n).size = n * z.size := by simp [Builtin.zeroCells]

omit [Base] in
theorem szAt_some {st : St} {id size : Nat} (h : szAt st id = some size) : ∃ r g cs x, rootOf st.blks id = some (r, g) ∧ st.blks.get r = some (.cells cs size g x) := by
  obtain ⟨next, blks⟩ := st
  obtain ⟨⟨r, g⟩, h1, h⟩ := obind_some h
  obtain ⟨bl, h2, h⟩ := obind_some h
  cases bl <;> first | (cases h; done) | skip
  rename_i cs sz last x
  obtain ⟨h3, h4⟩ := cond_some (c := Nat.beq last g) h
  cases h4
  obtain rfl := Nat.eq_of_beq_eq_true h3
  exact ⟨r, last, cs, x, h1, h2⟩
theorem appendV_sound (hE : EnvOK E P) {ats : Array TypeId} {ty e : TypeId} {ei : TypeInfo} {ed : TypeDesc} (hA : AppOK E P ats e ei) (hei : E.types e = some (ei, ed)) {z : V} (hz : zeroV E e = some z) (hzs : (cellsV z).length = ei.size) (hez : 0 < ei.size)
    {st st' : St} {w : World} (hR : Rep φ st w) {s u r : V} {sx x : Value} {n : Nat} {vs : List V} (hs : VR φ s sx) (hu : VR φ u x) (hl : lenV u = some n) (hn : n ≤ 1000000) (ht : takeCells st ei.size n u = some vs)
    (h : appendV e st ei.size vs n s = some (r, st')) : OkAt P φ w r st' (Builtin.append_ ats ty #[sx, x]) := by
  obtain ⟨xs, hx, hvs, hxs⟩ := takeCells_sound (P := P) hR hu hl (Nat.le_refl n) ht
  obtain ⟨xs2, hx2, hvs2, hxs2⟩ := takeCells_sound (P := P) (rep_drew hR) hu hl (Nat.le_refl n) ht
  have hlen := lenV_sound (P := P) hu hl w
  obtain ⟨zx, hz1, hz2⟩ := zeroV_sound (φ := φ) hE w.drew hz
  have hzc := cellsV_sound hz2
  have hzsz : zx.cells.size = ei.size := by have := hzc.1; simp at this; omega
  have hvl : vs.length = n * ei.size := by have := hvs.1; simp at this; omega
  obtain ⟨next, blks⟩ := st
  cases hs <;> first | (cases h; done) | skip
  · -- nil
    by_cases h0 : n = 0
    · subst h0
      cases h
      exact ⟨φ, .slice none 0 0, w, run_append_room hA (w' := w) hlen hx (by omega) (fun a e => by cases e) (fun _ => rfl), Chg.refl φ w, hR, .nils⟩
    · have hb : Nat.beq n 0 = false := by cases q : Nat.beq n 0 with | false => rfl | true => exact absurd (Nat.eq_of_beq_eq_true q) h0
      replace h : cond (Nat.beq n 0) (some (V.nils, (⟨next, blks⟩ : St))) (newSl e ⟨next, blks⟩ ei.size n vs) = some (r, st') := h
      rw [hb] at h
      replace h : newSl e ⟨next, blks⟩ ei.size n vs = some (r, st') := h
      unfold newSl at h
      obtain ⟨hg, h⟩ := newK_some h
      cases h
      obtain ⟨newCap, g1, g2⟩ := run_append_grow (ty := ty) hA (base := none) (sLen := 0) (sCap := 0) hlen (old := #[]) rfl hx2 hz1 (by omega) (by omega)
      obtain ⟨φ', k1, k2, k3⟩ := grown_sound hR hg hvs2 (len := n) (newCap := newCap) (e := e) (zs := Builtin.zeroCells zx.cells (newCap - (0 + n))) hez (by omega) (by omega) (by rw [zeroCells_size, hzsz]; simp)
      refine ⟨φ', _, _, by rw [g2]; simp only [Nat.zero_add, Array.empty_append]; rfl, by simpa using k1, by simpa using k2, k3⟩
  · -- a capacity that is known
    rename_i id off len esz' c b κ hφ hlc hκ
    obtain ⟨hroom, h2⟩ := cond_some h
    have hroom' : len + n ≤ 1000000 := Nat.le_of_ble_eq_true hroom
    replace h2 : cond (Nat.ble (Nat.add len n) c)
      (obind (storeAt ⟨next, blks⟩ id (Nat.add off (Nat.mul len ei.size)) vs) fun st' => natK (Nat.add len n) fun m => some (V.sl id off m esz' (some c), st'))
      (obind (cellsAt ⟨next, blks⟩ id off (Nat.mul len ei.size)) fun old => listK (old ++ vs) fun all => natK (Nat.add len n) fun m => newSl e ⟨next, blks⟩ ei.size m all) = some (r, st') := h2
    cases hb : Nat.ble (Nat.add len n) c with
    | true =>
      rw [hb] at h2
      have hle : len + n ≤ c := Nat.le_of_ble_eq_true hb
      obtain ⟨st2, h3, h4⟩ := obind_some h2
      rw [natK_eq] at h4
      cases h4
      obtain ⟨w', g1, g2, g3⟩ := storeAt_sound (P := P) hR hφ h3 hvs
      exact ⟨φ, _, w', run_append_room hA (w' := w') hlen hx hle (fun a e => by cases e; rw [add_none]; exact g1) (fun e => by cases e), g2, g3, .slk id off _ esz' c b κ hφ hle hκ⟩
    | false =>
      rw [hb] at h2
      have hgt := ble_false hb
      obtain ⟨old, h3, h4⟩ := obind_some h2
      rw [listK_eq, natK_eq] at h4
      unfold newSl at h4
      obtain ⟨hg, h4⟩ := newK_some h4
      cases h4
      obtain ⟨ox, o1, o2, o3⟩ := cellsAt_sound (P := P) (rep_drew hR) hφ h3
      have hgt' : ¬ len + n ≤ c := hgt
      obtain ⟨newCap, g1, g2⟩ := run_append_grow (ty := ty) hA (base := some ⟨b, off, none⟩) (sLen := len) (sCap := c) hlen (old := ox) o1 hx2 hz1 (by omega) (by omega)
      have hall : VRs φ (old ++ vs) (ox ++ xs2).toList := by rw [Array.toList_append]; exact o2.append hvs2
      have hol : old.length = len * ei.size := by have := o2.1; simp at this; have h9 : ox.size = len * ei.size := o3; omega
      obtain ⟨φ', k1, k2, k3⟩ := grown_sound hR hg hall (len := len + n) (newCap := newCap) (e := e) (zs := Builtin.zeroCells zx.cells (newCap - (len + n))) hez (by simp only [List.length_append, hol, hvl]; rw [Nat.add_mul]) g1 (by rw [zeroCells_size, hzsz])
      exact ⟨φ', _, _, g2, k1, k2, k3⟩
  · -- an open one
    rename_i id off len esz' c b κ hφ hlc hez' hκ
    obtain ⟨hroom, h2⟩ := cond_some h
    have hroom' : len + n ≤ 1000000 := Nat.le_of_ble_eq_true hroom
    by_cases h0 : n = 0
    · subst h0
      replace h2 : some (V.sl id off len esz' none, (⟨next, blks⟩ : St)) = some (r, st') := h2
      cases h2
      have hxe : xs.toList = [] := by
        have : xs.size = 0 := by rw [hxs]; simp
        simpa using this
      exact ⟨φ, _, w, run_append_room hA (w' := w) hlen hx (by omega) (fun a e => by rw [hxe]; rfl) (fun _ => rfl), Chg.refl φ w, hR, .slo id off len esz' c b κ hφ hlc hez' hκ⟩
    · have hb : Nat.beq n 0 = false := by cases q : Nat.beq n 0 with | false => rfl | true => exact absurd (Nat.eq_of_beq_eq_true q) h0
      replace h2 : cond (Nat.beq n 0) (some (V.sl id off len esz' none, (⟨next, blks⟩ : St))) (cond (Nat.beq ei.size esz') (cond (appendFits ⟨next, blks⟩ id off len ei.size n) (appendIn ⟨next, blks⟩ id off len ei.size n vs) (cond (Nat.beq off 0) (appendOpen e ⟨next, blks⟩ id len ei.size vs n) none)) none) = some (r, st') := h2
      rw [hb] at h2
      obtain ⟨h3, h4⟩ := cond_some (c := Nat.beq ei.size esz') h2
      have e1 := Nat.eq_of_beq_eq_true h3
      subst e1
      cases hft : appendFits ⟨next, blks⟩ id off len ei.size n with
      | true =>
        rw [hft] at h4
        obtain ⟨st2, h5, h6⟩ := obind_some (show obind (storeAt ⟨next, blks⟩ id (Nat.add off (Nat.mul len ei.size)) vs) (fun st' => natK (Nat.add len n) fun m => some (V.sl id off m ei.size none, st')) = some (r, st') from h4)
        rw [natK_eq] at h6
        cases h6
        unfold appendFits at hft
        cases hz3 : szAt ⟨next, blks⟩ id with
        | none => rw [hz3] at hft; cases hft
        | some sz =>
        rw [hz3] at hft
        have hle := Nat.le_of_ble_eq_true (show Nat.ble (Nat.add off (Nat.mul (Nat.add len n) ei.size)) sz = true from hft)
        simp only [Nat.add_eq, Nat.mul_eq] at hle
        obtain ⟨rr, g, cs, x0, a1, a2⟩ := szAt_some hz3
        obtain ⟨hgl, arr0, el0, lo0, hi0, hblk0, hsz0, hfz0, hcs0⟩ := hR.cells id b κ rr g cs _ g x0 hφ a1 a2
        have hszκ : sz ≤ arr0.size := hcs0.size rfl
        have hfit : len + n ≤ c := Nat.le_of_mul_le_mul_right (by omega) hez
        obtain ⟨w', g1, g2, g3⟩ := storeAt_sound (P := P) hR hφ h5 hvs
        exact ⟨φ, _, w', run_append_room hA (w' := w') hlen hx hfit (fun a e => by cases e; rw [add_none]; exact g1) (fun e => by cases e), g2, g3, .slo id off _ ei.size c b κ hφ hfit hez' hκ⟩
      | false =>
      rw [hft] at h4
      obtain ⟨h5, h4⟩ := cond_some (c := Nat.beq off 0) h4
      obtain rfl := Nat.eq_of_beq_eq_true h5
      obtain ⟨rr, g, cs, x0, hg, a1, a2, a3, rfl, rfl⟩ := appendOpen_eq h4
      have hκ' : c * ei.size = κ := by omega
      obtain ⟨hgl, arr0, el0, lo0, hi0, hblk0, hsz0, hfz0, hcs0⟩ := hR.cells id b κ rr g cs _ g x0 hφ a1 a2
      have hlenκ : len * ei.size ≤ arr0.size := hcs0.size rfl
      by_cases hfit : len + n ≤ c
      · -- there is room: in place
        have hroomκ : len * ei.size + n * ei.size ≤ κ := by rw [← hκ', ← Nat.add_mul]; exact Nat.mul_le_mul_right _ hfit
        have hxl : xs.toList.length = n * ei.size := by simpa using hxs
        obtain ⟨w', arr', q1, q2⟩ := run_storeCells (P := P) (b := b) (off := 0 + len * ei.size) (el := el0) (lo := lo0) (hi := hi0) xs.toList w arr0 0 hblk0 (by rw [hsz0]; exact hfz0.1) (by omega) (allScal_one hvs a3)
        have q1' : (storeCells (Addr.add ⟨b, 0, none⟩ (len * ei.size)) xs.toList).run P w = .ok () w' := by rw [add_none]; exact q1
        have hat := q2.at_
        simp only [Nat.zero_add, Nat.add_zero] at hat
        have hchg : Chg φ w (φ.add next b κ) w' := ⟨Phi.le_add (hR.fresh hg), q2.os, q2.tape, q2.output, Nat.le_of_eq q2.hsize.symm, fun i p k e => by
            unfold Phi.add at e
            split at e
            · cases e; exact .inl ⟨id, κ, hφ⟩
            · exact .inl ⟨i, k, e⟩, fun p _ hp => q2.other p (fun e => hp id κ (e ▸ hφ)), .of_other b q2.other (fun r e => by rw [hblk0] at e; cases e)⟩
        refine ⟨φ.add next b κ, _, w', run_append_room hA (w' := w') hlen hx hfit (fun a e => by cases e; exact q1') (fun e => by cases e), hchg, ?_, .slo next 0 _ ei.size c b κ Phi.add_self hfit hez' hκ⟩
        · refine hR.appended hg (fun t h => (isEl_some h).1) hφ a1 a2 b κ (hR.low.chg hchg) (Nat.le_of_eq q2.hsize.symm) (by rw [q2.hsize]; exact hR.lt id b κ hφ) (.inl rfl) (fun p _ hp => q2.other p hp) (fun arr el lo hi e1 e2 => ?_) (fun arr el lo hi e1 e2 e3 => ?_)
          · rw [hblk0] at e1; cases e1
            exact ⟨arr', q2.blk, q2.size, fun q hq => by rw [hat, if_neg (by omega)]⟩
          · rw [hblk0] at e1; cases e1
            refine ⟨arr', el0, lo0, hi0, q2.blk, by rw [q2.size]; exact e2, e3.weak (fun t h => (isEl_some h).1), fun q hq => by rw [hat, if_neg (by omega)], by rw [q2.size]; omega, fun i v hv => ?_⟩
            obtain ⟨x, hx, hvx⟩ := hvs.get hv
            have hi : i < vs.length := (List.getElem?_eq_some_iff.1 hv).1
            exact ⟨x, by rw [hat, if_pos (by omega)]; rw [← hx]; congr 1; omega, hvx⟩
      · -- a new row
        have hpre : len * ei.size ≤ arr0.size := hlenκ
        have ho : (Builtin.firstCells ei.size len (.slice (some ⟨b, 0, none⟩) len c)).run P w.drew = .ok (((arr0.toList.drop 0).take (len * ei.size)).toArray) w.drew := by
          simp only [Builtin.firstCells]
          exact run_loadCells (w := w.drew) hblk0 (by omega)
        obtain ⟨newCap, g1, g2⟩ := run_append_grow (ty := ty) hA (base := some ⟨b, 0, none⟩) (sLen := len) (sCap := c) hlen (old := ((arr0.toList.drop 0).take (len * ei.size)).toArray) ho hx2 hz1 (by omega) (by omega)
        generalize hold : ((arr0.toList.drop 0).take (len * ei.size)).toArray = old at g2
        have hols : old.size = len * ei.size := by rw [← hold]; simp; omega
        have holg : ∀ q, q < len * ei.size → old[q]? = arr0[q]? := fun q hq => by rw [← hold]; simp [hq]
        generalize hzz : Builtin.zeroCells zx.cells (newCap - (len + n)) = zz at g2
        have hzzs : zz.size = (newCap - (len + n)) * ei.size := by rw [← hzz, zeroCells_size, hzsz]
        have htot : (old ++ xs2 ++ zz).size = newCap * ei.size := by
          simp only [Array.size_append, hols, hxs2, hzzs]; rw [← Nat.add_mul, ← Nat.add_mul]; congr 1; omega
        have hchg := (chg_drew w).trans (Chg.alloc (w := w.drew) (o := .cells (old ++ xs2 ++ zz) e) (κ := newCap * ei.size) (hR.fresh hg))
        refine ⟨φ.add next w.heap.size (newCap * ei.size), _, _, g2, hchg, ?_, .slo next 0 _ ei.size newCap _ _ Phi.add_self g1 hez' (by omega)⟩
        · refine hR.appended hg (fun t h => (isEl_some h).1) hφ a1 a2 w.heap.size (newCap * ei.size) (hR.low.chg hchg) (by simp) (by simp) (.inr (Nat.le_refl _)) (fun p hp _ => heap_alloc_lt (w := w.drew) hp) (fun arr el lo hi e1 e2 => ?_) (fun arr el lo hi e1 e2 e3 => ?_)
          · rw [hblk0] at e1; cases e1
            exact ⟨arr0, by rw [heap_alloc_lt (w := w.drew) (hR.lt id b κ hφ)]; exact hblk0, rfl, fun q _ => rfl⟩
          · rw [hblk0] at e1; cases e1
            refine ⟨old ++ xs2 ++ zz, e, 0, 0, heap_alloc_new (w := w.drew), htot, ⟨fun i _ => by omega, fun t h => (isEl_some h).2.symm⟩, fun q hq => ?_, by rw [htot, hvl, ← Nat.add_mul]; exact Nat.mul_le_mul_right _ g1, fun i v hv => ?_⟩
            · rw [Array.getElem?_append_left (by simp; omega), Array.getElem?_append_left (by omega)]; exact holg q hq
            · obtain ⟨x, hx, hvx⟩ := hvs2.get hv
              have hi : i < vs.length := (List.getElem?_eq_some_iff.1 hv).1
              refine ⟨x, ?_, hvx⟩
              rw [Array.getElem?_append_left (by simp; omega), Array.getElem?_append_right (by omega), hols]
              have : len * ei.size + i - len * ei.size = i := by omega
              rw [this, ← Array.getElem?_toList]; exact hx
end
end Go.Ev
namespace Go.Ev
open Go.RowKit
variable [Base]

section
variable {E : Env} {P : Program} {φ : Phi}

omit [Base] in
theorem nth_arr {α : Type} (a : Array α) (i : Nat) : nth a.toList i = a[i]? := by rw [nth_eq]; simp
theorem typeAt_sound (hE : EnvOK E P) {ats : Array TypeId} {i : Nat} {d : TypeDesc} (h : typeAt E ats i = some d) : ∃ t, ats[i]? = some t ∧ ∀ w, (underlying t).run P w = .ok d w := by
  obtain ⟨t, h1, h2⟩ := obind_some h
  obtain ⟨⟨ti, td⟩, h3, h4⟩ := obind_some h2
  cases h4
  rw [nth_arr] at h1
  exact ⟨t, h1, fun w => hE.und h3 w⟩

theorem bLen_sound (hE : EnvOK E P) {ats : Array TypeId} {ty : TypeId} {st : St} {w : World} {vs : List V} {xs : Array Value} {r : Res} (hR : Rep φ st w) (hv : VRs φ vs xs.toList) (h : bLen E ats st vs = some r) : ResOK P φ w r ((vRun (Builtin.len_ ats ty xs)).run P w) := by
  match vs, h with
  | [v], h =>
    obtain ⟨d, h1, h2⟩ := obind_some h
    obtain ⟨t, ht, hu⟩ := typeAt_sound hE h1
    obtain ⟨x, ys, e, hvx, hys⟩ := hv.inv
    rw [hys.inv_nil] at e
    obtain rfl : xs = #[x] := Array.ext' (by simpa using e)
    cases d <;> first | (cases h2; done) | skip
    · cases hvx <;> first | (cases h2; done) | skip
      rename_i s hs
      simp only [bLenD, bLenStr, natK_eq] at h2
      cases h2
      exact ok_val hR (x := .int .i64 (.ofNat s.length)) (by unfold Builtin.len_; simp [ht, hu w, mkS_size, goInt]) (.int _ _)
    · cases hvx <;> first
        | (cases h2; done)
        | (cases h2; exact ok_val hR (x := .int .i64 (.ofNat _)) (by unfold Builtin.len_; simp [ht, hu w, goInt]) (.int _ _))
    · cases hvx <;> first | (cases h2; done) | skip
      · cases h2
        exact ok_val hR (x := .int .i64 (.ofNat 0)) (by unfold Builtin.len_; simp [ht, hu w, goInt]) (.int _ _)
      · rename_i id b κ hφ
        obtain ⟨bl, h3, h4⟩ := obind_some h2
        cases bl <;> first | (cases h4; done) | skip
        rename_i es clock
        simp only [bLenMap, natK_eq] at h4
        cases h4
        obtain ⟨es', hes, heo⟩ := hR.maps id b κ es clock hφ h3
        refine ok_val hR (x := .int .i64 (.ofNat es.length)) ?_ (.int _ _)
        unfold Builtin.len_
        have hg : (getObj b).run P w = .ok (.map es' clock) w := by simp [getObj, Sem.run, hes]
        simp [ht, hu w, hg, goInt, heo.1]

theorem bCap_sound (hE : EnvOK E P) {ats : Array TypeId} {ty : TypeId} {st : St} {w : World} {vs : List V} {xs : Array Value} {r : Res} (hR : Rep φ st w) (hv : VRs φ vs xs.toList) (h : bCap E ats st vs = some r) : ResOK P φ w r ((vRun (Builtin.cap_ ats ty xs)).run P w) := by
  match vs, h with
  | [v], h =>
    obtain ⟨d, h1, h2⟩ := obind_some h
    obtain ⟨t, ht, hu⟩ := typeAt_sound hE h1
    obtain ⟨x, ys, e, hvx, hys⟩ := hv.inv
    rw [hys.inv_nil] at e
    obtain rfl : xs = #[x] := Array.ext' (by simpa using e)
    cases d <;> first | (cases h2; done) | skip
    cases hvx <;> first
      | (cases h2; done)
      | (cases h2; exact ok_val hR (x := .int .i64 (.ofNat _)) (by unfold Builtin.cap_; simp [ht, hu w, goInt]) (.int _ _))

theorem elemRow_sound (hE : EnvOK E P) {t : Option TypeId} {K : TypeId → TypeInfo → Option Res} {r : Res} (h : elemRow E t K = some r) :
    ∃ t' e ei ed, t = some t' ∧ (∀ w, (underlying t').run P w = .ok (.slice e) w) ∧ E.types e = some (ei, ed) ∧ K e ei = some r := by
  obtain ⟨t', h1, h2⟩ := obind_some h
  obtain ⟨⟨i, d⟩, h3, h4⟩ := obind_some h2
  dsimp only at h4
  obtain ⟨e, h5, h6⟩ := obind_some h4
  obtain ⟨⟨ei, ed⟩, h7, h8⟩ := obind_some h6
  cases d <;> first | (cases h5; done) | skip
  cases h5
  exact ⟨t', _, ei, ed, h1, fun w => hE.und h3 w, h7, h8⟩

theorem bAppend_sound (hE : EnvOK E P) {ats : Array TypeId} {ty : TypeId} {st : St} {w : World} {vs : List V} {xs : Array Value} {r : Res} (hR : Rep φ st w) (hv : VRs φ vs xs.toList) (h : bAppend E ats st vs = some r) : ResOK P φ w r ((vRun (Builtin.append_ ats ty xs)).run P w) := by
  match vs, h with
  | [s, u], h =>
    simp only [bAppend] at h
    obtain ⟨t, e, ei, ed, h1, hu, hei, h2⟩ := elemRow_sound hE h
    obtain ⟨d1, h3, h4⟩ := obind_some h2
    obtain ⟨u1, hu1, hd1⟩ := typeAt_sound hE h3
    obtain ⟨z, hz, h5⟩ := obind_some h4
    obtain ⟨h6, h7⟩ := cond_some h5
    obtain ⟨n, h8, h9⟩ := obind_some h7
    obtain ⟨h10, h11⟩ := cond_some h9
    obtain ⟨cs, h12, h13⟩ := obind_some h11
    obtain ⟨⟨v, st'⟩, h14, h15⟩ := obind_some h13
    cases h15
    obtain ⟨sx, ys, e1, hsx, hys⟩ := hv.inv
    obtain ⟨ux, zs, e2, hux, hzs⟩ := hys.inv
    rw [hzs.inv_nil] at e2
    subst e2
    obtain rfl : xs = #[sx, ux] := Array.ext' (by simpa using e1)
    rw [nth_arr] at h1
    cases hb1 : notIntD d1 with
    | false => rw [hb1] at h6; cases h6
    | true =>
    rw [hb1] at h6
    cases hb2 : Nat.ble ei.bytes 10000 with
    | false => rw [hb2] at h6; cases h6
    | true =>
    rw [hb2] at h6
    cases hb3 : Nat.ble 1 ei.size with
    | false => rw [hb3] at h6; cases h6
    | true =>
    rw [hb3] at h6
    replace h6 : Nat.beq (cellsV z).length ei.size = true := h6
    have hA : AppOK E P ats e ei := ⟨⟨t, h1, hu⟩, ⟨u1, d1, hu1, hd1, hb1⟩, fun w => hE.size hei w, fun w => hE.info hei w, Nat.le_of_ble_eq_true hb2⟩
    exact (appendV_sound hE (ty := ty) hA hei hz (Nat.eq_of_beq_eq_true h6) (Nat.le_of_ble_eq_true hb3) hR hsx hux h8 (Nat.le_of_ble_eq_true h10) h12 h14).res

theorem bCopy_sound (hE : EnvOK E P) {ats : Array TypeId} {ty : TypeId} {st : St} {w : World} {vs : List V} {xs : Array Value} {r : Res} (hR : Rep φ st w) (hv : VRs φ vs xs.toList) (h : bCopy E ats st vs = some r) : ResOK P φ w r ((vRun (Builtin.copy_ ats ty xs)).run P w) := by
  match vs, h with
  | [dv, u], h =>
    simp only [bCopy] at h
    obtain ⟨t, e, ei, ed, h1, hu, hei, h2⟩ := elemRow_sound hE h
    obtain ⟨n, h3, h4⟩ := obind_some h2
    obtain ⟨m, h5, h6⟩ := obind_some h4
    rw [natK_eq] at h6
    obtain ⟨cs, h7, h8⟩ := obind_some h6
    obtain ⟨dx, ys, e1, hdx, hys⟩ := hv.inv
    obtain ⟨ux, zs, e2, hux, hzs⟩ := hys.inv
    rw [hzs.inv_nil] at e2
    subst e2
    obtain rfl : xs = #[dx, ux] := Array.ext' (by simpa using e1)
    rw [nth_arr] at h1
    have hq : (cond (Nat.ble n m) n m) = Nat.min n m := by
      cases hb : Nat.ble n m with
      | true => have := Nat.le_of_ble_eq_true hb; show n = _; exact (Nat.min_eq_left this).symm
      | false => have := ble_false hb; show m = _; exact (Nat.min_eq_right (by omega)).symm
    rw [hq] at h7 h8
    have hl := lenV_sound (P := P) hux h3 w
    obtain ⟨xc, hxc, hvc, hsz⟩ := takeCells_sound (P := P) hR hux h3 (Nat.min_le_left n m) h7
    have key : ∀ (id off len c b κ : Nat), φ id = some (b, κ) → (obind (storeAt st id off cs) fun st' => ret st' (.int .i64 (.ofNat (Nat.min n len)))) = some r →
        (Builtin.firstCells ei.size (Nat.min n len) ux).run P w = .ok xc w → ResOK P φ w r ((vRun (Builtin.copy_ ats ty #[.slice (some ⟨b, off, none⟩) len c, ux])).run P w) := by
      intro id off len c b κ hφ h8 hxc
      obtain ⟨st', h9, h10⟩ := obind_some h8
      cases h10
      obtain ⟨w', g1, g2, g3⟩ := storeAt_sound (P := P) hR hφ h9 hvc
      refine ok_new (x := .int .i64 (.ofNat (Nat.min n len))) (w' := w') ?_ g2 g3 (.int _ _)
      unfold Builtin.copy_
      simp only [h1, List.getElem?_toArray, List.getElem?_cons_zero, List.getElem?_cons_succ, Sem.run_bind, hu w, hl, Result.andThen_ok, hE.size hei w, hxc, g1]
      rfl
    cases hdx <;> first | (cases h8; done) | skip
    · cases h8
      cases h5
      have e0 : Nat.min n 0 = 0 := Nat.min_zero n
      refine ok_val hR (x := .int .i64 (.ofNat 0)) ?_ (.int _ _)
      unfold Builtin.copy_
      simp only [h1, List.getElem?_toArray, List.getElem?_cons_zero, List.getElem?_cons_succ, Sem.run_bind, hu w, hl, Result.andThen_ok, hE.size hei w, hxc]
      simp [goInt]
    · rename_i id off len esz c b κ hφ _ _
      cases h5
      exact key id off _ c b κ hφ h8 hxc
    · rename_i id off len esz c b κ hφ _ _ _
      cases h5
      exact key id off _ c b κ hφ h8 hxc

theorem bClear_sound (hE : EnvOK E P) {ats : Array TypeId} {ty : TypeId} {st : St} {w : World} {vs : List V} {xs : Array Value} {r : Res} (hR : Rep φ st w) (hv : VRs φ vs xs.toList) (h : bClear E ats st vs = some r) : ResOK P φ w r ((vRun (Builtin.clear_ ats ty xs)).run P w) := by
  match vs, h with
  | [s], h =>
    simp only [bClear] at h
    obtain ⟨t, e, ei, ed, h1, hu, hei, h2⟩ := elemRow_sound hE h
    obtain ⟨sx, ys, e1, hsx, hys⟩ := hv.inv
    rw [hys.inv_nil] at e1
    obtain rfl : xs = #[sx] := Array.ext' (by simpa using e1)
    rw [nth_arr] at h1
    have key : ∀ (id off len c b κ : Nat), φ id = some (b, κ) → (obind (zeroV E e) fun z => cond (Nat.beq (cellsV z).length ei.size) (listK (repl len (cellsV z)) fun zs => obind (storeAt st id off zs) fun st' => ret st' undefV) none) = some r →
        ResOK P φ w r ((vRun (Builtin.clear_ ats ty #[.slice (some ⟨b, off, none⟩) len c])).run P w) := by
      intro id off len c b κ hφ h
      obtain ⟨z, hz, h⟩ := obind_some h
      obtain ⟨hb, h⟩ := cond_some h
      rw [listK_eq] at h
      obtain ⟨st', h9, h10⟩ := obind_some h
      cases h10
      obtain ⟨zx, hz1, hz2⟩ := zeroV_sound (φ := φ) hE w hz
      have hzc := cellsV_sound hz2
      have hzl : (cellsV z).length = zx.cells.size := by have := hzc.1; simp at this; omega
      have hzz : VRs φ (repl len (cellsV z)) (Builtin.zeroCells zx.cells len).toList := zeros_sound hzc len _ (by rw [hzl])
      obtain ⟨w', g1, g2, g3⟩ := storeAt_sound (P := P) hR hφ h9 hzz
      refine ok_new (x := .tuple #[]) (w' := w') ?_ g2 g3 (VRs.tup (xs := #[]) .nil)
      cases len with
      | zero =>
        have : (Builtin.zeroCells zx.cells 0).toList = [] := by simp [Builtin.zeroCells]
        rw [this] at g1
        have e2 : w = w' := by have : (storeCells ⟨b, off, none⟩ []).run P w = .ok () w := rfl
                               rw [this] at g1; cases g1; rfl
        subst e2
        unfold Builtin.clear_
        simp only [h1, List.getElem?_toArray, List.getElem?_cons_zero, Sem.run_bind, hu w, Result.andThen_ok]
        rfl
      | succ m =>
        unfold Builtin.clear_
        simp only [h1, List.getElem?_toArray, List.getElem?_cons_zero, Sem.run_bind, hu w, Result.andThen_ok, hz1, g1]
        rfl
    cases hsx <;> first | (cases h2; done) | skip
    · rename_i id off len esz c b κ hφ _ _
      exact key id off len c b κ hφ h2
    · rename_i id off len esz c b κ hφ _ _ _
      exact key id off len c b κ hφ h2

omit [Base] in
theorem minmax_sound {mx : Bool} (w : World) : ∀ (vs : List V) (xs : List Value) (v r : V) (x : Value), VR φ v x → VRs φ vs xs → minmax mx v vs = some r →
    ∃ y, (xs.foldlM (if mx then Builtin.max2 else Builtin.min2) x).run P w = .ok y w ∧ VR φ r y := by
  intro vs
  induction vs with
  | nil => intro xs v r x hv hvs h; rw [hvs.inv_nil]; cases v <;> (cases h; exact ⟨x, rfl, hv⟩)
  | cons u vs ih =>
    intro xs v r x hv hvs h
    obtain ⟨y, ys, rfl, hy, hys⟩ := hvs.inv
    cases hv <;> first | (simp [minmax] at h; done) | skip
    rename_i k a
    cases hy <;> first | (simp [minmax] at h; done) | skip
    rename_i k' b
    rw [minmax] at h
    obtain ⟨h1, h2⟩ := cond_some h
    clear h
    obtain rfl := kEq_eq h1
    cases mx
    · have e : Builtin.min2 (.int k a) (.int k b) = (pure (.int k (if b < a then b else a)) : Sem Value) := rfl
      have e2 : cond (boolEq false (intLe a b)) (V.int k b) (V.int k a) = V.int k (if b < a then b else a) := by
        rw [intLe_eq]
        by_cases hc : a ≤ b
        · rw [if_neg (by omega), decide_eq_true hc]; rfl
        · rw [if_pos (by omega), decide_eq_false hc]; rfl
      rw [e2] at h2
      obtain ⟨z, g1, g2⟩ := ih ys _ r _ (.int k _) hys h2
      exact ⟨z, by simp only [List.foldlM_cons, Bool.false_eq_true, if_false, e, Sem.run_bind, Sem.run_pure, Result.andThen_ok]; simpa using g1, g2⟩
    · have e : Builtin.max2 (.int k a) (.int k b) = (pure (.int k (if b > a then b else a)) : Sem Value) := rfl
      have e2 : cond (boolEq true (intLe a b)) (V.int k b) (V.int k a) = V.int k (if b > a then b else a) := by
        rw [intLe_eq]
        by_cases hc : a ≤ b
        · rw [decide_eq_true hc]
          show V.int k b = _
          by_cases hb : b > a
          · rw [if_pos hb]
          · rw [if_neg hb]; congr 1; omega
        · rw [if_neg (by omega), decide_eq_false hc]; rfl
      rw [e2] at h2
      obtain ⟨z, g1, g2⟩ := ih ys _ r _ (.int k _) hys h2
      exact ⟨z, by simp only [List.foldlM_cons, if_true, e, Sem.run_bind, Sem.run_pure, Result.andThen_ok]; simpa using g1, g2⟩
theorem bMinMax_sound {mx : Bool} {ats : Array TypeId} {ty : TypeId} {st : St} {w : World} {vs : List V} {xs : Array Value} {r : Res} (hR : Rep φ st w) (hv : VRs φ vs xs.toList) (h : bMinMax mx st vs = some r) :
    ResOK P φ w r ((vRun (if mx then Builtin.max_ ats ty xs else Builtin.min_ ats ty xs)).run P w) := by
  match vs, h with
  | v :: l, h =>
    obtain ⟨u, h1, rfl⟩ := retO_some h
    obtain ⟨x, ys, e, hvx, hys⟩ := hv.inv
    obtain ⟨y, g1, g2⟩ := minmax_sound (P := P) w l ys v u x hvx hys h1
    refine ok_val hR (x := y) ?_ g2
    cases mx
    · simp only [Bool.false_eq_true, if_false] at g1 ⊢
      unfold Builtin.min_
      rw [e]; exact g1
    · simp only [if_true] at g1 ⊢
      unfold Builtin.max_
      rw [e]; exact g1
end
end Go.Ev
namespace Go.Ev
open Go.RowKit
variable [Base]

section
variable {E : Env} {P : Program} {φ : Phi}

theorem evMakeMap_sound (hE : EnvOK E P) {st : St} {w : World} {tm : Tr V} {ρ : Operand → Value} {t : TypeId} {hint : Option Operand} {r : Res} (hR : Rep φ st w) (hρ : OpR φ tm ρ) (h : evMakeMap t hint E tm st = some r) :
    ResOK P φ w r ((vRun (Instr.makeMap t (hint.map ρ))).run P w) := by
  obtain ⟨⟨i, d⟩, h1, h2⟩ := obind_some h
  dsimp only at h2
  obtain ⟨hv, h3, h4⟩ := obind_some h2
  obtain ⟨h5, h6⟩ := cond_some h4
  obtain ⟨next, blks⟩ := st
  obtain ⟨hg, h6⟩ := newBK_some h6
  cases h6
  have hR2 := hR.push hg (.map [] 0) (.map #[] 0) 0 (fun r g e => by cases e) (fun r g e => by cases e) (fun cs s l x e => by cases e) (fun es c e => by cases e; exact ⟨#[], rfl, rfl, fun i k v b e a => by simp at a⟩) (fun v e => by cases e)
  have hc := Chg.alloc (φ := φ) (w := w) (o := .map #[] 0) (id := next) (κ := 0) (hR.fresh hg)
  refine ok_new (x := .map (some w.heap.size)) (w' := w.alloc (.map #[] 0)) ?_ hc hR2 (.map next _ _ Phi.add_self)
  have ho := optOperand_sound hρ h3
  cases d <;> first | (cases h5; done) | skip
  cases hv with
  | none =>
    have e : hint.map ρ = none := ho
    rw [e]
    rfl
  | some v =>
    obtain ⟨y, e, hy⟩ := ho
    rw [e]
    cases hy <;> first | (cases h5; done) | skip
    unfold Instr.makeMap
    simp only [Sem.run_bind, hE.und h1 w, Result.andThen_ok, asInt, asIntOf, Sem.run_pure]
    rfl

omit [Base] in
theorem ifaceD_none {d : TypeDesc} (h : ifaceD d = none) : (match d with | .interface _ => true | _ => false) = false := by cases d <;> first | rfl | cases h
theorem evMakeInterface_sound (hE : EnvOK E P) {st : St} {w : World} {tm : Tr V} {ρ : Operand → Value} {t : TypeId} {x : Operand} {r : Res} (hR : Rep φ st w) (hρ : OpR φ tm ρ) (h : evMakeInterface t x E tm st = some r) :
    ResOK P φ w r ((vRun (Instr.makeInterface t (ρ x))).run P w) := by
  obtain ⟨v, h1, h2⟩ := obind_some h
  obtain ⟨⟨i, d⟩, h3, h4⟩ := obind_some h2
  dsimp only at h4
  cases hd : ifaceD d with
  | some a => rw [hd] at h4; cases h4
  | none =>
    rw [hd] at h4
    cases h4
    refine ok_val hR (x := .iface t (ρ x)) ?_ (.iface t v _ (hρ x v h1))
    unfold Instr.makeInterface
    cases d <;> first | (cases hd; done) | simp [hE.und h3 w]

theorem assertV_sound (hE : EnvOK E P) {w : World} {xt a : TypeId} {ok : Bool} {v r : V} {x : Value} (hv : VR φ v x) (h : assertV E a ok v = some r) : ∃ y, (Instr.typeAssert x xt a ok).run P w = .ok y w ∧ VR φ r y := by
  obtain ⟨⟨i, d⟩, h1, h2⟩ := obind_some h
  dsimp only at h2
  have hit : ∀ {v r : V} {x : Value}, VR φ v x → hitV ok v = some r → VR φ r (if ok then .tuple #[x, .bool true] else x) := by
    intro v r x hv h
    cases ok with
    | false => cases h; exact hv
    | true => cases h; exact VRs.tup (xs := #[x, .bool true]) (.cons hv (.cons (.bool _) .nil))
  have miss : ∀ {r : V}, missV E a ok = some r → ok = true ∧ ∃ z, (zeroValue a).run P w = .ok z w ∧ VR φ r (.tuple #[z, .bool false]) := by
    intro r h
    obtain ⟨h3, h4⟩ := cond_some h
    obtain ⟨z, h5, h6⟩ := obind_some h4
    cases h6
    obtain ⟨zx, g1, g2⟩ := zeroV_sound (φ := φ) hE w h5
    exact ⟨h3, zx, g1, VRs.tup (xs := #[zx, .bool false]) (.cons g2 (.cons (.bool _) .nil))⟩
  cases hv <;> first | (cases h2; done) | skip
  · rename_i t v x hv
    replace h2 : assertI E a ok t v (ifaceD d) = some r := h2
    cases hd : ifaceD d with
    | some m => rw [hd] at h2; cases h2
    | none =>
      rw [hd] at h2
      replace h2 : cond (Nat.beq t a) (hitV ok v) (missV E a ok) = some r := h2
      unfold Instr.typeAssert
      cases hb : Nat.beq t a with
      | true =>
        rw [hb] at h2
        obtain rfl := Nat.eq_of_beq_eq_true hb
        refine ⟨_, ?_, hit hv h2⟩
        cases d <;> first | (cases hd; done) | simp [hE.und h1 w]
      | false =>
        rw [hb] at h2
        have hne : t ≠ a := fun e => by rw [e, Nat.beq_refl] at hb; cases hb
        obtain ⟨rfl, z, g1, g2⟩ := miss h2
        refine ⟨_, ?_, g2⟩
        cases d <;> first | (cases hd; done) | simp [hE.und h1 w, hne, g1]
  · obtain ⟨rfl, z, g1, g2⟩ := miss h2
    refine ⟨_, ?_, g2⟩
    unfold Instr.typeAssert
    cases d <;> simp [hE.und h1 w, g1]

theorem isU8_sound (hE : EnvOK E P) {t : TypeId} (h : isU8 E t = true) (w : World) : (underlying t).run P w = .ok (.int .u8) w := by
  unfold isU8 at h
  cases ht : E.types t with
  | none => rw [ht] at h; cases h
  | some p =>
    rw [ht] at h
    obtain ⟨i, d⟩ := p
    cases d <;> first | (cases h; done) | skip
    rename_i k
    cases k <;> first | (cases h; done) | exact hE.und ht w

omit [Base] in
theorem unbytes_sound {β : Type} : ∀ (vs : List V) (K : List Nat → Option β) (r : β), unbytesK vs K = some r → ∃ s, K s = some r ∧ (∀ c ∈ s, c < 256) ∧ vs = s.map fun b => V.int .u8 (.ofNat b) := by
  intro vs
  induction vs with
  | nil => intro K r h; exact ⟨[], h, fun c hc => by simp at hc, rfl⟩
  | cons v vs ih =>
    intro K r h
    cases v <;> first | (simp [unbytesK] at h; done) | skip
    rename_i k n
    cases k <;> first | (simp [unbytesK] at h; done) | skip
    cases n <;> first | (simp [unbytesK] at h; done) | skip
    rename_i m
    rw [unbytesK] at h
    obtain ⟨h1, h2⟩ := cond_some h
    obtain ⟨s, g1, g2, rfl⟩ := ih _ r h2
    have := Nat.le_of_ble_eq_true h1
    exact ⟨m :: s, g1, fun c hc => by rcases List.mem_cons.1 hc with rfl | hc; omega; exact g2 c hc, rfl⟩
omit [Base] in
theorem bytesLoop {w : World} (F : Value → ByteArray → Sem (ForInStep ByteArray)) (hF : ∀ n r, F (.int .u8 n) r = pure (.yield (r.push (UInt8.ofNat n.toNat)))) : ∀ (s : List Nat) (xs : List Value) (acc : ByteArray), VRs φ (s.map fun b => V.int .u8 (.ofNat b)) xs →
    (forIn (m := Sem) xs acc F).run P w = .ok (acc ++ mkS s) w := by
  intro s
  induction s with
  | nil => intro xs acc h; rw [h.inv_nil]; simp; apply bytes_ext; simp [mkS]
  | cons b s ih =>
    intro xs acc h
    obtain ⟨x, ys, rfl, hx, hys⟩ := h.inv
    cases hx
    rw [List.forIn_cons, hF]
    simp only [Sem.run_bind, Sem.run_pure, Result.andThen_ok]
    rw [ih ys _ hys]
    congr 1
    apply bytes_ext
    simp [mkS]
omit [Base] in
theorem bytesToString_sound {w : World} {a : Option Addr} {len c : Nat} {s : List Nat} {xs : Array Value} (h0 : a = none → s = []) (hl : ∀ b, a = some b → (loadCells b len).run P w = .ok xs w) (hv : VRs φ (s.map fun b => V.int .u8 (.ofNat b)) xs.toList) :
    (Conv.bytesToString (.slice a len c)).run P w = .ok (.string (mkS s)) w := by
  cases a with
  | none => rw [h0 rfl]; rfl
  | some b =>
    unfold Conv.bytesToString
    simp only [Sem.run_bind, hl b rfl, Result.andThen_ok]
    rw [← Array.forIn_toList]
    have e : ByteArray.empty ++ mkS s = mkS s := by apply bytes_ext; simp [mkS]
    rw [bytesLoop (P := P) (w := w) _ (fun n r => rfl) s xs.toList ByteArray.empty hv, e]
    rfl

omit [Base] in
theorem modify_push {α : Type} (a : Array α) (x : α) (f : α → α) : (a.push x).modify a.size f = a.push (f x) := by
  apply Array.ext'
  simp only [Array.toList_modify, Array.toList_push]
  rw [show a.size = a.toList.length from by simp]
  induction a.toList with
  | nil => rfl
  | cons y l ih => simpa [List.modify_succ_cons] using ih
omit [Base] in
theorem mark_alloc {w : World} {A : Array Value} {e : TypeId} : (markStringish ⟨w.heap.size, 0, none⟩).run P (w.alloc (.cells A e)) = .ok () (w.alloc (.cells A e (A.size, A.size + 1))) := by
  have hsh : (w.alloc (.cells A e)).shape? w.heap.size = some (e, A.size) := by
    unfold World.shape?
    rw [heap_alloc_new]
  unfold markStringish
  simp only [Sem.run_bind, run_shape, Result.andThen_ok, hsh, run_freeze]
  congr 1
  show World.freeze { w with heap := w.heap.push (.cells A e) } ⟨w.heap.size, A.size, none⟩ 1 = { w with heap := w.heap.push (.cells A e (A.size, A.size + 1)) }
  unfold World.freeze
  rw [if_neg (by omega)]
  simp only [modify_push]
  rfl
theorem convertV_sound (hE : EnvOK E P) {src dst : TypeId} {st : St} {w : World} {v : V} {x : Value} {r : Res} (hR : Rep φ st w) (hv : VR φ v x) (h : convertV E src dst st v = some r) : ResOK P φ w r ((vRun (convert src dst x)).run P w) := by
  obtain ⟨⟨i1, ds⟩, h1, h2⟩ := obind_some h
  obtain ⟨⟨i2, dd⟩, h3, h4⟩ := obind_some h2
  dsimp only at h4
  have hs := hE.und h1 w
  have hd := hE.und h3 w
  have tostr : ∀ e, ds = .slice e → dd = .string → cond (isU8 E e) (toStr st v) none = some r → ResOK P φ w r ((vRun (convert src dst x)).run P w) := by
    intro e e1 e2 h
    subst e1 e2
    obtain ⟨h5, h6⟩ := cond_some h
    have hu := isU8_sound hE h5 w
    have run : ∀ s, (∀ (a : Option Addr) (n c : Nat), x = .slice a n c → (Conv.bytesToString x).run P w = .ok (.string (mkS s)) w) → (∃ a n c, x = .slice a n c) → (convert src dst x).run P w = .ok (.string (mkS s)) w := by
      intro s hb ⟨a, n, c, ex⟩
      subst ex
      unfold convert
      simp only [Sem.run_bind, hs, hd, Result.andThen_ok]
      cases a <;> simp only [Sem.run_bind, hu, Result.andThen_ok] <;> exact hb _ _ _ rfl
    cases hv with
    | nils =>
      cases h6
      exact ok_val hR (run [] (fun a n c e => by cases e; exact bytesToString_sound (φ := φ) (xs := #[]) (s := []) (fun _ => rfl) (fun b e => by cases e) .nil) ⟨_, _, _, rfl⟩) (.str [] (fun c hc => by simp at hc))
    | slk id off len esz c b κ hφ hl hc =>
      obtain ⟨cs, h7, h8⟩ := obind_some h6
      obtain ⟨s, g1, g2, g3⟩ := unbytes_sound _ _ _ h8
      cases g1
      obtain ⟨xs, q1, q2, _⟩ := cellsAt_sound (P := P) hR hφ h7
      rw [g3] at q2
      exact ok_val hR (run s (fun a n c e => by cases e; exact bytesToString_sound (φ := φ) (xs := xs) (fun e => by cases e) (fun b e => by cases e; exact q1) q2) ⟨_, _, _, rfl⟩) (.str s g2)
    | slo id off len esz c b κ hφ hl he hc =>
      obtain ⟨cs, h7, h8⟩ := obind_some h6
      obtain ⟨s, g1, g2, g3⟩ := unbytes_sound _ _ _ h8
      cases g1
      obtain ⟨xs, q1, q2, _⟩ := cellsAt_sound (P := P) hR hφ h7
      rw [g3] at q2
      exact ok_val hR (run s (fun a n c e => by cases e; exact bytesToString_sound (φ := φ) (xs := xs) (fun e => by cases e) (fun b e => by cases e; exact q1) q2) ⟨_, _, _, rfl⟩) (.str s g2)
    | esl a c =>
      cases h6
      exact ok_val hR (run [] (fun a n c e => by cases e; exact bytesToString_sound (φ := φ) (xs := #[]) (s := []) (fun _ => rfl) (fun b e => rfl) .nil) ⟨_, _, _, rfl⟩) (.str [] (fun c hc => by simp at hc))
    | _ => cases h6
  cases ds <;> first | (cases h4; done) | skip
  · cases dd <;> first | (cases h4; done) | skip
    cases hv <;> first | (cases h4; done) | skip
    obtain ⟨u, h5, rfl⟩ := retO_some h4
    exact ok_val hR (by unfold convert; simp [hs, hd, Conv.intToInt]) (wrapK_sound h5)
  · cases dd <;> first | (cases h4; done) | skip
    · cases hv <;> first | (cases h4; done) | skip
      rename_i s hs'
      cases h4
      exact ok_val hR (by unfold convert; simp [hs, hd]) (.str s hs')
    · rename_i e
      cases hv <;> first | (cases h4; done) | skip
      rename_i s hs'
      obtain ⟨h5, h6⟩ := cond_some h4
      have hu := isU8_sound hE h5 w
      obtain ⟨next, blks⟩ := st
      rw [bytesK_eq, natK_eq] at h6
      obtain ⟨hg, h6⟩ := newK_some h6
      cases h6
      generalize hcap : (Question.appendCap (mkS s).size 0 e).cut (w.tape w.drawn (.appendCap (mkS s).size 0 e)) = cap
      have hle : (mkS s).size ≤ cap := by rw [← hcap]; simp [Question.cut]
      have hbs := bytes_cells (φ := φ) hs'
      generalize harr : ((mkS s).data.map fun b => Value.int .u8 b.toNat) = arr at hbs
      have hsz : arr.size = s.length := by rw [← harr]; simp [mkS]
      have hms := mkS_size s
      have htot : (arr ++ Array.replicate (cap - (mkS s).size) (Value.int .u8 0)).size = cap := by simp; omega
      obtain ⟨k1, k2⟩ := new_sound (rep_drew hR) hg hbs (arr ++ Array.replicate (cap - (mkS s).size) (Value.int .u8 0)) e (arr ++ Array.replicate (cap - (mkS s).size) (Value.int .u8 0)).size ((arr ++ Array.replicate (cap - (mkS s).size) (Value.int .u8 0)).size + 1) (fun i y h => by
        have hi : i < arr.size := by have := (List.getElem?_eq_some_iff.1 h).1; simpa using this
        rw [Array.getElem?_append_left hi]; rw [← Array.getElem?_toList]; exact h) (by simp) (fun i hi => by omega) none (fun _ e => by cases e)
      refine ok_new (x := .slice (some ⟨w.heap.size, 0, none⟩) s.length cap) ?_ ((chg_drew w).trans k1) k2 (.slo next 0 s.length 1 cap _ _ Phi.add_self (by omega) (by omega) (by rw [htot]; omega))
      unfold convert Conv.stringToBytes
      simp only [Sem.run_bind, hs, hd, hu, Result.andThen_ok, run_choose, Question.forced, Bool.false_eq_true, if_false, World.drew_eq, hcap, harr]
      have hrow : ∀ A : Array Value, (newRow e A).run P w.drew = .ok ⟨w.drew.heap.size, 0, none⟩ (w.drew.alloc (.cells A e)) := fun A => rfl
      rw [hrow]
      simp only [Result.andThen_ok, mark_alloc, Sem.run_pure, hms]
      rfl
  · rename_i e
    cases dd <;> first | (cases h4; done) | skip
    refine tostr e rfl rfl ?_
    cases v <;> exact h4

/-! calls -/
theorem callF_sound (hE : EnvOK E P) {f : FuncId} {st : St} {w : World} {vs : List V} {xs : Array Value} {r : Res} (hR : Rep φ st w) (hv : VRs φ vs xs.toList) (h : callF E f st vs = some r) : ResOK P φ w r ((callFunc f xs).run P w) := by
  unfold callF at h
  cases hp : E.prims f vs with
  | some v =>
    rw [hp] at h
    cases h
    rcases hE.prims f vs v hp φ xs w hR.low.low hv with ⟨x, w', g1, g2, g3⟩ | ⟨g, ys, g1, g2⟩
    · exact .inl ⟨φ, x, w', g1, Chg.of_below g3, hR.of_below g3, g2⟩
    · exact .inr ⟨g, ys, g1, g2.mono fun e w' ⟨x, e1, e2, e3⟩ => ⟨φ, x, e1, Chg.of_below e3, hR.of_below e3, e2⟩⟩
  | none =>
    rw [hp] at h
    replace h : extF E f st vs (E.ext f vs st) = some r := h
    cases hx : E.ext f vs st with
    | some p =>
      obtain ⟨v, st'⟩ := p
      rw [hx] at h
      cases h
      exact .inl (hE.ext f vs st v st' hx φ w xs hv hR)
    | none =>
    rw [hx] at h
    obtain ⟨fn, h1, h2⟩ := obind_some (f := fun fn : Func => cond fn.body.isSome (some (Res.enter f vs st)) none) h
    obtain ⟨h3, h4⟩ := cond_some h2
    cases h4
    obtain ⟨g1, g2⟩ := hE.funcs f fn h1
    refine ⟨xs, ?_, hv, hR⟩
    unfold callFunc
    have hb : fn.body ≠ none := fun e => by rw [e] at h3; cases h3
    have hn : fn.name ≠ "runtime.NumGoroutine" := by simpa using g2
    simp [g1, hn, hb]
end
end Go.Ev
namespace Go.Ev
open Go.RowKit
variable [Base]
section
variable {E : Env} {P : Program} {φ : Phi}

/-! walks over strings -/
theorem evRange_sound (hE : EnvOK E P) {st : St} {w : World} {tm : Tr V} {ρ : Operand → Value} {t : TypeId} {x : Operand} {r : Res} (hR : Rep φ st w) (hρ : OpR φ tm ρ) (h : evRange t x E tm st = some r) : ResOK P φ w r ((vRun (Instr.range t (ρ x))).run P w) := by
  obtain ⟨v, h1, g⟩ := obind_some h
  obtain ⟨⟨i, d⟩, h2, g2⟩ := obind_some g
  clear h g
  replace h : rangeV st d v = some r := g2
  clear g2
  have hv := hρ x v h1
  have hd := hE.und h2 w
  generalize ρ x = y at hv
  cases d <;> first | (cases h; done) | skip
  case map kt et =>
    obtain ⟨next, blks⟩ := st
    cases v <;> first | (cases h; done) | skip
    · cases hv
      replace h : newBK ⟨next, blks⟩ (.obj .mit0) (fun id st' => ret st' (V.ptr id 0)) = some r := h
      obtain ⟨hg, h⟩ := newBK_some h
      cases h
      have hR2 := hR.push hg (.obj .mit0) (.mapIter none 0 #[] 0) 0 (fun r g e => by cases e) (fun r g e => by cases e) (fun cs s l x e => by cases e) (fun es c e => by cases e) (fun v e => by cases e; exact .mit0)
      have hc := Chg.alloc (φ := φ) (w := w) (o := .mapIter none 0 #[] 0) (id := next) (κ := 0) (hR.fresh hg)
      refine ok_new (x := .pointer (some ⟨w.heap.size, 0, none⟩)) (w' := w.alloc (.mapIter none 0 #[] 0)) ?_ hc hR2 (.ptr next 0 _ _ Phi.add_self)
      unfold Instr.range
      simp only [Sem.run_bind, hd, Result.andThen_ok, Sem.run_pure]
      rfl
    · rename_i m
      cases hv with
      | map _ b κ hφ =>
      replace h : obind (blks.get m) (rangeMB ⟨next, blks⟩ m) = some r := h
      obtain ⟨bl, h3, h⟩ := obind_some h
      cases bl <;> first | (cases h; done) | skip
      rename_i es clock
      obtain ⟨es', he, _⟩ := hR.maps m b κ es clock hφ h3
      replace h : newBK ⟨next, blks⟩ (.obj (.mit m clock [] clock)) (fun id st' => ret st' (V.ptr id 0)) = some r := h
      obtain ⟨hg, h⟩ := newBK_some h
      cases h
      have hR2 := hR.push hg (.obj (.mit m clock [] clock)) (.mapIter (some b) clock #[] clock) 0 (fun r g e => by cases e) (fun r g e => by cases e) (fun cs s l x e => by cases e) (fun es c e => by cases e) (fun v e => by
        cases e
        exact (OR.mit m clock [] clock b κ hφ).mono (Phi.le_add (hR.fresh hg)))
      have hc := Chg.alloc (φ := φ) (w := w) (o := .mapIter (some b) clock #[] clock) (id := next) (κ := 0) (hR.fresh hg)
      refine ok_new (x := .pointer (some ⟨w.heap.size, 0, none⟩)) (w' := w.alloc (.mapIter (some b) clock #[] clock)) ?_ hc hR2 (.ptr next 0 _ _ Phi.add_self)
      unfold Instr.range
      simp only [Sem.run_bind, hd, run_getObj (P := P) he (fun a e f => by simp), Result.andThen_ok, Sem.run_pure]
      rfl
  case string =>
  cases v <;> first | (cases h; done) | skip
  rename_i s
  cases hv with
  | str _ hs =>
  obtain ⟨next, blks⟩ := st
  replace h : newBK ⟨next, blks⟩ (.obj (.sit s 0)) (fun id st' => ret st' (V.ptr id 0)) = some r := h
  obtain ⟨hg, h⟩ := newBK_some h
  cases h
  have hR2 := hR.push hg (.obj (.sit s 0)) (.stringIter (mkS s) 0) 0 (fun r g e => by cases e) (fun r g e => by cases e) (fun cs s l x e => by cases e) (fun es c e => by cases e) (fun v e => by cases e; exact .sit s 0 hs)
  have hc := Chg.alloc (φ := φ) (w := w) (o := .stringIter (mkS s) 0) (id := next) (κ := 0) (hR.fresh hg)
  refine ok_new (x := .pointer (some ⟨w.heap.size, 0, none⟩)) (w' := w.alloc (.stringIter (mkS s) 0)) ?_ hc hR2 (.ptr next 0 _ _ Phi.add_self)
  unfold Instr.range
  simp only [Sem.run_bind, hd, Result.andThen_ok, Sem.run_pure]
  rfl

omit [Base] in
theorem decode_low {s : List Nat} {pos c : Nat} (hs : ∀ b ∈ s, b < 256) (h : s[pos]? = some c) (hc : c ≤ 127) : Utf8.decode (mkS s) pos = (c, 1) := by
  have hg : ((mkS s).get! (pos + 0)).toNat = c := by
    have hlt : pos < s.length := (List.getElem?_eq_some_iff.1 h).1
    have hcc : s[pos] = c := (List.getElem?_eq_some_iff.1 h).2
    show ((s.map UInt8.ofNat).toArray[pos]!).toNat = c
    have : (s.map UInt8.ofNat).toArray[pos]! = UInt8.ofNat c := by
      rw [getElem!_pos _ _ (by simpa using hlt)]
      simp [hcc]
    rw [this]
    simp; omega
  unfold Utf8.decode
  simp only [hg]
  rw [if_pos (by omega)]

omit [Base] in
theorem memN_eq (b : Nat) : ∀ l : List Nat, memN b l = l.contains b
  | [] => rfl
  | a :: l => by
    rw [memN, memN_eq b l, List.contains_cons]
    cases h : Nat.beq a b with
    | true => rw [Nat.eq_of_beq_eq_true h]; simp
    | false => have : (b == a) = false := by rw [beq_eq_false_iff_ne]; rintro rfl; rw [Nat.beq_refl] at h; cases h
               rw [this]; rfl
omit [Base] in
theorem filter_yes {α : Type} {p : α → Bool} {a : α} (h : p a = true) : (#[a] : Array α).filter p = #[a] := by
  apply Array.toList_inj.1
  simp [h]
omit [Base] in
theorem filter_no {α : Type} {p : α → Bool} {a : α} (h : p a = false) : (#[a] : Array α).filter p = #[] := by
  apply Array.toList_inj.1
  simp [h]
/-- Walks over maps with at most one entry. -/
theorem nextM_sound {next : Nat} {blks : Tr Blk} {w : World} {ty : TypeId} {id b κ : Nat} {r : Res} (hR : Rep φ ⟨next, blks⟩ w) (hφ : φ id = some (b, κ)) (h : obind (blks.get id) (nextM next blks id) = some r) : ResOK P φ w r ((vRun (Instr.next (.pointer (some ⟨b, 0, none⟩)) false ty)).run P w) := by
  obtain ⟨bl, h3, h⟩ := obind_some h
  cases bl <;> first | (cases h; done) | skip
  rename_i o
  have over : ∀ v x, v = V.tup [.bool false] → x = Value.tuple #[.bool false] → VR φ v x := by
    rintro v x rfl rfl
    exact .tup _ #[.bool false] rfl (fun i v x a b => by cases i <;> simp at a b; subst a b; exact .bool false)
  cases o with
  | loop s p => cases h
  | dfd => cases h
  | sit s pos => cases h
  | mit0 =>
    cases h
    obtain ⟨o, ho, hor⟩ := hR.objs id b κ _ hφ h3
    cases hor
    refine ok_val hR ?_ (over _ _ rfl rfl)
    unfold Instr.next
    simp only [Sem.run_bind, run_getObj (P := P) ho (fun a e f => by simp), Result.andThen_ok, Sem.run_pure]
  | mit m since seen last =>
    obtain ⟨o, ho, hor⟩ := hR.objs id b κ _ hφ h3
    cases hor with
    | mit _ _ _ _ bm κm hm =>
    have hget := run_getObj (P := P) ho (fun a e f => by simp)
    replace h : obind (blks.get m) (nextMB next blks id m since seen last) = some r := h
    obtain ⟨bl, h4, h⟩ := obind_some h
    cases bl <;> first | (cases h; done) | skip
    rename_i es clock
    obtain ⟨es', he, hen⟩ := hR.maps m bm κm es clock hm h4
    have hgetm := run_getObj (P := P) he (fun a e f => by simp)
    cases es with
    | nil =>
      cases h
      obtain rfl : es' = #[] := by have := hen.1; cases es'; simpa using this
      refine ok_val hR ?_ (over _ _ rfl rfl)
      unfold Instr.next
      simp [hget, hgetm, run_choose, Question.forced]
    | cons e0 es =>
      cases es with
      | cons e1 es => cases h
      | nil =>
        obtain ⟨k, v, bn⟩ := e0
        replace h : cond (cond (Nat.beq seen.length 0) true (Nat.blt bn last)) (cond (memN bn seen) (some (.val (.tup [.bool false]) ⟨next, blks⟩))
          (cond (Nat.blt bn since) (blks.setK id (.obj (.mit m since (bn :: seen) clock)) fun bl => some (.val (.tup [.bool true, k, v]) ⟨next, bl⟩)) none)) none = some r := h
        obtain ⟨h5, h⟩ := cond_some h
        obtain ⟨e, rfl⟩ : ∃ e, es' = #[e] := by
          have := hen.1
          obtain ⟨l⟩ := es'
          cases l with
          | nil => simp at this
          | cons a l => cases l with
            | nil => exact ⟨a, rfl⟩
            | cons c l => simp at this
        obtain ⟨hk, hv, hb⟩ := hen.2 0 k v bn e rfl rfl
        have hun : (!seen.reverse.toArray.isEmpty && !(#[e] : Array MapEntry).isEmpty && (#[e] : Array MapEntry).all (·.born ≥ last)) = false := by
          cases hs : Nat.beq seen.length 0 with
          | true =>
            have : seen = [] := List.length_eq_zero_iff.1 (Nat.eq_of_beq_eq_true hs)
            subst this
            rfl
          | false =>
            rw [hs] at h5
            have : bn < last := by have := Nat.le_of_ble_eq_true h5; omega
            simp [hb]; intro; omega
        have hcon : seen.reverse.toArray.contains e.born = memN bn seen := by rw [memN_eq, hb]; simp
        cases hm2 : memN bn seen with
        | true =>
          rw [hm2] at h hcon
          cases h
          refine ok_val hR ?_ (over _ _ rfl rfl)
          unfold Instr.next
          have hl : (#[e] : Array MapEntry).filter (fun e => !seen.reverse.toArray.contains e.born) = #[] := filter_no (by rw [hcon]; rfl)
          simp only [Sem.run_bind, hget, hgetm, Result.andThen_ok, hun, hl]
          simp [run_choose, Question.forced]
        | false =>
          rw [hm2] at h hcon
          replace h : cond (Nat.blt bn since) (blks.setK id (.obj (.mit m since (bn :: seen) clock)) fun bl => some (.val (.tup [.bool true, k, v]) ⟨next, bl⟩)) none = some r := h
          obtain ⟨h6, h⟩ := cond_some h
          rw [Tr.setK_eq] at h
          cases h
          have hlt : bn < since := by have := Nat.le_of_ble_eq_true h6; omega
          obtain ⟨k1, k2⟩ := hR.setBlk (bl' := .obj (.mit m since (bn :: seen) clock)) (o' := .mapIter (some bm) since (seen.reverse.toArray.push bn) clock) hφ h3 rfl rfl ho (fun a e f => by simp) (fun es c e => by cases e) (fun v e => by
            cases e
            have := OR.mit (φ := φ) m since (bn :: seen) clock bm κm hm
            simpa using this) (fun r e => by cases e)
          refine ok_new (x := .tuple #[.bool true, e.key, e.val]) ?_ k1 k2 ?_
          · unfold Instr.next
            have hl : (#[e] : Array MapEntry).filter (fun e => !seen.reverse.toArray.contains e.born) = #[e] := filter_yes (by rw [hcon]; rfl)
            have ho1 : (#[e] : Array MapEntry).filter (fun x => decide (x.born < since)) = #[e] := filter_yes (by simp [hb, hlt])
            have ho2 : (#[e] : Array MapEntry).filter (fun x => decide (x.born ≥ since)) = #[] := filter_no (by simp [hb]; omega)
            simp only [Sem.run_bind, hget, hgetm, Result.andThen_ok, hun, hl, ho1, ho2]
            have hso := run_setObj (P := P) (.mapIter (some bm) since (seen.reverse ++ [bn]).toArray clock) ho (fun a e f => by simp)
            simp [run_choose, Question.forced, hb, hso]
          · refine .tup _ _ rfl (fun i v x a b => ?_)
            match i with
            | 0 => simp at a b; subst a b; exact .bool true
            | 1 => simp at a b; subst a b; exact hk
            | 2 => simp at a b; subst a b; exact hv
            | i + 3 => simp at a
theorem evNext_sound {st : St} {w : World} {tm : Tr V} {ρ : Operand → Value} {ty : TypeId} {it : Operand} {isS : Bool} {r : Res} (hR : Rep φ st w) (hρ : OpR φ tm ρ) (h : evNext it isS E tm st = some r) : ResOK P φ w r ((vRun (Instr.next (ρ it) isS ty)).run P w) := by
  cases isS with
  | false =>
    replace h : obind (operand tm it) (nextMV st) = some r := h
    obtain ⟨v, h1, h⟩ := obind_some h
    have hv := hρ it v h1
    generalize ρ it = y at hv
    cases v <;> first | (cases h; done) | skip
    rename_i id off
    obtain ⟨h2, h⟩ := cond_some h
    obtain rfl := Nat.eq_of_beq_eq_true h2
    obtain ⟨next, blks⟩ := st
    cases hv with
    | ptr _ _ b κ hφ => exact nextM_sound hR hφ h
  | true =>
  replace h : obind (operand tm it) (nextV st) = some r := h
  obtain ⟨v, h1, h⟩ := obind_some h
  have hv := hρ it v h1
  generalize ρ it = y at hv
  cases v <;> first | (cases h; done) | skip
  rename_i id off
  obtain ⟨h2, h⟩ := cond_some h
  obtain rfl := Nat.eq_of_beq_eq_true h2
  obtain ⟨next, blks⟩ := st
  replace h : obind (blks.get id) (nextB next blks id) = some r := h
  obtain ⟨bl, h3, h⟩ := obind_some h
  cases bl <;> first | (cases h; done) | skip
  rename_i o
  cases o with
  | loop s p => cases h
  | dfd => cases h
  | mit m a l c => cases h
  | mit0 => cases h
  | sit s pos =>
    replace h : stepS next blks id s pos (nth s pos) = some r := h
    rw [nth_eq] at h
    cases hv with
    | ptr _ _ b κ hφ =>
    obtain ⟨o, ho, hor⟩ := hR.objs id b κ _ hφ h3
    cases hor with
    | sit _ _ hs =>
    have hget := run_getObj (P := P) ho (fun a e f => by simp)
    have hsz := mkS_size s
    cases hn : s[pos]? with
    | none =>
      rw [hn] at h
      cases h
      refine ok_val hR ?_ (.tup _ #[.bool false] rfl (fun i v x a b => by cases i <;> simp at a b; subst a b; exact .bool false))
      unfold Instr.next
      have : ¬ pos < (mkS s).size := by rw [hsz]; have := List.getElem?_eq_none_iff.1 hn; omega
      simp only [Sem.run_bind, hget, Result.andThen_ok, Sem.run_ite, if_neg this, Sem.run_pure]
    | some c =>
      rw [hn] at h
      obtain ⟨h4, h⟩ := cond_some (c := Nat.ble c 127) h
      rw [natK_eq, Tr.setK_eq] at h
      cases h
      have hlt : pos < s.length := (List.getElem?_eq_some_iff.1 hn).1
      have hdec := decode_low hs hn (Nat.le_of_ble_eq_true h4)
      obtain ⟨k1, k2⟩ := hR.setBlk (bl' := .obj (.sit s (pos + 1))) (o' := .stringIter (mkS s) (pos + 1)) hφ h3 rfl rfl ho (fun a e f => by simp) (fun es c e => by cases e) (fun v e => by cases e; exact .sit s (pos + 1) hs) (fun r e => by cases e)
      refine ok_new (x := .tuple #[.bool true, .int .i64 pos, .int .i32 c]) ?_ k1 k2 ?_
      · unfold Instr.next
        have : pos < (mkS s).size := by rw [hsz]; exact hlt
        simp only [Sem.run_bind, hget, Result.andThen_ok, Sem.run_ite, if_pos this, hdec, run_setObj (P := P) (.stringIter (mkS s) (pos + 1)) ho (fun a e f => by simp), Sem.run_pure]
        rfl
      · refine .tup _ _ rfl (fun i v x a b => ?_)
        match i with
        | 0 => simp at a b; subst a b; exact .bool true
        | 1 => simp at a b; subst a b; exact .int .i64 _
        | 2 => simp at a b; subst a b; exact .int .i32 _
        | i + 3 => simp at a


/-- The entry that a walk over a map stands at. -/
theorem evEntry_sound {st : St} {w : World} {tm : Tr V} {ρ : Operand → Value} {it : Operand} {r : Res} (hR : Rep φ st w) (hρ : OpR φ tm ρ) (h : evEntry it E tm st = some r) : ResOK P φ w r ((vRun (Instr.entry (ρ it))).run P w) := by
  replace h : obind (operand tm it) (entV st) = some r := h
  obtain ⟨v, h1, h⟩ := obind_some h
  have hv := hρ it v h1
  generalize ρ it = y at hv
  cases v <;> first | (cases h; done) | skip
  rename_i id off
  obtain ⟨h2, h⟩ := cond_some h
  obtain rfl := Nat.eq_of_beq_eq_true h2
  obtain ⟨next, blks⟩ := st
  obtain ⟨bl, h3, h⟩ := obind_some h
  cases bl <;> first | (cases h; done) | skip
  rename_i o
  cases o <;> first | (cases h; done) | skip
  rename_i m since seen last
  cases seen with
  | nil => cases h
  | cons bn seen =>
  replace h : obind (blks.get m) (entB ⟨next, blks⟩ last bn) = some r := h
  obtain ⟨bl, h4, h⟩ := obind_some h
  cases bl <;> first | (cases h; done) | skip
  rename_i es clock
  replace h : cond (Nat.beq clock last) (obind (entE bn es) fun v => ret ⟨next, blks⟩ v) none = some r := h
  have q := cond_some h
  clear h
  obtain ⟨h5, q⟩ := q
  have h5 := Nat.eq_of_beq_eq_true h5
  subst h5
  obtain ⟨v, h6, h⟩ := obind_some q
  clear q
  cases h
  cases hv with
  | ptr _ _ b κ hφ =>
  obtain ⟨o, ho, hor⟩ := hR.objs id b κ _ hφ h3
  cases hor with
  | mit _ _ _ _ bm κm hm =>
  have hget := run_getObj (P := P) ho (fun a e f => by simp)
  obtain ⟨es', he, hen⟩ := hR.maps m bm κm es clock hm h4
  have hgetm := run_getObj (P := P) he (fun a e f => by simp)
  have key : ∀ (es : List (V × V × Nat)) (l : List MapEntry), l.length = es.length → (∀ (i : Nat) k v b e, es[i]? = some (k, v, b) → l[i]? = some e → VR φ k e.key ∧ VR φ v e.val ∧ e.born = b) → entE bn es = some v → ∃ e, l.find? (·.born == bn) = some e ∧ VR φ v (.tuple #[e.key, e.val]) := by
    intro es
    induction es with
    | nil => intro l _ _ h; cases h
    | cons e0 es ih =>
      obtain ⟨k0, v0, b0⟩ := e0
      intro l hl hh h
      cases l with
      | nil => simp at hl
      | cons e l =>
        obtain ⟨hk, hv, hb⟩ := hh 0 k0 v0 b0 e rfl rfl
        replace h : cond (Nat.beq b0 bn) (some (.tup [k0, v0])) (entE bn es) = some v := h
        cases hq : Nat.beq b0 bn with
        | true =>
          rw [hq] at h
          cases h
          have := Nat.eq_of_beq_eq_true hq
          refine ⟨e, by rw [List.find?_cons, hb, this]; simp, .tup _ _ rfl (fun i v x a b => ?_)⟩
          match i with
          | 0 => simp at a b; subst a b; exact hk
          | 1 => simp at a b; subst a b; exact hv
          | i + 2 => simp at a
        | false =>
          rw [hq] at h
          obtain ⟨e', g1, g2⟩ := ih l (by simpa using hl) (fun i k v b e p q => hh (i + 1) k v b e (by simpa using p) (by simpa using q)) h
          have hne : (e.born == bn) = false := by
            rw [beq_eq_false_iff_ne, hb]; rintro rfl; rw [Nat.beq_refl] at hq; cases hq
          exact ⟨e', by rw [List.find?_cons, hne]; exact g1, g2⟩
  obtain ⟨e, g1, g2⟩ := key es es'.toList (by simpa using hen.1) (fun i k v b e p q => hen.2 i k v b e p (by simpa using q)) h6
  refine ok_val hR ?_ g2
  have hf : es'.find? (·.born == bn) = some e := by rw [← Array.find?_toList]; exact g1
  have hbk : ((bn :: seen).reverse.toArray).back? = some bn := by simp
  unfold Instr.entry
  simp only [Sem.run_bind, hget, Result.andThen_ok, hbk, hgetm]
  simp [hf]

/-! pointers seen as others -/
omit [Base] in
theorem elAt_some {st : St} {id el size : Nat} (h : elAt st id = some (el, size)) : ∃ r g cs, rootOf st.blks id = some (r, g) ∧ st.blks.get r = some (.cells cs size g (some el)) := by
  obtain ⟨next, blks⟩ := st
  obtain ⟨⟨r, g⟩, h1, h⟩ := obind_some h
  obtain ⟨bl, h2, h⟩ := obind_some h
  cases bl <;> first | (cases h; done) | skip
  rename_i cs sz last x
  cases x with
  | none => cases h
  | some e =>
    obtain ⟨h3, h4⟩ := cond_some (c := Nat.beq last g) h
    cases h4
    obtain rfl := Nat.eq_of_beq_eq_true h3
    exact ⟨r, last, cs, h1, h2⟩
theorem cells_of {st : St} {w : World} {id r g b κ : Nat} {cs : Tr (V × Nat)} {size last : Nat} {x : Option TypeId} (hR : Rep φ st w) (hφ : φ id = some (b, κ)) (h1 : rootOf st.blks id = some (r, g)) (h2 : st.blks.get r = some (.cells cs size last x)) :
    g ≤ last ∧ ∃ arr el lo hi, w.heap[b]? = some (.cells arr el (lo, hi)) ∧ arr.size = κ ∧ FzOK x κ el lo hi ∧ CellsOK φ g last cs size arr := hR.cells id b κ r g cs size last x hφ h1 h2
omit [Base] in
theorem shape_cells {w : World} {b : Nat} {arr : Array Value} {el : TypeId} {fz : Nat × Nat} (h : w.heap[b]? = some (.cells arr el fz)) : w.shape? b = some (el, arr.size) := by simp [World.shape?, h]
omit [Base] in
theorem run_viewAt {w : World} {b : Nat} {sh : TypeId × Nat} (h : w.shape? b = some sh) : (viewAt b).run P w = .ok none w := by simp [viewAt, h]
omit [Base] in
theorem run_seenAt {w : World} {b off : Nat} {sh : TypeId × Nat} (h : w.shape? b = some sh) : (Conv.seenAt ⟨b, off, none⟩).run P w = .ok ⟨b, off, none⟩ w := by
  unfold Conv.seenAt
  simp [run_viewAt h]

omit [Base] in
/-- Where one variable lies it lies in longer rows too. -/
theorem rowAt_more (p : Program) (fits : TypeId → Bool) (d : Nat) (e : TypeId) (c c' off n : Nat) (hcc : c ≤ c') (h : rowAt p fits d e c off n = true) : rowAt p fits d e c' off n = true := by
  cases d with
  | zero => cases h
  | succ d =>
    unfold rowAt at h ⊢
    dsimp only at h ⊢
    split at h
    · cases h
    · rename_i hs
      rw [if_neg hs]
      simp only [Bool.or_eq_true, Bool.and_eq_true, decide_eq_true_eq] at h ⊢
      rcases h with ⟨⟨a1, a2⟩, a3⟩ | ⟨a1, a2⟩
      · exact .inl ⟨⟨a1, by omega⟩, a3⟩
      · exact .inr ⟨by omega, a2⟩
omit [Base] in
theorem liesAt_more (p : Program) : ∀ (d : Nat) (e : TypeId) (c c' off : Nat) (u : TypeId) (n : Nat), c ≤ c' → liesAt p d e c off u n = true → liesAt p d e c' off u n = true := by
  intro d
  induction d with
  | zero => intro e c c' off u n _ h; cases h
  | succ d ih =>
    intro e c c' off u n hcc h
    unfold liesAt at h ⊢
    simp only [Bool.or_eq_true] at h ⊢
    rcases h with h | h
    · exact .inl (rowAt_more p _ _ _ _ _ _ _ hcc h)
    · right
      split at h
      · rename_i m u' hu
        exact ih _ _ _ _ _ _ hcc h
      · cases h

theorem toUns_sound (hE : EnvOK E P) {src dst t : TypeId} {st : St} {w : World} {v : V} {x : Value} {r : Res} (hs : P.underlying src = some (.pointer t)) (hd : P.underlying dst = some .unsafePointer) (hR : Rep φ st w) (hv : VR φ v x) (h : toUns E st t v = some r) :
    ResOK P φ w r ((vRun (Conv.unsafePointer src dst x)).run P w) := by
  cases hv <;> first | (cases h; done) | skip
  · cases h
    refine ok_val hR ?_ .nilp
    unfold Conv.unsafePointer
    simp [run_underlying hs, run_underlying hd]
  · rename_i id off b κ hφ
    obtain ⟨⟨ti, td⟩, h1, h⟩ := obind_some h
    obtain ⟨h2, h⟩ := cond_none h
    obtain ⟨cv, h3, h⟩ := obind_some h
    cases h
    have hsz : ti.size ≠ 0 := fun e => by rw [e] at h2; cases h2
    obtain ⟨next, blks⟩ := st
    obtain ⟨⟨r, g⟩, q1, h4⟩ := obind_some h3
    obtain ⟨bl, q2, h4⟩ := obind_some h4
    cases bl <;> first | (cases h4; done) | skip
    rename_i cs size last x0
    obtain ⟨_, arr, el, lo, hi, hb, hk, _, hc⟩ := cells_of hR hφ q1 q2
    obtain ⟨x, hx, _⟩ := cellAt_sound hR hφ h3
    have hx' : arr[off]? = some x := by rw [← hx]; exact (cell_of hb).symm
    have hoff : off < arr.size := (Array.getElem?_eq_some_iff.1 hx').1
    refine ok_val hR (x := .pointer (some ⟨b, off, none⟩)) ?_ (.ptr id off b κ hφ)
    unfold Conv.unsafePointer
    have hsh := shape_cells hb
    have : ¬ (arr.size ≤ off) := by omega
    simp [run_underlying hs, run_underlying hd, run_seenAt hsh, Go.cellsIn, hsh, hE.size h1, hsz, this]

theorem ofUns_sound (hE : EnvOK E P) {src dst u : TypeId} {st : St} {w : World} {v : V} {x : Value} {r : Res} (hs : P.underlying src = some .unsafePointer) (hd : P.underlying dst = some (.pointer u)) (hR : Rep φ st w) (hv : VR φ v x) (h : ofUns E st u v = some r) :
    ResOK P φ w r ((vRun (Conv.unsafePointer src dst x)).run P w) := by
  cases hv <;> first | (cases h; done) | skip
  · cases h
    refine ok_val hR ?_ .nilp
    unfold Conv.unsafePointer
    simp [run_underlying hs, run_underlying hd]
  · rename_i id off b κ hφ
    obtain ⟨⟨ui, ud⟩, h1, h⟩ := obind_some h
    obtain ⟨⟨el, size⟩, h2, h⟩ := obind_some h
    obtain ⟨⟨ei, ed⟩, h3, h⟩ := obind_some h
    obtain ⟨h4, h⟩ := cond_some h
    cases h
    cases hl : E.lies el off u with
    | false => rw [hl] at h4; cases h4
    | true =>
    rw [hl] at h4
    replace h4 : cond (Nat.ble 1 ei.size) (Nat.ble ei.size size) false = true := h4
    cases h5 : Nat.ble 1 ei.size with
    | false => rw [h5] at h4; cases h4
    | true =>
    rw [h5] at h4
    have h5' : 1 ≤ ei.size := Nat.le_of_ble_eq_true h5
    have h6 : ei.size ≤ size := Nat.le_of_ble_eq_true h4
    obtain ⟨hoff, hlies⟩ := hE.lies el off u hl
    obtain ⟨r, g, cs, q1, q2⟩ := elAt_some h2
    obtain ⟨_, arr, el', lo, hi, hb, hk, hfz, hc⟩ := cells_of hR hφ q1 q2
    obtain rfl : el' = el := hfz.2 _ rfl
    have hsize : size ≤ arr.size := hc.size rfl
    have hcells : P.cellsOf el' = ei.size := by simp [Program.cellsOf, (hE.types el' ei ed h3).1]
    have hcount : 1 ≤ arr.size / P.cellsOf el' := by
      rw [hcells]; exact (Nat.le_div_iff_mul_le h5').2 (by omega)
    have hl2 := liesAt_more P _ _ _ _ _ _ _ hcount hlies
    have hsh := shape_cells hb
    have hva : (variablesAt ⟨b, off, none⟩ u 1).run P w = .ok true w := by
      unfold variablesAt
      simp [shape, Sem.run, hsh, hl2]
    refine ok_val hR (x := .pointer (some ⟨b, off, none⟩)) ?_ (.ptr id off b κ hφ)
    unfold Conv.unsafePointer
    simp [run_underlying hs, run_underlying hd, run_seenAt hsh, hE.size h1, hva]


theorem convU_sound (hE : EnvOK E P) {src dst : TypeId} {i1 i2 : TypeInfo} {ds dd : TypeDesc} {st : St} {w : World} {v : V} {x : Value} {r : Res} (h1 : E.types src = some (i1, ds)) (h2 : E.types dst = some (i2, dd)) (hR : Rep φ st w) (hv : VR φ v x) (h : convU E st v ds dd = some r) :
    ResOK P φ w r ((vRun (convert src dst x)).run P w) := by
  have hs := (hE.types _ _ _ h1).2
  have hd := (hE.types _ _ _ h2).2
  have e : ∀ s : Sem Value, (convert src dst x).run P w = s.run P w → (vRun (convert src dst x)).run P w = (vRun s).run P w := fun s e => by unfold vRun; rw [Sem.run_bind, Sem.run_bind, e]
  cases ds <;> first | (cases h; done) | skip
  · cases dd <;> first | (cases h; done) | skip
    rw [e (Conv.unsafePointer src dst x) (by cases hv <;> first | (cases h; done) | (unfold convert; simp [run_underlying hs, run_underlying hd]))]
    exact ofUns_sound hE hs hd hR hv h
  · cases dd <;> first | (cases h; done) | skip
    rw [e (Conv.unsafePointer src dst x) (by cases hv <;> first | (cases h; done) | (unfold convert; simp [run_underlying hs, run_underlying hd]))]
    exact toUns_sound hE hs hd hR hv h

/-! strings made of bytes in place -/
theorem bSliceData_sound {st : St} {w : World} {ats : Array TypeId} {ty : TypeId} {vs : List V} {xs : Array Value} {r : Res} (hR : Rep φ st w) (hv : VRs φ vs xs.toList) (h : bSliceData st vs = some r) :
    ResOK P φ w r ((vRun (Builtin.unsafeSliceData_ ats ty xs)).run P w) := by
  cases vs with
  | nil => cases h
  | cons v l =>
    cases l with
    | cons u k => cases v <;> cases h
    | nil =>
      obtain ⟨x, ys, e1, hx, hys⟩ := hv.inv
      rw [hys.inv_nil] at e1
      obtain rfl : xs = #[x] := by cases xs; simpa using e1
      cases v <;> first | (cases h; done) | skip
      · cases h
        cases hx
        exact ok_val hR (Lib.run_unsafeSliceData_nil w ats ty 0 0) .nilp
      · rename_i id off len esz cap
        obtain ⟨h1, h2⟩ := cond_some h
        cases h2
        have h1' : 1 ≤ len := Nat.le_of_ble_eq_true h1
        cases hx with
        | slk _ _ _ _ c b κ hφ hl hc => exact ok_val hR (Lib.run_unsafeSliceData_row w ats ty _ _ _ (by omega)) (.ptr id off b κ hφ)
        | slo _ _ _ _ c b κ hφ hl he hc => exact ok_val hR (Lib.run_unsafeSliceData_row w ats ty _ _ _ (by omega)) (.ptr id off b κ hφ)

theorem firstElem_some (hE : EnvOK E P) {ats : Array TypeId} {u : TypeId} (h : firstElem E ats.toList = some u) : ∃ pt it, ats = #[pt, it] ∧ P.underlying pt = some (.pointer u) := by
  obtain ⟨l⟩ := ats
  cases l with
  | nil => cases h
  | cons pt l =>
    cases l with
    | nil => cases h
    | cons it l =>
      cases l with
      | cons a l => cases h
      | nil =>
        obtain ⟨⟨i, d⟩, h1, h2⟩ := obind_some h
        cases d <;> first | (cases h2; done) | skip
        cases h2
        exact ⟨pt, it, rfl, (hE.types pt i _ h1).2⟩

theorem bUString_sound (hE : EnvOK E P) {st : St} {w : World} {ats : Array TypeId} {ty : TypeId} {vs : List V} {xs : Array Value} {r : Res} (hR : Rep φ st w) (hv : VRs φ vs xs.toList) (h : bUString E ats st vs = some r) :
    ResOK P φ w r ((vRun (Builtin.unsafeString_ ats ty xs)).run P w) := by
  have hlen : ∃ v u, vs = [v, u] := by
    cases vs with
    | nil => cases h
    | cons v l =>
      cases l with
      | nil => cases v <;> cases h
      | cons u k =>
        cases k with
        | nil => exact ⟨v, u, rfl⟩
        | cons a k => cases v <;> first | (cases h; done) | (cases u <;> first | (cases h; done) | skip) <;> (rename_i k1 n1; cases k1 <;> cases n1 <;> cases h)
  obtain ⟨v, u, rfl⟩ := hlen
  obtain ⟨x, ys, e1, hx, hys⟩ := hv.inv
  obtain ⟨y, zs, rfl, hy, hzs⟩ := hys.inv
  rw [hzs.inv_nil] at e1
  obtain rfl : xs = #[x, y] := by cases xs; simpa using e1
  cases v <;> first | (cases h; done) | skip
  · cases u <;> first | (cases h; done) | skip
    rename_i k n
    cases k <;> first | (cases h; done) | skip
    cases n <;> first | (cases h; done) | skip
    rename_i n
    obtain ⟨h1, h2⟩ := cond_some h
    obtain rfl := Nat.eq_of_beq_eq_true h1
    obtain ⟨e, h3, h4⟩ := obind_some h2
    cases h4
    obtain ⟨pt, it, rfl, _⟩ := firstElem_some hE h3
    cases hx
    cases hy
    exact ok_val hR (Lib.run_unsafeString_none w pt it ty none) (.str [] (fun b hb => by simp at hb))
  · rename_i id off
    cases u <;> first | (cases h; done) | skip
    rename_i k n
    cases k <;> first | (cases h; done) | skip
    cases n <;> first | (cases h; done) | skip
    rename_i n
    obtain ⟨h1, h2⟩ := cond_some h
    clear h
    obtain ⟨e, h3, h4⟩ := obind_some h2
    obtain ⟨⟨ui, ud⟩, h5, h6⟩ := obind_some h4
    obtain ⟨h7, h8⟩ := cond_some h6
    clear h2 h4 h6
    cases q1 : Nat.ble 1 n with
    | false => rw [q1] at h1; cases h1
    | true =>
    cases q2 : Nat.ble n 1000000000 with
    | false => rw [q1, q2] at h1; cases h1
    | true =>
    rw [q1, q2] at h1
    obtain rfl := Nat.eq_of_beq_eq_true (show Nat.beq off 0 = true from h1)
    have p1 : 1 ≤ n := Nat.le_of_ble_eq_true q1
    have p2 : n ≤ 1000000000 := Nat.le_of_ble_eq_true q2
    obtain ⟨pt, it, rfl, hpt⟩ := firstElem_some hE h3
    obtain ⟨next, blks⟩ := st
    obtain ⟨cs, h9, h10⟩ := obind_some h8
    obtain ⟨s, h11, hs, rfl⟩ := unbytes_sound _ _ _ h10
    replace h11 : obind (rootOf blks id) (fun p => obind (blks.get p.1) (elKill e next blks p.1 s)) = some r := h11
    obtain ⟨⟨rr, g⟩, h12, h13⟩ := obind_some h11
    obtain ⟨bl, h14, h15⟩ := obind_some h13
    cases bl <;> first | (cases h15; done) | skip
    rename_i ccs size last xo
    cases xo <;> first | (cases h15; done) | skip
    rename_i el
    obtain ⟨h16, h17⟩ := cond_some (c := Nat.beq el e) h15
    obtain rfl := Nat.eq_of_beq_eq_true h16
    rw [Tr.setK_eq] at h17
    cases h17
    cases hx with
    | ptr _ _ b κ hφ =>
    cases hy
    obtain ⟨_, arr, el', lo, hi, hb, hk, hfz, hc⟩ := cells_of hR hφ h12 h14
    obtain rfl : el' = el := hfz.2 _ rfl
    obtain ⟨ox, o1, o2, o3⟩ := cellsAt_sound (P := P) hR hφ h9
    have hsl : s.length = n := by have := o2.1; simp at this; omega
    have hcell : ∀ j, (hj : j < s.length) → arr[j]? = some (.int .u8 (s[j] : Nat)) := by
      intro j hj
      obtain ⟨⟨r2, g2⟩, z1, z2⟩ := obind_some h9
      have z1' : rootOf blks id = some (r2, g2) := z1
      rw [h12] at z1'
      cases z1'
      obtain ⟨bl2, z3, z4⟩ := obind_some z2
      have z3' : blks.get rr = some bl2 := z3
      rw [show blks.get rr = _ from h14] at z3'
      cases z3'
      rcases cellsIn_sound hc n 0 _ z4 with ⟨y1, y2⟩ | ⟨y1, _⟩
      · have hv0 : (s.map fun b => V.int .u8 (.ofNat b))[j]? = some (V.int .u8 (.ofNat s[j])) := by simp [hj]
        obtain ⟨x, hx, hvx⟩ := y2.get hv0
        cases hvx
        rw [List.getElem?_take, if_pos (by omega)] at hx
        simpa using hx
      · omega
    have hcells : P.cellsOf el' = 1 := by
      have : ui.size = 1 := Nat.eq_of_beq_eq_true h7
      simp [Program.cellsOf, (hE.types el' ui ud h5).1, this]
    have hfit : n ≤ arr.size := by
      have := hcell (n - 1) (by omega)
      have := (Array.getElem?_eq_some_iff.1 this).1
      omega
    have hrun := Lib.run_unsafeString_row (P := P) w pt it ty el' hpt hcells b arr.size (shape_cells hb) (s.map UInt8.ofNat) (by intro e; have h0 : s.length = 0 := (by simpa using congrArg List.length e); omega) (by simpa [hsl] using hfit) (by simp; omega)
      (fun j x hj => by
        rw [List.getElem?_map] at hj
        obtain ⟨c, hc1, rfl⟩ := Option.map_eq_some_iff.1 hj
        have hjl := (List.getElem?_eq_some_iff.1 hc1).1
        have hjc := (List.getElem?_eq_some_iff.1 hc1).2
        have hc256 : c < 256 := hs c (List.mem_of_getElem? hc1)
        rw [show (⟨b, 0, none⟩ : Addr).add j = ⟨b, j, none⟩ by unfold Addr.add; split <;> simp_all, cell_of hb, hcell j hjl, hjc]
        simp; omega)
    have hl2 : (s.map UInt8.ofNat).length = n := by simp [hsl]
    rw [hl2] at hrun
    obtain ⟨k1, k2⟩ := hR.kill (w' := w.freeze ⟨b, 0, none⟩ n) hφ h12 h14 (by unfold World.freeze; split <;> rfl) (by unfold World.freeze; split <;> rfl) (by unfold World.freeze; split <;> rfl) (by unfold World.freeze; split <;> simp)
      (fun p hp => by unfold World.freeze; split <;> simp [Array.getElem?_modify, Ne.symm hp])
    exact ok_new hrun k1 k2 (.str s hs)

theorem sliceArr_sound (hE : EnvOK E P) {st : St} {w : World} (hR : Rep φ st w) {t : TypeId} {lo hi : Option V} {lo' hi' : Option Value} {id off : Nat} {r : V} {x : Value} (hl : OptR φ lo lo') (hh : OptR φ hi hi') (hv : VR φ (.ptr id off) x)
    (h : obind (arrOf E t) (sliceArr st lo hi id off) = some r) : ∃ y, (∀ w, (Instr.sliceAt t x lo' hi' none).run P w = .ok y w) ∧ VR φ r y := by
  obtain ⟨⟨n, esz⟩, h1, h2⟩ := obind_some h
  obtain ⟨⟨i, d⟩, h3, h4⟩ := obind_some h1
  cases d <;> first | (cases h4; done) | skip
  rename_i m elem
  obtain ⟨⟨ei, ed⟩, h5, h6⟩ := obind_some (f := fun (p : TypeInfo × TypeDesc) => some (m, p.1.size)) h4
  cases h6
  obtain ⟨sz, h7, h8⟩ := obind_some h2
  obtain ⟨hb, h9⟩ := cond_some h8
  obtain ⟨r1, g, cs, xo, h10, h11⟩ := szAt_some h7
  cases hv
  rename_i b κ hφ
  obtain ⟨_, arr, el, lo1, hi1, _, hκ, _, hc⟩ := cells_of hR hφ h10 h11
  have hsz := hc.size rfl
  have hle := Nat.le_of_ble_eq_true hb
  simp only [Nat.add_eq, Nat.mul_eq] at hle
  have hu := fun w => hE.und h3 w
  have hz := fun w => hE.size h5 w
  obtain ⟨l, hg, q5, q6, q7, q8⟩ := bounds_sound (P := P) (Nat.le_refl _) (Nat.le_refl _) hl hh h9 false
  rw [natK_eq, natK_eq, natK_eq] at q5
  simp only [Nat.sub_eq, Nat.add_eq, Nat.mul_eq] at q5
  cases q5
  have hmul : l * ei.size + (n - l) * ei.size = n * ei.size := by rw [← Nat.add_mul]; congr 1; omega
  refine ⟨.slice (some (if n = l then ⟨b, off, none⟩ else ⟨b, off + l * ei.size, none⟩)) (hg - l) (n - l), fun w => ?_, ?_⟩
  · unfold Instr.sliceAt
    simp only [Sem.run_bind, hu w, q8 w, hz w, Result.andThen_ok, Sem.run_pure, add_none, Instr.sureAddr]
  · by_cases hn : n = l
    · subst hn
      rw [if_pos rfl]
      have : Nat.beq n n = true := Nat.beq_refl n
      rw [this]
      exact .slk id off _ _ _ b κ hφ (by omega) (by simp; omega)
    · rw [if_neg hn]
      have : Nat.beq n l = false := by cases hq : Nat.beq n l with | false => rfl | true => exact absurd (Nat.eq_of_beq_eq_true hq) hn
      rw [this]
      exact .slk id (off + l * ei.size) _ _ _ b κ hφ (by omega) (by omega)

/-- A slice that reaches behind its length. -/
theorem sliceOpen_sound (hE : EnvOK E P) {st : St} {w : World} (hR : Rep φ st w) {t : TypeId} {lo hi : Option V} {lo' hi' : Option Value} {id off len esz : Nat} {r : V} {x : Value} (hl : OptR φ lo lo') (hh : OptR φ hi hi') (hv : VR φ (.sl id off len esz none) x)
    (h : (obind (elemSz E t) fun n => cond (Nat.beq n esz) (orO (sliceOpen st id off len esz lo hi) (sliceSl id off len esz lo hi none)) none) = some r) : ∃ y, (∀ w, (Instr.sliceAt t x lo' hi' none).run P w = .ok y w) ∧ VR φ r y := by
  obtain ⟨n, h1, h2⟩ := obind_some h
  obtain ⟨hb, h3⟩ := cond_some h2
  cases hs : sliceSl id off len esz lo hi none with
  | some r' =>
    rw [hs] at h3
    cases h3
    refine sliceV_sound (P := P) hE (t := t) hl hh hv ?_
    show (obind (elemSz E t) fun n => cond (Nat.beq n esz) (sliceSl id off len esz lo hi none) none) = some r
    rw [h1]
    show cond (Nat.beq n esz) (sliceSl id off len esz lo hi none) none = some r
    rw [hb]
    exact hs
  | none =>
    rw [hs] at h3
    replace h3 : sliceOpen st id off len esz lo hi = some r := h3
    obtain rfl := Nat.eq_of_beq_eq_true hb
    obtain ⟨e, hu, hz⟩ := elemSz_sound hE h1
    cases hv
    rename_i c b κ hφ hlen hez hκ
    obtain ⟨sz, h7, h8⟩ := obind_some h3
    rw [natK_eq] at h8
    obtain ⟨htop, h8⟩ := cond_some h8
    obtain ⟨r1, g, cs, xo, h10, h11⟩ := szAt_some h7
    obtain ⟨_, arr, el, lo1, hi1, _, hκ2, _, hc⟩ := cells_of hR hφ h10 h11
    have hsz := hc.size rfl
    have htc : Nat.div (Nat.sub sz off) n ≤ c := by
      show (sz - off) / n ≤ c
      exact Nat.div_le_of_le_mul (by rw [Nat.mul_comm]; omega)
    obtain ⟨l, hg, h5, h6, h7', h8'⟩ := bounds_sound (P := P) (Nat.le_of_ble_eq_true htop) htc hl hh h8 true
    have hmul : l ≤ c → l * n + (c - l) * n = c * n := fun hlc => by rw [← Nat.add_mul]; congr 1; omega
    refine ⟨.slice (some (if c = l then ⟨b, off, none⟩ else ⟨b, off + l * n, none⟩)) (hg - l) (c - l), fun w => ?_, ?_⟩
    · unfold Instr.sliceAt Instr.slice
      simp only [Sem.run_bind, hu w, h8' w, hz w, Result.andThen_ok, Sem.run_pure, add_none, Option.map_some]
      congr 2
      split <;> rfl
    · cases hq : Nat.ble hg l with
      | true =>
        rw [hq] at h5
        cases h5
        have := Nat.le_of_ble_eq_true hq
        have e0 : hg - l = 0 := by omega
        rw [e0]
        exact .esl _ _
      | false =>
        rw [hq] at h5
        have hlt : ¬ hg ≤ l := fun e => by rw [Nat.ble_eq_true_of_le e] at hq; cases hq
        replace h5 : natK (Nat.add off (Nat.mul l n)) (fun o => natK (Nat.sub hg l) fun m => some (V.sl id o m n none)) = some r := h5
        rw [natK_eq, natK_eq] at h5
        simp only [Nat.sub_eq, Nat.add_eq, Nat.mul_eq] at h5
        cases h5
        rw [if_neg (by omega)]
        exact .slo id (off + l * n) _ n _ b κ hφ (by omega) hez (by have := hmul (by omega); omega)

end
end Go.Ev
namespace Go.Ev
open Go.RowKit
variable [Base]
section
variable {E : Env} {P : Program} {φ : Phi}

omit [Base] in
theorem mkS_beq {a b : List Nat} (ha : ∀ c ∈ a, c < 256) (hb : ∀ c ∈ b, c < 256) : (mkS a == mkS b) = strEq a b := by
  rw [beq_toListBytes, mkS_toList, mkS_toList, strEq_bytes ha hb]
omit [Base] in
theorem condB {a b : Bool} (h : cond a b false = true) : a = true ∧ b = true := by
  cases a with
  | false => cases h
  | true => exact ⟨rfl, h⟩
omit [Base] in
theorem sameNow_int {q : IntKind} {k k' : V} {x y : Value} {b : Bool} (hk : VR φ k x) (hy : VR φ k' y) (h : eqPlain (.int q) k k' = some b) : Instr.sameNow (.int q) x y = some b := by
  cases hk <;> first | (cases h; done) | skip
  cases hy <;> first | (cases h; done) | skip
  obtain ⟨h1, h2⟩ := cond_some (show cond (kEq _ _) (some (intEq _ _)) none = some b from h)
  cases h2
  obtain rfl := kEq_eq h1
  simp [Instr.sameNow, intEq_eq]
omit [Base] in
theorem sameNow_str {k k' : V} {x y : Value} {b : Bool} (hk : VR φ k x) (hy : VR φ k' y) (h : eqPlain .string k k' = some b) : Instr.sameNow .string x y = some b := by
  cases hk <;> first | (cases h; done) | skip
  cases hy <;> first | (cases h; done) | skip
  rename_i l hl l' hl'
  replace h : some (strEq l l') = some b := h
  cases h
  simp [Instr.sameNow, ← mkS_beq hl hl']
/-- How an entry is looked for. -/
def Looks (P : Program) (w : World) (kt : TypeId) (x : Value) (es : List MapEntry) (o' : Option (Nat × Value)) : Prop := (Instr.findKey kt x es).run P w = .ok o' w
/-- What is found. -/
def FindR (φ : Phi) (E : Env) (d : TypeDesc) (k : V) (es : List (V × V × Nat)) (i : Nat) (o : Option (Nat × V)) (o' : Option (Nat × Value)) : Prop :=
  (o = none ∧ o' = none) ∨ ∃ j v v', o = some (i + j, v) ∧ o' = some (i + j, v') ∧ VR φ v v' ∧ j < es.length
omit [Base] in
theorem findNow_sound {d : TypeDesc} {k : V} {x : Value} (hd : ∀ k' y b, VR φ k' y → keyEq E d k k' = some b → Instr.sameNow d x y = some b) : ∀ (es : List (V × V × Nat)) (es' : List MapEntry) (i : Nat) (o : Option (Nat × V)), es'.length = es.length →
    (∀ (j : Nat) kk v b e, es[j]? = some (kk, v, b) → es'[j]? = some e → VR φ kk e.key ∧ VR φ v e.val ∧ e.born = b) → findV E d k es i = some o →
    ∃ o', Instr.findNow d x es' i = some o' ∧ FindR φ E d k es i o o' := by
  intro es
  induction es with
  | nil =>
    intro es' i o hl _ h
    cases es' with
    | cons e l => simp at hl
    | nil => cases h; exact ⟨none, rfl, .inl ⟨rfl, rfl⟩⟩
  | cons e0 es ih =>
    obtain ⟨kk, v, b⟩ := e0
    intro es' i o hl hes h
    cases es' with
    | nil => simp at hl
    | cons e l =>
      obtain ⟨c, h1, h2⟩ := obind_some (show obind (keyEq E d k kk) (fun b => cond b (some (some (i, v))) (findV E d k es (Nat.succ i))) = some o from h)
      obtain ⟨g1, g2, g3⟩ := hes 0 kk v b e rfl rfl
      have hs := hd kk e.key c g1 h1
      cases c with
      | true =>
        cases h2
        exact ⟨some (i, e.val), by unfold Instr.findNow; rw [hs], .inr ⟨0, v, e.val, rfl, rfl, g2, by simp⟩⟩
      | false =>
        obtain ⟨o', p1, p2⟩ := ih l (i + 1) o (by simpa using hl) (fun j kk v b e a1 a2 => hes (j + 1) kk v b e (by simpa using a1) (by simpa using a2)) h2
        refine ⟨o', by unfold Instr.findNow; rw [hs]; exact p1, ?_⟩
        rcases p2 with p2 | ⟨j, u, u', q1, q2, q3, q4⟩
        · exact .inl p2
        · exact .inr ⟨j + 1, u, u', by rw [q1]; congr 2; omega, by rw [q2]; congr 2; omega, q3, by simp; omega⟩
omit [Base] in
theorem findAsking_sound {kt : TypeId} {d : TypeDesc} {k : V} {x : Value} {w : World} (hd : ∀ k' y b, VR φ k' y → keyEq E d k k' = some b → (Op.equal kt x y).run P w = .ok b w) : ∀ (es : List (V × V × Nat)) (es' : List MapEntry) (i : Nat) (o : Option (Nat × V)), es'.length = es.length →
    (∀ (j : Nat) kk v b e, es[j]? = some (kk, v, b) → es'[j]? = some e → VR φ kk e.key ∧ VR φ v e.val ∧ e.born = b) → findV E d k es i = some o →
    ∃ o', (Instr.findAsking kt x es' i).run P w = .ok o' w ∧ FindR φ E d k es i o o' := by
  intro es
  induction es with
  | nil =>
    intro es' i o hl _ h
    cases es' with
    | cons e l => simp at hl
    | nil => cases h; exact ⟨none, rfl, .inl ⟨rfl, rfl⟩⟩
  | cons e0 es ih =>
    obtain ⟨kk, v, b⟩ := e0
    intro es' i o hl hes h
    cases es' with
    | nil => simp at hl
    | cons e l =>
      obtain ⟨c, h1, h2⟩ := obind_some (show obind (keyEq E d k kk) (fun b => cond b (some (some (i, v))) (findV E d k es (Nat.succ i))) = some o from h)
      obtain ⟨g1, g2, g3⟩ := hes 0 kk v b e rfl rfl
      have hs := hd kk e.key c g1 h1
      cases c with
      | true =>
        cases h2
        exact ⟨some (i, e.val), by unfold Instr.findAsking; simp [hs], .inr ⟨0, v, e.val, rfl, rfl, g2, by simp⟩⟩
      | false =>
        obtain ⟨o', p1, p2⟩ := ih l (i + 1) o (by simpa using hl) (fun j kk v b e a1 a2 => hes (j + 1) kk v b e (by simpa using a1) (by simpa using a2)) h2
        refine ⟨o', by unfold Instr.findAsking; simp [hs, p1], ?_⟩
        rcases p2 with p2 | ⟨j, u, u', q1, q2, q3, q4⟩
        · exact .inl p2
        · exact .inr ⟨j + 1, u, u', by rw [q1]; congr 2; omega, by rw [q2]; congr 2; omega, q3, by simp; omega⟩
theorem keyStruct_sound (hE : EnvOK E P) {kt : TypeId} {i : TypeInfo} {fs : Array Field} (ht : E.types kt = some (i, .struct fs)) (hp : E.plainS kt = true) {k k' : V} {x y : Value} {b : Bool} (w : World) (hk : VR φ k x) (hy : VR φ k' y) (h : keyStruct E fs.toList k k' = some b) :
    (Op.equal kt x y).run P w = .ok b w := by
  cases k <;> first | (cases h; done) | skip
  cases k' <;> first | (cases h; done) | skip
  rename_i cs ds
  replace h : eqFields E fs.toList cs ds = some b := h
  obtain ⟨xs, rfl, hx⟩ := hk.inv_agg
  obtain ⟨ys, rfl, hy'⟩ := hy.inv_agg
  obtain ⟨p1, p2, p3⟩ := hE.plainS kt hp
  have hfs : P.fieldsOf kt = fs := by simp [Program.fieldsOf, (hE.types kt i _ ht).2]
  have he := eqFields_sound hE 9998 w hx hy' fs.toList b (by rw [← hfs]; exact p3) h
  have hq : (Op.equalIn 10000 kt (.agg xs) (.agg ys)).run P w = .ok b w := by
    rw [run_equalIn_agg (P := P) w 9999 kt xs ys (by rw [hfs]; exact (hE.types kt i _ ht).2) p2, hfs, he]
  unfold Op.equal Op.maxDepth
  exact hq
/-- Entries found. -/
theorem findV_sound (hE : EnvOK E P) {kt : TypeId} {i0 : TypeInfo} {d : TypeDesc} (ht : E.types kt = some (i0, d)) {k : V} {x : Value} (hok : keyOk E kt k d = true) (hk : VR φ k x) (w : World) (es : List (V × V × Nat)) (es' : List MapEntry) (o : Option (Nat × V)) (hl : es'.length = es.length)
    (hes : ∀ (j : Nat) kk v b e, es[j]? = some (kk, v, b) → es'[j]? = some e → VR φ kk e.key ∧ VR φ v e.val ∧ e.born = b) (h : findV E d k es 0 = some o) :
    ∃ o', (Instr.findKey kt x es').run P w = .ok o' w ∧ FindR φ E d k es 0 o o' := by
  have hu := (hE.types kt i0 d ht).2
  cases d <;> first | (cases hok; done) | skip
  case int q =>
    obtain ⟨o', h1, h2⟩ := findNow_sound (E := E) (fun k' y b hy hb => sameNow_int hk hy hb) es es' 0 o hl hes h
    exact ⟨o', by unfold Instr.findKey; simp [run_underlying hu, h1], h2⟩
  case string =>
    obtain ⟨o', h1, h2⟩ := findNow_sound (E := E) (fun k' y b hy hb => sameNow_str hk hy hb) es es' 0 o hl hes h
    exact ⟨o', by unfold Instr.findKey; simp [run_underlying hu, h1], h2⟩
  case struct fs =>
    obtain ⟨h3, h4⟩ := condB (show cond (E.plainS kt) (aggKey E fs.toList k) false = true from hok)
    obtain ⟨o', h1, h2⟩ := findAsking_sound (P := P) (E := E) (d := .struct fs) (kt := kt) (w := w) (fun k' y b hy hb => keyStruct_sound hE ht h3 w hk hy hb) es es' 0 o hl hes h
    refine ⟨o', ?_, h2⟩
    unfold Instr.findKey
    simp only [Sem.run_bind, run_underlying hu, Result.andThen_ok]
    cases es' with
    | nil =>
      cases es with
      | cons e l => simp at hl
      | nil =>
        simp [Instr.findAsking] at h1
        subst h1
        simp [Instr.findNow]
    | cons e l =>
      have : Instr.findNow (.struct fs) x (e :: l) 0 = none := by unfold Instr.findNow; rfl
      rw [this]
      exact h1

omit [Base] in
theorem tup2 {v : V} {x : Value} {b : Bool} (h : VR φ v x) : VR φ (.tup [v, .bool b]) (.tuple #[x, .bool b]) :=
  .tup _ _ rfl (fun i u y p q => by
    match i with
    | 0 => simp at p q; subst p q; exact h
    | 1 => simp at p q; subst p q; exact .bool b
    | i + 2 => simp at p)
omit [Base] in
theorem forIn_ok {α : Type} {w : World} (f : α → PUnit → Sem (ForInStep PUnit)) : ∀ (l : List α), (∀ a ∈ l, (f a ⟨⟩).run P w = .ok (.yield ⟨⟩) w) → (forIn l PUnit.unit f).run P w = .ok ⟨⟩ w := by
  intro l
  induction l with
  | nil => intro _; simp
  | cons a l ih =>
    intro h
    rw [List.forIn_cons]
    simp only [Sem.run_bind, h a (List.mem_cons_self ..), Result.andThen_ok]
    exact ih (fun b hb => h b (List.mem_cons_of_mem _ hb))
omit [Base] in
theorem fieldsOk_get : ∀ (fs : List Field) (cs : List V), fieldsOk E fs cs = true → ∀ f ∈ fs, (∃ i d, E.types f.type = some (i, d) ∧ plainD d = true) ∧ ∃ v, nth cs f.offset = some v := by
  intro fs
  induction fs with
  | nil => intro cs _ f hf; cases hf
  | cons g fs ih =>
    intro cs h f hf
    obtain ⟨h1, h2⟩ := condB (show cond (plainT E g.type) (cond (isSomeV (nth cs g.offset)) (fieldsOk E fs cs) false) false = true from h)
    obtain ⟨h3, h4⟩ := condB h2
    rcases List.mem_cons.1 hf with rfl | hf
    · refine ⟨?_, ?_⟩
      · unfold plainT at h1
        cases ht : E.types f.type with
        | none => rw [ht] at h1; cases h1
        | some p => rw [ht] at h1; exact ⟨p.1, p.2, rfl, h1⟩
      · unfold isSomeV at h3
        cases hn : nth cs f.offset with
        | none => rw [hn] at h3; cases h3
        | some v => exact ⟨v, rfl⟩
    · exact ih cs h4 f hf
omit [Base] in
theorem run_checkKey_plain {t : TypeId} {d : TypeDesc} {x : Value} {em : Bool} {w : World} (n : Nat) (hk : P.underlying t = some d) (hd : plainD d = true) : (Instr.checkKey em (n + 1) t x).run P w = .ok () w := by
  unfold Instr.checkKey
  simp only [Sem.run_bind, run_underlying hk, Result.andThen_ok]
  cases d <;> first | (cases hd; done) | rfl
theorem run_checkKey_ok (hE : EnvOK E P) {kt : TypeId} {i0 : TypeInfo} {d : TypeDesc} (ht : E.types kt = some (i0, d)) {k : V} {x : Value} (hok : keyOk E kt k d = true) (hk : VR φ k x) (w : World) (em : Bool) : (Instr.checkKey em 10000 kt x).run P w = .ok () w := by
  have hu := (hE.types kt i0 d ht).2
  cases d <;> first | (cases hok; done) | skip
  case int q => exact run_checkKey_plain 9999 hu rfl
  case string => exact run_checkKey_plain 9999 hu rfl
  case struct fs =>
    obtain ⟨_, h4⟩ := condB (show cond (E.plainS kt) (aggKey E fs.toList k) false = true from hok)
    cases k <;> first | (cases h4; done) | skip
    rename_i cs
    replace h4 : fieldsOk E fs.toList cs = true := h4
    obtain ⟨xs, rfl, hx⟩ := hk.inv_agg
    unfold Instr.checkKey
    simp only [Sem.run_bind, run_underlying hu, Result.andThen_ok]
    have key : (forIn fs PUnit.unit fun (f : Field) (_ : PUnit) => (do
        if f.name ≠ "_" then Instr.checkKey em 9999 f.type (← part f.type xs f.offset)
        pure (ForInStep.yield PUnit.unit) : Sem (ForInStep PUnit))).run P w = .ok ⟨⟩ w := by
      rw [← Array.forIn_toList]
      refine forIn_ok _ _ (fun f hf => ?_)
      obtain ⟨⟨i1, d1, h5, h6⟩, v, h7⟩ := fieldsOk_get _ _ h4 f hf
      rw [nth_eq] at h7
      obtain ⟨y, hy, _⟩ := hx.get h7
      have hp := part_plain (P := P) hE h5 (plainD_agg h6) (cs := xs) (off := f.offset) (x := y) (by simpa using hy) w
      have hc := run_checkKey_plain (P := P) (x := y) (em := em) (w := w) 9998 (hE.types _ _ _ h5).2 h6
      by_cases hn : f.name = "_"
      · simp [hn]
      · simp [hn, hp, hc]
    first | exact key | (simp only [key, Result.andThen_ok]; rfl) | (simpa using key)

omit [Base] in
theorem findKey_nil {kt : TypeId} {d : TypeDesc} {x : Value} {w : World} (hk : P.underlying kt = some d) : (Instr.findKey kt x []).run P w = .ok none w := by
  unfold Instr.findKey
  simp [run_underlying hk, Instr.findNow]
theorem lookupV_sound (hE : EnvOK E P) {st : St} {w : World} {t : TypeId} {ok : Bool} {m k r : V} {mx kx : Value} (hR : Rep φ st w) (hm : VR φ m mx) (hk : VR φ k kx) (h : lookupV E t st ok m k = some r) : ∃ y, (Instr.lookup t mx kx ok).run P w = .ok y w ∧ VR φ r y := by
  obtain ⟨⟨i, d⟩, h1, h2⟩ := obind_some h
  clear h
  dsimp only at h2
  cases d <;> first | (cases h2; done) | skip
  rename_i kt et
  obtain ⟨⟨ki, kd⟩, h3, h4⟩ := obind_some h2
  obtain ⟨h5, h6⟩ := cond_some h4
  obtain ⟨z, h7, h8⟩ := obind_some h6
  clear h2 h4 h6
  have hu := (hE.types t i _ h1).2
  have hku := (hE.types kt ki _ h3).2
  obtain ⟨zx, hz1, hz2⟩ := zeroV_sound (φ := φ) hE w h7
  cases m <;> first | (cases h8; done) | skip
  · cases hm
    replace h8 : some (cond ok (V.tup [z, .bool false]) z) = some r := h8
    cases h8
    refine ⟨if ok then .tuple #[zx, .bool false] else zx, ?_, by cases ok; exact hz2; exact tup2 hz2⟩
    unfold Instr.lookup
    simp [run_underlying hu, run_checkKey_ok hE h3 h5 hk w, findKey_nil hku, hz1]
  · rename_i id
    cases hm with
    | map _ b κ hφ =>
    obtain ⟨bl, h9, h10⟩ := obind_some (show obind (st.blks.get id) (lookIn E kd ok z k) = some r from h8)
    cases bl <;> first | (cases h10; done) | skip
    rename_i es clock
    obtain ⟨o, h11, h12⟩ := obind_some (show obind (findV E kd k es 0) (found ok z) = some r from h10)
    obtain ⟨es', hb, he1, he2⟩ := hR.maps id b κ es clock hφ h9
    obtain ⟨o', g1, g2⟩ := findV_sound hE h3 h5 hk w es es'.toList o (by simpa using he1) (fun j kk v b e a1 a2 => he2 j kk v b e a1 (by simpa using a2)) h11
    have hgo := run_getObj (P := P) hb (fun a e f => by simp)
    rcases g2 with ⟨rfl, rfl⟩ | ⟨j, v, v', rfl, rfl, q3, _⟩
    · cases h12
      refine ⟨if ok then .tuple #[zx, .bool false] else zx, ?_, by cases ok; exact hz2; exact tup2 hz2⟩
      unfold Instr.lookup
      simp [run_underlying hu, hgo, run_checkKey_ok hE h3 h5 hk w, g1, hz1]
    · cases h12
      refine ⟨if ok then .tuple #[v', .bool true] else v', ?_, by cases ok; exact q3; exact tup2 q3⟩
      unfold Instr.lookup
      simp [run_underlying hu, hgo, run_checkKey_ok hE h3 h5 hk w, g1]

omit [Base] in
theorem strEq_same {a b : List Nat} (h : strEq a b = true) : a = b := by
  induction a generalizing b with
  | nil => cases b with
    | nil => rfl
    | cons y b => cases h
  | cons x a ih => cases b with
    | nil => cases h
    | cons y b =>
      have h' : cond (Nat.beq x y) (strEq a b) false = true := h
      cases hb : Nat.beq x y with
      | false => rw [hb] at h'; cases h'
      | true => rw [hb] at h'; rw [Nat.eq_of_beq_eq_true hb, ih h']
omit [Base] in
theorem flatSame_eq {a b : V} (h : flatSame a b = true) : a = b := by
  cases a <;> first | (cases h; done) | skip
  · cases b <;> first | (cases h; done) | skip
    rename_i x y
    cases x <;> cases y <;> first | rfl | cases h
  · cases b <;> first | (cases h; done) | skip
    rename_i k0 n0 k1 n1
    obtain ⟨h1, h2⟩ := condB (show cond (kEq k0 k1) (intEq n0 n1) false = true from h)
    obtain rfl := kEq_eq h1
    rw [intEq_eq] at h2
    rw [eq_of_beq h2]
  · cases b <;> first | (cases h; done) | skip
    rw [strEq_same (show strEq _ _ = true from h)]
omit [Base] in
theorem flatSames_eq : ∀ (l m : List V), flatSames l m = true → l = m := by
  intro l
  induction l with
  | nil => intro m h; cases m with
    | nil => rfl
    | cons b m => cases h
  | cons a l ih =>
    intro m h
    cases m with
    | nil => cases h
    | cons b m =>
      obtain ⟨h1, h2⟩ := condB (show cond (flatSame a b) (flatSames l m) false = true from h)
      rw [flatSame_eq h1, ih m h2]
omit [Base] in
theorem keySame_eq {k kk : V} (h : keySame k kk = true) : k = kk := by
  cases k <;> first | exact flatSame_eq h | skip
  cases kk <;> first | (cases h; done) | skip
  rw [flatSames_eq _ _ (show flatSames _ _ = true from h)]
omit [Base] in
theorem flat_bits {k : V} {x y : Value} (hk : VR φ k x) (hy : VR φ k y) (h : flatSame k k = true) (n : Nat) : Instr.sameBits n y x = true := by
  cases k <;> first | (cases h; done) | skip
  · cases hk; cases hy; simp [Instr.sameBits]
  · cases hk; cases hy; simp [Instr.sameBits]
  · cases hk; cases hy; simp [Instr.sameBits, beq_toListBytes]
omit [Base] in
theorem flats_bits (n : Nat) : ∀ (cs : List V) (xs ys : List Value), flatSames cs cs = true → VRs φ cs xs → VRs φ cs ys → (ys.zip xs).all (fun (a, b) => Instr.sameBits n a b) = true := by
  intro cs
  induction cs with
  | nil => intro xs ys _ hx hy; rw [hx.inv_nil]; simp
  | cons c cs ih =>
    intro xs ys h hx hy
    obtain ⟨h1, h2⟩ := condB (show cond (flatSame c c) (flatSames cs cs) false = true from h)
    obtain ⟨x, xs', rfl, hx1, hx2⟩ := hx.inv
    obtain ⟨y, ys', rfl, hy1, hy2⟩ := hy.inv
    simp only [List.zip_cons_cons, List.all_cons, Bool.and_eq_true]
    exact ⟨flat_bits hx1 hy1 h1 n, ih xs' ys' h2 hx2 hy2⟩
omit [Base] in
theorem key_bits {k : V} {x y : Value} (hk : VR φ k x) (hy : VR φ k y) (h : keySame k k = true) (n : Nat) : Instr.sameBits (n + 1) y x = true := by
  by_cases ha : ∃ cs, k = .agg cs
  · obtain ⟨cs, rfl⟩ := ha
    obtain ⟨xs, rfl, hx⟩ := hk.inv_agg
    obtain ⟨ys, rfl, hy'⟩ := hy.inv_agg
    have h' : flatSames cs cs = true := h
    have hs : ys.size = xs.size := by have := hx.1; have := hy'.1; simp at *; omega
    unfold Instr.sameBits
    rw [flats_bits n cs _ _ h' hx hy', hs]
    simp
  · have h' : flatSame k k = true := by
      cases k <;> first | exact h | exact absurd ⟨_, rfl⟩ ha
    exact flat_bits hk hy h' (n + 1)
omit [Base] in
theorem setEntry_get : ∀ (es : List (V × V × Nat)) (i : Nat) (v : V) (j : Nat), (setEntry es i v)[j]? = if j = i then (es[j]?).map (fun e => (e.1, v, e.2.2)) else es[j]?
  | [], i, v, j => by simp [setEntry]
  | (k, u, b) :: es, 0, v, 0 => by simp [setEntry]
  | (k, u, b) :: es, 0, v, j + 1 => by simp [setEntry]
  | (k, u, b) :: es, i + 1, v, 0 => by simp [setEntry]
  | (k, u, b) :: es, i + 1, v, j + 1 => by simp [setEntry, setEntry_get es i v j]
omit [Base] in
theorem setEntry_length : ∀ (es : List (V × V × Nat)) (i : Nat) (v : V), (setEntry es i v).length = es.length
  | [], i, v => by simp [setEntry]
  | (k, u, b) :: es, 0, v => by simp [setEntry]
  | (k, u, b) :: es, i + 1, v => by simp [setEntry, setEntry_length es i v]

theorem updateV_sound (hE : EnvOK E P) {st st' : St} {w : World} {t : TypeId} {m k v : V} {mx kx vx : Value} (hR : Rep φ st w) (hm : VR φ m mx) (hk : VR φ k kx) (hv : VR φ v vx) (h : updateV E t st m k v = some st') :
    ∃ w', (Instr.mapUpdate t mx kx vx).run P w = .ok () w' ∧ Chg φ w φ w' ∧ Rep φ st' w' := by
  obtain ⟨⟨i, d⟩, h1, h2⟩ := obind_some h
  clear h
  dsimp only at h2
  cases d <;> first | (cases h2; done) | skip
  rename_i kt et
  obtain ⟨⟨ki, kd⟩, h3, h4⟩ := obind_some h2
  obtain ⟨h5, h6⟩ := cond_some h4
  clear h2 h4
  have hu := (hE.types t i _ h1).2
  have hku := (hE.types kt ki _ h3).2
  cases m <;> first | (cases h6; done) | skip
  rename_i id
  cases hm with
  | map _ b κ hφ =>
  obtain ⟨next, blks⟩ := st
  obtain ⟨bl, h9, h10⟩ := obind_some (show obind (blks.get id) (updIn E kd next blks id k v) = some st' from h6)
  cases bl <;> first | (cases h10; done) | skip
  rename_i es clock
  obtain ⟨o, h11, h12⟩ := obind_some h10
  obtain ⟨es', hb, he1, he2⟩ := hR.maps id b κ es clock hφ h9
  obtain ⟨o', g1, g2⟩ := findV_sound hE h3 h5 hk w es es'.toList o (by simpa using he1) (fun j kk v b e a1 a2 => he2 j kk v b e a1 (by simpa using a2)) h11
  have hgo := run_getObj (P := P) hb (fun a e f => by simp)
  have hso := fun o' => run_setObj (P := P) (w := w) (b := b) o' hb (fun a e f => by simp)
  rcases g2 with ⟨rfl, rfl⟩ | ⟨j, u, u', rfl, rfl, q3, q4⟩
  · dsimp only at h12
    rw [listK_eq, natK_eq, Tr.setK_eq] at h12
    cases h12
    have hnl : ∀ (o' : Obj) (r : Loop), Obj.map es' clock = Obj.loop r → ∃ r' : Loop, o' = Obj.loop r' ∧ LStat r r' := fun _ r e => by cases e
    obtain ⟨k1, k2⟩ := hR.setBlk (hlp := hnl _) (bl' := .map (es ++ [(k, v, clock)]) (clock + 1)) (o' := .map (es'.push { key := kx, val := vx, born := clock }) (clock + 1)) hφ h9 rfl rfl hb (fun a e f => by simp)
      (fun es2 c e => by
        cases e
        refine ⟨_, rfl, by simp [he1], fun j k2 v2 b2 e2 a1 a2 => ?_⟩
        rw [Array.getElem?_push] at a2
        by_cases hj : j = es'.size
        · rw [if_pos hj] at a2
          cases a2
          rw [hj, he1, List.getElem?_append_right (Nat.le_refl _)] at a1
          simp at a1
          obtain ⟨rfl, rfl, rfl⟩ := a1
          exact ⟨hk, hv, rfl⟩
        · rw [if_neg hj] at a2
          have hlt : j < es'.size := (Array.getElem?_eq_some_iff.1 a2).1
          rw [List.getElem?_append_left (by omega)] at a1
          exact he2 j k2 v2 b2 e2 a1 a2) (fun v e => by cases e)
    refine ⟨_, ?_, k1, k2⟩
    unfold Instr.mapUpdate
    simp [run_underlying hu, hgo, run_checkKey_ok hE h3 h5 hk w, g1, hso]
  · dsimp only at h12
    obtain ⟨h13, h14⟩ := cond_some h12
    clear h12
    rw [listK_eq, Tr.setK_eq] at h14
    cases h14
    have hjl : j < es'.size := by omega
    obtain ⟨e0, he0⟩ : ∃ e0, es'[j]? = some e0 := ⟨es'[j], Array.getElem?_eq_getElem hjl⟩
    obtain ⟨⟨kk, u0, bb⟩, q5⟩ : ∃ q, es[j]? = some q := ⟨es[j], List.getElem?_eq_getElem q4⟩
    have h15 : keySame k kk = true := by
      rw [nth_eq, Nat.zero_add, q5] at h13
      exact h13
    obtain ⟨y1, y2, y3⟩ := he2 j kk u0 bb e0 q5 he0
    have hkk := keySame_eq h15
    subst hkk
    have hsame := key_bits hk y1 h15 9999
    have hnl : ∀ (o' : Obj) (r : Loop), Obj.map es' clock = Obj.loop r → ∃ r' : Loop, o' = Obj.loop r' ∧ LStat r r' := fun _ r e => by cases e
    obtain ⟨k1, k2⟩ := hR.setBlk (hlp := hnl _) (bl' := .map (setEntry es (0 + j) v) clock) (o' := .map (es'.modify (0 + j) fun e => { e with key := kx, val := vx }) clock) hφ h9 rfl rfl hb (fun a e f => by simp)
      (fun es2 c e => by
        cases e
        refine ⟨_, rfl, by simp [he1, setEntry_length], fun j2 k2 v2 b2 e2 a1 a2 => ?_⟩
        rw [setEntry_get] at a1
        rw [Array.getElem?_modify] at a2
        by_cases hj : j2 = 0 + j
        · rw [if_pos hj] at a1
          rw [if_pos hj.symm] at a2
          rw [hj] at a1 a2
          rw [Nat.zero_add] at a1 a2
          rw [q5] at a1
          rw [he0] at a2
          simp at a1 a2
          obtain ⟨rfl, rfl, rfl⟩ := a1
          subst a2
          exact ⟨hk, hv, y3⟩
        · rw [if_neg hj] at a1
          rw [if_neg (fun e => hj e.symm)] at a2
          exact he2 j2 k2 v2 b2 e2 a1 a2) (fun v e => by cases e)
    refine ⟨_, ?_, k1, k2⟩
    unfold Instr.mapUpdate
    simp [run_underlying hu, hgo, run_checkKey_ok hE h3 h5 hk w, g1, hso, he0, Instr.keyThatStays, hsame]
end
end Go.Ev
namespace Go.Ev
open Go.RowKit
variable [Base]

section
variable {E : Env} {P : Program} {φ : Phi}

omit [Base] in
theorem pickV_sound {c a b : V} {cx ax bx : Value} {r : V} (hc : VR φ c cx) (ha : VR φ a ax) (hb : VR φ b bx) (h : pickV a b c = some r) : ∃ t : Bool, cx = .bool t ∧ VR φ r (if t then ax else bx) := by
  cases hc <;> first | (cases h; done) | skip
  rename_i t
  cases t <;> (cases h; exact ⟨_, rfl, by assumption⟩)
omit [Base] in
theorem tupAt_sound {t r : V} {x : Value} {i : Nat} {w : World} (ht : VR φ t x) (h : tupAt i t = some r) : ∃ y, (Instr.extract x i).run P w = .ok y w ∧ VR φ r y := by
  cases t <;> first | (cases h; done) | skip
  obtain ⟨xs, rfl, hx⟩ := ht.inv_tup
  simp only [tupAt, nth_eq] at h
  obtain ⟨y, hy, hv⟩ := hx.get h
  have hy' : xs[i]? = some y := by simpa using hy
  exact ⟨y, by unfold Instr.extract; simp [hy'], hv⟩
omit [Base] in
theorem args_sound {tm : Tr V} {ρ : Operand → Value} (hρ : OpR φ tm ρ) {as : Array Operand} {vs : List V} (h : operands tm as.toList = some vs) : VRs φ vs (as.map ρ).toList := by
  have := hρ.list _ _ h
  simpa using this

theorem builtinV_sound (hE : EnvOK E P) {st : St} {w : World} {ats : Array TypeId} {ty : TypeId} {consts : Array Bool} {b : Builtin} {vs : List V} {xs : Array Value} {r : Res} (hR : Rep φ st w) (hv : VRs φ vs xs.toList) (h : builtinV E ats st vs b = some r) :
    ResOK P φ w r ((builtin b ats ty consts xs).run P w) := by
  cases b <;> first | (cases h; done) | skip
  case append => exact bAppend_sound hE hR hv h
  case cap => exact bCap_sound hE hR hv h
  case clear => exact bClear_sound hE hR hv h
  case copy => exact bCopy_sound hE hR hv h
  case len => exact bLen_sound hE hR hv h
  case max => exact bMinMax_sound (mx := true) (ats := ats) (ty := ty) hR hv h
  case min => exact bMinMax_sound (mx := false) (ats := ats) (ty := ty) hR hv h
  case recover => cases h; exact ⟨rfl, hR⟩
  case unsafeSliceData => exact bSliceData_sound (ats := ats) (ty := ty) hR hv h
  case unsafeString => exact bUString_sound (ty := ty) hE hR hv h

theorem methodV_sound (hE : EnvOK E P) {t : TypeId} {name : String} {f : FuncId} {x : Value} {w : World} (h : methodV E t name = some f) : (method (P.types.size + Made.depth) t x name).run P w = .ok (f, x) w := by
  obtain ⟨⟨i, d⟩, h1, h2⟩ := obind_some h
  obtain ⟨m, h3, h4⟩ := obind_some h2
  obtain ⟨h5, h6⟩ := cond_some h4
  obtain ⟨⟨g, p⟩, h7, h8⟩ := obind_some h6
  dsimp only at h8
  obtain ⟨h9, h10⟩ := cond_some h8
  cases h10
  have hfuel : P.types.size + Made.depth = (P.types.size + 99) + 1 := rfl
  rw [hfuel, method]
  have hfind : i.methods.find? (·.name == name) = some m := by rw [← Array.find?_toList]; exact h3
  have hpath : m.path.toList = [] := by simpa using h5
  simp only [Sem.run_bind, hE.info h1 w, Result.andThen_ok, hfind, hpath, follow, Sem.run_pure, h7, h5, if_true]
  unfold receiverAt
  cases p with
  | true =>
    cases d <;> first | (cases h9; done) | simp [hE.und h1 w, Place.get]
  | false =>
    cases d <;> first | (cases h9; done) | simp [hE.und h1 w, Place.get]

theorem evCallee_sound (hE : EnvOK E P) {st : St} {w : World} {tm : Tr V} {ρ : Operand → Value} {c : Call} {ty : TypeId} {r : Res} (hR : Rep φ st w) (hρ : OpR φ tm ρ) (h : evCall c E tm st = some r) :
    ResOK P φ w r ((do let d ← resolve ρ c ty; invoke d.target d.args : Sem Next).run P w) := by
  obtain ⟨callee, as, ats⟩ := c
  obtain ⟨vs, h1, h2⟩ := obind_some h
  have ha := args_sound hρ h1
  cases callee with
  | builtin b => exact builtinV_sound hE hR ha h2
  | invoke rv name =>
    obtain ⟨v, h3, h4⟩ := obind_some h2
    have hv := hρ rv v h3
    simp only [resolve, Sem.run_bind, Sem.run_pure, Result.andThen_ok]
    generalize ρ rv = x at hv
    cases hv <;> first | (cases h4; done) | skip
    rename_i t u y hy
    obtain ⟨f, h5, h6⟩ := obind_some h4
    unfold invoke callMethod
    have e0 : (#[Value.iface t y] ++ as.map ρ)[0]? = some (.iface t y) := by rw [Array.getElem?_append_left (by simp)]; rfl
    have e1 : (#[Value.iface t y] ++ as.map ρ).extract 1 (#[Value.iface t y] ++ as.map ρ).size = as.map ρ := by
      apply Array.ext'
      simp only [Array.toList_extract, Array.toList_append, Array.size_append, Array.size_map]
      simp [List.take_of_length_le]
    simp only [e0, e1, Sem.run_bind, run_program, Result.andThen_ok, methodV_sound hE h5]
    exact callF_sound hE hR (by simpa using VRs.cons hy ha) h6
  | value f =>
    obtain ⟨v, h3, h4⟩ := obind_some h2
    have hv := hρ f v h3
    simp only [resolve, Sem.run_bind]
    generalize ρ f = x at hv
    cases v <;> first | (cases h4; done) | skip
    · rename_i g first captured
      cases g <;> first | (cases h4; done) | skip
      rename_i g
      cases hv with
      | fn _ _ _ a' c' q1 q2 q3 q4 =>
      replace h4 : listK (first ++ (vs ++ captured)) (fun all => callF E g st all) = some r := h4
      rw [listK_eq] at h4
      simp only [Deferred.ofValue, Sem.run_pure, Result.andThen_ok, invoke]
      refine callF_sound hE hR ?_ h4
      have k1 : VRs φ first a'.toList := ⟨by simpa using q1, fun i v x p q => q2 i v x p (by simpa using q)⟩
      have k2 : VRs φ captured c'.toList := ⟨by simpa using q3, fun i v x p q => q4 i v x p (by simpa using q)⟩
      have := k1.append (ha.append k2)
      simpa using this
    · cases h4
      cases hv with
      | yld id b κ hφ =>
      refine ⟨as.map ρ, b, κ, hφ, ha, hR, fun rec hrec hsz => ?_⟩
      have hget := run_getObj (P := P) hrec (fun a e f => by simp)
      simp only [Deferred.ofValue, Sem.run_pure, Result.andThen_ok, invoke, Array.empty_append]
      unfold Instr.yield Instr.getLoop
      simp only [Sem.run_bind, hget, Result.andThen_ok, Sem.run_pure]
      rw [if_neg (by rw [hsz]; simp)]
      simp only [Sem.run_bind, Result.andThen_ok, Sem.run_pure]
theorem evDefer_sound {st : St} {w : World} {tm : Tr V} {ρ : Operand → Value} {c : Call} {ty : TypeId} {r : Res} (hR : Rep φ st w) (hρ : OpR φ tm ρ) (h : evDefer c E tm st = some r) :
    ResOK P φ w r ((do pure (.defer (← resolve ρ c ty)) : Sem Next).run P w) := by
  obtain ⟨callee, as, ats⟩ := c
  obtain ⟨vs, h1, h2⟩ := obind_some h
  have ha := args_sound hρ h1
  cases callee <;> first | (cases h2; done) | skip
  rename_i f
  obtain ⟨v, h3, h4⟩ := obind_some h2
  have hv := hρ f v h3
  simp only [resolve, Sem.run_bind]
  generalize ρ f = x at hv
  cases v <;> first | (cases h4; done) | skip
  rename_i g first captured
  replace h4 : listK (first ++ vs) (fun all => some (Res.defer g captured all st)) = some r := h4
  rw [listK_eq] at h4
  cases h4
  cases hv with
  | fn _ _ _ a' c' q1 q2 q3 q4 =>
    have k1 : VRs φ first a'.toList := ⟨by simpa using q1, fun i v x p q => q2 i v x p (by simpa using q)⟩
    have k2 : VRs φ captured c'.toList := ⟨by simpa using q3, fun i v x p q => q4 i v x p (by simpa using q)⟩
    exact ⟨c', a' ++ as.map ρ, rfl, k2, by simpa using k1.append ha, hR⟩

omit [Base] in
theorem notNil_sound {v r : V} {x : Value} {w : World} (hv : VR φ v x) (h : notNil v = some r) (K : Value → Sem Next)
    (hK : ∀ x, (∀ n : String, ∀ a c, x ≠ .func (.method n) a c) → x ≠ .pointer none → x ≠ .nilIface → x ≠ .nilFunc → (K x).run P w = .ok (.value x) w) : (K x).run P w = .ok (.value x) w ∧ VR φ r x := by
  cases v <;> first | (cases h; done) | skip
  · cases h
    cases hv
    exact ⟨hK _ (by intros; simp) (by simp) (by simp) (by simp), .ptr _ _ _ _ (by assumption)⟩
  · rename_i f a b
    cases f <;> first | (cases h; done) | skip
    cases h
    cases hv with
    | fn _ _ _ a' c' q1 q2 q3 q4 => exact ⟨hK _ (by intros; simp) (by simp) (by simp) (by simp), .fn _ _ _ _ _ q1 q2 q3 q4⟩
  · cases h
    cases hv
    exact ⟨hK _ (by intros; simp) (by simp) (by simp) (by simp), .iface _ _ _ (by assumption)⟩
  · cases h
    cases hv
    exact ⟨hK _ (by intros; simp) (by simp) (by simp) (by simp), .yld _ _ _ (by assumption)⟩

theorem evOp_sound (hE : EnvOK E P) {st : St} {w : World} {tm : Tr V} {ρ : Operand → Value} {o : Oper} {r : Res} (hR : Rep φ st w) (hρ : OpR φ tm ρ) (h : evOp o.op E tm st = some r) : ResOK P φ w r ((execOp ρ o).run P w) := by
  obtain ⟨dst, op, ty, pos, after, guard⟩ := o
  cases op <;> first | (cases h; done) | skip
  case move x =>
    obtain ⟨v, h1, rfl⟩ := retO_some h
    exact .inl ⟨φ, _, w, rfl, Chg.refl φ w, hR, hρ x v h1⟩
  case assign x =>
    obtain ⟨v, h1, rfl⟩ := retO_some h
    exact .inl ⟨φ, _, w, rfl, Chg.refl φ w, hR, hρ x v h1⟩
  case pick c a b =>
    obtain ⟨cv, h1, h⟩ := obind_some h
    obtain ⟨av, h2, h⟩ := obind_some h
    obtain ⟨bv, h3, h⟩ := obind_some h
    obtain ⟨v, h4, rfl⟩ := retO_some h
    obtain ⟨t, e, hv⟩ := pickV_sound (hρ c cv h1) (hρ a av h2) (hρ b bv h3) h4
    refine .inl ⟨φ, _, w, ?_, Chg.refl φ w, hR, hv⟩
    show (do pure (Next.value (if ← asBool (ρ c) then ρ a else ρ b)) : Sem Next).run P w = _
    rw [e]
    rfl
  case alloc t => exact evAlloc_sound (tm := tm) hE hR h
  case box t x => exact evBox_sound (E := E) hR hρ h
  case build t ps =>
    obtain ⟨z, h1, h⟩ := obind_some h
    obtain ⟨l, h2, h⟩ := obind_some h
    obtain ⟨⟨i, d⟩, h3, h⟩ := obind_some h
    dsimp only at h
    obtain ⟨pl, h4, h⟩ := obind_some h
    obtain ⟨cs, h5, h⟩ := obind_some h
    cases h
    have hp := parts_sound hρ _ _ h2
    obtain ⟨x, g1, g2⟩ := build_sound hE (ps' := ps.map fun (i, x) => (i, ρ x)) w h1 (by rw [Array.toList_map]; exact hp) h3 h4 h5
    exact ok_val hR g1 g2
  case buildSlice t n ps => exact evBuildSlice_sound hE hR hρ h
  case load t a =>
    obtain ⟨av, h1, h⟩ := obind_some h
    obtain ⟨⟨i, d⟩, h2, h⟩ := obind_some h
    dsimp only at h
    obtain ⟨v, h3, rfl⟩ := retO_some h
    obtain ⟨y, g1, g2⟩ := evLoad_sound (P := P) hE hR h2 (hρ a av h1) h3
    exact ok_val hR g1 g2
  case store t a x =>
    obtain ⟨av, h1, h⟩ := obind_some h
    obtain ⟨xv, h2, h⟩ := obind_some h
    obtain ⟨⟨i, d⟩, h3, h⟩ := obind_some h
    exact evStore_sound hE hR h3 (hρ a av h1) (hρ x xv h2) h
  case nilCheck x =>
    obtain ⟨xv, h1, h⟩ := obind_some h
    obtain ⟨v, h2, rfl⟩ := retO_some h
    have hx := hρ x xv h1
    show ResOK P φ w _ ((execOp ρ ⟨dst, .nilCheck x, ty, pos, after, guard⟩).run P w)
    unfold execOp
    dsimp only
    generalize ρ x = y at hx
    cases xv <;> first | (cases h2; done) | skip
    · cases h2
      cases hx
      exact .inl ⟨φ, _, w, rfl, Chg.refl φ w, hR, .ptr _ _ _ _ (by assumption)⟩
    · rename_i f a b
      cases f <;> first | (cases h2; done) | skip
      cases h2
      cases hx with
      | fn _ _ _ a' c' q1 q2 q3 q4 => exact .inl ⟨φ, _, w, rfl, Chg.refl φ w, hR, .fn _ _ _ _ _ q1 q2 q3 q4⟩
    · cases h2
      cases hx
      exact .inl ⟨φ, _, w, rfl, Chg.refl φ w, hR, .iface _ _ _ (by assumption)⟩
    · cases h2
      cases hx
      exact .inl ⟨φ, _, w, rfl, Chg.refl φ w, hR, .yld _ _ _ (by assumption)⟩
  case binOp op t x y yt =>
    obtain ⟨a, h1, h⟩ := obind_some h
    obtain ⟨b, h2, h⟩ := obind_some h
    obtain ⟨v, h3, rfl⟩ := retO_some h
    obtain ⟨z, g1, g2⟩ := binV_sound hE (ox := x) (oy := y) w (hρ x a h1) (hρ y b h2) h3
    exact ok_val hR g1 g2
  case unOp op t x =>
    obtain ⟨a, h1, h⟩ := obind_some h
    obtain ⟨v, h2, rfl⟩ := retO_some h
    obtain ⟨z, g1, g2⟩ := unV_sound (P := P) w (hρ x a h1) h2
    exact ok_val hR g1 g2
  case convert s d x =>
    obtain ⟨a, h1, h⟩ := obind_some h
    obtain ⟨⟨i, ds⟩, h2, h3⟩ := obind_some h
    replace h3 : cond (ptrish ds) (obind (E.types d) fun p => convU E st a ds p.2) (convertV E s d st a) = some r := h3
    cases hp : ptrish ds with
    | true =>
      rw [hp] at h3
      obtain ⟨⟨j, dd⟩, h4, h5⟩ := obind_some h3
      exact convU_sound hE h2 h4 hR (hρ x a h1) h5
    | false =>
      rw [hp] at h3
      exact convertV_sound hE hR (hρ x a h1) h3
  case range t x => exact evRange_sound hE hR hρ h
  case next it isS => exact evNext_sound (E := E) hR hρ h
  case entry it => exact evEntry_sound (E := E) hR hρ h
  case lookup t m k ok =>
    obtain ⟨mv, h1, h⟩ := obind_some h
    obtain ⟨kv, h2, h⟩ := obind_some h
    obtain ⟨v, h3, rfl⟩ := retO_some h
    obtain ⟨y, g1, g2⟩ := lookupV_sound hE hR (hρ m mv h1) (hρ k kv h2) h3
    exact ok_val hR g1 g2
  case mapUpdate t m k x =>
    obtain ⟨mv, h1, h⟩ := obind_some h
    obtain ⟨kv, h2, h⟩ := obind_some h
    obtain ⟨xv, h3, h⟩ := obind_some h
    obtain ⟨st2, h4, h⟩ := obind_some h
    cases h
    obtain ⟨w', g1, g2, g3⟩ := updateV_sound hE hR (hρ m mv h1) (hρ k kv h2) (hρ x xv h3) h4
    exact ⟨φ, w', uRun_ok g1, g2, g3⟩
  case insert t m k x =>
    obtain ⟨mv, h1, h⟩ := obind_some h
    obtain ⟨kv, h2, h⟩ := obind_some h
    obtain ⟨xv, h3, h⟩ := obind_some h
    obtain ⟨st2, h4, h⟩ := obind_some h
    cases h
    obtain ⟨w', g1, g2, g3⟩ := updateV_sound hE hR (hρ m mv h1) (hρ k kv h2) (hρ x xv h3) h4
    exact ⟨φ, w', uRun_ok g1, g2, g3⟩
  case makeInterface t x => exact evMakeInterface_sound hE hR hρ h
  case makeFunc f a b =>
    obtain ⟨as, h1, h⟩ := obind_some h
    obtain ⟨bs, h2, h⟩ := obind_some h
    cases h
    have k1 := args_sound hρ h1
    have k2 := args_sound hρ h2
    exact ok_val hR (x := .func f (a.map ρ) (b.map ρ)) rfl (.fn f as bs _ _ (by simpa using k1.1) (fun i v x p q => k1.2 i v x p (by rw [Array.getElem?_toList]; exact q)) (by simpa using k2.1) (fun i v x p q => k2.2 i v x p (by rw [Array.getElem?_toList]; exact q)))
  case makeMap t hint => exact evMakeMap_sound hE hR hρ h
  case makeSlice t l c => exact evMakeSlice_sound hE hR hρ h
  case slice t x lo hi mx =>
    cases mx with
    | some m =>
      obtain ⟨xv, h1, h⟩ := obind_some h
      obtain ⟨lv, h2, h⟩ := obind_some h
      obtain ⟨hv, h3, h⟩ := obind_some h
      obtain ⟨mv, h5, h⟩ := obind_some h
      obtain ⟨v, h4, rfl⟩ := retO_some h
      obtain ⟨y, g1, g2⟩ := sliceMx_sound (P := P) hE (optOperand_sound hρ h2) (optOperand_sound hρ h3) (hρ m mv h5) (hρ x xv h1) h4
      exact ok_val hR (g1 w) g2
    | none =>
    obtain ⟨xv, h1, h⟩ := obind_some h
    obtain ⟨lv, h2, h⟩ := obind_some h
    obtain ⟨hv, h3, h⟩ := obind_some h
    obtain ⟨v, h4, rfl⟩ := retO_some h
    have hx := hρ x xv h1
    cases xv with
    | ptr id off =>
      obtain ⟨y, g1, g2⟩ := sliceArr_sound (P := P) hE hR (optOperand_sound hρ h2) (optOperand_sound hρ h3) hx h4
      exact ok_val hR (g1 w) g2
    | sl id off len esz cap =>
      cases cap with
      | none =>
        obtain ⟨y, g1, g2⟩ := sliceOpen_sound (P := P) hE hR (optOperand_sound hρ h2) (optOperand_sound hρ h3) hx h4
        exact ok_val hR (g1 w) g2
      | some c =>
        obtain ⟨y, g1, g2⟩ := sliceV_sound (P := P) hE (optOperand_sound hρ h2) (optOperand_sound hρ h3) hx h4
        exact ok_val hR (g1 w) g2
    | _ =>
      obtain ⟨y, g1, g2⟩ := sliceV_sound (P := P) hE (optOperand_sound hρ h2) (optOperand_sound hρ h3) hx h4
      exact ok_val hR (g1 w) g2
  case fieldAddr s x f =>
    obtain ⟨xv, h1, h⟩ := obind_some h
    obtain ⟨⟨i, d⟩, h2, h⟩ := obind_some h
    dsimp only at h
    obtain ⟨fd, h3, h⟩ := obind_some h
    obtain ⟨v, h4, rfl⟩ := retO_some h
    obtain ⟨y, g1, g2⟩ := ptrAt_sound (P := P) hE w h2 h3 (hρ x xv h1) h4
    exact ok_val hR g1 g2
  case field s x f =>
    obtain ⟨xv, h1, h⟩ := obind_some h
    obtain ⟨⟨i, d⟩, h2, h⟩ := obind_some h
    dsimp only at h
    obtain ⟨fd, h3, h⟩ := obind_some h
    obtain ⟨v, h4, rfl⟩ := retO_some h
    obtain ⟨y, g1, g2⟩ := aggAt_sound (P := P) hE w h2 h3 (hρ x xv h1) h4
    exact ok_val hR g1 g2
  case indexAddr t x ix =>
    obtain ⟨xv, h1, h⟩ := obind_some h
    obtain ⟨iv, h2, h⟩ := obind_some h
    obtain ⟨i, h3, h⟩ := obind_some h
    obtain ⟨v, h4, rfl⟩ := retO_some h
    obtain ⟨k, e⟩ := natOf_sound (hρ ix iv h2) h3
    obtain ⟨y, g1, g2⟩ := indexAddrV_sound (P := P) (k := k) hE w (hρ x xv h1) h4
    exact ok_val hR (s := Instr.indexAt t (ρ x) (ρ ix)) (by rw [e]; exact g1) g2
  case index t x ix =>
    obtain ⟨xv, h1, h⟩ := obind_some h
    obtain ⟨iv, h2, h⟩ := obind_some h
    obtain ⟨i, h3, h⟩ := obind_some h
    obtain ⟨v, h4, rfl⟩ := retO_some h
    obtain ⟨k, e⟩ := natOf_sound (hρ ix iv h2) h3
    obtain ⟨y, g1, g2⟩ := indexV_sound (P := P) (k := k) hE w (hρ x xv h1) h4
    exact ok_val hR (s := Instr.index t (ρ x) (ρ ix)) (by rw [e]; exact g1) g2
  case typeAssert x xt a ok =>
    obtain ⟨xv, h1, h⟩ := obind_some h
    obtain ⟨v, h2, rfl⟩ := retO_some h
    obtain ⟨y, g1, g2⟩ := assertV_sound (P := P) (xt := xt) hE (hρ x xv h1) h2
    exact ok_val hR g1 g2
  case extract t i =>
    obtain ⟨tv, h1, h⟩ := obind_some h
    obtain ⟨v, h2, rfl⟩ := retO_some h
    obtain ⟨y, g1, g2⟩ := tupAt_sound (P := P) (w := w) (hρ t tv h1) h2
    exact ok_val hR g1 g2
  case call c => exact evCallee_sound hE hR hρ h
  case defer c => exact evDefer_sound hR hρ h
end
end Go.Ev
