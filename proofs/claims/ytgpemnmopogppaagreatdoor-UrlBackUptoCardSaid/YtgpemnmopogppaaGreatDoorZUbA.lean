/- url: a list of texts, written and read again: plain functions, the plain law of its reading. -/
import Derived.Test.YtgpemnmopogppaaGreatDoorZDpCaQ
namespace Go.Proofs.YtgpemnmopogppaaGreatDoor
open Go Go.RowKit
namespace Ub
open Go.Proofs.YtgpemnmopogppaaGreatDoor.Nm (normG)
open Go.Proofs.YtgpemnmopogppaaGreatDoor.Dp
open Go.Proofs.YtgpemnmopogppaaGreatDoor.Ut
open Go.Proofs.YtgpemnmopogppaaGreatDoor.Url (encL decF decF_enc)
/-- A key's text. -/
def keyL (k : Key3) : List UInt8 := if k.1 = true then k.2.2.data.toList else Lib.itoa k.2.1
abbrev Leaf := List (List UInt8) × ByteArray
def under (s : List UInt8) (p : Leaf) : Leaf := (s :: p.1, p.2)
mutual
/-- The texts in a value, each with the keys that lead to it. -/
def leavesV : GV → List Leaf
  | .mk k _ t l => if k = 4 then leavesI l else [([], t)]
def leavesI : List GI → List Leaf
  | [] => []
  | .mk b i s v :: r => (leavesV v).map (under (keyL (b, i, s))) ++ leavesI r
end
mutual
/-- What is read back. -/
def imgV : GV → GV
  | .mk k _ t l => if k = 4 then .mk 4 ((l.map GI.keyG).foldl nextK 0) ⟨#[]⟩ (imgI l) else .mk 3 0 t []
def imgI : List GI → List GI
  | [] => []
  | .mk b i s v :: r => .mk b i s (imgV v) :: imgI r
end
mutual
/-- How many items a value has in all. -/
def cntV : GV → Nat
  | .mk _ _ _ l => l.length + cntI l
def cntI : List GI → Nat
  | [] => 0
  | .mk _ _ _ v :: r => cntV v + cntI r
end
theorem cntI_app : ∀ a b : List GI, cntI (a ++ b) = cntI a + cntI b
  | [], b => by simp [cntI]
  | .mk _ _ _ v :: a, b => by rw [List.cons_append, cntI, cntI, cntI_app a b]; omega
mutual
theorem leftV_cnt : ∀ (g : GV) (m : Int), (cntV g : Int) ≤ m → leftV g m = m - cntV g
  | .mk k n t l, m, h => by
    rw [cntV] at h
    rw [leftV, cntV, leftL_cnt l _ (by omega)]
    omega
theorem leftL_cnt : ∀ (l : List GI) (m : Int), (cntI l : Int) ≤ m → leftL l m = m - cntI l
  | [], m, h => by rw [leftL, cntI]; omega
  | .mk b i s v :: l, m, h => by
    rw [cntI] at h
    rw [leftL, if_neg (by omega), leftV_cnt v m (by omega), leftL_cnt l _ (by omega), cntI]
    omega
end
mutual
theorem cnt_leftV : ∀ (g : GV) (m : Int), 0 ≤ leftV g m → (cntV g : Int) + leftV g m = m
  | .mk k n t l, m, h => by
    rw [leftV] at h
    rw [leftV, cntV]
    have := cnt_leftL l _ h
    omega
theorem cnt_leftL : ∀ (l : List GI) (m : Int), 0 ≤ leftL l m → (cntI l : Int) + leftL l m = m
  | [], m, h => by rw [leftL, cntI]; omega
  | .mk b i s v :: l, m, h => by
    rw [leftL] at h
    by_cases hm : m < 0
    · rw [if_pos hm] at h; omega
    · rw [if_neg hm] at h
      rw [leftL, if_neg hm, cntI]
      have h2 : 0 ≤ leftV v m := by
        refine Int.not_lt.1 fun hn => ?_
        rw [leftL_neg l _ hn] at h
        omega
      have h3 := cnt_leftV v m h2
      have h4 := cnt_leftL l _ h
      omega
end
mutual
theorem cnt_img : ∀ g : GV, cntV (imgV g) ≤ cntV g
  | .mk k n t l => by
    rw [imgV]
    split
    · rw [cntV, cntV, img_len l]
      have := cnt_imgI l
      omega
    · simp [cntV, cntI]
theorem cnt_imgI : ∀ l : List GI, cntI (imgI l) ≤ cntI l
  | [] => by simp [imgI, cntI]
  | .mk b i s v :: l => by
    rw [imgI, cntI, cntI]
    have := cnt_img v
    have := cnt_imgI l
    omega
theorem img_len : ∀ l : List GI, (imgI l).length = l.length
  | [] => rfl
  | .mk b i s v :: l => by rw [imgI, List.length_cons, List.length_cons, img_len l]
end
theorem img_keys : ∀ l : List GI, (imgI l).map GI.keyG = l.map GI.keyG
  | [] => rfl
  | .mk b i s v :: l => by rw [imgI, List.map_cons, List.map_cons, img_keys l]; rfl
theorem imgI_app : ∀ a b : List GI, imgI (a ++ b) = imgI a ++ imgI b
  | [], b => rfl
  | .mk _ _ _ v :: a, b => by rw [List.cons_append, imgI, imgI, imgI_app a b]; rfl
mutual
theorem leaves_len : ∀ g : GV, (leavesV g).length ≤ 1 + cntV g
  | .mk k n t l => by
    rw [leavesV]
    split
    · rw [cntV]
      have := leavesI_len l
      omega
    · simp
theorem leavesI_len : ∀ l : List GI, (leavesI l).length ≤ l.length + cntI l
  | [] => by simp [leavesI, cntI]
  | .mk b i s v :: l => by
    rw [leavesI, cntI, List.length_append, List.length_map, List.length_cons]
    have := leaves_len v
    have := leavesI_len l
    omega
end
theorem leavesI_ne : ∀ (l : List GI) (p : Leaf), p ∈ leavesI l → p.1 ≠ []
  | [], p, h => by simp [leavesI] at h
  | .mk b i s v :: l, p, h => by
    rw [leavesI, List.mem_append] at h
    rcases h with h | h
    · obtain ⟨q, _, rfl⟩ := List.mem_map.1 h
      simp [under]
    · exact leavesI_ne l p h
/-- A list of texts that comes back, within so many lists. -/
inductive GoodV : Nat → GV → Prop where
  | leaf (d : Nat) (n : Int) (t : ByteArray) : GoodV d (.mk 3 n t [])
  | node (d : Nat) (n : Int) (t : ByteArray) (l : List GI) (hd : d ≤ 62) (h0 : l ≠ []) (hlen : l.length ≤ 2048) (hnd : (l.map GI.keyG).Nodup)
      (hk : ∀ it ∈ l, In64 it.int ∧ normG it.isText it.int it.text = GI.keyG it ∧ keyL (GI.keyG it) ≠ [] ∧ (0 < d → 93 ∉ keyL (GI.keyG it)) ∧ (d = 0 → 91 ∉ keyL (GI.keyG it) ∧ 32 ∉ keyL (GI.keyG it) ∧ 46 ∉ keyL (GI.keyG it)))
      (hv : ∀ it ∈ l, GoodV (d + 1) it.val) : GoodV d (.mk 4 n t l)
/-- A text under keys, in a list. -/
def putP : List (List UInt8) → ByteArray → List GI → Int → Option (List GI × Int)
  | [], _, _, _ => none
  | [s], t, gs, nx => setG gs nx (giOf (true, 0, mkB s) (leafG t))
  | s :: s' :: r, t, gs, nx => (putP (s' :: r) t (subG gs (normG true 0 (mkB s))).1 (subG gs (normG true 0 (mkB s))).2).bind fun p => setG gs nx (giOf (true, 0, mkB s) (.mk 4 p.2 ⟨#[]⟩ p.1))
theorem mkB_ne {s : List UInt8} (h : s ≠ []) : ¬ mkB s = ⟨#[]⟩ := fun e => h (by rw [← mkB_list s, e])
theorem putO_eq (t : ByteArray) : ∀ (r : List (List UInt8)) (s : List UInt8) (head : Bool) (gs : List GI) (nx : Int), s ≠ [] → (∀ x ∈ r, x ≠ []) → putO (r.map mkB) (mkB s) head t gs nx = putP (s :: r) t gs nx
  | [], s, head, gs, nx, hs, _ => by
    rw [List.map_nil, putO, putP, keyT, if_neg (fun h => mkB_ne hs h.1)]
    rfl
  | x :: r, s, head, gs, nx, hs, hr => by
    rw [List.map_cons, putO, putP, keyT, if_neg (fun h => mkB_ne hs h.1), if_neg (fun h => mkB_ne hs h.1), putO_eq t r x false _ _ (hr x (List.mem_cons_self ..)) fun y hy => hr y (List.mem_cons_of_mem _ hy)]
    rfl
theorem not_found {ks : List Key3} {k : Key3} (h : k ∉ ks) : findK ks k 0 < 0 := by
  have h1 := findK_mem ks k 0 (Int.le_refl 0)
  rw [decide_eq_false h] at h1
  have := of_decide_eq_false h1
  omega
theorem find_last {ks : List Key3} {k : Key3} (h : k ∉ ks) : findK (ks ++ [k]) k 0 = (ks.length : Int) := by
  have h0 := not_found h
  rw [findK_app _ _ _ _ (Int.le_refl 0), if_neg (by omega), if_pos rfl]
  omega
theorem key_norm {b : Bool} {i : Int} {s : ByteArray} (hi : In64 i) (h : normG b i s = (b, i, s)) : normG true 0 (mkB (keyL (b, i, s))) = (b, i, s) := by
  cases b with
  | true =>
    rw [show keyL (true, i, s) = s.data.toList from rfl, mkB_of, ← h]
    unfold normG
    rfl
  | false =>
    rw [show keyL (false, i, s) = Lib.itoa i from rfl]
    have h2 : (false, i, s) = ((false, i, ⟨#[]⟩) : Bool × Int × ByteArray) := by
      rw [← h]
      unfold normG
      rfl
    rw [h2]
    unfold normG
    simp only [if_true, mkB_list, Nm.atoi_itoa i hi.1 hi.2]
theorem setG_new {gs : List GI} {nx : Int} {k k' : Key3} {v : GV} (hn : normG k'.1 k'.2.1 k'.2.2 = k) (hf : k ∉ gs.map GI.keyG) (hl : gs.length < 2048) : setG gs nx (giOf k' v) = some (gs ++ [giOf k v], nextK nx k) := by
  have h0 := not_found hf
  unfold setG
  rw [show normG (giOf k' v).isText (giOf k' v).int (giOf k' v).text = k from hn, if_neg (by omega), if_neg (by omega)]
  rfl
theorem setG_last {gs : List GI} {nx : Int} {k k' : Key3} {v c : GV} (hn : normG k'.1 k'.2.1 k'.2.2 = k) (hf : k ∉ gs.map GI.keyG) : setG (gs ++ [giOf k c]) nx (giOf k' v) = some (gs ++ [giOf k v], nx) := by
  have h0 := not_found hf
  unfold setG
  rw [show normG (giOf k' v).isText (giOf k' v).int (giOf k' v).text = k from hn, List.map_append, List.map_cons, List.map_nil, giOf_key, find_last hf, List.length_map, if_pos (by omega)]
  have e : (gs.length : Int).toNat = gs.length := by omega
  rw [e, List.set_append_right _ _ (Nat.le_refl _), Nat.sub_self]
  rfl
theorem subG_no {gs : List GI} {k : Key3} (hf : k ∉ gs.map GI.keyG) : subG gs k = ([], 0) := by
  have h0 := not_found hf
  unfold subG
  rw [if_neg (by omega)]
theorem subG_last {gs : List GI} {k : Key3} {c : GV} (hf : k ∉ gs.map GI.keyG) : subG (gs ++ [giOf k c]) k = kidsG c := by
  have h0 := not_found hf
  unfold subG
  rw [List.map_append, List.map_cons, List.map_nil, giOf_key, find_last hf, List.length_map, if_pos (by omega)]
  have e : (gs.length : Int).toNat = gs.length := by omega
  rw [e, List.getElem?_append_right (Nat.le_refl _), Nat.sub_self]
  rfl
/-- Texts are put one behind another, and no list on the way has more than so many items. -/
inductive Run (N : Nat) : List Leaf → List GI × Int → List GI × Int → Prop where
  | nil (s : List GI × Int) : Run N [] s s
  | cons (p : Leaf) (r : List Leaf) (s s1 s2 : List GI × Int) (h : putP p.1 p.2 s.1 s.2 = some s1) (hc : s1.1.length + cntI s1.1 ≤ N) (hr : Run N r s1 s2) : Run N (p :: r) s s2
theorem Run.mono {N M : Nat} {l : List Leaf} {s s2 : List GI × Int} (h : Run N l s s2) (hm : N ≤ M) : Run M l s s2 := by
  induction h with
  | nil s => exact .nil s
  | cons p r s s1 s2 h hc hr ih => exact .cons p r s s1 s2 h (Nat.le_trans hc hm) ih
theorem Run.app {N : Nat} {l l' : List Leaf} {s s1 s2 : List GI × Int} (h : Run N l s s1) (h' : Run N l' s1 s2) : Run N (l ++ l') s s2 := by
  induction h with
  | nil s => exact h'
  | cons p r s s1 s2 h hc hr ih => exact .cons p _ s s1 _ h hc (ih h')
theorem putP_under {s : List UInt8} {p : Leaf} {gs : List GI} {nx : Int} (hp : p.1 ≠ []) : putP (under s p).1 (under s p).2 gs nx = (putP p.1 p.2 (subG gs (normG true 0 (mkB s))).1 (subG gs (normG true 0 (mkB s))).2).bind fun q => setG gs nx (giOf (true, 0, mkB s) (.mk 4 q.2 ⟨#[]⟩ q.1)) := by
  obtain ⟨l, t⟩ := p
  cases l with
  | nil => exact absurd rfl hp
  | cons x l => rfl
theorem cnt_last (gs : List GI) (k : Key3) (nx : Int) (t : ByteArray) (c : List GI) : (gs ++ [giOf k (.mk 4 nx t c)]).length + cntI (gs ++ [giOf k (.mk 4 nx t c)]) = gs.length + cntI gs + 1 + (c.length + cntI c) := by
  rw [cntI_app, List.length_append]
  show _ + 1 + (_ + (cntV (.mk 4 nx t c) + 0)) = _
  rw [cntV]
  omega
theorem Run.lift {M : Nat} {l : List Leaf} {c cs : List GI × Int} (h : Run M l c cs) (hne : ∀ p ∈ l, p.1 ≠ []) {s : List UInt8} {k : Key3} (hk : normG true 0 (mkB s) = k) {gs : List GI} (hf : k ∉ gs.map GI.keyG) (nx : Int) :
    Run (gs.length + cntI gs + 1 + M) (l.map (under s)) (gs ++ [giOf k (.mk 4 c.2 ⟨#[]⟩ c.1)], nx) (gs ++ [giOf k (.mk 4 cs.2 ⟨#[]⟩ cs.1)], nx) := by
  induction h with
  | nil s => exact .nil _
  | cons p r c c1 cs h hc hr ih =>
    refine .cons (under s p) _ _ (gs ++ [giOf k (.mk 4 c1.2 ⟨#[]⟩ c1.1)], nx) _ ?_ ?_ (ih fun q hq => hne q (List.mem_cons_of_mem _ hq))
    · rw [putP_under (hne p (List.mem_cons_self ..)), hk, subG_last hf, show kidsG (.mk 4 c.2 ⟨#[]⟩ c.1) = (c.1, c.2) from rfl, h, Option.bind_some, setG_last hk hf]
    · rw [cnt_last]
      omega
theorem Run.lift0 {M : Nat} {l : List Leaf} {cs : List GI × Int} (h : Run M l ([], 0) cs) (h0 : l ≠ []) (hne : ∀ p ∈ l, p.1 ≠ []) {s : List UInt8} {k : Key3} (hk : normG true 0 (mkB s) = k) {gs : List GI} (hf : k ∉ gs.map GI.keyG) (hl : gs.length < 2048) (nx : Int) :
    Run (gs.length + cntI gs + 1 + M) (l.map (under s)) (gs, nx) (gs ++ [giOf k (.mk 4 cs.2 ⟨#[]⟩ cs.1)], nextK nx k) := by
  cases h with
  | nil s => exact absurd rfl h0
  | cons p r _ c1 _ h hc hr =>
    refine .cons (under s p) _ _ (gs ++ [giOf k (.mk 4 c1.2 ⟨#[]⟩ c1.1)], nextK nx k) _ ?_ ?_ (hr.lift (fun q hq => hne q (List.mem_cons_of_mem _ hq)) hk hf _)
    · rw [putP_under (hne p (List.mem_cons_self ..)), hk, subG_no hf, h, Option.bind_some, setG_new hk hf hl]
    · rw [cnt_last]
      omega
theorem leaves_some {d : Nat} {g : GV} (h : GoodV d g) : leavesV g ≠ [] := by
  induction h with
  | leaf d n t => rw [leavesV, if_neg (by decide)]; simp
  | node d n t l hd h0 hlen hnd hk hv ih =>
    rw [leavesV, if_pos rfl]
    cases l with
    | nil => exact absurd rfl h0
    | cons it l =>
      have := ih it (List.mem_cons_self ..)
      cases it with
      | mk b i s v =>
        rw [leavesI]
        intro e
        obtain ⟨h1, _⟩ := List.append_eq_nil_iff.1 e
        exact this (List.map_eq_nil_iff.1 h1)
/-- A list's items, all put in order. -/
theorem run_items {d : Nat} : ∀ (suf pre : List GI), (pre ++ suf).length ≤ 2048 → ((pre ++ suf).map GI.keyG).Nodup → (∀ it ∈ suf, In64 it.int ∧ normG it.isText it.int it.text = GI.keyG it) → (∀ it ∈ suf, GoodV d it.val) →
    (∀ it ∈ suf, ∀ n t l, it.val = .mk 4 n t l → Run (l.length + cntI (imgI l)) (leavesI l) ([], 0) (imgI l, (l.map GI.keyG).foldl nextK 0)) →
    Run ((pre ++ suf).length + cntI (imgI (pre ++ suf))) (leavesI suf) (imgI pre, (pre.map GI.keyG).foldl nextK 0) (imgI (pre ++ suf), ((pre ++ suf).map GI.keyG).foldl nextK 0)
  | [], pre, _, _, _, _, _ => by rw [List.append_nil, leavesI]; exact .nil _
  | .mk b i s v :: suf, pre, hlen, hnd, hk, hg, hr => by
    have e : pre ++ .mk b i s v :: suf = (pre ++ [.mk b i s v]) ++ suf := by simp
    have ih := run_items suf (pre ++ [.mk b i s v]) (by rw [← e]; exact hlen) (by rw [← e]; exact hnd) (fun it h => hk it (List.mem_cons_of_mem _ h)) (fun it h => hg it (List.mem_cons_of_mem _ h)) fun it h => hr it (List.mem_cons_of_mem _ h)
    rw [← e] at ih
    rw [leavesI]
    refine Run.app ?_ ih
    obtain ⟨hi, hno⟩ := hk _ (List.mem_cons_self ..)
    have hkey := key_norm hi hno
    have hf : (b, i, s) ∉ (imgI pre).map GI.keyG := by
      rw [img_keys]
      rw [e, List.map_append, List.map_append, List.append_assoc, List.nodup_append] at hnd
      intro hm
      exact hnd.2.2 _ hm _ (by simp [GI.keyG]) rfl
    have hl : (imgI pre).length < 2048 := by rw [img_len]; simp at hlen; omega
    have hfold : ((pre ++ [GI.mk b i s v]).map GI.keyG).foldl nextK 0 = nextK ((pre.map GI.keyG).foldl nextK 0) (b, i, s) := by
      rw [List.map_append, List.foldl_append]
      rfl
    have himg : imgI (pre ++ [GI.mk b i s v]) = imgI pre ++ [giOf (b, i, s) (imgV v)] := by rw [imgI_app]; rfl
    rw [hfold, himg]
    have hgv := hg _ (List.mem_cons_self ..)
    have hrv := hr _ (List.mem_cons_self ..)
    have hbig : (imgI pre).length + cntI (imgI pre) + 1 + cntV (imgV v) ≤ (pre ++ GI.mk b i s v :: suf).length + cntI (imgI (pre ++ GI.mk b i s v :: suf)) := by
      rw [e, imgI_app, himg, cntI_app, cntI_app, img_len]
      simp only [List.length_append, List.length_cons, List.length_nil]
      show _ ≤ _ + (cntI (imgI pre) + (cntV (imgV v) + 0) + _)
      omega
    cases hgv with
    | leaf _ n t =>
      rw [leavesV, if_neg (by decide)]
      refine .cons _ _ _ _ _ (setG_new hkey hf hl) ?_ (.nil _)
      refine Nat.le_trans ?_ hbig
      rw [cntI_app, List.length_append]
      show _ + 1 + (_ + (cntV (leafG t) + 0)) ≤ _
      simp [leafG, cntV, cntI]
      omega
    | node _ n t l hd h0 hlen2 hnd2 hk2 hv2 =>
      have hrun := hrv n t l rfl
      rw [leavesV, if_pos rfl, imgV, if_pos rfl]
      refine (hrun.lift0 ?_ (leavesI_ne l) hkey hf hl _).mono ?_
      · have := leaves_some (GoodV.node _ n t l hd h0 hlen2 hnd2 hk2 hv2)
        rwa [leavesV, if_pos rfl] at this
      · have e9 : cntV (imgV (GV.mk 4 n t l)) = l.length + cntI (imgI l) := by rw [imgV, if_pos rfl, cntV, img_len l]
        omega
theorem run_good {d : Nat} {g : GV} (h : GoodV d g) : ∀ n t l, g = .mk 4 n t l → Run (l.length + cntI (imgI l)) (leavesI l) ([], 0) (imgI l, (l.map GI.keyG).foldl nextK 0) := by
  induction h with
  | leaf d n t => intro n' t' l' e; injection e with e1 _ _ _; exact absurd e1 (by decide)
  | node d n t l hd h0 hlen hnd hk hv ih =>
    intro n' t' l' e
    injection e with _ e2 e3 e4
    subst e2 e3 e4
    exact run_items l [] hlen hnd (fun it h => ⟨(hk it h).1, (hk it h).2.1⟩) hv ih
/-! ### names and texts -/
def nameL : List (List UInt8) → List UInt8
  | [] => []
  | h :: r => h ++ r.flatMap fun s => 91 :: (s ++ [93])
theorem flat_head (r : List (List UInt8)) : r.flatMap (fun s => 91 :: (s ++ [93])) = [] ∨ ∃ t, r.flatMap (fun s => 91 :: (s ++ [93])) = 91 :: t := by
  cases r with
  | nil => exact .inl rfl
  | cons s r => exact .inr ⟨_, rfl⟩
theorem name_parts {h : List UInt8} (r : List (List UInt8)) (hh : 91 ∉ h) : (nameL (h :: r)).takeWhile (· != 91) = h ∧ restL (nameL (h :: r)) = r.flatMap fun s => 91 :: (s ++ [93]) := by
  unfold restL
  rw [show nameL (h :: r) = h ++ r.flatMap (fun s => 91 :: (s ++ [93])) from rfl]
  rcases flat_head r with e | ⟨t, e⟩
  · rw [e, List.append_nil]
    exact takeWhile_all 91 h hh
  · rw [e]
    exact takeWhile_at 91 h t hh
theorem steps_flat : ∀ r : List (List UInt8), (∀ s ∈ r, 93 ∉ s) → stepsL (r.flatMap fun s => 91 :: (s ++ [93])) = r
  | [], _ => by rw [List.flatMap_nil, stepsL]
  | s :: r, h => by
    have hs := h s (List.mem_cons_self ..)
    rw [List.flatMap_cons, List.cons_append, List.append_assoc, stepsL, if_pos ⟨rfl, by simp⟩]
    have := takeWhile_at 93 s (r.flatMap fun s => 91 :: (s ++ [93])) hs
    rw [show s ++ ([93] ++ r.flatMap fun s => 91 :: (s ++ [93])) = s ++ 93 :: r.flatMap fun s => 91 :: (s ++ [93]) from rfl, this.1, this.2, List.drop_succ_cons, List.drop_zero, steps_flat r fun x hx => h x (List.mem_cons_of_mem _ hx)]
theorem bar_id : ∀ h : List UInt8, 32 ∉ h → 46 ∉ h → h.map barC = h
  | [], _, _ => rfl
  | c :: h, h1, h2 => by
    rw [List.map_cons, bar_id h (fun e => h1 (List.mem_cons_of_mem _ e)) (fun e => h2 (List.mem_cons_of_mem _ e)), barC, if_neg]
    rintro (rfl | rfl)
    · exact h1 (List.mem_cons_self ..)
    · exact h2 (List.mem_cons_self ..)
/-- A leaf that its name leads back to. -/
def LeafOK (p : Leaf) : Prop := ∃ h r, p.1 = h :: r ∧ h ≠ [] ∧ 91 ∉ h ∧ 32 ∉ h ∧ 46 ∉ h ∧ (∀ s ∈ r, s ≠ [] ∧ 93 ∉ s) ∧ r.length < 64
theorem putQ_leaf {p : Leaf} (hp : LeafOK p) {gs gs' : List GI} {nx nx' : Int} (h : putP p.1 p.2 gs nx = some (gs', nx')) (hc : gs'.length + cntI gs' ≤ 2048) : putQ (nameL p.1) p.2.data.toList (.mk 4 nx ⟨#[]⟩ gs) = .mk 4 nx' ⟨#[]⟩ gs' := by
  obtain ⟨hd, r, e, h0, h91, h32, h46, hr, hlen⟩ := hp
  rw [e] at h ⊢
  obtain ⟨h1, h2⟩ := name_parts r h91
  unfold putQ headL
  rw [h1, h2, bar_id hd h32 h46, steps_flat r fun s hs => (hr s hs).2, mkB_of, putV, if_neg, putO_eq _ r hd true _ _ h0 fun s hs => (hr s hs).1]
  · rw [show kidsG (.mk 4 nx ⟨#[]⟩ gs) = (gs, nx) from rfl]
    dsimp only
    rw [h]
    dsimp only
    rw [if_pos]
    rw [leftV_cnt _ _ (by rw [cntV]; omega), cntV]
    omega
  · rintro (e2 | e2)
    · exact mkB_ne h0 e2
    · rw [List.length_map] at e2
      omega
/-- A leaf as a query says it. -/
def pieceL (p : Leaf) : List UInt8 := encL (nameL p.1) ++ 61 :: encL p.2.data.toList
theorem piece_no (p : Leaf) : 38 ∉ pieceL p := by
  unfold pieceL
  rw [List.mem_append, List.mem_cons]
  rintro (h | h | h)
  · exact (encL_not _).1 h
  · exact absurd h (by decide)
  · exact (encL_not _).1 h
theorem piece_cut (p : Leaf) : cutL 61 (pieceL p) = (encL (nameL p.1), encL p.2.data.toList) := cutL_at 61 _ _ (encL_not _).2
def joinQ : List (List UInt8) → List UInt8
  | [] => []
  | [x] => x
  | x :: y :: r => x ++ 38 :: joinQ (y :: r)
theorem split_join : ∀ l : List (List UInt8), l ≠ [] → (∀ x ∈ l, 38 ∉ x) → splitL 38 (joinQ l) = l
  | [], h, _ => absurd rfl h
  | [x], _, h => splitL_one 38 x (h x (List.mem_cons_self ..))
  | x :: y :: r, _, h => by
    rw [joinQ, splitL_app, splitL_one 38 x (h x (List.mem_cons_self ..)), split_join (y :: r) (by simp) fun z hz => h z (List.mem_cons_of_mem _ hz)]
    rfl
theorem query_run {N : Nat} (hN : N ≤ 2048) {l : List Leaf} {s s2 : List GI × Int} (h : Run N l s s2) : ∀ k : Nat, k + l.length ≤ 1000 → (∀ p ∈ l, LeafOK p) → queryF (l.map pieceL) k (.mk 4 s.2 ⟨#[]⟩ s.1) = .mk 4 s2.2 ⟨#[]⟩ s2.1 := by
  induction h with
  | nil s => intro k _ _; rfl
  | cons p r s s1 s2 h hc hr ih =>
    intro k hk hp
    rw [List.length_cons] at hk
    rw [List.map_cons, queryF_take, piece_cut, decF_enc, decF_enc, putQ_leaf (hp p (List.mem_cons_self ..)) h (by omega)]
    · exact ih (k + 1) (by omega) fun q hq => hp q (List.mem_cons_of_mem _ hq)
    · rintro (e | e)
      · unfold pieceL at e
        simp at e
      · omega
/-- The leaves below a list, seen from depth d on. -/
theorem leaves_ok {d : Nat} {g : GV} (h : GoodV d g) : ∀ p ∈ leavesV g, (∀ s ∈ p.1, s ≠ []) ∧ d + p.1.length ≤ 64 ∧ (0 < d → ∀ s ∈ p.1, 93 ∉ s) ∧ (d = 0 → ∀ s ∈ p.1.drop 1, 93 ∉ s) ∧ (d = 0 → ∀ s ∈ p.1.take 1, 91 ∉ s ∧ 32 ∉ s ∧ 46 ∉ s) ∨ 63 < d := by
  induction h with
  | leaf d n t =>
    intro p hp
    rw [leavesV, if_neg (by decide), List.mem_singleton] at hp
    subst hp
    by_cases hd : 63 < d
    · exact .inr hd
    · exact .inl ⟨by simp, by simp; omega, by simp, by simp, by simp⟩
  | node d n t l hd h0 hlen hnd hk hv ih =>
    intro p hp
    rw [leavesV, if_pos rfl] at hp
    have key : ∀ l' : List GI, (∀ it ∈ l', it ∈ l) → p ∈ leavesI l' → ∃ it ∈ l, ∃ q ∈ leavesV it.val, p = under (keyL (GI.keyG it)) q := by
      intro l'
      induction l' with
      | nil => intro _ h; simp [leavesI] at h
      | cons it r ihr =>
        intro hs hp
        cases it with
        | mk b i s v =>
          rw [leavesI, List.mem_append] at hp
          rcases hp with hp | hp
          · obtain ⟨q, hq, rfl⟩ := List.mem_map.1 hp
            exact ⟨_, hs _ (List.mem_cons_self ..), q, hq, rfl⟩
          · exact ihr (fun it hit => hs it (List.mem_cons_of_mem _ hit)) hp
    obtain ⟨it, hit, q, hq, rfl⟩ := key l (fun _ h => h) hp
    obtain ⟨_, _, k0, k1, k2⟩ := hk it hit
    rcases ih it hit q hq with ⟨a1, a2, a3, a4, a5⟩ | a
    · refine .inl ⟨?_, ?_, ?_, ?_, ?_⟩
      · intro s hs
        rcases List.mem_cons.1 hs with rfl | hs
        · exact k0
        · exact a1 s hs
      · show d + (q.1.length + 1) ≤ 64
        omega
      · intro h s hs
        rcases List.mem_cons.1 hs with rfl | hs
        · exact k1 h
        · exact a3 (by omega) s hs
      · intro h s hs
        exact a3 (by omega) s hs
      · intro h s hs
        have : s = keyL (GI.keyG it) := by simpa [under] using hs
        subst this
        exact k2 h
    · omega
theorem leaf_ok {g : GV} (h : GoodV 0 g) (p : Leaf) (hp : p ∈ leavesV g) (hne : p.1 ≠ []) : LeafOK p := by
  rcases leaves_ok h p hp with ⟨a1, a2, _, a4, a5⟩ | a
  · obtain ⟨l, t⟩ := p
    cases l with
    | nil => exact absurd rfl hne
    | cons x l =>
      obtain ⟨b1, b2, b3⟩ := a5 rfl x (by simp)
      refine ⟨x, l, rfl, a1 x (List.mem_cons_self ..), b1, b2, b3, fun s hs => ⟨a1 s (List.mem_cons_of_mem _ hs), a4 rfl s (by simpa using hs)⟩, ?_⟩
      simp at a2
      omega
  · omega
theorem alike_img {d : Nat} {g : GV} (h : GoodV d g) : alikeV (imgV g) g = true := by
  induction h with
  | leaf d n t => simp [imgV, alikeV, sameP]
  | node d n t l hd h0 hlen hnd hk hv ih =>
    rw [imgV, if_pos rfl, alikeV, if_neg (by simp), if_neg (by omega), if_neg (by omega), if_neg (by simp), if_neg (by rw [img_len]; simp)]
    clear hlen hnd hk hv h0
    induction l with
    | nil => simp [imgI, alikeL]
    | cons it r ihr =>
      have hv1 := ih it (List.mem_cons_self ..)
      cases it with
      | mk b i s v =>
        have hv1 : alikeV (imgV v) v = true := hv1
        rw [imgI, alikeL, if_neg (by simp), if_pos hv1]
        exact ihr fun x hx => ih x (List.mem_cons_of_mem _ hx)
/-- A list of texts comes back as it was written. -/
theorem back {n : Int} {t : ByteArray} {l : List GI} (h : GoodV 0 (.mk 4 n t l)) (hc : l.length + cntI l ≤ 1000) : queryG (joinQ ((leavesI l).map pieceL)) = imgV (.mk 4 n t l) ∧ fewB (imgV (.mk 4 n t l)) = true ∧ fewB (.mk 4 n t l) = true ∧ alikeV (imgV (.mk 4 n t l)) (.mk 4 n t l) = true := by
  have h0 := leaves_some h
  rw [leavesV, if_pos rfl] at h0
  have hci := cnt_imgI l
  have hli := leavesI_len l
  refine ⟨?_, ?_, ?_, alike_img h⟩
  · unfold queryG
    rw [split_join _ (by simpa using h0) (fun x hx => by
      obtain ⟨p, _, rfl⟩ := List.mem_map.1 hx
      exact piece_no p)]
    rw [query_run (by omega) (run_good h n t l rfl) 0 (by omega) (fun p hp => leaf_ok h p (by rw [leavesV, if_pos rfl]; exact hp) (leavesI_ne l p hp)), imgV, if_pos rfl]
  · have h1 := cnt_img (.mk 4 n t l)
    have h2 : cntV (.mk 4 n t l) = l.length + cntI l := by rw [cntV]
    exact few_yes (by rw [leftV_cnt _ _ (by omega)]; omega)
  · have h2 : cntV (.mk 4 n t l) = l.length + cntI l := by rw [cntV]
    exact few_yes (by rw [leftV_cnt _ _ (by omega)]; omega)
end Ub
end Go.Proofs.YtgpemnmopogppaaGreatDoor
