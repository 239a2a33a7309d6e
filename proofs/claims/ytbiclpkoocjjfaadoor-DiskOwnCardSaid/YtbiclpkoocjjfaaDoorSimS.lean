/- Plain laws: a disk's two maps and the reference's list of entries tell the same, call after call. -/
import Derived.Test.YtbiclpkoocjjfaaDoorDiskT
import Derived.Test.YtbiclpkoocjjfaaDoorDiskP
namespace Go.Proofs.YtbiclpkoocjjfaaDoor
open Go.Maps

def zeroE (p : ByteArray) : Ent := ⟨p, ⟨#[]⟩, 0, 0⟩
/-- What is known of a path. -/
def getE : List Ent → ByteArray → Ent
  | [], p => zeroE p
  | x :: L, p => if x.path = p then x else getE L p
/-- A path's entry, told anew. -/
def updE : List Ent → ByteArray → Ent → List Ent
  | [], _, e => [e]
  | x :: L, p, e => if x.path = p then e :: L else x :: updE L p e
theorem toList_iff (a b : ByteArray) : (a.toList == b.toList) = decide (a = b) := by
  by_cases h : a = b
  · rw [h]; simp
  · rw [decide_eq_false h, beq_eq_false_iff_ne]
    intro e
    apply h
    rw [ByteArray.toList_eq, ByteArray.toList_eq] at e
    exact ByteArray.ext (Array.toList_inj.1 e)
theorem findE_cons (x : Ent) (L : List Ent) (p : ByteArray) : findE (x :: L) p = if x.path = p then 0 else findE L p + 1 := by
  unfold findE
  rw [List.findIdx_cons, toList_iff]
  by_cases h : x.path = p <;> simp [h]
theorem atL_cons (x : Ent) (L : List Ent) (p : ByteArray) : atL (x :: L) p = if x.path = p then x :: L else x :: atL L p := by
  unfold atL
  rw [findE_cons]
  by_cases h : x.path = p
  · rw [if_pos h, if_pos h, if_pos (by simp)]
  · rw [if_neg h, if_neg h]
    by_cases h2 : findE L p < L.length
    · rw [if_pos h2, if_pos (by simp; omega)]
    · rw [if_neg h2, if_neg (by simp; omega)]; rfl
theorem entOf_eq : ∀ (L : List Ent) (p : ByteArray), entOf L p = getE L p
  | [], p => rfl
  | x :: L, p => by
    have ih := entOf_eq L p
    unfold entOf at *
    rw [atL_cons, findE_cons, getE]
    by_cases h : x.path = p
    · rw [if_pos h, if_pos h, if_pos h]; rfl
    · rw [if_neg h, if_neg h, if_neg h, ← ih]; rfl
theorem set_upd : ∀ (L : List Ent) (p : ByteArray) (e : Ent), (atL L p).set (findE L p) e = updE L p e
  | [], p, e => rfl
  | x :: L, p, e => by
    rw [atL_cons, findE_cons, updE]
    by_cases h : x.path = p
    · rw [if_pos h, if_pos h, if_pos h]; rfl
    · rw [if_neg h, if_neg h, if_neg h, ← set_upd L p e]; rfl
theorem atL_upd : ∀ (L : List Ent) (p : ByteArray), atL L p = updE L p (getE L p)
  | [], p => rfl
  | x :: L, p => by
    rw [atL_cons, updE, getE]
    by_cases h : x.path = p
    · rw [if_pos h, if_pos h, if_pos h]
    · rw [if_neg h, if_neg h, if_neg h, ← atL_upd L p]
theorem getE_path : ∀ (L : List Ent) (p : ByteArray), (getE L p).path = p
  | [], _ => rfl
  | x :: L, p => by
    rw [getE]
    split
    · assumption
    · exact getE_path L p
theorem getE_upd : ∀ (L : List Ent) (p q : ByteArray) (e : Ent), e.path = p → getE (updE L p e) q = if q = p then e else getE L q
  | [], p, q, e, he => by
    rw [updE]
    show (if e.path = q then e else zeroE q) = if q = p then e else zeroE q
    rw [he]
    by_cases h : p = q
    · rw [if_pos h, if_pos h.symm]
    · rw [if_neg h, if_neg (fun e => h e.symm)]
  | x :: L, p, q, e, he => by
    rw [updE]
    by_cases h : x.path = p
    · rw [if_pos h, getE, getE, he, h]
      by_cases h2 : p = q
      · rw [if_pos h2, if_pos h2.symm]
      · rw [if_neg h2, if_neg h2, if_neg (fun e => h2 e.symm)]
    · rw [if_neg h, getE, getE, getE_upd L p q e he]
      by_cases h2 : x.path = q
      · rw [if_pos h2, if_pos h2, if_neg (fun e => h (h2.trans e))]
      · rw [if_neg h2, if_neg h2]
theorem mem_upd : ∀ (L : List Ent) (p : ByteArray) (e x : Ent), x ∈ updE L p e → x = e ∨ x ∈ L
  | [], p, e, x, h => .inl (List.mem_singleton.1 h)
  | y :: L, p, e, x, h => by
    rw [updE] at h
    split at h
    · rcases List.mem_cons.1 h with h | h
      · exact .inl h
      · exact .inr (List.mem_cons_of_mem _ h)
    · rcases List.mem_cons.1 h with h | h
      · exact .inr (h ▸ List.mem_cons_self)
      · exact (mem_upd L p e x h).imp id (List.mem_cons_of_mem _)
theorem nd_upd : ∀ (L : List Ent) (p : ByteArray) (e : Ent), e.path = p → L.Pairwise (fun a b => a.path ≠ b.path) → (updE L p e).Pairwise (fun a b => a.path ≠ b.path)
  | [], _, _, _, _ => by rw [updE]; exact List.pairwise_singleton _ _
  | x :: L, p, e, he, h => by
    obtain ⟨h1, h2⟩ := List.pairwise_cons.1 h
    rw [updE]
    split
    · rename_i hx
      refine List.pairwise_cons.2 ⟨fun y hy => ?_, h2⟩
      rw [he, ← hx]; exact h1 y hy
    · rename_i hx
      refine List.pairwise_cons.2 ⟨fun y hy => ?_, nd_upd L p e he h2⟩
      rcases mem_upd L p e y hy with rfl | hy
      · rw [he]; exact hx
      · exact h1 y hy
theorem many_cons (x : Ent) (L : List Ent) : manyL (x :: L) = manyL L + if 0 < x.stamp then 1 else 0 := by
  unfold manyL
  rw [List.filter_cons]
  by_cases h : 0 < x.stamp <;> simp [h]
theorem many_upd : ∀ (L : List Ent) (p : ByteArray) (e : Ent), manyL (updE L p e) + (if 0 < (getE L p).stamp then 1 else 0) = manyL L + if 0 < e.stamp then 1 else 0
  | [], p, e => by rw [updE, many_cons]; rfl
  | x :: L, p, e => by
    rw [updE, getE]
    by_cases h : x.path = p
    · rw [if_pos h, if_pos h, many_cons, many_cons]; omega
    · have := many_upd L p e
      rw [if_neg h, if_neg h, many_cons, many_cons]; omega
theorem mem_getE : ∀ (L : List Ent) (e : Ent), L.Pairwise (fun a b => a.path ≠ b.path) → e ∈ L → getE L e.path = e
  | x :: L, e, h, hm => by
    obtain ⟨h1, h2⟩ := List.pairwise_cons.1 h
    rw [getE]
    rcases List.mem_cons.1 hm with rfl | hm
    · rw [if_pos rfl]
    · rw [if_neg (h1 e hm)]; exact mem_getE L e h2 hm
theorem getE_mem : ∀ (L : List Ent) (p : ByteArray), getE L p = zeroE p ∨ getE L p ∈ L
  | [], _ => .inl rfl
  | x :: L, p => by
    rw [getE]
    split
    · exact .inr List.mem_cons_self
    · exact (getE_mem L p).imp id (List.mem_cons_of_mem _)

/-- The two tell the same. -/
structure Sim (F T : DataW Unit) (W R : Int) (L : List Ent) (W' R' : Int) : Prop where
  wr : W = W'
  rd : R = R'
  w0 : 0 ≤ W'
  nd : L.Pairwise (fun a b => a.path ≠ b.path)
  st : ∀ e ∈ L, 0 ≤ e.stamp
  tF : Tidy F
  has : ∀ p, Maps.has F (key p) = decide (0 < (getE L p).stamp)
  file : ∀ p, 0 < (getE L p).stamp → fileS F p = (getE L p).text ∧ fileN F p = (getE L p).stamp
  flt : ∀ p, faultC T p = (getE L p).faults
  size : Maps.size F = manyL L
section
variable {F T : DataW Unit} {W R : Int} {L : List Ent} {W' R' : Int}
theorem Sim.stamp0 (h : Sim F T W R L W' R') (p : ByteArray) : 0 ≤ (getE L p).stamp := by
  rcases getE_mem L p with e | e
  · rw [e]; exact Int.le_refl _
  · exact h.st _ e
theorem Sim.map (h : Sim F T W R L W' R') : IsMap F := by obtain ⟨es, rfl, _⟩ := h.tF; exact ⟨es, rfl⟩
theorem Sim.hasF (h : Sim F T W R L W' R') (p : ByteArray) : (Maps.has F (key p) = false ↔ (getE L p).stamp = 0) := by
  have := h.stamp0 p
  rw [h.has p]; simp; omega
theorem Sim.atL (h : Sim F T W R L W' R') (p : ByteArray) : Sim F T W R (atL L p) W' R' := by
  rw [atL_upd]
  have hp := getE_path L p
  have hg : ∀ q, getE (updE L p (getE L p)) q = getE L q := fun q => by
    rw [getE_upd _ _ _ _ hp]
    split
    · rename_i e; rw [e]
    · rfl
  have hm := many_upd L p (getE L p)
  exact ⟨h.wr, h.rd, h.w0, nd_upd _ _ _ hp h.nd, fun e he => by
    rcases mem_upd _ _ _ _ he with rfl | he
    · exact h.stamp0 p
    · exact h.st e he, h.tF, fun q => by rw [hg]; exact h.has q, fun q => by rw [hg]; exact h.file q, fun q => by rw [hg]; exact h.flt q, by rw [h.size]; omega⟩
theorem Sim.writeI (h : Sim F T W R L W' R') (p x : ByteArray) : writeI F p x = rwriteI L p x := by
  unfold Go.Proofs.YtbiclpkoocjjfaaDoor.writeI rwriteI
  rw [entOf_eq, ← (h.atL p).size]
  have := h.hasF p
  simp only [this]
theorem Sim.upd (h : Sim F T W R L W' R') (p : ByteArray) (e : Ent) (he : e.path = p) (h0 : 0 ≤ e.stamp) {F' T' : DataW Unit} {W2 R2 : Int} (hw : 0 ≤ W2) (ht : Tidy F') (hsz : Maps.size F' + (if Maps.has F (key p) = true then 1 else 0) = Maps.size F + if 0 < e.stamp then 1 else 0)
    (hh : Maps.has F' (key p) = decide (0 < e.stamp)) (hho : ∀ q, q ≠ p → Maps.has F' (key q) = Maps.has F (key q))
    (hf : 0 < e.stamp → fileS F' p = e.text ∧ fileN F' p = e.stamp) (hfo : ∀ q, q ≠ p → fileS F' q = fileS F q ∧ fileN F' q = fileN F q)
    (hc : faultC T' p = e.faults) (hco : ∀ q, q ≠ p → faultC T' q = faultC T q) : Sim F' T' W2 R2 (updE L p e) W2 R2 := by
  have hm := many_upd L p e
  have hp := h.has p
  refine ⟨rfl, rfl, hw, nd_upd _ _ _ he h.nd, fun x hx => ?_, ht, fun q => ?_, fun q hq => ?_, fun q => ?_, ?_⟩
  · rcases mem_upd _ _ _ _ hx with rfl | hx
    · exact h0
    · exact h.st x hx
  · rw [getE_upd _ _ _ _ he]
    by_cases hq : q = p
    · rw [if_pos hq, hq]; exact hh
    · rw [if_neg hq, hho q hq]; exact h.has q
  · rw [getE_upd _ _ _ _ he] at hq ⊢
    by_cases hqp : q = p
    · rw [if_pos hqp] at hq ⊢; rw [hqp]; exact hf hq
    · rw [if_neg hqp] at hq ⊢
      rw [(hfo q hqp).1, (hfo q hqp).2]; exact h.file q hq
  · rw [getE_upd _ _ _ _ he]
    by_cases hqp : q = p
    · rw [if_pos hqp, hqp]; exact hc
    · rw [if_neg hqp, hco q hqp]; exact h.flt q
  · have hs := h.size
    rw [hp] at hsz
    by_cases h1 : 0 < (getE L p).stamp
    · simp only [h1, decide_true, if_true] at hsz hm; omega
    · simp only [h1, decide_false, Bool.false_eq_true, if_false] at hsz hm; omega
theorem Sim.write (h : Sim F T W R L W' R') (p x : ByteArray) : Sim (writeF F p x W) T (writeW F p x W) R (rwriteL L p x W') (rwriteW L p x W') R' := by
  have hI := h.writeI p x
  obtain rfl := h.wr
  obtain rfl := h.rd
  unfold writeF writeW rwriteL rwriteW
  rw [hI]
  by_cases h0 : rwriteI L p x = 0
  · have hp : ¬ pathB p = false := fun e => by unfold rwriteI at h0; rw [if_pos e] at h0; cases h0
    have hx : ¬ 65536 < x.size := fun e => by unfold rwriteI at h0; rw [if_neg hp, if_pos e] at h0; cases h0
    rw [if_pos h0, if_pos h0, if_pos h0, if_neg hp, if_neg hx, set_upd, entOf_eq]
    have hw := h.w0
    refine h.upd p { getE L p with text := x, stamp := W + 1 } (getE_path L p) (show 0 ≤ W + 1 by omega) (by omega) (h.tF.put (isKey p) _) ?_ ?_ (fun q hq => hasF_put_other hq _) (fun _ => ⟨fileS_put_same h.map p x _, fileN_put_same h.map p x _⟩) (fun q hq => ⟨fileS_put_other hq _, fileN_put_other hq _⟩) (h.flt p) (fun q _ => rfl)
    · rw [size_put h.tF]
      simp only [show 0 < W + 1 from by omega, if_true]
      split <;> simp_all
    · rw [hasF_put_same h.map]
      simp only [show 0 < W + 1 from by omega, decide_true]
  · rw [if_neg h0, if_neg h0, if_neg h0]
    split
    · exact h
    · split
      · exact h
      · exact h.atL p
theorem Sim.removeI (h : Sim F T W R L W' R') (p : ByteArray) : removeI F p = rremoveI L p := by
  unfold Go.Proofs.YtbiclpkoocjjfaaDoor.removeI rremoveI
  rw [entOf_eq]
  have := h.hasF p
  simp only [this]
theorem Sim.remove (h : Sim F T W R L W' R') (p : ByteArray) : Sim (removeF F p) T W R (rremoveL L p) W' R' := by
  have hI := h.removeI p
  unfold removeF rremoveL
  rw [hI]
  unfold rremoveI
  rw [entOf_eq]
  by_cases hp : pathB p = false
  · simp only [hp, if_true]; exact h
  · by_cases hs : (getE L p).stamp = 0
    · rw [if_neg hp, if_pos hs, if_neg hp, if_pos hs, if_neg (by decide)]; exact h.atL p
    · rw [if_neg hp, if_neg hs, if_neg hp, if_neg hs, if_pos rfl]
      obtain rfl := h.wr
      obtain rfl := h.rd
      rw [set_upd]
      have hh : Maps.has F (key p) = true := by
        have := h.stamp0 p
        rw [h.has p]; simp; omega
      refine h.upd p { getE L p with text := ⟨#[]⟩, stamp := 0 } (getE_path L p) (Int.le_refl 0) h.w0 (h.tF.del _) ?_ ?_ (fun q hq => hasF_del_other hq) (fun hc => absurd hc (Int.lt_irrefl 0)) (fun q hq => ⟨fileS_del_other hq, fileN_del_other hq⟩) (h.flt p) (fun q _ => rfl)
      · have := size_del (k := key p) h.tF
        rw [hh] at this ⊢
        simpa using this
      · rw [has_del_same]; rfl
theorem Sim.fault (h : Sim F T W R L W' R') (hT : IsMap T) (p : ByteArray) (x : Int) : Sim F (faultT T p x) W R (rfaultL L p x) W' R' := by
  unfold faultT rfaultL
  split
  · obtain rfl := h.wr
    obtain rfl := h.rd
    rw [set_upd, entOf_eq]
    refine h.upd p { getE L p with faults := x } (getE_path L p) (h.stamp0 p) h.w0 h.tF ?_ (h.has p) (fun _ _ => rfl) (h.file p) (fun _ _ => ⟨rfl, rfl⟩) (faultC_put_same hT p x) (fun q hq => faultC_put_other hq _)
    rw [h.has p]
    show _ + _ = _ + (if 0 < (getE L p).stamp then 1 else 0)
    by_cases h1 : 0 < (getE L p).stamp <;> simp [h1]
  · exact h
theorem Sim.readI (h : Sim F T W R L W' R') (p : ByteArray) : readI F T p = rreadI L p := by
  unfold Go.Proofs.YtbiclpkoocjjfaaDoor.readI rreadI
  rw [entOf_eq, h.flt p]
  have := h.hasF p
  simp only [this]
theorem Sim.readS (h : Sim F T W R L W' R') (p : ByteArray) : readS F T p = rreadS L p := by
  unfold Go.Proofs.YtbiclpkoocjjfaaDoor.readS rreadS
  rw [h.readI]
  split
  · rename_i h0
    rw [entOf_eq]
    unfold rreadI at h0
    rw [entOf_eq] at h0
    have := h.stamp0 p
    refine (h.file p ?_).1
    split at h0
    · cases h0
    · split at h0
      · cases h0
      · split at h0
        · cases h0
        · omega
  · rfl
theorem Sim.readN (h : Sim F T W R L W' R') (p : ByteArray) : readN F T p = rreadN L p := by
  unfold Go.Proofs.YtbiclpkoocjjfaaDoor.readN rreadN
  rw [h.readI]
  split
  · rename_i h0
    rw [entOf_eq]
    unfold rreadI at h0
    rw [entOf_eq] at h0
    have := h.stamp0 p
    refine (h.file p ?_).2
    split at h0
    · cases h0
    · split at h0
      · cases h0
      · split at h0
        · cases h0
        · omega
  · rfl
theorem Sim.read (h : Sim F T W R L W' R') (hT : IsMap T) (p : ByteArray) : Sim F (readT F T p) W (readK p R) (rreadL L p) W' (readK p R') := by
  have hI := h.readI p
  have hf := h.flt p
  unfold readT rreadL
  rw [hI, hf]
  obtain rfl := h.wr
  obtain rfl := h.rd
  unfold rreadI
  rw [entOf_eq]
  have hk : ∀ {T' : DataW Unit} {L' : List Ent}, Sim F T' W R L' W R → Sim F T' W (readK p R) L' W (readK p R) := fun h => ⟨rfl, rfl, h.w0, h.nd, h.st, h.tF, h.has, h.file, h.flt, h.size⟩
  by_cases hp : pathB p = false
  · rw [if_pos hp, if_pos hp, if_neg (by decide)]; exact hk h
  · by_cases h1 : 0 < (getE L p).faults
    · rw [if_neg hp, if_pos h1, if_neg hp, if_pos h1, if_pos rfl, set_upd]
      refine hk (h.upd p { getE L p with faults := (getE L p).faults - 1 } (getE_path L p) (h.stamp0 p) h.w0 h.tF ?_ (h.has p) (fun _ _ => rfl) (h.file p) (fun _ _ => ⟨rfl, rfl⟩) (faultC_put_same hT p _) (fun q hq => faultC_put_other hq _))
      rw [h.has p]
      show _ + _ = _ + (if 0 < (getE L p).stamp then 1 else 0)
      by_cases h1 : 0 < (getE L p).stamp <;> simp [h1]
    · by_cases h2 : (getE L p).stamp = 0
      · rw [if_neg hp, if_neg h1, if_pos h2, if_neg hp, if_neg h1, if_neg (by decide)]; exact hk (h.atL p)
      · rw [if_neg hp, if_neg h1, if_neg h2, if_neg hp, if_neg h1, if_neg (by decide)]; exact hk (h.atL p)
end
end Go.Proofs.YtbiclpkoocjjfaaDoor
