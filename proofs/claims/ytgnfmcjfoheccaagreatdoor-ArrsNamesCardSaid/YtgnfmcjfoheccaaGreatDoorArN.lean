/- arrs.Names: the table of functions as a map of names. -/
import Derived.Test.YtgnfmcjfoheccaaGreatDoorArB
import Derived.Maps.RangeWalk
import Derived.Maps.OwnSet
import Derived.Maps.Own
namespace Go.Proofs.YtgnfmcjfoheccaaGreatDoor
open Go Go.Ev Go.RowKit
open Go.Maps (Keyed)
set_option maxRecDepth 1000000

noncomputable def bornOk : List (V × V × Nat) → Nat → Bool
  | [], _ => true
  | (_, _, b) :: es, i => cond (Nat.beq b i) (bornOk es (Nat.succ i)) false
noncomputable def mapOk : R → Bool
  | some (.map 0, ⟨_, blks⟩) => match blks.get 0 with
    | some (.map es clock) => keysOk names es && bornOk es 0 && Nat.beq clock 47 && Nat.beq es.length 47
    | _ => false
  | _ => false
theorem map_ok : mapOk fnRun = true := by kernel_rfl
theorem bornOk_get : ∀ (es : List (V × V × Nat)) (i : Nat), bornOk es i = true → ∀ j k v b, es[j]? = some (k, v, b) → b = i + j := by
  intro es
  induction es with
  | nil => intro i _ j k v b h; simp at h
  | cons e es ih =>
    obtain ⟨k0, v0, b0⟩ := e
    intro i h j k v b hj
    obtain ⟨h1, h2⟩ := condT (show cond (Nat.beq b0 i) (bornOk es (Nat.succ i)) false = true from h)
    cases j with
    | zero => simp at hj; obtain ⟨rfl, rfl, rfl⟩ := hj; exact Nat.eq_of_beq_eq_true h1
    | succ j => simp at hj; have := ih (i + 1) h2 j k v b hj; omega
/-- A map with the functions' names as its keys. -/
def FnMap (w : World) (b : Nat) : Prop := ∃ es : Array MapEntry, w.heap[b]? = some (.map es 47) ∧ es.size = 47 ∧ es.toList.map (·.key) = names.map (fun nm => .string (mkS nm)) ∧ ∀ (i : Nat) e, es[i]? = some e → e.born = i
theorem fn_map {m : Int} (w : World) (hL : LibS m w) : Calls Tryz.prog 14 #[] w fun e w' => ∃ b, e = .returned (.map (some b)) ∧ FnMap w' b ∧ Below w.heap.size w w' := by
  letI : Base := ⟨w⟩
  have h := map_ok
  cases hc : fnRun with
  | none => rw [hc] at h; cases h
  | some p =>
    obtain ⟨v, nx, blks⟩ := p
    rw [hc] at h
    unfold mapOk at h
    split at h
    · rename_i nx' blks' heq
      cases heq
      split at h
      · rename_i es clock hb
        simp only [Bool.and_eq_true] at h
        obtain ⟨⟨⟨h1, h2⟩, h3⟩, h4⟩ := h
        obtain rfl := Nat.eq_of_beq_eq_true h3
        have h4' := Nat.eq_of_beq_eq_true h4
        refine (call_rep (envB_ok hL) hc #[] w (Below.refl _ _) .nil).mono ?_
        rintro e w' ⟨φ, x, rfl, hv, hR, hbl⟩
        cases hv with
        | map _ b κ hφ =>
        obtain ⟨es', hm, he⟩ := hR.maps 0 b κ es 47 hφ hb
        refine ⟨b, rfl, ⟨es', hm, by rw [he.1, h4'], keys_of names es es'.toList (by simpa using he.1) (fun i k v b e p q => (he.2 i k v b e p (by simpa using q)).1) h1, fun i e hi => ?_⟩, hbl⟩
        have hlt : i < es'.size := (Array.getElem?_eq_some_iff.1 hi).1
        obtain ⟨⟨k, v, bb⟩, hk⟩ : ∃ q, es[i]? = some q := ⟨es[i]'(by have := he.1; omega), List.getElem?_eq_getElem _⟩
        have := (he.2 i k v bb e hk hi).2.2
        have := bornOk_get es 0 h2 i k v bb hk
        omega
      · cases h
    · cases h

/-- Elements that are not looked at. -/
def unitR (_ : Value) : Option (DataW Unit × List MemPlace) := some (.lit (.bool true), [])
theorem mkS_inj {a b : List Nat} (ha : ∀ c ∈ a, c < 256) (hb : ∀ c ∈ b, c < 256) (h : mkS a = mkS b) : a = b := by
  have h1 : (a.map UInt8.ofNat) = (b.map UInt8.ofNat) := by
    have := congrArg (fun s : ByteArray => s.data.toList) h
    simpa [mkS] using this
  have h2 := congrArg (List.map UInt8.toNat) h1
  rw [List.map_map, List.map_map] at h2
  have e : ∀ l : List Nat, (∀ c ∈ l, c < 256) → l.map (UInt8.toNat ∘ UInt8.ofNat) = l := by
    intro l hl
    conv => rhs; rw [← List.map_id l]
    exact List.map_congr_left fun c hc => by have := hl c hc; simp; omega
  rw [e a ha, e b hb] at h2
  exact h2
theorem names_nodup : names.Nodup := by decide +kernel
theorem keys_nodup : (names.map fun nm => Value.string (mkS nm)).Nodup := by
  have : ∀ l : List (List Nat), (∀ nm ∈ l, ∀ c ∈ nm, c < 256) → l.Nodup → (l.map fun nm => Value.string (mkS nm)).Nodup := by
    intro l hl hn
    induction l with
    | nil => simp
    | cons a l ih =>
      rw [List.map_cons, List.nodup_cons]
      obtain ⟨h1, h2⟩ := List.nodup_cons.1 hn
      refine ⟨fun hm => ?_, ih (fun nm h => hl nm (by simp [h])) h2⟩
      obtain ⟨b, hb, e⟩ := List.mem_map.1 hm
      have e' : mkS b = mkS a := by injection e
      have := mkS_inj (hl b (by simp [hb])) (hl a (by simp)) e'
      exact h1 (this ▸ hb)
  exact this names names_256 names_nodup
theorem keyed : Keyed Tryz.prog 9 := Go.Maps.string_keyed Tryz.underlying9
def key (p : ByteArray) : Lit := .string p.data.toList
theorem keyOf_key (p : ByteArray) (h : p.size ≤ maxLen) : keyOf Tryz.prog 9 (.string p) = some (key p) := Go.WideMaps.keyOf_string_mk Tryz.underlying9 h
theorem names_short : ∀ nm ∈ names, nm.length ≤ 24 := by decide
theorem mkS_len (l : List Nat) : (mkS l).size = l.length := by show ((l.map UInt8.ofNat).toArray).size = _; simp
theorem key_inj {a b : ByteArray} (h : (key a).sameKey (key b) = true) : a = b := by
  unfold key Lit.sameKey at h
  simp at h
  apply ByteArray.ext
  exact h
theorem fn_owns {w : World} {b : Nat} (h : FnMap w b) : ∃ D : DataW Unit, w.ownsMap Tryz.prog 9 unitR b 47 D ∧ (∀ s : ByteArray, Go.Maps.has D (key s) = true ↔ ∃ nm ∈ names, s = mkS nm) ∧ Go.Maps.size D = 47 := by
  obtain ⟨es, hb, hsz, hkeys, hborn⟩ := h
  have hkey : ∀ x ∈ es.toList, ∃ nm ∈ names, x.key = .string (mkS nm) := fun x hx => by
    have : x.key ∈ es.toList.map (·.key) := List.mem_map.2 ⟨x, hx, rfl⟩
    rw [hkeys] at this
    obtain ⟨nm, h1, h2⟩ := List.mem_map.1 this
    exact ⟨nm, h1, h2.symm⟩
  have hread : ∀ x ∈ es.toList, ∃ nm ∈ names, x.key = .string (mkS nm) ∧ Go.WideElems.rd Tryz.prog 9 unitR x = some (key (mkS nm), .lit (.bool true)) := fun x hx => by
    obtain ⟨nm, h1, h2⟩ := hkey x hx
    refine ⟨nm, h1, h2, ?_⟩
    unfold Go.WideElems.rd
    rw [h2, keyOf_key _ (by rw [mkS_len]; have := names_short nm h1; unfold maxLen; omega)]
    rfl
  have hbl : es.toList.map (·.born) = List.range 47 := by
    apply List.ext_getElem?
    intro i
    rw [List.getElem?_map]
    by_cases hi : i < 47
    · obtain ⟨e, he⟩ : ∃ e, es[i]? = some e := ⟨es[i]'(by omega), Array.getElem?_eq_getElem _⟩
      rw [Array.getElem?_toList, he]
      simp [hborn i e he, hi]
    · rw [Array.getElem?_toList, Array.getElem?_eq_none (by omega)]
      simp; omega
  have hfit : Go.WideElems.Fit Tryz.prog 9 unitR es 47 :=
    { size := by rw [hsz]; unfold maxLen; omega
      stamped := by
        refine ⟨fun x hx => ?_, ?_, ?_⟩
        · have : x.born ∈ es.toList.map (·.born) := List.mem_map.2 ⟨x, hx, rfl⟩
          rw [hbl] at this
          simpa using this
        · rw [hbl]; exact List.nodup_range
        · rw [hkeys]; exact keys_nodup
      reads := fun x hx => by obtain ⟨nm, _, _, h3⟩ := hread x hx; exact ⟨_, h3⟩ }
  refine ⟨_, ⟨es, 47, hb, hfit, by omega, rfl⟩, fun s => ?_, ?_⟩
  · rw [Go.Maps.has_eq, List.any_eq_true]
    have hmem : ∀ (L : List (Lit × DataW Unit)) (y : Lit × DataW Unit), y ∈ L.foldr DataW.insert [] ↔ y ∈ L := by
      intro L
      induction L with
      | nil => intro y; simp
      | cons a L ih => intro y; rw [List.foldr_cons, Go.ChangeMaps.mem_insert_iff, ih]; simp
    constructor
    · rintro ⟨y, hy, hs⟩
      rw [hmem] at hy
      obtain ⟨x, hx, rfl⟩ := List.mem_map.1 hy
      obtain ⟨nm, h1, _, h3⟩ := hread x hx
      rw [Go.WideElems.rg_of h3] at hs
      exact ⟨nm, h1, (key_inj hs).symm⟩
    · rintro ⟨nm, h1, rfl⟩
      have : Value.string (mkS nm) ∈ es.toList.map (·.key) := by rw [hkeys]; exact List.mem_map.2 ⟨nm, h1, rfl⟩
      obtain ⟨x, hx, hk⟩ := List.mem_map.1 this
      obtain ⟨nm', h1', h2', h3'⟩ := hread x hx
      have e : mkS nm' = mkS nm := by rw [h2'] at hk; injection hk
      refine ⟨_, (hmem _ _).2 (List.mem_map.2 ⟨x, hx, rfl⟩), ?_⟩
      rw [Go.WideElems.rg_of h3', e]
      unfold key Lit.sameKey
      simp
  · rw [Go.Maps.size_eq]
    have hlen : ∀ (L : List (Lit × DataW Unit)), (L.foldr DataW.insert []).length = L.length := by
      intro L
      induction L with
      | nil => rfl
      | cons a L ih => rw [List.foldr_cons, DataW.length_insert, ih]; rfl
    rw [hlen]
    simp [hsz]
end Go.Proofs.YtgnfmcjfoheccaaGreatDoor
