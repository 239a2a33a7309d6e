/- url: rows of bytes of the call's own: plain laws. -/
import Derived.Test.YtgpemnmopogppaaGreatDoorZUrC
import Derived.Test.YtgpemnmopogppaaGreatDoorZAppsQ
import Derived.Laws.IdiomStrings
import Derived.Test.YtgpemnmopogppaaGreatDoorZUtLQ
import Derived.Test.YtgpemnmopogppaaGreatDoorZShM
namespace Go.Proofs.YtgpemnmopogppaaGreatDoor
open Go Go.RowKit
namespace Url
theorem u8_info : (Tryz.prog.info? 5).map (fun i => (i.zero, i.size, i.bytes)) = some (some (.int .u8 0), 1, 1) := by kernel_rfl
end Url
end Go.Proofs.YtgpemnmopogppaaGreatDoor
/- url: decoding by places: plain laws. -/
namespace Go.Proofs.YtgpemnmopogppaaGreatDoor
open Go Go.RowKit
namespace Url
theorem decL_fuel : ∀ (n : Nat) (l : List UInt8), l.length ≤ n → decL n l = decL l.length l := by
  intro n
  induction n using Nat.strongRecOn with
  | ind n ih =>
  intro l hl
  cases l with
  | nil => cases n <;> rfl
  | cons c l =>
    simp only [List.length_cons] at hl ⊢
    obtain ⟨n, rfl⟩ : ∃ k, n = k + 1 := ⟨n - 1, by omega⟩
    simp only [decL]
    have e1 : decL n l = decL l.length l := ih n (by omega) l (by omega)
    have e2 : decL n (l.drop 2) = decL l.length (l.drop 2) := by
      have hd : (l.drop 2).length ≤ l.length := by rw [List.length_drop]; omega
      rw [ih n (by omega) (l.drop 2) (by omega), ← ih l.length (by omega) (l.drop 2) hd]
    rw [e1, e2]
/-- A text decoded. -/
def decF (l : List UInt8) : List UInt8 := decL l.length l
theorem decF_nil : decF [] = [] := rfl
theorem decF_cons (c : UInt8) (l : List UInt8) : decF (c :: l) = if c == 43 then 32 :: decF l else if c == 37 then match hex2 l with
      | some v => UInt8.ofNat v :: decF (l.drop 2)
      | none => c :: decF l
    else c :: decF l := by
  unfold decF
  rw [List.length_cons]
  simp only [decL]
  have e2 : decL l.length (l.drop 2) = decL (l.drop 2).length (l.drop 2) := decL_fuel _ _ (by rw [List.length_drop]; omega)
  rw [e2]
  rfl
theorem decF_enc (l : List UInt8) : decF (encL l) = l := by
  unfold decF
  rw [← decL_fuel (3 * l.length) (encL l) (encL_len l)]
  exact dec_enc l _ (Nat.le_refl _)
theorem decF_len : ∀ (n : Nat) (l : List UInt8), l.length ≤ n → (decF l).length ≤ l.length := by
  intro n
  induction n with
  | zero =>
    intro l h
    obtain rfl := List.eq_nil_of_length_eq_zero (by omega : l.length = 0)
    rw [decF_nil]
    exact Nat.le_refl _
  | succ n ih =>
    intro l h
    cases l with
    | nil => rw [decF_nil]; exact Nat.le_refl _
    | cons c l =>
      simp only [List.length_cons] at h
      have h1 := ih l (by omega)
      have h2 := ih (l.drop 2) (by rw [List.length_drop]; omega)
      rw [List.length_drop] at h2
      rw [decF_cons]
      repeat' split
      all_goals simp only [List.length_cons]
      all_goals omega
/-- The rest of a text from a place on, decoded. -/
def rest (s : ByteArray) (j : Nat) : List UInt8 := decF (s.data.toList.drop j)
theorem drop_at (s : ByteArray) (j : Nat) (h : j < s.size) : s.data.toList.drop j = s[j] :: s.data.toList.drop (j + 1) := by
  have hj : j < s.data.toList.length := by simpa using h
  rw [List.drop_eq_getElem_cons hj]
  rfl
theorem hx_some {c : UInt8} (h : 0 ≤ hx c) : hexV c = some (hx c).toNat := by
  unfold hx at *
  cases e : hexV c with
  | none => rw [e] at h; simp only at h; omega
  | some v => simp
theorem hx_none {c : UInt8} (h : hx c < 0) : hexV c = none := by
  unfold hx at *
  cases e : hexV c with
  | none => rfl
  | some v => rw [e] at h; simp only at h; omega
theorem rest_plus (s : ByteArray) (j : Nat) (h : j < s.size) (hc : (s[j].toNat : Int) = 43) : rest s j = 32 :: rest s (j + 1) := by
  unfold rest
  have e : s[j] = 43 := by rw [← UInt8.toNat_inj]; exact Int.ofNat_inj.1 hc
  rw [drop_at s j h, decF_cons, e]
  rfl
theorem rest_other (s : ByteArray) (j : Nat) (h : j < s.size) (h1 : ¬ (s[j].toNat : Int) = 43) (h2 : ¬ (s[j].toNat : Int) = 37) : rest s j = s[j] :: rest s (j + 1) := by
  unfold rest
  have e1 : (s[j] == 43) = false := by
    simp only [beq_eq_false_iff_ne, ne_eq]
    intro e
    rw [e] at h1
    exact h1 rfl
  have e2 : (s[j] == 37) = false := by
    simp only [beq_eq_false_iff_ne, ne_eq]
    intro e
    rw [e] at h2
    exact h2 rfl
  rw [drop_at s j h, decF_cons, e1, e2]
  rfl
theorem rest_hex (s : ByteArray) (j : Nat) (h : j < s.size) (hc : (s[j].toNat : Int) = 37) (h2 : j + 2 < s.size) (ha : 0 ≤ hx s[j + 1]) (hb : 0 ≤ hx s[j + 2]) : rest s j = UInt8.ofNat (16 * (hx s[j + 1]).toNat + (hx s[j + 2]).toNat) :: rest s (j + 3) := by
  unfold rest
  have e : s[j] = 37 := by rw [← UInt8.toNat_inj]; exact Int.ofNat_inj.1 hc
  rw [drop_at s j h, decF_cons, e, drop_at s (j + 1) (by omega), drop_at s (j + 2) h2]
  have eh : hex2 (s[j + 1] :: s[j + 2] :: s.data.toList.drop (j + 2 + 1)) = some (16 * (hx s[j + 1]).toNat + (hx s[j + 2]).toNat) := by
    simp only [hex2, hx_some ha, hx_some hb]
  rw [eh]
  rfl
theorem rest_no (s : ByteArray) (j : Nat) (h : j < s.size) (hc : (s[j].toNat : Int) = 37) (hn : hxAt s (j + 1) < 0 ∨ hxAt s (j + 2) < 0) : rest s j = s[j] :: rest s (j + 1) := by
  unfold rest
  have e : s[j] = 37 := by rw [← UInt8.toNat_inj]; exact Int.ofNat_inj.1 hc
  rw [drop_at s j h, decF_cons, e]
  have eh : hex2 (s.data.toList.drop (j + 1)) = none := by
    by_cases h1 : j + 1 < s.size
    · rw [drop_at s (j + 1) h1]
      by_cases h2 : j + 2 < s.size
      · rw [drop_at s (j + 2) h2]
        unfold hxAt at hn
        rw [dif_pos h1, dif_pos h2] at hn
        simp only [hex2]
        rcases hn with hn | hn
        · rw [hx_none hn]
        · rw [hx_none hn]
          cases hexV s[j + 1] <;> rfl
      · rw [List.drop_eq_nil_of_le (by simp; omega)]
        rfl
    · rw [List.drop_eq_nil_of_le (by simp; omega)]
      rfl
  rw [eh]
  rfl
theorem rest_end (s : ByteArray) : rest s s.size = [] := by
  unfold rest
  rw [List.drop_eq_nil_of_le (by simp)]
  rfl
theorem hexI_le : ∀ c : Fin 256, hexI (c.val : Int) < 16 ∧ -1 ≤ hexI (c.val : Int) := by decide +kernel
theorem hx_lt (c : UInt8) : hx c < 16 ∧ -1 ≤ hx c := by rw [hx_eq]; exact hexI_le ⟨c.toNat, c.toNat_lt⟩
theorem or_fin : ∀ a b : Fin 16, bits BinOp.or .i64 ((a.val : Int) * 16) (b.val : Int) = 16 * (a.val : Int) + (b.val : Int) := by decide +kernel
theorem or_nib (a b : Nat) (ha : a < 16) (hb : b < 16) : bits BinOp.or .i64 ((a : Int) * 16) (b : Int) = 16 * (a : Int) + (b : Int) := or_fin ⟨a, ha⟩ ⟨b, hb⟩
theorem hexy_any (y : Int) (h0 : 0 ≤ y) (h1 : y < 256) (w : World) : Calls Tryz.prog 69 #[.int .u8 y] w fun e w' => e = .returned (.int .i64 (hexI y)) ∧ w = w' := by
  have e : ((UInt8.ofNat y.toNat).toNat : Int) = y := by rw [UInt8.toNat_ofNat']; omega
  have := hex_any (UInt8.ofNat y.toNat) w
  rw [hx_eq, e] at this
  exact this
end Url
end Go.Proofs.YtgpemnmopogppaaGreatDoor
/- url: what a query says: plain functions; what stands behind the last pair turns one thing at most: the plain law. -/
namespace Go.Proofs.YtgpemnmopogppaaGreatDoor
open Go Go.RowKit
namespace Ut
open Go.Proofs.YtgpemnmopogppaaGreatDoor.Nm (normG keyV norm_any)
open Go.Proofs.YtgpemnmopogppaaGreatDoor.Dp
open Go.Proofs.YtgpemnmopogppaaGreatDoor.Url (encL decF)
def barC (c : UInt8) : UInt8 := if c = 32 ∨ c = 46 then 95 else c
/-- A name's head and its steps. -/
def headL (l : List UInt8) : List UInt8 := (l.takeWhile (· != 91)).map barC
def stepsL : List UInt8 → List (List UInt8)
  | [] => []
  | x :: r => if x = 91 ∧ 93 ∈ r then r.takeWhile (· != 93) :: stepsL ((r.dropWhile (· != 93)).drop 1) else []
termination_by l => l.length
decreasing_by
  have h1 := (List.dropWhile_sublist (fun x : UInt8 => x != 93) (l := r)).length_le
  simp only [List.length_drop, List.length_cons]
  omega
def restL (l : List UInt8) : List UInt8 := l.dropWhile (· != 91)
def mkB (l : List UInt8) : ByteArray := ⟨l.toArray⟩
def putQ (name text : List UInt8) (g : GV) : GV := putV (mkB (headL name)) ((stepsL (restL name)).map mkB) (mkB text) g
/-- A text cut at a byte. -/
def splitL (c : UInt8) : List UInt8 → List (List UInt8)
  | [] => [[]]
  | x :: r => if x = c then [] :: splitL c r else match splitL c r with
    | [] => [[x]]
    | h :: t => (x :: h) :: t
def cutL (c : UInt8) (l : List UInt8) : List UInt8 × List UInt8 := (l.takeWhile (· != c), (l.dropWhile (· != c)).drop 1)
def queryF : List (List UInt8) → Nat → GV → GV
  | [], _, g => g
  | p :: ps, m, g => if p = [] ∨ 1000 ≤ m then queryF ps m g else queryF ps (m + 1) (putQ (decF (cutL 61 p).1) (decF (cutL 61 p).2) g)
def queryG (s : List UInt8) : GV := queryF (splitL 38 s) 0 (.mk 4 0 ⟨#[]⟩ [])
theorem splitL_ne (c : UInt8) (l : List UInt8) : splitL c l ≠ [] := by
  cases l with
  | nil => simp [splitL]
  | cons x r =>
    rw [splitL]
    split
    · simp
    · split <;> simp
theorem splitL_app (c : UInt8) : ∀ s t : List UInt8, splitL c (s ++ c :: t) = splitL c s ++ splitL c t
  | [], t => by simp [splitL]
  | x :: s, t => by
    rw [List.cons_append, splitL, splitL, splitL_app c s t]
    split
    · rfl
    · cases h : splitL c s with
      | nil => exact absurd h (splitL_ne c s)
      | cons a b => rfl
theorem splitL_one (c : UInt8) : ∀ s : List UInt8, c ∉ s → splitL c s = [s]
  | [], _ => rfl
  | x :: s, h => by
    rw [splitL, splitL_one c s (fun h' => h (List.mem_cons_of_mem _ h')), if_neg (fun e => h (by rw [e]; exact List.mem_cons_self ..))]
theorem takeWhile_at (c : UInt8) : ∀ (a b : List UInt8), c ∉ a → (a ++ c :: b).takeWhile (· != c) = a ∧ (a ++ c :: b).dropWhile (· != c) = c :: b
  | [], b, _ => by simp
  | x :: a, b, h => by
    have hx : (x != c) = true := bne_iff_ne.2 fun e => h (by rw [e]; exact List.mem_cons_self ..)
    obtain ⟨h1, h2⟩ := takeWhile_at c a b fun h' => h (List.mem_cons_of_mem _ h')
    rw [List.cons_append, List.takeWhile_cons, List.dropWhile_cons, if_pos hx, if_pos hx, h1, h2]
    exact ⟨rfl, rfl⟩
theorem cutL_at (c : UInt8) (a b : List UInt8) (h : c ∉ a) : cutL c (a ++ c :: b) = (a, b) := by
  obtain ⟨h1, h2⟩ := takeWhile_at c a b h
  rw [cutL, h1, h2]
  rfl
theorem encC_not : ∀ c : Fin 256, 38 ∉ Url.encC (UInt8.ofNat c.val) ∧ 61 ∉ Url.encC (UInt8.ofNat c.val) := by decide +kernel
theorem encL_not : ∀ l : List UInt8, 38 ∉ encL l ∧ 61 ∉ encL l
  | [] => by simp [Url.encL]
  | c :: l => by
    have h := encC_not ⟨c.toNat, c.toNat_lt⟩
    have e : UInt8.ofNat c.toNat = c := UInt8.ofNat_toNat
    rw [show (⟨c.toNat, c.toNat_lt⟩ : Fin 256).val = c.toNat from rfl, e] at h
    have ih := encL_not l
    rw [show Url.encL (c :: l) = Url.encC c ++ Url.encL l from rfl]
    exact ⟨fun hm => (List.mem_append.1 hm).elim h.1 ih.1, fun hm => (List.mem_append.1 hm).elim h.2 ih.2⟩
/-! ### values of texts and lists -/
inductive Txt : GV → Prop where
  | leaf (t : ByteArray) : Txt (leafG t)
  | node (nx : Int) (gs : List GI) (h : ∀ (i : Nat) (it : GI), gs[i]? = some it → Txt it.val) : Txt (.mk 4 nx ⟨#[]⟩ gs)
theorem Txt.nodes {nx : Int} {t : ByteArray} {gs : List GI} (h : Txt (.mk 4 nx t gs)) : ∀ (i : Nat) (it : GI), gs[i]? = some it → Txt it.val := by
  generalize hg : GV.mk 4 nx t gs = g at h
  cases h with
  | leaf t' => injection hg with h1; exact absurd h1 (by decide)
  | node nx' gs' h => injection hg with _ _ _ h4; subst h4; exact h
theorem Txt.sub {g : GV} (h : Txt g) : Txt (.mk 4 (kidsG g).2 ⟨#[]⟩ (kidsG g).1) := by
  cases h with
  | leaf t => exact .node 0 [] fun i it h => by simp at h
  | node nx gs h => rw [kidsG, if_pos rfl]; exact .node nx gs h
theorem Txt.at_ {nx : Int} {t : ByteArray} {gs : List GI} (h : Txt (.mk 4 nx t gs)) (k : Key3) : Txt (.mk 4 (subG gs k).2 ⟨#[]⟩ (subG gs k).1) := by
  unfold subG
  split
  · cases hi : gs[(findK (gs.map GI.keyG) k 0).toNat]? with
    | none => exact .node 0 [] fun i it h => by simp at h
    | some it => exact (h.nodes _ it hi).sub
  · exact .node 0 [] fun i it h => by simp at h
/-- What setting turns: one thing, or one more. -/
theorem setG_cases {gs gs' : List GI} {nx nx' : Int} {k : Key3} {v : GV} (h : setG gs nx (giOf k v) = some (gs', nx')) : (∃ (i : Nat) (it : GI), gs[i]? = some it ∧ gs' = gs.set i (giOf (GI.keyG it) v)) ∨ ∃ k', gs' = gs ++ [giOf k' v] := by
  unfold setG at h
  change (if 0 ≤ findK (gs.map GI.keyG) (normG k.1 k.2.1 k.2.2) 0 then some (gs.set (findK (gs.map GI.keyG) (normG k.1 k.2.1 k.2.2) 0).toNat (giOf (normG k.1 k.2.1 k.2.2) v), nx) else if 2048 ≤ gs.length then none else some (gs ++ [giOf (normG k.1 k.2.1 k.2.2) v], nextK nx (normG k.1 k.2.1 k.2.2))) = _ at h
  split at h
  · rename_i h0
    have hat := (findK_at (gs.map GI.keyG) _ 0 (by omega) h0).2
    rw [Int.sub_zero, List.getElem?_map] at hat
    obtain ⟨it, hit, hm⟩ := Option.map_eq_some_iff.1 hat
    injection h with h
    injection h with h1 _
    exact .inl ⟨_, it, hit, by rw [hm]; exact h1.symm⟩
  · split at h
    · cases h
    · injection h with h
      injection h with h1 _
      exact .inr ⟨_, h1.symm⟩
theorem Txt.set {gs gs' : List GI} {nx nx' : Int} {k : Key3} {v : GV} (h : Txt (.mk 4 nx ⟨#[]⟩ gs)) (hv : Txt v) (hs : setG gs nx (giOf k v) = some (gs', nx')) : Txt (.mk 4 nx' ⟨#[]⟩ gs') := by
  have hn := h.nodes
  refine .node _ _ fun i it hi => ?_
  rcases setG_cases hs with ⟨j, it0, _, rfl⟩ | ⟨k', rfl⟩
  · rw [List.getElem?_set] at hi
    split at hi
    · split at hi
      · cases hi; exact hv
      · cases hi
    · exact hn i it hi
  · rw [List.getElem?_append] at hi
    split at hi
    · exact hn i it hi
    · rename_i hl
      have h0 := (List.getElem?_eq_some_iff.1 hi).1
      have h1 : i - gs.length = 0 := by simp at h0; omega
      rw [h1] at hi
      simp at hi
      subst hi
      exact hv
theorem putO_txt {text : ByteArray} : ∀ (r : List ByteArray) (step : ByteArray) (head : Bool) (gs : List GI) (nx : Int) (p : List GI × Int), Txt (.mk 4 nx ⟨#[]⟩ gs) → putO r step head text gs nx = some p → Txt (.mk 4 p.2 ⟨#[]⟩ p.1)
  | [], step, head, gs, nx, p, hw, h => by
    rw [putO] at h
    obtain ⟨k, _, h⟩ := Option.bind_eq_some_iff.1 h
    exact hw.set (.leaf text) h
  | s :: r, step, head, gs, nx, p, hw, h => by
    rw [putO] at h
    obtain ⟨q, hq, h⟩ := Option.bind_eq_some_iff.1 h
    obtain ⟨k, _, h⟩ := Option.bind_eq_some_iff.1 h
    refine hw.set (putO_txt r s false _ _ q ?_ hq) h
    split
    · exact .node 0 [] fun i it h => by simp at h
    · exact hw.at_ _
/-- What queries say: lists of texts, well formed, not too many. -/
structure QOk (g : GV) : Prop where
  wf : WfG g
  tx : Txt g
  few : 0 ≤ leftV g 2048
  list : ∃ nx gs, g = .mk 4 nx ⟨#[]⟩ gs
theorem putV_ok {head : ByteArray} {steps : List ByteArray} {text : ByteArray} {g : GV} (hg : QOk g) (hh : head.size ≤ 140737488351232) (hr : ∀ s ∈ steps, s.size ≤ 140737488351232) (ht : text.size ≤ 140737488351232) : QOk (putV head steps text g) := by
  have hw := putV_wf (g := g) hg.wf hh hr ht
  unfold putV at hw ⊢
  split
  · exact hg
  · rename_i hc
    rw [if_neg hc] at hw
    cases hp : putO steps head true text (kidsG g).1 (kidsG g).2 with
    | none => exact hg
    | some p =>
      rw [hp] at hw
      simp only at hw ⊢
      split
      · rename_i h0
        rw [if_pos h0] at hw
        exact ⟨hw, putO_txt steps head true _ _ p hg.tx.sub hp, h0, _, _, rfl⟩
      · exact hg
theorem QOk.empty : QOk (.mk 4 0 ⟨#[]⟩ []) := ⟨.empty, .node 0 [] fun i it h => by simp at h, by decide, _, _, rfl⟩
end Ut
end Go.Proofs.YtgpemnmopogppaaGreatDoor
/- url: what strings.Cut, Split, Contains and HasPrefix answer at one byte: plain laws; the calls in these words. -/
namespace Go.Proofs.YtgpemnmopogppaaGreatDoor
open Go Go.RowKit
namespace Ut
theorem pre_one (c b : UInt8) (l : List UInt8) : [c].isPrefixOf (b :: l) = (c == b) := by
  rw [List.isPrefixOf, List.isPrefixOf, Bool.and_true]
theorem index_cons (c b : UInt8) (l : List UInt8) : Lib.index (b :: l) [c] = if c = b then 0 else if Lib.index l [c] = -1 then -1 else Lib.index l [c] + 1 := by
  rw [Lib.index, pre_one]
  by_cases h : c = b
  · subst h; simp
  · simp [h]
theorem index_at (c : UInt8) : ∀ s : List UInt8, (c ∉ s ∧ Lib.index s [c] = -1) ∨ ∃ a b, s = a ++ c :: b ∧ c ∉ a ∧ Lib.index s [c] = (a.length : Int)
  | [] => .inl ⟨by simp, rfl⟩
  | x :: s => by
    rw [index_cons]
    by_cases h : c = x
    · subst h
      exact .inr ⟨[], s, rfl, by simp, by simp⟩
    · rw [if_neg h]
      rcases index_at c s with ⟨h1, h2⟩ | ⟨a, b, h1, h2, h3⟩
      · exact .inl ⟨fun hm => (List.mem_cons.1 hm).elim h h1, by rw [if_pos h2]⟩
      · refine .inr ⟨x :: a, b, by rw [h1]; rfl, fun hm => (List.mem_cons.1 hm).elim h h2, ?_⟩
        rw [h3, if_neg (by omega)]
        simp
theorem takeWhile_all (c : UInt8) : ∀ s : List UInt8, c ∉ s → s.takeWhile (· != c) = s ∧ s.dropWhile (· != c) = []
  | [], _ => ⟨rfl, rfl⟩
  | x :: s, h => by
    have hx : (x != c) = true := bne_iff_ne.2 fun e => h (by rw [e]; exact List.mem_cons_self ..)
    obtain ⟨h1, h2⟩ := takeWhile_all c s fun h' => h (List.mem_cons_of_mem _ h')
    rw [List.takeWhile_cons, List.dropWhile_cons, if_pos hx, if_pos hx, h1, h2]
    exact ⟨rfl, rfl⟩
theorem cut_c (c : UInt8) (l : List UInt8) : Lib.cut l [c] = ((cutL c l).1, (cutL c l).2, decide (c ∈ l)) := by
  unfold Lib.cut
  rcases index_at c l with ⟨h1, h2⟩ | ⟨a, b, rfl, h2, h3⟩
  · obtain ⟨h3, h4⟩ := takeWhile_all c l h1
    rw [h2, if_neg (by decide), cutL, h3, h4, decide_eq_false h1]
    rfl
  · rw [h3, if_pos (by omega), cutL_at c a b h2]
    simp
theorem contains_c (c : UInt8) (l : List UInt8) : Lib.contains l [c] = decide (c ∈ l) := by
  unfold Lib.contains
  rcases index_at c l with ⟨h1, h2⟩ | ⟨a, b, rfl, h2, h3⟩
  · rw [h2, decide_eq_false h1]; rfl
  · rw [h3]; simp
theorem split_c (c : UInt8) : ∀ (n : Nat) (s : List UInt8), s.length ≤ n → Lib.splitK [c] 0 (Lib.count s [c]) s = splitL c s
  | n, s, hn => by
    rcases index_at c s with ⟨h1, h2⟩ | ⟨a, b, rfl, h2, h3⟩
    · rw [Lib.count_miss h2, splitL_one c s h1]
      rfl
    · rw [Lib.count_hit (by simp) h3, Nat.add_comm, Lib.splitK, h3, if_neg (by simp), splitL_app, splitL_one c a h2]
      match n, hn with
      | 0, hn => simp at hn
      | n + 1, hn =>
        have e : (a ++ c :: b).drop (a.length + [c].length) = b := by simp
        have ih := split_c c n b (by simp at hn; omega)
        simp only [Int.toNat_natCast, Nat.add_zero]
        rw [e, ih]
        simp
theorem mkB_list (l : List UInt8) : (mkB l).data.toList = l := by simp [mkB]
theorem mkB_size (l : List UInt8) : (mkB l).size = l.length := by simp [mkB, ByteArray.size]
theorem mkB_of (s : ByteArray) : mkB s.data.toList = s := by simp [mkB]
theorem mkB_nil : mkB [] = ⟨#[]⟩ := rfl
/-! ### the calls -/
section
variable (m : Int) (w : World)
theorem cut_call (c : UInt8) (l : List UInt8) (hl : l.length < 4294967281) (hm : w.cell? ⟨0, 0, none⟩ = some (.int .i64 m)) :
    Calls Tryz.prog 27 #[.string (mkB l), .string ⟨#[c]⟩] w fun e w' => e = .returned (.tuple #[.string (mkB (cutL c l).1), .string (mkB (cutL c l).2), .bool (decide (c ∈ l))]) ∧ ∃ n, w' = w.drewN n := by
  have h := Tryz.strings_Cut (mkB l) ⟨#[c]⟩ m w (by rw [mkB_size]; omega) hm
  rw [mkB_list] at h
  have e1 : (⟨#[c]⟩ : ByteArray).data.toList = [c] := rfl
  rw [e1, cut_c] at h
  exact h
theorem contains_call (c : UInt8) (l : List UInt8) (hl : l.length < 4294967281) (hm : w.cell? ⟨0, 0, none⟩ = some (.int .i64 m)) :
    Calls Tryz.prog 107 #[.string (mkB l), .string ⟨#[c]⟩] w fun e w' => e = .returned (.bool (decide (c ∈ l))) ∧ w' = w := by
  have h := Tryz.strings_Contains (mkB l) ⟨#[c]⟩ m w (by rw [mkB_size]; omega) hm
  rw [mkB_list] at h
  have e1 : (⟨#[c]⟩ : ByteArray).data.toList = [c] := rfl
  rw [e1, contains_c] at h
  exact h
theorem prefix_call (c : UInt8) (l : List UInt8) :
    Calls Tryz.prog 43 #[.string (mkB l), .string ⟨#[c]⟩] w fun e w' => e = .returned (.bool (decide (l.head? = some c))) ∧ w' = w := by
  have h := Tryz.strings_HasPrefix (mkB l) ⟨#[c]⟩ w
  rw [mkB_list] at h
  have e1 : (⟨#[c]⟩ : ByteArray).data.toList = [c] := rfl
  have e2 : Lib.hasPrefix l [c] = decide (l.head? = some c) := by
    unfold Lib.hasPrefix
    cases l with
    | nil => rfl
    | cons x l =>
      rw [pre_one]
      rw [Bool.eq_iff_iff]
      simp
      exact eq_comm
  rw [e1, e2] at h
  exact h
theorem split_call (c : UInt8) (l : List UInt8) (hl : l.length < 4294967281) (hm : w.cell? ⟨0, 0, none⟩ = some (.int .i64 m)) :
    Calls Tryz.prog 26 #[.string (mkB l), .string ⟨#[c]⟩] w fun e w' => e = .returned (.slice (some ⟨w.heap.size, 0, none⟩) (splitL c l).length (splitL c l).length) ∧ w' = w.alloc (.cells ((splitL c l).map fun p => Value.string (mkB p)).toArray 9) := by
  have h := Tryz.strings_Split (mkB l) ⟨#[c]⟩ m w (by rw [mkB_size]; omega) hm (Nat.le_refl 1)
  have hl2 : (Lib.splitB ⟨#[c]⟩ 0 (Lib.countB (mkB l) ⟨#[c]⟩) (mkB l)).length = Lib.countB (mkB l) ⟨#[c]⟩ + 1 := Lib.splitB_all ⟨#[c]⟩ (Nat.le_refl 1) 0 _ (mkB l) rfl
  have e1 : (⟨#[c]⟩ : ByteArray).data.toList = [c] := rfl
  have hd := Lib.splitB_data ⟨#[c]⟩ 0 (Lib.countB (mkB l) ⟨#[c]⟩) (mkB l)
  have hc : Lib.countB (mkB l) ⟨#[c]⟩ = Lib.count l [c] := by unfold Lib.countB; rw [mkB_list, e1]
  rw [e1, mkB_list, hc, split_c c _ l (Nat.le_refl _)] at hd
  rw [hc] at hl2 h
  have e2 : (Lib.splitB ⟨#[c]⟩ 0 (Lib.count l [c]) (mkB l)).map Value.string = (splitL c l).map fun p => Value.string (mkB p) := by
    rw [← hd, List.map_map]
    exact List.map_congr_left fun p _ => by simp [mkB]
  have e3 : Lib.count l [c] + 1 = (splitL c l).length := by rw [← hd, List.length_map, hl2]
  rw [e2, e3] at h
  exact h
end
end Ut
end Go.Proofs.YtgpemnmopogppaaGreatDoor
