/- Plain laws on the disk's two maps. -/
import Derived.Test.YtbiclpkoocjjfaaDoorDiskD
namespace Go.Proofs.YtbiclpkoocjjfaaDoor
open Go.Maps

theorem key_ne {p q : ByteArray} (h : q ≠ p) : key q ≠ key p := fun e => h (by unfold key at e; injection e with e; exact WideShapes.bytes_inj e)
theorem isKey (p : ByteArray) : WideAt.IsKeyLit (key p) := by unfold key; first | trivial | exact True.intro | simp [WideAt.IsKeyLit]
theorem faultC_put_same {T : DataW Unit} (h : IsMap T) (p : ByteArray) (x : Int) : faultC (T.put (key p) (.lit (.int .i64 x))) p = x := by
  unfold faultC; rw [atKey_put_same h (isKey p)]
theorem faultC_put_other {T : DataW Unit} {p q : ByteArray} (h : q ≠ p) (d : DataW Unit) : faultC (T.put (key p) d) q = faultC T q := by
  unfold faultC; rw [atKey_put_other (key_ne h)]
theorem fileS_put_same {F : DataW Unit} (h : IsMap F) (p x : ByteArray) (n : Int) : fileS (F.put (key p) (fileD x n)) p = x := by
  unfold fileS; rw [atKey_put_same h (isKey p)]; unfold fileD; rfl
theorem fileN_put_same {F : DataW Unit} (h : IsMap F) (p x : ByteArray) (n : Int) : fileN (F.put (key p) (fileD x n)) p = n := by
  unfold fileN; rw [atKey_put_same h (isKey p)]; unfold fileD; rfl
theorem fileS_put_other {F : DataW Unit} {p q : ByteArray} (h : q ≠ p) (d : DataW Unit) : fileS (F.put (key p) d) q = fileS F q := by
  unfold fileS; rw [atKey_put_other (key_ne h)]
theorem fileN_put_other {F : DataW Unit} {p q : ByteArray} (h : q ≠ p) (d : DataW Unit) : fileN (F.put (key p) d) q = fileN F q := by
  unfold fileN; rw [atKey_put_other (key_ne h)]
theorem fileS_del_other {F : DataW Unit} {p q : ByteArray} (h : q ≠ p) : fileS (F.del (key p)) q = fileS F q := by
  unfold fileS; rw [atKey_del_other (key_ne h)]
theorem fileN_del_other {F : DataW Unit} {p q : ByteArray} (h : q ≠ p) : fileN (F.del (key p)) q = fileN F q := by
  unfold fileN; rw [atKey_del_other (key_ne h)]
theorem hasF_put_same {F : DataW Unit} (h : IsMap F) (p : ByteArray) (d : DataW Unit) : Maps.has (F.put (key p) d) (key p) = true := has_put_same h (isKey p) d
theorem hasF_put_other {F : DataW Unit} {p q : ByteArray} (h : q ≠ p) (d : DataW Unit) : Maps.has (F.put (key p) d) (key q) = Maps.has F (key q) := has_put_other (key_ne h) d
theorem hasF_del_other {F : DataW Unit} {p q : ByteArray} (h : q ≠ p) : Maps.has (F.del (key p)) (key q) = Maps.has F (key q) := has_del_other (key_ne h)

/-- The faults at p are v, and none elsewhere. -/
def FaultsAt (T : DataW Unit) (p : ByteArray) (v : Int) : Prop := faultC T p = v ∧ ∀ q, q ≠ p → faultC T q = 0
def Calm (T : DataW Unit) : Prop := ∀ p, faultC T p = 0
theorem calm_none : Calm (.map []) := fun _ => rfl
theorem Calm.at_ {T : DataW Unit} (h : Calm T) (p : ByteArray) : FaultsAt T p 0 := ⟨h p, fun q _ => h q⟩
theorem FaultsAt.calm {T : DataW Unit} {p : ByteArray} (h : FaultsAt T p 0) : Calm T := fun q => if e : q = p then e ▸ h.1 else h.2 q e
theorem FaultsAt.put {T : DataW Unit} {p : ByteArray} {v : Int} (h : FaultsAt T p v) (hm : IsMap T) (x : Int) : FaultsAt (T.put (key p) (.lit (.int .i64 x))) p x :=
  ⟨faultC_put_same hm p x, fun q hq => (faultC_put_other hq _).trans (h.2 q hq)⟩

theorem writeI_path {F : DataW Unit} {p x : ByteArray} (h : writeI F p x = 0) : pathB p = true := by
  unfold writeI at h
  by_cases h1 : pathB p = false
  · rw [if_pos h1] at h; exact absurd h (by decide)
  · simpa using h1
theorem faultI_ok {p : ByteArray} {x : Int} (h : pathB p = true) (hx : 0 ≤ x) : faultI p x = 0 := by
  unfold faultI; rw [if_neg (by rw [h]; decide), if_neg (by omega)]
theorem faultI_bad {p : ByteArray} {x : Int} (h : pathB p = false) : faultI p x = 1 := by unfold faultI; rw [if_pos h]
theorem readI_bad {F T : DataW Unit} {p : ByteArray} (h : pathB p = false) : readI F T p = 1 := by unfold readI; rw [if_pos h]
theorem readI_fault {F T : DataW Unit} {p : ByteArray} (h : pathB p = true) (hf : 0 < faultC T p) : readI F T p = 18 := by unfold readI; rw [if_neg (by rw [h]; decide), if_pos hf]
theorem readI_calm {F T : DataW Unit} {p : ByteArray} (h : pathB p = true) (hf : faultC T p = 0) : readI F T p = if Maps.has F (key p) = false then 6 else 0 := by
  unfold readI; rw [if_neg (by rw [h]; decide), if_neg (by omega)]
theorem readI_ne18 {F T : DataW Unit} {p : ByteArray} (hf : faultC T p = 0) : readI F T p ≠ 18 := by
  unfold readI
  by_cases h : pathB p = false
  · rw [if_pos h]; decide
  · rw [if_neg h, if_neg (by omega)]; split <;> decide
theorem readT_calm {F T : DataW Unit} {p : ByteArray} (hf : faultC T p = 0) : readT F T p = T := by unfold readT; rw [if_neg (readI_ne18 hf)]
/-- With no fault left at p, what is read hangs on the files alone. -/
theorem readI_same {F T T' : DataW Unit} {p : ByteArray} (h : faultC T p = 0) (h' : faultC T' p = 0) : readI F T p = readI F T' p := by
  unfold readI; rw [h, h']
theorem readN_same {F T T' : DataW Unit} {p : ByteArray} (h : faultC T p = 0) (h' : faultC T' p = 0) : readN F T p = readN F T' p := by
  unfold readN; rw [readI_same h h']
end Go.Proofs.YtbiclpkoocjjfaaDoor
