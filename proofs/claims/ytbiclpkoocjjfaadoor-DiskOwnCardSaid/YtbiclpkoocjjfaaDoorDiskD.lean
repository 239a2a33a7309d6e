/- The disk's methods, one contract each for every case: what they answer and leave, by plain functions of the two maps. -/
import Derived.Test.YtbiclpkoocjjfaaDoorDiskC
namespace Go.Proofs.YtbiclpkoocjjfaaDoor
open Go.RowKit Go.Maps

def faultC (T : DataW Unit) (p : ByteArray) : Int := match T.atKey (key p) (.lit (.int .i64 0)) with | .lit (.int _ c) => c | _ => 0
def fileS (F : DataW Unit) (p : ByteArray) : ByteArray := match F.atKey (key p) (fileD ⟨#[]⟩ 0) with | .agg [.lit (.string l), .lit (.int _ _)] => ⟨l.toArray⟩ | _ => ⟨#[]⟩
def fileN (F : DataW Unit) (p : ByteArray) : Int := match F.atKey (key p) (fileD ⟨#[]⟩ 0) with | .agg [.lit (.string _), .lit (.int _ n)] => n | _ => 0

def writeI (F : DataW Unit) (p x : ByteArray) : Int := if pathB p = false then 1 else if 65536 < x.size then 2 else if Maps.has F (key p) = false ∧ 256 ≤ Maps.size F then 3 else 0
def writeF (F : DataW Unit) (p x : ByteArray) (wr : Int) : DataW Unit := if writeI F p x = 0 then F.put (key p) (fileD x (wr + 1)) else F
def writeW (F : DataW Unit) (p x : ByteArray) (wr : Int) : Int := if writeI F p x = 0 then wr + 1 else wr
def removeI (F : DataW Unit) (p : ByteArray) : Int := if pathB p = false then 1 else if Maps.has F (key p) = false then 6 else 0
def removeF (F : DataW Unit) (p : ByteArray) : DataW Unit := if removeI F p = 0 then F.del (key p) else F
def faultI (p : ByteArray) (x : Int) : Int := if pathB p = false then 1 else if x < 0 then 1 else 0
def faultT (T : DataW Unit) (p : ByteArray) (x : Int) : DataW Unit := if faultI p x = 0 then T.put (key p) (.lit (.int .i64 x)) else T
def readI (F T : DataW Unit) (p : ByteArray) : Int := if pathB p = false then 1 else if 0 < faultC T p then 18 else if Maps.has F (key p) = false then 6 else 0
def readS (F T : DataW Unit) (p : ByteArray) : ByteArray := if readI F T p = 0 then fileS F p else ⟨#[]⟩
def readN (F T : DataW Unit) (p : ByteArray) : Int := if readI F T p = 0 then fileN F p else 0
def readT (F T : DataW Unit) (p : ByteArray) : DataW Unit := if readI F T p = 18 then T.put (key p) (.lit (.int .i64 (faultC T p - 1))) else T
def readK (p : ByteArray) (rd : Int) : Int := if pathB p = false then rd else rd + 1

section
variable {b bf bt n : Nat} {F T : DataW Unit} {wr rd : Int} (p : ByteArray) (hp : p.size ≤ maxLen) (m : Int) (w : World) (hm : w.cell? ⟨0, 0, none⟩ = some (.int .i64 m)) (hd : DiskAt w b bf bt n F T wr rd)

include hp hd in
theorem faultC_at : T.atKey (key p) (.lit (.int .i64 0)) = .lit (.int .i64 (faultC T p)) ∧ -9223372036854775808 ≤ faultC T p ∧ faultC T p ≤ 9223372036854775807 := by
  obtain ⟨c, _, h, hw⟩ := hd.faults.lookup_int (t := 59) (e := 3) keyed Tryd.underlying59 Tryd.underlying3 (zeroInt w) (keyOf_key p hp)
  have e : faultC T p = c := by unfold faultC; rw [h]
  rw [e]
  refine ⟨h, ?_⟩
  simp [Lit.wf, IntKind.min, IntKind.max, IntKind.signed, IntKind.bits] at hw
  omega
include hp hd in
theorem file_at : F.atKey (key p) (fileD ⟨#[]⟩ 0) = fileD (fileS F p) (fileN F p) := by
  obtain ⟨v, ps, _, hv⟩ := hd.files.look_ok (t := 58) keyed Tryd.underlying58 (zeroFile w) (fileElem_mk _ _) (keyOf_key p hp)
  obtain ⟨s, c, rfl, hc⟩ := fileElem_inv hv
  have h : F.atKey (key p) (fileD ⟨#[]⟩ 0) = fileD s c := congrArg Prod.fst hc
  have e1 : fileS F p = s := by unfold fileS; rw [h]; unfold fileD; rfl
  have e2 : fileN F p = c := by unfold fileN; rw [h]; unfold fileD; rfl
  rw [e1, e2]; exact h
include hd in
theorem own_keeps_below {w' : World} (h : Below w.heap.size w w') : DiskAt w' b bf bt (n + 1) F T wr rd ∧ Keeps (Own b bf bt) w w' := ⟨(hd.below h).mono (Nat.le_succ _), Keeps.of_below h⟩

include hp hm hd
theorem write_all (x : ByteArray) (hx0 : x.size ≤ maxLen) (hw0 : 0 ≤ wr) (hw : wr ≤ 4611686018427387904) (hn : n < maxLen) :
    Calls Tryd.prog 11 #[.pointer (some ⟨b, 0, none⟩), .string p, .string x] w fun e w' => e = .returned (.int .i64 (writeI F p x)) ∧ DiskAt w' b bf bt (n + 1) (writeF F p x wr) T (writeW F p x wr) rd ∧ Keeps (Own b bf bt) w w' := by
  unfold writeF writeW
  by_cases h1 : pathB p = false
  · have e : writeI F p x = 1 := by unfold writeI; rw [if_pos h1]
    rw [e]
    exact (write_bad p hp m w hm hd x h1).mono fun e w' h => ⟨h.1, own_keeps_below w hd h.2⟩
  have h1' : pathB p = true := by simpa using h1
  by_cases h2 : 65536 < x.size
  · have e : writeI F p x = 2 := by unfold writeI; rw [if_neg h1, if_pos h2]
    rw [e]
    exact (write_long p hp m w hm hd x hx0 h1' h2).mono fun e w' h => ⟨h.1, own_keeps_below w hd h.2⟩
  by_cases h3 : Maps.has F (key p) = false ∧ 256 ≤ Maps.size F
  · have e : writeI F p x = 3 := by unfold writeI; rw [if_neg h1, if_neg h2, if_pos h3]
    rw [e]
    exact (write_many p hp m w hm hd x h1' (by omega) h3.1 h3.2).mono fun e w' h => ⟨h.1, own_keeps_below w hd h.2⟩
  · have e : writeI F p x = 0 := by unfold writeI; rw [if_neg h1, if_neg h2, if_neg h3]
    rw [e]
    refine write_ok p hp m w hm hd x h1' (by omega) ?_ hw0 hw hn
    cases hz : Maps.has F (key p) with
    | true => exact .inl rfl
    | false => exact .inr (by rcases Nat.lt_or_ge (Maps.size F) 256 with h | h; exact h; exact absurd ⟨hz, h⟩ h3)
theorem remove_all : Calls Tryd.prog 14 #[.pointer (some ⟨b, 0, none⟩), .string p] w fun e w' => e = .returned (.int .i64 (removeI F p)) ∧ DiskAt w' b bf bt (n + 1) (removeF F p) T wr rd ∧ Keeps (Own b bf bt) w w' := by
  unfold removeF
  by_cases h1 : pathB p = false
  · have e : removeI F p = 1 := by unfold removeI; rw [if_pos h1]
    rw [e]
    exact (remove_bad p hp m w hm hd h1).mono fun e w' h => ⟨h.1, own_keeps_below w hd h.2⟩
  have h1' : pathB p = true := by simpa using h1
  by_cases h2 : Maps.has F (key p) = false
  · have e : removeI F p = 6 := by unfold removeI; rw [if_neg h1, if_pos h2]
    rw [e]
    exact (remove_none p hp m w hm hd h1' h2).mono fun e w' h => ⟨h.1, own_keeps_below w hd h.2⟩
  · have e : removeI F p = 0 := by unfold removeI; rw [if_neg h1, if_neg h2]
    rw [e]
    exact (remove_ok p hp m w hm hd h1' (by simpa using h2)).mono fun e w' h => ⟨h.1, h.2.1.mono (Nat.le_succ _), h.2.2⟩
theorem fault_all (x : Int) (hx2 : x ≤ 9223372036854775807) (hn : n < maxLen) : Calls Tryd.prog 12 #[.pointer (some ⟨b, 0, none⟩), .string p, .int .i64 x] w fun e w' => e = .returned (.int .i64 (faultI p x)) ∧ DiskAt w' b bf bt (n + 1) F (faultT T p x) wr rd ∧ Keeps (Own b bf bt) w w' := by
  unfold faultT
  by_cases h1 : pathB p = false
  · have e : faultI p x = 1 := by unfold faultI; rw [if_pos h1]
    rw [e]
    exact (fault_bad p hp m w hm hd x h1).mono fun e w' h => ⟨h.1, own_keeps_below w hd h.2⟩
  have h1' : pathB p = true := by simpa using h1
  by_cases h2 : x < 0
  · have e : faultI p x = 1 := by unfold faultI; rw [if_neg h1, if_pos h2]
    rw [e]
    exact (fault_neg p hp m w hm hd x h1' h2).mono fun e w' h => ⟨h.1, own_keeps_below w hd h.2⟩
  · have e : faultI p x = 0 := by unfold faultI; rw [if_neg h1, if_neg h2]
    rw [e]
    exact fault_ok p hp m w hm hd x h1' (by omega) hx2 hn
theorem read_all (hr0 : 0 ≤ rd) (hr : rd ≤ 4611686018427387904) (hn : n < maxLen) : Calls Tryd.prog 15 #[.pointer (some ⟨b, 0, none⟩), .string p] w fun e w' =>
    e = .returned (.tuple #[.string (readS F T p), .int .i64 (readN F T p), .int .i64 (readI F T p)]) ∧ DiskAt w' b bf bt (n + 1) F (readT F T p) wr (readK p rd) ∧ Keeps (Own b bf bt) w w' := by
  obtain ⟨hc, hc1, hc2⟩ := faultC_at p hp w hd
  unfold readS readN readT readK
  by_cases h1 : pathB p = false
  · have e : readI F T p = 1 := by unfold readI; rw [if_pos h1]
    rw [e, if_pos h1]
    exact (read_bad p hp m w hm hd h1).mono fun e w' h => ⟨h.1, own_keeps_below w hd h.2⟩
  have h1' : pathB p = true := by simpa using h1
  by_cases h2 : 0 < faultC T p
  · have e : readI F T p = 18 := by unfold readI; rw [if_neg h1, if_pos h2]
    rw [e, if_neg h1]
    exact read_fault p hp m w hm hd h1' _ hc h2 hc2 hr0 hr hn
  by_cases h3 : Maps.has F (key p) = false
  · have e : readI F T p = 6 := by unfold readI; rw [if_neg h1, if_neg h2, if_pos h3]
    rw [e, if_neg h1]
    exact (read_none p hp m w hm hd h1' _ hc (by omega) h3 hr0 hr).mono fun e w' h => ⟨h.1, h.2.1.mono (Nat.le_succ _), h.2.2⟩
  · have e : readI F T p = 0 := by unfold readI; rw [if_neg h1, if_neg h2, if_neg h3]
    rw [e, if_neg h1]
    exact (read_ok p hp m w hm hd h1' _ hc (by omega) (by simpa using h3) _ _ (file_at p hp w hd) hr0 hr).mono fun e w' h => ⟨h.1, h.2.1.mono (Nat.le_succ _), h.2.2⟩
theorem stamp_all (hr0 : 0 ≤ rd) (hr : rd ≤ 4611686018427387904) (hn : n < maxLen) : Calls Tryd.prog 13 #[.pointer (some ⟨b, 0, none⟩), .string p] w fun e w' =>
    e = .returned (.tuple #[.int .i64 (readN F T p), .int .i64 (readI F T p)]) ∧ DiskAt w' b bf bt (n + 1) F (readT F T p) wr (readK p rd) ∧ Keeps (Own b bf bt) w w' :=
  stamp_of p w _ _ _ _ (read_all p hp m w hm hd hr0 hr hn)
end
end Go.Proofs.YtbiclpkoocjjfaaDoor
