/- One act at a disk and the reference's disk that tell the same: they answer the same and still tell the same. -/
import Derived.Test.YtbiclpkoocjjfaaDoorStands
import Derived.Test.YtbiclpkoocjjfaaDoorRNew
import Derived.Test.YtbiclpkoocjjfaaDoorDiskV
namespace Go.Proofs.YtbiclpkoocjjfaaDoor
open Go.RowKit Go.Maps

/-- Both disks in memory, behind block z, telling the same. -/
structure Both (w : World) (z db bf bt n rb base : Nat) (v : Value) (F T : DataW Unit) (W R : Int) (L : List Ent) : Prop where
  d : DiskAt w db bf bt n F T W R
  r : RefAt w rb base v L W R
  s : Sim F T W R L W R
  sz : Maps.size F ≤ 256
  sep : ∀ i, ROwn rb v i → ¬ Own db bf bt i
  low : ∀ i, Own db bf bt i ∨ ROwn rb v i → z ≤ i
theorem Both.below {w w' : World} {z db bf bt n rb base : Nat} {v : Value} {F T : DataW Unit} {W R : Int} {L : List Ent} (h : Both w z db bf bt n rb base v F T W R L) (hb : Below w.heap.size w w') : Both w' z db bf bt n rb base v F T W R L :=
  ⟨h.d.below hb, h.r.below hb, h.s, h.sz, h.sep, h.low⟩
theorem both_next {w w' : World} {z db bf bt n rb base : Nat} {v : Value} {F T : DataW Unit} {W R : Int} {L : List Ent} {F' T' : DataW Unit} {W' R' : Int} {L' : List Ent} {a : Bool} {e : Ending} (h : Both w z db bf bt n rb base v F T W R L) (hz : z ≤ w.heap.size)
    (hp : DoesPost w db bf bt n rb base v F' T' W' R' L' W' R' a e w') (hs : Sim F' T' W' R' L' W' R') (hsz : Maps.size F' ≤ 256) : e = .returned (.bool a) ∧ Below z w w' ∧ ∃ v', Both w' z db bf bt (n + 1) rb base v' F' T' W' R' L' := by
  obtain ⟨he, hd, v', hr, hk, hm⟩ := hp
  refine ⟨he, hk.below hz (fun i hi => h.low i hi), v', hd, hr, hs, hsz, fun i hi ho => ?_, fun i hi => ?_⟩
  · rcases hi with rfl | hi
    · exact h.sep _ (.inl rfl) ho
    · rcases hm with e | ⟨g, e, hg⟩
      · exact h.sep i (.inr (e ▸ hi)) ho
      · rw [e] at hi
        have : g = i := Option.some.inj hi
        have := both_lt h.d h.r i (.inl ho)
        omega
  · rcases hi with hi | rfl | hi
    · exact h.low i (.inl hi)
    · exact h.low _ (.inr (.inl rfl))
    · rcases hm with e | ⟨g, e, hg⟩
      · exact h.low i (.inr (.inr (e ▸ hi)))
      · rw [e] at hi
        have : g = i := Option.some.inj hi
        omega
theorem rremoveL_len (L : List Ent) (p : ByteArray) : (rremoveL L p).length ≤ L.length + 1 := by
  have := atL_len L p
  unfold rremoveL
  split
  · omega
  · split
    · exact this
    · rw [List.length_set]; exact this
theorem rfaultL_len (L : List Ent) (p : ByteArray) (x : Int) : (rfaultL L p x).length ≤ L.length + 1 := by
  have := atL_len L p
  unfold rfaultL
  split
  · rw [List.length_set]; exact this
  · omega
theorem rreadL_len (L : List Ent) (p : ByteArray) : (rreadL L p).length ≤ L.length + 1 := by
  have := atL_len L p
  unfold rreadL
  split
  · omega
  · split
    · rw [List.length_set]; exact this
    · exact this
def PlayPost (w : World) (z db bf bt n rb base : Nat) (N k : Nat) (e : Ending) (w' : World) : Prop :=
  e = .returned (.bool true) ∧ Below z w w' ∧ ∃ v F T W R L, Both w' z db bf bt (n + 1) rb base v F T W R L ∧ 0 ≤ W ∧ W ≤ N + k + 1 ∧ 0 ≤ R ∧ R ≤ k + 1 ∧ L.length ≤ N + k + 1

set_option maxRecDepth 100000 in
set_option maxHeartbeats 4000000 in
theorem does_sim {z db bf bt n rb base : Nat} {v : Value} {F T : DataW Unit} {W R : Int} {L : List Ent} {k N : Nat} (kind : Int) (p x : ByteArray) (num : Int) (m : Int) (w : World) (hg : 0 < w.heap.size) (hm : w.cell? ⟨0, 0, none⟩ = some (.int .i64 m)) (h : Both w z db bf bt n rb base v F T W R L)
    (hz0 : 0 < z) (hz : z ≤ w.heap.size) (hbase : base ≤ w.heap.size) (hp : p.size ≤ maxLen) (hx : x.size ≤ maxLen) (hn : n < maxLen) (hnum : num ≤ 9223372036854775807) (hW0 : 0 ≤ W) (hWN : W ≤ N + k) (hR0 : 0 ≤ R) (hRk : R ≤ k) (hL : L.length ≤ N + k) (hNk : (N + k + 1) * 48 ≤ 140737488355328) :
    Calls Tryd.prog 17 #[.pointer (some ⟨db, 0, none⟩), .pointer (some ⟨rb, 0, none⟩), .agg #[.int .i64 kind, .string p, .string x, .int .i64 num]] w (PlayPost w z db bf bt n rb base N k) := by
  have hlow : ∀ i, Own db bf bt i ∨ ROwn rb v i → i ≠ 0 := fun i hi => by have := h.low i hi; omega
  have hl : (L.length + 1) * 48 ≤ 140737488355328 := Nat.le_trans (Nat.mul_le_mul_right 48 (Nat.succ_le_succ hL)) hNk
  have hW1 : W ≤ 4611686018427387904 := by clear h hlow hm; omega
  have hR1 : R ≤ 4611686018427387904 := by clear h hlow hm; omega
  have hfl : (entOf L p).faults ≤ 9223372036854775807 := by
    rw [entOf_eq, ← h.s.flt p]
    exact (faultC_at p hp w h.d).2.2
  have hrk : 0 ≤ readK p R ∧ readK p R ≤ R + 1 := by unfold readK; split <;> omega
  have hT : IsMap T := h.d.faults.isMap
  cases e0 : (kind.tmod 5 % 5 == 0) with
  | true =>
    refine (does0 db bf bt n rb base v F T W R L W R kind p x num m w hg hm h.d h.r h.sep hlow hp hx hbase hn hl e0 hW0 hW1 hW0 hW1).mono ?_
    intro e w' hpost
    have hI := h.s.writeI p x
    have hS := h.s.write p x
    have e1 : writeW F p x W = rwriteW L p x W := hS.wr
    rw [e1, hI] at hpost
    rw [e1] at hS
    have hw : 0 ≤ rwriteW L p x W ∧ rwriteW L p x W ≤ W + 1 := by unfold rwriteW; split <;> omega
    obtain ⟨he, hb, v', hB⟩ := both_next h hz hpost hS (writeF_size h.s.tF h.sz _ _ _)
    have hlen := rwriteL_len L p x W
    exact ⟨by rw [he]; simp, hb, v', _, _, _, _, _, hB, hw.1, by omega, hR0, by omega, by omega⟩
  | false =>
    cases e1 : (kind.tmod 5 % 5 == 1) with
    | true =>
      refine (does1 db bf bt n rb base v F T W R L W R kind p x num m w hg hm h.d h.r h.sep hlow hp hx hbase hn hl e0 e1).mono ?_
      intro e w' hpost
      rw [h.s.removeI p] at hpost
      obtain ⟨he, hb, v', hB⟩ := both_next h hz hpost (h.s.remove p) (removeF_size h.s.tF h.sz _)
      have hlen := rremoveL_len L p
      exact ⟨by rw [he]; simp, hb, v', _, _, _, _, _, hB, hW0, by omega, hR0, by omega, by omega⟩
    | false =>
      cases e2 : (kind.tmod 5 % 5 == 2) with
      | true =>
        refine (does2 db bf bt n rb base v F T W R L W R kind p x num m w hg hm h.d h.r h.sep hlow hp hx hbase hn hl e0 e1 e2 hnum).mono ?_
        intro e w' hpost
        obtain ⟨he, hb, v', hB⟩ := both_next h hz hpost (h.s.fault hT p num) h.sz
        have hlen := rfaultL_len L p num
        exact ⟨he, hb, v', _, _, _, _, _, hB, hW0, by omega, hR0, by omega, by omega⟩
      | false =>
        have hlen := rreadL_len L p
        cases e3 : (kind.tmod 5 % 5 == 3) with
        | true =>
          refine (does3 db bf bt n rb base v F T W R L W R kind p x num m w hg hm h.d h.r h.sep hlow hp hx hbase hn hl e0 e1 e2 e3 hR0 hR1 hR0 hR1 hfl).mono ?_
          intro e w' hpost
          rw [h.s.readI p, h.s.readS p, h.s.readN p] at hpost
          obtain ⟨he, hb, v', hB⟩ := both_next h hz hpost (h.s.read hT p) h.sz
          exact ⟨by rw [he]; simp, hb, v', _, _, _, _, _, hB, hW0, by omega, hrk.1, by omega, by omega⟩
        | false =>
          refine (does4 db bf bt n rb base v F T W R L W R kind p x num m w hg hm h.d h.r h.sep hlow hp hx hbase hn hl e0 e1 e2 e3 hR0 hR1 hR0 hR1 hfl).mono ?_
          intro e w' hpost
          rw [h.s.readI p, h.s.readN p] at hpost
          obtain ⟨he, hb, v', hB⟩ := both_next h hz hpost (h.s.read hT p) h.sz
          exact ⟨by rw [he]; simp, hb, v', _, _, _, _, _, hB, hW0, by omega, hrk.1, by omega, by omega⟩
end Go.Proofs.YtbiclpkoocjjfaaDoor
