import Derived.Test.YtgpemnmopogppaaGreatDoorZRhAQ
import Derived.Lib.ItoaNum
set_option maxRecDepth 1000000
set_option maxHeartbeats 16000000
namespace Go.Proofs.YtgpemnmopogppaaGreatDoor
open Go.Proofs.Tryz
open Go.RowKit
namespace Rw
def cnt (p : UInt8 → Bool) : Nat → Bytes → Nat
 | 0, _ => 0
 | _ + 1, [] => 0
 | m + 1, c :: r => if p c = true then cnt p m r + 1 else 0
theorem cnt_len (p : UInt8 → Bool) : ∀ (m : Nat) (l : Bytes), cnt p m l ≤ l.length
 | 0, l => by simp [cnt]
 | m + 1, [] => by simp [cnt]
 | m + 1, c :: r => by
  have := cnt_len p m r
  rw [cnt]
  simp only [List.length_cons]
  split <;> omega
def whileN (s : Bytes) (p : UInt8 → Bool) (m at_ : Nat) : Nat := at_ + cnt p m (s.drop at_)
theorem while_zero (s : Bytes) (p : UInt8 → Bool) (a : Nat) : whileN s p 0 a = a := by simp [whileN, cnt]
theorem while_end {s : Bytes} {a : Nat} (p : UInt8 → Bool) (m : Nat) (h : s.length ≤ a) : whileN s p m a = a := by
 unfold whileN
 rw [List.drop_eq_nil_of_le h]
 cases m <;> simp [cnt]
theorem while_step {s : Bytes} {a : Nat} (p : UInt8 → Bool) (m : Nat) (h : a < s.length) : whileN s p (m + 1) a = if p s[a] = true then whileN s p m (a + 1) else a := by
 unfold whileN
 rw [List.drop_eq_getElem_cons h, cnt]
 split <;> omega
theorem while_ge (s : Bytes) (p : UInt8 → Bool) (m a : Nat) : a ≤ whileN s p m a := by unfold whileN; omega
theorem while_le {s : Bytes} {a : Nat} (p : UInt8 → Bool) (m : Nat) (h : a ≤ s.length) : whileN s p m a ≤ s.length := by
 have := cnt_len p m (s.drop a)
 rw [List.length_drop] at this
 unfold whileN
 omega
def mustN (s : Bytes) : Bytes → Nat → Option Nat
 | [], a => some a
 | c :: t, a => if s[a]? = some c then mustN s t (a + 1) else none
theorem must_le {s : Bytes} : ∀ {t : Bytes} {a b : Nat}, mustN s t a = some b → b = a + t.length ∧ (b ≤ s.length ∨ t = [])
 | [], a, b, h => by
  simp only [mustN, Option.some.injEq] at h
  exact ⟨by simp [h], .inr rfl⟩
 | c :: t, a, b, h => by
  rw [mustN] at h
  split at h
  · next h1 =>
    obtain ⟨e1, e2⟩ := must_le h
    refine ⟨by simp only [List.length_cons]; omega, .inl ?_⟩
    have := (List.getElem?_eq_some_iff.1 h1).1
    rcases e2 with e2 | rfl
    · exact e2
    · simp only [List.length_nil] at e1; omega
  · cases h
def namedB (c : UInt8) : Bool := upB c || ((decide (97 ≤ c.toNat) && decide (c.toNat ≤ 122)) || ((decide (48 ≤ c.toNat) && decide (c.toNat ≤ 57)) || decide (c.toNat = 45)))
def blankB (c : UInt8) : Bool := decide (c.toNat = 32) || decide (c.toNat = 9)
def valuedB (c : UInt8) : Bool := decide (c.toNat = 9) || (decide (32 ≤ c.toNat) && decide (c.toNat ≠ 127))
def shownB (c : UInt8) : Bool := decide (32 < c.toNat) && decide (c.toNat < 127)
def cutQ : Bytes → Bytes × Bytes
 | [] => ([], [])
 | c :: r => if c = 63 then ([], r) else (c :: (cutQ r).1, (cutQ r).2)
def trimR : Bytes → Bytes
 | [] => []
 | c :: r => if trimR r = [] ∧ blankB c = true then [] else c :: trimR r
theorem trimR_snoc (l : Bytes) (c : UInt8) : trimR (l ++ [c]) = if blankB c = true then trimR l else l ++ [c] := by
 induction l with
 | nil =>
  simp only [List.nil_append, trimR, true_and]
 | cons d l ih =>
  rw [List.cons_append, trimR, ih]
  by_cases h : blankB c = true
  · rw [if_pos h, if_pos h]
    conv => rhs; rw [trimR]
  · rw [if_neg h, if_neg h, if_neg (by simp)]
theorem trimR_len : ∀ l : Bytes, (trimR l).length ≤ l.length
 | [] => by simp [trimR]
 | c :: r => by
  have := trimR_len r
  rw [trimR]
  split <;> simp only [List.length_cons, List.length_nil] <;> omega
theorem trimR_take : ∀ l : Bytes, trimR l = l.take (trimR l).length
 | [] => by simp [trimR]
 | c :: r => by
  rw [trimR]
  split
  · simp
  · rw [List.length_cons, List.take_succ_cons, ← trimR_take r]
def piece (s : Bytes) (a b : Nat) : Bytes := (s.drop a).take (b - a)
def bytes (l : Bytes) : ByteArray := ⟨l.toArray⟩
def versL : Bytes := [32, 72, 84, 84, 80, 47, 49, 46, 49, 13, 10]
def clenL : Bytes := [67, 111, 110, 116, 101, 110, 116, 45, 76, 101, 110, 103, 116, 104]
def lineN (s : Bytes) : Option (Bytes × Bytes × Bytes × Nat) :=
 let a := whileN s upB 16 0
 if a = 0 then none else
 match mustN s [32] a with
 | none => none
 | some a1 => match mustN s [47] a1 with
  | none => none
  | some a2 =>
   let b := whileN s shownB s.length a2
   match mustN s versL b with
   | none => none
   | some e => some (piece s 0 a, (cutQ (piece s a1 b)).1, (cutQ (piece s a1 b)).2, e)
def headN (s : Bytes) (at_ : Nat) : Option (Bytes × Bytes × Nat × Nat) :=
 let a := whileN s namedB 64 at_
 if a = at_ then none else
 match mustN s [58] a with
 | none => none
 | some a1 =>
  let f := whileN s blankB s.length a1
  let e := whileN s valuedB s.length f
  match mustN s [13, 10] e with
  | none => none
  | some z => some (piece s at_ a, trimR (piece s f e), f, z)
theorem head_far {s : Bytes} {at_ : Nat} {n v : Bytes} {f z : Nat} (h : headN s at_ = some (n, v, f, z)) : at_ < z ∧ z ≤ s.length := by
 unfold headN at h
 simp only at h
 split at h
 · cases h
 · split at h
   · cases h
   · next a1 h1 =>
     split at h
     · cases h
     · next z' h2 =>
       simp only [Option.some.injEq, Prod.mk.injEq] at h
       obtain ⟨-, -, -, rfl⟩ := h
       obtain ⟨e1, -⟩ := must_le h1
       obtain ⟨e2, e3⟩ := must_le h2
       have g1 := while_ge s namedB 64 at_
       have g2 := while_ge s blankB s.length a1
       have g3 := while_ge s valuedB s.length (whileN s blankB s.length a1)
       simp only [List.length_cons, List.length_nil] at e1 e2
       refine ⟨by omega, ?_⟩
       rcases e3 with e3 | e3
       · exact e3
       · cases e3
def lenN (ln : Option (Nat × Bytes)) (n v : Bytes) (f : Nat) : Option (Nat × Bytes) := if ln = none ∧ sameS (bytes n) (bytes clenL) = true then some (f, v) else ln
def headsN (s : Bytes) (at_ : Nat) (hs : List (Bytes × Bytes)) (ln : Option (Nat × Bytes)) : Option (List (Bytes × Bytes) × Option (Nat × Bytes) × Nat) :=
 if s[at_]? = some 13 then (match mustN s [13, 10] at_ with | none => none | some e => some (hs, ln, e))
 else if 64 ≤ hs.length then none
 else match _h : headN s at_ with
  | none => none
  | some (n, v, f, z) => headsN s z (hs ++ [(n, v)]) (lenN ln n v f)
termination_by s.length - at_
decreasing_by
 have := head_far _h
 omega
structure Rq where
 method : Bytes
 path : Bytes
 query : Bytes
 heads : List (Bytes × Bytes)
 body : Bytes
def lenOk (ln : Option (Nat × Bytes)) (body : Bytes) : Bool :=
 match ln with
 | none => true
 | some (_, v) => decide (v = Lib.itoa body.length)
def parseN (s : Bytes) : Option Rq :=
 if 65536 < s.length then none else
 match lineN s with
 | none => none
 | some (m, p, q, a) => match headsN s a [] none with
  | none => none
  | some (hs, ln, e) => if lenOk ln (s.drop e) = true then some ⟨m, p, q, hs, s.drop e⟩ else none
end Rw
open Go.RowKit
namespace Rw
theorem shown_any (f : FuncId) (hf : f = 93) (c : UInt8) (w : World) : Calls prog f #[.int .u8 (c.toNat : Int)] w fun e w' => e = .returned (.bool (shownB c)) ∧ w' = w := by
 subst hf
 have hc1 := c.toNat_lt
 obtain ⟨M, HM⟩ : ∃ z, Hid (shownB c = z) := ⟨_, rfl⟩
 rw [HM.out]
 by_cases h0 : 32 < c.toNat
 · by_cases h1 : c.toNat < 127
   · have hM : M = true := by rw [← HM.out]; simp [shownB, h0, h1] <;> omega
     subst hM
     have i0 : (32 : Int) < (c.toNat : Int) := by omega
     have i1 : (c.toNat : Int) < 127 := by omega
     have Hh0 := lH h0; have Hh1 := lH h1; clear HM h0 h1
     go_enter func93, ntmps93
     go_wp2_with fail
     all_goals first | (go_ret; exact ⟨rfl, rfl⟩) | (go_ret; refine ⟨?_, rfl⟩; have h0 := Hh0.out; have h1 := Hh1.out; simp <;> omega)
   · have hM : M = false := by rw [← HM.out]; simp [shownB, h0, h1] <;> omega
     subst hM
     have i0 : (32 : Int) < (c.toNat : Int) := by omega
     have i1 : (127 : Int) ≤ (c.toNat : Int) := by omega
     have j1 : ¬ (c.toNat : Int) < 127 := by omega
     have Hh0 := lH h0; have Hh1 := lH h1; clear HM h0 h1
     go_enter func93, ntmps93
     go_wp2_with fail
     all_goals first | (go_ret; exact ⟨rfl, rfl⟩) | (go_ret; refine ⟨?_, rfl⟩; have h0 := Hh0.out; have h1 := Hh1.out; simp <;> omega)
 · have hM : M = false := by rw [← HM.out]; simp [shownB, h0] <;> omega
   subst hM
   have i0 : (c.toNat : Int) ≤ 32 := by omega
   have j0 : ¬ (32 : Int) < (c.toNat : Int) := by omega
   have Hh0 := lH h0; clear HM h0
   go_enter func93, ntmps93
   go_wp2_with fail
   all_goals first | (go_ret; exact ⟨rfl, rfl⟩) | (go_ret; refine ⟨?_, rfl⟩; have h0 := Hh0.out; simp <;> omega)
theorem blank_any (f : FuncId) (hf : f = 95) (c : UInt8) (w : World) : Calls prog f #[.int .u8 (c.toNat : Int)] w fun e w' => e = .returned (.bool (blankB c)) ∧ w' = w := by
 subst hf
 have hc1 := c.toNat_lt
 obtain ⟨M, HM⟩ : ∃ z, Hid (blankB c = z) := ⟨_, rfl⟩
 rw [HM.out]
 by_cases h0 : c.toNat = 32
 · have hM : M = true := by rw [← HM.out]; simp [blankB, h0] <;> omega
   subst hM
   have i0 : ((c.toNat : Int) == 32) = true := by simp <;> omega
   have Hh0 := lH h0; clear HM h0
   go_enter func95, ntmps95
   go_wp2_with fail
   all_goals first | (go_ret; exact ⟨rfl, rfl⟩) | (go_ret; refine ⟨?_, rfl⟩; have h0 := Hh0.out; simp <;> omega)
 · by_cases h1 : c.toNat = 9
   · have hM : M = true := by rw [← HM.out]; simp [blankB, h1] <;> omega
     subst hM
     have i0 : ((c.toNat : Int) == 32) = false := by simp <;> omega
     have i1 : ((c.toNat : Int) == 9) = true := by simp <;> omega
     have Hh0 := lH h0; have Hh1 := lH h1; clear HM h0 h1
     go_enter func95, ntmps95
     go_wp2_with fail
     all_goals first | (go_ret; exact ⟨rfl, rfl⟩) | (go_ret; refine ⟨?_, rfl⟩; have h0 := Hh0.out; have h1 := Hh1.out; simp <;> omega)
   · have hM : M = false := by rw [← HM.out]; simp [blankB, h0, h1] <;> omega
     subst hM
     have i0 : ((c.toNat : Int) == 32) = false := by simp <;> omega
     have i1 : ((c.toNat : Int) == 9) = false := by simp <;> omega
     have Hh0 := lH h0; have Hh1 := lH h1; clear HM h0 h1
     go_enter func95, ntmps95
     go_wp2_with fail
     all_goals first | (go_ret; exact ⟨rfl, rfl⟩) | (go_ret; refine ⟨?_, rfl⟩; have h0 := Hh0.out; have h1 := Hh1.out; simp <;> omega)
theorem valued_any (f : FuncId) (hf : f = 97) (c : UInt8) (w : World) : Calls prog f #[.int .u8 (c.toNat : Int)] w fun e w' => e = .returned (.bool (valuedB c)) ∧ w' = w := by
 subst hf
 have hc1 := c.toNat_lt
 obtain ⟨M, HM⟩ : ∃ z, Hid (valuedB c = z) := ⟨_, rfl⟩
 rw [HM.out]
 by_cases h0 : c.toNat = 9
 · have hM : M = true := by rw [← HM.out]; simp [valuedB, h0] <;> omega
   subst hM
   have i0 : ((c.toNat : Int) == 9) = true := by simp <;> omega
   have Hh0 := lH h0; clear HM h0
   go_enter func97, ntmps97
   go_wp2_with fail
   all_goals first | (go_ret; exact ⟨rfl, rfl⟩) | (go_ret; refine ⟨?_, rfl⟩; have h0 := Hh0.out; simp <;> omega)
 · by_cases h1 : 32 ≤ c.toNat
   · by_cases h2 : c.toNat = 127
     · have hM : M = false := by rw [← HM.out]; simp [valuedB, h2] <;> omega
       subst hM
       have i0 : ((c.toNat : Int) == 9) = false := by simp <;> omega
       have i1 : (32 : Int) ≤ (c.toNat : Int) := by omega
       have i2 : ((c.toNat : Int) == 127) = true := by simp <;> omega
       have Hh0 := lH h0; have Hh1 := lH h1; have Hh2 := lH h2; clear HM h0 h1 h2
       go_enter func97, ntmps97
       go_wp2_with fail
       all_goals first | (go_ret; exact ⟨rfl, rfl⟩) | (go_ret; refine ⟨?_, rfl⟩; have h0 := Hh0.out; have h1 := Hh1.out; have h2 := Hh2.out; simp <;> omega)
     · have hM : M = true := by rw [← HM.out]; simp [valuedB, h0, h1, h2] <;> omega
       subst hM
       have i0 : ((c.toNat : Int) == 9) = false := by simp <;> omega
       have i1 : (32 : Int) ≤ (c.toNat : Int) := by omega
       have i2 : ((c.toNat : Int) == 127) = false := by simp <;> omega
       have Hh0 := lH h0; have Hh1 := lH h1; have Hh2 := lH h2; clear HM h0 h1 h2
       go_enter func97, ntmps97
       go_wp2_with fail
       all_goals first | (go_ret; exact ⟨rfl, rfl⟩) | (go_ret; refine ⟨?_, rfl⟩; have h0 := Hh0.out; have h1 := Hh1.out; have h2 := Hh2.out; simp <;> omega)
   · have hM : M = false := by rw [← HM.out]; simp [valuedB, h0, h1] <;> omega
     subst hM
     have i0 : ((c.toNat : Int) == 9) = false := by simp <;> omega
     have i1 : (c.toNat : Int) < 32 := by omega
     have j1 : ¬ (32 : Int) ≤ (c.toNat : Int) := by omega
     have Hh0 := lH h0; have Hh1 := lH h1; clear HM h0 h1
     go_enter func97, ntmps97
     go_wp2_with fail
     all_goals first | (go_ret; exact ⟨rfl, rfl⟩) | (go_ret; refine ⟨?_, rfl⟩; have h0 := Hh0.out; have h1 := Hh1.out; simp <;> omega)
theorem named_any (f : FuncId) (hf : f = 94) (c : UInt8) (w : World) : Calls prog f #[.int .u8 (c.toNat : Int)] w fun e w' => e = .returned (.bool (namedB c)) ∧ w' = w := by
 subst hf
 have hc1 := c.toNat_lt
 obtain ⟨M, HM⟩ : ∃ z, Hid (namedB c = z) := ⟨_, rfl⟩
 rw [HM.out]
 cases hu : upB c with
 | true =>
  have hU := fun w => capital_any _ rfl c w
  rw [hu] at hU
  have hM : M = true := by rw [← HM.out]; simp [namedB, hu] <;> omega
  subst hM
  clear HM 
  go_enter func94, ntmps94
  go_wp2_with (go_at_call 89; refine (hU _).mono ?_; rintro e w1 ⟨rfl, rfl⟩)
  all_goals first | (go_ret; exact ⟨rfl, rfl⟩) | (go_ret; refine ⟨?_, rfl⟩; simp <;> omega)
 | false =>
  have hU := fun w => capital_any _ rfl c w
  rw [hu] at hU
  by_cases h1 : 97 ≤ c.toNat
  · by_cases h2 : c.toNat ≤ 122
    · have hM : M = true := by rw [← HM.out]; simp [namedB, hu, h1, h2] <;> omega
      subst hM
      have i1 : (97 : Int) ≤ (c.toNat : Int) := by omega
      have i2 : (c.toNat : Int) ≤ 122 := by omega
      have Hh1 := lH h1; have Hh2 := lH h2; clear HM h1 h2
      go_enter func94, ntmps94
      go_wp2_with (go_at_call 89; refine (hU _).mono ?_; rintro e w1 ⟨rfl, rfl⟩)
      all_goals first | (go_ret; exact ⟨rfl, rfl⟩) | (go_ret; refine ⟨?_, rfl⟩; have h1 := Hh1.out; have h2 := Hh2.out; simp <;> omega)
    · by_cases h3 : 48 ≤ c.toNat
      · by_cases h4 : c.toNat ≤ 57
        · have hM : M = true := by rw [← HM.out]; simp [namedB, hu, h1, h2, h3, h4] <;> omega
          subst hM
          have i1 : (97 : Int) ≤ (c.toNat : Int) := by omega
          have i2 : (122 : Int) < (c.toNat : Int) := by omega
          have j2 : ¬ (c.toNat : Int) ≤ 122 := by omega
          have i3 : (48 : Int) ≤ (c.toNat : Int) := by omega
          have i4 : (c.toNat : Int) ≤ 57 := by omega
          have Hh1 := lH h1; have Hh2 := lH h2; have Hh3 := lH h3; have Hh4 := lH h4; clear HM h1 h2 h3 h4
          go_enter func94, ntmps94
          go_wp2_with (go_at_call 89; refine (hU _).mono ?_; rintro e w1 ⟨rfl, rfl⟩)
          all_goals first | (go_ret; exact ⟨rfl, rfl⟩) | (go_ret; refine ⟨?_, rfl⟩; have h1 := Hh1.out; have h2 := Hh2.out; have h3 := Hh3.out; have h4 := Hh4.out; simp <;> omega)
        · by_cases h5 : c.toNat = 45
          · have hM : M = true := by rw [← HM.out]; simp [namedB, hu, h5] <;> omega
            subst hM
            have i1 : (97 : Int) ≤ (c.toNat : Int) := by omega
            have i2 : (122 : Int) < (c.toNat : Int) := by omega
            have j2 : ¬ (c.toNat : Int) ≤ 122 := by omega
            have i3 : (48 : Int) ≤ (c.toNat : Int) := by omega
            have i4 : (57 : Int) < (c.toNat : Int) := by omega
            have j4 : ¬ (c.toNat : Int) ≤ 57 := by omega
            have i5 : ((c.toNat : Int) == 45) = true := by simp <;> omega
            have Hh1 := lH h1; have Hh2 := lH h2; have Hh3 := lH h3; have Hh4 := lH h4; have Hh5 := lH h5; clear HM h1 h2 h3 h4 h5
            go_enter func94, ntmps94
            go_wp2_with (go_at_call 89; refine (hU _).mono ?_; rintro e w1 ⟨rfl, rfl⟩)
            all_goals first | (go_ret; exact ⟨rfl, rfl⟩) | (go_ret; refine ⟨?_, rfl⟩; have h1 := Hh1.out; have h2 := Hh2.out; have h3 := Hh3.out; have h4 := Hh4.out; have h5 := Hh5.out; simp <;> omega)
          · have hM : M = false := by rw [← HM.out]; simp [namedB, hu, h1, h2, h3, h4, h5] <;> omega
            subst hM
            have i1 : (97 : Int) ≤ (c.toNat : Int) := by omega
            have i2 : (122 : Int) < (c.toNat : Int) := by omega
            have j2 : ¬ (c.toNat : Int) ≤ 122 := by omega
            have i3 : (48 : Int) ≤ (c.toNat : Int) := by omega
            have i4 : (57 : Int) < (c.toNat : Int) := by omega
            have j4 : ¬ (c.toNat : Int) ≤ 57 := by omega
            have i5 : ((c.toNat : Int) == 45) = false := by simp <;> omega
            have Hh1 := lH h1; have Hh2 := lH h2; have Hh3 := lH h3; have Hh4 := lH h4; have Hh5 := lH h5; clear HM h1 h2 h3 h4 h5
            go_enter func94, ntmps94
            go_wp2_with (go_at_call 89; refine (hU _).mono ?_; rintro e w1 ⟨rfl, rfl⟩)
            all_goals first | (go_ret; exact ⟨rfl, rfl⟩) | (go_ret; refine ⟨?_, rfl⟩; have h1 := Hh1.out; have h2 := Hh2.out; have h3 := Hh3.out; have h4 := Hh4.out; have h5 := Hh5.out; simp <;> omega)
      · by_cases h4 : c.toNat = 45
        · have hM : M = true := by rw [← HM.out]; simp [namedB, hu, h4] <;> omega
          subst hM
          have i1 : (97 : Int) ≤ (c.toNat : Int) := by omega
          have i2 : (122 : Int) < (c.toNat : Int) := by omega
          have j2 : ¬ (c.toNat : Int) ≤ 122 := by omega
          have i3 : (c.toNat : Int) < 48 := by omega
          have j3 : ¬ (48 : Int) ≤ (c.toNat : Int) := by omega
          have i4 : ((c.toNat : Int) == 45) = true := by simp <;> omega
          have Hh1 := lH h1; have Hh2 := lH h2; have Hh3 := lH h3; have Hh4 := lH h4; clear HM h1 h2 h3 h4
          go_enter func94, ntmps94
          go_wp2_with (go_at_call 89; refine (hU _).mono ?_; rintro e w1 ⟨rfl, rfl⟩)
          all_goals first | (go_ret; exact ⟨rfl, rfl⟩) | (go_ret; refine ⟨?_, rfl⟩; have h1 := Hh1.out; have h2 := Hh2.out; have h3 := Hh3.out; have h4 := Hh4.out; simp <;> omega)
        · have hM : M = false := by rw [← HM.out]; simp [namedB, hu, h1, h2, h3, h4] <;> omega
          subst hM
          have i1 : (97 : Int) ≤ (c.toNat : Int) := by omega
          have i2 : (122 : Int) < (c.toNat : Int) := by omega
          have j2 : ¬ (c.toNat : Int) ≤ 122 := by omega
          have i3 : (c.toNat : Int) < 48 := by omega
          have j3 : ¬ (48 : Int) ≤ (c.toNat : Int) := by omega
          have i4 : ((c.toNat : Int) == 45) = false := by simp <;> omega
          have Hh1 := lH h1; have Hh2 := lH h2; have Hh3 := lH h3; have Hh4 := lH h4; clear HM h1 h2 h3 h4
          go_enter func94, ntmps94
          go_wp2_with (go_at_call 89; refine (hU _).mono ?_; rintro e w1 ⟨rfl, rfl⟩)
          all_goals first | (go_ret; exact ⟨rfl, rfl⟩) | (go_ret; refine ⟨?_, rfl⟩; have h1 := Hh1.out; have h2 := Hh2.out; have h3 := Hh3.out; have h4 := Hh4.out; simp <;> omega)
  · by_cases h2 : 48 ≤ c.toNat
    · by_cases h3 : c.toNat ≤ 57
      · have hM : M = true := by rw [← HM.out]; simp [namedB, hu, h1, h2, h3] <;> omega
        subst hM
        have i1 : (c.toNat : Int) < 97 := by omega
        have j1 : ¬ (97 : Int) ≤ (c.toNat : Int) := by omega
        have i2 : (48 : Int) ≤ (c.toNat : Int) := by omega
        have i3 : (c.toNat : Int) ≤ 57 := by omega
        have Hh1 := lH h1; have Hh2 := lH h2; have Hh3 := lH h3; clear HM h1 h2 h3
        go_enter func94, ntmps94
        go_wp2_with (go_at_call 89; refine (hU _).mono ?_; rintro e w1 ⟨rfl, rfl⟩)
        all_goals first | (go_ret; exact ⟨rfl, rfl⟩) | (go_ret; refine ⟨?_, rfl⟩; have h1 := Hh1.out; have h2 := Hh2.out; have h3 := Hh3.out; simp <;> omega)
      · by_cases h4 : c.toNat = 45
        · have hM : M = true := by rw [← HM.out]; simp [namedB, hu, h4] <;> omega
          subst hM
          have i1 : (c.toNat : Int) < 97 := by omega
          have j1 : ¬ (97 : Int) ≤ (c.toNat : Int) := by omega
          have i2 : (48 : Int) ≤ (c.toNat : Int) := by omega
          have i3 : (57 : Int) < (c.toNat : Int) := by omega
          have j3 : ¬ (c.toNat : Int) ≤ 57 := by omega
          have i4 : ((c.toNat : Int) == 45) = true := by simp <;> omega
          have Hh1 := lH h1; have Hh2 := lH h2; have Hh3 := lH h3; have Hh4 := lH h4; clear HM h1 h2 h3 h4
          go_enter func94, ntmps94
          go_wp2_with (go_at_call 89; refine (hU _).mono ?_; rintro e w1 ⟨rfl, rfl⟩)
          all_goals first | (go_ret; exact ⟨rfl, rfl⟩) | (go_ret; refine ⟨?_, rfl⟩; have h1 := Hh1.out; have h2 := Hh2.out; have h3 := Hh3.out; have h4 := Hh4.out; simp <;> omega)
        · have hM : M = false := by rw [← HM.out]; simp [namedB, hu, h1, h2, h3, h4] <;> omega
          subst hM
          have i1 : (c.toNat : Int) < 97 := by omega
          have j1 : ¬ (97 : Int) ≤ (c.toNat : Int) := by omega
          have i2 : (48 : Int) ≤ (c.toNat : Int) := by omega
          have i3 : (57 : Int) < (c.toNat : Int) := by omega
          have j3 : ¬ (c.toNat : Int) ≤ 57 := by omega
          have i4 : ((c.toNat : Int) == 45) = false := by simp <;> omega
          have Hh1 := lH h1; have Hh2 := lH h2; have Hh3 := lH h3; have Hh4 := lH h4; clear HM h1 h2 h3 h4
          go_enter func94, ntmps94
          go_wp2_with (go_at_call 89; refine (hU _).mono ?_; rintro e w1 ⟨rfl, rfl⟩)
          all_goals first | (go_ret; exact ⟨rfl, rfl⟩) | (go_ret; refine ⟨?_, rfl⟩; have h1 := Hh1.out; have h2 := Hh2.out; have h3 := Hh3.out; have h4 := Hh4.out; simp <;> omega)
    · by_cases h3 : c.toNat = 45
      · have hM : M = true := by rw [← HM.out]; simp [namedB, hu, h3] <;> omega
        subst hM
        have i1 : (c.toNat : Int) < 97 := by omega
        have j1 : ¬ (97 : Int) ≤ (c.toNat : Int) := by omega
        have i2 : (c.toNat : Int) < 48 := by omega
        have j2 : ¬ (48 : Int) ≤ (c.toNat : Int) := by omega
        have i3 : ((c.toNat : Int) == 45) = true := by simp <;> omega
        have Hh1 := lH h1; have Hh2 := lH h2; have Hh3 := lH h3; clear HM h1 h2 h3
        go_enter func94, ntmps94
        go_wp2_with (go_at_call 89; refine (hU _).mono ?_; rintro e w1 ⟨rfl, rfl⟩)
        all_goals first | (go_ret; exact ⟨rfl, rfl⟩) | (go_ret; refine ⟨?_, rfl⟩; have h1 := Hh1.out; have h2 := Hh2.out; have h3 := Hh3.out; simp <;> omega)
      · have hM : M = false := by rw [← HM.out]; simp [namedB, hu, h1, h2, h3] <;> omega
        subst hM
        have i1 : (c.toNat : Int) < 97 := by omega
        have j1 : ¬ (97 : Int) ≤ (c.toNat : Int) := by omega
        have i2 : (c.toNat : Int) < 48 := by omega
        have j2 : ¬ (48 : Int) ≤ (c.toNat : Int) := by omega
        have i3 : ((c.toNat : Int) == 45) = false := by simp <;> omega
        have Hh1 := lH h1; have Hh2 := lH h2; have Hh3 := lH h3; clear HM h1 h2 h3
        go_enter func94, ntmps94
        go_wp2_with (go_at_call 89; refine (hU _).mono ?_; rintro e w1 ⟨rfl, rfl⟩)
        all_goals first | (go_ret; exact ⟨rfl, rfl⟩) | (go_ret; refine ⟨?_, rfl⟩; have h1 := Hh1.out; have h2 := Hh2.out; have h3 := Hh3.out; simp <;> omega)
theorem rvalued_any (f : FuncId) (hf : f = 102) (c : UInt8) (w : World) : Calls prog f #[.int .u8 (c.toNat : Int)] w fun e w' => e = .returned (.bool (valuedB c)) ∧ w' = w := by
 subst hf
 have hc1 := c.toNat_lt
 obtain ⟨M, HM⟩ : ∃ z, Hid (valuedB c = z) := ⟨_, rfl⟩
 rw [HM.out]
 by_cases h0 : c.toNat = 9
 · have hM : M = true := by rw [← HM.out]; simp [valuedB, h0] <;> omega
   subst hM
   have i0 : ((c.toNat : Int) == 9) = true := by simp <;> omega
   have Hh0 := lH h0; clear HM h0
   go_enter func102, ntmps102
   go_wp2_with fail
   all_goals first | (go_ret; exact ⟨rfl, rfl⟩) | (go_ret; refine ⟨?_, rfl⟩; have h0 := Hh0.out; simp <;> omega)
 · by_cases h1 : 32 ≤ c.toNat
   · by_cases h2 : c.toNat = 127
     · have hM : M = false := by rw [← HM.out]; simp [valuedB, h2] <;> omega
       subst hM
       have i0 : ((c.toNat : Int) == 9) = false := by simp <;> omega
       have i1 : (32 : Int) ≤ (c.toNat : Int) := by omega
       have i2 : ((c.toNat : Int) == 127) = true := by simp <;> omega
       have Hh0 := lH h0; have Hh1 := lH h1; have Hh2 := lH h2; clear HM h0 h1 h2
       go_enter func102, ntmps102
       go_wp2_with fail
       all_goals first | (go_ret; exact ⟨rfl, rfl⟩) | (go_ret; refine ⟨?_, rfl⟩; have h0 := Hh0.out; have h1 := Hh1.out; have h2 := Hh2.out; simp <;> omega)
     · have hM : M = true := by rw [← HM.out]; simp [valuedB, h0, h1, h2] <;> omega
       subst hM
       have i0 : ((c.toNat : Int) == 9) = false := by simp <;> omega
       have i1 : (32 : Int) ≤ (c.toNat : Int) := by omega
       have i2 : ((c.toNat : Int) == 127) = false := by simp <;> omega
       have Hh0 := lH h0; have Hh1 := lH h1; have Hh2 := lH h2; clear HM h0 h1 h2
       go_enter func102, ntmps102
       go_wp2_with fail
       all_goals first | (go_ret; exact ⟨rfl, rfl⟩) | (go_ret; refine ⟨?_, rfl⟩; have h0 := Hh0.out; have h1 := Hh1.out; have h2 := Hh2.out; simp <;> omega)
   · have hM : M = false := by rw [← HM.out]; simp [valuedB, h0, h1] <;> omega
     subst hM
     have i0 : ((c.toNat : Int) == 9) = false := by simp <;> omega
     have i1 : (c.toNat : Int) < 32 := by omega
     have j1 : ¬ (32 : Int) ≤ (c.toNat : Int) := by omega
     have Hh0 := lH h0; have Hh1 := lH h1; clear HM h0 h1
     go_enter func102, ntmps102
     go_wp2_with fail
     all_goals first | (go_ret; exact ⟨rfl, rfl⟩) | (go_ret; refine ⟨?_, rfl⟩; have h0 := Hh0.out; have h1 := Hh1.out; simp <;> omega)
theorem rnamed_any (f : FuncId) (hf : f = 100) (c : UInt8) (w : World) : Calls prog f #[.int .u8 (c.toNat : Int)] w fun e w' => e = .returned (.bool (namedB c)) ∧ w' = w := by
 subst hf
 have hc1 := c.toNat_lt
 obtain ⟨M, HM⟩ : ∃ z, Hid (namedB c = z) := ⟨_, rfl⟩
 rw [HM.out]
 cases hu : upB c with
 | true =>
  have hU := fun w => upper_any _ rfl c w
  rw [hu] at hU
  have hM : M = true := by rw [← HM.out]; simp [namedB, hu] <;> omega
  subst hM
  clear HM 
  go_enter func100, ntmps100
  go_wp2_with (go_at_call 99; refine (hU _).mono ?_; rintro e w1 ⟨rfl, rfl⟩)
  all_goals first | (go_ret; exact ⟨rfl, rfl⟩) | (go_ret; refine ⟨?_, rfl⟩; simp <;> omega)
 | false =>
  have hU := fun w => upper_any _ rfl c w
  rw [hu] at hU
  by_cases h1 : 97 ≤ c.toNat
  · by_cases h2 : c.toNat ≤ 122
    · have hM : M = true := by rw [← HM.out]; simp [namedB, hu, h1, h2] <;> omega
      subst hM
      have i1 : (97 : Int) ≤ (c.toNat : Int) := by omega
      have i2 : (c.toNat : Int) ≤ 122 := by omega
      have Hh1 := lH h1; have Hh2 := lH h2; clear HM h1 h2
      go_enter func100, ntmps100
      go_wp2_with (go_at_call 99; refine (hU _).mono ?_; rintro e w1 ⟨rfl, rfl⟩)
      all_goals first | (go_ret; exact ⟨rfl, rfl⟩) | (go_ret; refine ⟨?_, rfl⟩; have h1 := Hh1.out; have h2 := Hh2.out; simp <;> omega)
    · by_cases h3 : 48 ≤ c.toNat
      · by_cases h4 : c.toNat ≤ 57
        · have hM : M = true := by rw [← HM.out]; simp [namedB, hu, h1, h2, h3, h4] <;> omega
          subst hM
          have i1 : (97 : Int) ≤ (c.toNat : Int) := by omega
          have i2 : (122 : Int) < (c.toNat : Int) := by omega
          have j2 : ¬ (c.toNat : Int) ≤ 122 := by omega
          have i3 : (48 : Int) ≤ (c.toNat : Int) := by omega
          have i4 : (c.toNat : Int) ≤ 57 := by omega
          have Hh1 := lH h1; have Hh2 := lH h2; have Hh3 := lH h3; have Hh4 := lH h4; clear HM h1 h2 h3 h4
          go_enter func100, ntmps100
          go_wp2_with (go_at_call 99; refine (hU _).mono ?_; rintro e w1 ⟨rfl, rfl⟩)
          all_goals first | (go_ret; exact ⟨rfl, rfl⟩) | (go_ret; refine ⟨?_, rfl⟩; have h1 := Hh1.out; have h2 := Hh2.out; have h3 := Hh3.out; have h4 := Hh4.out; simp <;> omega)
        · by_cases h5 : c.toNat = 45
          · have hM : M = true := by rw [← HM.out]; simp [namedB, hu, h5] <;> omega
            subst hM
            have i1 : (97 : Int) ≤ (c.toNat : Int) := by omega
            have i2 : (122 : Int) < (c.toNat : Int) := by omega
            have j2 : ¬ (c.toNat : Int) ≤ 122 := by omega
            have i3 : (48 : Int) ≤ (c.toNat : Int) := by omega
            have i4 : (57 : Int) < (c.toNat : Int) := by omega
            have j4 : ¬ (c.toNat : Int) ≤ 57 := by omega
            have i5 : ((c.toNat : Int) == 45) = true := by simp <;> omega
            have Hh1 := lH h1; have Hh2 := lH h2; have Hh3 := lH h3; have Hh4 := lH h4; have Hh5 := lH h5; clear HM h1 h2 h3 h4 h5
            go_enter func100, ntmps100
            go_wp2_with (go_at_call 99; refine (hU _).mono ?_; rintro e w1 ⟨rfl, rfl⟩)
            all_goals first | (go_ret; exact ⟨rfl, rfl⟩) | (go_ret; refine ⟨?_, rfl⟩; have h1 := Hh1.out; have h2 := Hh2.out; have h3 := Hh3.out; have h4 := Hh4.out; have h5 := Hh5.out; simp <;> omega)
          · have hM : M = false := by rw [← HM.out]; simp [namedB, hu, h1, h2, h3, h4, h5] <;> omega
            subst hM
            have i1 : (97 : Int) ≤ (c.toNat : Int) := by omega
            have i2 : (122 : Int) < (c.toNat : Int) := by omega
            have j2 : ¬ (c.toNat : Int) ≤ 122 := by omega
            have i3 : (48 : Int) ≤ (c.toNat : Int) := by omega
            have i4 : (57 : Int) < (c.toNat : Int) := by omega
            have j4 : ¬ (c.toNat : Int) ≤ 57 := by omega
            have i5 : ((c.toNat : Int) == 45) = false := by simp <;> omega
            have Hh1 := lH h1; have Hh2 := lH h2; have Hh3 := lH h3; have Hh4 := lH h4; have Hh5 := lH h5; clear HM h1 h2 h3 h4 h5
            go_enter func100, ntmps100
            go_wp2_with (go_at_call 99; refine (hU _).mono ?_; rintro e w1 ⟨rfl, rfl⟩)
            all_goals first | (go_ret; exact ⟨rfl, rfl⟩) | (go_ret; refine ⟨?_, rfl⟩; have h1 := Hh1.out; have h2 := Hh2.out; have h3 := Hh3.out; have h4 := Hh4.out; have h5 := Hh5.out; simp <;> omega)
      · by_cases h4 : c.toNat = 45
        · have hM : M = true := by rw [← HM.out]; simp [namedB, hu, h4] <;> omega
          subst hM
          have i1 : (97 : Int) ≤ (c.toNat : Int) := by omega
          have i2 : (122 : Int) < (c.toNat : Int) := by omega
          have j2 : ¬ (c.toNat : Int) ≤ 122 := by omega
          have i3 : (c.toNat : Int) < 48 := by omega
          have j3 : ¬ (48 : Int) ≤ (c.toNat : Int) := by omega
          have i4 : ((c.toNat : Int) == 45) = true := by simp <;> omega
          have Hh1 := lH h1; have Hh2 := lH h2; have Hh3 := lH h3; have Hh4 := lH h4; clear HM h1 h2 h3 h4
          go_enter func100, ntmps100
          go_wp2_with (go_at_call 99; refine (hU _).mono ?_; rintro e w1 ⟨rfl, rfl⟩)
          all_goals first | (go_ret; exact ⟨rfl, rfl⟩) | (go_ret; refine ⟨?_, rfl⟩; have h1 := Hh1.out; have h2 := Hh2.out; have h3 := Hh3.out; have h4 := Hh4.out; simp <;> omega)
        · have hM : M = false := by rw [← HM.out]; simp [namedB, hu, h1, h2, h3, h4] <;> omega
          subst hM
          have i1 : (97 : Int) ≤ (c.toNat : Int) := by omega
          have i2 : (122 : Int) < (c.toNat : Int) := by omega
          have j2 : ¬ (c.toNat : Int) ≤ 122 := by omega
          have i3 : (c.toNat : Int) < 48 := by omega
          have j3 : ¬ (48 : Int) ≤ (c.toNat : Int) := by omega
          have i4 : ((c.toNat : Int) == 45) = false := by simp <;> omega
          have Hh1 := lH h1; have Hh2 := lH h2; have Hh3 := lH h3; have Hh4 := lH h4; clear HM h1 h2 h3 h4
          go_enter func100, ntmps100
          go_wp2_with (go_at_call 99; refine (hU _).mono ?_; rintro e w1 ⟨rfl, rfl⟩)
          all_goals first | (go_ret; exact ⟨rfl, rfl⟩) | (go_ret; refine ⟨?_, rfl⟩; have h1 := Hh1.out; have h2 := Hh2.out; have h3 := Hh3.out; have h4 := Hh4.out; simp <;> omega)
  · by_cases h2 : 48 ≤ c.toNat
    · by_cases h3 : c.toNat ≤ 57
      · have hM : M = true := by rw [← HM.out]; simp [namedB, hu, h1, h2, h3] <;> omega
        subst hM
        have i1 : (c.toNat : Int) < 97 := by omega
        have j1 : ¬ (97 : Int) ≤ (c.toNat : Int) := by omega
        have i2 : (48 : Int) ≤ (c.toNat : Int) := by omega
        have i3 : (c.toNat : Int) ≤ 57 := by omega
        have Hh1 := lH h1; have Hh2 := lH h2; have Hh3 := lH h3; clear HM h1 h2 h3
        go_enter func100, ntmps100
        go_wp2_with (go_at_call 99; refine (hU _).mono ?_; rintro e w1 ⟨rfl, rfl⟩)
        all_goals first | (go_ret; exact ⟨rfl, rfl⟩) | (go_ret; refine ⟨?_, rfl⟩; have h1 := Hh1.out; have h2 := Hh2.out; have h3 := Hh3.out; simp <;> omega)
      · by_cases h4 : c.toNat = 45
        · have hM : M = true := by rw [← HM.out]; simp [namedB, hu, h4] <;> omega
          subst hM
          have i1 : (c.toNat : Int) < 97 := by omega
          have j1 : ¬ (97 : Int) ≤ (c.toNat : Int) := by omega
          have i2 : (48 : Int) ≤ (c.toNat : Int) := by omega
          have i3 : (57 : Int) < (c.toNat : Int) := by omega
          have j3 : ¬ (c.toNat : Int) ≤ 57 := by omega
          have i4 : ((c.toNat : Int) == 45) = true := by simp <;> omega
          have Hh1 := lH h1; have Hh2 := lH h2; have Hh3 := lH h3; have Hh4 := lH h4; clear HM h1 h2 h3 h4
          go_enter func100, ntmps100
          go_wp2_with (go_at_call 99; refine (hU _).mono ?_; rintro e w1 ⟨rfl, rfl⟩)
          all_goals first | (go_ret; exact ⟨rfl, rfl⟩) | (go_ret; refine ⟨?_, rfl⟩; have h1 := Hh1.out; have h2 := Hh2.out; have h3 := Hh3.out; have h4 := Hh4.out; simp <;> omega)
        · have hM : M = false := by rw [← HM.out]; simp [namedB, hu, h1, h2, h3, h4] <;> omega
          subst hM
          have i1 : (c.toNat : Int) < 97 := by omega
          have j1 : ¬ (97 : Int) ≤ (c.toNat : Int) := by omega
          have i2 : (48 : Int) ≤ (c.toNat : Int) := by omega
          have i3 : (57 : Int) < (c.toNat : Int) := by omega
          have j3 : ¬ (c.toNat : Int) ≤ 57 := by omega
          have i4 : ((c.toNat : Int) == 45) = false := by simp <;> omega
          have Hh1 := lH h1; have Hh2 := lH h2; have Hh3 := lH h3; have Hh4 := lH h4; clear HM h1 h2 h3 h4
          go_enter func100, ntmps100
          go_wp2_with (go_at_call 99; refine (hU _).mono ?_; rintro e w1 ⟨rfl, rfl⟩)
          all_goals first | (go_ret; exact ⟨rfl, rfl⟩) | (go_ret; refine ⟨?_, rfl⟩; have h1 := Hh1.out; have h2 := Hh2.out; have h3 := Hh3.out; have h4 := Hh4.out; simp <;> omega)
    · by_cases h3 : c.toNat = 45
      · have hM : M = true := by rw [← HM.out]; simp [namedB, hu, h3] <;> omega
        subst hM
        have i1 : (c.toNat : Int) < 97 := by omega
        have j1 : ¬ (97 : Int) ≤ (c.toNat : Int) := by omega
        have i2 : (c.toNat : Int) < 48 := by omega
        have j2 : ¬ (48 : Int) ≤ (c.toNat : Int) := by omega
        have i3 : ((c.toNat : Int) == 45) = true := by simp <;> omega
        have Hh1 := lH h1; have Hh2 := lH h2; have Hh3 := lH h3; clear HM h1 h2 h3
        go_enter func100, ntmps100
        go_wp2_with (go_at_call 99; refine (hU _).mono ?_; rintro e w1 ⟨rfl, rfl⟩)
        all_goals first | (go_ret; exact ⟨rfl, rfl⟩) | (go_ret; refine ⟨?_, rfl⟩; have h1 := Hh1.out; have h2 := Hh2.out; have h3 := Hh3.out; simp <;> omega)
      · have hM : M = false := by rw [← HM.out]; simp [namedB, hu, h1, h2, h3] <;> omega
        subst hM
        have i1 : (c.toNat : Int) < 97 := by omega
        have j1 : ¬ (97 : Int) ≤ (c.toNat : Int) := by omega
        have i2 : (c.toNat : Int) < 48 := by omega
        have j2 : ¬ (48 : Int) ≤ (c.toNat : Int) := by omega
        have i3 : ((c.toNat : Int) == 45) = false := by simp <;> omega
        have Hh1 := lH h1; have Hh2 := lH h2; have Hh3 := lH h3; clear HM h1 h2 h3
        go_enter func100, ntmps100
        go_wp2_with (go_at_call 99; refine (hU _).mono ?_; rintro e w1 ⟨rfl, rfl⟩)
        all_goals first | (go_ret; exact ⟨rfl, rfl⟩) | (go_ret; refine ⟨?_, rfl⟩; have h1 := Hh1.out; have h2 := Hh2.out; have h3 := Hh3.out; simp <;> omega)
end Rw
end Go.Proofs.YtgpemnmopogppaaGreatDoor
