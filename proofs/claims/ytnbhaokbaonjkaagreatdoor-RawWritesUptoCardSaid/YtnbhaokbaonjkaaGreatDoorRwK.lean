/- raw: the kinds of letters: the walks. -/
import Derived.Test.YtnbhaokbaonjkaaGreatDoorRwA
namespace Go.Proofs.YtnbhaokbaonjkaaGreatDoor
open Go.RowKit
namespace Rw
set_option maxRecDepth 100000 in
theorem shown_any (f : FuncId) (hf : f = 65) (c : UInt8) (w : World) : Calls Tryz.prog f #[.int .u8 (c.toNat : Int)] w fun e w' => e = .returned (.bool (shownB c)) ∧ w' = w := by
  subst hf
  have hc1 := c.toNat_lt
  obtain ⟨M, HM⟩ : ∃ z, Hid (shownB c = z) := ⟨_, rfl⟩
  rw [HM.out]
  by_cases h0 : 32 < c.toNat
  · by_cases h1 : c.toNat < 127
    · have hM : M = true := by rw [← HM.out]; simp [shownB, h0, h1] <;> omega
      subst hM
      have i0 : (32 : Int) < (c.toNat : Int) := by omega
      have i1 : (c.toNat : Int) < 127 := by omega
      have Hh0 := Lib.hid h0; have Hh1 := Lib.hid h1; clear HM h0 h1
      go_enter Tryz.func65, Tryz.ntmps65
      go_wp2_with fail
      all_goals first | (go_ret; exact ⟨rfl, rfl⟩) | (go_ret; refine ⟨?_, rfl⟩; have h0 := Hh0.out; have h1 := Hh1.out; simp <;> omega)
    · have hM : M = false := by rw [← HM.out]; simp [shownB, h0, h1] <;> omega
      subst hM
      have i0 : (32 : Int) < (c.toNat : Int) := by omega
      have i1 : (127 : Int) ≤ (c.toNat : Int) := by omega
      have j1 : ¬ (c.toNat : Int) < 127 := by omega
      have Hh0 := Lib.hid h0; have Hh1 := Lib.hid h1; clear HM h0 h1
      go_enter Tryz.func65, Tryz.ntmps65
      go_wp2_with fail
      all_goals first | (go_ret; exact ⟨rfl, rfl⟩) | (go_ret; refine ⟨?_, rfl⟩; have h0 := Hh0.out; have h1 := Hh1.out; simp <;> omega)
  · have hM : M = false := by rw [← HM.out]; simp [shownB, h0] <;> omega
    subst hM
    have i0 : (c.toNat : Int) ≤ 32 := by omega
    have j0 : ¬ (32 : Int) < (c.toNat : Int) := by omega
    have Hh0 := Lib.hid h0; clear HM h0
    go_enter Tryz.func65, Tryz.ntmps65
    go_wp2_with fail
    all_goals first | (go_ret; exact ⟨rfl, rfl⟩) | (go_ret; refine ⟨?_, rfl⟩; have h0 := Hh0.out; simp <;> omega)
set_option maxRecDepth 100000 in
theorem blank_any (f : FuncId) (hf : f = 68) (c : UInt8) (w : World) : Calls Tryz.prog f #[.int .u8 (c.toNat : Int)] w fun e w' => e = .returned (.bool (blankB c)) ∧ w' = w := by
  subst hf
  have hc1 := c.toNat_lt
  obtain ⟨M, HM⟩ : ∃ z, Hid (blankB c = z) := ⟨_, rfl⟩
  rw [HM.out]
  by_cases h0 : c.toNat = 32
  · have hM : M = true := by rw [← HM.out]; simp [blankB, h0] <;> omega
    subst hM
    have i0 : ((c.toNat : Int) == 32) = true := by simp <;> omega
    have Hh0 := Lib.hid h0; clear HM h0
    go_enter Tryz.func68, Tryz.ntmps68
    go_wp2_with fail
    all_goals first | (go_ret; exact ⟨rfl, rfl⟩) | (go_ret; refine ⟨?_, rfl⟩; have h0 := Hh0.out; simp <;> omega)
  · by_cases h1 : c.toNat = 9
    · have hM : M = true := by rw [← HM.out]; simp [blankB, h1] <;> omega
      subst hM
      have i0 : ((c.toNat : Int) == 32) = false := by simp <;> omega
      have i1 : ((c.toNat : Int) == 9) = true := by simp <;> omega
      have Hh0 := Lib.hid h0; have Hh1 := Lib.hid h1; clear HM h0 h1
      go_enter Tryz.func68, Tryz.ntmps68
      go_wp2_with fail
      all_goals first | (go_ret; exact ⟨rfl, rfl⟩) | (go_ret; refine ⟨?_, rfl⟩; have h0 := Hh0.out; have h1 := Hh1.out; simp <;> omega)
    · have hM : M = false := by rw [← HM.out]; simp [blankB, h0, h1] <;> omega
      subst hM
      have i0 : ((c.toNat : Int) == 32) = false := by simp <;> omega
      have i1 : ((c.toNat : Int) == 9) = false := by simp <;> omega
      have Hh0 := Lib.hid h0; have Hh1 := Lib.hid h1; clear HM h0 h1
      go_enter Tryz.func68, Tryz.ntmps68
      go_wp2_with fail
      all_goals first | (go_ret; exact ⟨rfl, rfl⟩) | (go_ret; refine ⟨?_, rfl⟩; have h0 := Hh0.out; have h1 := Hh1.out; simp <;> omega)
set_option maxRecDepth 100000 in
theorem valued_any (f : FuncId) (hf : f = 70) (c : UInt8) (w : World) : Calls Tryz.prog f #[.int .u8 (c.toNat : Int)] w fun e w' => e = .returned (.bool (valuedB c)) ∧ w' = w := by
  subst hf
  have hc1 := c.toNat_lt
  obtain ⟨M, HM⟩ : ∃ z, Hid (valuedB c = z) := ⟨_, rfl⟩
  rw [HM.out]
  by_cases h0 : c.toNat = 9
  · have hM : M = true := by rw [← HM.out]; simp [valuedB, h0] <;> omega
    subst hM
    have i0 : ((c.toNat : Int) == 9) = true := by simp <;> omega
    have Hh0 := Lib.hid h0; clear HM h0
    go_enter Tryz.func70, Tryz.ntmps70
    go_wp2_with fail
    all_goals first | (go_ret; exact ⟨rfl, rfl⟩) | (go_ret; refine ⟨?_, rfl⟩; have h0 := Hh0.out; simp <;> omega)
  · by_cases h1 : 32 ≤ c.toNat
    · by_cases h2 : c.toNat = 127
      · have hM : M = false := by rw [← HM.out]; simp [valuedB, h2] <;> omega
        subst hM
        have i0 : ((c.toNat : Int) == 9) = false := by simp <;> omega
        have i1 : (32 : Int) ≤ (c.toNat : Int) := by omega
        have i2 : ((c.toNat : Int) == 127) = true := by simp <;> omega
        have Hh0 := Lib.hid h0; have Hh1 := Lib.hid h1; have Hh2 := Lib.hid h2; clear HM h0 h1 h2
        go_enter Tryz.func70, Tryz.ntmps70
        go_wp2_with fail
        all_goals first | (go_ret; exact ⟨rfl, rfl⟩) | (go_ret; refine ⟨?_, rfl⟩; have h0 := Hh0.out; have h1 := Hh1.out; have h2 := Hh2.out; simp <;> omega)
      · have hM : M = true := by rw [← HM.out]; simp [valuedB, h0, h1, h2] <;> omega
        subst hM
        have i0 : ((c.toNat : Int) == 9) = false := by simp <;> omega
        have i1 : (32 : Int) ≤ (c.toNat : Int) := by omega
        have i2 : ((c.toNat : Int) == 127) = false := by simp <;> omega
        have Hh0 := Lib.hid h0; have Hh1 := Lib.hid h1; have Hh2 := Lib.hid h2; clear HM h0 h1 h2
        go_enter Tryz.func70, Tryz.ntmps70
        go_wp2_with fail
        all_goals first | (go_ret; exact ⟨rfl, rfl⟩) | (go_ret; refine ⟨?_, rfl⟩; have h0 := Hh0.out; have h1 := Hh1.out; have h2 := Hh2.out; simp <;> omega)
    · have hM : M = false := by rw [← HM.out]; simp [valuedB, h0, h1] <;> omega
      subst hM
      have i0 : ((c.toNat : Int) == 9) = false := by simp <;> omega
      have i1 : (c.toNat : Int) < 32 := by omega
      have j1 : ¬ (32 : Int) ≤ (c.toNat : Int) := by omega
      have Hh0 := Lib.hid h0; have Hh1 := Lib.hid h1; clear HM h0 h1
      go_enter Tryz.func70, Tryz.ntmps70
      go_wp2_with fail
      all_goals first | (go_ret; exact ⟨rfl, rfl⟩) | (go_ret; refine ⟨?_, rfl⟩; have h0 := Hh0.out; have h1 := Hh1.out; simp <;> omega)
set_option maxRecDepth 100000 in
theorem named_any (f : FuncId) (hf : f = 67) (c : UInt8) (w : World) : Calls Tryz.prog f #[.int .u8 (c.toNat : Int)] w fun e w' => e = .returned (.bool (namedB c)) ∧ w' = w := by
  subst hf
  have hc1 := c.toNat_lt
  obtain ⟨M, HM⟩ : ∃ z, Hid (namedB c = z) := ⟨_, rfl⟩
  rw [HM.out]
  cases hu : upB c with
  | true =>
    have hU := fun w => capital_any _ rfl c w
    rw [hu] at hU
    have hM : M = true := by rw [← HM.out]; simp [namedB, hu] <;> omega
    subst hM
    clear HM 
    go_enter Tryz.func67, Tryz.ntmps67
    go_wp2_with (go_at_call 62; refine (hU _).mono ?_; rintro e w1 ⟨rfl, rfl⟩)
    all_goals first | (go_ret; exact ⟨rfl, rfl⟩) | (go_ret; refine ⟨?_, rfl⟩; simp <;> omega)
  | false =>
    have hU := fun w => capital_any _ rfl c w
    rw [hu] at hU
    by_cases h1 : 97 ≤ c.toNat
    · by_cases h2 : c.toNat ≤ 122
      · have hM : M = true := by rw [← HM.out]; simp [namedB, hu, h1, h2] <;> omega
        subst hM
        have i1 : (97 : Int) ≤ (c.toNat : Int) := by omega
        have i2 : (c.toNat : Int) ≤ 122 := by omega
        have Hh1 := Lib.hid h1; have Hh2 := Lib.hid h2; clear HM h1 h2
        go_enter Tryz.func67, Tryz.ntmps67
        go_wp2_with (go_at_call 62; refine (hU _).mono ?_; rintro e w1 ⟨rfl, rfl⟩)
        all_goals first | (go_ret; exact ⟨rfl, rfl⟩) | (go_ret; refine ⟨?_, rfl⟩; have h1 := Hh1.out; have h2 := Hh2.out; simp <;> omega)
      · by_cases h3 : 48 ≤ c.toNat
        · by_cases h4 : c.toNat ≤ 57
          · have hM : M = true := by rw [← HM.out]; simp [namedB, hu, h1, h2, h3, h4] <;> omega
            subst hM
            have i1 : (97 : Int) ≤ (c.toNat : Int) := by omega
            have i2 : (122 : Int) < (c.toNat : Int) := by omega
            have j2 : ¬ (c.toNat : Int) ≤ 122 := by omega
            have i3 : (48 : Int) ≤ (c.toNat : Int) := by omega
            have i4 : (c.toNat : Int) ≤ 57 := by omega
            have Hh1 := Lib.hid h1; have Hh2 := Lib.hid h2; have Hh3 := Lib.hid h3; have Hh4 := Lib.hid h4; clear HM h1 h2 h3 h4
            go_enter Tryz.func67, Tryz.ntmps67
            go_wp2_with (go_at_call 62; refine (hU _).mono ?_; rintro e w1 ⟨rfl, rfl⟩)
            all_goals first | (go_ret; exact ⟨rfl, rfl⟩) | (go_ret; refine ⟨?_, rfl⟩; have h1 := Hh1.out; have h2 := Hh2.out; have h3 := Hh3.out; have h4 := Hh4.out; simp <;> omega)
          · by_cases h5 : c.toNat = 45
            · have hM : M = true := by rw [← HM.out]; simp [namedB, hu, h5] <;> omega
              subst hM
              have i1 : (97 : Int) ≤ (c.toNat : Int) := by omega
              have i2 : (122 : Int) < (c.toNat : Int) := by omega
              have j2 : ¬ (c.toNat : Int) ≤ 122 := by omega
              have i3 : (48 : Int) ≤ (c.toNat : Int) := by omega
              have i4 : (57 : Int) < (c.toNat : Int) := by omega
              have j4 : ¬ (c.toNat : Int) ≤ 57 := by omega
              have i5 : ((c.toNat : Int) == 45) = true := by simp <;> omega
              have Hh1 := Lib.hid h1; have Hh2 := Lib.hid h2; have Hh3 := Lib.hid h3; have Hh4 := Lib.hid h4; have Hh5 := Lib.hid h5; clear HM h1 h2 h3 h4 h5
              go_enter Tryz.func67, Tryz.ntmps67
              go_wp2_with (go_at_call 62; refine (hU _).mono ?_; rintro e w1 ⟨rfl, rfl⟩)
              all_goals first | (go_ret; exact ⟨rfl, rfl⟩) | (go_ret; refine ⟨?_, rfl⟩; have h1 := Hh1.out; have h2 := Hh2.out; have h3 := Hh3.out; have h4 := Hh4.out; have h5 := Hh5.out; simp <;> omega)
            · have hM : M = false := by rw [← HM.out]; simp [namedB, hu, h1, h2, h3, h4, h5] <;> omega
              subst hM
              have i1 : (97 : Int) ≤ (c.toNat : Int) := by omega
              have i2 : (122 : Int) < (c.toNat : Int) := by omega
              have j2 : ¬ (c.toNat : Int) ≤ 122 := by omega
              have i3 : (48 : Int) ≤ (c.toNat : Int) := by omega
              have i4 : (57 : Int) < (c.toNat : Int) := by omega
              have j4 : ¬ (c.toNat : Int) ≤ 57 := by omega
              have i5 : ((c.toNat : Int) == 45) = false := by simp <;> omega
              have Hh1 := Lib.hid h1; have Hh2 := Lib.hid h2; have Hh3 := Lib.hid h3; have Hh4 := Lib.hid h4; have Hh5 := Lib.hid h5; clear HM h1 h2 h3 h4 h5
              go_enter Tryz.func67, Tryz.ntmps67
              go_wp2_with (go_at_call 62; refine (hU _).mono ?_; rintro e w1 ⟨rfl, rfl⟩)
              all_goals first | (go_ret; exact ⟨rfl, rfl⟩) | (go_ret; refine ⟨?_, rfl⟩; have h1 := Hh1.out; have h2 := Hh2.out; have h3 := Hh3.out; have h4 := Hh4.out; have h5 := Hh5.out; simp <;> omega)
        · by_cases h4 : c.toNat = 45
          · have hM : M = true := by rw [← HM.out]; simp [namedB, hu, h4] <;> omega
            subst hM
            have i1 : (97 : Int) ≤ (c.toNat : Int) := by omega
            have i2 : (122 : Int) < (c.toNat : Int) := by omega
            have j2 : ¬ (c.toNat : Int) ≤ 122 := by omega
            have i3 : (c.toNat : Int) < 48 := by omega
            have j3 : ¬ (48 : Int) ≤ (c.toNat : Int) := by omega
            have i4 : ((c.toNat : Int) == 45) = true := by simp <;> omega
            have Hh1 := Lib.hid h1; have Hh2 := Lib.hid h2; have Hh3 := Lib.hid h3; have Hh4 := Lib.hid h4; clear HM h1 h2 h3 h4
            go_enter Tryz.func67, Tryz.ntmps67
            go_wp2_with (go_at_call 62; refine (hU _).mono ?_; rintro e w1 ⟨rfl, rfl⟩)
            all_goals first | (go_ret; exact ⟨rfl, rfl⟩) | (go_ret; refine ⟨?_, rfl⟩; have h1 := Hh1.out; have h2 := Hh2.out; have h3 := Hh3.out; have h4 := Hh4.out; simp <;> omega)
          · have hM : M = false := by rw [← HM.out]; simp [namedB, hu, h1, h2, h3, h4] <;> omega
            subst hM
            have i1 : (97 : Int) ≤ (c.toNat : Int) := by omega
            have i2 : (122 : Int) < (c.toNat : Int) := by omega
            have j2 : ¬ (c.toNat : Int) ≤ 122 := by omega
            have i3 : (c.toNat : Int) < 48 := by omega
            have j3 : ¬ (48 : Int) ≤ (c.toNat : Int) := by omega
            have i4 : ((c.toNat : Int) == 45) = false := by simp <;> omega
            have Hh1 := Lib.hid h1; have Hh2 := Lib.hid h2; have Hh3 := Lib.hid h3; have Hh4 := Lib.hid h4; clear HM h1 h2 h3 h4
            go_enter Tryz.func67, Tryz.ntmps67
            go_wp2_with (go_at_call 62; refine (hU _).mono ?_; rintro e w1 ⟨rfl, rfl⟩)
            all_goals first | (go_ret; exact ⟨rfl, rfl⟩) | (go_ret; refine ⟨?_, rfl⟩; have h1 := Hh1.out; have h2 := Hh2.out; have h3 := Hh3.out; have h4 := Hh4.out; simp <;> omega)
    · by_cases h2 : 48 ≤ c.toNat
      · by_cases h3 : c.toNat ≤ 57
        · have hM : M = true := by rw [← HM.out]; simp [namedB, hu, h1, h2, h3] <;> omega
          subst hM
          have i1 : (c.toNat : Int) < 97 := by omega
          have j1 : ¬ (97 : Int) ≤ (c.toNat : Int) := by omega
          have i2 : (48 : Int) ≤ (c.toNat : Int) := by omega
          have i3 : (c.toNat : Int) ≤ 57 := by omega
          have Hh1 := Lib.hid h1; have Hh2 := Lib.hid h2; have Hh3 := Lib.hid h3; clear HM h1 h2 h3
          go_enter Tryz.func67, Tryz.ntmps67
          go_wp2_with (go_at_call 62; refine (hU _).mono ?_; rintro e w1 ⟨rfl, rfl⟩)
          all_goals first | (go_ret; exact ⟨rfl, rfl⟩) | (go_ret; refine ⟨?_, rfl⟩; have h1 := Hh1.out; have h2 := Hh2.out; have h3 := Hh3.out; simp <;> omega)
        · by_cases h4 : c.toNat = 45
          · have hM : M = true := by rw [← HM.out]; simp [namedB, hu, h4] <;> omega
            subst hM
            have i1 : (c.toNat : Int) < 97 := by omega
            have j1 : ¬ (97 : Int) ≤ (c.toNat : Int) := by omega
            have i2 : (48 : Int) ≤ (c.toNat : Int) := by omega
            have i3 : (57 : Int) < (c.toNat : Int) := by omega
            have j3 : ¬ (c.toNat : Int) ≤ 57 := by omega
            have i4 : ((c.toNat : Int) == 45) = true := by simp <;> omega
            have Hh1 := Lib.hid h1; have Hh2 := Lib.hid h2; have Hh3 := Lib.hid h3; have Hh4 := Lib.hid h4; clear HM h1 h2 h3 h4
            go_enter Tryz.func67, Tryz.ntmps67
            go_wp2_with (go_at_call 62; refine (hU _).mono ?_; rintro e w1 ⟨rfl, rfl⟩)
            all_goals first | (go_ret; exact ⟨rfl, rfl⟩) | (go_ret; refine ⟨?_, rfl⟩; have h1 := Hh1.out; have h2 := Hh2.out; have h3 := Hh3.out; have h4 := Hh4.out; simp <;> omega)
          · have hM : M = false := by rw [← HM.out]; simp [namedB, hu, h1, h2, h3, h4] <;> omega
            subst hM
            have i1 : (c.toNat : Int) < 97 := by omega
            have j1 : ¬ (97 : Int) ≤ (c.toNat : Int) := by omega
            have i2 : (48 : Int) ≤ (c.toNat : Int) := by omega
            have i3 : (57 : Int) < (c.toNat : Int) := by omega
            have j3 : ¬ (c.toNat : Int) ≤ 57 := by omega
            have i4 : ((c.toNat : Int) == 45) = false := by simp <;> omega
            have Hh1 := Lib.hid h1; have Hh2 := Lib.hid h2; have Hh3 := Lib.hid h3; have Hh4 := Lib.hid h4; clear HM h1 h2 h3 h4
            go_enter Tryz.func67, Tryz.ntmps67
            go_wp2_with (go_at_call 62; refine (hU _).mono ?_; rintro e w1 ⟨rfl, rfl⟩)
            all_goals first | (go_ret; exact ⟨rfl, rfl⟩) | (go_ret; refine ⟨?_, rfl⟩; have h1 := Hh1.out; have h2 := Hh2.out; have h3 := Hh3.out; have h4 := Hh4.out; simp <;> omega)
      · by_cases h3 : c.toNat = 45
        · have hM : M = true := by rw [← HM.out]; simp [namedB, hu, h3] <;> omega
          subst hM
          have i1 : (c.toNat : Int) < 97 := by omega
          have j1 : ¬ (97 : Int) ≤ (c.toNat : Int) := by omega
          have i2 : (c.toNat : Int) < 48 := by omega
          have j2 : ¬ (48 : Int) ≤ (c.toNat : Int) := by omega
          have i3 : ((c.toNat : Int) == 45) = true := by simp <;> omega
          have Hh1 := Lib.hid h1; have Hh2 := Lib.hid h2; have Hh3 := Lib.hid h3; clear HM h1 h2 h3
          go_enter Tryz.func67, Tryz.ntmps67
          go_wp2_with (go_at_call 62; refine (hU _).mono ?_; rintro e w1 ⟨rfl, rfl⟩)
          all_goals first | (go_ret; exact ⟨rfl, rfl⟩) | (go_ret; refine ⟨?_, rfl⟩; have h1 := Hh1.out; have h2 := Hh2.out; have h3 := Hh3.out; simp <;> omega)
        · have hM : M = false := by rw [← HM.out]; simp [namedB, hu, h1, h2, h3] <;> omega
          subst hM
          have i1 : (c.toNat : Int) < 97 := by omega
          have j1 : ¬ (97 : Int) ≤ (c.toNat : Int) := by omega
          have i2 : (c.toNat : Int) < 48 := by omega
          have j2 : ¬ (48 : Int) ≤ (c.toNat : Int) := by omega
          have i3 : ((c.toNat : Int) == 45) = false := by simp <;> omega
          have Hh1 := Lib.hid h1; have Hh2 := Lib.hid h2; have Hh3 := Lib.hid h3; clear HM h1 h2 h3
          go_enter Tryz.func67, Tryz.ntmps67
          go_wp2_with (go_at_call 62; refine (hU _).mono ?_; rintro e w1 ⟨rfl, rfl⟩)
          all_goals first | (go_ret; exact ⟨rfl, rfl⟩) | (go_ret; refine ⟨?_, rfl⟩; have h1 := Hh1.out; have h2 := Hh2.out; have h3 := Hh3.out; simp <;> omega)
set_option maxRecDepth 100000 in
theorem rvalued_any (f : FuncId) (hf : f = 89) (c : UInt8) (w : World) : Calls Tryz.prog f #[.int .u8 (c.toNat : Int)] w fun e w' => e = .returned (.bool (valuedB c)) ∧ w' = w := by
  subst hf
  have hc1 := c.toNat_lt
  obtain ⟨M, HM⟩ : ∃ z, Hid (valuedB c = z) := ⟨_, rfl⟩
  rw [HM.out]
  by_cases h0 : c.toNat = 9
  · have hM : M = true := by rw [← HM.out]; simp [valuedB, h0] <;> omega
    subst hM
    have i0 : ((c.toNat : Int) == 9) = true := by simp <;> omega
    have Hh0 := Lib.hid h0; clear HM h0
    go_enter Tryz.func89, Tryz.ntmps89
    go_wp2_with fail
    all_goals first | (go_ret; exact ⟨rfl, rfl⟩) | (go_ret; refine ⟨?_, rfl⟩; have h0 := Hh0.out; simp <;> omega)
  · by_cases h1 : 32 ≤ c.toNat
    · by_cases h2 : c.toNat = 127
      · have hM : M = false := by rw [← HM.out]; simp [valuedB, h2] <;> omega
        subst hM
        have i0 : ((c.toNat : Int) == 9) = false := by simp <;> omega
        have i1 : (32 : Int) ≤ (c.toNat : Int) := by omega
        have i2 : ((c.toNat : Int) == 127) = true := by simp <;> omega
        have Hh0 := Lib.hid h0; have Hh1 := Lib.hid h1; have Hh2 := Lib.hid h2; clear HM h0 h1 h2
        go_enter Tryz.func89, Tryz.ntmps89
        go_wp2_with fail
        all_goals first | (go_ret; exact ⟨rfl, rfl⟩) | (go_ret; refine ⟨?_, rfl⟩; have h0 := Hh0.out; have h1 := Hh1.out; have h2 := Hh2.out; simp <;> omega)
      · have hM : M = true := by rw [← HM.out]; simp [valuedB, h0, h1, h2] <;> omega
        subst hM
        have i0 : ((c.toNat : Int) == 9) = false := by simp <;> omega
        have i1 : (32 : Int) ≤ (c.toNat : Int) := by omega
        have i2 : ((c.toNat : Int) == 127) = false := by simp <;> omega
        have Hh0 := Lib.hid h0; have Hh1 := Lib.hid h1; have Hh2 := Lib.hid h2; clear HM h0 h1 h2
        go_enter Tryz.func89, Tryz.ntmps89
        go_wp2_with fail
        all_goals first | (go_ret; exact ⟨rfl, rfl⟩) | (go_ret; refine ⟨?_, rfl⟩; have h0 := Hh0.out; have h1 := Hh1.out; have h2 := Hh2.out; simp <;> omega)
    · have hM : M = false := by rw [← HM.out]; simp [valuedB, h0, h1] <;> omega
      subst hM
      have i0 : ((c.toNat : Int) == 9) = false := by simp <;> omega
      have i1 : (c.toNat : Int) < 32 := by omega
      have j1 : ¬ (32 : Int) ≤ (c.toNat : Int) := by omega
      have Hh0 := Lib.hid h0; have Hh1 := Lib.hid h1; clear HM h0 h1
      go_enter Tryz.func89, Tryz.ntmps89
      go_wp2_with fail
      all_goals first | (go_ret; exact ⟨rfl, rfl⟩) | (go_ret; refine ⟨?_, rfl⟩; have h0 := Hh0.out; have h1 := Hh1.out; simp <;> omega)
set_option maxRecDepth 100000 in
theorem rnamed_any (f : FuncId) (hf : f = 87) (c : UInt8) (w : World) : Calls Tryz.prog f #[.int .u8 (c.toNat : Int)] w fun e w' => e = .returned (.bool (namedB c)) ∧ w' = w := by
  subst hf
  have hc1 := c.toNat_lt
  obtain ⟨M, HM⟩ : ∃ z, Hid (namedB c = z) := ⟨_, rfl⟩
  rw [HM.out]
  cases hu : upB c with
  | true =>
    have hU := fun w => upper_any _ rfl c w
    rw [hu] at hU
    have hM : M = true := by rw [← HM.out]; simp [namedB, hu] <;> omega
    subst hM
    clear HM 
    go_enter Tryz.func87, Tryz.ntmps87
    go_wp2_with (go_at_call 86; refine (hU _).mono ?_; rintro e w1 ⟨rfl, rfl⟩)
    all_goals first | (go_ret; exact ⟨rfl, rfl⟩) | (go_ret; refine ⟨?_, rfl⟩; simp <;> omega)
  | false =>
    have hU := fun w => upper_any _ rfl c w
    rw [hu] at hU
    by_cases h1 : 97 ≤ c.toNat
    · by_cases h2 : c.toNat ≤ 122
      · have hM : M = true := by rw [← HM.out]; simp [namedB, hu, h1, h2] <;> omega
        subst hM
        have i1 : (97 : Int) ≤ (c.toNat : Int) := by omega
        have i2 : (c.toNat : Int) ≤ 122 := by omega
        have Hh1 := Lib.hid h1; have Hh2 := Lib.hid h2; clear HM h1 h2
        go_enter Tryz.func87, Tryz.ntmps87
        go_wp2_with (go_at_call 86; refine (hU _).mono ?_; rintro e w1 ⟨rfl, rfl⟩)
        all_goals first | (go_ret; exact ⟨rfl, rfl⟩) | (go_ret; refine ⟨?_, rfl⟩; have h1 := Hh1.out; have h2 := Hh2.out; simp <;> omega)
      · by_cases h3 : 48 ≤ c.toNat
        · by_cases h4 : c.toNat ≤ 57
          · have hM : M = true := by rw [← HM.out]; simp [namedB, hu, h1, h2, h3, h4] <;> omega
            subst hM
            have i1 : (97 : Int) ≤ (c.toNat : Int) := by omega
            have i2 : (122 : Int) < (c.toNat : Int) := by omega
            have j2 : ¬ (c.toNat : Int) ≤ 122 := by omega
            have i3 : (48 : Int) ≤ (c.toNat : Int) := by omega
            have i4 : (c.toNat : Int) ≤ 57 := by omega
            have Hh1 := Lib.hid h1; have Hh2 := Lib.hid h2; have Hh3 := Lib.hid h3; have Hh4 := Lib.hid h4; clear HM h1 h2 h3 h4
            go_enter Tryz.func87, Tryz.ntmps87
            go_wp2_with (go_at_call 86; refine (hU _).mono ?_; rintro e w1 ⟨rfl, rfl⟩)
            all_goals first | (go_ret; exact ⟨rfl, rfl⟩) | (go_ret; refine ⟨?_, rfl⟩; have h1 := Hh1.out; have h2 := Hh2.out; have h3 := Hh3.out; have h4 := Hh4.out; simp <;> omega)
          · by_cases h5 : c.toNat = 45
            · have hM : M = true := by rw [← HM.out]; simp [namedB, hu, h5] <;> omega
              subst hM
              have i1 : (97 : Int) ≤ (c.toNat : Int) := by omega
              have i2 : (122 : Int) < (c.toNat : Int) := by omega
              have j2 : ¬ (c.toNat : Int) ≤ 122 := by omega
              have i3 : (48 : Int) ≤ (c.toNat : Int) := by omega
              have i4 : (57 : Int) < (c.toNat : Int) := by omega
              have j4 : ¬ (c.toNat : Int) ≤ 57 := by omega
              have i5 : ((c.toNat : Int) == 45) = true := by simp <;> omega
              have Hh1 := Lib.hid h1; have Hh2 := Lib.hid h2; have Hh3 := Lib.hid h3; have Hh4 := Lib.hid h4; have Hh5 := Lib.hid h5; clear HM h1 h2 h3 h4 h5
              go_enter Tryz.func87, Tryz.ntmps87
              go_wp2_with (go_at_call 86; refine (hU _).mono ?_; rintro e w1 ⟨rfl, rfl⟩)
              all_goals first | (go_ret; exact ⟨rfl, rfl⟩) | (go_ret; refine ⟨?_, rfl⟩; have h1 := Hh1.out; have h2 := Hh2.out; have h3 := Hh3.out; have h4 := Hh4.out; have h5 := Hh5.out; simp <;> omega)
            · have hM : M = false := by rw [← HM.out]; simp [namedB, hu, h1, h2, h3, h4, h5] <;> omega
              subst hM
              have i1 : (97 : Int) ≤ (c.toNat : Int) := by omega
              have i2 : (122 : Int) < (c.toNat : Int) := by omega
              have j2 : ¬ (c.toNat : Int) ≤ 122 := by omega
              have i3 : (48 : Int) ≤ (c.toNat : Int) := by omega
              have i4 : (57 : Int) < (c.toNat : Int) := by omega
              have j4 : ¬ (c.toNat : Int) ≤ 57 := by omega
              have i5 : ((c.toNat : Int) == 45) = false := by simp <;> omega
              have Hh1 := Lib.hid h1; have Hh2 := Lib.hid h2; have Hh3 := Lib.hid h3; have Hh4 := Lib.hid h4; have Hh5 := Lib.hid h5; clear HM h1 h2 h3 h4 h5
              go_enter Tryz.func87, Tryz.ntmps87
              go_wp2_with (go_at_call 86; refine (hU _).mono ?_; rintro e w1 ⟨rfl, rfl⟩)
              all_goals first | (go_ret; exact ⟨rfl, rfl⟩) | (go_ret; refine ⟨?_, rfl⟩; have h1 := Hh1.out; have h2 := Hh2.out; have h3 := Hh3.out; have h4 := Hh4.out; have h5 := Hh5.out; simp <;> omega)
        · by_cases h4 : c.toNat = 45
          · have hM : M = true := by rw [← HM.out]; simp [namedB, hu, h4] <;> omega
            subst hM
            have i1 : (97 : Int) ≤ (c.toNat : Int) := by omega
            have i2 : (122 : Int) < (c.toNat : Int) := by omega
            have j2 : ¬ (c.toNat : Int) ≤ 122 := by omega
            have i3 : (c.toNat : Int) < 48 := by omega
            have j3 : ¬ (48 : Int) ≤ (c.toNat : Int) := by omega
            have i4 : ((c.toNat : Int) == 45) = true := by simp <;> omega
            have Hh1 := Lib.hid h1; have Hh2 := Lib.hid h2; have Hh3 := Lib.hid h3; have Hh4 := Lib.hid h4; clear HM h1 h2 h3 h4
            go_enter Tryz.func87, Tryz.ntmps87
            go_wp2_with (go_at_call 86; refine (hU _).mono ?_; rintro e w1 ⟨rfl, rfl⟩)
            all_goals first | (go_ret; exact ⟨rfl, rfl⟩) | (go_ret; refine ⟨?_, rfl⟩; have h1 := Hh1.out; have h2 := Hh2.out; have h3 := Hh3.out; have h4 := Hh4.out; simp <;> omega)
          · have hM : M = false := by rw [← HM.out]; simp [namedB, hu, h1, h2, h3, h4] <;> omega
            subst hM
            have i1 : (97 : Int) ≤ (c.toNat : Int) := by omega
            have i2 : (122 : Int) < (c.toNat : Int) := by omega
            have j2 : ¬ (c.toNat : Int) ≤ 122 := by omega
            have i3 : (c.toNat : Int) < 48 := by omega
            have j3 : ¬ (48 : Int) ≤ (c.toNat : Int) := by omega
            have i4 : ((c.toNat : Int) == 45) = false := by simp <;> omega
            have Hh1 := Lib.hid h1; have Hh2 := Lib.hid h2; have Hh3 := Lib.hid h3; have Hh4 := Lib.hid h4; clear HM h1 h2 h3 h4
            go_enter Tryz.func87, Tryz.ntmps87
            go_wp2_with (go_at_call 86; refine (hU _).mono ?_; rintro e w1 ⟨rfl, rfl⟩)
            all_goals first | (go_ret; exact ⟨rfl, rfl⟩) | (go_ret; refine ⟨?_, rfl⟩; have h1 := Hh1.out; have h2 := Hh2.out; have h3 := Hh3.out; have h4 := Hh4.out; simp <;> omega)
    · by_cases h2 : 48 ≤ c.toNat
      · by_cases h3 : c.toNat ≤ 57
        · have hM : M = true := by rw [← HM.out]; simp [namedB, hu, h1, h2, h3] <;> omega
          subst hM
          have i1 : (c.toNat : Int) < 97 := by omega
          have j1 : ¬ (97 : Int) ≤ (c.toNat : Int) := by omega
          have i2 : (48 : Int) ≤ (c.toNat : Int) := by omega
          have i3 : (c.toNat : Int) ≤ 57 := by omega
          have Hh1 := Lib.hid h1; have Hh2 := Lib.hid h2; have Hh3 := Lib.hid h3; clear HM h1 h2 h3
          go_enter Tryz.func87, Tryz.ntmps87
          go_wp2_with (go_at_call 86; refine (hU _).mono ?_; rintro e w1 ⟨rfl, rfl⟩)
          all_goals first | (go_ret; exact ⟨rfl, rfl⟩) | (go_ret; refine ⟨?_, rfl⟩; have h1 := Hh1.out; have h2 := Hh2.out; have h3 := Hh3.out; simp <;> omega)
        · by_cases h4 : c.toNat = 45
          · have hM : M = true := by rw [← HM.out]; simp [namedB, hu, h4] <;> omega
            subst hM
            have i1 : (c.toNat : Int) < 97 := by omega
            have j1 : ¬ (97 : Int) ≤ (c.toNat : Int) := by omega
            have i2 : (48 : Int) ≤ (c.toNat : Int) := by omega
            have i3 : (57 : Int) < (c.toNat : Int) := by omega
            have j3 : ¬ (c.toNat : Int) ≤ 57 := by omega
            have i4 : ((c.toNat : Int) == 45) = true := by simp <;> omega
            have Hh1 := Lib.hid h1; have Hh2 := Lib.hid h2; have Hh3 := Lib.hid h3; have Hh4 := Lib.hid h4; clear HM h1 h2 h3 h4
            go_enter Tryz.func87, Tryz.ntmps87
            go_wp2_with (go_at_call 86; refine (hU _).mono ?_; rintro e w1 ⟨rfl, rfl⟩)
            all_goals first | (go_ret; exact ⟨rfl, rfl⟩) | (go_ret; refine ⟨?_, rfl⟩; have h1 := Hh1.out; have h2 := Hh2.out; have h3 := Hh3.out; have h4 := Hh4.out; simp <;> omega)
          · have hM : M = false := by rw [← HM.out]; simp [namedB, hu, h1, h2, h3, h4] <;> omega
            subst hM
            have i1 : (c.toNat : Int) < 97 := by omega
            have j1 : ¬ (97 : Int) ≤ (c.toNat : Int) := by omega
            have i2 : (48 : Int) ≤ (c.toNat : Int) := by omega
            have i3 : (57 : Int) < (c.toNat : Int) := by omega
            have j3 : ¬ (c.toNat : Int) ≤ 57 := by omega
            have i4 : ((c.toNat : Int) == 45) = false := by simp <;> omega
            have Hh1 := Lib.hid h1; have Hh2 := Lib.hid h2; have Hh3 := Lib.hid h3; have Hh4 := Lib.hid h4; clear HM h1 h2 h3 h4
            go_enter Tryz.func87, Tryz.ntmps87
            go_wp2_with (go_at_call 86; refine (hU _).mono ?_; rintro e w1 ⟨rfl, rfl⟩)
            all_goals first | (go_ret; exact ⟨rfl, rfl⟩) | (go_ret; refine ⟨?_, rfl⟩; have h1 := Hh1.out; have h2 := Hh2.out; have h3 := Hh3.out; have h4 := Hh4.out; simp <;> omega)
      · by_cases h3 : c.toNat = 45
        · have hM : M = true := by rw [← HM.out]; simp [namedB, hu, h3] <;> omega
          subst hM
          have i1 : (c.toNat : Int) < 97 := by omega
          have j1 : ¬ (97 : Int) ≤ (c.toNat : Int) := by omega
          have i2 : (c.toNat : Int) < 48 := by omega
          have j2 : ¬ (48 : Int) ≤ (c.toNat : Int) := by omega
          have i3 : ((c.toNat : Int) == 45) = true := by simp <;> omega
          have Hh1 := Lib.hid h1; have Hh2 := Lib.hid h2; have Hh3 := Lib.hid h3; clear HM h1 h2 h3
          go_enter Tryz.func87, Tryz.ntmps87
          go_wp2_with (go_at_call 86; refine (hU _).mono ?_; rintro e w1 ⟨rfl, rfl⟩)
          all_goals first | (go_ret; exact ⟨rfl, rfl⟩) | (go_ret; refine ⟨?_, rfl⟩; have h1 := Hh1.out; have h2 := Hh2.out; have h3 := Hh3.out; simp <;> omega)
        · have hM : M = false := by rw [← HM.out]; simp [namedB, hu, h1, h2, h3] <;> omega
          subst hM
          have i1 : (c.toNat : Int) < 97 := by omega
          have j1 : ¬ (97 : Int) ≤ (c.toNat : Int) := by omega
          have i2 : (c.toNat : Int) < 48 := by omega
          have j2 : ¬ (48 : Int) ≤ (c.toNat : Int) := by omega
          have i3 : ((c.toNat : Int) == 45) = false := by simp <;> omega
          have Hh1 := Lib.hid h1; have Hh2 := Lib.hid h2; have Hh3 := Lib.hid h3; clear HM h1 h2 h3
          go_enter Tryz.func87, Tryz.ntmps87
          go_wp2_with (go_at_call 86; refine (hU _).mono ?_; rintro e w1 ⟨rfl, rfl⟩)
          all_goals first | (go_ret; exact ⟨rfl, rfl⟩) | (go_ret; refine ⟨?_, rfl⟩; have h1 := Hh1.out; have h2 := Hh2.out; have h3 := Hh3.out; simp <;> omega)
end Rw
end Go.Proofs.YtnbhaokbaonjkaaGreatDoor
