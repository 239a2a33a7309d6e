/- The reference's Path: it returns what disk.Path returns. -/
import Derived.Test.YtbiclpkoocjjfaaDoorDiskQ
namespace Go.Proofs.YtbiclpkoocjjfaaDoor
open Go.RowKit

set_option maxRecDepth 100000 in
set_option maxHeartbeats 2000000 in
theorem rpath_any (s : ByteArray) (hs : s.size ≤ maxLen) (w : World) :
    Calls Tryd.prog 20 #[.string s] w fun e w' => e = .returned (.bool (pathB s)) ∧ Below w.heap.size w w' := by
  unfold maxLen at hs
  by_cases h1 : s.size < 2
  · have Hfin := Lib.hid (pathB_small s h1)
    have g1 : (s.size : Int) < 2 := by omega
    go_enter Tryd.func20, Tryd.ntmps20
    go_wp2_with fail
    go_ret
    exact ⟨ret_bool Hfin.out.symm, Below.refl _ _⟩
  by_cases h2 : s.size ≤ 256
  · have hsl := hasPrefix_slash s (by omega)
    have k1 : decide ((s.size : Int) < 2) = false := by simp; omega
    have k2 : decide ((256 : Int) < (s.size : Int)) = false := by simp; omega
    by_cases h3 : s[0] = 47
    · have hp : Lib.hasPrefix s.data.toList [47] = true := by rw [hsl, h3]; rfl
      have k3 : ((s[0].toNat : Int) != 47) = false := by rw [h3]; rfl
      have hre := restOf_extract s hp
      obtain ⟨b, hb⟩ : ∃ b, b = (partsOf (restOf s)).all partB := ⟨_, rfl⟩
      have hfin : pathB s = b := by unfold pathB; rw [hp, decide_eq_true h2, hb]; rfl
      have Hfin := Lib.hid hfin; clear hfin
      have Hre := Lib.hid hre; clear hre
      have hsz1 : (s.extract 1 s.size).size ≤ 256 := by rw [ByteArray.size_extract]; omega
      clear hsl h3 hp
      go_enter Tryd.func20, Tryd.ntmps20
      go_wp2_with fail
      refine (parts_any _ (by omega) w).mono ?_
      rintro e w1 ⟨v, ps, rfl, hpi⟩
      have hps := hpi.parts
      have hlen := hpi.len
      have hbel := hpi.bel
      obtain ⟨A, cap, rfl, hcells⟩ := own_strs hpi.owns
      rw [Hre.out, ← hps] at hb
      have Hb := Lib.hid hb; clear hb
      have Hcells := Lib.hid hcells; clear hcells hps hpi
      go_wp2_with fail
      go_loop [4] (fun i => ∃ k : Nat, k ≤ ps.length ∧ i = .int .i64 k ∧ Hid ((ps.take k).all partB = true)) (fun i => ps.length - (intOf i).toNat)
      case atStart => exact ⟨0, Nat.zero_le _, rfl, rfl⟩
      case round =>
        obtain ⟨k, hk, rfl, Hk⟩ := hrel
        by_cases hlt : k < ps.length
        · obtain ⟨g, rfl, _, hc⟩ := Hcells.out k hlt
          obtain ⟨p, hpe⟩ : ∃ p, p = ps.getD k ByteArray.empty := ⟨_, rfl⟩
          rw [← hpe] at hc
          have Hp := Lib.hid hpe; clear hpe
          have hno : partB p = false → Ending.returned (.bool false) = .returned (.bool (pathB s)) := fun h => by
            rw [Hfin.out, Hb.out]; exact ret_bool (all_take_false partB _ ps k hlt (by rw [← Hp.out]; exact h)).symm
          have Hno := Lib.hid hno; clear hno
          by_cases hbad : p.toList = [] ∨ p.toList = [46] ∨ p.toList = [46, 46] ∨ 64 < (p.size : Int)
          · have HB := Lib.hid (Hno.out (part_no p hbad))
            have hone : p.toList = [] → p.size = 0 := fun h => by rw [Lib.toList_data] at h; have := Lib.size_eq p; rw [h] at this; simpa using this
            have Hone := Lib.hid hone; clear hone
            have HX := Lib.hid hbad; clear hbad
            go_wp2_with fail
            · go_ret; exact ⟨HB.out, hbel⟩
            · go_ret; exact ⟨HB.out, hbel⟩
            · exfalso
              have q1 : ¬ p.toList = [46] := by assumption
              have q2 : ((1 ≤ (p.size : Int) ∧ (p.size : Int) ≤ 64) ∧ (p.toList == [46]) = false) ∧ (p.toList == [46, 46]) = false := by assumption
              rcases HX.out with h | h | h | h
              · have := Hone.out h; omega
              · exact q1 h
              · rw [h] at q2; exact absurd q2.2 (by decide)
              · omega
            · go_ret; exact ⟨HB.out, hbel⟩
            · go_ret; exact ⟨HB.out, hbel⟩
          · have g1 : p.toList.isEmpty = false := by
              rw [List.isEmpty_eq_false_iff]; exact fun h => hbad (.inl h)
            have g2 : (p.toList == [46]) = false := beq_eq_false_iff_ne.2 fun h => hbad (.inr (.inl h))
            have g3 : (p.toList == [46, 46]) = false := beq_eq_false_iff_ne.2 fun h => hbad (.inr (.inr (.inl h)))
            have g4 : (p.size : Int) ≤ 64 := by omega
            have g6 : p.data.toList.all (fun c => namedB c.toNat) = true → partB p = true := fun h => by
              rw [ByteArray.toList_eq] at g1 g2 g3
              exact partB_true p (by rw [beq_eq_false_iff_ne]; intro e; rw [e] at g1; exact absurd g1 (by decide)) g2 g3 (by omega) h
            have g0 : 1 ≤ p.size := by
              rw [ByteArray.toList_eq] at g1
              have := Lib.size_eq p
              rcases Nat.eq_zero_or_pos p.size with h | h
              · rw [h] at this
                rw [List.eq_nil_of_length_eq_zero this.symm] at g1
                exact absurd g1 (by decide)
              · exact h
            have g5 : decide ((64 : Int) < p.size) = false := by simp; omega
            have g7 : decide ((p.size : Int) < 1) = false := by simp; omega
            have G6 := Lib.hid g6; clear g6 hbad
            go_wp2_with fail
            go_loop [5] (fun i => ∃ j : Nat, j ≤ p.size ∧ i = .int .i64 j ∧ Hid ((p.data.toList.take j).all (fun c => namedB c.toNat) = true)) (fun i => p.size - (intOf i).toNat)
            case atStart => exact ⟨0, Nat.zero_le _, rfl, rfl⟩
            case round =>
              obtain ⟨j, hj, rfl, Hj⟩ := hrel
              by_cases hjl : j < p.size
              · have hb1 : (p[j].toNat : Int) ≤ 255 := by have := p[j].toNat_lt; omega
                by_cases hn : namedB (p[j].toNat : Int) = true
                · have Hn := Lib.hid (chars_step p j hjl hn Hj.out)
                  go_wp2_with (go_at_call 37; refine (rnamed_any _ (by omega) hb1 _).mono ?_; rintro e w' ⟨rfl, rfl⟩)
                  go_round
                  case rel => exact ⟨j + 1, by omega, by go_num, Hn.out⟩
                  case measure => simp [intOf] <;> omega
                · have hn' : namedB (p[j].toNat : Int) = false := by simpa using hn
                  have HB := Lib.hid (Hno.out (part_chars p j hjl hn'))
                  clear hn
                  go_wp2_with (go_at_call 37; refine (rnamed_any _ (by omega) hb1 _).mono ?_; rintro e w' ⟨rfl, rfl⟩)
                  go_ret
                  exact ⟨HB.out, hbel⟩
              · have hk1 : (ps.take (k + 1)).all partB = true := by
                  rw [all_take_succ partB ByteArray.empty ps k hlt, Hk.out, ← Hp.out, G6.out]
                  · rfl
                  · have := Hj.out
                    rwa [List.take_of_length_le (by simp; omega)] at this
                have Hk1 := Lib.hid hk1; clear hk1
                go_wp2
                go_round
                case rel => exact ⟨k + 1, by omega, by go_num, Hk1.out⟩
                case measure => simp [intOf] <;> omega
        · go_wp2
          go_ret
          refine ⟨?_, hbel⟩
          rw [Hfin.out, Hb.out]
          refine ret_bool ?_
          have := Hk.out
          rw [List.take_of_length_le (by omega)] at this
          exact this.symm
    · have hp : Lib.hasPrefix s.data.toList [47] = false := by rw [hsl]; simpa using h3
      have k3 : ((s[0].toNat : Int) != 47) = true := by
        rw [bne_iff_ne]; intro h; exact h3 (UInt8.toNat_inj.1 (by have : (47 : UInt8).toNat = 47 := rfl; omega))
      have hfin : pathB s = false := by unfold pathB; rw [hp]; rfl
      have Hfin := Lib.hid hfin; clear hfin hsl h3 hp
      go_enter Tryd.func20, Tryd.ntmps20
      go_wp2_with fail
      go_ret
      exact ⟨ret_bool Hfin.out.symm, Below.refl _ _⟩
  · have hfin : pathB s = false := by unfold pathB; rw [decide_eq_false h2, Bool.and_false]; rfl
    have Hfin := Lib.hid hfin; clear hfin
    have k1 : decide ((s.size : Int) < 2) = false := by simp; omega
    have k2 : decide ((256 : Int) < (s.size : Int)) = true := by simp; omega
    go_enter Tryd.func20, Tryd.ntmps20
    go_wp2_with fail
    go_ret
    exact ⟨ret_bool Hfin.out.symm, Below.refl _ _⟩
end Go.Proofs.YtbiclpkoocjjfaaDoor
