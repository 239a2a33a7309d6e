/- StrsFinds: what strpos and str_contains tell. -/
import Derived.Test.YtjojfnhdegiebaaGreatDoorFnF
namespace Go.Proofs.YtjojfnhdegiebaaGreatDoor
open Go.RowKit

theorem toList_extract (s : ByteArray) (a b : Nat) : (s.extract a b).data.toList = (s.data.toList.drop a).take (b - a) := by
  rw [ByteArray.data_extract, Array.toList_extract, List.extract_eq_take_drop]
theorem find_at (s t : ByteArray) (h : 0 ≤ Lib.index s.data.toList t.data.toList) : ∃ n : Nat, Lib.index s.data.toList t.data.toList = n ∧ n + t.size ≤ s.size ∧ s.extract n (n + t.size) = t ∧
    (0 < t.size → Lib.contains (s.extract 0 (n + t.size - 1)).data.toList t.data.toList = false) := by
  have hroom := Lib.index_room _ _ h
  rcases Lib.index_spec s.data.toList t.data.toList with ⟨e, _⟩ | ⟨n, e, hn, ho, hno⟩
  · rw [e] at h; omega
  have hs := Lib.size_eq s
  have ht := Lib.size_eq t
  have hnt : n + t.size ≤ s.size := by omega
  refine ⟨n, e, hnt, ?_, fun hpos => ?_⟩
  · apply ByteArray.ext
    apply Array.toList_inj.1
    rw [toList_extract]
    have hp : t.data.toList <+: s.data.toList.drop n := List.isPrefixOf_iff_prefix.1 ho
    have := List.prefix_iff_eq_take.1 hp
    rw [show n + t.size - n = t.data.toList.length by omega]
    exact this.symm
  · cases hc : Lib.contains (s.extract 0 (n + t.size - 1)).data.toList t.data.toList with
    | false => rfl
    | true =>
      have h0 : 0 ≤ Lib.index (s.extract 0 (n + t.size - 1)).data.toList t.data.toList := of_decide_eq_true hc
      have hroom2 := Lib.index_room _ _ h0
      rcases Lib.index_spec (s.extract 0 (n + t.size - 1)).data.toList t.data.toList with ⟨e2, _⟩ | ⟨j, e2, hj, hoj, _⟩
      · rw [e2] at h0; omega
      · rw [toList_extract, List.drop_zero] at hoj hroom2 e2 hj
        rw [e2] at hroom2
        rw [List.length_take] at hroom2
        have hjn : j < n := by omega
        have hp : t.data.toList <+: (s.data.toList.take (n + t.size - 1 - 0)).drop j := List.isPrefixOf_iff_prefix.1 hoj
        rw [List.drop_take] at hp
        have hp2 : t.data.toList <+: s.data.toList.drop j := hp.trans (List.take_prefix _ _)
        have := hno j hjn
        unfold Lib.occAt at this
        rw [List.isPrefixOf_iff_prefix.2 hp2] at this
        cases this

theorem call_pos (s t : ByteArray) (hs : s.size < 4294967281) (m : Int) (w : World) (hL : LibS m w) (g cap : Nat) (hA : ArgsAt w g [(3, 0, s), (3, 0, t)]) :
    Calls Tryz.prog 8 #[.string ⟨#[115, 116, 114, 112, 111, 115]⟩, .slice (some ⟨g, 0, none⟩) 2 cap] w fun e w' => e = .returned (.tuple #[.agg #[.int .i64 (if 0 ≤ Lib.index s.data.toList t.data.toList then 2 else 1), .int .i64 (if 0 ≤ Lib.index s.data.toList t.data.toList then Lib.index s.data.toList t.data.toList else 0), .string ⟨#[]⟩, .slice none 0 0], .int .i64 0]) ∧ Below w.heap.size w w' :=
  call_any ⟨#[115, 116, 114, 112, 111, 115]⟩ ⟨#[115, 115, 105]⟩ 2 false 41 (fun _ ca => ca = #[]) [(3, 0, s), (3, 0, t)] _ _ ⟨#[]⟩ m w hL g cap
    (fun w' b h => by obtain ⟨es, clock, hb, _, h1, _⟩ := h; obtain ⟨i, h1⟩ := h1; exact ⟨es, clock, i, #[], hb, h1, rfl⟩) (fun _ _ _ h _ => h) (Nat.le_of_ble_eq_true rfl) (Nat.le_of_ble_eq_true rfl) (by decide)
    (fun i hi => by match i, hi with | 0, _ => exact ⟨of_decide_eq_true rfl, of_decide_eq_true rfl⟩ | 1, _ => exact ⟨of_decide_eq_true rfl, of_decide_eq_true rfl⟩) (by decide) hA (by decide)
    (fun args w => enters_of Tryz.func41 (by kernel_rfl) rfl args w)
    (fun w' ca hL' hA' hc => by subst hc; exact strpos_do s t hs m g cap w' hL' hA')
theorem call_con (s t : ByteArray) (hs : s.size < 4294967281) (m : Int) (w : World) (hL : LibS m w) (g cap : Nat) (hA : ArgsAt w g [(3, 0, s), (3, 0, t)]) :
    Calls Tryz.prog 8 #[.string ⟨#[115, 116, 114, 95, 99, 111, 110, 116, 97, 105, 110, 115]⟩, .slice (some ⟨g, 0, none⟩) 2 cap] w fun e w' => e = .returned (.tuple #[.agg #[.int .i64 1, .int .i64 (if Lib.contains s.data.toList t.data.toList then 1 else 0), .string ⟨#[]⟩, .slice none 0 0], .int .i64 0]) ∧ Below w.heap.size w w' :=
  call_any ⟨#[115, 116, 114, 95, 99, 111, 110, 116, 97, 105, 110, 115]⟩ ⟨#[115, 115]⟩ 2 false 92 (fun w ca => ∃ c, ca = #[.pointer (some ⟨c, 0, none⟩)] ∧ w.cell? ⟨c, 0, none⟩ = some (.func (.func 44) #[] #[])) [(3, 0, s), (3, 0, t)] _ _ ⟨#[]⟩ m w hL g cap
    (fun w' b h => by obtain ⟨es, clock, hb, _, _, _, ⟨c, h1, h2⟩, _⟩ := h; obtain ⟨i, h1⟩ := h1; exact ⟨es, clock, i, _, hb, h1, c, rfl, h2⟩)
    (fun w w' ca h hb => by obtain ⟨c, h1, h2⟩ := h; exact ⟨c, h1, (hb.cell (p := ⟨c, 0, none⟩) (World.block_lt_of_cell? w _ h2)).trans h2⟩) (Nat.le_of_ble_eq_true rfl) (Nat.le_of_ble_eq_true rfl) (by decide)
    (fun i hi => by match i, hi with | 0, _ => exact ⟨of_decide_eq_true rfl, of_decide_eq_true rfl⟩ | 1, _ => exact ⟨of_decide_eq_true rfl, of_decide_eq_true rfl⟩) (by decide) hA (by decide)
    (fun args w => enters_of Tryz.func92 (by kernel_rfl) rfl args w)
    (fun w' ca hL' hA' hc => by obtain ⟨c, rfl, h2⟩ := hc; exact contains_do s t hs m g cap c w' hL' hA' h2)
end Go.Proofs.YtjojfnhdegiebaaGreatDoor
