/- Walks of the device's small methods. -/
import Derived.Test.YtfmhfgkmoeimeaaMem
namespace Go.Proofs.Ytfmhfgkmoeimeaa
open Go.RowKit

theorem len_any (w : World) (L : Lay) (D : Dev) (h : DevAt w L D) :
    Calls Try.prog 33 #[.pointer (some ⟨L.g, 0, none⟩)] w fun e w' => e = .returned (.int .i64 D.len) ∧ w = w' := by
  have c1 := h.c1
  clear h
  go_enter Try.func33, Try.ntmps33
  go_wp2
  go_ret
  exact ⟨rfl, rfl⟩

theorem on_any (w : World) (L : Lay) (D : Dev) (h : DevAt w L D) :
    Calls Try.prog 42 #[.pointer (some ⟨L.g, 0, none⟩)] w fun e w' => e = .returned (.int .i64 D.on) ∧ w = w' := by
  have hl := len_any w L D h
  have c3 := h.c3
  have h4 := h.ok.pos
  have hz : ((D.len : Int) == 0) = false := by rw [beq_eq_false_iff_ne]; unfold Dev.len; omega
  unfold Dev.on
  cases hoff : D.off
  all_goals
    rw [hoff] at c3
    clear h
    go_enter Try.func42, Try.ntmps42
    go_wp2_with (go_at_call 33; refine hl.mono ?_; rintro e w' ⟨rfl, rfl⟩)
    go_ret
    exact ⟨rfl, rfl⟩

theorem state_any (w : World) (L : Lay) (D : Dev) (h : DevAt w L D) (i : Int) (h0 : -9223372036854775808 ≤ i) (h1 : i ≤ 9223372036854775807) :
    Calls Try.prog 28 #[.pointer (some ⟨L.g, 0, none⟩), .int .i64 i] w fun e w' => e = .returned (.int .i64 (D.stateAt i)) ∧ w = w' := by
  have hl := len_any w L D h
  have c1 := h.c1
  obtain ⟨sp, hb, hcap, hmax, _, _⟩ := own_blk h.now
  unfold Dev.stateAt
  by_cases hi : i < 0
  · rw [if_pos (.inl hi)]
    clear h hb c1
    go_enter Try.func28, Try.ntmps28
    go_wp2_with (go_at_call 33; refine hl.mono ?_; rintro e w' ⟨rfl, rfl⟩)
    go_ret
    exact ⟨rfl, rfl⟩
  by_cases hj : i ≥ D.len
  · rw [if_pos (.inr hj)]
    clear h hb c1
    go_enter Try.func28, Try.ntmps28
    go_wp2_with (go_at_call 33; refine hl.mono ?_; rintro e w' ⟨rfl, rfl⟩)
    go_ret
    exact ⟨rfl, rfl⟩
  · rw [if_neg (by omega)]
    obtain ⟨k, rfl⟩ : ∃ k : Nat, i = k := ⟨i.toNat, by omega⟩
    have hk : k < D.now.length := by unfold Dev.len at hj; omega
    have hc : w.cell? ⟨L.gn, k * 2, none⟩ = some (.int .i64 (pbAt D.now k).st) := by
      rw [hb.cell, List.getElem?_append_left (by rw [pbCells_length]; omega), pbCells_st _ _ hk]
    clear h hb
    go_enter Try.func28, Try.ntmps28
    go_wp2_with (go_at_call 33; refine hl.mono ?_; rintro e w' ⟨rfl, rfl⟩)
    go_ret
    exact ⟨rfl, rfl⟩
end Go.Proofs.Ytfmhfgkmoeimeaa
