/- Walks: fails, block, Read, Up, Pending, Starts, Start. -/
import Derived.Test.YtfmhfgkmoeimeaaW1
namespace Go.Proofs.Ytfmhfgkmoeimeaa
open Go.RowKit

theorem Dev.count_ok {D : Dev} (h : D.OK) : D.count.OK := by
  unfold Dev.count
  split
  · exact ⟨h.len, h.pos, h.max, h.acts, by have := h.left; show -1 ≤ D.left - 1; omega, by have := h.leftMax; show D.left - 1 ≤ _; omega, h.wr, h.many, h.starts, h.keepMax, h.st, h.stS, h.keepIs⟩
  · exact h

theorem count_turn {w : World} {L : Lay} {D : Dev} (h : DevAt w L D) (hp : 0 < D.left) :
    DevAt (w.setCell ⟨L.g, 5, none⟩ (.int .i64 (D.left - 1))) L D.count ∧ Step L w L (w.setCell ⟨L.g, 5, none⟩ (.int .i64 (D.left - 1))) := by
  refine ⟨h.own_turn (Dev.count_ok h.ok) ?_ (fun b hb _ => Below.heap_setCell _ _ _ _ hb) ?_ ?_ ?_ ?_, (Step.refl L w).set_ (.inl (.inl rfl)) _⟩
  · have := h.dev.set_ 5 (.int .i64 (D.left - 1))
    simpa [devCells, Dev.count, hp] using this
  all_goals simp [Dev.count, hp]

theorem fails_any (w : World) (L : Lay) (D : Dev) (h : DevAt w L D) :
    Calls Try.prog 43 #[.pointer (some ⟨L.g, 0, none⟩)] w fun e w' => e = .returned (.bool D.fails) ∧ DevAt w' L D.count ∧ Step L w L w' := by
  have c5 := h.c5
  have f5 := h.fr 5
  have hl := h.ok.left
  have hm := h.ok.leftMax
  by_cases hp : 0 < D.left
  · have hw : IntKind.i64.wrap (D.left - 1) = D.left - 1 := IntWalk.i64_in _ (by omega)
    have hf : D.fails = false := by unfold Dev.fails; simp; omega
    have K : Hid (DevAt w L D) := h
    rw [hf]
    clear hf h
    go_enter Try.func43, Try.ntmps43
    go_wp2
    go_ret
    exact ⟨rfl, count_turn K.out hp⟩
  · have hc : D.count = D := by unfold Dev.count; rw [if_neg hp]
    have K : Hid (DevAt w L D) := h
    rw [hc]
    clear h hc
    by_cases hz : D.left = 0
    · have hf : D.fails = true := by unfold Dev.fails; simp [hz]
      have hb : (D.left == 0) = true := by simp [hz]
      rw [hf]
      clear hf hz
      go_enter Try.func43, Try.ntmps43
      go_wp2
      go_ret
      exact ⟨rfl, K.out, Step.refl _ _⟩
    · have hf : D.fails = false := by unfold Dev.fails; simp [hz]
      have hb : (D.left == 0) = false := by simp [hz]
      rw [hf]
      clear hf hz
      go_enter Try.func43, Try.ntmps43
      go_wp2
      go_ret
      exact ⟨rfl, K.out, Step.refl _ _⟩

theorem block_any (w : World) (L : Lay) (D : Dev) (h : DevAt w L D) (i : Int) (h0 : -9223372036854775808 ≤ i) (h1 : i ≤ 9223372036854775807) :
    Calls Try.prog 47 #[.pointer (some ⟨L.g, 0, none⟩), .int .i64 i] w fun e w' => e = .returned (.int .i64 (D.block i)) ∧ w = w' := by
  have ho := on_any w L D h
  have hs := state_any w L D h i h0 h1
  clear h
  unfold Dev.block
  by_cases hz : D.on = 0
  · have hb : (D.on == 0) = true := by simp [hz]
    by_cases hn : D.stateAt i < 0
    · rw [if_pos ⟨hz, hn⟩]
      clear hz
      go_enter Try.func47, Try.ntmps47
      go_wp2_with (first | (go_at_call 42; refine ho.mono ?_; rintro e w' ⟨rfl, rfl⟩) | (go_at_call 28; refine hs.mono ?_; rintro e w' ⟨rfl, rfl⟩))
      go_ret
      exact ⟨rfl, rfl⟩
    · rw [if_neg (fun c => hn c.2)]
      clear hz
      go_enter Try.func47, Try.ntmps47
      go_wp2_with (first | (go_at_call 42; refine ho.mono ?_; rintro e w' ⟨rfl, rfl⟩) | (go_at_call 28; refine hs.mono ?_; rintro e w' ⟨rfl, rfl⟩))
      go_ret
      exact ⟨rfl, rfl⟩
  · have hb : (D.on == 0) = false := by simp [hz]
    rw [if_neg (fun c => hz c.1)]
    clear hz
    go_enter Try.func47, Try.ntmps47
    go_wp2_with (first | (go_at_call 42; refine ho.mono ?_; rintro e w' ⟨rfl, rfl⟩) | (go_at_call 28; refine hs.mono ?_; rintro e w' ⟨rfl, rfl⟩))
    go_ret
    exact ⟨rfl, rfl⟩

theorem Dev.block_zero {D : Dev} {i : Int} (h : D.block i = 0) : D.off = false ∧ 0 ≤ i ∧ i < D.now.length ∧ 0 ≤ D.stateAt i := by
  unfold Dev.block at h
  split at h
  · omega
  · rename_i hn
    have hs : ¬ D.stateAt i < 0 := fun c => hn ⟨h, c⟩
    have hoff : D.off = false := by
      unfold Dev.on at h
      cases ho : D.off
      · rfl
      · rw [ho] at h; simp at h
    refine ⟨hoff, ?_, ?_, by omega⟩
    all_goals
      unfold Dev.stateAt at hs
      split at hs
      · omega
      · rename_i hc; unfold Dev.len at hc; omega

theorem read_any (w : World) (L : Lay) (D : Dev) (h : DevAt w L D) (i : Int) (h0 : -9223372036854775808 ≤ i) (h1 : i ≤ 9223372036854775807) :
    Calls Try.prog 27 #[.pointer (some ⟨L.g, 0, none⟩), .int .i64 i] w fun e w' => e = .returned (.tuple #[.string (D.read i).1, .int .i64 (D.read i).2]) ∧ w = w' := by
  have hbk := block_any w L D h i h0 h1
  have hs := state_any w L D h i h0 h1
  have c1 := h.c1
  obtain ⟨sp, hb, hcap, hmax, _, _⟩ := h.nowB
  unfold Dev.read
  by_cases hz : D.block i = 0
  · obtain ⟨hoff, hi0, hi1, hi2⟩ := Dev.block_zero hz
    obtain ⟨k, rfl⟩ : ∃ k : Nat, i = k := ⟨i.toNat, by omega⟩
    have hk : k < D.now.length := by omega
    have hc : w.cell? ⟨L.gn, k * 2 + 1, none⟩ = some (.string (pbAt D.now k).data) := by
      rw [hb.cell, List.getElem?_append_left (by rw [pbCells_length]; omega), pbCells_data _ _ hk]
    rw [if_neg (by omega)]
    have hd : D.dataAt k = (pbAt D.now k).data := rfl
    rw [hd]
    have hzb : (D.block k == 0) = true := by simp [hz]
    have hzn : (D.block k != 0) = false := by simp [hz]
    clear h hb hoff hz hd
    by_cases e0 : D.stateAt k = 0
    · rw [if_pos e0]
      have e0' : (D.stateAt k == 0) = true := by simp [e0]
      clear e0
      go_enter Try.func27, Try.ntmps27
      go_wp2_with (first | (go_at_call 47; refine hbk.mono ?_; rintro e w' ⟨rfl, rfl⟩) | (go_at_call 28; refine hs.mono ?_; rintro e w' ⟨rfl, rfl⟩))
      go_ret2
      exact ⟨rfl, rfl⟩
    rw [if_neg e0]
    have e0' : (D.stateAt k == 0) = false := by simp [e0]
    by_cases e2 : D.stateAt k = 2
    · rw [if_pos e2]
      have e2' : (D.stateAt k == 2) = true := by simp [e2]
      clear e0 e2
      go_enter Try.func27, Try.ntmps27
      go_wp2_with (first | (go_at_call 47; refine hbk.mono ?_; rintro e w' ⟨rfl, rfl⟩) | (go_at_call 28; refine hs.mono ?_; rintro e w' ⟨rfl, rfl⟩))
      go_ret2
      exact ⟨rfl, rfl⟩
    · rw [if_neg e2]
      have e2' : (D.stateAt k == 2) = false := by simp [e2]
      clear e0 e2
      go_enter Try.func27, Try.ntmps27
      go_wp2_with (first | (go_at_call 47; refine hbk.mono ?_; rintro e w' ⟨rfl, rfl⟩) | (go_at_call 28; refine hs.mono ?_; rintro e w' ⟨rfl, rfl⟩))
      go_ret2
      exact ⟨rfl, rfl⟩
  · rw [if_pos hz]
    have hzn : (D.block i != 0) = true := by simp [hz]
    clear h hb hz
    go_enter Try.func27, Try.ntmps27
    go_wp2_with (first | (go_at_call 47; refine hbk.mono ?_; rintro e w' ⟨rfl, rfl⟩) | (go_at_call 28; refine hs.mono ?_; rintro e w' ⟨rfl, rfl⟩))
    go_ret2
    exact ⟨rfl, rfl⟩

theorem up_any (w : World) (L : Lay) (D : Dev) (h : DevAt w L D) :
    Calls Try.prog 30 #[.pointer (some ⟨L.g, 0, none⟩)] w fun e w' => e = .returned (.bool (!D.off)) ∧ w = w' := by
  have ho := on_any w L D h
  unfold Dev.on at ho
  clear h
  cases hoff : D.off
  all_goals
    rw [hoff] at ho
    clear hoff
    go_enter Try.func30, Try.ntmps30
    go_wp2_with (go_at_call 42; refine ho.mono ?_; rintro e w' ⟨rfl, rfl⟩)
    go_ret
    exact ⟨rfl, rfl⟩

theorem pending_any (w : World) (L : Lay) (D : Dev) (h : DevAt w L D) :
    Calls Try.prog 22 #[.pointer (some ⟨L.g, 0, none⟩)] w fun e w' => e = .returned (.int .i64 D.acts.length) ∧ w = w' := by
  have c2 := h.c2
  obtain ⟨A, c, hv⟩ : ∃ A c, L.va = .slice A D.acts.length c := by
    rcases h.acts.2 with ⟨hv, hn⟩ | ⟨g, cap, cur, hv, _⟩
    · exact ⟨none, 0, by rw [hv, hn]⟩
    · exact ⟨_, _, hv⟩
  rw [hv] at c2
  clear h hv
  go_enter Try.func22, Try.ntmps22
  go_wp2
  go_ret
  exact ⟨rfl, rfl⟩
end Go.Proofs.Ytfmhfgkmoeimeaa
