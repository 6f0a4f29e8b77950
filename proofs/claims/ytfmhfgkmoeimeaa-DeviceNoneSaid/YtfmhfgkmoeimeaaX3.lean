/- Readings of lists, cell by cell; kept blocks taken off. -/
import Derived.Test.YtfmhfgkmoeimeaaW21
import Derived.Test.YtfmhfgkmoeimeaaP2
import Derived.Test.YtfmhfgkmoeimeaaX2
namespace Go.Proofs.Ytfmhfgkmoeimeaa
open Go.RowKit

theorem Also.drewN {w W : World} {ds : List (Nat × Dev)} {bs : List (Nat × Obj)} (h : Also w W ds bs) (n : Nat) : Also w (W.drewN n) ds bs := h.after ⟨rfl, rfl, rfl, Nat.le_refl _, fun _ _ => rfl⟩

theorem st_at {D : Dev} {k : Nat} (hk : k < D.now.length) : ((stList D).map intV)[k]? = some (.int .i64 (pbAt D.now k).st) := by
  unfold stList
  rw [List.getElem?_map, List.getElem?_map, List.getElem?_eq_getElem hk]
  unfold pbAt
  rw [List.getD_eq_getElem?_getD, List.getElem?_eq_getElem hk]; rfl
theorem tx_at {D : Dev} {k : Nat} (hk : k < D.now.length) : ((txList D).map strV)[k]? = some (.string (D.read k).1) := by
  unfold txList
  rw [List.getElem?_map, List.getElem?_map, List.getElem?_range hk]; rfl
theorem stList_len (D : Dev) : ((stList D).map intV).length = D.now.length := by simp [stList]
theorem txList_len (D : Dev) : ((txList D).map strV).length = D.now.length := by simp [txList]
/-- A cell of a list that was read. -/
theorem ReadsV.cell {w : World} {g n c k : Nat} {xs : List Value} {v : Value} (h : ReadsV w (.slice (some ⟨g, 0, none⟩) n c) xs) (hk : xs[k]? = some v) : w.cell? ⟨g, k, none⟩ = some v := by
  obtain ⟨A, c', he, _, hc⟩ := h
  injection he with he1 _ _
  obtain ⟨ad, ha, hcell⟩ := hc k (List.getElem?_eq_some_iff.1 hk).1
  rw [← he1] at ha
  injection ha with ha
  rw [← ha, addr_add0, hk] at hcell
  exact hcell
theorem read_same {D E : Dev} (ho : D.off = E.off) {k : Nat} (hk : k < D.now.length) (hk2 : k < E.now.length) (h : pbAt E.now k = pbAt D.now k) : (E.read k).1 = (D.read k).1 := by
  have h1 : E.stateAt k = D.stateAt k := by rw [stateAt_nat D hk, stateAt_nat E hk2, h]
  have h2 : E.on = D.on := by unfold Dev.on; rw [ho]
  have h3 : E.dataAt k = D.dataAt k := by
    unfold Dev.dataAt
    rw [Int.toNat_natCast, h]
  unfold Dev.read Dev.block
  rw [h1, h2, h3]

theorem Also.pop {w W : World} {ds : List (Nat × Dev)} {bs : List (Nat × Obj)} {p : Nat × Obj} (h : Also w W ds (bs ++ [p])) : Also w W ds bs := by
  obtain ⟨Ls, h⟩ := h
  refine ⟨Ls, h.held, fun q hq => h.here q (List.mem_append_left _ hq), fun q hq => h.out q (List.mem_append_left _ hq), ?_, fun q hq => h.new q (List.mem_append_left _ hq)⟩
  have := h.nodup
  rw [List.map_append, List.nodup_append] at this
  exact this.1
theorem gone_blk {W : World} {b : Nat} {gl : List Bool} (h : W.heap[b]? = some (goneO gl)) : Blk W b 4 (gl.map Value.bool) := h
theorem gone_cell {W : World} {b j : Nat} {gl : List Bool} (h : W.heap[b]? = some (goneO gl)) (hj : j < gl.length) : W.cell? ⟨b, j, none⟩ = some (.bool (gl.getD j false)) := by
  rw [(gone_blk h).cell, List.getElem?_map, List.getElem?_eq_getElem hj, List.getD_eq_getElem?_getD, List.getElem?_eq_getElem hj]; rfl
/-- A store into a row of Booleans. -/
theorem Also.mark {w W : World} {ds : List (Nat × Dev)} {bs : List (Nat × Obj)} {j b m : Nat} {gl : List Bool} (h : Also w W ds bs) (hj : bs[j]? = some (b, goneO gl)) : Also w (W.setCell ⟨b, m, none⟩ (.bool true)) ds (bs.set j (b, goneO (gl.set m true))) := by
  refine h.turn hj ?_ (fun c hc => Below.heap_setCell _ _ _ c hc) (by simp) rfl rfl rfl
  have := (gone_blk (h.at_ hj)).set_ m (.bool true)
  rw [← List.map_set] at this
  exact this
theorem mark_more {gl : List Bool} {m : Nat} : ∀ j, gl.getD j false = true → (gl.set m true).getD j false = true := by
  intro j h
  rw [List.getD_eq_getElem?_getD] at h ⊢
  rw [List.getElem?_set]
  by_cases e : m = j
  · subst e
    rw [if_pos rfl]
    by_cases hl : m < gl.length
    · rw [if_pos hl]; rfl
    · rw [List.getElem?_eq_none (by omega)] at h; exact absurd h (by decide)
  · rw [if_neg e]; exact h
theorem mark_here {gl : List Bool} {m : Nat} (h : m < gl.length) : (gl.set m true).getD m false = true := by
  rw [List.getD_eq_getElem?_getD, List.getElem?_set_self h]; rfl
end Go.Proofs.Ytfmhfgkmoeimeaa
