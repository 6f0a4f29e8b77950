/- The sectors of a torn write; a mark in a row of Booleans. -/
import Derived.Test.YtfmhfgkmoeimeaaP6
namespace Go.Proofs.Ytfmhfgkmoeimeaa
open Go.RowKit

theorem z32_data : z32.data = (List.replicate 32 (0 : UInt8)).toArray := by kernel_rfl
theorem torn_size (b : ByteArray) (κ : Int) : (tornBytes b κ).size = b.size := by
  show (((List.range b.size).map _).toArray).size = _
  simp
theorem sector (b : ByteArray) (hb : b.size = 128) (κ : Int) (r : Nat) (hr : r < 4) : (tornBytes b κ).extract (32 * r) (32 * r + 32) = if bitOf κ r then b.extract (32 * r) (32 * r + 32) else z32 := by
  apply ByteArray.ext
  have hbd : b.data.size = 128 := hb
  have hd : (tornBytes b κ).data = ((List.range b.size).map fun i => if bitOf κ (i / 32) then b.data.getD i 0 else 0).toArray := rfl
  rw [ByteArray.data_extract, hd]
  apply Array.ext
  · split
    · rw [ByteArray.data_extract, Array.size_extract, Array.size_extract]
      simp [hb, hbd]
    · rw [z32_data, Array.size_extract]
      simp [hb]; omega
  · intro i h1 h2
    have hi : i < 32 := by rw [Array.size_extract] at h1; omega
    simp only [Array.getElem_extract, List.getElem_toArray, List.getElem_map, List.getElem_range]
    have hq : (32 * r + i) / 32 = r := by omega
    rw [hq]
    by_cases hbit : bitOf κ r = true
    · simp only [hbit, if_true, ByteArray.data_extract, Array.getElem_extract]
      rw [Array.getD_eq_getD_getElem?, Array.getElem?_eq_getElem (by omega)]; rfl
    · simp only [Bool.not_eq_true] at hbit
      have hz : ∀ (k : Nat) (h : k < ((if bitOf κ r = true then b.extract (32 * r) (32 * r + 32) else z32).data).size), ((if bitOf κ r = true then b.extract (32 * r) (32 * r + 32) else z32).data)[k] = 0 := by
        rw [hbit, if_neg (by decide), z32_data]
        intro k h
        rw [List.getElem_toArray, List.getElem_replicate]
      rw [hz i h2, hbit, if_neg (by decide)]
theorem sector_or (b : ByteArray) (hb : b.size = 128) (κ : Int) (r : Nat) (hr : r < 4) :
    (tornBytes b κ).extract (32 * r) (32 * r + 32) = b.extract (32 * r) (32 * r + 32) ∨ (tornBytes b κ).extract (32 * r) (32 * r + 32) = z32 := by
  rw [sector b hb κ r hr]
  cases bitOf κ r
  · exact .inr rfl
  · exact .inl rfl

theorem pick_mod (y m : Nat) (hy : y < 256) (hm : 0 < m) : ∃ q : Nat, q < m ∧ (wrap64 (y : Int)).tmod (m : Int) = q := by
  have h : wrap64 (y : Int) = y := by unfold wrap64; omega
  exact ⟨y % m, Nat.mod_lt _ hm, by rw [h]; exact (Int.ofNat_tmod y m).symm⟩

theorem setD (gl : List Bool) {q : Nat} (v : Bool) (hq : q < gl.length) (j : Nat) : (gl.set q v).getD j false = if j = q then v else gl.getD j false := by
  rw [List.getD_eq_getElem?_getD, List.getElem?_set, List.getD_eq_getElem?_getD]
  by_cases e : q = j
  · subst e
    rw [if_pos rfl, if_pos hq, if_pos rfl]; rfl
  · rw [if_neg e, if_neg (fun h => e h.symm)]
theorem Also.markv {w W : World} {ds : List (Nat × Dev)} {bs : List (Nat × Obj)} {j b m : Nat} {gl : List Bool} (v : Bool) (h : Also w W ds bs) (hj : bs[j]? = some (b, goneO gl)) : Also w (W.setCell ⟨b, m, none⟩ (.bool v)) ds (bs.set j (b, goneO (gl.set m v))) := by
  refine h.turn hj ?_ (fun c hc => Below.heap_setCell _ _ _ c hc) (by simp) rfl rfl rfl
  have := (gone_blk (h.at_ hj)).set_ m (.bool v)
  rw [← List.map_set] at this
  exact this

/-- Two new blocks at once. -/
theorem Also.push2 {w W W' : World} {ds : List (Nat × Dev)} {bs : List (Nat × Obj)} (h : Also w W ds bs) (hb : Below W.heap.size W W') {b c : Nat} {o p : Obj} (hg : W.heap.size ≤ b) (hc : W.heap.size ≤ c) (hne : b ≠ c) (ho : W'.heap[b]? = some o) (hp : W'.heap[c]? = some p) :
    Also w W' ds (bs ++ [(b, o), (c, p)]) := by
  obtain ⟨Ls, h⟩ := h
  have hlt : ∀ (i : Nat) (M : Lay), Ls[i]? = some M → ∀ c, M.foot c → c < W.heap.size := fun i M hM c hc => by
    obtain ⟨p, hp⟩ : ∃ p, ds[i]? = some p := ⟨_, List.getElem?_eq_getElem (by rw [← h.held.len]; exact (List.getElem?_eq_some_iff.1 hM).1)⟩
    exact (h.held.at_ i M p hM hp).2.lt hc
  have hold : ∀ q ∈ bs, q.1 < W.heap.size := fun q hq => heap_lt (h.here q hq)
  have hsz := h.held.below.size
  refine ⟨Ls, ?_, fun q hq => ?_, fun q hq i L hL hf => ?_, ?_, fun q hq => ?_⟩
  · have h1 := h.held
    exact ⟨h1.len, fun i L p hL hp => ⟨(h1.at_ i L p hL hp).1, (h1.at_ i L p hL hp).2.below hb⟩, h1.apart, h1.foot, h1.below.trans (hb.mono h1.below.size)⟩
  · rcases List.mem_append.1 hq with hq | hq
    · rw [hb.block _ (heap_lt (h.here q hq))]; exact h.here q hq
    · rcases List.mem_cons.1 hq with rfl | hq
      · exact ho
      · rw [List.mem_singleton] at hq; subst hq; exact hp
  · rcases List.mem_append.1 hq with hq | hq
    · exact h.out q hq i L hL hf
    · have := hlt i L hL _ hf
      rcases List.mem_cons.1 hq with rfl | hq
      · have e : b < W.heap.size := this
        omega
      · rw [List.mem_singleton] at hq; subst hq
        have e : c < W.heap.size := this
        omega
  · have hn := h.nodup
    rw [List.map_append, List.nodup_append]
    refine ⟨hn, by simpa using hne, fun a ha d hd => ?_⟩
    obtain ⟨q, hq, rfl⟩ := List.mem_map.1 ha
    have := hold q hq
    simp at hd
    rcases hd with rfl | rfl <;> omega
  · rcases List.mem_append.1 hq with hq | hq
    · exact h.new q hq
    · rcases List.mem_cons.1 hq with rfl | hq
      · show w.heap.size ≤ b; omega
      · rw [List.mem_singleton] at hq; subst hq
        show w.heap.size ≤ c; omega
end Go.Proofs.Ytfmhfgkmoeimeaa
