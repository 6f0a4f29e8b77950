/- The argument of DeviceTorn, opened: a text, two rows of bytes, a list of ints. -/
import Derived.Test.YtfmhfgkmoeimeaaArgs2
import Derived.Test.YtfmhfgkmoeimeaaBs
namespace Go.Proofs.Ytfmhfgkmoeimeaa
open Go.ChangeShapes Go.WideShapes Go.ChangeAt Go.RowKit Go.Deep

theorem four {cs : List Value} (h : cs.length = 4) : ∃ a b c d, cs = [a, b, c, d] := by
  match cs, h with
  | [a, b, c, d], _ => exact ⟨a, b, c, d, rfl⟩

section
variable {H : Type} {enc : TypeId × Value → H} {W : World} {base b0 : Nat} {spare : Nat → Bool} {held : Bool}

set_option maxRecDepth 100000 in
theorem open_bs {fuel : Nat} {v : Value} {x : DataW H × List MemPlace} (h : DataW.trod enc Try.prog W base spare held fuel 41 [v] = some x) :
    ∃ zs, BsAt W W.heap.size v zs := by
  rcases open_ints Try.underlying41 Try.underlying5 (by kernel_rfl) h with ⟨hcs, _⟩ | ⟨a, len, cap, zs, hcs, _, hl, hm, hz, _, hcell, hwz⟩
  · injection hcs with hcs
    subst hcs
    exact ⟨[], ⟨none, 0, rfl, fun k hk => by simp at hk⟩⟩
  · injection hcs with hcs
    subst hcs
    have hle : len ≤ zs.length := by rw [hz]; split <;> omega
    have hlt : ((zs.take len).map Int.toNat).length = len := by rw [List.length_map, List.length_take]; omega
    refine ⟨(zs.take len).map Int.toNat, ⟨some a, cap, by rw [hlt], fun k hk => ?_⟩⟩
    rw [hlt] at hk
    have hw := wf_u8 (hwz (zs.getD k 0) (by rw [List.getD_eq_getElem?_getD, List.getElem?_eq_getElem (by omega)]; exact List.getElem_mem _))
    have e : ((zs.take len).map Int.toNat).getD k 0 = (zs.getD k 0).toNat := by
      rw [List.getD_eq_getElem?_getD, List.getElem?_map, List.getElem?_take_of_lt hk, List.getD_eq_getElem?_getD, List.getElem?_eq_getElem (show k < zs.length by omega)]; rfl
    refine ⟨a, rfl, ?_, ?_, ?_⟩
    · have := World.block_lt_of_cell? W _ (hcell k (by omega))
      rwa [block_of_add] at this
    · rw [hcell k (by omega), e, Int.toNat_of_nonneg hw.1]
    · rw [e]
      have := hw.2
      omega

set_option maxRecDepth 100000 in
theorem open_torn_val {v : Value} {d : DataW H} {ps : List MemPlace} {r : Reach} (hv : Value.okWide Try.prog W r b0 43 v) (h : DataW.Trod enc Try.prog W base spare held 43 v d ps) :
    ∃ (S : ByteArray) (va vb vk : Value) (ws es : List Nat) (ks : List Int), v = .agg #[.string S, va, vb, vk] ∧ BsAt W W.heap.size va ws ∧ BsAt W W.heap.size vb es ∧ KsAt W W.heap.size vk ks ∧ ∀ n ∈ ks, -9223372036854775808 ≤ n ∧ n ≤ 9223372036854775807 := by
  obtain ⟨cs, rfl, _⟩ := okWide_struct Try.underlying43 hv
  obtain ⟨fuel, hf0⟩ := h
  obtain ⟨xs, n, _, _, hlen, hxl, hf⟩ := DataW.trod_struct Try.underlying43 hf0
  have h4 : (Value.agg cs).cells.toList.length = 4 := hlen.trans (by kernel_rfl)
  obtain ⟨v0, v1, v2, v3, hcs⟩ := four h4
  rw [hcs] at hf
  obtain ⟨y0, e0⟩ : ∃ y, xs[0]? = some y := ⟨_, List.getElem?_eq_getElem (by rw [hxl]; decide)⟩
  obtain ⟨y1, e1⟩ : ∃ y, xs[1]? = some y := ⟨_, List.getElem?_eq_getElem (by rw [hxl]; decide)⟩
  obtain ⟨y2, e2⟩ : ∃ y, xs[2]? = some y := ⟨_, List.getElem?_eq_getElem (by rw [hxl]; decide)⟩
  obtain ⟨y3, e3⟩ : ∃ y, xs[3]? = some y := ⟨_, List.getElem?_eq_getElem (by rw [hxl]; decide)⟩
  have c9 : Try.prog.cellsOf 9 = 1 := by kernel_rfl
  have c41 : Try.prog.cellsOf 41 = 1 := by kernel_rfl
  have c24 : Try.prog.cellsOf 24 = 1 := by kernel_rfl
  have f0 : DataW.trod enc Try.prog W base spare held n 9 (([v0, v1, v2, v3].drop 0).take (Try.prog.cellsOf 9)) = xs[0]? := hf 0 _ rfl
  have f1 : DataW.trod enc Try.prog W base spare held n 41 (([v0, v1, v2, v3].drop 1).take (Try.prog.cellsOf 41)) = xs[1]? := hf 1 _ rfl
  have f2 : DataW.trod enc Try.prog W base spare held n 41 (([v0, v1, v2, v3].drop 2).take (Try.prog.cellsOf 41)) = xs[2]? := hf 2 _ rfl
  have f3 : DataW.trod enc Try.prog W base spare held n 24 (([v0, v1, v2, v3].drop 3).take (Try.prog.cellsOf 24)) = xs[3]? := hf 3 _ rfl
  rw [e0] at f0
  rw [e1] at f1
  rw [e2] at f2
  rw [e3] at f3
  simp only [c9, c41, c24, List.drop_zero, List.drop_succ_cons, List.take_succ_cons, List.take_zero] at f0 f1 f2 f3
  obtain ⟨a0, g0, _, w0⟩ := DataW.trod_string Try.underlying9 f0
  obtain ⟨ws, hws⟩ := open_bs f1
  obtain ⟨es, hes⟩ := open_bs f2
  obtain ⟨ks, hks, wks⟩ := open_ks f3
  have g0' : v0 = .string a0 := by injection g0
  have : cs = #[v0, v1, v2, v3] := by apply Array.toList_inj.1; exact hcs
  exact ⟨a0, v1, v2, v3, ws, es, ks, by rw [this, g0'], hws, hes, hks, wks⟩
end
end Go.Proofs.Ytfmhfgkmoeimeaa
