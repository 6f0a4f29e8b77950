/- More arguments of the laws, opened: a thing asked by value, two lists in an array, a list of ints, a pair of bytes. -/
import Derived.Test.YtfmhfgkmoeimeaaArgs
namespace Go.Proofs.Ytfmhfgkmoeimeaa
open Go.ChangeShapes Go.WideShapes Go.ChangeAt Go.RowKit Go.Deep

section
variable {H : Type} {enc : TypeId × Value → H} {W : World} {base b0 : Nat} {spare : Nat → Bool} {held : Bool}

set_option maxRecDepth 100000 in
theorem open_do_cells {fuel : Nat} {cs : List Value} {x : DataW H × List MemPlace} (h : DataW.trod enc Try.prog W base spare held fuel 35 cs = some x) :
    ∃ (p : PDo) (kv : Value), p.In ∧ cs = [.int .u8 p.what, .int .i64 p.i, .int .i64 p.n, .string p.s, kv] ∧ KsAt W W.heap.size kv p.k := by
  obtain ⟨xs, n, _, _, hlen, hxl, hf⟩ := DataW.trod_struct Try.underlying35 h
  have h5 : cs.length = 5 := hlen.trans (by kernel_rfl)
  obtain ⟨v0, v1, v2, v3, v4, rfl⟩ := five h5
  obtain ⟨y0, e0⟩ : ∃ y, xs[0]? = some y := ⟨_, List.getElem?_eq_getElem (by rw [hxl]; decide)⟩
  obtain ⟨y1, e1⟩ : ∃ y, xs[1]? = some y := ⟨_, List.getElem?_eq_getElem (by rw [hxl]; decide)⟩
  obtain ⟨y2, e2⟩ : ∃ y, xs[2]? = some y := ⟨_, List.getElem?_eq_getElem (by rw [hxl]; decide)⟩
  obtain ⟨y3, e3⟩ : ∃ y, xs[3]? = some y := ⟨_, List.getElem?_eq_getElem (by rw [hxl]; decide)⟩
  obtain ⟨y4, e4⟩ : ∃ y, xs[4]? = some y := ⟨_, List.getElem?_eq_getElem (by rw [hxl]; decide)⟩
  have c5 : Try.prog.cellsOf 5 = 1 := by kernel_rfl
  have c3 : Try.prog.cellsOf 3 = 1 := by kernel_rfl
  have c9 : Try.prog.cellsOf 9 = 1 := by kernel_rfl
  have c24 : Try.prog.cellsOf 24 = 1 := by kernel_rfl
  have f0 : DataW.trod enc Try.prog W base spare held n 5 (([v0, v1, v2, v3, v4].drop 0).take (Try.prog.cellsOf 5)) = xs[0]? := hf 0 _ rfl
  have f1 : DataW.trod enc Try.prog W base spare held n 3 (([v0, v1, v2, v3, v4].drop 1).take (Try.prog.cellsOf 3)) = xs[1]? := hf 1 _ rfl
  have f2 : DataW.trod enc Try.prog W base spare held n 3 (([v0, v1, v2, v3, v4].drop 2).take (Try.prog.cellsOf 3)) = xs[2]? := hf 2 _ rfl
  have f3 : DataW.trod enc Try.prog W base spare held n 9 (([v0, v1, v2, v3, v4].drop 3).take (Try.prog.cellsOf 9)) = xs[3]? := hf 3 _ rfl
  have f4 : DataW.trod enc Try.prog W base spare held n 24 (([v0, v1, v2, v3, v4].drop 4).take (Try.prog.cellsOf 24)) = xs[4]? := hf 4 _ rfl
  rw [e0] at f0
  rw [e1] at f1
  rw [e2] at f2
  rw [e3] at f3
  rw [e4] at f4
  simp only [c5, c3, c9, c24, List.drop_zero, List.drop_succ_cons, List.take_succ_cons, List.take_zero] at f0 f1 f2 f3 f4
  obtain ⟨a0, g0, _, w0⟩ := DataW.trod_int Try.underlying5 f0
  obtain ⟨a1, g1, _, w1⟩ := DataW.trod_int Try.underlying3 f1
  obtain ⟨a2, g2, _, w2⟩ := DataW.trod_int Try.underlying3 f2
  obtain ⟨a3, g3, _, w3⟩ := DataW.trod_string Try.underlying9 f3
  obtain ⟨ks, hks, wks⟩ := open_ks f4
  injection g0 with g0
  injection g1 with g1
  injection g2 with g2
  injection g3 with g3
  subst g0 g1 g2 g3
  have b0 := wf_u8 w0
  have b1 := wf_i64 w1
  have b2 := wf_i64 w2
  obtain ⟨m, rfl⟩ : ∃ m : Nat, a0 = m := ⟨a0.toNat, by omega⟩
  exact ⟨⟨m, a1, a2, a3, ks⟩, v4, ⟨by show m < 256; omega, b1.1, b1.2, b2.1, b2.2, wks⟩, rfl, hks⟩

set_option maxRecDepth 100000 in
theorem open_do_val {v : Value} {d : DataW H} {ps : List MemPlace} {r : Reach} (hv : Value.okWide Try.prog W r b0 35 v) (h : DataW.Trod enc Try.prog W base spare held 35 v d ps) :
    ∃ (p : PDo) (kv : Value), p.In ∧ v = doV p kv ∧ KsAt W W.heap.size kv p.k := by
  obtain ⟨cs, rfl, _⟩ := okWide_struct Try.underlying35 hv
  obtain ⟨fuel, hf⟩ := h
  obtain ⟨p, kv, hin, hcs, hk⟩ := open_do_cells hf
  refine ⟨p, kv, hin, ?_, hk⟩
  have : cs = #[.int .u8 p.what, .int .i64 p.i, .int .i64 p.n, .string p.s, kv] := by
    apply Array.toList_inj.1
    exact hcs
  rw [doV_eq, this]

set_option maxRecDepth 100000 in
theorem open_dos_val {v : Value} {d : DataW H} {ps : List MemPlace} {r : Reach} (hv : Value.okWide Try.prog W r b0 22 v) (h : DataW.Trod enc Try.prog W base spare held 22 v d ps) : ∃ l, DosAt W W.heap.size v l := by
  obtain ⟨a, len, cap, rfl⟩ := okWide_slice Try.underlying22 hv
  obtain ⟨fuel, hf⟩ := h
  exact open_dos hf

set_option maxRecDepth 100000 in
theorem open_ks_val {v : Value} {d : DataW H} {ps : List MemPlace} {r : Reach} (hv : Value.okWide Try.prog W r b0 24 v) (h : DataW.Trod enc Try.prog W base spare held 24 v d ps) :
    ∃ ks, KsAt W W.heap.size v ks ∧ ∀ n ∈ ks, -9223372036854775808 ≤ n ∧ n ≤ 9223372036854775807 := by
  obtain ⟨a, len, cap, rfl⟩ := okWide_slice Try.underlying24 hv
  obtain ⟨fuel, hf⟩ := h
  exact open_ks hf

theorem two {cs : List Value} (h : cs.length = 2) : ∃ a b, cs = [a, b] := by
  match cs, h with
  | [a, b], _ => exact ⟨a, b, rfl⟩

set_option maxRecDepth 100000 in
theorem open_dos2_val {v : Value} {d : DataW H} {ps : List MemPlace} {r : Reach} (hv : Value.okWide Try.prog W r b0 23 v) (h : DataW.Trod enc Try.prog W base spare held 23 v d ps) :
    ∃ v0 v1 l0 l1, v = .agg #[v0, v1] ∧ DosAt W W.heap.size v0 l0 ∧ DosAt W W.heap.size v1 l1 := by
  obtain ⟨cs, rfl⟩ : ∃ cs, v = .agg cs := by
    simp only [Value.okWide, Try.underlying23] at hv
    obtain ⟨cs, h1, _⟩ := hv
    exact ⟨cs, h1⟩
  obtain ⟨fuel, hf⟩ := h
  obtain ⟨xs, m, _, _, hlen, hxl, hi⟩ := DataW.trod_array Try.underlying23 hf
  have h2 : cs.toList.length = 2 := hlen.trans (by kernel_rfl)
  obtain ⟨v0, v1, hcs⟩ := two h2
  have c22 : Try.prog.cellsOf 22 = 1 := by kernel_rfl
  have hc : (Value.agg cs).cells.toList = [v0, v1] := hcs
  rw [hc, c22] at hi
  obtain ⟨y0, e0⟩ : ∃ y, xs[0]? = some y := ⟨_, List.getElem?_eq_getElem (by rw [hxl]; decide)⟩
  obtain ⟨y1, e1⟩ : ∃ y, xs[1]? = some y := ⟨_, List.getElem?_eq_getElem (by rw [hxl]; decide)⟩
  have f0 := hi 0 (by decide)
  have f1 := hi 1 (by decide)
  rw [e0] at f0
  rw [e1] at f1
  obtain ⟨l0, g0⟩ := open_dos (v := v0) f0
  obtain ⟨l1, g1⟩ := open_dos (v := v1) f1
  have : cs = #[v0, v1] := by apply Array.toList_inj.1; exact hcs
  exact ⟨v0, v1, l0, l1, by rw [this], g0, g1⟩

set_option maxRecDepth 100000 in
theorem open_u8s2_val {v : Value} {d : DataW H} {ps : List MemPlace} {r : Reach} (hv : Value.okWide Try.prog W r b0 51 v) (h : DataW.Trod enc Try.prog W base spare held 51 v d ps) :
    ∃ n0 n1 : Nat, v = .agg #[.int .u8 n0, .int .u8 n1] ∧ n0 < 256 ∧ n1 < 256 := by
  obtain ⟨cs, rfl⟩ : ∃ cs, v = .agg cs := by
    simp only [Value.okWide, Try.underlying51] at hv
    obtain ⟨cs, h1, _⟩ := hv
    exact ⟨cs, h1⟩
  obtain ⟨fuel, hf⟩ := h
  obtain ⟨xs, m, _, _, hlen, hxl, hi⟩ := DataW.trod_array Try.underlying51 hf
  have h2 : cs.toList.length = 2 := hlen.trans (by kernel_rfl)
  obtain ⟨v0, v1, hcs⟩ := two h2
  have c5 : Try.prog.cellsOf 5 = 1 := by kernel_rfl
  have hc : (Value.agg cs).cells.toList = [v0, v1] := hcs
  rw [hc, c5] at hi
  obtain ⟨y0, e0⟩ : ∃ y, xs[0]? = some y := ⟨_, List.getElem?_eq_getElem (by rw [hxl]; decide)⟩
  obtain ⟨y1, e1⟩ : ∃ y, xs[1]? = some y := ⟨_, List.getElem?_eq_getElem (by rw [hxl]; decide)⟩
  have f0 := hi 0 (by decide)
  have f1 := hi 1 (by decide)
  rw [e0] at f0
  rw [e1] at f1
  obtain ⟨a0, g0, _, w0⟩ := DataW.trod_int Try.underlying5 f0
  obtain ⟨a1, g1, _, w1⟩ := DataW.trod_int Try.underlying5 f1
  have g0' : v0 = .int .u8 a0 := by injection g0
  have g1' : v1 = .int .u8 a1 := by injection g1
  have b0 := wf_u8 w0
  have b1 := wf_u8 w1
  have : cs = #[v0, v1] := by apply Array.toList_inj.1; exact hcs
  refine ⟨a0.toNat, a1.toNat, ?_, by omega, by omega⟩
  rw [this, g0', g1']
  have : ((a0.toNat : Nat) : Int) = a0 := by omega
  have : ((a1.toNat : Nat) : Int) = a1 := by omega
  simp [*]
end
end Go.Proofs.Ytfmhfgkmoeimeaa
