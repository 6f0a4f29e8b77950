/- The arguments of the laws, opened. -/
import Derived.Test.YtfmhfgkmoeimeaaW16
import Derived.ProofKit
import Derived.OpenShut
import Derived.ChangeOld
import Derived.Deep.Slices
import Derived.Deep.Fields
namespace Go.Proofs.Ytfmhfgkmoeimeaa
open Go.ChangeShapes Go.WideShapes Go.ChangeAt Go.RowKit Go.Deep

theorem own_ : ownKnob Try.prog.godebug = none := by kernel_rfl
theorem laidOut_ : laidOutB Try.prog = true := by kernel_rfl

instance : Inhabited PDo := ⟨⟨0, 0, 0, ByteArray.empty, []⟩⟩

theorem wf_i64 {n : Int} (h : (Lit.int .i64 n).wf = true) : -9223372036854775808 ≤ n ∧ n ≤ 9223372036854775807 := by
  have e0 : IntKind.min .i64 = -9223372036854775808 := by decide
  have e1 : IntKind.max .i64 = 9223372036854775807 := by decide
  simp only [Lit.wf, Bool.and_eq_true, decide_eq_true_eq, e0, e1] at h
  exact h
theorem wf_u8 {n : Int} (h : (Lit.int .u8 n).wf = true) : 0 ≤ n ∧ n ≤ 255 := by
  have e0 : IntKind.min .u8 = 0 := by decide
  have e1 : IntKind.max .u8 = 255 := by decide
  simp only [Lit.wf, Bool.and_eq_true, decide_eq_true_eq, e0, e1] at h
  exact h
theorem five {cs : List Value} (h : cs.length = 5) : ∃ a b c d e, cs = [a, b, c, d, e] := by
  match cs, h with
  | [a, b, c, d, e], _ => exact ⟨a, b, c, d, e, rfl⟩

section
variable {H : Type} {enc : TypeId × Value → H} {W : World} {base : Nat} {spare : Nat → Bool} {held : Bool}

theorem open_ks {fuel : Nat} {v : Value} {x : DataW H × List MemPlace} (h : DataW.trod enc Try.prog W base spare held fuel 24 [v] = some x) :
    ∃ ks, KsAt W W.heap.size v ks ∧ ∀ n ∈ ks, -9223372036854775808 ≤ n ∧ n ≤ 9223372036854775807 := by
  rcases open_ints Try.underlying24 Try.underlying3 (by kernel_rfl) h with ⟨hcs, _⟩ | ⟨a, len, cap, zs, hcs, _, hl, hm, hz, _, hcell, hwz⟩
  · injection hcs with hcs
    subst hcs
    exact ⟨[], ⟨none, 0, rfl, fun k hk => by simp at hk⟩, by simp⟩
  · injection hcs with hcs
    subst hcs
    have hle : len ≤ zs.length := by rw [hz]; split <;> omega
    have hlt : (zs.take len).length = len := by rw [List.length_take]; omega
    refine ⟨zs.take len, ⟨some a, cap, by rw [hlt], fun k hk => ⟨a, rfl, ?_, ?_⟩⟩, fun n hn => wf_i64 (hwz n (List.mem_of_mem_take hn))⟩
    · rw [hlt] at hk
      have := World.block_lt_of_cell? W _ (hcell k (by omega))
      rwa [block_of_add] at this
    · rw [hlt] at hk
      rw [hcell k (by omega)]
      unfold ksAt
      rw [List.getD_eq_getElem?_getD, List.getD_eq_getElem?_getD, List.getElem?_take_of_lt hk]

theorem add_spot {a : Addr} (h : a.spot = none) (n : Nat) : a.add n = ⟨a.block, a.off + n, none⟩ := by
  obtain ⟨b, o, s⟩ := a
  simp at h
  subst h
  unfold Addr.add
  split
  · rename_i h0; subst h0; rfl
  · rfl

/-- One thing asked, out of its reading. -/
theorem open_do {fuel : Nat} {b o : Nat} {cs : List Value} {x : DataW H × List MemPlace} (h : DataW.trod enc Try.prog W base spare held fuel 35 cs = some x) (hc : ∀ j, j < 5 → W.cell? ⟨b, o + j, none⟩ = cs[j]?) :
    ∃ (p : PDo) (kv : Value), p.In ∧ W.cell? ⟨b, o, none⟩ = some (.int .u8 p.what) ∧ W.cell? ⟨b, o + 1, none⟩ = some (.int .i64 p.i) ∧ W.cell? ⟨b, o + 2, none⟩ = some (.int .i64 p.n) ∧
      W.cell? ⟨b, o + 3, none⟩ = some (.string p.s) ∧ W.cell? ⟨b, o + 4, none⟩ = some kv ∧ KsAt W W.heap.size kv p.k := by
  obtain ⟨xs, n, _, _, hlen, hxl, hf⟩ := DataW.trod_struct Try.underlying35 h
  have h5 : cs.length = 5 := hlen.trans (by kernel_rfl)
  obtain ⟨v0, v1, v2, v3, v4, rfl⟩ := five h5
  obtain ⟨y0, e0⟩ : ∃ y, xs[0]? = some y := ⟨_, List.getElem?_eq_getElem (by rw [hxl]; decide)⟩
  obtain ⟨y1, e1⟩ : ∃ y, xs[1]? = some y := ⟨_, List.getElem?_eq_getElem (by rw [hxl]; decide)⟩
  obtain ⟨y2, e2⟩ : ∃ y, xs[2]? = some y := ⟨_, List.getElem?_eq_getElem (by rw [hxl]; decide)⟩
  obtain ⟨y3, e3⟩ : ∃ y, xs[3]? = some y := ⟨_, List.getElem?_eq_getElem (by rw [hxl]; decide)⟩
  obtain ⟨y4, e4⟩ : ∃ y, xs[4]? = some y := ⟨_, List.getElem?_eq_getElem (by rw [hxl]; decide)⟩
  have c5 : Try.prog.cellsOf 5 = 1 := by kernel_rfl
  have c3 : Try.prog.cellsOf 3 = 1 := by kernel_rfl
  have c9 : Try.prog.cellsOf 9 = 1 := by kernel_rfl
  have c24 : Try.prog.cellsOf 24 = 1 := by kernel_rfl
  have f0 : DataW.trod enc Try.prog W base spare held n 5 (([v0, v1, v2, v3, v4].drop 0).take (Try.prog.cellsOf 5)) = xs[0]? := hf 0 _ rfl
  have f1 : DataW.trod enc Try.prog W base spare held n 3 (([v0, v1, v2, v3, v4].drop 1).take (Try.prog.cellsOf 3)) = xs[1]? := hf 1 _ rfl
  have f2 : DataW.trod enc Try.prog W base spare held n 3 (([v0, v1, v2, v3, v4].drop 2).take (Try.prog.cellsOf 3)) = xs[2]? := hf 2 _ rfl
  have f3 : DataW.trod enc Try.prog W base spare held n 9 (([v0, v1, v2, v3, v4].drop 3).take (Try.prog.cellsOf 9)) = xs[3]? := hf 3 _ rfl
  have f4 : DataW.trod enc Try.prog W base spare held n 24 (([v0, v1, v2, v3, v4].drop 4).take (Try.prog.cellsOf 24)) = xs[4]? := hf 4 _ rfl
  rw [e0] at f0
  rw [e1] at f1
  rw [e2] at f2
  rw [e3] at f3
  rw [e4] at f4
  simp only [c5, c3, c9, c24, List.drop_zero, List.drop_succ_cons, List.take_succ_cons, List.take_zero] at f0 f1 f2 f3 f4
  obtain ⟨a0, g0, _, w0⟩ := DataW.trod_int Try.underlying5 f0
  obtain ⟨a1, g1, _, w1⟩ := DataW.trod_int Try.underlying3 f1
  obtain ⟨a2, g2, _, w2⟩ := DataW.trod_int Try.underlying3 f2
  obtain ⟨a3, g3, _, w3⟩ := DataW.trod_string Try.underlying9 f3
  obtain ⟨ks, hks, wks⟩ := open_ks f4
  injection g0 with g0
  injection g1 with g1
  injection g2 with g2
  injection g3 with g3
  subst g0 g1 g2 g3
  have b0 := wf_u8 w0
  have b1 := wf_i64 w1
  have b2 := wf_i64 w2
  obtain ⟨m, rfl⟩ : ∃ m : Nat, a0 = m := ⟨a0.toNat, by omega⟩
  exact ⟨⟨m, a1, a2, a3, ks⟩, v4, ⟨by show m < 256; omega, b1.1, b1.2, b2.1, b2.2, wks⟩, hc 0 (by omega), hc 1 (by omega), hc 2 (by omega), hc 3 (by omega), hc 4 (by omega), hks⟩

theorem open_dos {fuel : Nat} {v : Value} {x : DataW H × List MemPlace} (h : DataW.trod enc Try.prog W base spare held fuel 22 [v] = some x) : ∃ l, DosAt W W.heap.size v l := by
  rcases open_slice Try.underlying22 h with ⟨hcs, _⟩ | ⟨a, len, cap, m, n, D, Pl, hcs, _, hl, hm, hmm, _, hi⟩
  · injection hcs with hcs
    subst hcs
    exact ⟨[], DosAt.nil _ _⟩
  · injection hcs with hcs
    subst hcs
    have hC : Try.prog.cellsOf 35 = 5 := by kernel_rfl
    rw [hC] at hi
    have hlm : len ≤ m := by rw [hmm]; split <;> omega
    have each : ∀ i, i < len → ∃ (p : PDo), p.In ∧ ∃ (kv : Value), a.spot = none ∧ a.block < W.heap.size ∧ W.cell? ⟨a.block, a.off + i * 5, none⟩ = some (.int .u8 p.what) ∧ W.cell? ⟨a.block, a.off + i * 5 + 1, none⟩ = some (.int .i64 p.i) ∧
        W.cell? ⟨a.block, a.off + i * 5 + 2, none⟩ = some (.int .i64 p.n) ∧ W.cell? ⟨a.block, a.off + i * 5 + 3, none⟩ = some (.string p.s) ∧ W.cell? ⟨a.block, a.off + i * 5 + 4, none⟩ = some kv ∧ KsAt W W.heap.size kv p.k := by
      intro i hil
      obtain ⟨cs, hc, ht⟩ := hi i (by omega)
      obtain ⟨_, hcl, hat⟩ := World.cells?_some hc
      have h0 := hat 0 (by omega)
      rw [List.getElem?_eq_getElem (by omega)] at h0
      have hs0 : ((a.add (i * 5)).add 0).spot = none := World.cell?_spot h0
      have hsp : a.spot = none := by
        have hb := (hi 0 (by omega))
        obtain ⟨cs', hc', _⟩ := hb
        obtain ⟨_, hcl', hat'⟩ := World.cells?_some hc'
        have h00 := hat' 0 (by omega)
        rw [List.getElem?_eq_getElem (by omega)] at h00
        simpa [Addr.add] using World.cell?_spot h00
      have hblk := World.block_lt_of_cell? W _ h0
      rw [block_of_add, block_of_add] at hblk
      obtain ⟨p, kv, hin, k0, k1, k2, k3, k4, k5⟩ := open_do (b := a.block) (o := a.off + i * 5) ht (fun j hj => by
        have := hat j hj
        rw [add_spot hsp, add_spot rfl] at this
        exact this)
      exact ⟨p, hin, kv, hsp, hblk, k0, k1, k2, k3, k4, k5⟩
    refine ⟨(List.range len).map fun i => if hil : i < len then Classical.choose (each i hil) else default, some a, cap, by simp, by simpa using hl, fun x hx => ?_, fun k hk => ?_⟩
    · obtain ⟨i, hi', rfl⟩ := List.mem_map.1 hx
      have hil := List.mem_range.1 hi'
      rw [dif_pos hil]
      exact (Classical.choose_spec (each i hil)).1
    · have hkl : k < len := by simpa using hk
      obtain ⟨hin, kv, hsp, hblk, k0, k1, k2, k3, k4, k5⟩ := Classical.choose_spec (each k hkl)
      refine ⟨a.block, a.off, kv, ?_, hblk, ?_⟩
      · obtain ⟨b, o, s⟩ := a; simp at hsp; subst hsp; rfl
      · simp only [List.getElem_map, List.getElem_range, dif_pos hkl]
        exact ⟨k0, k1, k2, k3, k4, k5⟩
end
end Go.Proofs.Ytfmhfgkmoeimeaa
