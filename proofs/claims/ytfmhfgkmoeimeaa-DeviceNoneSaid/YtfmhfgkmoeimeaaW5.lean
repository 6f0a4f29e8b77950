/- Walks: torn. -/
import Derived.Test.YtfmhfgkmoeimeaaW4
import Derived.Lib.ConvBytes
import Derived.Lib.Hide
namespace Go.Proofs.Ytfmhfgkmoeimeaa
open Go.RowKit

theorem i64_and15 (n : Int) : bits .and .i64 n 15 = n % 16 := by
  have h15 : (BitVec.ofInt 64 15).toNat = 2 ^ 4 - 1 := by decide
  have key : (BitVec.ofInt 64 n &&& BitVec.ofInt 64 15).toNat = (n % ((2 ^ 64 : Nat) : Int)).toNat % 2 ^ 4 := by
    rw [BitVec.toNat_and, BitVec.toNat_ofInt, h15, Nat.and_two_pow_sub_one_eq_mod]
  show IntKind.i64.wrap ((BitVec.ofInt 64 n &&& BitVec.ofInt 64 15).toNat : Nat) = n % 16
  rw [key, IntKind.wrap_i64]
  omega

theorem i64_and1 (n : Int) : bits .and .i64 n 1 = n % 2 := by
  have h1 : (BitVec.ofInt 64 1).toNat = 2 ^ 1 - 1 := by decide
  have key : (BitVec.ofInt 64 n &&& BitVec.ofInt 64 1).toNat = (n % ((2 ^ 64 : Nat) : Int)).toNat % 2 ^ 1 := by
    rw [BitVec.toNat_and, BitVec.toNat_ofInt, h1, Nat.and_two_pow_sub_one_eq_mod]
  show IntKind.i64.wrap ((BitVec.ofInt 64 n &&& BitVec.ofInt 64 1).toNat : Nat) = n % 2
  rw [key, IntKind.wrap_i64]
  omega

/-- A result of two cells, out of its block. -/
theorem res88 {fn : Func} {p : Tmp} (h : fn.results = #[.cell p 88]) (tmps : Array Value) (w : World) (g : Nat) (x : Int) (y : ByteArray) (hp : tmps.getD p undef = .pointer (some ⟨g, 0, none⟩)) (hb : Blk w g 88 [.int .i64 x, .string y]) :
    (results fn tmps).run Try.prog w = .ok (.agg #[.int .i64 x, .string y]) w := by
  have c0 : w.cell? ⟨g, 0, none⟩ = some (.int .i64 x) := hb.cell 0
  have c1 : w.cell? ⟨g, 1, none⟩ = some (.string y) := hb.cell 1
  have h88 := Try.underlying88
  clear hb
  have hp' : tmps[p]?.getD undef = .pointer (some ⟨g, 0, none⟩) := by simpa using hp
  simp only [results, h]
  simp [hp', go_sem, c0, c1]

theorem torn_erase (w : World) (a : Nat) (b : PB) (keep : Int) :
    Calls Try.prog 45 #[actV (.erase a), pbV b, .int .i64 keep] w fun e w' => e = .returned (pbV (tornF (.erase a) b keep)) ∧ Below w.heap.size w w' := by
  unfold actV tornF
  have hd := fun W => done_any W (.erase a)
  have h1 := ta_miss
  have hbit : (bits BinOp.and IntKind.i64 keep 1 == 0) = decide (keep % 2 = 0) := by rw [i64_and1]; rfl
  by_cases hk : keep % 2 = 0
  · rw [if_pos hk]
    have hb1 : (bits BinOp.and IntKind.i64 keep 1 == 0) = true := by rw [hbit]; simp [hk]
    clear hbit hk
    unfold pbV
    go_enter Try.func45, Try.ntmps45
    go_wp2_with fail
    exact bodyPost_ret (v := .agg #[.int .i64 b.st, .string b.data]) (by simp [results, Try.results45, go_sem]) rfl ⟨rfl, ((Below.refl _ _).alloc (Nat.le_refl _) _).alloc (by simp) _⟩
  · rw [if_neg hk]
    have hb1 : (bits BinOp.and IntKind.i64 keep 1 == 0) = false := by rw [hbit]; simp [hk]
    clear hbit hk
    unfold pbV
    go_enter Try.func45, Try.ntmps45
    go_wp2_with fail
    refine (hd _).mono ?_
    rintro e w1 ⟨rfl, hb⟩
    have B0 : Blk ((w.alloc (Obj.cells #[.int .i64 b.st, .string b.data] 88)).alloc (Obj.cells #[.int .i64 0, .string ⟨#[]⟩] 88)) (w.heap.size + 1) 88 [.int .i64 0, .string ⟨#[]⟩] := by
      simpa using Blk.new (w.alloc (Obj.cells #[.int .i64 b.st, .string b.data] 88)) 88 [.int .i64 0, .string ⟨#[]⟩]
    have B1 : Blk w1 (w.heap.size + 1) 88 [.int .i64 0, .string ⟨#[]⟩] := B0.same (hb.block _ B0.lt)
    have c0 := B1.cell 0
    have c1 := B1.cell 1
    have f0 := B1.frozen 0
    have f1 := B1.frozen 1
    have HB := Lib.hid hb
    have B1' := Lib.hid B1
    clear hb B0 B1
    unfold pbV doneF
    go_wp2_with fail
    refine bodyPost_ret (res88 rfl _ _ (w.heap.size + 1) 2 ByteArray.empty rfl ((B1'.out.set_ 0 (.int .i64 2)).set_ 1 (.string ByteArray.empty))) rfl ⟨rfl, ?_⟩
    refine Below.setCell (Below.setCell ?_ (by simp) _) (by simp) _
    exact (((Below.refl _ w).alloc (Nat.le_refl _) _).alloc (by simp) _).trans (HB.out.mono (by simp; omega))

/-- Byte i of the torn data where the first k have been gone through. -/
def tornAt (d : ByteArray) (keep : Int) (k i : Nat) : Int := if i < k ∧ bitOf keep (i / 32) = false then 0 else ((d.data.getD i 0).toNat : Int)

/-- What the loop of 'torn' keeps: the result's cells, the bytes' row. -/
structure TornRel (w wr : World) (d : ByteArray) (keep : Int) (k : Nat) : Prop where
  below : Below w.heap.size w wr
  size : w.heap.size + 3 < wr.heap.size
  res : Blk wr (w.heap.size + 1) 88 [.int .i64 0, .string ⟨#[]⟩]
  row : ∃ cs : Array Value, wr.heap[w.heap.size + 3]? = some (.cells cs 5 (cs.size, cs.size + 1)) ∧ 128 ≤ cs.size ∧ ∀ i, i < 128 → cs[i]? = some (.int .u8 (tornAt d keep k i))

theorem TornRel.cell {w wr : World} {d : ByteArray} {keep : Int} {k : Nat} (h : TornRel w wr d keep k) (i : Nat) (hi : i < 128) : wr.cell? ⟨w.heap.size + 3, i, none⟩ = some (.int .u8 (tornAt d keep k i)) := by
  obtain ⟨cs, hc, _, hv⟩ := h.row
  rw [cell_of_row wr _ i cs 5 _ hc, hv i hi]
theorem TornRel.frozen {w wr : World} {d : ByteArray} {keep : Int} {k : Nat} (h : TornRel w wr d keep k) (i : Nat) (hi : i < 128) : wr.frozen? ⟨w.heap.size + 3, i, none⟩ = false := by
  obtain ⟨cs, hc, hs, hv⟩ := h.row
  simp [World.frozen?, hc]; omega
theorem tornAt_skip (d : ByteArray) (keep : Int) (k i : Nat) (h : bitOf keep (k / 32) = true) : tornAt d keep (k + 1) i = tornAt d keep k i := by
  unfold tornAt
  by_cases hi : i = k
  · subst hi; simp [h]
  · have : i < k + 1 ↔ i < k := by omega
    simp only [this]
theorem tornAt_zero (d : ByteArray) (keep : Int) (k i : Nat) (h : bitOf keep (k / 32) = false) : tornAt d keep (k + 1) i = if i = k then 0 else tornAt d keep k i := by
  unfold tornAt
  by_cases hi : i = k
  · subst hi; simp [h]
  · have : i < k + 1 ↔ i < k := by omega
    simp only [this, hi, if_false]
theorem TornRel.skip {w wr : World} {d : ByteArray} {keep : Int} {k : Nat} (h : TornRel w wr d keep k) (hb : bitOf keep (k / 32) = true) : TornRel w wr d keep (k + 1) := by
  obtain ⟨cs, hc, hs, hv⟩ := h.row
  exact ⟨h.below, h.size, h.res, cs, hc, hs, fun i hi => by rw [hv i hi, tornAt_skip _ _ _ _ hb]⟩
theorem TornRel.zero {w wr : World} {d : ByteArray} {keep : Int} {k : Nat} (h : TornRel w wr d keep k) (hb : bitOf keep (k / 32) = false) (hk : k < 128) : TornRel w (wr.setCell ⟨w.heap.size + 3, k, none⟩ (.int .u8 0)) d keep (k + 1) := by
  obtain ⟨cs, hc, hs, hv⟩ := h.row
  refine ⟨h.below.setCell (by show _ ≤ w.heap.size + 3; omega) _, by simpa [World.setCell] using h.size, h.res.far (by show w.heap.size + 1 ≠ w.heap.size + 3; omega) _, cs.setIfInBounds k (.int .u8 0), ?_, by simpa using hs, fun i hi => ?_⟩
  · simp [World.setCell, Array.getElem?_modify, hc]
  · rw [tornAt_zero _ _ _ _ hb, Array.getElem?_setIfInBounds]
    by_cases e : k = i
    · subst e; simp; omega
    · rw [if_neg e, if_neg (fun x => e x.symm), hv i hi]
theorem tornAt_end (d : ByteArray) (keep : Int) (hs : d.size = 128) : strOfNums ((List.range 128).map (tornAt d keep 128)) = tornBytes d keep := by
  apply ByteArray.ext
  apply Array.ext'
  rw [strOfNums_data]
  simp only [tornBytes, List.map_map, hs, List.toList_toArray]
  apply List.map_congr_left
  intro i hi
  have hi' : i < 128 := by simpa using hi
  simp only [Function.comp, tornAt, hi', true_and]
  cases hb : bitOf keep (i / 32) <;> simp

set_option maxRecDepth 100000 in
theorem torn_write (w : World) (a : Nat) (d : ByteArray) (b : PB) (keep : Int) (hs : d.size = 128) :
    Calls Try.prog 45 #[actV (.write a d), pbV b, .int .i64 keep] w fun e w' => e = .returned (pbV (tornF (.write a d) b keep)) ∧ Below w.heap.size w w' := by
  have e0 : actV (.write a d) = .iface 93 (.agg #[.int .i64 a, .string d]) := rfl
  rw [e0]
  clear e0
  have h1 := ta_hit
  have kb := fun W => Lib.run_convert_string_bytes (P := Try.prog) W 9 41 5 d Try.underlying9 Try.underlying41 Try.underlying5
  rw [hs] at kb
  have hbit : (bits BinOp.and IntKind.i64 keep 15 == 0) = decide (keep % 16 = 0) := by rw [i64_and15]; rfl
  by_cases hk : keep % 16 = 0
  · rw [show tornF (.write a d) b keep = b from if_pos hk]
    have hb1 : (bits BinOp.and IntKind.i64 keep 15 == 0) = true := by rw [hbit]; simp [hk]
    clear hbit hk hs
    unfold pbV
    go_enter Try.func45, Try.ntmps45
    go_wp2_with fail
    exact bodyPost_ret (v := .agg #[.int .i64 b.st, .string b.data]) (by simp [results, Try.results45, go_sem]) rfl ⟨rfl, (((Below.refl _ _).alloc (Nat.le_refl _) _).alloc (by simp) _).alloc (by simp; omega) _⟩
  · rw [show tornF (.write a d) b keep = ⟨1, tornBytes d keep⟩ from if_neg hk]
    have hb1 : (bits BinOp.and IntKind.i64 keep 15 == 0) = false := by rw [hbit]; simp [hk]
    have HS := Lib.hid hs
    clear hbit hk hs
    unfold pbV
    go_enter Try.func45, Try.ntmps45
    go_wp2_with fail
    clear kb h1
    generalize hwl : Lib.bytesWorld _ 5 d = wl
    have R0 : TornRel w wl d keep 0 := by
      subst hwl
      generalize hw3 : ((w.alloc (Obj.cells #[.int .i64 b.st, .string b.data] 88)).alloc (Obj.cells #[.int .i64 0, .string ⟨#[]⟩] 88)).alloc (Obj.cells #[.int .i64 a, .string d] 93) = w3
      have hz : w3.heap.size = w.heap.size + 3 := by rw [← hw3]; simp
      have hb3 : Below w.heap.size w w3 := by rw [← hw3]; exact (((Below.refl _ _).alloc (Nat.le_refl _) _).alloc (by simp) _).alloc (by simp; omega) _
      have hres : Blk w3 (w.heap.size + 1) 88 [.int .i64 0, .string ⟨#[]⟩] := by
        rw [← hw3]
        have := Blk.new (w.alloc (Obj.cells #[.int .i64 b.st, .string b.data] 88)) 88 [.int .i64 0, .string ⟨#[]⟩]
        exact (by simpa using this : Blk ((w.alloc (Obj.cells #[.int .i64 b.st, .string b.data] 88)).alloc (Obj.cells #[.int .i64 0, .string ⟨#[]⟩] 88)) (w.heap.size + 1) 88 [.int .i64 0, .string ⟨#[]⟩]).alloc _
      have hbb : Below w3.heap.size w3 (Lib.bytesWorld w3 5 d) := ⟨rfl, rfl, rfl, by rw [Lib.bytesWorld_size]; omega, fun i hi => Lib.bytesWorld_at_old w3 5 d i hi⟩
      have hd : d.size = 128 := HS.out
      refine ⟨hb3.trans (hbb.mono (by omega)), by rw [Lib.bytesWorld_size]; omega, hres.same (hbb.block _ (by omega)), Lib.bytesCells w3 5 d, ?_, ?_, fun i hi => ?_⟩
      · rw [← hz]; exact Lib.bytesWorld_at_new w3 5 d
      · have := grownCap_ge w3 d.size 0 5
        simp [Lib.bytesCells]
        have : d.data.size = 128 := hd
        omega
      · have hi' : i < d.data.size := by have : d.data.size = 128 := hd; omega
        unfold Lib.bytesCells
        rw [Array.getElem?_append_left (by simpa using hi')]
        simp [tornAt]
        rw [Array.getElem?_eq_getElem hi']
        exact ⟨_, rfl, rfl⟩
    clear hwl hb1
    go_loopw [30] (fun i wr => ∃ k : Nat, k ≤ 128 ∧ i = .int .i64 k ∧ TornRel w wr d keep k) (fun i _ => 128 - (intOf i).toNat)
    case atStart => exact ⟨0, by omega, rfl, R0⟩
    case round =>
      obtain ⟨k, hk, rfl, hr⟩ := hrel
      clear R0
      by_cases hlt : k < 128
      · have hc := hr.cell k hlt
        have hf := hr.frozen k hlt
        have HR := Lib.hid hr
        clear hr
        go_wp2
        · have hbit : (bits BinOp.and IntKind.i64 (keep / 2 ^ (k / 32)) 1 == 0) = true := by assumption
          have hb : bitOf keep (k / 32) = false := by rw [i64_and1] at hbit; unfold bitOf; simp at hbit; simp; omega
          exact ⟨⟨k + 1, by omega, by go_num, HR.out.zero hb hlt⟩, by simp [intOf]; omega⟩
        · have hbit : (bits BinOp.and IntKind.i64 (keep / 2 ^ (k / 32)) 1 == 0) = false := by assumption
          have hb : bitOf keep (k / 32) = true := by rw [i64_and1] at hbit; unfold bitOf; simp at hbit; simp; omega
          exact ⟨⟨k + 1, by omega, by go_num, HR.out.skip hb⟩, by simp [intOf]; omega⟩
      · obtain rfl : k = 128 := by omega
        have hcv := run_convert_bytes_arg (P := Try.prog) wr 41 5 Try.underlying41 Try.underlying5 (w.heap.size + 3) 0 128 (grownCap (((w.alloc (Obj.cells #[.int .i64 b.st, .string b.data] 88)).alloc (Obj.cells #[.int .i64 0, .string ⟨#[]⟩] 88)).alloc (Obj.cells #[.int .i64 a, .string d] 93)) 128 0 5) ((List.range 128).map (tornAt d keep 128)) (by simp) (fun i hi => by
          rw [Nat.zero_add, hr.cell i hi, List.getD_eq_getElem?_getD, List.getElem?_map, List.getElem?_range hi]; rfl) 9 Try.underlying9
        rw [tornAt_end d keep HS.out] at hcv
        have r0 := hr.res.cell 0
        have r1 := hr.res.cell 1
        have q0 := hr.res.frozen 0
        have q1 := hr.res.frozen 1
        have HR := Lib.hid hr
        clear hr hlt hk
        go_wp2
        refine bodyPost_ret (res88 rfl _ _ (w.heap.size + 1) 1 (tornBytes d keep) rfl ((HR.out.res.set_ 0 (.int .i64 1)).set_ 1 (.string (tornBytes d keep)))) rfl ⟨rfl, ?_⟩
        exact (HR.out.below.setCell (by simp) _).setCell (by simp) _

theorem torn_any (w : World) (x : PAct) (b : PB) (keep : Int) (hs : ∀ a d, x = .write a d → d.size = 128) :
    Calls Try.prog 45 #[actV x, pbV b, .int .i64 keep] w fun e w' => e = .returned (pbV (tornF x b keep)) ∧ Below w.heap.size w w' := by
  cases x with
  | write a d => exact torn_write w a d b keep (hs a d rfl)
  | erase a => exact torn_erase w a b keep
end Go.Proofs.Ytfmhfgkmoeimeaa
