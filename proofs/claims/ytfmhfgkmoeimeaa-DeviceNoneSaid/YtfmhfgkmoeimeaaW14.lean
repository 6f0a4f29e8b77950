/- Walks: all, Block, data. -/
import Derived.Test.YtfmhfgkmoeimeaaW13
namespace Go.Proofs.Ytfmhfgkmoeimeaa
open Go.RowKit

def txList (D : Dev) : List ByteArray := (List.range D.now.length).map fun i : Nat => (D.read i).1

theorem take_tx {D : Dev} {k : Nat} (hk : k < D.now.length) : ((txList D).take (k + 1)).map strV = ((txList D).take k).map strV ++ [strV (D.read k).1] := by
  rw [List.take_succ_eq_append_getElem (by simpa [txList] using hk), List.map_append]
  simp [txList]

set_option maxHeartbeats 1000000 in
theorem all_any (w : World) (L : Lay) (D : Dev) (h : DevAt w L D) :
    Calls Try.prog 18 #[.pointer (some ⟨L.g, 0, none⟩)] w fun e w' => ∃ v, e = .returned v ∧ w'.ownsRow w.heap.size 9 1 v D.now.length ((txList D).map strV) ∧ Below w.heap.size w w' := by
  have hm := h.ok.max
  have HD := Lib.hid h
  have hlen : D.len = D.now.length := rfl
  have HLN := Lib.hid hlen
  clear h hlen
  go_enter Try.func18, Try.ntmps18
  go_wp2_with fail
  go_loopw [3, 4] (fun o i wr => ∃ k : Nat, k ≤ D.now.length ∧ i = .int .i64 k ∧ wr.ownsRow w.heap.size 9 1 o k (((txList D).take k).map strV) ∧ Below w.heap.size w wr) (fun _ i _ => D.now.length - (intOf i).toNat)
  case atStart => exact ⟨0, by omega, rfl, World.ownsRow_nil _ _ _ _, Below.refl _ _⟩
  case round =>
    obtain ⟨k, hk, rfl, ho, hb⟩ := hrel
    have hl := len_any wr L D (HD.out.below hb)
    rw [HLN.out] at hl
    by_cases hlt : k < D.now.length
    · have hs := read_any wr L D (HD.out.below hb) k (by omega) (by omega)
      have HO := Lib.hid ho
      have HB := Lib.hid hb
      clear ho hb
      go_wp2_with (first
        | (go_at_call 33; refine hl.mono ?_; rintro e w1 ⟨rfl, rfl⟩)
        | (go_at_call 27; refine hs.mono ?_; rintro e w1 ⟨rfl, rfl⟩)
        | (at_builtin; go_must (refine wpList_app rfl (.tmp 19) (.tmp 21) 31 9 (.string ByteArray.empty) 1 16 rfl Try.underlying31 info9 rfl (by decide) w.heap.size _ k (((txList D).take k).map strV) rfl (HO.out.alloc _) ⟨_, 0, none⟩ 1 1 [_] rfl rfl (cell_one_new _ _ _) (one_of rfl) (by unfold maxLen; omega) (by omega) (by have := HB.out.size; simp; omega) ?_); intro v1 w1 o1 g1 a1; have O1 := Lib.hid o1; have G1 := Lib.hid g1; clear o1 g1 a1))
      go_roundw
      case rel =>
        refine ⟨k + 1, by omega, by go_num, ?_, ?_⟩
        · rw [take_tx hlt]; exact O1.out
        · exact (HB.out.alloc HB.out.size _).grown G1.out (by have := HB.out.size; simp; omega) (fun b hb => (HO.out.lt b hb).1)
      case measure => simp [intOf]; omega
    · obtain rfl : k = D.now.length := by omega
      have HO := Lib.hid ho
      have HB := Lib.hid hb
      clear ho hb
      go_wp2_with (go_at_call 33; refine hl.mono ?_; rintro e w1 ⟨rfl, rfl⟩)
      go_ret
      have e1 : (txList D).take D.now.length = txList D := List.take_of_length_le (by simp [txList])
      refine ⟨_, rfl, ?_, HB.out⟩
      have := HO.out
      rw [e1] at this
      exact this

/-- Block's byte i. -/
def blockAt (s : ByteArray) (i : Nat) : Int := if s.size = 0 then 0 else ((s.data.getD (i % s.size) 0).toNat : Int)
def blockF (s : ByteArray) : ByteArray := strOfNums ((List.range 128).map (blockAt s))
theorem blockF_size (s : ByteArray) : (blockF s).size = 128 := by unfold blockF; rw [strOfNums_size]; simp

structure BlockRel (w : World) (s : ByteArray) (k : Nat) (wr : World) : Prop where
  below : Below w.heap.size w wr
  row : ∃ cs : Array Value, wr.heap[w.heap.size]? = some (.cells cs 5 (0, 0)) ∧ cs.size = 128 ∧ ∀ i, i < 128 → cs[i]? = some (.int .u8 (if i < k then blockAt s i else 0))

theorem BlockRel.conv {w wr : World} {s : ByteArray} {k : Nat} (h : BlockRel w s k wr) (hk : ∀ i, i < 128 → (if i < k then blockAt s i else 0) = blockAt s i) :
    (convert 41 9 (.slice (some ⟨w.heap.size, 0, none⟩) 128 128)).run Try.prog wr = .ok (.string (blockF s)) wr := by
  obtain ⟨cs, hc, hn, hv⟩ := h.row
  exact run_convert_bytes_arg (P := Try.prog) wr 41 5 Try.underlying41 Try.underlying5 w.heap.size 0 128 128 ((List.range 128).map (blockAt s)) (by simp) (fun i hi => by
    rw [Nat.zero_add, cell_of_row wr _ i cs 5 _ hc, hv i hi, hk i hi, List.getD_eq_getElem?_getD, List.getElem?_map, List.getElem?_range hi]; rfl) 9 Try.underlying9

theorem BlockRel.set_ {w wr : World} {s : ByteArray} {k : Nat} (h : BlockRel w s k wr) (hk : k < 128) : BlockRel w s (k + 1) (wr.setCell ⟨w.heap.size, k, none⟩ (.int .u8 (blockAt s k))) := by
  obtain ⟨cs, hc, hn, hv⟩ := h.row
  refine ⟨h.below.setCell (Nat.le_refl _) _, cs.setIfInBounds k (.int .u8 (blockAt s k)), by simp [World.setCell, Array.getElem?_modify, hc], by simpa using hn, fun i hi => ?_⟩
  rw [Array.getElem?_setIfInBounds]
  by_cases e : k = i
  · subst e; simp; omega
  · rw [if_neg e, hv i hi]
    by_cases h1 : i < k
    · rw [if_pos h1, if_pos (by omega)]
    · rw [if_neg h1, if_neg (by omega)]

set_option maxRecDepth 100000 in
theorem block_fn (w : World) (s : ByteArray) (hs : s.size ≤ 140737488351232) :
    Calls Try.prog 24 #[.string s] w fun e w' => e = .returned (.string (blockF s)) ∧ Below w.heap.size w w' := by
  obtain ⟨M, hM⟩ : ∃ M, M = madeCells (Value.int .u8 0).cells (128 * 1) := ⟨_, rfl⟩
  have hmk := run_mk 41 5 _ 1 1 Try.underlying41 info5 128 (by omega) (by omega)
  have h128 : ((128 : Nat) : Int) = 128 := rfl
  rw [h128, ← hM] at hmk
  have hMs : M.size = 128 := by rw [hM, size_madeCells]
  have hM0 : ∀ i, i < 128 → M[i]? = some (.int .u8 0) := by
    intro i hi
    have hz : (Value.int .u8 0).cells = #[.int .u8 0] := rfl
    rw [hM, hz]
    simp [madeCells, hi, Nat.mod_one]
  have R0 : BlockRel w s 0 (w.alloc (.cells M 5)) := ⟨(Below.refl _ _).alloc (Nat.le_refl _) _, M, heap_alloc_new w _, hMs, fun i hi => by rw [hM0 i hi]; simp⟩
  clear hM hMs hM0 h128
  by_cases h0 : s.size = 0
  · have he : s.toList.isEmpty = true := by rw [empty_iff]; simp [h0]
    have H0 := Lib.hid h0
    have HR := Lib.hid R0
    have hcv := HR.out.conv (fun i hi => by unfold blockAt; rw [if_pos H0.out]; simp)
    have HB := Lib.hid HR.out.below
    clear h0 R0
    go_enter Try.func24, Try.ntmps24
    go_wp2_with fail
    refine wp_loop_rounds 1 ?_; rw [rounds_succ]
    go_wp2_with fail
    go_ret
    exact ⟨rfl, HB.out⟩
  · have he : s.toList.isEmpty = false := by rw [empty_iff]; simp [h0]
    have hp : (0 : Int) < (s.size : Int) := by omega
    have hz : ((s.size : Int) == 0) = false := by rw [beq_eq_false_iff_ne]; omega
    have H0 := Lib.hid h0
    have HR := Lib.hid R0
    clear h0 R0
    go_enter Try.func24, Try.ntmps24
    go_wp2_with fail
    generalize w.alloc (.cells M 5) = w1 at HR ⊢
    clear hmk
    go_loopw [4] (fun i wr => ∃ k : Nat, k ≤ 128 ∧ i = .int .i64 k ∧ BlockRel w s k wr) (fun i _ => 128 - (intOf i).toNat)
    case atStart => exact ⟨0, by omega, rfl, HR.out⟩
    case round =>
      obtain ⟨k, hk, rfl, hr⟩ := hrel
      by_cases hlt : k < 128
      · obtain ⟨cs, hc, hn, hv⟩ := hr.row
        have c0 : wr.cell? ⟨w.heap.size, k, none⟩ = some (.int .u8 0) := by rw [cell_of_row wr _ k cs 5 _ hc, hv k hlt]; simp
        have f0 : wr.frozen? ⟨w.heap.size, k, none⟩ = false := by simp [World.frozen?, hc]
        have hmod : k % s.size < s.size := Nat.mod_lt _ (by omega)
        have HR2 := Lib.hid hr
        have hbk : blockAt s k = ((s[k % s.size]'hmod).toNat : Int) := by
          unfold blockAt
          rw [if_neg H0.out]
          have h2 : k % s.size < s.data.size := hmod
          have h3 : s.data.getD (k % s.size) 0 = s.data[k % s.size]'h2 := by unfold Array.getD; rw [dif_pos h2]; rfl
          rw [h3]; rfl
        have HBK := Lib.hid hbk
        clear hc hn hv hr hbk
        go_wp2_with fail
        refine ⟨⟨k + 1, by omega, by go_num, ?_⟩, by simp [intOf]; omega⟩
        have := HR2.out.set_ hlt
        rw [HBK.out] at this
        exact this
      · obtain rfl : k = 128 := by omega
        have hcv := hr.conv (fun i hi => by rw [if_pos hi])
        have HB := Lib.hid hr.below
        clear hr
        go_wp2_with fail
        go_ret
        exact ⟨rfl, HB.out⟩

/-- What is asked of a device. -/
structure PDo where
  what : Nat
  i : Int
  n : Int
  s : ByteArray
  k : List Int

/-- The value of a Do: its list reads as the numbers. -/
def doV (x : PDo) (kv : Value) : Value := .agg #[.int .u8 x.what, .int .i64 x.i, .int .i64 x.n, .string x.s, kv]

def dataF (x : PDo) : ByteArray := if x.n = 1 then blockF x.s else ByteArray.empty

theorem data_any (w : World) (x : PDo) (kv : Value) (hs : x.s.size ≤ 140737488351232) (hk : ∃ A n c, kv = .slice A n c) :
    Calls Try.prog 44 #[doV x kv] w fun e w' => e = .returned (.string (dataF x)) ∧ Below w.heap.size w w' := by
  obtain ⟨A, n, c, rfl⟩ := hk
  unfold doV dataF
  by_cases h1 : x.n = 1
  · rw [if_pos h1]
    have hb := fun W => block_fn W x.s hs
    have b1 : (x.n == 1) = true := by simp [h1]
    have HB := Lib.hid hb
    clear h1 hb
    go_enter Try.func44, Try.ntmps44
    go_wp2_with (go_at_call 24; refine (HB.out _).mono ?_; rintro e w1 ⟨rfl, hb1⟩; have H1 := Lib.hid hb1; clear hb1)
    go_ret
    exact ⟨rfl, ((Below.refl _ _).alloc (Nat.le_refl _) _).trans (H1.out.mono (by simp))⟩
  · rw [if_neg h1]
    have b1 : (x.n == 1) = false := by simp [h1]
    clear h1
    go_enter Try.func44, Try.ntmps44
    go_wp2_with fail
    go_ret
    exact ⟨rfl, (Below.refl _ _).alloc (Nat.le_refl _) _⟩
end Go.Proofs.Ytfmhfgkmoeimeaa
