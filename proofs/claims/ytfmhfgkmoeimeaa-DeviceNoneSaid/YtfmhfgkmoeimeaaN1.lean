/- Walks: the methods of a device that is none: nil, or of no blocks. -/
import Derived.Test.YtfmhfgkmoeimeaaW17
namespace Go.Proofs.Ytfmhfgkmoeimeaa
open Go.RowKit

def zeroDev : List Value := [.slice none 0 0, .slice none 0 0, .slice none 0 0, .bool false, .int .i64 0, .int .i64 0, .slice none 0 0]
/-- A device that is none. -/
def NoneAt (w : World) (v : Value) : Prop := v = .pointer none ∨ ∃ g, v = .pointer (some ⟨g, 0, none⟩) ∧ Blk w g 81 zeroDev

theorem NoneAt.below {w W : World} {v : Value} (h : NoneAt w v) (hb : Below w.heap.size w W) : NoneAt W v := by
  rcases h with h | ⟨g, h, hg⟩
  · exact .inl h
  · exact .inr ⟨g, h, hg.same (hb.block _ hg.lt)⟩

theorem n_len (w : World) (v : Value) (h : NoneAt w v) : Calls Try.prog 33 #[v] w fun e w' => e = .returned (.int .i64 0) ∧ w = w' := by
  rcases h with rfl | ⟨g, rfl, hg⟩
  · go_enter Try.func33, Try.ntmps33
    go_wp2
    go_ret
    exact ⟨rfl, rfl⟩
  · have c1 : w.cell? ⟨g, 1, none⟩ = some (.slice none 0 0) := hg.cell 1
    clear hg
    go_enter Try.func33, Try.ntmps33
    go_wp2
    go_ret
    exact ⟨rfl, rfl⟩

theorem n_pending (w : World) (v : Value) (h : NoneAt w v) : Calls Try.prog 22 #[v] w fun e w' => e = .returned (.int .i64 0) ∧ w = w' := by
  rcases h with rfl | ⟨g, rfl, hg⟩
  · go_enter Try.func22, Try.ntmps22
    go_wp2
    go_ret
    exact ⟨rfl, rfl⟩
  · have c1 : w.cell? ⟨g, 2, none⟩ = some (.slice none 0 0) := hg.cell 2
    clear hg
    go_enter Try.func22, Try.ntmps22
    go_wp2
    go_ret
    exact ⟨rfl, rfl⟩

theorem n_starts (w : World) (v : Value) (h : NoneAt w v) : Calls Try.prog 41 #[v] w fun e w' => e = .returned (.int .i64 0) ∧ w = w' := by
  rcases h with rfl | ⟨g, rfl, hg⟩
  · go_enter Try.func41, Try.ntmps41
    go_wp2
    go_ret
    exact ⟨rfl, rfl⟩
  · have hl := load_any w g 4 0 (hg.cell 4)
    clear hg
    go_enter Try.func41, Try.ntmps41
    go_wp2_with (go_at_call 64; refine hl.mono ?_; rintro e w' ⟨rfl, rfl⟩)
    go_ret
    exact ⟨rfl, rfl⟩

theorem n_on (w : World) (v : Value) (h : NoneAt w v) : Calls Try.prog 42 #[v] w fun e w' => e = .returned (.int .i64 1) ∧ w = w' := by
  have hl := n_len w v h
  clear h
  go_enter Try.func42, Try.ntmps42
  go_wp2_with (go_at_call 33; refine hl.mono ?_; rintro e w' ⟨rfl, rfl⟩)
  go_ret
  exact ⟨rfl, rfl⟩

theorem n_state (w : World) (v : Value) (h : NoneAt w v) (i : Int) : Calls Try.prog 28 #[v, .int .i64 i] w fun e w' => e = .returned (.int .i64 (-1)) ∧ w = w' := by
  have hl := n_len w v h
  clear h
  by_cases hi : i < 0
  · go_enter Try.func28, Try.ntmps28
    go_wp2_with (go_at_call 33; refine hl.mono ?_; rintro e w' ⟨rfl, rfl⟩)
    go_ret
    exact ⟨rfl, rfl⟩
  · have hi : 0 ≤ i := by omega
    go_enter Try.func28, Try.ntmps28
    go_wp2_with (go_at_call 33; refine hl.mono ?_; rintro e w' ⟨rfl, rfl⟩)
    go_ret
    exact ⟨rfl, rfl⟩

theorem n_block (w : World) (v : Value) (h : NoneAt w v) (i : Int) : Calls Try.prog 47 #[v, .int .i64 i] w fun e w' => e = .returned (.int .i64 1) ∧ w = w' := by
  have hl := n_on w v h
  clear h
  go_enter Try.func47, Try.ntmps47
  go_wp2_with (go_at_call 42; refine hl.mono ?_; rintro e w' ⟨rfl, rfl⟩)
  go_ret
  exact ⟨rfl, rfl⟩

theorem n_read (w : World) (v : Value) (h : NoneAt w v) (i : Int) : Calls Try.prog 27 #[v, .int .i64 i] w fun e w' => e = .returned (.tuple #[.string ⟨#[]⟩, .int .i64 1]) ∧ w = w' := by
  have hl := n_block w v h i
  clear h
  go_enter Try.func27, Try.ntmps27
  go_wp2_with (go_at_call 47; refine hl.mono ?_; rintro e w' ⟨rfl, rfl⟩)
  go_ret2
  exact ⟨rfl, rfl⟩

theorem n_write (w : World) (v : Value) (h : NoneAt w v) (i : Int) (s : ByteArray) : Calls Try.prog 25 #[v, .int .i64 i, .string s] w fun e w' => e = .returned (.int .i64 1) ∧ w = w' := by
  have hl := n_block w v h i
  have hs := n_state w v h i
  clear h
  go_enter Try.func25, Try.ntmps25
  go_wp2_with (first | (go_at_call 47; refine hl.mono ?_; rintro e w' ⟨rfl, rfl⟩) | (go_at_call 28; refine hs.mono ?_; rintro e w' ⟨rfl, rfl⟩))
  go_ret
  exact ⟨rfl, rfl⟩

theorem n_erase (w : World) (v : Value) (h : NoneAt w v) (i : Int) : Calls Try.prog 26 #[v, .int .i64 i] w fun e w' => e = .returned (.int .i64 1) ∧ w = w' := by
  have hl := n_block w v h i
  have hs := n_state w v h i
  clear h
  go_enter Try.func26, Try.ntmps26
  go_wp2_with (first | (go_at_call 47; refine hl.mono ?_; rintro e w' ⟨rfl, rfl⟩) | (go_at_call 28; refine hs.mono ?_; rintro e w' ⟨rfl, rfl⟩))
  go_ret
  exact ⟨rfl, rfl⟩

theorem n_flush (w : World) (v : Value) (h : NoneAt w v) : Calls Try.prog 16 #[v] w fun e w' => e = .returned (.int .i64 1) ∧ w = w' := by
  have hl := n_on w v h
  clear h
  go_enter Try.func16, Try.ntmps16
  go_wp2_with (go_at_call 42; refine hl.mono ?_; rintro e w' ⟨rfl, rfl⟩)
  go_ret
  exact ⟨rfl, rfl⟩

theorem n_crash (w : World) (v k : Value) (h : NoneAt w v) : Calls Try.prog 20 #[v, k] w fun e w' => e = .returned (.int .i64 1) ∧ w = w' := by
  have hl := n_on w v h
  clear h
  go_enter Try.func20, Try.ntmps20
  go_wp2_with (go_at_call 42; refine hl.mono ?_; rintro e w' ⟨rfl, rfl⟩)
  go_ret
  exact ⟨rfl, rfl⟩

theorem n_fail (w : World) (v k : Value) (h : NoneAt w v) (n : Int) : Calls Try.prog 29 #[v, .int .i64 n, k] w fun e w' => e = .returned (.int .i64 1) ∧ w = w' := by
  have hl := n_on w v h
  clear h
  go_enter Try.func29, Try.ntmps29
  go_wp2_with (go_at_call 42; refine hl.mono ?_; rintro e w' ⟨rfl, rfl⟩)
  go_ret
  exact ⟨rfl, rfl⟩

theorem n_start (w : World) (v : Value) (h : NoneAt w v) : Calls Try.prog 21 #[v] w fun e w' => e = .returned (.int .i64 1) ∧ w = w' := by
  have hl := n_on w v h
  clear h
  go_enter Try.func21, Try.ntmps21
  go_wp2_with (go_at_call 42; refine hl.mono ?_; rintro e w' ⟨rfl, rfl⟩)
  go_ret
  exact ⟨rfl, rfl⟩

theorem n_tamper (w : World) (v : Value) (h : NoneAt w v) (i st : Int) (s : ByteArray) : Calls Try.prog 34 #[v, .int .i64 i, .int .i64 st, .string s] w fun e w' => e = .returned (.int .i64 1) ∧ Below w.heap.size w w' := by
  obtain ⟨wA, hwA⟩ : ∃ wA, wA = w.alloc (.cells #[.int .i64 i] 3) := ⟨_, rfl⟩
  have hB : Below w.heap.size w wA := by rw [hwA]; exact (Below.refl _ _).alloc (Nat.le_refl _) _
  have hl := n_len wA v (h.below hB)
  clear h
  subst hwA
  have HB := Lib.hid hB
  clear hB
  go_enter Try.func34, Try.ntmps34
  go_wp2_with (go_at_call 33; refine hl.mono ?_; rintro e w' ⟨rfl, rfl⟩)
  go_ret
  exact ⟨rfl, HB.out⟩

theorem n_up (w : World) (v : Value) (h : NoneAt w v) : Calls Try.prog 30 #[v] w fun e w' => e = .returned (.bool false) ∧ w = w' := by
  have hl := n_on w v h
  clear h
  go_enter Try.func30, Try.ntmps30
  go_wp2_with (go_at_call 42; refine hl.mono ?_; rintro e w' ⟨rfl, rfl⟩)
  go_ret
  exact ⟨rfl, rfl⟩

theorem n_clone (w : World) (v : Value) (h : NoneAt w v) : Calls Try.prog 39 #[v] w fun e w' => e = .returned (.pointer none) ∧ w = w' := by
  have hl := n_len w v h
  clear h
  go_enter Try.func39, Try.ntmps39
  go_wp2_with (go_at_call 33; refine hl.mono ?_; rintro e w' ⟨rfl, rfl⟩)
  go_ret
  exact ⟨rfl, rfl⟩

theorem n_states (w : World) (v : Value) (h : NoneAt w v) : Calls Try.prog 17 #[v] w fun e w' => e = .returned (.slice none 0 0) ∧ Below w.heap.size w w' := by
  have hl := n_len w v h
  clear h
  go_enter Try.func17, Try.ntmps17
  go_wp2_with (go_at_call 33; refine hl.mono ?_; rintro e w' ⟨rfl, rfl⟩)
  go_loopw [3, 7] (fun o i wr => o = .slice none 0 0 ∧ i = .int .i64 0 ∧ Below w.heap.size w wr) (fun _ _ _ => 0)
  case atStart => exact ⟨rfl, rfl, Below.refl _ _⟩
  case round =>
    obtain ⟨rfl, rfl, hb⟩ := hrel
    have HB := Lib.hid hb
    clear hb hl
    go_wp2_with fail
    go_ret
    exact ⟨rfl, HB.out⟩
end Go.Proofs.Ytfmhfgkmoeimeaa
