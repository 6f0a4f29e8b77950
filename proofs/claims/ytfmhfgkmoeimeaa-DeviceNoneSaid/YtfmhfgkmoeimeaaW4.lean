/- Walks: done, torn, of, strings.Clone. -/
import Derived.Test.YtfmhfgkmoeimeaaW3
import Derived.Lib.Strings
import Derived.Lib.Walk
import Derived.Lib.BufferWrite
import Derived.Lib.UnsafeStr
namespace Go.Proofs.Ytfmhfgkmoeimeaa
open Go.RowKit

theorem ta_hit (v : Value) (w : World) : (Instr.typeAssert (.iface 93 v) 86 93 true).run Try.prog w = .ok (.tuple #[v, .bool true]) w := by kernel_rfl
theorem ta_miss (v : Value) (w : World) : (Instr.typeAssert (.iface 94 v) 86 93 true).run Try.prog w = .ok (.tuple #[.agg #[.int .i64 0, .string ByteArray.empty], .bool false]) w := by kernel_rfl

def pbV (b : PB) : Value := .agg #[.int .i64 b.st, .string b.data]

theorem done_any (w : World) (x : PAct) :
    Calls Try.prog 65 #[actV x] w fun e w' => e = .returned (pbV (doneF x)) ∧ Below w.heap.size w w' := by
  unfold actV pbV doneF
  cases x with
  | write a d =>
    have h1 := ta_hit
    go_enter Try.func65, Try.ntmps65
    go_wp2
    exact bodyPost_ret (v := .agg #[.int .i64 1, .string d]) (by simp [results, Try.results65, go_sem]) rfl ⟨rfl, ((Below.refl _ _).alloc (Nat.le_refl _) _).alloc (by simp) _⟩
  | erase a =>
    have h1 := ta_miss
    go_enter Try.func65, Try.ntmps65
    go_wp2
    exact bodyPost_ret (v := .agg #[.int .i64 2, .string ByteArray.empty]) (by simp [results, Try.results65, go_sem]; rfl) rfl ⟨rfl, (Below.refl _ _).alloc (Nat.le_refl _) _⟩

theorem ofW_any (w : World) (a : Nat) (d : ByteArray) :
    Calls Try.prog 90 #[.agg #[.int .i64 a, .string d]] w fun e w' => e = .returned (.int .i64 a) ∧ Below w.heap.size w w' := by
  go_enter Try.func90, Try.ntmps90
  go_wp2
  go_ret
  exact ⟨rfl, (Below.refl _ _).alloc (Nat.le_refl _) _⟩

theorem ofE_any (w : World) (a : Nat) :
    Calls Try.prog 91 #[.int .i64 a] w fun e w' => e = .returned (.int .i64 a) ∧ w = w' := by
  go_enter Try.func91, Try.ntmps91
  go_wp2
  go_ret
  exact ⟨rfl, rfl⟩

theorem cellsOf5 : Try.prog.cellsOf 5 = 1 := by kernel_rfl

set_option maxRecDepth 100000 in
/-- internal/stringslite.Clone (after the shelf's worked text for this function). -/
theorem slclone_any (w : World) (s : ByteArray) (hs : s.size = 128) :
    Calls Try.prog 67 #[.string s] w fun e w' => e = .returned (.string s) ∧ Below w.heap.size w w' := by
  have h0 : s.size ≠ 0 := by omega
  have hlim : s.size ≤ 281474976710656 := by omega
  have HS : Hid (s.size = 128) := hs
  clear hs
  have hinfo : (Try.prog.info? 5).map (·.size) = some 1 := by kernel_rfl
  obtain ⟨M, hM⟩ : ∃ M, M = madeCells (Value.int .u8 0).cells (s.size * 1) := ⟨_, rfl⟩
  have hMs : M.size = s.size := by rw [hM, size_madeCells]; omega
  have hmk := run_mk 41 5 _ 1 1 Try.underlying41 info5 s.size (by omega) (by omega)
  rw [← hM] at hmk
  clear hM
  have hcp := Lib.run_copy_row_string (P := Try.prog) (w.alloc (.cells M 5)) 41 9 3 5 w.heap.size 0 s.size s.size s M 5 Try.underlying41 hinfo (heap_alloc_new w _) (Nat.le_refl _) (by omega)
  obtain ⟨Y, hY⟩ : ∃ Y, Y = (M.toList.take 0 ++ Lib.byteCells s.data.toList ++ M.toList.drop (0 + s.size)).toArray := ⟨_, rfl⟩
  rw [← hY] at hcp
  have hYl : Y.toList = Lib.byteCells s.data.toList := by
    rw [hY, List.toList_toArray, List.take_zero, List.nil_append, List.drop_of_length_le (by rw [Array.length_toList]; omega), List.append_nil]
  have hYs : Y.size = s.size := by rw [← Array.length_toList, hYl, Lib.byteCells_length, ← Lib.size_eq]
  have hgY : ((w.alloc (.cells M 5)).setRow w.heap.size Y).heap[w.heap.size]? = some (.cells Y 5 (0, 0)) := setRow_heap _ _ M _ 5 (0, 0) (heap_alloc_new w _)
  have hne : s.data.toList ≠ [] := fun e => h0 (by rw [Lib.size_eq, e]; rfl)
  have hUS := Lib.run_unsafeString_row (P := Try.prog) ((w.alloc (.cells M 5)).setRow w.heap.size Y) 113 3 9 5 Try.underlying113 cellsOf5 w.heap.size Y.size (by unfold World.shape?; rw [hgY]) s.data.toList hne (by rw [← Lib.size_eq]; omega) (by rw [← Lib.size_eq]; omega)
    (fun j x hx => Lib.cells_of_row hgY Y.size j _ (by rw [List.take_of_length_le (by rw [Array.length_toList]; exact Nat.le_refl _), hYl]; simp [Lib.byteCells, hx]))
  rw [← Lib.size_eq] at hUS
  clear hY hlim
  go_enter Try.func67, Try.ntmps67
  go_wp2
  go_ret
  have hb1 : Below w.heap.size w (w.alloc (.cells M 5)) := (Below.refl _ w).alloc (Nat.le_refl _) _
  have hb2 : Below w.heap.size (w.alloc (.cells M 5)) ((w.alloc (.cells M 5)).setRow w.heap.size Y) := ⟨rfl, rfl, rfl, by simp, fun k hk => setRow_other _ _ _ _ (by omega)⟩
  exact ⟨rfl, Lib.below_freeze (hb1.trans hb2) (p := ⟨w.heap.size, 0, none⟩) (Nat.le_refl _) _⟩

/-- strings.Clone. -/
theorem sclone_any (w : World) (s : ByteArray) (hs : s.size = 128) :
    Calls Try.prog 49 #[.string s] w fun e w' => e = .returned (.string s) ∧ Below w.heap.size w w' := by
  have h := slclone_any w s hs
  clear hs
  go_enter Try.func49, Try.ntmps49
  go_wp2_with (go_at_call 67; refine h.mono ?_; rintro e w' ⟨rfl, hb⟩)
  go_ret
  exact ⟨rfl, hb⟩
end Go.Proofs.Ytfmhfgkmoeimeaa
