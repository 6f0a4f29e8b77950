/- Walks: does. -/
import Derived.Test.YtfmhfgkmoeimeaaW19
import Derived.Deep.Cut
namespace Go.Proofs.Ytfmhfgkmoeimeaa
open Go.RowKit

theorem aB_any (w : World) : Calls Try.prog 24 #[.string ⟨#[97]⟩] w fun e w' => e = .returned (.string aB) ∧ Below w.heap.size w w' := block_fn w ⟨#[97]⟩ (by decide)

set_option maxHeartbeats 8000000 in
set_option maxRecDepth 100000 in
theorem does_any (w : World) : Calls Try.prog 23 #[] w fun e w' => e = .returned (.bool true) ∧ Below w.heap.size w w' := by
  obtain ⟨m1, m2, m4, m7, m10, s3, s6⟩ := m0
  have M1 := Lib.hid m1
  have M2 := Lib.hid m2
  have M4 := Lib.hid m4
  have M7 := Lib.hid m7
  have M10 := Lib.hid m10
  have Q3 := Lib.hid s3
  have Q6 := Lib.hid s6
  clear m1 m2 m4 m7 m10 s3 s6
  go_enter Try.func23, Try.ntmps23
  go_wp2_with fail
  refine ((Holds.none_ w).newDev 4 (by omega) (by omega)).mono ?_
  rintro e W0 ⟨g, rfl, h0⟩
  have H0 : Hid (Holds w W0 [(g, d0)]) := h0
  clear h0
  go_wp2_with fail
  refine (aB_any W0).mono ?_
  rintro e W1 ⟨rfl, hb1⟩
  have H1 : Hid (Holds w W1 [(g, d0)]) := H0.out.after hb1
  clear hb1 H0
  go_wp2_with fail
  refine (H1.out.write (i := 0) rfl 1 aB (by omega) (by omega) (by rw [aBs]; omega) M1.out).mono ?_
  rintro e W2 ⟨rfl, h2⟩
  have H2 : Hid (Holds w W2 [(g, d1)]) := h2
  clear h2 H1
  rw [a1]
  go_wp2_with fail
  refine (H2.out.write (i := 0) rfl 1 aB (by omega) (by omega) (by rw [aBs]; omega) M2.out).mono ?_
  rintro e W3 ⟨rfl, h3⟩
  have H3 : Hid (Holds w W3 [(g, d2)]) := h3
  clear h3 H2
  rw [a2]
  go_wp2_with fail
  refine (H3.out.pending (i := 0) rfl).mono ?_
  rintro e W4 ⟨rfl, rfl⟩
  rw [a2p]
  go_wp2_with fail
  refine ((H3.out.alloc (.cells #[.int .i64 5] 3)).crash (i := 0) rfl (.slice (some ⟨W3.heap.size, 0, none⟩) 1 1) [5] (reads_blk (ks := [5]) (c := 1) (Blk.new W3 3 [.int .i64 5])) (by decide)).mono ?_
  rintro e W5 ⟨rfl, h5⟩
  have H5 : Hid (Holds w W5 [(g, d3)]) := h5
  clear h5 H3
  rw [a2o]
  go_wp2_with fail
  refine (H5.out.start (i := 0) rfl Q3.out).mono ?_
  rintro e W6 ⟨rfl, h6⟩
  have H6 : Hid (Holds w W6 [(g, d4)]) := h6
  clear h6 H5
  rw [a3]
  go_wp2_with fail
  refine (H6.out.read (i := 0) rfl 1 (by omega) (by omega)).mono ?_
  rintro e W7 ⟨rfl, rfl⟩
  rw [a4]
  have HMK := run_mk 41 5 _ 1 1 Try.underlying41 info5 32 (by omega) (by omega)
  have h32 : ((32 : Nat) : Int) = 32 := rfl
  rw [h32] at HMK
  have hz : (Value.int .u8 0).cells = #[.int .u8 0] := rfl
  rw [hz] at HMK
  have hM : madeCells #[Value.int .u8 0] (32 * 1) = (List.replicate 32 (Value.int .u8 0)).toArray := by kernel_rfl
  rw [hM] at HMK
  obtain ⟨M, hMM⟩ : ∃ M : List Value, M = List.replicate 32 (Value.int .u8 0) := ⟨_, rfl⟩
  rw [← hMM] at HMK
  have HCV : ∀ (W : World) (b : Nat), Blk W b 5 M → (convert 41 9 (.slice (some ⟨b, 0, none⟩) 32 32)).run Try.prog W = .ok (.string z32) W := fun W b hb =>
    run_convert_bytes_arg (P := Try.prog) W 41 5 Try.underlying41 Try.underlying5 b 0 32 32 (List.replicate 32 0) (by simp) (fun i hi => by
      rw [Nat.zero_add, hb.cell, hMM, List.getElem?_replicate, if_pos hi, List.getD_eq_getElem?_getD, List.getElem?_replicate, if_pos hi]; rfl) 9 Try.underlying9
  have B1 : (convert 41 9 (.slice (some ⟨W6.heap.size, 0, none⟩) 32 32)).run Try.prog (W6.alloc (.cells M.toArray 5)).drew = .ok (.string z32) (W6.alloc (.cells M.toArray 5)).drew := HCV _ _ (Blk.new W6 5 M)
  have B2 : (convert 41 9 (.slice (some ⟨W6.heap.size, 0, none⟩) 32 32)).run Try.prog ((W6.alloc (.cells M.toArray 5)).alloc (.cells M.toArray 5)).drew = .ok (.string z32) ((W6.alloc (.cells M.toArray 5)).alloc (.cells M.toArray 5)).drew := HCV _ _ ((Blk.new W6 5 M).alloc _)
  have B3 : (convert 41 9 (.slice (some ⟨W6.heap.size + 1, 0, none⟩) 32 32)).run Try.prog ((W6.alloc (.cells M.toArray 5)).alloc (.cells M.toArray 5)).drew = .ok (.string z32) ((W6.alloc (.cells M.toArray 5)).alloc (.cells M.toArray 5)).drew := HCV _ _ (by have := Blk.new (W6.alloc (.cells M.toArray 5)) 5 M; simp at this; exact this)
  clear HCV
  have hsz : (32 : Int) ≤ (aB.size : Int) := by rw [aBs]; omega
  have hcmp := a4s
  clear hMM hM h32 hz
  go_upto_region 8 with fail
  go_cut [78] from 8 (fun s78 wc => s78 = .bool false ∧ Hid (Holds w wc [(g, d7)]))
  case first =>
    go_region_with (first
      | (go_at_call 25; refine ((((H6.out.alloc _).alloc _).drew).write (i := 0) rfl 2 aB (by omega) (by omega) (by rw [aBs]; omega) M4.out).mono ?_; rintro e W8 ⟨rfl, h8⟩; have H8 : Hid (Holds w W8 [(g, d5)]) := h8; clear h8; rw [a5])
      | (go_at_call 20; refine (H8.out.crash (i := 0) rfl (.slice none 0 0) [] reads_nil (by decide)).mono ?_; rintro e W9 ⟨rfl, h9⟩; have H9 : Hid (Holds w W9 [(g, d6)]) := h9; clear h9; rw [a5o])
      | (go_at_call 21; refine (H9.out.start (i := 0) rfl Q6.out).mono ?_; rintro e W10 ⟨rfl, h10⟩; have H10 : Hid (Holds w W10 [(g, d7)]) := h10; clear h10; rw [a6]))
    all_goals
      go_wp2_with fail
      go_meet
      exact ⟨rfl, H10⟩
  case rest =>
    obtain ⟨rfl, H10⟩ := hcut
    clear HMK B1 B2 B3 hsz hcmp
    go_wp2_with fail
    refine (H10.out.read (i := 0) rfl 2 (by omega) (by omega)).mono ?_
    rintro e W11 ⟨rfl, rfl⟩
    rw [a7]
    go_wp2_with fail
    refine (H10.out.write (i := 0) rfl 2 aB (by omega) (by omega) (by rw [aBs]; omega) M7.out).mono ?_
    rintro e W12 ⟨rfl, h12⟩
    have H12 : Hid (Holds w W12 [(g, d8)]) := h12
    clear h12 H10
    rw [a8]
    go_wp2_with fail
    refine (H12.out.flush (i := 0) rfl).mono ?_
    rintro e W13 ⟨rfl, h13⟩
    have H13 : Hid (Holds w W13 [(g, d9)]) := h13
    clear h13 H12
    rw [a9]
    go_wp2_with fail
    refine ((H13.out.alloc (.cells #[.int .i64 1] 3)).fail (i := 0) rfl 0 (.slice (some ⟨W13.heap.size, 0, none⟩) 1 1) [1] (W13.heap.size + 7) ⟨some ⟨W13.heap.size, 0, none⟩, 1, rfl, fun k hk => ⟨_, rfl, by show W13.heap.size ≠ W13.heap.size + 7; omega, by
      have hk0 : k = 0 := by simpa using hk
      subst hk0
      exact (Blk.new W13 3 [.int .i64 1]).cell 0⟩⟩ (by omega) (by decide) (by simp)).mono ?_
    rintro e W14 ⟨rfl, h14⟩
    have H14 : Hid (Holds w W14 [(g, d10)]) := h14
    clear h14 H13
    rw [a10]
    go_wp2_with fail
    refine (H14.out.erase (i := 0) rfl 1 (by omega) (by omega) M10.out).mono ?_
    rintro e W15 ⟨rfl, h15⟩
    have H15 : Hid (Holds w W15 [(g, d11)]) := h15
    clear h15 H14
    rw [a11]
    go_wp2_with fail
    refine (H15.out.states (i := 0) rfl).mono ?_
    rintro e W16 ⟨g', c', rfl, hr, hb16⟩
    have H16 := Lib.hid (H15.out.after hb16)
    have HR := Lib.hid hr
    clear hr hb16 H15
    go_wp2_with fail
    have h4 : ([0, 2, 1, 0] : List Int).map intV = [.int .i64 0, .int .i64 2, .int .i64 1, .int .i64 0] := rfl
    refine (ints_any _ _ _ (stList d11) [0, 2, 1, 0] (HR.out.below ((Below.refl _ _).alloc (Nat.le_refl _) _)) ⟨some ⟨W16.heap.size, 0, none⟩, 4, rfl, by decide, fun k _ => ⟨_, rfl, by rw [addr_add0, h4]; exact (Blk.new W16 3 [.int .i64 0, .int .i64 2, .int .i64 1, .int .i64 0]).cell k⟩⟩).mono ?_
    rintro e W17 ⟨rfl, hb17⟩
    have H17 := Lib.hid ((H16.out.alloc (.cells #[.int .i64 0, .int .i64 2, .int .i64 1, .int .i64 0] 3)).after hb17)
    have e12 : decide (stList d11 = [0, 2, 1, 0]) = true := decide_eq_true a12
    rw [e12]
    clear h4 e12 hb17 HR H16
    go_wp2_with fail
    refine (H17.out.up (i := 0) rfl).mono ?_
    rintro e W18 ⟨rfl, rfl⟩
    rw [a12o]
    go_wp2_with fail
    refine (H17.out.starts (i := 0) rfl).mono ?_
    rintro e W19 ⟨rfl, rfl⟩
    rw [a12s]
    go_wp2_with fail
    go_ret
    exact ⟨rfl, H17.out.below⟩
end Go.Proofs.Ytfmhfgkmoeimeaa
