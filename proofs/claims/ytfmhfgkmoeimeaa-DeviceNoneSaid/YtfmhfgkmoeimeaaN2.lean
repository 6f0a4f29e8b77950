/- Walks: With, of a device that is none. -/
import Derived.Test.YtfmhfgkmoeimeaaN1

namespace Go.Proofs.Ytfmhfgkmoeimeaa
open Go.RowKit

set_option maxHeartbeats 4000000 in
set_option maxRecDepth 100000 in
theorem n_with (w : World) (v : Value) (h : NoneAt w v) (x : PDo) (kv : Value) (hx : x.OK) (hk : ∃ A c, kv = .slice A x.k.length c) :
    Calls Try.prog 19 #[v, doV x kv] w fun e w' => e = .returned (.int .i64 1) ∧ Below w.heap.size w w' := by
  obtain ⟨A, c, rfl⟩ := id hk
  have hw := hx.what
  have HX := Lib.hid hx
  obtain ⟨wA, hwA⟩ : ∃ wA, wA = w.alloc (.cells #[.int .u8 x.what, .int .i64 x.i, .int .i64 x.n, .string x.s, .slice A x.k.length c] 35) := ⟨_, rfl⟩
  have hB : Below w.heap.size w wA := by rw [hwA]; exact (Below.refl _ _).alloc (Nat.le_refl _) _
  have hbx : Blk wA w.heap.size 35 [.int .u8 x.what, .int .i64 x.i, .int .i64 x.n, .string x.s, .slice A x.k.length c] := by rw [hwA]; exact Blk.new w 35 _
  have C0 : ∀ W, Bel wA W → W.cell? ⟨w.heap.size, 0, none⟩ = some (.int .u8 x.what) := fun W hb => (hb.blk hbx).cell 0
  have C1 : ∀ W, Bel wA W → W.cell? ⟨w.heap.size, 1, none⟩ = some (.int .i64 x.i) := fun W hb => (hb.blk hbx).cell 1
  have C2 : ∀ W, Bel wA W → W.cell? ⟨w.heap.size, 2, none⟩ = some (.int .i64 x.n) := fun W hb => (hb.blk hbx).cell 2
  have C3 : ∀ W, Bel wA W → W.cell? ⟨w.heap.size, 3, none⟩ = some (.string x.s) := fun W hb => (hb.blk hbx).cell 3
  have C4 : ∀ W, Bel wA W → W.cell? ⟨w.heap.size, 4, none⟩ = some (.slice A x.k.length c) := fun W hb => (hb.blk hbx).cell 4
  have B0 := Bel.refl wA
  have BD := fun W (h : Bel wA W) => h.drew
  have hD := Lib.hid (fun W (hb : Bel wA W) => (h.below hB).below hb.out)
  have hS := Lib.hid (fun W (hb : Bel wA W) => hB.trans (hb.out.mono hB.size))
  clear hbx hB h hk hx
  subst hwA
  have hcase : x.what % 13 = 0 ∨ x.what % 13 = 1 ∨ x.what % 13 = 2 ∨ x.what % 13 = 3 ∨ x.what % 13 = 4 ∨ x.what % 13 = 5 ∨ x.what % 13 = 6 ∨ x.what % 13 = 7 ∨ x.what % 13 = 8 ∨ x.what % 13 = 9 ∨ x.what % 13 = 10 ∨ x.what % 13 = 11 ∨ x.what % 13 = 12 := by omega
  rw [doV_eq]
  rcases hcase with e | e | e | e | e | e | e | e | e | e | e | e | e
  · have hmod : (x.what : Int) % 13 = 0 := by omega
    clear e hw
    go_enter Try.func19, Try.ntmps19
    go_wp2_with fail
    go_region_with (first
      | (go_at_call 24; refine (block_fn _ x.s HX.out.s).mono ?_; rintro e wx ⟨rfl, hbx⟩; have Bx := Bel.then (by first | assumption | exact B0.drew) hbx; clear hbx)
      | (go_at_call 25; refine (n_write _ v (hD.out _ (by first | assumption | exact B0.drew)) x.i (blockF x.s)).mono ?_; rintro e w2 ⟨rfl, rfl⟩; have s3 := hS.out _ (by first | assumption | exact B0.drew)))
    all_goals
      go_wp2_with fail
      go_ret
      exact ⟨rfl, s3⟩
  · have hmod : (x.what : Int) % 13 = 1 := by omega
    clear e hw
    go_enter Try.func19, Try.ntmps19
    go_wp2_with fail
    go_region_with (first
      | (go_at_call 24; refine (block_fn _ x.s HX.out.s).mono ?_; rintro e wx ⟨rfl, hbx⟩; have Bx := Bel.then (by first | assumption | exact B0.drew) hbx; clear hbx)
      | (go_at_call 25; refine (n_write _ v (hD.out _ (by first | assumption | exact B0.drew)) x.i (blockF x.s)).mono ?_; rintro e w2 ⟨rfl, rfl⟩; have s3 := hS.out _ (by first | assumption | exact B0.drew)))
    all_goals
      go_wp2_with fail
      go_ret
      exact ⟨rfl, s3⟩
  · have hmod : (x.what : Int) % 13 = 2 := by omega
    clear e hw
    go_enter Try.func19, Try.ntmps19
    go_wp2_with fail
    go_region_with (first
      | (go_at_call 24; refine (block_fn _ x.s HX.out.s).mono ?_; rintro e wx ⟨rfl, hbx⟩; have Bx := Bel.then (by first | assumption | exact B0.drew) hbx; clear hbx)
      | (go_at_call 25; refine (n_write _ v (hD.out _ (by first | assumption | exact B0.drew)) x.i (blockF x.s)).mono ?_; rintro e w2 ⟨rfl, rfl⟩; have s3 := hS.out _ (by first | assumption | exact B0.drew)))
    all_goals
      go_wp2_with fail
      go_ret
      exact ⟨rfl, s3⟩
  · have hmod : (x.what : Int) % 13 = 3 := by omega
    clear e hw
    go_enter Try.func19, Try.ntmps19
    go_wp2_with fail
    go_region_with (first
      | (go_at_call 24; refine (block_fn _ x.s HX.out.s).mono ?_; rintro e wx ⟨rfl, hbx⟩; have Bx := Bel.then (by first | assumption | exact B0.drew) hbx; clear hbx)
      | (go_at_call 25; refine (n_write _ v (hD.out _ (by first | assumption | exact B0.drew)) x.i (blockF x.s)).mono ?_; rintro e w2 ⟨rfl, rfl⟩; have s3 := hS.out _ (by first | assumption | exact B0.drew)))
    all_goals
      go_wp2_with fail
      go_ret
      exact ⟨rfl, s3⟩
  · have hmod : (x.what : Int) % 13 = 4 := by omega
    clear e hw
    go_enter Try.func19, Try.ntmps19
    go_wp2_with fail
    refine (n_write _ v (hD.out _ B0) x.i x.s).mono ?_
    rintro e w2 ⟨rfl, rfl⟩
    go_wp2_with fail
    go_ret
    exact ⟨rfl, hS.out _ B0⟩
  · have hmod : (x.what : Int) % 13 = 5 := by omega
    clear e hw
    go_enter Try.func19, Try.ntmps19
    go_wp2_with fail
    refine (n_erase _ v (hD.out _ B0) x.i).mono ?_
    rintro e w2 ⟨rfl, rfl⟩
    go_wp2_with fail
    go_ret
    exact ⟨rfl, hS.out _ B0⟩
  · have hmod : (x.what : Int) % 13 = 6 := by omega
    clear e hw
    go_enter Try.func19, Try.ntmps19
    go_wp2_with fail
    refine (n_erase _ v (hD.out _ B0) x.i).mono ?_
    rintro e w2 ⟨rfl, rfl⟩
    go_wp2_with fail
    go_ret
    exact ⟨rfl, hS.out _ B0⟩
  · have hmod : (x.what : Int) % 13 = 7 := by omega
    clear e hw
    go_enter Try.func19, Try.ntmps19
    go_wp2_with fail
    refine (n_flush _ v (hD.out _ B0)).mono ?_
    rintro e w2 ⟨rfl, rfl⟩
    go_wp2_with fail
    go_ret
    exact ⟨rfl, hS.out _ B0⟩
  · have hmod : (x.what : Int) % 13 = 8 := by omega
    clear e hw
    go_enter Try.func19, Try.ntmps19
    go_wp2_with fail
    refine (n_crash _ v _ (hD.out _ B0)).mono ?_
    rintro e w2 ⟨rfl, rfl⟩
    go_wp2_with fail
    go_ret
    exact ⟨rfl, hS.out _ B0⟩
  · have hmod : (x.what : Int) % 13 = 9 := by omega
    clear e hw
    go_enter Try.func19, Try.ntmps19
    go_wp2_with fail
    refine (n_start _ v (hD.out _ B0)).mono ?_
    rintro e w2 ⟨rfl, rfl⟩
    go_wp2_with fail
    go_ret
    exact ⟨rfl, hS.out _ B0⟩
  · have hmod : (x.what : Int) % 13 = 10 := by omega
    clear e hw
    go_enter Try.func19, Try.ntmps19
    go_wp2_with fail
    refine (n_start _ v (hD.out _ B0)).mono ?_
    rintro e w2 ⟨rfl, rfl⟩
    go_wp2_with fail
    go_ret
    exact ⟨rfl, hS.out _ B0⟩
  · have hmod : (x.what : Int) % 13 = 11 := by omega
    clear e hw
    go_enter Try.func19, Try.ntmps19
    go_wp2_with fail
    refine (n_fail _ v _ (hD.out _ B0) x.n).mono ?_
    rintro e w2 ⟨rfl, rfl⟩
    go_wp2_with fail
    go_ret
    exact ⟨rfl, hS.out _ B0⟩
  · have hmod : (x.what : Int) % 13 = 12 := by omega
    clear e hw
    go_enter Try.func19, Try.ntmps19
    go_wp2_with fail
    go_region_with (first
      | (go_at_call 44; refine (data_any _ x (.slice A x.k.length c) HX.out.s ⟨_, _, _, rfl⟩).mono ?_; rintro e wx ⟨rfl, hbx⟩; have Bx := Bel.then (by first | assumption | exact B0.drew) hbx; clear hbx)
      | (go_at_call 34; refine (n_tamper _ v (hD.out _ (by first | assumption | exact B0.drew)) x.i x.n (dataF x)).mono ?_; rintro e w2 ⟨rfl, h2⟩; have s3 := (hS.out _ (by first | assumption | exact B0.drew)).trans (h2.mono (hS.out _ (by first | assumption | exact B0.drew)).size); clear h2))
    all_goals
      go_wp2_with fail
      go_ret
      exact ⟨rfl, s3⟩
end Go.Proofs.Ytfmhfgkmoeimeaa
