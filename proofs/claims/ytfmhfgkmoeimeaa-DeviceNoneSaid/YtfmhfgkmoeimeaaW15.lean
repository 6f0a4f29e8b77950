/- Walks: With. -/
import Derived.Test.YtfmhfgkmoeimeaaW14
namespace Go.Proofs.Ytfmhfgkmoeimeaa
open Go.RowKit

def withM (D : Dev) (x : PDo) : Nat → Dev × Int
  | 4 => D.write x.i x.s
  | 5 => D.erase x.i
  | 6 => D.erase x.i
  | 7 => D.flush
  | 8 => (D.crash x.k, D.on)
  | 9 => D.start
  | 10 => D.start
  | 11 => D.failAt x.n x.k
  | 12 => D.tamper x.i x.n (dataF x)
  | _ => D.write x.i (blockF x.s)
def withF (D : Dev) (x : PDo) : Dev × Int := withM D x (x.what % 13)

/-- What is true of each thing asked that comes in. -/
structure PDo.In (x : PDo) : Prop where
  what : x.what < 256
  i0 : -9223372036854775808 ≤ x.i
  i1 : x.i ≤ 9223372036854775807
  n0 : -9223372036854775808 ≤ x.n
  n1 : x.n ≤ 9223372036854775807
  ks : ∀ n ∈ x.k, -9223372036854775808 ≤ n ∧ n ≤ 9223372036854775807

structure PDo.OK (x : PDo) : Prop where
  what : x.what < 256
  i0 : -9223372036854775808 ≤ x.i
  i1 : x.i ≤ 9223372036854775807
  n0 : -9223372036854775808 ≤ x.n
  n1 : x.n ≤ 9223372036854775807
  s : x.s.size ≤ 140737488351232
  k : x.k.length ≤ 1000000
  ks : ∀ n ∈ x.k, -9223372036854775808 ≤ n ∧ n ≤ 9223372036854775807

theorem PDo.In.ok {x : PDo} (h : x.In) (hs : x.s.size ≤ 140737488351232) (hk : x.k.length ≤ 1000000) : x.OK := ⟨h.what, h.i0, h.i1, h.n0, h.n1, hs, hk, h.ks⟩

theorem ReadsI.below {w w1 : World} {g : Nat} {v : Value} {ks : List Int} (h : ReadsI w g v ks) (hb : Below w.heap.size w w1) : ReadsI w1 g v ks := by
  obtain ⟨A, c, rfl, hc⟩ := h
  refine ⟨A, c, rfl, fun k hk => ?_⟩
  obtain ⟨ad, ha, hne, hcell⟩ := hc k hk
  exact ⟨ad, ha, hne, cell_below hb hcell⟩

theorem doV_eq (x : PDo) (kv : Value) : doV x kv = .agg #[.int .u8 x.what, .int .i64 x.i, .int .i64 x.n, .string x.s, kv] := rfl

set_option maxHeartbeats 4000000 in
set_option maxRecDepth 100000 in
theorem with_any (w : World) (L : Lay) (D : Dev) (h : DevAt w L D) (x : PDo) (kv : Value) (hx : x.OK) (hk : ReadsI w L.gs kv x.k) (hm : D.acts.length < 1000000) (hs : D.starts < 1000000) :
    Calls Try.prog 19 #[.pointer (some ⟨L.g, 0, none⟩), doV x kv] w (DPost L w (withF D x)) := by
  obtain ⟨A, c, rfl, _⟩ := id hk
  generalize hr : withF D x = r
  unfold withF at hr
  have hw := hx.what
  have HX := Lib.hid hx
  obtain ⟨wA, hwA⟩ : ∃ wA, wA = w.alloc (.cells #[.int .u8 x.what, .int .i64 x.i, .int .i64 x.n, .string x.s, .slice A x.k.length c] 35) := ⟨_, rfl⟩
  have hB : Below w.heap.size w wA := by rw [hwA]; exact (Below.refl _ _).alloc (Nat.le_refl _) _
  have hbx : Blk wA w.heap.size 35 [.int .u8 x.what, .int .i64 x.i, .int .i64 x.n, .string x.s, .slice A x.k.length c] := by rw [hwA]; exact Blk.new w 35 _
  have C0 : ∀ W, Bel wA W → W.cell? ⟨w.heap.size, 0, none⟩ = some (.int .u8 x.what) := fun W hb => (hb.blk hbx).cell 0
  have C1 : ∀ W, Bel wA W → W.cell? ⟨w.heap.size, 1, none⟩ = some (.int .i64 x.i) := fun W hb => (hb.blk hbx).cell 1
  have C2 : ∀ W, Bel wA W → W.cell? ⟨w.heap.size, 2, none⟩ = some (.int .i64 x.n) := fun W hb => (hb.blk hbx).cell 2
  have C3 : ∀ W, Bel wA W → W.cell? ⟨w.heap.size, 3, none⟩ = some (.string x.s) := fun W hb => (hb.blk hbx).cell 3
  have C4 : ∀ W, Bel wA W → W.cell? ⟨w.heap.size, 4, none⟩ = some (.slice A x.k.length c) := fun W hb => (hb.blk hbx).cell 4
  have B0 := Bel.refl wA
  have BD := fun W (h : Bel wA W) => h.drew
  have hD := Lib.hid (fun W (hb : Bel wA W) => (h.below hB).below hb.out)
  have hS := Lib.hid (fun W (hb : Bel wA W) => (Step.of_below (L := L) hB).trans (Step.of_below hb.out))
  have hK := Lib.hid (fun W (hb : Bel wA W) => (hk.below hB).below hb.out)
  clear hbx hB h hk hx
  subst hwA
  have hcase : x.what % 13 = 0 ∨ x.what % 13 = 1 ∨ x.what % 13 = 2 ∨ x.what % 13 = 3 ∨ x.what % 13 = 4 ∨ x.what % 13 = 5 ∨ x.what % 13 = 6 ∨ x.what % 13 = 7 ∨ x.what % 13 = 8 ∨ x.what % 13 = 9 ∨ x.what % 13 = 10 ∨ x.what % 13 = 11 ∨ x.what % 13 = 12 := by omega
  rw [doV_eq]
  rcases hcase with e | e | e | e | e | e | e | e | e | e | e | e | e
  · have hmod : (x.what : Int) % 13 = 0 := by omega
    rw [e] at hr
    have HR := Lib.hid hr
    clear hr e hw
    go_enter Try.func19, Try.ntmps19
    go_wp2_with fail
    go_region_with (first
      | (go_at_call 24; refine (block_fn _ x.s HX.out.s).mono ?_; rintro e wx ⟨rfl, hbx⟩; have Bx := Bel.then (by first | assumption | exact B0.drew) hbx; clear hbx)
      | (go_at_call 25; refine (write_any _ L D (hD.out _ (by first | assumption | exact B0.drew)) x.i (blockF x.s) HX.out.i0 HX.out.i1 (by rw [blockF_size]; omega) hm).mono ?_; rintro e w2 ⟨L2, rfl, h2, s2⟩; have s3 := (hS.out _ (by first | assumption | exact B0.drew)).trans s2; clear s2))
    all_goals
      go_wp2_with fail
      go_ret
      have er := HR.out
      subst er
      exact ⟨L2, rfl, h2, s3⟩
  · have hmod : (x.what : Int) % 13 = 1 := by omega
    rw [e] at hr
    have HR := Lib.hid hr
    clear hr e hw
    go_enter Try.func19, Try.ntmps19
    go_wp2_with fail
    go_region_with (first
      | (go_at_call 24; refine (block_fn _ x.s HX.out.s).mono ?_; rintro e wx ⟨rfl, hbx⟩; have Bx := Bel.then (by first | assumption | exact B0.drew) hbx; clear hbx)
      | (go_at_call 25; refine (write_any _ L D (hD.out _ (by first | assumption | exact B0.drew)) x.i (blockF x.s) HX.out.i0 HX.out.i1 (by rw [blockF_size]; omega) hm).mono ?_; rintro e w2 ⟨L2, rfl, h2, s2⟩; have s3 := (hS.out _ (by first | assumption | exact B0.drew)).trans s2; clear s2))
    all_goals
      go_wp2_with fail
      go_ret
      have er := HR.out
      subst er
      exact ⟨L2, rfl, h2, s3⟩
  · have hmod : (x.what : Int) % 13 = 2 := by omega
    rw [e] at hr
    have HR := Lib.hid hr
    clear hr e hw
    go_enter Try.func19, Try.ntmps19
    go_wp2_with fail
    go_region_with (first
      | (go_at_call 24; refine (block_fn _ x.s HX.out.s).mono ?_; rintro e wx ⟨rfl, hbx⟩; have Bx := Bel.then (by first | assumption | exact B0.drew) hbx; clear hbx)
      | (go_at_call 25; refine (write_any _ L D (hD.out _ (by first | assumption | exact B0.drew)) x.i (blockF x.s) HX.out.i0 HX.out.i1 (by rw [blockF_size]; omega) hm).mono ?_; rintro e w2 ⟨L2, rfl, h2, s2⟩; have s3 := (hS.out _ (by first | assumption | exact B0.drew)).trans s2; clear s2))
    all_goals
      go_wp2_with fail
      go_ret
      have er := HR.out
      subst er
      exact ⟨L2, rfl, h2, s3⟩
  · have hmod : (x.what : Int) % 13 = 3 := by omega
    rw [e] at hr
    have HR := Lib.hid hr
    clear hr e hw
    go_enter Try.func19, Try.ntmps19
    go_wp2_with fail
    go_region_with (first
      | (go_at_call 24; refine (block_fn _ x.s HX.out.s).mono ?_; rintro e wx ⟨rfl, hbx⟩; have Bx := Bel.then (by first | assumption | exact B0.drew) hbx; clear hbx)
      | (go_at_call 25; refine (write_any _ L D (hD.out _ (by first | assumption | exact B0.drew)) x.i (blockF x.s) HX.out.i0 HX.out.i1 (by rw [blockF_size]; omega) hm).mono ?_; rintro e w2 ⟨L2, rfl, h2, s2⟩; have s3 := (hS.out _ (by first | assumption | exact B0.drew)).trans s2; clear s2))
    all_goals
      go_wp2_with fail
      go_ret
      have er := HR.out
      subst er
      exact ⟨L2, rfl, h2, s3⟩
  · have hmod : (x.what : Int) % 13 = 4 := by omega
    rw [e] at hr
    have HR := Lib.hid hr
    clear hr e hw
    go_enter Try.func19, Try.ntmps19
    go_wp2_with fail
    refine (write_any _ L D (hD.out _ B0) x.i x.s HX.out.i0 HX.out.i1 HX.out.s hm).mono ?_
    rintro e w2 ⟨L2, rfl, h2, s2⟩
    go_wp2_with fail
    go_ret
    have er := HR.out
    subst er
    exact ⟨L2, rfl, h2, (hS.out _ B0).trans s2⟩
  · have hmod : (x.what : Int) % 13 = 5 := by omega
    rw [e] at hr
    have HR := Lib.hid hr
    clear hr e hw
    go_enter Try.func19, Try.ntmps19
    go_wp2_with fail
    refine (erase_any _ L D (hD.out _ B0) x.i HX.out.i0 HX.out.i1 hm).mono ?_
    rintro e w2 ⟨L2, rfl, h2, s2⟩
    go_wp2_with fail
    go_ret
    have er := HR.out
    subst er
    exact ⟨L2, rfl, h2, (hS.out _ B0).trans s2⟩
  · have hmod : (x.what : Int) % 13 = 6 := by omega
    rw [e] at hr
    have HR := Lib.hid hr
    clear hr e hw
    go_enter Try.func19, Try.ntmps19
    go_wp2_with fail
    refine (erase_any _ L D (hD.out _ B0) x.i HX.out.i0 HX.out.i1 hm).mono ?_
    rintro e w2 ⟨L2, rfl, h2, s2⟩
    go_wp2_with fail
    go_ret
    have er := HR.out
    subst er
    exact ⟨L2, rfl, h2, (hS.out _ B0).trans s2⟩
  · have hmod : (x.what : Int) % 13 = 7 := by omega
    rw [e] at hr
    have HR := Lib.hid hr
    clear hr e hw
    go_enter Try.func19, Try.ntmps19
    go_wp2_with fail
    refine (flush_any _ L D (hD.out _ B0)).mono ?_
    rintro e w2 ⟨L2, rfl, h2, s2⟩
    go_wp2_with fail
    go_ret
    have er := HR.out
    subst er
    exact ⟨L2, rfl, h2, (hS.out _ B0).trans s2⟩
  · have hmod : (x.what : Int) % 13 = 8 := by omega
    rw [e] at hr
    have HR := Lib.hid hr
    clear hr e hw
    go_enter Try.func19, Try.ntmps19
    go_wp2_with fail
    refine (crash_any _ L D (hD.out _ B0) _ x.k (hK.out _ B0) HX.out.k).mono ?_
    rintro e w2 ⟨L2, rfl, h2, s2⟩
    go_wp2_with fail
    go_ret
    have er := HR.out
    subst er
    exact ⟨L2, rfl, h2, (hS.out _ B0).trans s2⟩
  · have hmod : (x.what : Int) % 13 = 9 := by omega
    rw [e] at hr
    have HR := Lib.hid hr
    clear hr e hw
    go_enter Try.func19, Try.ntmps19
    go_wp2_with fail
    refine (start_any _ L D (hD.out _ B0) hs).mono ?_
    rintro e w2 ⟨L2, rfl, h2, s2⟩
    go_wp2_with fail
    go_ret
    have er := HR.out
    subst er
    exact ⟨L2, rfl, h2, (hS.out _ B0).trans s2⟩
  · have hmod : (x.what : Int) % 13 = 10 := by omega
    rw [e] at hr
    have HR := Lib.hid hr
    clear hr e hw
    go_enter Try.func19, Try.ntmps19
    go_wp2_with fail
    refine (start_any _ L D (hD.out _ B0) hs).mono ?_
    rintro e w2 ⟨L2, rfl, h2, s2⟩
    go_wp2_with fail
    go_ret
    have er := HR.out
    subst er
    exact ⟨L2, rfl, h2, (hS.out _ B0).trans s2⟩
  · have hmod : (x.what : Int) % 13 = 11 := by omega
    rw [e] at hr
    have HR := Lib.hid hr
    clear hr e hw
    go_enter Try.func19, Try.ntmps19
    go_wp2_with fail
    refine (fail_any _ L D (hD.out _ B0) x.n _ x.k L.gs (hK.out _ B0) HX.out.n1 HX.out.k HX.out.ks).mono ?_
    rintro e w2 ⟨L2, rfl, h2, s2⟩
    go_wp2_with fail
    go_ret
    have er := HR.out
    subst er
    exact ⟨L2, rfl, h2, (hS.out _ B0).trans s2⟩
  · have hmod : (x.what : Int) % 13 = 12 := by omega
    rw [e] at hr
    have HR := Lib.hid hr
    clear hr e hw
    go_enter Try.func19, Try.ntmps19
    go_wp2_with fail
    go_region_with (first
      | (go_at_call 44; refine (data_any _ x (.slice A x.k.length c) HX.out.s ⟨_, _, _, rfl⟩).mono ?_; rintro e wx ⟨rfl, hbx⟩; have Bx := Bel.then (by first | assumption | exact B0.drew) hbx; clear hbx)
      | (go_at_call 34; refine (tamper_any _ L D (hD.out _ (by first | assumption | exact B0.drew)) x.i x.n (dataF x) HX.out.i0 HX.out.i1).mono ?_; rintro e w2 ⟨L2, rfl, h2, s2⟩; have s3 := (hS.out _ (by first | assumption | exact B0.drew)).trans s2; clear s2))
    all_goals
      go_wp2_with fail
      go_ret
      have er := HR.out
      subst er
      exact ⟨L2, rfl, h2, s3⟩
end Go.Proofs.Ytfmhfgkmoeimeaa
