/- Walks: DeviceFail. -/
import Derived.Test.YtfmhfgkmoeimeaaW20
import Derived.Test.YtfmhfgkmoeimeaaW21
import Derived.Test.YtfmhfgkmoeimeaaP5
import Derived.Test.YtfmhfgkmoeimeaaX3
import Derived.Deep.QuietTactic
import Derived.BigQuiet
import Derived.Deep.Cut
import Derived.Deep.RegionHeld3
namespace Go.Proofs.Ytfmhfgkmoeimeaa
open Go.RowKit

set_option maxHeartbeats 40000000 in
set_option maxRecDepth 100000 in
theorem lfail_any (w : World) (n m : Nat) (hn : n < 256) (hm256 : m < 256) (va vb kv : Value) (la lb : List PDo) (ks : List Int) (ha : DosAt w w.heap.size va la) (hb : DosAt w w.heap.size vb lb) (hk : KsAt w w.heap.size kv ks) (hks : ∀ n ∈ ks, -9223372036854775808 ≤ n ∧ n ≤ 9223372036854775807) :
    Calls Try.prog 5 #[.agg #[va, vb], .agg #[.int .u8 n, .int .u8 m], kv] w fun e w' => e = .returned (.bool true) ∧ Below w.heap.size w w' := by
  obtain ⟨KA, kc, rfl, _⟩ := id hk
  obtain ⟨A0, ca, rfl, hlca, hina, _⟩ := id ha
  obtain ⟨B0, cb, rfl, hlcb, hinb, _⟩ := id hb
  obtain ⟨wA, hwA⟩ : ∃ wA, wA = (w.alloc (.cells #[.slice A0 la.length ca, .slice B0 lb.length cb] 23)).alloc (.cells #[.int .u8 n, .int .u8 m] 51) := ⟨_, rfl⟩
  have hB0 : Below w.heap.size w (w.alloc (.cells #[.slice A0 la.length ca, .slice B0 lb.length cb] 23)) := (Below.refl _ _).alloc (Nat.le_refl _) _
  have hB : Below w.heap.size w wA := by rw [hwA]; exact hB0.trans ((Below.refl _ _).alloc hB0.size _)
  have hbx : Blk wA w.heap.size 23 [.slice A0 la.length ca, .slice B0 lb.length cb] := by rw [hwA]; exact (Blk.new w 23 _).alloc _
  have hby : Blk wA (w.heap.size + 1) 51 [.int .u8 n, .int .u8 m] := by have := Blk.new (w.alloc (.cells #[.slice A0 la.length ca, .slice B0 lb.length cb] 23)) 51 [.int .u8 n, .int .u8 m]; rw [hwA]; simp at this; exact this
  have hmuch := much_any wA w.heap.size _ la 60 (ha.below hB) (by omega)
  have hmuch2 := much_any wA w.heap.size _ lb 60 (hb.below hB) (by omega)
  cases hmf : muchF la 60 with
  | true =>
    rw [hmf] at hmuch
    have HB := Lib.hid hB
    clear hmf ha hb hina hinb hmuch2 hk hks hbx hby hB0 hB
    subst hwA
    go_enter Try.func5, Try.ntmps5
    go_wp2_with fail
    refine hmuch.mono ?_
    rintro e w1 ⟨rfl, rfl⟩
    go_wp2_with fail
    go_ret
    exact ⟨rfl, HB.out⟩
  | false =>
  cases hmg : muchF lb 60 with
  | true =>
    rw [hmf] at hmuch
    rw [hmg] at hmuch2
    have HB := Lib.hid hB
    clear hmf hmg ha hb hina hinb hk hks hbx hby hB0 hB
    subst hwA
    go_enter Try.func5, Try.ntmps5
    go_wp2_with fail
    refine hmuch.mono ?_
    rintro e w1 ⟨rfl, rfl⟩
    go_wp2_with fail
    refine hmuch2.mono ?_
    rintro e w1 ⟨rfl, rfl⟩
    go_wp2_with fail
    go_ret
    exact ⟨rfl, HB.out⟩
  | false =>
  rw [hmf] at hmuch
  rw [hmg] at hmuch2
  by_cases hk100 : 100 < ks.length
  · have hkI : (100 : Int) < (ks.length : Int) := by omega
    have HB := Lib.hid hB
    clear hmf hmg ha hb hina hinb hk hks hbx hby hB0 hB hk100
    subst hwA
    go_enter Try.func5, Try.ntmps5
    go_wp2_with fail
    refine hmuch.mono ?_
    rintro e w1 ⟨rfl, rfl⟩
    go_wp2_with fail
    refine hmuch2.mono ?_
    rintro e w1 ⟨rfl, rfl⟩
    go_wp2_with fail
    go_ret
    exact ⟨rfl, HB.out⟩
  have hkI : (ks.length : Int) ≤ 100 := by omega
  obtain ⟨hl, hxs⟩ := much_ok hmf hina
  obtain ⟨hm, hys⟩ := much_ok hmg hinb
  obtain ⟨D, hD⟩ : ∃ D, D = afterF n la := ⟨_, rfl⟩
  have hsm := after_small n la
  have hon := after_on n la
  have hlf := after_left n la
  have HA := Lib.hid (fun (ds : List (Nat × Dev)) (bs : List (Nat × Obj)) (W : World) (h1 : Also w W ds bs) => h1.after_ n hn _ la (by omega) ((ha.below h1.below).up h1.below.size) hxs)
  rw [← hD] at hsm HA hon hlf
  have hQF : ∀ L : Nat, D.failAt L ks = (twin D L ks, 0) := fun L => twin_fail D hon L (by omega) ks
  have QF := Lib.hid hQF
  have QS : Hid (D.starts ≤ 61) := by show D.starts ≤ 61; omega
  have QA : Hid (D.acts.length ≤ 60) := by show D.acts.length ≤ 60; omega
  have QD : Hid (D.left = -1 ∧ D.off = false) := ⟨hlf, hon⟩
  have HH := Lib.hid hb
  have HYS := Lib.hid hys
  have HK := Lib.hid hk
  have HKS := Lib.hid hks
  have H00 : Hid (Also w (w.alloc (.cells #[.slice A0 la.length ca, .slice B0 lb.length cb] 23)) [] [(w.heap.size, .cells #[.slice A0 la.length ca, .slice B0 lb.length cb] 23)]) := (Also.of (Holds.none_ w)).push hB0 (Nat.le_refl _) (Blk.new w 23 _)
  have H0 : Hid (Also w wA [] [(w.heap.size, .cells #[.slice A0 la.length ca, .slice B0 lb.length cb] 23), (w.heap.size + 1, .cells #[.int .u8 n, .int .u8 m] 51)]) := by rw [hwA]; exact H00.out.push ((Below.refl _ _).alloc (Nat.le_refl _) _) (by simp) (by rw [← hwA]; exact hby)
  clear H00 hmf hmg ha hb hina hinb hk hks hB0 hB hxs hys hD hsm hon hlf hQF hk100
  have z0 := hbx.cell 0
  have z1 := hbx.cell 1
  have y0 := hby.cell 0
  have y1 := hby.cell 1
  simp only [List.getElem?_cons_zero, List.getElem?_cons_succ] at z0 z1 y0 y1
  clear hbx hby
  go_enter Try.func5, Try.ntmps5
  go_wp2_with fail
  rw [← hwA]
  clear hwA
  refine hmuch.mono ?_
  rintro e w1 ⟨rfl, rfl⟩
  go_wp2_with fail
  refine hmuch2.mono ?_
  rintro e w1 ⟨rfl, rfl⟩
  clear hmuch hmuch2
  obtain ⟨P0, hP0⟩ : ∃ P : World → Prop, P = fun W => Also w W [] [(w.heap.size, .cells #[.slice A0 la.length ca, .slice B0 lb.length cb] 23), (w.heap.size + 1, .cells #[.int .u8 n, .int .u8 m] 51)] := ⟨_, rfl⟩
  obtain ⟨P1, hP1⟩ : ∃ P : Nat → World → Prop, P = fun g W => Also w W [(g, D)] [(w.heap.size, .cells #[.slice A0 la.length ca, .slice B0 lb.length cb] 23), (w.heap.size + 1, .cells #[.int .u8 n, .int .u8 m] 51)] := ⟨_, rfl⟩
  have C0 : ∀ W, P0 W → Calls Try.prog 15 #[.int .u8 n, .slice A0 la.length ca] W fun e W' => ∃ g, e = .returned (.pointer (some ⟨g, 0, none⟩)) ∧ P1 g W' ∧ W'.cell? ⟨w.heap.size, 0, none⟩ = some (.slice A0 la.length ca) ∧ W'.cell? ⟨w.heap.size + 1, 0, none⟩ = some (.int .u8 n) := by
    intro W h
    rw [hP0] at h
    refine (HA.out _ _ _ h).mono ?_
    rintro e W' ⟨g, h1, h2⟩
    exact ⟨g, h1, by rw [hP1]; exact h2, Blk.cell (h2.at_ (j := 0) rfl) 0, Blk.cell (h2.at_ (j := 1) rfl) 0⟩
  have C1 : ∀ g W, P1 g W → Calls Try.prog 15 #[.int .u8 n, .slice A0 la.length ca] W fun e W' => ∃ g2, e = .returned (.pointer (some ⟨g2, 0, none⟩)) ∧ W'.cell? ⟨w.heap.size, 0, none⟩ = some (.slice A0 la.length ca) ∧ W'.cell? ⟨w.heap.size + 1, 0, none⟩ = some (.int .u8 n) ∧ Hid (Also w W' [(g, D), (g2, D)] [(w.heap.size, .cells #[.slice A0 la.length ca, .slice B0 lb.length cb] 23), (w.heap.size + 1, .cells #[.int .u8 n, .int .u8 m] 51)]) := by
    intro g W h
    rw [hP1] at h
    exact (HA.out _ _ _ h).mono fun e W' ⟨g, h1, h2⟩ => ⟨g, h1, Blk.cell (h2.at_ (j := 0) rfl) 0, Blk.cell (h2.at_ (j := 1) rfl) 0, h2⟩
  have N0 : ∀ W, P0 W → P0 W.drew := by rw [hP0]; exact fun W h => h.drew
  have N1 : ∀ g W, P1 g W → P1 g W.drew := by rw [hP1]; exact fun g W h => h.drew
  have HP : P0 wA := by rw [hP0]; exact H0.out
  clear hP0 hP1 H0
  clear HA
  go_upto_region 3 with fail
  go_cut [7, 8] from 17 (fun s7 s8 wc => ∃ g1 g2, s7 = .pointer (some ⟨g1, 0, none⟩) ∧ s8 = .pointer (some ⟨g2, 0, none⟩) ∧ Hid (Also w wc [(g1, D), (g2, D)] [(w.heap.size, .cells #[.slice A0 la.length ca, .slice B0 lb.length cb] 23), (w.heap.size + 1, .cells #[.int .u8 n, .int .u8 m] 51)]))
  case first =>
    go_region_held3 (fun w' => w'.cell? ⟨w.heap.size, 0, none⟩ = some (.slice A0 la.length ca) ∧ w'.cell? ⟨w.heap.size + 1, 0, none⟩ = some (.int .u8 n)) (first | exact ⟨x0, x1⟩ | exact ⟨v0, v1⟩ | exact ⟨z0, y0⟩)
      (first
      | (go_at_call 15; refine (C1 _ _ (by first | assumption | exact N1 _ _ (by assumption))).mono ?_; rintro e W2 ⟨g2, rfl, x0, x1, H2⟩)
      | (go_at_call 15; refine (C0 _ (by first | assumption | exact N0 _ (by assumption))).mono ?_; rintro e W1 ⟨g1, rfl, H1, v0, v1⟩))
    all_goals
      go_wp2_with fail
      go_meet
      exact ⟨_, _, rfl, rfl, H2⟩
  case rest =>
    obtain ⟨g1, g2, rfl, rfl, H1⟩ := hcut
    clear C0 C1 N0 N1 HP z0 z1 y0 y1
    have y1 : wc.cell? ⟨w.heap.size + 1, 1, none⟩ = some (.int .u8 m) := Blk.cell (H1.out.at_ (j := 1) rfl) 1
    obtain ⟨L0, hL0⟩ : ∃ L0 : Nat, (m : Int) % 20 = L0 := ⟨m % 20, by omega⟩
    have hL19 : L0 ≤ 19 := by omega
    go_wp2_with fail
    refine (H1.out.fail (i := 0) rfl L0 (.slice KA ks.length kc) ks w.heap.size ((HK.out.below H1.out.below).reads (Nat.le_refl _)) (by omega) (by omega) HKS.out).mono ?_
    rintro e W2 ⟨rfl, h2⟩
    rw [QF.out] at h2
    have H2 : Hid (Also w W2 [(g1, twin D L0 ks), (g2, D)] [(w.heap.size, .cells #[.slice A0 la.length ca, .slice B0 lb.length cb] 23), (w.heap.size + 1, .cells #[.int .u8 n, .int .u8 m] 51)]) := h2
    clear h2 H1
    rw [QF.out]
    clear y1 hL0
    go_wp2_with fail
    go_loopw [9, 10] (fun s9 s10 wr => ∃ (k : Nat) (O : Dev) (L : Nat), k ≤ lb.length ∧ s10 = .int .i64 k ∧ s9 = .int .i64 L ∧ L ≤ 19 ∧ O.acts.length ≤ 100 + k ∧ O.starts ≤ 100 ∧ Hid (O.left = -1 ∧ O.off = false) ∧ Hid (Also w wr [(g1, twin O L ks), (g2, O)] [(w.heap.size, .cells #[.slice A0 la.length ca, .slice B0 lb.length cb] 23), (w.heap.size + 1, .cells #[.int .u8 n, .int .u8 m] 51)])) (fun _ s10 _ => lb.length - (intOf s10).toNat)
    case atStart => exact ⟨0, D, L0, by omega, rfl, rfl, hL19, (by have := QA.out; omega), (by have := QS.out; omega), QD, H2⟩
    case round =>
      obtain ⟨k, O, L, hk, rfl, rfl, hL, hac, hst, hO, hd⟩ := hrel
      clear H2 hL19
      have y0 := (show Blk wr w.heap.size 23 [.slice A0 la.length ca, .slice B0 lb.length cb] from hd.out.at_ (j := 0) rfl).cell 1
      simp only [List.getElem?_cons_zero, List.getElem?_cons_succ] at y0
      by_cases hlt : k < lb.length
      · obtain ⟨b, off, xv, rfl, z0, z1, z2, z3, z4, hxk⟩ := HH.out.round2 hd.out.below hlt
        obtain ⟨x, hx⟩ : ∃ x, lb[k] = x := ⟨_, rfl⟩
        rw [hx] at z0 z1 z2 z3 hxk
        have hxok : x.OK := HYS.out x (by rw [← hx]; exact List.getElem_mem hlt)
        have hw256 := hxok.what
        have hin0 := hxok.i0
        have hin1 := hxok.i1
        have HXO := Lib.hid hxok
        have HXK := Lib.hid hxk
        obtain ⟨XA, xc, rfl, _⟩ := hxk
        clear hx hxok
        by_cases h7 : 7 < x.what % 13
        · have e7 : 7 < (x.what : Int) % 13 := by omega
          go_wp2_with fail
          go_roundw
          case rel => exact ⟨k + 1, O, L, by omega, by go_num, rfl, hL, by omega, hst, hO, hd.out.alloc _⟩
          case measure => simp [intOf]; omega
        · have e7 : (x.what : Int) % 13 ≤ 7 := by omega
          have H2 : Hid (Also w (wr.alloc (.cells #[.int .u8 x.what, .int .i64 x.i, .int .i64 x.n, .string x.s, .slice XA x.k.length xc] 35)) [(g1, twin O L ks), (g2, O)] ([(w.heap.size, .cells #[.slice A0 la.length ca, .slice (some ⟨b, off, none⟩) lb.length cb] 23), (w.heap.size + 1, .cells #[.int .u8 n, .int .u8 m] 51)] ++ [(wr.heap.size, .cells #[.int .u8 x.what, .int .i64 x.i, .int .i64 x.n, .string x.s, .slice XA x.k.length xc] 35)])) :=
            hd.out.push ((Below.refl _ _).alloc (Nat.le_refl _) _) (Nat.le_refl _) (Blk.new wr 35 [.int .u8 x.what, .int .i64 x.i, .int .i64 x.n, .string x.s, .slice XA x.k.length xc])
          clear hd

          by_cases hq7 : x.what % 13 = 7
          · obtain ⟨P, f1, f2, f3, f4, f5, f6, f7⟩ := fail_flush O hO.out.1 hO.out.2 (L : Int) (by omega) ks
            have q7 : (x.what : Int) % 13 = 7 := by omega
            by_cases hL0 : L = 0
            · subst hL0
              as_aux_lemma =>
                have H3 : Hid (Also w (wr.alloc (.cells #[.int .u8 x.what, .int .i64 x.i, .int .i64 x.n, .string x.s, .slice XA x.k.length xc] 35)) [(g1, twin O 0 ks), (g2, O)] [(w.heap.size, .cells #[.slice A0 la.length ca, .slice (some ⟨b, off, none⟩) lb.length cb] 23), (w.heap.size + 1, .cells #[.int .u8 n, .int .u8 m] 51), (wr.heap.size, .cells #[.int .u8 x.what, .int .i64 x.i, .int .i64 x.n, .string x.s, .slice XA x.k.length xc] 35)]) := H2
                clear H2
                obtain ⟨A, B, S, T, a1, a2, a3, a4, a5, a6, a7, a8, a9, a10⟩ := fail_both O hO.out.2 ks
                have hst2 : O.starts ≤ 100 := hst
                have f6 := f6 rfl
                rw [show ((0 : Nat) : Int) = 0 from rfl, a1] at f6
                clear f7
                go_wp2_with fail
                refine (H3.out.flush (i := 0) rfl).mono ?_
                rintro e W51 ⟨rfl, h51⟩
                rw [f6] at h51
                have H51 : Hid (Also w W51 [(g1, A), (g2, O)] [(w.heap.size, .cells #[.slice A0 la.length ca, .slice (some ⟨b, off, none⟩) lb.length cb] 23), (w.heap.size + 1, .cells #[.int .u8 n, .int .u8 m] 51), (wr.heap.size, .cells #[.int .u8 x.what, .int .i64 x.i, .int .i64 x.n, .string x.s, .slice XA x.k.length xc] 35)]) := h51
                clear h51 H3
                rw [f6]
                go_wp2_with fail
                refine (H51.out.holds.up (i := 0) rfl).mono ?_
                rintro e W52 ⟨rfl, rfl⟩
                rw [a4]
                go_wp2_with fail
                refine (H51.out.crash (i := 1) rfl (.slice KA ks.length kc) ks (fun gs hgs _ => (HK.out.below H51.out.below).reads hgs) (by omega)).mono ?_
                rintro e W53 ⟨rfl, h53⟩
                rw [a2] at h53
                have H53 : Hid (Also w W53 [(g1, A), (g2, B)] [(w.heap.size, .cells #[.slice A0 la.length ca, .slice (some ⟨b, off, none⟩) lb.length cb] 23), (w.heap.size + 1, .cells #[.int .u8 n, .int .u8 m] 51), (wr.heap.size, .cells #[.int .u8 x.what, .int .i64 x.i, .int .i64 x.n, .string x.s, .slice XA x.k.length xc] 35)]) := h53
                clear h53 H51
                rw [a3]
                go_wp2_with fail
                refine (H53.out.states (i := 0) rfl).mono ?_
                rintro e W54 ⟨l_a, c_a, o_a, rfl, x54, hb54, h54⟩
                have H54 : Hid (Also w W54 [(g1, A), (g2, B)] [(w.heap.size, .cells #[.slice A0 la.length ca, .slice (some ⟨b, off, none⟩) lb.length cb] 23), (w.heap.size + 1, .cells #[.int .u8 n, .int .u8 m] 51), (wr.heap.size, .cells #[.int .u8 x.what, .int .i64 x.i, .int .i64 x.n, .string x.s, .slice XA x.k.length xc] 35), (l_a, o_a)]) := h54
                clear h54 H53 hb54
                have X_a := Lib.hid x54
                clear x54
                go_wp2_with fail
                refine (H54.out.states (i := 1) rfl).mono ?_
                rintro e W55 ⟨l_b, c_b, o_b, rfl, x55, hb55, h55⟩
                have H55 : Hid (Also w W55 [(g1, A), (g2, B)] [(w.heap.size, .cells #[.slice A0 la.length ca, .slice (some ⟨b, off, none⟩) lb.length cb] 23), (w.heap.size + 1, .cells #[.int .u8 n, .int .u8 m] 51), (wr.heap.size, .cells #[.int .u8 x.what, .int .i64 x.i, .int .i64 x.n, .string x.s, .slice XA x.k.length xc] 35), (l_a, o_a), (l_b, o_b)]) := h55
                clear h55 H54 hb55
                have X_b := Lib.hid x55
                clear x55
                go_wp2_with fail
                refine (ints_any _ _ _ (stList A) (stList B) (X_a.out _ (H55.out.at_ (j := 3) rfl)) (X_b.out _ (H55.out.at_ (j := 4) rfl))).mono ?_
                rintro e W56 ⟨rfl, hb56⟩
                have h56 := H55.out.after hb56
                have H56 : Hid (Also w W56 [(g1, A), (g2, B)] [(w.heap.size, .cells #[.slice A0 la.length ca, .slice (some ⟨b, off, none⟩) lb.length cb] 23), (w.heap.size + 1, .cells #[.int .u8 n, .int .u8 m] 51), (wr.heap.size, .cells #[.int .u8 x.what, .int .i64 x.i, .int .i64 x.n, .string x.s, .slice XA x.k.length xc] 35), (l_a, o_a), (l_b, o_b)]) := h56
                clear h56 H55 hb56
                have q56 : decide (stList A = stList B) = true := decide_eq_true (a5)
                rw [q56]
                clear q56
                go_wp2_with fail
                refine (H56.out.start (i := 0) rfl (by rw [a6]; omega)).mono ?_
                rintro e W57 ⟨rfl, h57⟩
                rw [a8] at h57
                have H57 : Hid (Also w W57 [(g1, S), (g2, B)] [(w.heap.size, .cells #[.slice A0 la.length ca, .slice (some ⟨b, off, none⟩) lb.length cb] 23), (w.heap.size + 1, .cells #[.int .u8 n, .int .u8 m] 51), (wr.heap.size, .cells #[.int .u8 x.what, .int .i64 x.i, .int .i64 x.n, .string x.s, .slice XA x.k.length xc] 35), (l_a, o_a), (l_b, o_b)]) := h57
                clear h57 H56
                rw [a8]
                go_wp2_with fail
                refine (H57.out.start (i := 1) rfl (by rw [a7]; omega)).mono ?_
                rintro e W58 ⟨rfl, h58⟩
                rw [a9] at h58
                have H58 : Hid (Also w W58 [(g1, S), (g2, T)] [(w.heap.size, .cells #[.slice A0 la.length ca, .slice (some ⟨b, off, none⟩) lb.length cb] 23), (w.heap.size + 1, .cells #[.int .u8 n, .int .u8 m] 51), (wr.heap.size, .cells #[.int .u8 x.what, .int .i64 x.i, .int .i64 x.n, .string x.s, .slice XA x.k.length xc] 35), (l_a, o_a), (l_b, o_b)]) := h58
                clear h58 H57
                rw [a9]
                go_wp2_with fail
                refine (H58.out.all (i := 0) rfl).mono ?_
                rintro e W59 ⟨l_c, c_c, o_c, rfl, x59, hb59, h59⟩
                have H59 : Hid (Also w W59 [(g1, S), (g2, T)] [(w.heap.size, .cells #[.slice A0 la.length ca, .slice (some ⟨b, off, none⟩) lb.length cb] 23), (w.heap.size + 1, .cells #[.int .u8 n, .int .u8 m] 51), (wr.heap.size, .cells #[.int .u8 x.what, .int .i64 x.i, .int .i64 x.n, .string x.s, .slice XA x.k.length xc] 35), (l_a, o_a), (l_b, o_b), (l_c, o_c)]) := h59
                clear h59 H58 hb59
                have X_c := Lib.hid x59
                clear x59
                go_wp2_with fail
                refine (H59.out.all (i := 1) rfl).mono ?_
                rintro e W60 ⟨l_d, c_d, o_d, rfl, x60, hb60, h60⟩
                have H60 : Hid (Also w W60 [(g1, S), (g2, T)] [(w.heap.size, .cells #[.slice A0 la.length ca, .slice (some ⟨b, off, none⟩) lb.length cb] 23), (w.heap.size + 1, .cells #[.int .u8 n, .int .u8 m] 51), (wr.heap.size, .cells #[.int .u8 x.what, .int .i64 x.i, .int .i64 x.n, .string x.s, .slice XA x.k.length xc] 35), (l_a, o_a), (l_b, o_b), (l_c, o_c), (l_d, o_d)]) := h60
                clear h60 H59 hb60
                have X_d := Lib.hid x60
                clear x60
                go_wp2_with fail
                refine (texts_any _ _ _ (txList S) (txList T) (X_c.out _ (H60.out.at_ (j := 5) rfl)) (X_d.out _ (H60.out.at_ (j := 6) rfl))).mono ?_
                rintro e W61 ⟨rfl, hb61⟩
                have h61 := H60.out.after hb61
                have H61 : Hid (Also w W61 [(g1, S), (g2, T)] [(w.heap.size, .cells #[.slice A0 la.length ca, .slice (some ⟨b, off, none⟩) lb.length cb] 23), (w.heap.size + 1, .cells #[.int .u8 n, .int .u8 m] 51), (wr.heap.size, .cells #[.int .u8 x.what, .int .i64 x.i, .int .i64 x.n, .string x.s, .slice XA x.k.length xc] 35), (l_a, o_a), (l_b, o_b), (l_c, o_c), (l_d, o_d)]) := h61
                clear h61 H60 hb61
                have q61 : decide (txList S = txList T) = true := decide_eq_true (a10)
                rw [q61]
                clear q61
                go_wp2_with fail
                refine (does_any _).mono ?_
                rintro e W62 ⟨rfl, hb62⟩
                have h62 := H61.out.after hb62
                have H62 : Hid (Also w W62 [(g1, S), (g2, T)] [(w.heap.size, .cells #[.slice A0 la.length ca, .slice (some ⟨b, off, none⟩) lb.length cb] 23), (w.heap.size + 1, .cells #[.int .u8 n, .int .u8 m] 51), (wr.heap.size, .cells #[.int .u8 x.what, .int .i64 x.i, .int .i64 x.n, .string x.s, .slice XA x.k.length xc] 35), (l_a, o_a), (l_b, o_b), (l_c, o_c), (l_d, o_d)]) := h62
                clear h62 H61 hb62
                go_wp2_with fail
                go_ret
                exact ⟨rfl, H62.out.below⟩
            · have hq0 := hL0
              as_aux_lemma =>
                have hLp : (0 : Int) < (L : Int) := by omega
                have hLne : ((L : Int) == 0) = false := by rw [beq_eq_false_iff_ne]; omega
                obtain ⟨M, hM⟩ : ∃ M : Nat, (L : Int) - 1 = M := ⟨L - 1, by omega⟩
                have f7 := f7 (by omega)
                rw [hM] at f7
                have g1f := (fail_flush_with O x hq7).trans f1
                have g2f := (fail_flush_with (twin O L ks) x hq7).trans f7
                have H3 : Hid (Also w (wr.alloc (.cells #[.int .u8 x.what, .int .i64 x.i, .int .i64 x.n, .string x.s, .slice XA x.k.length xc] 35)) [(g1, twin O L ks), (g2, O)] [(w.heap.size, .cells #[.slice A0 la.length ca, .slice (some ⟨b, off, none⟩) lb.length cb] 23), (w.heap.size + 1, .cells #[.int .u8 n, .int .u8 m] 51), (wr.heap.size, .cells #[.int .u8 x.what, .int .i64 x.i, .int .i64 x.n, .string x.s, .slice XA x.k.length xc] 35)]) := H2
                clear H2
                go_wp2_with fail
                have hwt := H3.out.with_ (i := 1) rfl x (.slice XA x.k.length xc) HXO.out (HXK.out.below H3.out.below) (by show O.acts.length < _; omega) (by show O.starts < _; omega)
                rw [g1f, doV_eq] at hwt
                refine hwt.mono ?_
                rintro e2 W51 ⟨rfl, h51⟩
                clear hwt
                have H51 : Hid (Also w W51 [(g1, twin O L ks), (g2, P)] [(w.heap.size, .cells #[.slice A0 la.length ca, .slice (some ⟨b, off, none⟩) lb.length cb] 23), (w.heap.size + 1, .cells #[.int .u8 n, .int .u8 m] 51), (wr.heap.size, .cells #[.int .u8 x.what, .int .i64 x.i, .int .i64 x.n, .string x.s, .slice XA x.k.length xc] 35)]) := h51
                clear h51 H3
                have hxb : Blk W51 wr.heap.size 35 [.int .u8 x.what, .int .i64 x.i, .int .i64 x.n, .string x.s, .slice XA x.k.length xc] := H51.out.at_ (j := 2) rfl
                have c51_0 := hxb.cell 0
                have c51_1 := hxb.cell 1
                have c51_2 := hxb.cell 2
                have c51_3 := hxb.cell 3
                have c51_4 := hxb.cell 4
                simp only [List.getElem?_cons_zero, List.getElem?_cons_succ] at c51_0 c51_1 c51_2 c51_3 c51_4
                clear hxb
                go_wp2_with fail
                have hwt := H51.out.with_ (i := 0) rfl x (.slice XA x.k.length xc) HXO.out (HXK.out.below H51.out.below) (by show O.acts.length < _; omega) (by show O.starts < _; omega)
                rw [g2f, doV_eq] at hwt
                refine hwt.mono ?_
                rintro e2 W52 ⟨rfl, h52⟩
                clear hwt
                have H52 : Hid (Also w W52 [(g1, twin P M ks), (g2, P)] [(w.heap.size, .cells #[.slice A0 la.length ca, .slice (some ⟨b, off, none⟩) lb.length cb] 23), (w.heap.size + 1, .cells #[.int .u8 n, .int .u8 m] 51), (wr.heap.size, .cells #[.int .u8 x.what, .int .i64 x.i, .int .i64 x.n, .string x.s, .slice XA x.k.length xc] 35)]) := h52
                clear h52 H51
                have hxb : Blk W52 wr.heap.size 35 [.int .u8 x.what, .int .i64 x.i, .int .i64 x.n, .string x.s, .slice XA x.k.length xc] := H52.out.at_ (j := 2) rfl
                have c52_0 := hxb.cell 0
                have c52_1 := hxb.cell 1
                have c52_2 := hxb.cell 2
                have c52_3 := hxb.cell 3
                have c52_4 := hxb.cell 4
                simp only [List.getElem?_cons_zero, List.getElem?_cons_succ] at c52_0 c52_1 c52_2 c52_3 c52_4
                clear hxb
                go_wp2_with fail
                go_roundw
                case rel => exact ⟨k + 1, P, M, by omega, by go_num, by go_num, by omega, by omega, by omega, ⟨f2, f3⟩, Also.pop (bs := [(w.heap.size, .cells #[.slice A0 la.length ca, .slice (some ⟨b, off, none⟩) lb.length cb] 23), (w.heap.size + 1, .cells #[.int .u8 n, .int .u8 m] 51)]) H52.out⟩
                case measure => simp [intOf]; omega
          by_cases hdd : (x.what % 13 = 5 ∨ x.what % 13 = 6) ∧ O.stateAt x.i = 2
          · have g1f := fail_gone O hO.out.2 x hdd.1 hdd.2
            have g2f := fail_gone (twin O L ks) hO.out.2 x hdd.1 hdd.2
            have q5 : 5 ≤ (x.what : Int) % 13 := by omega
            have q7 : ((x.what : Int) % 13 == 7) = false := by rw [beq_eq_false_iff_ne]; omega
            have hs2 := hdd.2
            by_cases hL0 : L = 0
            · subst hL0
              as_aux_lemma =>
                rw [show ((0 : Nat) : Int) = 0 from rfl] at g2f
                have H3 : Hid (Also w (wr.alloc (.cells #[.int .u8 x.what, .int .i64 x.i, .int .i64 x.n, .string x.s, .slice XA x.k.length xc] 35)) [(g1, twin O 0 ks), (g2, O)] [(w.heap.size, .cells #[.slice A0 la.length ca, .slice (some ⟨b, off, none⟩) lb.length cb] 23), (w.heap.size + 1, .cells #[.int .u8 n, .int .u8 m] 51), (wr.heap.size, .cells #[.int .u8 x.what, .int .i64 x.i, .int .i64 x.n, .string x.s, .slice XA x.k.length xc] 35)]) := H2
                clear H2
                go_wp2_with fail
                refine (H3.out.holds.state (i := 1) rfl x.i hin0 hin1).mono ?_
                rintro e W51 ⟨rfl, rfl⟩
                rw [hs2]
                go_wp2_with fail
                have hwt := H3.out.with_ (i := 1) rfl x (.slice XA x.k.length xc) HXO.out (HXK.out.below H3.out.below) (by show O.acts.length < _; omega) (by show O.starts < _; omega)
                rw [g1f, doV_eq] at hwt
                refine hwt.mono ?_
                rintro e2 W52 ⟨rfl, h52⟩
                clear hwt
                have H52 : Hid (Also w W52 [(g1, twin O 0 ks), (g2, O)] [(w.heap.size, .cells #[.slice A0 la.length ca, .slice (some ⟨b, off, none⟩) lb.length cb] 23), (w.heap.size + 1, .cells #[.int .u8 n, .int .u8 m] 51), (wr.heap.size, .cells #[.int .u8 x.what, .int .i64 x.i, .int .i64 x.n, .string x.s, .slice XA x.k.length xc] 35)]) := h52
                clear h52 H3
                have hxb : Blk W52 wr.heap.size 35 [.int .u8 x.what, .int .i64 x.i, .int .i64 x.n, .string x.s, .slice XA x.k.length xc] := H52.out.at_ (j := 2) rfl
                have c52_0 := hxb.cell 0
                have c52_1 := hxb.cell 1
                have c52_2 := hxb.cell 2
                have c52_3 := hxb.cell 3
                have c52_4 := hxb.cell 4
                simp only [List.getElem?_cons_zero, List.getElem?_cons_succ] at c52_0 c52_1 c52_2 c52_3 c52_4
                clear hxb
                go_wp2_with fail
                have hwt := H52.out.with_ (i := 0) rfl x (.slice XA x.k.length xc) HXO.out (HXK.out.below H52.out.below) (by show O.acts.length < _; omega) (by show O.starts < _; omega)
                rw [g2f, doV_eq] at hwt
                refine hwt.mono ?_
                rintro e2 W53 ⟨rfl, h53⟩
                clear hwt
                have H53 : Hid (Also w W53 [(g1, twin O 0 ks), (g2, O)] [(w.heap.size, .cells #[.slice A0 la.length ca, .slice (some ⟨b, off, none⟩) lb.length cb] 23), (w.heap.size + 1, .cells #[.int .u8 n, .int .u8 m] 51), (wr.heap.size, .cells #[.int .u8 x.what, .int .i64 x.i, .int .i64 x.n, .string x.s, .slice XA x.k.length xc] 35)]) := h53
                clear h53 H52
                have hxb : Blk W53 wr.heap.size 35 [.int .u8 x.what, .int .i64 x.i, .int .i64 x.n, .string x.s, .slice XA x.k.length xc] := H53.out.at_ (j := 2) rfl
                have c53_0 := hxb.cell 0
                have c53_1 := hxb.cell 1
                have c53_2 := hxb.cell 2
                have c53_3 := hxb.cell 3
                have c53_4 := hxb.cell 4
                simp only [List.getElem?_cons_zero, List.getElem?_cons_succ] at c53_0 c53_1 c53_2 c53_3 c53_4
                clear hxb
                go_wp2_with fail
                go_roundw
                case rel => exact ⟨k + 1, O, 0, by omega, by go_num, rfl, by omega, by omega, by omega, hO, Also.pop (bs := [(w.heap.size, .cells #[.slice A0 la.length ca, .slice (some ⟨b, off, none⟩) lb.length cb] 23), (w.heap.size + 1, .cells #[.int .u8 n, .int .u8 m] 51)]) H53.out⟩
                case measure => simp [intOf]; omega
            · have hLp : (0 : Int) < (L : Int) := by omega
              as_aux_lemma =>
                have hLne : ((L : Int) == 0) = false := by rw [beq_eq_false_iff_ne]; omega
                have H3 : Hid (Also w (wr.alloc (.cells #[.int .u8 x.what, .int .i64 x.i, .int .i64 x.n, .string x.s, .slice XA x.k.length xc] 35)) [(g1, twin O L ks), (g2, O)] [(w.heap.size, .cells #[.slice A0 la.length ca, .slice (some ⟨b, off, none⟩) lb.length cb] 23), (w.heap.size + 1, .cells #[.int .u8 n, .int .u8 m] 51), (wr.heap.size, .cells #[.int .u8 x.what, .int .i64 x.i, .int .i64 x.n, .string x.s, .slice XA x.k.length xc] 35)]) := H2
                clear H2
                go_wp2_with fail
                refine (H3.out.holds.state (i := 1) rfl x.i hin0 hin1).mono ?_
                rintro e W51 ⟨rfl, rfl⟩
                rw [hs2]
                go_wp2_with fail
                have hwt := H3.out.with_ (i := 1) rfl x (.slice XA x.k.length xc) HXO.out (HXK.out.below H3.out.below) (by show O.acts.length < _; omega) (by show O.starts < _; omega)
                rw [g1f, doV_eq] at hwt
                refine hwt.mono ?_
                rintro e2 W52 ⟨rfl, h52⟩
                clear hwt
                have H52 : Hid (Also w W52 [(g1, twin O L ks), (g2, O)] [(w.heap.size, .cells #[.slice A0 la.length ca, .slice (some ⟨b, off, none⟩) lb.length cb] 23), (w.heap.size + 1, .cells #[.int .u8 n, .int .u8 m] 51), (wr.heap.size, .cells #[.int .u8 x.what, .int .i64 x.i, .int .i64 x.n, .string x.s, .slice XA x.k.length xc] 35)]) := h52
                clear h52 H3
                have hxb : Blk W52 wr.heap.size 35 [.int .u8 x.what, .int .i64 x.i, .int .i64 x.n, .string x.s, .slice XA x.k.length xc] := H52.out.at_ (j := 2) rfl
                have c52_0 := hxb.cell 0
                have c52_1 := hxb.cell 1
                have c52_2 := hxb.cell 2
                have c52_3 := hxb.cell 3
                have c52_4 := hxb.cell 4
                simp only [List.getElem?_cons_zero, List.getElem?_cons_succ] at c52_0 c52_1 c52_2 c52_3 c52_4
                clear hxb
                go_wp2_with fail
                have hwt := H52.out.with_ (i := 0) rfl x (.slice XA x.k.length xc) HXO.out (HXK.out.below H52.out.below) (by show O.acts.length < _; omega) (by show O.starts < _; omega)
                rw [g2f, doV_eq] at hwt
                refine hwt.mono ?_
                rintro e2 W53 ⟨rfl, h53⟩
                clear hwt
                have H53 : Hid (Also w W53 [(g1, twin O L ks), (g2, O)] [(w.heap.size, .cells #[.slice A0 la.length ca, .slice (some ⟨b, off, none⟩) lb.length cb] 23), (w.heap.size + 1, .cells #[.int .u8 n, .int .u8 m] 51), (wr.heap.size, .cells #[.int .u8 x.what, .int .i64 x.i, .int .i64 x.n, .string x.s, .slice XA x.k.length xc] 35)]) := h53
                clear h53 H52
                have hxb : Blk W53 wr.heap.size 35 [.int .u8 x.what, .int .i64 x.i, .int .i64 x.n, .string x.s, .slice XA x.k.length xc] := H53.out.at_ (j := 2) rfl
                have c53_0 := hxb.cell 0
                have c53_1 := hxb.cell 1
                have c53_2 := hxb.cell 2
                have c53_3 := hxb.cell 3
                have c53_4 := hxb.cell 4
                simp only [List.getElem?_cons_zero, List.getElem?_cons_succ] at c53_0 c53_1 c53_2 c53_3 c53_4
                clear hxb
                go_wp2_with fail
                go_roundw
                case rel => exact ⟨k + 1, O, L, by omega, by go_num, rfl, by omega, by omega, by omega, hO, Also.pop (bs := [(w.heap.size, .cells #[.slice A0 la.length ca, .slice (some ⟨b, off, none⟩) lb.length cb] 23), (w.heap.size + 1, .cells #[.int .u8 n, .int .u8 m] 51)]) H53.out⟩
                case measure => simp [intOf]; omega
          have hc : x.what % 13 < 5 ∨ ((x.what % 13 = 5 ∨ x.what % 13 = 6) ∧ O.stateAt x.i ≠ 2) := by omega
          have q7 : ((x.what : Int) % 13 == 7) = false := by rw [beq_eq_false_iff_ne]; omega
          have hgo := fail_go O hO.out.1 hO.out.2 (L : Int) (by omega) ks x hc
          clear hdd hq7
          rcases hc with hc | ⟨hc, hs⟩
          · have q5 : (x.what : Int) % 13 < 5 := by omega
            clear hc
            rcases hgo with ⟨e, he, f1, f2⟩ | ⟨P, f1, f2, f3, f4, f5, f6, f7⟩
            · have he1 : (e == 0) = false := by rw [beq_eq_false_iff_ne]; exact he
              have he2 : (e != 0) = true := by rw [bne_iff_ne]; exact he
              clear he
              by_cases hL0 : L = 0
              · subst hL0
                as_aux_lemma =>
                  rw [show ((0 : Nat) : Int) = 0 from rfl] at f2
                  have H3 : Hid (Also w (wr.alloc (.cells #[.int .u8 x.what, .int .i64 x.i, .int .i64 x.n, .string x.s, .slice XA x.k.length xc] 35)) [(g1, twin O 0 ks), (g2, O)] [(w.heap.size, .cells #[.slice A0 la.length ca, .slice (some ⟨b, off, none⟩) lb.length cb] 23), (w.heap.size + 1, .cells #[.int .u8 n, .int .u8 m] 51), (wr.heap.size, .cells #[.int .u8 x.what, .int .i64 x.i, .int .i64 x.n, .string x.s, .slice XA x.k.length xc] 35)]) := H2
                  clear H2
                  go_wp2_with fail
                  have hwt := H3.out.with_ (i := 1) rfl x (.slice XA x.k.length xc) HXO.out (HXK.out.below H3.out.below) (by show O.acts.length < _; omega) (by show O.starts < _; omega)
                  rw [f1, doV_eq] at hwt
                  refine hwt.mono ?_
                  rintro e2 W51 ⟨rfl, h51⟩
                  clear hwt
                  have H51 : Hid (Also w W51 [(g1, twin O 0 ks), (g2, O)] [(w.heap.size, .cells #[.slice A0 la.length ca, .slice (some ⟨b, off, none⟩) lb.length cb] 23), (w.heap.size + 1, .cells #[.int .u8 n, .int .u8 m] 51), (wr.heap.size, .cells #[.int .u8 x.what, .int .i64 x.i, .int .i64 x.n, .string x.s, .slice XA x.k.length xc] 35)]) := h51
                  clear h51 H3
                  have hxb : Blk W51 wr.heap.size 35 [.int .u8 x.what, .int .i64 x.i, .int .i64 x.n, .string x.s, .slice XA x.k.length xc] := H51.out.at_ (j := 2) rfl
                  have c51_0 := hxb.cell 0
                  have c51_1 := hxb.cell 1
                  have c51_2 := hxb.cell 2
                  have c51_3 := hxb.cell 3
                  have c51_4 := hxb.cell 4
                  simp only [List.getElem?_cons_zero, List.getElem?_cons_succ] at c51_0 c51_1 c51_2 c51_3 c51_4
                  clear hxb
                  go_wp2_with fail
                  have hwt := H51.out.with_ (i := 0) rfl x (.slice XA x.k.length xc) HXO.out (HXK.out.below H51.out.below) (by show O.acts.length < _; omega) (by show O.starts < _; omega)
                  rw [f2, doV_eq] at hwt
                  refine hwt.mono ?_
                  rintro e2 W52 ⟨rfl, h52⟩
                  clear hwt
                  have H52 : Hid (Also w W52 [(g1, twin O 0 ks), (g2, O)] [(w.heap.size, .cells #[.slice A0 la.length ca, .slice (some ⟨b, off, none⟩) lb.length cb] 23), (w.heap.size + 1, .cells #[.int .u8 n, .int .u8 m] 51), (wr.heap.size, .cells #[.int .u8 x.what, .int .i64 x.i, .int .i64 x.n, .string x.s, .slice XA x.k.length xc] 35)]) := h52
                  clear h52 H51
                  have hxb : Blk W52 wr.heap.size 35 [.int .u8 x.what, .int .i64 x.i, .int .i64 x.n, .string x.s, .slice XA x.k.length xc] := H52.out.at_ (j := 2) rfl
                  have c52_0 := hxb.cell 0
                  have c52_1 := hxb.cell 1
                  have c52_2 := hxb.cell 2
                  have c52_3 := hxb.cell 3
                  have c52_4 := hxb.cell 4
                  simp only [List.getElem?_cons_zero, List.getElem?_cons_succ] at c52_0 c52_1 c52_2 c52_3 c52_4
                  clear hxb
                  go_wp2_with fail
                  go_roundw
                  case rel => exact ⟨k + 1, O, 0, by omega, by go_num, rfl, by omega, by omega, by omega, hO, Also.pop (bs := [(w.heap.size, .cells #[.slice A0 la.length ca, .slice (some ⟨b, off, none⟩) lb.length cb] 23), (w.heap.size + 1, .cells #[.int .u8 n, .int .u8 m] 51)]) H52.out⟩
                  case measure => simp [intOf]; omega
              · have hLp : (0 : Int) < (L : Int) := by omega
                as_aux_lemma =>
                  have hLne : ((L : Int) == 0) = false := by rw [beq_eq_false_iff_ne]; omega
                  have H3 : Hid (Also w (wr.alloc (.cells #[.int .u8 x.what, .int .i64 x.i, .int .i64 x.n, .string x.s, .slice XA x.k.length xc] 35)) [(g1, twin O L ks), (g2, O)] [(w.heap.size, .cells #[.slice A0 la.length ca, .slice (some ⟨b, off, none⟩) lb.length cb] 23), (w.heap.size + 1, .cells #[.int .u8 n, .int .u8 m] 51), (wr.heap.size, .cells #[.int .u8 x.what, .int .i64 x.i, .int .i64 x.n, .string x.s, .slice XA x.k.length xc] 35)]) := H2
                  clear H2
                  go_wp2_with fail
                  have hwt := H3.out.with_ (i := 1) rfl x (.slice XA x.k.length xc) HXO.out (HXK.out.below H3.out.below) (by show O.acts.length < _; omega) (by show O.starts < _; omega)
                  rw [f1, doV_eq] at hwt
                  refine hwt.mono ?_
                  rintro e2 W51 ⟨rfl, h51⟩
                  clear hwt
                  have H51 : Hid (Also w W51 [(g1, twin O L ks), (g2, O)] [(w.heap.size, .cells #[.slice A0 la.length ca, .slice (some ⟨b, off, none⟩) lb.length cb] 23), (w.heap.size + 1, .cells #[.int .u8 n, .int .u8 m] 51), (wr.heap.size, .cells #[.int .u8 x.what, .int .i64 x.i, .int .i64 x.n, .string x.s, .slice XA x.k.length xc] 35)]) := h51
                  clear h51 H3
                  have hxb : Blk W51 wr.heap.size 35 [.int .u8 x.what, .int .i64 x.i, .int .i64 x.n, .string x.s, .slice XA x.k.length xc] := H51.out.at_ (j := 2) rfl
                  have c51_0 := hxb.cell 0
                  have c51_1 := hxb.cell 1
                  have c51_2 := hxb.cell 2
                  have c51_3 := hxb.cell 3
                  have c51_4 := hxb.cell 4
                  simp only [List.getElem?_cons_zero, List.getElem?_cons_succ] at c51_0 c51_1 c51_2 c51_3 c51_4
                  clear hxb
                  go_wp2_with fail
                  have hwt := H51.out.with_ (i := 0) rfl x (.slice XA x.k.length xc) HXO.out (HXK.out.below H51.out.below) (by show O.acts.length < _; omega) (by show O.starts < _; omega)
                  rw [f2, doV_eq] at hwt
                  refine hwt.mono ?_
                  rintro e2 W52 ⟨rfl, h52⟩
                  clear hwt
                  have H52 : Hid (Also w W52 [(g1, twin O L ks), (g2, O)] [(w.heap.size, .cells #[.slice A0 la.length ca, .slice (some ⟨b, off, none⟩) lb.length cb] 23), (w.heap.size + 1, .cells #[.int .u8 n, .int .u8 m] 51), (wr.heap.size, .cells #[.int .u8 x.what, .int .i64 x.i, .int .i64 x.n, .string x.s, .slice XA x.k.length xc] 35)]) := h52
                  clear h52 H51
                  have hxb : Blk W52 wr.heap.size 35 [.int .u8 x.what, .int .i64 x.i, .int .i64 x.n, .string x.s, .slice XA x.k.length xc] := H52.out.at_ (j := 2) rfl
                  have c52_0 := hxb.cell 0
                  have c52_1 := hxb.cell 1
                  have c52_2 := hxb.cell 2
                  have c52_3 := hxb.cell 3
                  have c52_4 := hxb.cell 4
                  simp only [List.getElem?_cons_zero, List.getElem?_cons_succ] at c52_0 c52_1 c52_2 c52_3 c52_4
                  clear hxb
                  go_wp2_with fail
                  go_roundw
                  case rel => exact ⟨k + 1, O, L, by omega, by go_num, rfl, by omega, by omega, by omega, hO, Also.pop (bs := [(w.heap.size, .cells #[.slice A0 la.length ca, .slice (some ⟨b, off, none⟩) lb.length cb] 23), (w.heap.size + 1, .cells #[.int .u8 n, .int .u8 m] 51)]) H52.out⟩
                  case measure => simp [intOf]; omega
            · by_cases hL0 : L = 0
              · subst hL0
                as_aux_lemma =>
                  obtain ⟨A, B, S, T, a1, a2, a3, a4, a5, a6, a7, a8, a9, a10⟩ := fail_both P f3 ks
                  have hst2 : P.starts ≤ 100 := (by omega)
                  have f6 := f6 rfl
                  rw [show ((0 : Nat) : Int) = 0 from rfl, a1] at f6
                  clear f7
                  have H3 : Hid (Also w (wr.alloc (.cells #[.int .u8 x.what, .int .i64 x.i, .int .i64 x.n, .string x.s, .slice XA x.k.length xc] 35)) [(g1, twin O 0 ks), (g2, O)] [(w.heap.size, .cells #[.slice A0 la.length ca, .slice (some ⟨b, off, none⟩) lb.length cb] 23), (w.heap.size + 1, .cells #[.int .u8 n, .int .u8 m] 51), (wr.heap.size, .cells #[.int .u8 x.what, .int .i64 x.i, .int .i64 x.n, .string x.s, .slice XA x.k.length xc] 35)]) := H2
                  clear H2
                  go_wp2_with fail
                  have hwt := H3.out.with_ (i := 1) rfl x (.slice XA x.k.length xc) HXO.out (HXK.out.below H3.out.below) (by show O.acts.length < _; omega) (by show O.starts < _; omega)
                  rw [f1, doV_eq] at hwt
                  refine hwt.mono ?_
                  rintro e2 W51 ⟨rfl, h51⟩
                  clear hwt
                  have H51 : Hid (Also w W51 [(g1, twin O 0 ks), (g2, P)] [(w.heap.size, .cells #[.slice A0 la.length ca, .slice (some ⟨b, off, none⟩) lb.length cb] 23), (w.heap.size + 1, .cells #[.int .u8 n, .int .u8 m] 51), (wr.heap.size, .cells #[.int .u8 x.what, .int .i64 x.i, .int .i64 x.n, .string x.s, .slice XA x.k.length xc] 35)]) := h51
                  clear h51 H3
                  have hxb : Blk W51 wr.heap.size 35 [.int .u8 x.what, .int .i64 x.i, .int .i64 x.n, .string x.s, .slice XA x.k.length xc] := H51.out.at_ (j := 2) rfl
                  have c51_0 := hxb.cell 0
                  have c51_1 := hxb.cell 1
                  have c51_2 := hxb.cell 2
                  have c51_3 := hxb.cell 3
                  have c51_4 := hxb.cell 4
                  simp only [List.getElem?_cons_zero, List.getElem?_cons_succ] at c51_0 c51_1 c51_2 c51_3 c51_4
                  clear hxb
                  go_wp2_with fail
                  have hwt := H51.out.with_ (i := 0) rfl x (.slice XA x.k.length xc) HXO.out (HXK.out.below H51.out.below) (by show O.acts.length < _; omega) (by show O.starts < _; omega)
                  rw [f6, doV_eq] at hwt
                  refine hwt.mono ?_
                  rintro e2 W52 ⟨rfl, h52⟩
                  clear hwt
                  have H52 : Hid (Also w W52 [(g1, A), (g2, P)] [(w.heap.size, .cells #[.slice A0 la.length ca, .slice (some ⟨b, off, none⟩) lb.length cb] 23), (w.heap.size + 1, .cells #[.int .u8 n, .int .u8 m] 51), (wr.heap.size, .cells #[.int .u8 x.what, .int .i64 x.i, .int .i64 x.n, .string x.s, .slice XA x.k.length xc] 35)]) := h52
                  clear h52 H51
                  have hxb : Blk W52 wr.heap.size 35 [.int .u8 x.what, .int .i64 x.i, .int .i64 x.n, .string x.s, .slice XA x.k.length xc] := H52.out.at_ (j := 2) rfl
                  have c52_0 := hxb.cell 0
                  have c52_1 := hxb.cell 1
                  have c52_2 := hxb.cell 2
                  have c52_3 := hxb.cell 3
                  have c52_4 := hxb.cell 4
                  simp only [List.getElem?_cons_zero, List.getElem?_cons_succ] at c52_0 c52_1 c52_2 c52_3 c52_4
                  clear hxb
                  go_wp2_with fail
                  refine (H52.out.holds.up (i := 0) rfl).mono ?_
                  rintro e W53 ⟨rfl, rfl⟩
                  rw [a4]
                  go_wp2_with fail
                  refine (H52.out.crash (i := 1) rfl (.slice KA ks.length kc) ks (fun gs hgs _ => (HK.out.below H52.out.below).reads hgs) (by omega)).mono ?_
                  rintro e W54 ⟨rfl, h54⟩
                  rw [a2] at h54
                  have H54 : Hid (Also w W54 [(g1, A), (g2, B)] [(w.heap.size, .cells #[.slice A0 la.length ca, .slice (some ⟨b, off, none⟩) lb.length cb] 23), (w.heap.size + 1, .cells #[.int .u8 n, .int .u8 m] 51), (wr.heap.size, .cells #[.int .u8 x.what, .int .i64 x.i, .int .i64 x.n, .string x.s, .slice XA x.k.length xc] 35)]) := h54
                  clear h54 H52
                  rw [a3]
                  go_wp2_with fail
                  refine (H54.out.states (i := 0) rfl).mono ?_
                  rintro e W55 ⟨l_a, c_a, o_a, rfl, x55, hb55, h55⟩
                  have H55 : Hid (Also w W55 [(g1, A), (g2, B)] [(w.heap.size, .cells #[.slice A0 la.length ca, .slice (some ⟨b, off, none⟩) lb.length cb] 23), (w.heap.size + 1, .cells #[.int .u8 n, .int .u8 m] 51), (wr.heap.size, .cells #[.int .u8 x.what, .int .i64 x.i, .int .i64 x.n, .string x.s, .slice XA x.k.length xc] 35), (l_a, o_a)]) := h55
                  clear h55 H54 hb55
                  have X_a := Lib.hid x55
                  clear x55
                  go_wp2_with fail
                  refine (H55.out.states (i := 1) rfl).mono ?_
                  rintro e W56 ⟨l_b, c_b, o_b, rfl, x56, hb56, h56⟩
                  have H56 : Hid (Also w W56 [(g1, A), (g2, B)] [(w.heap.size, .cells #[.slice A0 la.length ca, .slice (some ⟨b, off, none⟩) lb.length cb] 23), (w.heap.size + 1, .cells #[.int .u8 n, .int .u8 m] 51), (wr.heap.size, .cells #[.int .u8 x.what, .int .i64 x.i, .int .i64 x.n, .string x.s, .slice XA x.k.length xc] 35), (l_a, o_a), (l_b, o_b)]) := h56
                  clear h56 H55 hb56
                  have X_b := Lib.hid x56
                  clear x56
                  go_wp2_with fail
                  refine (ints_any _ _ _ (stList A) (stList B) (X_a.out _ (H56.out.at_ (j := 3) rfl)) (X_b.out _ (H56.out.at_ (j := 4) rfl))).mono ?_
                  rintro e W57 ⟨rfl, hb57⟩
                  have h57 := H56.out.after hb57
                  have H57 : Hid (Also w W57 [(g1, A), (g2, B)] [(w.heap.size, .cells #[.slice A0 la.length ca, .slice (some ⟨b, off, none⟩) lb.length cb] 23), (w.heap.size + 1, .cells #[.int .u8 n, .int .u8 m] 51), (wr.heap.size, .cells #[.int .u8 x.what, .int .i64 x.i, .int .i64 x.n, .string x.s, .slice XA x.k.length xc] 35), (l_a, o_a), (l_b, o_b)]) := h57
                  clear h57 H56 hb57
                  have q57 : decide (stList A = stList B) = true := decide_eq_true (a5)
                  rw [q57]
                  clear q57
                  go_wp2_with fail
                  refine (H57.out.start (i := 0) rfl (by rw [a6]; omega)).mono ?_
                  rintro e W58 ⟨rfl, h58⟩
                  rw [a8] at h58
                  have H58 : Hid (Also w W58 [(g1, S), (g2, B)] [(w.heap.size, .cells #[.slice A0 la.length ca, .slice (some ⟨b, off, none⟩) lb.length cb] 23), (w.heap.size + 1, .cells #[.int .u8 n, .int .u8 m] 51), (wr.heap.size, .cells #[.int .u8 x.what, .int .i64 x.i, .int .i64 x.n, .string x.s, .slice XA x.k.length xc] 35), (l_a, o_a), (l_b, o_b)]) := h58
                  clear h58 H57
                  rw [a8]
                  go_wp2_with fail
                  refine (H58.out.start (i := 1) rfl (by rw [a7]; omega)).mono ?_
                  rintro e W59 ⟨rfl, h59⟩
                  rw [a9] at h59
                  have H59 : Hid (Also w W59 [(g1, S), (g2, T)] [(w.heap.size, .cells #[.slice A0 la.length ca, .slice (some ⟨b, off, none⟩) lb.length cb] 23), (w.heap.size + 1, .cells #[.int .u8 n, .int .u8 m] 51), (wr.heap.size, .cells #[.int .u8 x.what, .int .i64 x.i, .int .i64 x.n, .string x.s, .slice XA x.k.length xc] 35), (l_a, o_a), (l_b, o_b)]) := h59
                  clear h59 H58
                  rw [a9]
                  go_wp2_with fail
                  refine (H59.out.all (i := 0) rfl).mono ?_
                  rintro e W60 ⟨l_c, c_c, o_c, rfl, x60, hb60, h60⟩
                  have H60 : Hid (Also w W60 [(g1, S), (g2, T)] [(w.heap.size, .cells #[.slice A0 la.length ca, .slice (some ⟨b, off, none⟩) lb.length cb] 23), (w.heap.size + 1, .cells #[.int .u8 n, .int .u8 m] 51), (wr.heap.size, .cells #[.int .u8 x.what, .int .i64 x.i, .int .i64 x.n, .string x.s, .slice XA x.k.length xc] 35), (l_a, o_a), (l_b, o_b), (l_c, o_c)]) := h60
                  clear h60 H59 hb60
                  have X_c := Lib.hid x60
                  clear x60
                  go_wp2_with fail
                  refine (H60.out.all (i := 1) rfl).mono ?_
                  rintro e W61 ⟨l_d, c_d, o_d, rfl, x61, hb61, h61⟩
                  have H61 : Hid (Also w W61 [(g1, S), (g2, T)] [(w.heap.size, .cells #[.slice A0 la.length ca, .slice (some ⟨b, off, none⟩) lb.length cb] 23), (w.heap.size + 1, .cells #[.int .u8 n, .int .u8 m] 51), (wr.heap.size, .cells #[.int .u8 x.what, .int .i64 x.i, .int .i64 x.n, .string x.s, .slice XA x.k.length xc] 35), (l_a, o_a), (l_b, o_b), (l_c, o_c), (l_d, o_d)]) := h61
                  clear h61 H60 hb61
                  have X_d := Lib.hid x61
                  clear x61
                  go_wp2_with fail
                  refine (texts_any _ _ _ (txList S) (txList T) (X_c.out _ (H61.out.at_ (j := 5) rfl)) (X_d.out _ (H61.out.at_ (j := 6) rfl))).mono ?_
                  rintro e W62 ⟨rfl, hb62⟩
                  have h62 := H61.out.after hb62
                  have H62 : Hid (Also w W62 [(g1, S), (g2, T)] [(w.heap.size, .cells #[.slice A0 la.length ca, .slice (some ⟨b, off, none⟩) lb.length cb] 23), (w.heap.size + 1, .cells #[.int .u8 n, .int .u8 m] 51), (wr.heap.size, .cells #[.int .u8 x.what, .int .i64 x.i, .int .i64 x.n, .string x.s, .slice XA x.k.length xc] 35), (l_a, o_a), (l_b, o_b), (l_c, o_c), (l_d, o_d)]) := h62
                  clear h62 H61 hb62
                  have q62 : decide (txList S = txList T) = true := decide_eq_true (a10)
                  rw [q62]
                  clear q62
                  go_wp2_with fail
                  refine (does_any _).mono ?_
                  rintro e W63 ⟨rfl, hb63⟩
                  have h63 := H62.out.after hb63
                  have H63 : Hid (Also w W63 [(g1, S), (g2, T)] [(w.heap.size, .cells #[.slice A0 la.length ca, .slice (some ⟨b, off, none⟩) lb.length cb] 23), (w.heap.size + 1, .cells #[.int .u8 n, .int .u8 m] 51), (wr.heap.size, .cells #[.int .u8 x.what, .int .i64 x.i, .int .i64 x.n, .string x.s, .slice XA x.k.length xc] 35), (l_a, o_a), (l_b, o_b), (l_c, o_c), (l_d, o_d)]) := h63
                  clear h63 H62 hb63
                  go_wp2_with fail
                  go_ret
                  exact ⟨rfl, H63.out.below⟩
              · have hLp : (0 : Int) < (L : Int) := by omega
                as_aux_lemma =>
                  have hLne : ((L : Int) == 0) = false := by rw [beq_eq_false_iff_ne]; omega
                  obtain ⟨M, hM⟩ : ∃ M : Nat, (L : Int) - 1 = M := ⟨L - 1, by omega⟩
                  have f7 := f7 (by omega)
                  rw [hM] at f7
                  clear f6
                  have H3 : Hid (Also w (wr.alloc (.cells #[.int .u8 x.what, .int .i64 x.i, .int .i64 x.n, .string x.s, .slice XA x.k.length xc] 35)) [(g1, twin O L ks), (g2, O)] [(w.heap.size, .cells #[.slice A0 la.length ca, .slice (some ⟨b, off, none⟩) lb.length cb] 23), (w.heap.size + 1, .cells #[.int .u8 n, .int .u8 m] 51), (wr.heap.size, .cells #[.int .u8 x.what, .int .i64 x.i, .int .i64 x.n, .string x.s, .slice XA x.k.length xc] 35)]) := H2
                  clear H2
                  go_wp2_with fail
                  have hwt := H3.out.with_ (i := 1) rfl x (.slice XA x.k.length xc) HXO.out (HXK.out.below H3.out.below) (by show O.acts.length < _; omega) (by show O.starts < _; omega)
                  rw [f1, doV_eq] at hwt
                  refine hwt.mono ?_
                  rintro e2 W51 ⟨rfl, h51⟩
                  clear hwt
                  have H51 : Hid (Also w W51 [(g1, twin O L ks), (g2, P)] [(w.heap.size, .cells #[.slice A0 la.length ca, .slice (some ⟨b, off, none⟩) lb.length cb] 23), (w.heap.size + 1, .cells #[.int .u8 n, .int .u8 m] 51), (wr.heap.size, .cells #[.int .u8 x.what, .int .i64 x.i, .int .i64 x.n, .string x.s, .slice XA x.k.length xc] 35)]) := h51
                  clear h51 H3
                  have hxb : Blk W51 wr.heap.size 35 [.int .u8 x.what, .int .i64 x.i, .int .i64 x.n, .string x.s, .slice XA x.k.length xc] := H51.out.at_ (j := 2) rfl
                  have c51_0 := hxb.cell 0
                  have c51_1 := hxb.cell 1
                  have c51_2 := hxb.cell 2
                  have c51_3 := hxb.cell 3
                  have c51_4 := hxb.cell 4
                  simp only [List.getElem?_cons_zero, List.getElem?_cons_succ] at c51_0 c51_1 c51_2 c51_3 c51_4
                  clear hxb
                  go_wp2_with fail
                  have hwt := H51.out.with_ (i := 0) rfl x (.slice XA x.k.length xc) HXO.out (HXK.out.below H51.out.below) (by show O.acts.length < _; omega) (by show O.starts < _; omega)
                  rw [f7, doV_eq] at hwt
                  refine hwt.mono ?_
                  rintro e2 W52 ⟨rfl, h52⟩
                  clear hwt
                  have H52 : Hid (Also w W52 [(g1, twin P M ks), (g2, P)] [(w.heap.size, .cells #[.slice A0 la.length ca, .slice (some ⟨b, off, none⟩) lb.length cb] 23), (w.heap.size + 1, .cells #[.int .u8 n, .int .u8 m] 51), (wr.heap.size, .cells #[.int .u8 x.what, .int .i64 x.i, .int .i64 x.n, .string x.s, .slice XA x.k.length xc] 35)]) := h52
                  clear h52 H51
                  have hxb : Blk W52 wr.heap.size 35 [.int .u8 x.what, .int .i64 x.i, .int .i64 x.n, .string x.s, .slice XA x.k.length xc] := H52.out.at_ (j := 2) rfl
                  have c52_0 := hxb.cell 0
                  have c52_1 := hxb.cell 1
                  have c52_2 := hxb.cell 2
                  have c52_3 := hxb.cell 3
                  have c52_4 := hxb.cell 4
                  simp only [List.getElem?_cons_zero, List.getElem?_cons_succ] at c52_0 c52_1 c52_2 c52_3 c52_4
                  clear hxb
                  go_wp2_with fail
                  go_roundw
                  case rel => exact ⟨k + 1, P, M, by omega, by go_num, by go_num, by omega, by omega, by omega, ⟨f2, f3⟩, Also.pop (bs := [(w.heap.size, .cells #[.slice A0 la.length ca, .slice (some ⟨b, off, none⟩) lb.length cb] 23), (w.heap.size + 1, .cells #[.int .u8 n, .int .u8 m] 51)]) H52.out⟩
                  case measure => simp [intOf]; omega
          · have q5 : 5 ≤ (x.what : Int) % 13 := by omega
            have hs1 : (O.stateAt x.i == 2) = false := by rw [beq_eq_false_iff_ne]; exact hs
            have hs2 : (O.stateAt x.i != 2) = true := by rw [bne_iff_ne]; exact hs
            clear hc hs
            rcases hgo with ⟨e, he, f1, f2⟩ | ⟨P, f1, f2, f3, f4, f5, f6, f7⟩
            · have he1 : (e == 0) = false := by rw [beq_eq_false_iff_ne]; exact he
              have he2 : (e != 0) = true := by rw [bne_iff_ne]; exact he
              clear he
              by_cases hL0 : L = 0
              · subst hL0
                as_aux_lemma =>
                  rw [show ((0 : Nat) : Int) = 0 from rfl] at f2
                  have H3 : Hid (Also w (wr.alloc (.cells #[.int .u8 x.what, .int .i64 x.i, .int .i64 x.n, .string x.s, .slice XA x.k.length xc] 35)) [(g1, twin O 0 ks), (g2, O)] [(w.heap.size, .cells #[.slice A0 la.length ca, .slice (some ⟨b, off, none⟩) lb.length cb] 23), (w.heap.size + 1, .cells #[.int .u8 n, .int .u8 m] 51), (wr.heap.size, .cells #[.int .u8 x.what, .int .i64 x.i, .int .i64 x.n, .string x.s, .slice XA x.k.length xc] 35)]) := H2
                  clear H2
                  go_wp2_with fail
                  refine (H3.out.holds.state (i := 1) rfl x.i hin0 hin1).mono ?_
                  rintro e W51 ⟨rfl, rfl⟩
                  go_wp2_with fail
                  have hwt := H3.out.with_ (i := 1) rfl x (.slice XA x.k.length xc) HXO.out (HXK.out.below H3.out.below) (by show O.acts.length < _; omega) (by show O.starts < _; omega)
                  rw [f1, doV_eq] at hwt
                  refine hwt.mono ?_
                  rintro e2 W52 ⟨rfl, h52⟩
                  clear hwt
                  have H52 : Hid (Also w W52 [(g1, twin O 0 ks), (g2, O)] [(w.heap.size, .cells #[.slice A0 la.length ca, .slice (some ⟨b, off, none⟩) lb.length cb] 23), (w.heap.size + 1, .cells #[.int .u8 n, .int .u8 m] 51), (wr.heap.size, .cells #[.int .u8 x.what, .int .i64 x.i, .int .i64 x.n, .string x.s, .slice XA x.k.length xc] 35)]) := h52
                  clear h52 H3
                  have hxb : Blk W52 wr.heap.size 35 [.int .u8 x.what, .int .i64 x.i, .int .i64 x.n, .string x.s, .slice XA x.k.length xc] := H52.out.at_ (j := 2) rfl
                  have c52_0 := hxb.cell 0
                  have c52_1 := hxb.cell 1
                  have c52_2 := hxb.cell 2
                  have c52_3 := hxb.cell 3
                  have c52_4 := hxb.cell 4
                  simp only [List.getElem?_cons_zero, List.getElem?_cons_succ] at c52_0 c52_1 c52_2 c52_3 c52_4
                  clear hxb
                  go_wp2_with fail
                  have hwt := H52.out.with_ (i := 0) rfl x (.slice XA x.k.length xc) HXO.out (HXK.out.below H52.out.below) (by show O.acts.length < _; omega) (by show O.starts < _; omega)
                  rw [f2, doV_eq] at hwt
                  refine hwt.mono ?_
                  rintro e2 W53 ⟨rfl, h53⟩
                  clear hwt
                  have H53 : Hid (Also w W53 [(g1, twin O 0 ks), (g2, O)] [(w.heap.size, .cells #[.slice A0 la.length ca, .slice (some ⟨b, off, none⟩) lb.length cb] 23), (w.heap.size + 1, .cells #[.int .u8 n, .int .u8 m] 51), (wr.heap.size, .cells #[.int .u8 x.what, .int .i64 x.i, .int .i64 x.n, .string x.s, .slice XA x.k.length xc] 35)]) := h53
                  clear h53 H52
                  have hxb : Blk W53 wr.heap.size 35 [.int .u8 x.what, .int .i64 x.i, .int .i64 x.n, .string x.s, .slice XA x.k.length xc] := H53.out.at_ (j := 2) rfl
                  have c53_0 := hxb.cell 0
                  have c53_1 := hxb.cell 1
                  have c53_2 := hxb.cell 2
                  have c53_3 := hxb.cell 3
                  have c53_4 := hxb.cell 4
                  simp only [List.getElem?_cons_zero, List.getElem?_cons_succ] at c53_0 c53_1 c53_2 c53_3 c53_4
                  clear hxb
                  go_wp2_with fail
                  go_roundw
                  case rel => exact ⟨k + 1, O, 0, by omega, by go_num, rfl, by omega, by omega, by omega, hO, Also.pop (bs := [(w.heap.size, .cells #[.slice A0 la.length ca, .slice (some ⟨b, off, none⟩) lb.length cb] 23), (w.heap.size + 1, .cells #[.int .u8 n, .int .u8 m] 51)]) H53.out⟩
                  case measure => simp [intOf]; omega
              · have hLp : (0 : Int) < (L : Int) := by omega
                as_aux_lemma =>
                  have hLne : ((L : Int) == 0) = false := by rw [beq_eq_false_iff_ne]; omega
                  have H3 : Hid (Also w (wr.alloc (.cells #[.int .u8 x.what, .int .i64 x.i, .int .i64 x.n, .string x.s, .slice XA x.k.length xc] 35)) [(g1, twin O L ks), (g2, O)] [(w.heap.size, .cells #[.slice A0 la.length ca, .slice (some ⟨b, off, none⟩) lb.length cb] 23), (w.heap.size + 1, .cells #[.int .u8 n, .int .u8 m] 51), (wr.heap.size, .cells #[.int .u8 x.what, .int .i64 x.i, .int .i64 x.n, .string x.s, .slice XA x.k.length xc] 35)]) := H2
                  clear H2
                  go_wp2_with fail
                  refine (H3.out.holds.state (i := 1) rfl x.i hin0 hin1).mono ?_
                  rintro e W51 ⟨rfl, rfl⟩
                  go_wp2_with fail
                  have hwt := H3.out.with_ (i := 1) rfl x (.slice XA x.k.length xc) HXO.out (HXK.out.below H3.out.below) (by show O.acts.length < _; omega) (by show O.starts < _; omega)
                  rw [f1, doV_eq] at hwt
                  refine hwt.mono ?_
                  rintro e2 W52 ⟨rfl, h52⟩
                  clear hwt
                  have H52 : Hid (Also w W52 [(g1, twin O L ks), (g2, O)] [(w.heap.size, .cells #[.slice A0 la.length ca, .slice (some ⟨b, off, none⟩) lb.length cb] 23), (w.heap.size + 1, .cells #[.int .u8 n, .int .u8 m] 51), (wr.heap.size, .cells #[.int .u8 x.what, .int .i64 x.i, .int .i64 x.n, .string x.s, .slice XA x.k.length xc] 35)]) := h52
                  clear h52 H3
                  have hxb : Blk W52 wr.heap.size 35 [.int .u8 x.what, .int .i64 x.i, .int .i64 x.n, .string x.s, .slice XA x.k.length xc] := H52.out.at_ (j := 2) rfl
                  have c52_0 := hxb.cell 0
                  have c52_1 := hxb.cell 1
                  have c52_2 := hxb.cell 2
                  have c52_3 := hxb.cell 3
                  have c52_4 := hxb.cell 4
                  simp only [List.getElem?_cons_zero, List.getElem?_cons_succ] at c52_0 c52_1 c52_2 c52_3 c52_4
                  clear hxb
                  go_wp2_with fail
                  have hwt := H52.out.with_ (i := 0) rfl x (.slice XA x.k.length xc) HXO.out (HXK.out.below H52.out.below) (by show O.acts.length < _; omega) (by show O.starts < _; omega)
                  rw [f2, doV_eq] at hwt
                  refine hwt.mono ?_
                  rintro e2 W53 ⟨rfl, h53⟩
                  clear hwt
                  have H53 : Hid (Also w W53 [(g1, twin O L ks), (g2, O)] [(w.heap.size, .cells #[.slice A0 la.length ca, .slice (some ⟨b, off, none⟩) lb.length cb] 23), (w.heap.size + 1, .cells #[.int .u8 n, .int .u8 m] 51), (wr.heap.size, .cells #[.int .u8 x.what, .int .i64 x.i, .int .i64 x.n, .string x.s, .slice XA x.k.length xc] 35)]) := h53
                  clear h53 H52
                  have hxb : Blk W53 wr.heap.size 35 [.int .u8 x.what, .int .i64 x.i, .int .i64 x.n, .string x.s, .slice XA x.k.length xc] := H53.out.at_ (j := 2) rfl
                  have c53_0 := hxb.cell 0
                  have c53_1 := hxb.cell 1
                  have c53_2 := hxb.cell 2
                  have c53_3 := hxb.cell 3
                  have c53_4 := hxb.cell 4
                  simp only [List.getElem?_cons_zero, List.getElem?_cons_succ] at c53_0 c53_1 c53_2 c53_3 c53_4
                  clear hxb
                  go_wp2_with fail
                  go_roundw
                  case rel => exact ⟨k + 1, O, L, by omega, by go_num, rfl, by omega, by omega, by omega, hO, Also.pop (bs := [(w.heap.size, .cells #[.slice A0 la.length ca, .slice (some ⟨b, off, none⟩) lb.length cb] 23), (w.heap.size + 1, .cells #[.int .u8 n, .int .u8 m] 51)]) H53.out⟩
                  case measure => simp [intOf]; omega
            · by_cases hL0 : L = 0
              · subst hL0
                as_aux_lemma =>
                  obtain ⟨A, B, S, T, a1, a2, a3, a4, a5, a6, a7, a8, a9, a10⟩ := fail_both P f3 ks
                  have hst2 : P.starts ≤ 100 := (by omega)
                  have f6 := f6 rfl
                  rw [show ((0 : Nat) : Int) = 0 from rfl, a1] at f6
                  clear f7
                  have H3 : Hid (Also w (wr.alloc (.cells #[.int .u8 x.what, .int .i64 x.i, .int .i64 x.n, .string x.s, .slice XA x.k.length xc] 35)) [(g1, twin O 0 ks), (g2, O)] [(w.heap.size, .cells #[.slice A0 la.length ca, .slice (some ⟨b, off, none⟩) lb.length cb] 23), (w.heap.size + 1, .cells #[.int .u8 n, .int .u8 m] 51), (wr.heap.size, .cells #[.int .u8 x.what, .int .i64 x.i, .int .i64 x.n, .string x.s, .slice XA x.k.length xc] 35)]) := H2
                  clear H2
                  go_wp2_with fail
                  refine (H3.out.holds.state (i := 1) rfl x.i hin0 hin1).mono ?_
                  rintro e W51 ⟨rfl, rfl⟩
                  go_wp2_with fail
                  have hwt := H3.out.with_ (i := 1) rfl x (.slice XA x.k.length xc) HXO.out (HXK.out.below H3.out.below) (by show O.acts.length < _; omega) (by show O.starts < _; omega)
                  rw [f1, doV_eq] at hwt
                  refine hwt.mono ?_
                  rintro e2 W52 ⟨rfl, h52⟩
                  clear hwt
                  have H52 : Hid (Also w W52 [(g1, twin O 0 ks), (g2, P)] [(w.heap.size, .cells #[.slice A0 la.length ca, .slice (some ⟨b, off, none⟩) lb.length cb] 23), (w.heap.size + 1, .cells #[.int .u8 n, .int .u8 m] 51), (wr.heap.size, .cells #[.int .u8 x.what, .int .i64 x.i, .int .i64 x.n, .string x.s, .slice XA x.k.length xc] 35)]) := h52
                  clear h52 H3
                  have hxb : Blk W52 wr.heap.size 35 [.int .u8 x.what, .int .i64 x.i, .int .i64 x.n, .string x.s, .slice XA x.k.length xc] := H52.out.at_ (j := 2) rfl
                  have c52_0 := hxb.cell 0
                  have c52_1 := hxb.cell 1
                  have c52_2 := hxb.cell 2
                  have c52_3 := hxb.cell 3
                  have c52_4 := hxb.cell 4
                  simp only [List.getElem?_cons_zero, List.getElem?_cons_succ] at c52_0 c52_1 c52_2 c52_3 c52_4
                  clear hxb
                  go_wp2_with fail
                  have hwt := H52.out.with_ (i := 0) rfl x (.slice XA x.k.length xc) HXO.out (HXK.out.below H52.out.below) (by show O.acts.length < _; omega) (by show O.starts < _; omega)
                  rw [f6, doV_eq] at hwt
                  refine hwt.mono ?_
                  rintro e2 W53 ⟨rfl, h53⟩
                  clear hwt
                  have H53 : Hid (Also w W53 [(g1, A), (g2, P)] [(w.heap.size, .cells #[.slice A0 la.length ca, .slice (some ⟨b, off, none⟩) lb.length cb] 23), (w.heap.size + 1, .cells #[.int .u8 n, .int .u8 m] 51), (wr.heap.size, .cells #[.int .u8 x.what, .int .i64 x.i, .int .i64 x.n, .string x.s, .slice XA x.k.length xc] 35)]) := h53
                  clear h53 H52
                  have hxb : Blk W53 wr.heap.size 35 [.int .u8 x.what, .int .i64 x.i, .int .i64 x.n, .string x.s, .slice XA x.k.length xc] := H53.out.at_ (j := 2) rfl
                  have c53_0 := hxb.cell 0
                  have c53_1 := hxb.cell 1
                  have c53_2 := hxb.cell 2
                  have c53_3 := hxb.cell 3
                  have c53_4 := hxb.cell 4
                  simp only [List.getElem?_cons_zero, List.getElem?_cons_succ] at c53_0 c53_1 c53_2 c53_3 c53_4
                  clear hxb
                  go_wp2_with fail
                  refine (H53.out.holds.up (i := 0) rfl).mono ?_
                  rintro e W54 ⟨rfl, rfl⟩
                  rw [a4]
                  go_wp2_with fail
                  refine (H53.out.crash (i := 1) rfl (.slice KA ks.length kc) ks (fun gs hgs _ => (HK.out.below H53.out.below).reads hgs) (by omega)).mono ?_
                  rintro e W55 ⟨rfl, h55⟩
                  rw [a2] at h55
                  have H55 : Hid (Also w W55 [(g1, A), (g2, B)] [(w.heap.size, .cells #[.slice A0 la.length ca, .slice (some ⟨b, off, none⟩) lb.length cb] 23), (w.heap.size + 1, .cells #[.int .u8 n, .int .u8 m] 51), (wr.heap.size, .cells #[.int .u8 x.what, .int .i64 x.i, .int .i64 x.n, .string x.s, .slice XA x.k.length xc] 35)]) := h55
                  clear h55 H53
                  rw [a3]
                  go_wp2_with fail
                  refine (H55.out.states (i := 0) rfl).mono ?_
                  rintro e W56 ⟨l_a, c_a, o_a, rfl, x56, hb56, h56⟩
                  have H56 : Hid (Also w W56 [(g1, A), (g2, B)] [(w.heap.size, .cells #[.slice A0 la.length ca, .slice (some ⟨b, off, none⟩) lb.length cb] 23), (w.heap.size + 1, .cells #[.int .u8 n, .int .u8 m] 51), (wr.heap.size, .cells #[.int .u8 x.what, .int .i64 x.i, .int .i64 x.n, .string x.s, .slice XA x.k.length xc] 35), (l_a, o_a)]) := h56
                  clear h56 H55 hb56
                  have X_a := Lib.hid x56
                  clear x56
                  go_wp2_with fail
                  refine (H56.out.states (i := 1) rfl).mono ?_
                  rintro e W57 ⟨l_b, c_b, o_b, rfl, x57, hb57, h57⟩
                  have H57 : Hid (Also w W57 [(g1, A), (g2, B)] [(w.heap.size, .cells #[.slice A0 la.length ca, .slice (some ⟨b, off, none⟩) lb.length cb] 23), (w.heap.size + 1, .cells #[.int .u8 n, .int .u8 m] 51), (wr.heap.size, .cells #[.int .u8 x.what, .int .i64 x.i, .int .i64 x.n, .string x.s, .slice XA x.k.length xc] 35), (l_a, o_a), (l_b, o_b)]) := h57
                  clear h57 H56 hb57
                  have X_b := Lib.hid x57
                  clear x57
                  go_wp2_with fail
                  refine (ints_any _ _ _ (stList A) (stList B) (X_a.out _ (H57.out.at_ (j := 3) rfl)) (X_b.out _ (H57.out.at_ (j := 4) rfl))).mono ?_
                  rintro e W58 ⟨rfl, hb58⟩
                  have h58 := H57.out.after hb58
                  have H58 : Hid (Also w W58 [(g1, A), (g2, B)] [(w.heap.size, .cells #[.slice A0 la.length ca, .slice (some ⟨b, off, none⟩) lb.length cb] 23), (w.heap.size + 1, .cells #[.int .u8 n, .int .u8 m] 51), (wr.heap.size, .cells #[.int .u8 x.what, .int .i64 x.i, .int .i64 x.n, .string x.s, .slice XA x.k.length xc] 35), (l_a, o_a), (l_b, o_b)]) := h58
                  clear h58 H57 hb58
                  have q58 : decide (stList A = stList B) = true := decide_eq_true (a5)
                  rw [q58]
                  clear q58
                  go_wp2_with fail
                  refine (H58.out.start (i := 0) rfl (by rw [a6]; omega)).mono ?_
                  rintro e W59 ⟨rfl, h59⟩
                  rw [a8] at h59
                  have H59 : Hid (Also w W59 [(g1, S), (g2, B)] [(w.heap.size, .cells #[.slice A0 la.length ca, .slice (some ⟨b, off, none⟩) lb.length cb] 23), (w.heap.size + 1, .cells #[.int .u8 n, .int .u8 m] 51), (wr.heap.size, .cells #[.int .u8 x.what, .int .i64 x.i, .int .i64 x.n, .string x.s, .slice XA x.k.length xc] 35), (l_a, o_a), (l_b, o_b)]) := h59
                  clear h59 H58
                  rw [a8]
                  go_wp2_with fail
                  refine (H59.out.start (i := 1) rfl (by rw [a7]; omega)).mono ?_
                  rintro e W60 ⟨rfl, h60⟩
                  rw [a9] at h60
                  have H60 : Hid (Also w W60 [(g1, S), (g2, T)] [(w.heap.size, .cells #[.slice A0 la.length ca, .slice (some ⟨b, off, none⟩) lb.length cb] 23), (w.heap.size + 1, .cells #[.int .u8 n, .int .u8 m] 51), (wr.heap.size, .cells #[.int .u8 x.what, .int .i64 x.i, .int .i64 x.n, .string x.s, .slice XA x.k.length xc] 35), (l_a, o_a), (l_b, o_b)]) := h60
                  clear h60 H59
                  rw [a9]
                  go_wp2_with fail
                  refine (H60.out.all (i := 0) rfl).mono ?_
                  rintro e W61 ⟨l_c, c_c, o_c, rfl, x61, hb61, h61⟩
                  have H61 : Hid (Also w W61 [(g1, S), (g2, T)] [(w.heap.size, .cells #[.slice A0 la.length ca, .slice (some ⟨b, off, none⟩) lb.length cb] 23), (w.heap.size + 1, .cells #[.int .u8 n, .int .u8 m] 51), (wr.heap.size, .cells #[.int .u8 x.what, .int .i64 x.i, .int .i64 x.n, .string x.s, .slice XA x.k.length xc] 35), (l_a, o_a), (l_b, o_b), (l_c, o_c)]) := h61
                  clear h61 H60 hb61
                  have X_c := Lib.hid x61
                  clear x61
                  go_wp2_with fail
                  refine (H61.out.all (i := 1) rfl).mono ?_
                  rintro e W62 ⟨l_d, c_d, o_d, rfl, x62, hb62, h62⟩
                  have H62 : Hid (Also w W62 [(g1, S), (g2, T)] [(w.heap.size, .cells #[.slice A0 la.length ca, .slice (some ⟨b, off, none⟩) lb.length cb] 23), (w.heap.size + 1, .cells #[.int .u8 n, .int .u8 m] 51), (wr.heap.size, .cells #[.int .u8 x.what, .int .i64 x.i, .int .i64 x.n, .string x.s, .slice XA x.k.length xc] 35), (l_a, o_a), (l_b, o_b), (l_c, o_c), (l_d, o_d)]) := h62
                  clear h62 H61 hb62
                  have X_d := Lib.hid x62
                  clear x62
                  go_wp2_with fail
                  refine (texts_any _ _ _ (txList S) (txList T) (X_c.out _ (H62.out.at_ (j := 5) rfl)) (X_d.out _ (H62.out.at_ (j := 6) rfl))).mono ?_
                  rintro e W63 ⟨rfl, hb63⟩
                  have h63 := H62.out.after hb63
                  have H63 : Hid (Also w W63 [(g1, S), (g2, T)] [(w.heap.size, .cells #[.slice A0 la.length ca, .slice (some ⟨b, off, none⟩) lb.length cb] 23), (w.heap.size + 1, .cells #[.int .u8 n, .int .u8 m] 51), (wr.heap.size, .cells #[.int .u8 x.what, .int .i64 x.i, .int .i64 x.n, .string x.s, .slice XA x.k.length xc] 35), (l_a, o_a), (l_b, o_b), (l_c, o_c), (l_d, o_d)]) := h63
                  clear h63 H62 hb63
                  have q63 : decide (txList S = txList T) = true := decide_eq_true (a10)
                  rw [q63]
                  clear q63
                  go_wp2_with fail
                  refine (does_any _).mono ?_
                  rintro e W64 ⟨rfl, hb64⟩
                  have h64 := H63.out.after hb64
                  have H64 : Hid (Also w W64 [(g1, S), (g2, T)] [(w.heap.size, .cells #[.slice A0 la.length ca, .slice (some ⟨b, off, none⟩) lb.length cb] 23), (w.heap.size + 1, .cells #[.int .u8 n, .int .u8 m] 51), (wr.heap.size, .cells #[.int .u8 x.what, .int .i64 x.i, .int .i64 x.n, .string x.s, .slice XA x.k.length xc] 35), (l_a, o_a), (l_b, o_b), (l_c, o_c), (l_d, o_d)]) := h64
                  clear h64 H63 hb64
                  go_wp2_with fail
                  go_ret
                  exact ⟨rfl, H64.out.below⟩
              · have hLp : (0 : Int) < (L : Int) := by omega
                as_aux_lemma =>
                  have hLne : ((L : Int) == 0) = false := by rw [beq_eq_false_iff_ne]; omega
                  obtain ⟨M, hM⟩ : ∃ M : Nat, (L : Int) - 1 = M := ⟨L - 1, by omega⟩
                  have f7 := f7 (by omega)
                  rw [hM] at f7
                  clear f6
                  have H3 : Hid (Also w (wr.alloc (.cells #[.int .u8 x.what, .int .i64 x.i, .int .i64 x.n, .string x.s, .slice XA x.k.length xc] 35)) [(g1, twin O L ks), (g2, O)] [(w.heap.size, .cells #[.slice A0 la.length ca, .slice (some ⟨b, off, none⟩) lb.length cb] 23), (w.heap.size + 1, .cells #[.int .u8 n, .int .u8 m] 51), (wr.heap.size, .cells #[.int .u8 x.what, .int .i64 x.i, .int .i64 x.n, .string x.s, .slice XA x.k.length xc] 35)]) := H2
                  clear H2
                  go_wp2_with fail
                  refine (H3.out.holds.state (i := 1) rfl x.i hin0 hin1).mono ?_
                  rintro e W51 ⟨rfl, rfl⟩
                  go_wp2_with fail
                  have hwt := H3.out.with_ (i := 1) rfl x (.slice XA x.k.length xc) HXO.out (HXK.out.below H3.out.below) (by show O.acts.length < _; omega) (by show O.starts < _; omega)
                  rw [f1, doV_eq] at hwt
                  refine hwt.mono ?_
                  rintro e2 W52 ⟨rfl, h52⟩
                  clear hwt
                  have H52 : Hid (Also w W52 [(g1, twin O L ks), (g2, P)] [(w.heap.size, .cells #[.slice A0 la.length ca, .slice (some ⟨b, off, none⟩) lb.length cb] 23), (w.heap.size + 1, .cells #[.int .u8 n, .int .u8 m] 51), (wr.heap.size, .cells #[.int .u8 x.what, .int .i64 x.i, .int .i64 x.n, .string x.s, .slice XA x.k.length xc] 35)]) := h52
                  clear h52 H3
                  have hxb : Blk W52 wr.heap.size 35 [.int .u8 x.what, .int .i64 x.i, .int .i64 x.n, .string x.s, .slice XA x.k.length xc] := H52.out.at_ (j := 2) rfl
                  have c52_0 := hxb.cell 0
                  have c52_1 := hxb.cell 1
                  have c52_2 := hxb.cell 2
                  have c52_3 := hxb.cell 3
                  have c52_4 := hxb.cell 4
                  simp only [List.getElem?_cons_zero, List.getElem?_cons_succ] at c52_0 c52_1 c52_2 c52_3 c52_4
                  clear hxb
                  go_wp2_with fail
                  have hwt := H52.out.with_ (i := 0) rfl x (.slice XA x.k.length xc) HXO.out (HXK.out.below H52.out.below) (by show O.acts.length < _; omega) (by show O.starts < _; omega)
                  rw [f7, doV_eq] at hwt
                  refine hwt.mono ?_
                  rintro e2 W53 ⟨rfl, h53⟩
                  clear hwt
                  have H53 : Hid (Also w W53 [(g1, twin P M ks), (g2, P)] [(w.heap.size, .cells #[.slice A0 la.length ca, .slice (some ⟨b, off, none⟩) lb.length cb] 23), (w.heap.size + 1, .cells #[.int .u8 n, .int .u8 m] 51), (wr.heap.size, .cells #[.int .u8 x.what, .int .i64 x.i, .int .i64 x.n, .string x.s, .slice XA x.k.length xc] 35)]) := h53
                  clear h53 H52
                  have hxb : Blk W53 wr.heap.size 35 [.int .u8 x.what, .int .i64 x.i, .int .i64 x.n, .string x.s, .slice XA x.k.length xc] := H53.out.at_ (j := 2) rfl
                  have c53_0 := hxb.cell 0
                  have c53_1 := hxb.cell 1
                  have c53_2 := hxb.cell 2
                  have c53_3 := hxb.cell 3
                  have c53_4 := hxb.cell 4
                  simp only [List.getElem?_cons_zero, List.getElem?_cons_succ] at c53_0 c53_1 c53_2 c53_3 c53_4
                  clear hxb
                  go_wp2_with fail
                  go_roundw
                  case rel => exact ⟨k + 1, P, M, by omega, by go_num, by go_num, by omega, by omega, by omega, ⟨f2, f3⟩, Also.pop (bs := [(w.heap.size, .cells #[.slice A0 la.length ca, .slice (some ⟨b, off, none⟩) lb.length cb] 23), (w.heap.size + 1, .cells #[.int .u8 n, .int .u8 m] 51)]) H53.out⟩
                  case measure => simp [intOf]; omega
      · obtain rfl : k = lb.length := by omega
        as_aux_lemma =>
          have H4 : Hid (Also w wr [(g1, twin O L ks), (g2, O)] [(w.heap.size, .cells #[.slice A0 la.length ca, .slice B0 lb.length cb] 23), (w.heap.size + 1, .cells #[.int .u8 n, .int .u8 m] 51)]) := hd
          clear hd
          have ho2 : (twin O L ks).off = false := hO.out.2
          have p1 : stList (twin O L ks) = stList O := stList_congr rfl
          have p2 : txList (twin O L ks) = txList O := txList_congr rfl rfl
          go_wp2_with fail
          refine (H4.out.holds.up (i := 0) rfl).mono ?_
          rintro e W41 ⟨rfl, rfl⟩
          rw [ho2]
          go_wp2_with fail
          refine (H4.out.states (i := 0) rfl).mono ?_
          rintro e W42 ⟨l_a, c_a, o_a, rfl, x42, hb42, h42⟩
          have H42 : Hid (Also w W42 [(g1, twin O L ks), (g2, O)] [(w.heap.size, .cells #[.slice A0 la.length ca, .slice B0 lb.length cb] 23), (w.heap.size + 1, .cells #[.int .u8 n, .int .u8 m] 51), (l_a, o_a)]) := h42
          clear h42 H4 hb42
          have X_a := Lib.hid x42
          clear x42
          go_wp2_with fail
          refine (H42.out.states (i := 1) rfl).mono ?_
          rintro e W43 ⟨l_b, c_b, o_b, rfl, x43, hb43, h43⟩
          have H43 : Hid (Also w W43 [(g1, twin O L ks), (g2, O)] [(w.heap.size, .cells #[.slice A0 la.length ca, .slice B0 lb.length cb] 23), (w.heap.size + 1, .cells #[.int .u8 n, .int .u8 m] 51), (l_a, o_a), (l_b, o_b)]) := h43
          clear h43 H42 hb43
          have X_b := Lib.hid x43
          clear x43
          go_wp2_with fail
          refine (ints_any _ _ _ (stList (twin O L ks)) (stList O) (X_a.out _ (H43.out.at_ (j := 2) rfl)) (X_b.out _ (H43.out.at_ (j := 3) rfl))).mono ?_
          rintro e W44 ⟨rfl, hb44⟩
          have h44 := H43.out.after hb44
          have H44 : Hid (Also w W44 [(g1, twin O L ks), (g2, O)] [(w.heap.size, .cells #[.slice A0 la.length ca, .slice B0 lb.length cb] 23), (w.heap.size + 1, .cells #[.int .u8 n, .int .u8 m] 51), (l_a, o_a), (l_b, o_b)]) := h44
          clear h44 H43 hb44
          have q44 : decide (stList (twin O L ks) = stList O) = true := decide_eq_true (p1)
          rw [q44]
          clear q44
          go_wp2_with fail
          refine (H44.out.all (i := 0) rfl).mono ?_
          rintro e W45 ⟨l_c, c_c, o_c, rfl, x45, hb45, h45⟩
          have H45 : Hid (Also w W45 [(g1, twin O L ks), (g2, O)] [(w.heap.size, .cells #[.slice A0 la.length ca, .slice B0 lb.length cb] 23), (w.heap.size + 1, .cells #[.int .u8 n, .int .u8 m] 51), (l_a, o_a), (l_b, o_b), (l_c, o_c)]) := h45
          clear h45 H44 hb45
          have X_c := Lib.hid x45
          clear x45
          go_wp2_with fail
          refine (H45.out.all (i := 1) rfl).mono ?_
          rintro e W46 ⟨l_d, c_d, o_d, rfl, x46, hb46, h46⟩
          have H46 : Hid (Also w W46 [(g1, twin O L ks), (g2, O)] [(w.heap.size, .cells #[.slice A0 la.length ca, .slice B0 lb.length cb] 23), (w.heap.size + 1, .cells #[.int .u8 n, .int .u8 m] 51), (l_a, o_a), (l_b, o_b), (l_c, o_c), (l_d, o_d)]) := h46
          clear h46 H45 hb46
          have X_d := Lib.hid x46
          clear x46
          go_wp2_with fail
          refine (texts_any _ _ _ (txList (twin O L ks)) (txList O) (X_c.out _ (H46.out.at_ (j := 4) rfl)) (X_d.out _ (H46.out.at_ (j := 5) rfl))).mono ?_
          rintro e W47 ⟨rfl, hb47⟩
          have h47 := H46.out.after hb47
          have H47 : Hid (Also w W47 [(g1, twin O L ks), (g2, O)] [(w.heap.size, .cells #[.slice A0 la.length ca, .slice B0 lb.length cb] 23), (w.heap.size + 1, .cells #[.int .u8 n, .int .u8 m] 51), (l_a, o_a), (l_b, o_b), (l_c, o_c), (l_d, o_d)]) := h47
          clear h47 H46 hb47
          have q47 : decide (txList (twin O L ks) = txList O) = true := decide_eq_true (p2)
          rw [q47]
          clear q47
          go_wp2_with fail
          refine (H47.out.holds.pending (i := 0) rfl).mono ?_
          rintro e W48 ⟨rfl, rfl⟩
          rw [show (twin O L ks).acts.length = O.acts.length from rfl]
          go_wp2_with fail
          refine (H47.out.holds.pending (i := 1) rfl).mono ?_
          rintro e W49 ⟨rfl, rfl⟩
          go_wp2_with fail
          refine (does_any _).mono ?_
          rintro e W50 ⟨rfl, hb50⟩
          have h50 := H47.out.after hb50
          have H50 : Hid (Also w W50 [(g1, twin O L ks), (g2, O)] [(w.heap.size, .cells #[.slice A0 la.length ca, .slice B0 lb.length cb] 23), (w.heap.size + 1, .cells #[.int .u8 n, .int .u8 m] 51), (l_a, o_a), (l_b, o_b), (l_c, o_c), (l_d, o_d)]) := h50
          clear h50 H47 hb50
          go_wp2_with fail
          go_ret
          exact ⟨rfl, H50.out.below⟩
end Go.Proofs.Ytfmhfgkmoeimeaa
