/- Walks: DeviceAlone. -/
import Derived.Test.YtfmhfgkmoeimeaaW20
import Derived.Test.YtfmhfgkmoeimeaaW21
import Derived.Test.YtfmhfgkmoeimeaaP2
namespace Go.Proofs.Ytfmhfgkmoeimeaa
open Go.RowKit

set_option maxHeartbeats 8000000 in
set_option maxRecDepth 100000 in
theorem alone_any (w : World) (n : Nat) (hn : n < 256) (v u : Value) (l m : List PDo) (h : DosAt w w.heap.size v l) (hh : DosAt w w.heap.size u m) :
    Calls Try.prog 12 #[.int .u8 n, v, u] w fun e w' => e = .returned (.bool true) ∧ Below w.heap.size w w' := by
  have hmuch := much_any w w.heap.size v l 60 h (by omega)
  have hmuch2 := much_any w w.heap.size u m 20 hh (by omega)
  obtain ⟨A0, c, rfl, hlc, hin, _⟩ := id h
  obtain ⟨B0, c2, rfl, hlc2, hin2, _⟩ := id hh
  cases hmf : muchF l 60 with
  | true =>
    rw [hmf] at hmuch
    clear hmf h hin hmuch2 hh hin2
    go_enter Try.func12, Try.ntmps12
    go_wp2_with (go_at_call 14; refine hmuch.mono ?_; rintro e w1 ⟨rfl, rfl⟩)
    go_ret
    exact ⟨rfl, Below.refl _ _⟩
  | false =>
  cases hmg : muchF m 20 with
  | true =>
    rw [hmf] at hmuch
    rw [hmg] at hmuch2
    clear hmf hmg h hin hh hin2
    go_enter Try.func12, Try.ntmps12
    go_wp2_with fail
    refine hmuch.mono ?_
    rintro e w1 ⟨rfl, rfl⟩
    go_wp2_with fail
    refine hmuch2.mono ?_
    rintro e w1 ⟨rfl, rfl⟩
    go_wp2_with fail
    go_ret
    exact ⟨rfl, Below.refl _ _⟩
  | false =>
  rw [hmf] at hmuch
  rw [hmg] at hmuch2
  obtain ⟨hl, hxs⟩ := much_ok hmf hin
  obtain ⟨hm, hys⟩ := much_ok hmg hin2
  obtain ⟨D, hD⟩ : ∃ D, D = afterF n l := ⟨_, rfl⟩
  have hsm := after_small n l
  have hon := after_on n l
  have HA := Lib.hid (fun (ds : List (Nat × Dev)) (bs : List (Nat × Obj)) (W : World) (h1 : Also w W ds bs) => h1.after_ n hn _ l (by omega) ((h.below h1.below).up h1.below.size) hxs)
  rw [← hD] at hsm HA hon
  have HH := Lib.hid hh
  have HYS := Lib.hid hys
  have HSM := Lib.hid hsm
  have ho0 : D.on = 0 := by unfold Dev.on; rw [hon]; rfl
  have hcr : (D.crash []).now = D.sure := by unfold Dev.crash; rw [hon]; exact tear_none _ _
  obtain ⟨C, hC⟩ : ∃ C, C = D.clone := ⟨_, rfl⟩
  have hC1 : C.off = false := by rw [hC]; rfl
  have hC2 : C.acts.length = 0 := by rw [hC]; rfl
  have hC3 : C.starts = 0 := by rw [hC]; rfl
  have hC4 : C.now.length = D.sure.length := by rw [hC]; rfl
  have hK : stList (D.crash []) = stList C := stList_congr (by rw [hC]; exact hcr)
  have K1 := Lib.hid hC1
  have K2 := Lib.hid hC2
  have K3 := Lib.hid hC3
  have K4 := Lib.hid hC4
  have K5 := Lib.hid hK
  have KC := Lib.hid hC
  have K0 := Lib.hid ho0
  clear hC1 hC2 hC3 hC4 hC hK ho0 hcr hon hsm hD h hh hxs hys hmf hmg hin hin2
  have H0 : Hid (Also w w [] []) := Also.of (Holds.none_ w)
  go_enter Try.func12, Try.ntmps12
  go_wp2_with fail
  refine hmuch.mono ?_
  rintro e w1 ⟨rfl, rfl⟩
  go_wp2_with fail
  refine hmuch2.mono ?_
  rintro e w1 ⟨rfl, rfl⟩
  clear hmuch hmuch2
  go_wp2_with fail
  refine (HA.out _ _ _ H0.out).mono ?_
  rintro e W1 ⟨g1, rfl, h1⟩
  have H1 : Hid (Also w W1 [(g1, D)] []) := h1
  clear h1 H0
  go_wp2_with fail
  refine (HA.out _ _ _ H1.out).mono ?_
  rintro e W2 ⟨g2, rfl, h2⟩
  have H2 : Hid (Also w W2 [(g1, D), (g2, D)] []) := h2
  clear h2 H1
  clear HA
  go_wp2_with fail
  refine (H2.out.clone_ (i := 0) rfl).mono ?_
  rintro e W3 ⟨g3, rfl, h3⟩
  have H3 : Hid (Also w W3 [(g1, D), (g2, D), (g3, D.clone)] []) := h3
  clear h3 H2
  rw [← KC.out] at H3
  go_wp2_with fail
  refine (H3.out.holds.up (i := 2) rfl).mono ?_
  rintro e W4 ⟨rfl, rfl⟩
  rw [K1.out]
  go_wp2_with fail
  refine (H3.out.holds.pending (i := 2) rfl).mono ?_
  rintro e W5 ⟨rfl, rfl⟩
  rw [K2.out]
  go_wp2_with fail
  refine (H3.out.holds.starts (i := 2) rfl).mono ?_
  rintro e W6 ⟨rfl, rfl⟩
  rw [K3.out]
  go_wp2_with fail
  refine (H3.out.holds.len (i := 2) rfl).mono ?_
  rintro e W7 ⟨rfl, rfl⟩
  have hln : (C.now.length : Int) = D.now.length := by rw [K4.out, (H3.out.holds.ok (i := 0) rfl).len]
  rw [hln]
  clear hln
  go_wp2_with fail
  refine (H3.out.holds.len (i := 0) rfl).mono ?_
  rintro e W8 ⟨rfl, rfl⟩
  go_wp2_with fail
  refine (H3.out.states (i := 2) rfl).mono ?_
  rintro e W9 ⟨l_a, c_a, o_a, rfl, x9, hb9, h9⟩
  have H9 : Hid (Also w W9 [(g1, D), (g2, D), (g3, C)] [(l_a, o_a)]) := h9
  clear h9 H3 hb9
  have X_a := Lib.hid x9
  clear x9
  go_wp2_with fail
  refine (H9.out.all (i := 2) rfl).mono ?_
  rintro e W10 ⟨l_b, c_b, o_b, rfl, x10, hb10, h10⟩
  have H10 : Hid (Also w W10 [(g1, D), (g2, D), (g3, C)] [(l_a, o_a), (l_b, o_b)]) := h10
  clear h10 H9 hb10
  have X_b := Lib.hid x10
  clear x10
  have hln : (C.now.length : Int) = D.now.length := by rw [K4.out, (H10.out.holds.ok (i := 0) rfl).len]
  go_wp2_with fail
  go_loopw [12] (fun i wr => ∃ (k : Nat) (E : Dev), k ≤ m.length ∧ i = .int .i64 k ∧ E.acts.length ≤ 100 + k ∧ E.starts ≤ 100 + k ∧ Hid (Also w wr [(g1, D), (g2, D), (g3, E)] [(l_a, o_a), (l_b, o_b)])) (fun i _ => m.length - (intOf i).toNat)
  case atStart => exact ⟨0, C, by omega, rfl, by have := HSM.out.1; have := K2.out; omega, by have := HSM.out.2; have := K3.out; omega, H10⟩
  case round =>
    obtain ⟨k, E, hk, rfl, hac, hst, hd⟩ := hrel
    clear H10
    by_cases hlt : k < m.length
    · obtain ⟨b, off, kv, rfl, z0, z1, z2, z3, z4, hks⟩ := HH.out.round hd.out.below hlt
      obtain ⟨x, hx⟩ : ∃ x, m[k] = x := ⟨_, rfl⟩
      rw [hx] at z0 z1 z2 z3 hks
      have hxok : x.OK := HYS.out x (by rw [← hx]; exact List.getElem_mem hlt)
      have hwt := hd.out.with_ (i := 2) rfl x kv hxok hks (by omega) (by omega)
      unfold doV at hwt
      have hgrow := withF_grow E x
      have HG := Lib.hid hgrow
      have HWT := Lib.hid hwt
      obtain ⟨KA, kc, rfl, _⟩ := hks
      clear hx hwt hxok hgrow
      go_wp2_with (go_at_call 19; refine HWT.out.mono ?_; rintro e w2 ⟨rfl, h2⟩; have H2 := Lib.hid h2; clear h2)
      go_roundw
      case rel => exact ⟨k + 1, (withF E x).1, by omega, by go_num, by have := HG.out.1; omega, by have := HG.out.2; omega, H2.out⟩
      case measure => simp [intOf]; omega
    · obtain rfl : k = m.length := by omega
      have h11 := hd.out
      have H11 : Hid (Also w wr [(g1, D), (g2, D), (g3, E)] [(l_a, o_a), (l_b, o_b)]) := h11
      clear h11 hd hlt
      go_wp2_with fail
      refine (H11.out.states (i := 0) rfl).mono ?_
      rintro e W12 ⟨l_c, c_c, o_c, rfl, x12, hb12, h12⟩
      have H12 : Hid (Also w W12 [(g1, D), (g2, D), (g3, E)] [(l_a, o_a), (l_b, o_b), (l_c, o_c)]) := h12
      clear h12 H11 hb12
      have X_c := Lib.hid x12
      clear x12
      go_wp2_with fail
      refine (H12.out.states (i := 1) rfl).mono ?_
      rintro e W13 ⟨l_d, c_d, o_d, rfl, x13, hb13, h13⟩
      have H13 : Hid (Also w W13 [(g1, D), (g2, D), (g3, E)] [(l_a, o_a), (l_b, o_b), (l_c, o_c), (l_d, o_d)]) := h13
      clear h13 H12 hb13
      have X_d := Lib.hid x13
      clear x13
      go_wp2_with fail
      refine (ints_any _ _ _ (stList D) (stList D) (X_c.out _ (H13.out.at_ (j := 2) rfl)) (X_d.out _ (H13.out.at_ (j := 3) rfl))).mono ?_
      rintro e W14 ⟨rfl, hb14⟩
      have h14 := H13.out.after hb14
      have H14 : Hid (Also w W14 [(g1, D), (g2, D), (g3, E)] [(l_a, o_a), (l_b, o_b), (l_c, o_c), (l_d, o_d)]) := h14
      clear h14 H13 hb14
      have q14 : decide (stList D = stList D) = true := decide_eq_true (rfl)
      rw [q14]
      clear q14
      go_wp2_with fail
      refine (H14.out.all (i := 0) rfl).mono ?_
      rintro e W15 ⟨l_e, c_e, o_e, rfl, x15, hb15, h15⟩
      have H15 : Hid (Also w W15 [(g1, D), (g2, D), (g3, E)] [(l_a, o_a), (l_b, o_b), (l_c, o_c), (l_d, o_d), (l_e, o_e)]) := h15
      clear h15 H14 hb15
      have X_e := Lib.hid x15
      clear x15
      go_wp2_with fail
      refine (H15.out.all (i := 1) rfl).mono ?_
      rintro e W16 ⟨l_f, c_f, o_f, rfl, x16, hb16, h16⟩
      have H16 : Hid (Also w W16 [(g1, D), (g2, D), (g3, E)] [(l_a, o_a), (l_b, o_b), (l_c, o_c), (l_d, o_d), (l_e, o_e), (l_f, o_f)]) := h16
      clear h16 H15 hb16
      have X_f := Lib.hid x16
      clear x16
      go_wp2_with fail
      refine (texts_any _ _ _ (txList D) (txList D) (X_e.out _ (H16.out.at_ (j := 4) rfl)) (X_f.out _ (H16.out.at_ (j := 5) rfl))).mono ?_
      rintro e W17 ⟨rfl, hb17⟩
      have h17 := H16.out.after hb17
      have H17 : Hid (Also w W17 [(g1, D), (g2, D), (g3, E)] [(l_a, o_a), (l_b, o_b), (l_c, o_c), (l_d, o_d), (l_e, o_e), (l_f, o_f)]) := h17
      clear h17 H16 hb17
      have q17 : decide (txList D = txList D) = true := decide_eq_true (rfl)
      rw [q17]
      clear q17
      go_wp2_with fail
      refine (H17.out.holds.pending (i := 0) rfl).mono ?_
      rintro e W18 ⟨rfl, rfl⟩
      go_wp2_with fail
      refine (H17.out.holds.pending (i := 1) rfl).mono ?_
      rintro e W19 ⟨rfl, rfl⟩
      go_wp2_with fail
      refine (H17.out.clone_ (i := 0) rfl).mono ?_
      rintro e W20 ⟨g4, rfl, h20⟩
      have H20 : Hid (Also w W20 [(g1, D), (g2, D), (g3, E), (g4, D.clone)] [(l_a, o_a), (l_b, o_b), (l_c, o_c), (l_d, o_d), (l_e, o_e), (l_f, o_f)]) := h20
      clear h20 H17
      rw [← KC.out] at H20
      clear hac hst
      go_wp2_with fail
      go_loopw [14] (fun i wr => ∃ (k : Nat) (F : Dev), k ≤ m.length ∧ i = .int .i64 k ∧ F.acts.length ≤ 100 + k ∧ F.starts ≤ 100 + k ∧ Hid (Also w wr [(g1, F), (g2, D), (g3, E), (g4, C)] [(l_a, o_a), (l_b, o_b), (l_c, o_c), (l_d, o_d), (l_e, o_e), (l_f, o_f)])) (fun i _ => m.length - (intOf i).toNat)
      case atStart => exact ⟨0, D, by omega, rfl, by have := HSM.out.1; omega, by have := HSM.out.2; omega, H20⟩
      case round =>
        obtain ⟨k, F, hk, rfl, hac, hst, hd⟩ := hrel
        clear H20
        by_cases hlt : k < m.length
        · obtain ⟨b, off, kv, rfl, z0, z1, z2, z3, z4, hks⟩ := HH.out.round hd.out.below hlt
          obtain ⟨x, hx⟩ : ∃ x, m[k] = x := ⟨_, rfl⟩
          rw [hx] at z0 z1 z2 z3 hks
          have hxok : x.OK := HYS.out x (by rw [← hx]; exact List.getElem_mem hlt)
          have hwt := hd.out.with_ (i := 0) rfl x kv hxok hks (by omega) (by omega)
          unfold doV at hwt
          have hgrow := withF_grow F x
          have HG := Lib.hid hgrow
          have HWT := Lib.hid hwt
          obtain ⟨KA, kc, rfl, _⟩ := hks
          clear hx hwt hxok hgrow
          go_wp2_with (go_at_call 19; refine HWT.out.mono ?_; rintro e w2 ⟨rfl, h2⟩; have H2 := Lib.hid h2; clear h2)
          go_roundw
          case rel => exact ⟨k + 1, (withF F x).1, by omega, by go_num, by have := HG.out.1; omega, by have := HG.out.2; omega, H2.out⟩
          case measure => simp [intOf]; omega
        · obtain rfl : k = m.length := by omega
          have h21 := hd.out
          have H21 : Hid (Also w wr [(g1, F), (g2, D), (g3, E), (g4, C)] [(l_a, o_a), (l_b, o_b), (l_c, o_c), (l_d, o_d), (l_e, o_e), (l_f, o_f)]) := h21
          clear h21 hd hlt
          go_wp2_with fail
          refine (H21.out.states (i := 3) rfl).mono ?_
          rintro e W22 ⟨l_p, c_p, o_p, rfl, x22, hb22, h22⟩
          have H22 : Hid (Also w W22 [(g1, F), (g2, D), (g3, E), (g4, C)] [(l_a, o_a), (l_b, o_b), (l_c, o_c), (l_d, o_d), (l_e, o_e), (l_f, o_f), (l_p, o_p)]) := h22
          clear h22 H21 hb22
          have X_p := Lib.hid x22
          clear x22
          go_wp2_with fail
          refine (ints_any _ _ _ (stList C) (stList C) (X_p.out _ (H22.out.at_ (j := 6) rfl)) (X_a.out _ (H22.out.at_ (j := 0) rfl))).mono ?_
          rintro e W23 ⟨rfl, hb23⟩
          have h23 := H22.out.after hb23
          have H23 : Hid (Also w W23 [(g1, F), (g2, D), (g3, E), (g4, C)] [(l_a, o_a), (l_b, o_b), (l_c, o_c), (l_d, o_d), (l_e, o_e), (l_f, o_f), (l_p, o_p)]) := h23
          clear h23 H22 hb23
          have q23 : decide (stList C = stList C) = true := decide_eq_true (rfl)
          rw [q23]
          clear q23
          go_wp2_with fail
          refine (H23.out.all (i := 3) rfl).mono ?_
          rintro e W24 ⟨l_q, c_q, o_q, rfl, x24, hb24, h24⟩
          have H24 : Hid (Also w W24 [(g1, F), (g2, D), (g3, E), (g4, C)] [(l_a, o_a), (l_b, o_b), (l_c, o_c), (l_d, o_d), (l_e, o_e), (l_f, o_f), (l_p, o_p), (l_q, o_q)]) := h24
          clear h24 H23 hb24
          have X_q := Lib.hid x24
          clear x24
          go_wp2_with fail
          refine (texts_any _ _ _ (txList C) (txList C) (X_q.out _ (H24.out.at_ (j := 7) rfl)) (X_b.out _ (H24.out.at_ (j := 1) rfl))).mono ?_
          rintro e W25 ⟨rfl, hb25⟩
          have h25 := H24.out.after hb25
          have H25 : Hid (Also w W25 [(g1, F), (g2, D), (g3, E), (g4, C)] [(l_a, o_a), (l_b, o_b), (l_c, o_c), (l_d, o_d), (l_e, o_e), (l_f, o_f), (l_p, o_p), (l_q, o_q)]) := h25
          clear h25 H24 hb25
          have q25 : decide (txList C = txList C) = true := decide_eq_true (rfl)
          rw [q25]
          clear q25
          go_wp2_with fail
          refine (H25.out.crash (i := 1) rfl (.slice none 0 0) [] reads_nil (by decide)).mono ?_
          rintro e W26 ⟨rfl, h26⟩
          have H26 : Hid (Also w W26 [(g1, F), (g2, D.crash []), (g3, E), (g4, C)] [(l_a, o_a), (l_b, o_b), (l_c, o_c), (l_d, o_d), (l_e, o_e), (l_f, o_f), (l_p, o_p), (l_q, o_q)]) := h26
          clear h26 H25
          rw [K0.out]
          go_wp2_with fail
          refine (H26.out.states (i := 1) rfl).mono ?_
          rintro e W27 ⟨l_r, c_r, o_r, rfl, x27, hb27, h27⟩
          have H27 : Hid (Also w W27 [(g1, F), (g2, D.crash []), (g3, E), (g4, C)] [(l_a, o_a), (l_b, o_b), (l_c, o_c), (l_d, o_d), (l_e, o_e), (l_f, o_f), (l_p, o_p), (l_q, o_q), (l_r, o_r)]) := h27
          clear h27 H26 hb27
          have X_r := Lib.hid x27
          clear x27
          go_wp2_with fail
          refine (ints_any _ _ _ (stList (D.crash [])) (stList C) (X_r.out _ (H27.out.at_ (j := 8) rfl)) (X_a.out _ (H27.out.at_ (j := 0) rfl))).mono ?_
          rintro e W28 ⟨rfl, hb28⟩
          have h28 := H27.out.after hb28
          have H28 : Hid (Also w W28 [(g1, F), (g2, D.crash []), (g3, E), (g4, C)] [(l_a, o_a), (l_b, o_b), (l_c, o_c), (l_d, o_d), (l_e, o_e), (l_f, o_f), (l_p, o_p), (l_q, o_q), (l_r, o_r)]) := h28
          clear h28 H27 hb28
          have q28 : decide (stList (D.crash []) = stList C) = true := decide_eq_true (K5.out)
          rw [q28]
          clear q28
          go_wp2_with fail
          refine (does_any _).mono ?_
          rintro e W29 ⟨rfl, hb29⟩
          have h29 := H28.out.after hb29
          have H29 : Hid (Also w W29 [(g1, F), (g2, D.crash []), (g3, E), (g4, C)] [(l_a, o_a), (l_b, o_b), (l_c, o_c), (l_d, o_d), (l_e, o_e), (l_f, o_f), (l_p, o_p), (l_q, o_q), (l_r, o_r)]) := h29
          clear h29 H28 hb29
          go_wp2_with fail
          go_ret
          exact ⟨rfl, H29.out.below⟩
end Go.Proofs.Ytfmhfgkmoeimeaa
