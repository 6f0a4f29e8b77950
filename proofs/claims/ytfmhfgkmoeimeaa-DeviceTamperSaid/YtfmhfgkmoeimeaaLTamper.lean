/- Walks: DeviceTamper. -/
import Derived.Test.YtfmhfgkmoeimeaaW20
import Derived.Test.YtfmhfgkmoeimeaaW21
import Derived.Test.YtfmhfgkmoeimeaaP4
import Derived.Test.YtfmhfgkmoeimeaaX1
import Derived.Test.YtfmhfgkmoeimeaaX3
import Derived.Deep.QuietTactic
import Derived.BigQuiet
namespace Go.Proofs.Ytfmhfgkmoeimeaa
open Go.RowKit

set_option maxHeartbeats 8000000 in
set_option maxRecDepth 100000 in
theorem ltamper_any (w : World) (n : Nat) (hn : n < 256) (v : Value) (x : PDo) (kv : Value) (l : List PDo) (h : DosAt w w.heap.size v l) (hx : x.In) (hk : KsAt w w.heap.size kv x.k) :
    Calls Try.prog 7 #[.int .u8 n, v, doV x kv] w fun e w' => e = .returned (.bool true) ∧ Below w.heap.size w w' := by
  obtain ⟨KA, kc, rfl, _⟩ := id hk
  obtain ⟨wA, hwA⟩ : ∃ wA, wA = w.alloc (.cells #[.int .u8 x.what, .int .i64 x.i, .int .i64 x.n, .string x.s, .slice KA x.k.length kc] 35) := ⟨_, rfl⟩
  have hB : Below w.heap.size w wA := by rw [hwA]; exact (Below.refl _ _).alloc (Nat.le_refl _) _
  have hbx : Blk wA w.heap.size 35 [.int .u8 x.what, .int .i64 x.i, .int .i64 x.n, .string x.s, .slice KA x.k.length kc] := by rw [hwA]; exact Blk.new w 35 _
  have hA2 := h.below hB
  have hmuch := much_any wA w.heap.size v l 60 hA2 (by omega)
  obtain ⟨wB, hwB⟩ : ∃ wB, wB = wA.alloc (.cells #[.int .u8 x.what, .int .i64 x.i, .int .i64 x.n, .string x.s, .slice KA x.k.length kc] 35) := ⟨_, rfl⟩
  have hB2 : Below wA.heap.size wA wB := by rw [hwB]; exact (Below.refl _ _).alloc (Nat.le_refl _) _
  have hone : DosAt wB wB.heap.size (.slice (some ⟨wA.heap.size, 0, none⟩) 1 1) [x] := by
    have hb1 : Blk wB wA.heap.size 35 [.int .u8 x.what, .int .i64 x.i, .int .i64 x.n, .string x.s, .slice KA x.k.length kc] := by rw [hwB]; exact Blk.new wA 35 _
    exact dos_one hb1 hb1.lt hx ((hk.below (hB.trans (hB2.mono hB.size))).up (hB.trans (hB2.mono hB.size)).size)
  have hmuch2 := much_any wB wB.heap.size _ [x] 1 hone (by omega)
  have hsz : wA.heap.size = w.heap.size + 1 := by rw [hwA]; simp
  rw [hsz] at hmuch2
  have c0 := hbx.cell 0
  have c1 := hbx.cell 1
  have c2 := hbx.cell 2
  have c3 := hbx.cell 3
  have c4 := hbx.cell 4
  simp only [List.getElem?_cons_zero, List.getElem?_cons_succ] at c0 c1 c2 c3 c4
  obtain ⟨A0, cc, rfl, hlc, hin, _⟩ := id h
  cases hmf : muchF l 60 with
  | true =>
    rw [hmf] at hmuch
    rw [doV_eq]
    have HB := Lib.hid hB
    clear hmf h hin hmuch2 hk hx hone hbx hA2 hB hsz
    subst hwB
    subst hwA
    go_enter Try.func7, Try.ntmps7
    go_wp2_with fail
    refine hmuch.mono ?_
    rintro e w1 ⟨rfl, rfl⟩
    go_wp2_with fail
    go_ret
    exact ⟨rfl, HB.out⟩
  | false =>
  cases hmg : muchF [x] 1 with
  | true =>
    rw [hmf] at hmuch
    rw [hmg] at hmuch2
    rw [doV_eq]
    have HB := Lib.hid (hB.trans (hB2.mono hB.size))
    clear hmf hmg h hin hk hx hone hbx hA2 hB hB2 hsz
    subst hwB
    subst hwA
    go_enter Try.func7, Try.ntmps7
    go_wp2_with fail
    refine hmuch.mono ?_
    rintro e w1 ⟨rfl, rfl⟩
    go_wp2_with fail
    refine hmuch2.mono ?_
    rintro e w1 ⟨rfl, rfl⟩
    go_wp2_with fail
    go_ret
    exact ⟨rfl, HB.out⟩
  | false =>
  rw [hmf] at hmuch
  rw [hmg] at hmuch2
  obtain ⟨hl, hxs⟩ := much_ok hmf hin
  have hxo : x.OK := (much_ok hmg (by simpa using hx)).2 x (by simp)
  have HXO := Lib.hid hxo
  obtain ⟨D, hD⟩ : ∃ D, D = afterF n l := ⟨_, rfl⟩
  have hsm := after_small n l
  have hon := after_on n l
  have HA := Lib.hid (fun (ds : List (Nat × Dev)) (bs : List (Nat × Obj)) (W : World) (h1 : Also w W ds bs) => h1.after_ n hn _ l (by omega) ((h.below h1.below).up h1.below.size) hxs)
  have hlf := after_left n l
  rw [← hD] at hsm HA hon hlf
  have HK := Lib.hid hk
  have QL := Lib.hid hlf
  have QO := Lib.hid hon
  have QS : Hid (D.starts ≤ 61) := by show D.starts ≤ 61; omega
  have QA : Hid (D.acts.length ≤ 60) := by show D.acts.length ≤ 60; omega
  have hbb := hB2.block _ hbx.lt
  have H0 : Hid (Also w wB [] [(w.heap.size, .cells #[.int .u8 x.what, .int .i64 x.i, .int .i64 x.n, .string x.s, .slice KA x.k.length kc] 35)]) :=
    ((Also.of (Holds.none_ w)).push hB (Nat.le_refl _) hbx).after hB2
  clear hlf hsm hD h hxs hmf hmg hin hx hxo hone hbx hA2 hB hB2 hk hon hbb hsz
  rw [doV_eq]
  subst hwB
  subst hwA
  go_enter Try.func7, Try.ntmps7
  go_wp2_with fail
  refine hmuch.mono ?_
  rintro e w1 ⟨rfl, rfl⟩
  go_wp2_with fail
  refine hmuch2.mono ?_
  rintro e w1 ⟨rfl, rfl⟩
  clear hmuch hmuch2 c0 c1 c2 c3 c4
  go_wp2_with fail
  refine (HA.out _ _ _ H0.out).mono ?_
  rintro e W1 ⟨g1, rfl, h1⟩
  have H1 : Hid (Also w W1 [(g1, D)] [(w.heap.size, .cells #[.int .u8 x.what, .int .i64 x.i, .int .i64 x.n, .string x.s, .slice KA x.k.length kc] 35)]) := h1
  clear h1 H0
  go_wp2_with fail
  refine (HA.out _ _ _ H1.out).mono ?_
  rintro e W2 ⟨g2, rfl, h2⟩
  have H2 : Hid (Also w W2 [(g1, D), (g2, D)] [(w.heap.size, .cells #[.int .u8 x.what, .int .i64 x.i, .int .i64 x.n, .string x.s, .slice KA x.k.length kc] 35)]) := h2
  clear h2 H1
  clear HA
  have hok := H2.out.holds.ok (i := 0) rfl
  have hlen4 : ((D.now.length : Int) == 0) = false := by have := hok.pos; rw [beq_eq_false_iff_ne]; omega
  have HOK := Lib.hid hok
  clear hok
  go_wp2_with fail
  refine (H2.out.holds.len (i := 0) rfl).mono ?_
  rintro e W3 ⟨rfl, rfl⟩
  have hb0 : Blk W2 w.heap.size 35 [.int .u8 x.what, .int .i64 x.i, .int .i64 x.n, .string x.s, .slice KA x.k.length kc] := H2.out.at_ (j := 0) rfl
  have z1 := hb0.cell 1
  have z2 := hb0.cell 2
  have z3 := hb0.cell 3
  simp only [List.getElem?_cons_zero, List.getElem?_cons_succ] at z1 z2 z3
  clear hb0
  have hlen := fun m => ((H2.out.drewN m).holds.len (i := 0) rfl).mono (fun e w2 h => (⟨h.1, h.2.symm⟩ : e = .returned (.int .i64 D.now.length) ∧ w2 = W2.drewN m))
  obtain ⟨u, hwu⟩ : ∃ u : Nat, IntKind.u64.wrap x.i = u := ⟨(IntKind.u64.wrap x.i).toNat, by rw [IntKind.wrap_u64]; omega⟩
  obtain ⟨v, hwv⟩ : ∃ v : Nat, IntKind.u64.wrap x.n = v := ⟨(IntKind.u64.wrap x.n).toNat, by rw [IntKind.wrap_u64]; omega⟩
  have hwl : IntKind.u64.wrap (D.now.length : Int) = (D.now.length : Int) := by have := HOK.out.max; rw [IntKind.wrap_u64]; omega
  have hln : ¬ ((D.now.length : Int) = 0) := by have := HOK.out.pos; omega
  obtain ⟨i, hwi⟩ : ∃ i : Nat, (u : Int) % (D.now.length : Int) = i := ⟨u % D.now.length, by omega⟩
  have hil : i < D.now.length := by have := HOK.out.pos; have h1 := Int.emod_lt_of_pos (u : Int) (show (0 : Int) < (D.now.length : Int) by omega); omega
  have HIL := Lib.hid hil
  have hw64 : wrap64 (i : Int) = i := by have := HOK.out.max; unfold wrap64; omega
  clear hil
  have hv3 : (v : Int) % 3 = 0 ∨ (v : Int) % 3 = 1 ∨ (v : Int) % 3 = 2 := by omega
  rcases hv3 with hv3 | hv3 | hv3
  · go_wp2_with fail
    go_quiet ((go_at_call 33; exact Calls.quiet_of_same (hlen _)))
    go_wp2_with fail
    clear hlen hwu hwl hwv hln hv3 hwi z1 z2
    obtain ⟨T, C, S, P, O, t1, t2, t3, t4, t5, t6, t7, t8, t9, t10, t11, t12, t13, t14, t15, t16, t17, t18, t19⟩ := tamper_law D HOK.out QL.out QO.out i HIL.out 0 ⟨#[]⟩ (by decide) (by decide) (by decide) (by intro _; rfl)
    have T1 := Lib.hid t1
    have T2 := Lib.hid t2
    have T3 := Lib.hid t3
    have T4 := Lib.hid t4
    have T5 := Lib.hid t5
    have T6 := Lib.hid t6
    have T7 := Lib.hid t7
    have T8 := Lib.hid t8
    have T9 := Lib.hid t9
    have T10 := Lib.hid t10
    have T11 := Lib.hid t11
    have T12 := Lib.hid t12
    have T13 := Lib.hid t13
    have T14 := Lib.hid t14
    have T15 := Lib.hid t15
    have T16 := Lib.hid t16
    have T17 := Lib.hid t17
    have T18 := Lib.hid t18
    have T19 := Lib.hid t19
    clear t1 t2 t3 t4 t5 t6 t7 t8 t9 t10 t11 t12 t13 t14 t15 t16 t17 t18 t19
    obtain ⟨W4, hW4⟩ : ∃ X, X = W2.drewN nq := ⟨_, rfl⟩
    have h4 : Also w W4 [(g1, D), (g2, D)] [(w.heap.size, .cells #[.int .u8 x.what, .int .i64 x.i, .int .i64 x.n, .string x.s, .slice KA x.k.length kc] 35)] := by rw [hW4]; exact H2.out.drewN _
    try rw [← hW4]
    have H4 : Hid (Also w W4 [(g1, D), (g2, D)] [(w.heap.size, .cells #[.int .u8 x.what, .int .i64 x.i, .int .i64 x.n, .string x.s, .slice KA x.k.length kc] 35)]) := h4
    clear h4 H2
    rw [hw64]
    clear hW4 hw64
    have HI1 : Hid ((i : Int) ≤ 9223372036854775807) := by show (i : Int) ≤ _; have := HIL.out; have := HOK.out.max; omega
    have e4 : ((T.read ↑i).2 == 0) = false := by rw [beq_eq_false_iff_ne]; intro h; have := T4.out.1 h; omega
    have hpe : (T.acts.length : Int) ≤ (D.acts.length : Int) := by have := T5.out; omega
    refine (H4.out.tamper (i := 0) rfl i 0 ⟨#[]⟩ (by omega) HI1.out).mono ?_
    rintro e W5 ⟨rfl, h5⟩
    rw [T1.out] at h5
    have H5 : Hid (Also w W5 [(g1, T), (g2, D)] [(w.heap.size, .cells #[.int .u8 x.what, .int .i64 x.i, .int .i64 x.n, .string x.s, .slice KA x.k.length kc] 35)]) := h5
    clear h5 H4
    rw [T1.out]
    go_wp2_with fail
    refine (H5.out.holds.state (i := 0) rfl i (by omega) HI1.out).mono ?_
    rintro e W6 ⟨rfl, rfl⟩
    rw [T2.out]
    go_wp2_with fail
    refine (H5.out.holds.read (i := 0) rfl i (by omega) HI1.out).mono ?_
    rintro e W7 ⟨rfl, rfl⟩
    rw [T3.out]
    go_wp2_with fail
    refine (H5.out.holds.pending (i := 0) rfl).mono ?_
    rintro e W8 ⟨rfl, rfl⟩
    go_wp2_with fail
    refine (H5.out.holds.pending (i := 1) rfl).mono ?_
    rintro e W9 ⟨rfl, rfl⟩
    go_wp2_with fail
    refine (H5.out.crash (i := 0) rfl (.slice none 0 0) [] reads_nil (by decide)).mono ?_
    rintro e W10 ⟨rfl, h10⟩
    rw [T8.out] at h10
    have H10 : Hid (Also w W10 [(g1, C), (g2, D)] [(w.heap.size, .cells #[.int .u8 x.what, .int .i64 x.i, .int .i64 x.n, .string x.s, .slice KA x.k.length kc] 35)]) := h10
    clear h10 H5
    rw [T6.out]
    go_wp2_with fail
    refine (H10.out.crash (i := 1) rfl (.slice none 0 0) [] reads_nil (by decide)).mono ?_
    rintro e W11 ⟨rfl, h11⟩
    rw [T9.out] at h11
    have H11 : Hid (Also w W11 [(g1, C), (g2, P)] [(w.heap.size, .cells #[.int .u8 x.what, .int .i64 x.i, .int .i64 x.n, .string x.s, .slice KA x.k.length kc] 35)]) := h11
    clear h11 H10
    rw [T7.out]
    go_wp2_with fail
    refine (H11.out.start (i := 0) rfl (by rw [T12.out]; have := QS.out; omega)).mono ?_
    rintro e W12 ⟨rfl, h12⟩
    rw [T10.out] at h12
    have H12 : Hid (Also w W12 [(g1, S), (g2, P)] [(w.heap.size, .cells #[.int .u8 x.what, .int .i64 x.i, .int .i64 x.n, .string x.s, .slice KA x.k.length kc] 35)]) := h12
    clear h12 H11
    rw [T10.out]
    go_wp2_with fail
    refine (H12.out.start (i := 1) rfl (by rw [T13.out]; have := QS.out; omega)).mono ?_
    rintro e W13 ⟨rfl, h13⟩
    rw [T11.out] at h13
    have H13 : Hid (Also w W13 [(g1, S), (g2, O)] [(w.heap.size, .cells #[.int .u8 x.what, .int .i64 x.i, .int .i64 x.n, .string x.s, .slice KA x.k.length kc] 35)]) := h13
    clear h13 H12
    rw [T11.out]
    go_wp2_with fail
    refine (H13.out.all (i := 1) rfl).mono ?_
    rintro e W14 ⟨l_a, c_a, o_a, rfl, x14, hb14, h14⟩
    have H14 : Hid (Also w W14 [(g1, S), (g2, O)] [(w.heap.size, .cells #[.int .u8 x.what, .int .i64 x.i, .int .i64 x.n, .string x.s, .slice KA x.k.length kc] 35), (l_a, o_a)]) := h14
    clear h14 H13 hb14
    have X_a := Lib.hid x14
    clear x14
    rw [T15.out]
    go_wp2_with fail
    refine (H14.out.all (i := 0) rfl).mono ?_
    rintro e W15 ⟨l_b, c_b, o_b, rfl, x15, hb15, h15⟩
    have H15 : Hid (Also w W15 [(g1, S), (g2, O)] [(w.heap.size, .cells #[.int .u8 x.what, .int .i64 x.i, .int .i64 x.n, .string x.s, .slice KA x.k.length kc] 35), (l_a, o_a), (l_b, o_b)]) := h15
    clear h15 H14 hb15
    have X_b := Lib.hid x15
    clear x15
    rw [T14.out]
    clear hpe hlen4 e4
    have hm512 : D.now.length ≤ 512 := HOK.out.max
    go_wp2_with fail
    go_loopw [16] (fun q wz => ∃ j : Nat, j ≤ D.now.length ∧ q = .int .i64 j ∧ Hid (Also w wz [(g1, S), (g2, O)] [(w.heap.size, .cells #[.int .u8 x.what, .int .i64 x.i, .int .i64 x.n, .string x.s, .slice KA x.k.length kc] 35), (l_a, o_a), (l_b, o_b)])) (fun q _ => D.now.length - (intOf q).toNat)
    case atStart => exact ⟨0, by omega, rfl, H15⟩
    case round =>
      obtain ⟨j, hj, rfl, hz⟩ := hrel
      clear H15
      by_cases hjl : j < D.now.length
      · have hjS : j < S.now.length := by rw [T14.out]; exact hjl
        have hjO : j < O.now.length := by rw [T15.out]; exact hjl
        have y1 := (X_a.out _ (hz.out.at_ (j := 1) rfl)).cell (tx_at hjO)
        have y2 := (X_b.out _ (hz.out.at_ (j := 2) rfl)).cell (tx_at hjS)
        have hjI : (j : Int) < (D.now.length : Int) := by omega
        have hj0 : (0 : Int) ≤ (j : Int) := by omega
        have hj1 : (j : Int) ≤ 9223372036854775807 := by have := HOK.out.max; omega
        go_wp2_with fail
        refine (hz.out.holds.len (i := 0) rfl).mono ?_
        rintro e w3 ⟨rfl, rfl⟩
        rw [T14.out]
        go_wp2_with fail
        by_cases hji : j = i
        · subst hji
          have hsS := fun m => ((hz.out.drewN m).holds.state (i := 0) rfl (j : Int) (by omega) hj1).mono (fun e w2 h => (⟨by rw [h.1, T17.out], h.2.symm⟩ : e = .returned (.int .i64 0) ∧ w2 = wr.drewN m))
          rw [T18.out] at y2
          have htq : True := trivial
          go_quiet ((go_at_call 28; exact Calls.quiet_of_same (hsS _)))
          go_wp2_with fail
          go_roundw
          case rel => exact ⟨j + 1, by omega, by go_num, hz.out.drewN _⟩
          case measure => simp [intOf]; omega
        · have h16 := T16.out j hjl hji
          have hjn : ((j : Int) == (i : Int)) = false := by rw [beq_eq_false_iff_ne]; omega
          have hjn2 : ((j : Int) != (i : Int)) = true := by rw [bne_iff_ne]; omega
          obtain ⟨sv, hsv⟩ : ∃ sv, sv = O.stateAt (j : Int) := ⟨_, rfl⟩
          have hsB : ∀ g, g = g1 ∨ g = g2 → ∀ m, Calls Try.prog 28 #[.pointer (some ⟨g, 0, none⟩), .int .i64 (j : Int)] (wr.drewN m) fun e w2 => e = .returned (.int .i64 sv) ∧ w2 = wr.drewN m := by
            rintro g (rfl | rfl) m
            · exact ((hz.out.drewN m).holds.state (i := 0) rfl (j : Int) (by omega) hj1).mono (fun e w2 h => ⟨by rw [h.1, h16.1, hsv], h.2.symm⟩)
            · exact ((hz.out.drewN m).holds.state (i := 1) rfl (j : Int) (by omega) hj1).mono (fun e w2 h => ⟨by rw [h.1, hsv], h.2.symm⟩)
          rw [h16.2] at y2
          obtain ⟨tv, htv⟩ : ∃ tv, tv = (O.read (j : Int)).1 := ⟨_, rfl⟩
          rw [← htv] at y1 y2
          have htq : (tv.toList == tv.toList) = true := by simp
          clear h16 hji htv hsv
          go_quiet ((go_at_call 28; exact Calls.quiet_of_same (hsB _ (by first | exact .inl rfl | exact .inr rfl) _)))
          go_wp2_with fail
          go_roundw
          case rel => exact ⟨j + 1, by omega, by go_num, hz.out.drewN _⟩
          case measure => simp [intOf]; omega
      · obtain rfl : j = D.now.length := by omega
        have h16 := hz.out
        have H16 : Hid (Also w wr [(g1, S), (g2, O)] [(w.heap.size, .cells #[.int .u8 x.what, .int .i64 x.i, .int .i64 x.n, .string x.s, .slice KA x.k.length kc] 35), (l_a, o_a), (l_b, o_b)]) := h16
        clear h16 hz hjl hj
        go_wp2_with fail
        refine (H16.out.holds.len (i := 0) rfl).mono ?_
        rintro e W17 ⟨rfl, rfl⟩
        rw [T14.out]
        have hb1 : S.tamper (-1) 0 ⟨#[]⟩ = (S, 2) := T19.out _ _ _ (.inl (by rw [stateAt_out S (by omega)]; omega))
        have hb2 : S.tamper (D.now.length : Int) 0 ⟨#[]⟩ = (S, 2) := T19.out _ _ _ (.inl (by rw [stateAt_out S (by rw [T14.out]; omega)]; omega))
        have hb3 : S.tamper 0 3 ⟨#[]⟩ = (S, 2) := T19.out _ _ _ (by omega)
        have hb4 : S.tamper 0 1 ⟨#[]⟩ = (S, 2) := T19.out _ _ _ (.inr (.inr (.inr (.inl ⟨rfl, by decide⟩))))
        have hl1 : (D.now.length : Int) ≤ 9223372036854775807 := by have := HOK.out.max; omega
        go_wp2_with fail
        refine (H16.out.tamper (i := 0) rfl (-1) 0 ⟨#[]⟩ (by omega) (by omega)).mono ?_
        rintro e W18 ⟨rfl, h18⟩
        rw [hb1] at h18
        have H18 : Hid (Also w W18 [(g1, S), (g2, O)] [(w.heap.size, .cells #[.int .u8 x.what, .int .i64 x.i, .int .i64 x.n, .string x.s, .slice KA x.k.length kc] 35), (l_a, o_a), (l_b, o_b)]) := h18
        clear h18 H16
        rw [hb1]
        go_wp2_with fail
        refine (H18.out.holds.len (i := 0) rfl).mono ?_
        rintro e W19 ⟨rfl, rfl⟩
        rw [T14.out]
        go_wp2_with fail
        refine (H18.out.tamper (i := 0) rfl ((D.now.length : Int)) 0 ⟨#[]⟩ (by omega) hl1).mono ?_
        rintro e W20 ⟨rfl, h20⟩
        rw [hb2] at h20
        have H20 : Hid (Also w W20 [(g1, S), (g2, O)] [(w.heap.size, .cells #[.int .u8 x.what, .int .i64 x.i, .int .i64 x.n, .string x.s, .slice KA x.k.length kc] 35), (l_a, o_a), (l_b, o_b)]) := h20
        clear h20 H18
        rw [hb2]
        go_wp2_with fail
        refine (H20.out.tamper (i := 0) rfl (0) 3 ⟨#[]⟩ (by omega) (by omega)).mono ?_
        rintro e W21 ⟨rfl, h21⟩
        rw [hb3] at h21
        have H21 : Hid (Also w W21 [(g1, S), (g2, O)] [(w.heap.size, .cells #[.int .u8 x.what, .int .i64 x.i, .int .i64 x.n, .string x.s, .slice KA x.k.length kc] 35), (l_a, o_a), (l_b, o_b)]) := h21
        clear h21 H20
        rw [hb3]
        go_wp2_with fail
        refine (H21.out.tamper (i := 0) rfl (0) 1 ⟨#[]⟩ (by omega) (by omega)).mono ?_
        rintro e W22 ⟨rfl, h22⟩
        rw [hb4] at h22
        have H22 : Hid (Also w W22 [(g1, S), (g2, O)] [(w.heap.size, .cells #[.int .u8 x.what, .int .i64 x.i, .int .i64 x.n, .string x.s, .slice KA x.k.length kc] 35), (l_a, o_a), (l_b, o_b)]) := h22
        clear h22 H21
        rw [hb4]
        have hb5 : S.tamper 0 0 ((⟨#[]⟩ : ByteArray) ++ (⟨#[120]⟩ : ByteArray)) = (S, 2) := T19.out _ _ _ (.inr (.inr (.inr (.inr ⟨by decide, by rw [ByteArray.size_append]; show ¬ (_ + 1 = 0); omega⟩))))
        go_wp2_with fail
        refine (H22.out.tamper (i := 0) rfl 0 0 _ (by omega) (by omega)).mono ?_
        rintro e W23 ⟨rfl, h23⟩
        rw [hb5] at h23
        have H23 : Hid (Also w W23 [(g1, S), (g2, O)] [(w.heap.size, .cells #[.int .u8 x.what, .int .i64 x.i, .int .i64 x.n, .string x.s, .slice KA x.k.length kc] 35), (l_a, o_a), (l_b, o_b)]) := h23
        clear h23 H22
        rw [hb5]
        go_wp2_with fail
        refine (does_any _).mono ?_
        rintro e W24 ⟨rfl, hb24⟩
        have h24 := H23.out.after hb24
        have H24 : Hid (Also w W24 [(g1, S), (g2, O)] [(w.heap.size, .cells #[.int .u8 x.what, .int .i64 x.i, .int .i64 x.n, .string x.s, .slice KA x.k.length kc] 35), (l_a, o_a), (l_b, o_b)]) := h24
        clear h24 H23 hb24
        go_wp2_with fail
        go_ret
        exact ⟨rfl, H24.out.below⟩
  · go_wp2_with fail
    go_quiet ((go_at_call 33; exact Calls.quiet_of_same (hlen _)))
    go_wp2_with fail
    clear hlen hwu hwl hwv hln hv3 hwi z1 z2
    obtain ⟨T, C, S, P, O, t1, t2, t3, t4, t5, t6, t7, t8, t9, t10, t11, t12, t13, t14, t15, t16, t17, t18, t19⟩ := tamper_law D HOK.out QL.out QO.out i HIL.out 1 (blockF x.s) (by decide) (by decide) (by intro _; exact blockF_size _) (by intro h; omega)
    have T1 := Lib.hid t1
    have T2 := Lib.hid t2
    have T3 := Lib.hid t3
    have T4 := Lib.hid t4
    have T5 := Lib.hid t5
    have T6 := Lib.hid t6
    have T7 := Lib.hid t7
    have T8 := Lib.hid t8
    have T9 := Lib.hid t9
    have T10 := Lib.hid t10
    have T11 := Lib.hid t11
    have T12 := Lib.hid t12
    have T13 := Lib.hid t13
    have T14 := Lib.hid t14
    have T15 := Lib.hid t15
    have T16 := Lib.hid t16
    have T17 := Lib.hid t17
    have T18 := Lib.hid t18
    have T19 := Lib.hid t19
    clear t1 t2 t3 t4 t5 t6 t7 t8 t9 t10 t11 t12 t13 t14 t15 t16 t17 t18 t19
    obtain ⟨W4, hW4⟩ : ∃ X, X = W2.drewN nq := ⟨_, rfl⟩
    have h4 : Also w W4 [(g1, D), (g2, D)] [(w.heap.size, .cells #[.int .u8 x.what, .int .i64 x.i, .int .i64 x.n, .string x.s, .slice KA x.k.length kc] 35)] := by rw [hW4]; exact H2.out.drewN _
    try rw [← hW4]
    have H4 : Hid (Also w W4 [(g1, D), (g2, D)] [(w.heap.size, .cells #[.int .u8 x.what, .int .i64 x.i, .int .i64 x.n, .string x.s, .slice KA x.k.length kc] 35)]) := h4
    clear h4 H2
    rw [hw64]
    clear hW4 hw64
    have HI1 : Hid ((i : Int) ≤ 9223372036854775807) := by show (i : Int) ≤ _; have := HIL.out; have := HOK.out.max; omega
    refine (block_fn _ x.s HXO.out.s).mono ?_
    rintro e W5 ⟨rfl, hb5⟩
    have h5 := H4.out.after hb5
    have H5 : Hid (Also w W5 [(g1, D), (g2, D)] [(w.heap.size, .cells #[.int .u8 x.what, .int .i64 x.i, .int .i64 x.n, .string x.s, .slice KA x.k.length kc] 35)]) := h5
    clear h5 H4 hb5
    have hteq : ((blockF x.s).toList == (blockF x.s).toList) = true := by simp
    have e4 : (T.read ↑i).2 = 0 := T4.out.2 rfl
    go_wp2_with fail
    have hpe : (T.acts.length : Int) ≤ (D.acts.length : Int) := by have := T5.out; omega
    refine (H5.out.tamper (i := 0) rfl i 1 (blockF x.s) (by omega) HI1.out).mono ?_
    rintro e W6 ⟨rfl, h6⟩
    rw [T1.out] at h6
    have H6 : Hid (Also w W6 [(g1, T), (g2, D)] [(w.heap.size, .cells #[.int .u8 x.what, .int .i64 x.i, .int .i64 x.n, .string x.s, .slice KA x.k.length kc] 35)]) := h6
    clear h6 H5
    rw [T1.out]
    go_wp2_with fail
    refine (H6.out.holds.state (i := 0) rfl i (by omega) HI1.out).mono ?_
    rintro e W7 ⟨rfl, rfl⟩
    rw [T2.out]
    go_wp2_with fail
    refine (H6.out.holds.read (i := 0) rfl i (by omega) HI1.out).mono ?_
    rintro e W8 ⟨rfl, rfl⟩
    rw [T3.out]
    rw [e4]
    go_wp2_with fail
    refine (H6.out.holds.pending (i := 0) rfl).mono ?_
    rintro e W9 ⟨rfl, rfl⟩
    go_wp2_with fail
    refine (H6.out.holds.pending (i := 1) rfl).mono ?_
    rintro e W10 ⟨rfl, rfl⟩
    go_wp2_with fail
    refine (H6.out.crash (i := 0) rfl (.slice none 0 0) [] reads_nil (by decide)).mono ?_
    rintro e W11 ⟨rfl, h11⟩
    rw [T8.out] at h11
    have H11 : Hid (Also w W11 [(g1, C), (g2, D)] [(w.heap.size, .cells #[.int .u8 x.what, .int .i64 x.i, .int .i64 x.n, .string x.s, .slice KA x.k.length kc] 35)]) := h11
    clear h11 H6
    rw [T6.out]
    go_wp2_with fail
    refine (H11.out.crash (i := 1) rfl (.slice none 0 0) [] reads_nil (by decide)).mono ?_
    rintro e W12 ⟨rfl, h12⟩
    rw [T9.out] at h12
    have H12 : Hid (Also w W12 [(g1, C), (g2, P)] [(w.heap.size, .cells #[.int .u8 x.what, .int .i64 x.i, .int .i64 x.n, .string x.s, .slice KA x.k.length kc] 35)]) := h12
    clear h12 H11
    rw [T7.out]
    go_wp2_with fail
    refine (H12.out.start (i := 0) rfl (by rw [T12.out]; have := QS.out; omega)).mono ?_
    rintro e W13 ⟨rfl, h13⟩
    rw [T10.out] at h13
    have H13 : Hid (Also w W13 [(g1, S), (g2, P)] [(w.heap.size, .cells #[.int .u8 x.what, .int .i64 x.i, .int .i64 x.n, .string x.s, .slice KA x.k.length kc] 35)]) := h13
    clear h13 H12
    rw [T10.out]
    go_wp2_with fail
    refine (H13.out.start (i := 1) rfl (by rw [T13.out]; have := QS.out; omega)).mono ?_
    rintro e W14 ⟨rfl, h14⟩
    rw [T11.out] at h14
    have H14 : Hid (Also w W14 [(g1, S), (g2, O)] [(w.heap.size, .cells #[.int .u8 x.what, .int .i64 x.i, .int .i64 x.n, .string x.s, .slice KA x.k.length kc] 35)]) := h14
    clear h14 H13
    rw [T11.out]
    go_wp2_with fail
    refine (H14.out.all (i := 1) rfl).mono ?_
    rintro e W15 ⟨l_a, c_a, o_a, rfl, x15, hb15, h15⟩
    have H15 : Hid (Also w W15 [(g1, S), (g2, O)] [(w.heap.size, .cells #[.int .u8 x.what, .int .i64 x.i, .int .i64 x.n, .string x.s, .slice KA x.k.length kc] 35), (l_a, o_a)]) := h15
    clear h15 H14 hb15
    have X_a := Lib.hid x15
    clear x15
    rw [T15.out]
    go_wp2_with fail
    refine (H15.out.all (i := 0) rfl).mono ?_
    rintro e W16 ⟨l_b, c_b, o_b, rfl, x16, hb16, h16⟩
    have H16 : Hid (Also w W16 [(g1, S), (g2, O)] [(w.heap.size, .cells #[.int .u8 x.what, .int .i64 x.i, .int .i64 x.n, .string x.s, .slice KA x.k.length kc] 35), (l_a, o_a), (l_b, o_b)]) := h16
    clear h16 H15 hb16
    have X_b := Lib.hid x16
    clear x16
    rw [T14.out]
    clear hpe hlen4 e4
    have hm512 : D.now.length ≤ 512 := HOK.out.max
    go_wp2_with fail
    go_loopw [16] (fun q wz => ∃ j : Nat, j ≤ D.now.length ∧ q = .int .i64 j ∧ Hid (Also w wz [(g1, S), (g2, O)] [(w.heap.size, .cells #[.int .u8 x.what, .int .i64 x.i, .int .i64 x.n, .string x.s, .slice KA x.k.length kc] 35), (l_a, o_a), (l_b, o_b)])) (fun q _ => D.now.length - (intOf q).toNat)
    case atStart => exact ⟨0, by omega, rfl, H16⟩
    case round =>
      obtain ⟨j, hj, rfl, hz⟩ := hrel
      clear H16
      by_cases hjl : j < D.now.length
      · have hjS : j < S.now.length := by rw [T14.out]; exact hjl
        have hjO : j < O.now.length := by rw [T15.out]; exact hjl
        have y1 := (X_a.out _ (hz.out.at_ (j := 1) rfl)).cell (tx_at hjO)
        have y2 := (X_b.out _ (hz.out.at_ (j := 2) rfl)).cell (tx_at hjS)
        have hjI : (j : Int) < (D.now.length : Int) := by omega
        have hj0 : (0 : Int) ≤ (j : Int) := by omega
        have hj1 : (j : Int) ≤ 9223372036854775807 := by have := HOK.out.max; omega
        go_wp2_with fail
        refine (hz.out.holds.len (i := 0) rfl).mono ?_
        rintro e w3 ⟨rfl, rfl⟩
        rw [T14.out]
        go_wp2_with fail
        by_cases hji : j = i
        · subst hji
          have hsS := fun m => ((hz.out.drewN m).holds.state (i := 0) rfl (j : Int) (by omega) hj1).mono (fun e w2 h => (⟨by rw [h.1, T17.out], h.2.symm⟩ : e = .returned (.int .i64 1) ∧ w2 = wr.drewN m))
          rw [T18.out] at y2
          have htq := hteq
          go_quiet ((go_at_call 28; exact Calls.quiet_of_same (hsS _)))
          go_wp2_with fail
          go_roundw
          case rel => exact ⟨j + 1, by omega, by go_num, hz.out.drewN _⟩
          case measure => simp [intOf]; omega
        · have h16 := T16.out j hjl hji
          have hjn : ((j : Int) == (i : Int)) = false := by rw [beq_eq_false_iff_ne]; omega
          have hjn2 : ((j : Int) != (i : Int)) = true := by rw [bne_iff_ne]; omega
          obtain ⟨sv, hsv⟩ : ∃ sv, sv = O.stateAt (j : Int) := ⟨_, rfl⟩
          have hsB : ∀ g, g = g1 ∨ g = g2 → ∀ m, Calls Try.prog 28 #[.pointer (some ⟨g, 0, none⟩), .int .i64 (j : Int)] (wr.drewN m) fun e w2 => e = .returned (.int .i64 sv) ∧ w2 = wr.drewN m := by
            rintro g (rfl | rfl) m
            · exact ((hz.out.drewN m).holds.state (i := 0) rfl (j : Int) (by omega) hj1).mono (fun e w2 h => ⟨by rw [h.1, h16.1, hsv], h.2.symm⟩)
            · exact ((hz.out.drewN m).holds.state (i := 1) rfl (j : Int) (by omega) hj1).mono (fun e w2 h => ⟨by rw [h.1, hsv], h.2.symm⟩)
          rw [h16.2] at y2
          obtain ⟨tv, htv⟩ : ∃ tv, tv = (O.read (j : Int)).1 := ⟨_, rfl⟩
          rw [← htv] at y1 y2
          have htq : (tv.toList == tv.toList) = true := by simp
          clear h16 hji htv hsv
          go_quiet ((go_at_call 28; exact Calls.quiet_of_same (hsB _ (by first | exact .inl rfl | exact .inr rfl) _)))
          go_wp2_with fail
          go_roundw
          case rel => exact ⟨j + 1, by omega, by go_num, hz.out.drewN _⟩
          case measure => simp [intOf]; omega
      · obtain rfl : j = D.now.length := by omega
        have h17 := hz.out
        have H17 : Hid (Also w wr [(g1, S), (g2, O)] [(w.heap.size, .cells #[.int .u8 x.what, .int .i64 x.i, .int .i64 x.n, .string x.s, .slice KA x.k.length kc] 35), (l_a, o_a), (l_b, o_b)]) := h17
        clear h17 hz hjl hj
        go_wp2_with fail
        refine (H17.out.holds.len (i := 0) rfl).mono ?_
        rintro e W18 ⟨rfl, rfl⟩
        rw [T14.out]
        have hb1 : S.tamper (-1) 0 ⟨#[]⟩ = (S, 2) := T19.out _ _ _ (.inl (by rw [stateAt_out S (by omega)]; omega))
        have hb2 : S.tamper (D.now.length : Int) 0 ⟨#[]⟩ = (S, 2) := T19.out _ _ _ (.inl (by rw [stateAt_out S (by rw [T14.out]; omega)]; omega))
        have hb3 : S.tamper 0 3 ⟨#[]⟩ = (S, 2) := T19.out _ _ _ (by omega)
        have hb4 : S.tamper 0 1 ⟨#[]⟩ = (S, 2) := T19.out _ _ _ (.inr (.inr (.inr (.inl ⟨rfl, by decide⟩))))
        have hl1 : (D.now.length : Int) ≤ 9223372036854775807 := by have := HOK.out.max; omega
        go_wp2_with fail
        refine (H17.out.tamper (i := 0) rfl (-1) 0 ⟨#[]⟩ (by omega) (by omega)).mono ?_
        rintro e W19 ⟨rfl, h19⟩
        rw [hb1] at h19
        have H19 : Hid (Also w W19 [(g1, S), (g2, O)] [(w.heap.size, .cells #[.int .u8 x.what, .int .i64 x.i, .int .i64 x.n, .string x.s, .slice KA x.k.length kc] 35), (l_a, o_a), (l_b, o_b)]) := h19
        clear h19 H17
        rw [hb1]
        go_wp2_with fail
        refine (H19.out.holds.len (i := 0) rfl).mono ?_
        rintro e W20 ⟨rfl, rfl⟩
        rw [T14.out]
        go_wp2_with fail
        refine (H19.out.tamper (i := 0) rfl ((D.now.length : Int)) 0 ⟨#[]⟩ (by omega) hl1).mono ?_
        rintro e W21 ⟨rfl, h21⟩
        rw [hb2] at h21
        have H21 : Hid (Also w W21 [(g1, S), (g2, O)] [(w.heap.size, .cells #[.int .u8 x.what, .int .i64 x.i, .int .i64 x.n, .string x.s, .slice KA x.k.length kc] 35), (l_a, o_a), (l_b, o_b)]) := h21
        clear h21 H19
        rw [hb2]
        go_wp2_with fail
        refine (H21.out.tamper (i := 0) rfl (0) 3 ⟨#[]⟩ (by omega) (by omega)).mono ?_
        rintro e W22 ⟨rfl, h22⟩
        rw [hb3] at h22
        have H22 : Hid (Also w W22 [(g1, S), (g2, O)] [(w.heap.size, .cells #[.int .u8 x.what, .int .i64 x.i, .int .i64 x.n, .string x.s, .slice KA x.k.length kc] 35), (l_a, o_a), (l_b, o_b)]) := h22
        clear h22 H21
        rw [hb3]
        go_wp2_with fail
        refine (H22.out.tamper (i := 0) rfl (0) 1 ⟨#[]⟩ (by omega) (by omega)).mono ?_
        rintro e W23 ⟨rfl, h23⟩
        rw [hb4] at h23
        have H23 : Hid (Also w W23 [(g1, S), (g2, O)] [(w.heap.size, .cells #[.int .u8 x.what, .int .i64 x.i, .int .i64 x.n, .string x.s, .slice KA x.k.length kc] 35), (l_a, o_a), (l_b, o_b)]) := h23
        clear h23 H22
        rw [hb4]
        have hb5 : S.tamper 0 0 (((blockF x.s) : ByteArray) ++ (⟨#[120]⟩ : ByteArray)) = (S, 2) := T19.out _ _ _ (.inr (.inr (.inr (.inr ⟨by decide, by rw [ByteArray.size_append]; show ¬ (_ + 1 = 0); omega⟩))))
        have hbs : (blockF x.s).size = 128 := blockF_size _
        have hbs2 : ((blockF x.s).size : Int) ≤ 9223372036854775806 := by rw [hbs]; decide
        go_wp2_with fail
        refine (H23.out.tamper (i := 0) rfl 0 0 _ (by omega) (by omega)).mono ?_
        rintro e W24 ⟨rfl, h24⟩
        rw [hb5] at h24
        have H24 : Hid (Also w W24 [(g1, S), (g2, O)] [(w.heap.size, .cells #[.int .u8 x.what, .int .i64 x.i, .int .i64 x.n, .string x.s, .slice KA x.k.length kc] 35), (l_a, o_a), (l_b, o_b)]) := h24
        clear h24 H23
        rw [hb5]
        go_wp2_with fail
        refine (does_any _).mono ?_
        rintro e W25 ⟨rfl, hb25⟩
        have h25 := H24.out.after hb25
        have H25 : Hid (Also w W25 [(g1, S), (g2, O)] [(w.heap.size, .cells #[.int .u8 x.what, .int .i64 x.i, .int .i64 x.n, .string x.s, .slice KA x.k.length kc] 35), (l_a, o_a), (l_b, o_b)]) := h25
        clear h25 H24 hb25
        go_wp2_with fail
        go_ret
        exact ⟨rfl, H25.out.below⟩
  · go_wp2_with fail
    go_quiet ((go_at_call 33; exact Calls.quiet_of_same (hlen _)))
    go_wp2_with fail
    clear hlen hwu hwl hwv hln hv3 hwi z1 z2
    obtain ⟨T, C, S, P, O, t1, t2, t3, t4, t5, t6, t7, t8, t9, t10, t11, t12, t13, t14, t15, t16, t17, t18, t19⟩ := tamper_law D HOK.out QL.out QO.out i HIL.out 2 ⟨#[]⟩ (by decide) (by decide) (by decide) (by intro _; rfl)
    have T1 := Lib.hid t1
    have T2 := Lib.hid t2
    have T3 := Lib.hid t3
    have T4 := Lib.hid t4
    have T5 := Lib.hid t5
    have T6 := Lib.hid t6
    have T7 := Lib.hid t7
    have T8 := Lib.hid t8
    have T9 := Lib.hid t9
    have T10 := Lib.hid t10
    have T11 := Lib.hid t11
    have T12 := Lib.hid t12
    have T13 := Lib.hid t13
    have T14 := Lib.hid t14
    have T15 := Lib.hid t15
    have T16 := Lib.hid t16
    have T17 := Lib.hid t17
    have T18 := Lib.hid t18
    have T19 := Lib.hid t19
    clear t1 t2 t3 t4 t5 t6 t7 t8 t9 t10 t11 t12 t13 t14 t15 t16 t17 t18 t19
    obtain ⟨W4, hW4⟩ : ∃ X, X = W2.drewN nq := ⟨_, rfl⟩
    have h4 : Also w W4 [(g1, D), (g2, D)] [(w.heap.size, .cells #[.int .u8 x.what, .int .i64 x.i, .int .i64 x.n, .string x.s, .slice KA x.k.length kc] 35)] := by rw [hW4]; exact H2.out.drewN _
    try rw [← hW4]
    have H4 : Hid (Also w W4 [(g1, D), (g2, D)] [(w.heap.size, .cells #[.int .u8 x.what, .int .i64 x.i, .int .i64 x.n, .string x.s, .slice KA x.k.length kc] 35)]) := h4
    clear h4 H2
    rw [hw64]
    clear hW4 hw64
    have HI1 : Hid ((i : Int) ≤ 9223372036854775807) := by show (i : Int) ≤ _; have := HIL.out; have := HOK.out.max; omega
    have e4 : ((T.read ↑i).2 == 0) = false := by rw [beq_eq_false_iff_ne]; intro h; have := T4.out.1 h; omega
    have hpe : (T.acts.length : Int) ≤ (D.acts.length : Int) := by have := T5.out; omega
    refine (H4.out.tamper (i := 0) rfl i 2 ⟨#[]⟩ (by omega) HI1.out).mono ?_
    rintro e W5 ⟨rfl, h5⟩
    rw [T1.out] at h5
    have H5 : Hid (Also w W5 [(g1, T), (g2, D)] [(w.heap.size, .cells #[.int .u8 x.what, .int .i64 x.i, .int .i64 x.n, .string x.s, .slice KA x.k.length kc] 35)]) := h5
    clear h5 H4
    rw [T1.out]
    go_wp2_with fail
    refine (H5.out.holds.state (i := 0) rfl i (by omega) HI1.out).mono ?_
    rintro e W6 ⟨rfl, rfl⟩
    rw [T2.out]
    go_wp2_with fail
    refine (H5.out.holds.read (i := 0) rfl i (by omega) HI1.out).mono ?_
    rintro e W7 ⟨rfl, rfl⟩
    rw [T3.out]
    go_wp2_with fail
    refine (H5.out.holds.pending (i := 0) rfl).mono ?_
    rintro e W8 ⟨rfl, rfl⟩
    go_wp2_with fail
    refine (H5.out.holds.pending (i := 1) rfl).mono ?_
    rintro e W9 ⟨rfl, rfl⟩
    go_wp2_with fail
    refine (H5.out.crash (i := 0) rfl (.slice none 0 0) [] reads_nil (by decide)).mono ?_
    rintro e W10 ⟨rfl, h10⟩
    rw [T8.out] at h10
    have H10 : Hid (Also w W10 [(g1, C), (g2, D)] [(w.heap.size, .cells #[.int .u8 x.what, .int .i64 x.i, .int .i64 x.n, .string x.s, .slice KA x.k.length kc] 35)]) := h10
    clear h10 H5
    rw [T6.out]
    go_wp2_with fail
    refine (H10.out.crash (i := 1) rfl (.slice none 0 0) [] reads_nil (by decide)).mono ?_
    rintro e W11 ⟨rfl, h11⟩
    rw [T9.out] at h11
    have H11 : Hid (Also w W11 [(g1, C), (g2, P)] [(w.heap.size, .cells #[.int .u8 x.what, .int .i64 x.i, .int .i64 x.n, .string x.s, .slice KA x.k.length kc] 35)]) := h11
    clear h11 H10
    rw [T7.out]
    go_wp2_with fail
    refine (H11.out.start (i := 0) rfl (by rw [T12.out]; have := QS.out; omega)).mono ?_
    rintro e W12 ⟨rfl, h12⟩
    rw [T10.out] at h12
    have H12 : Hid (Also w W12 [(g1, S), (g2, P)] [(w.heap.size, .cells #[.int .u8 x.what, .int .i64 x.i, .int .i64 x.n, .string x.s, .slice KA x.k.length kc] 35)]) := h12
    clear h12 H11
    rw [T10.out]
    go_wp2_with fail
    refine (H12.out.start (i := 1) rfl (by rw [T13.out]; have := QS.out; omega)).mono ?_
    rintro e W13 ⟨rfl, h13⟩
    rw [T11.out] at h13
    have H13 : Hid (Also w W13 [(g1, S), (g2, O)] [(w.heap.size, .cells #[.int .u8 x.what, .int .i64 x.i, .int .i64 x.n, .string x.s, .slice KA x.k.length kc] 35)]) := h13
    clear h13 H12
    rw [T11.out]
    go_wp2_with fail
    refine (H13.out.all (i := 1) rfl).mono ?_
    rintro e W14 ⟨l_a, c_a, o_a, rfl, x14, hb14, h14⟩
    have H14 : Hid (Also w W14 [(g1, S), (g2, O)] [(w.heap.size, .cells #[.int .u8 x.what, .int .i64 x.i, .int .i64 x.n, .string x.s, .slice KA x.k.length kc] 35), (l_a, o_a)]) := h14
    clear h14 H13 hb14
    have X_a := Lib.hid x14
    clear x14
    rw [T15.out]
    go_wp2_with fail
    refine (H14.out.all (i := 0) rfl).mono ?_
    rintro e W15 ⟨l_b, c_b, o_b, rfl, x15, hb15, h15⟩
    have H15 : Hid (Also w W15 [(g1, S), (g2, O)] [(w.heap.size, .cells #[.int .u8 x.what, .int .i64 x.i, .int .i64 x.n, .string x.s, .slice KA x.k.length kc] 35), (l_a, o_a), (l_b, o_b)]) := h15
    clear h15 H14 hb15
    have X_b := Lib.hid x15
    clear x15
    rw [T14.out]
    clear hpe hlen4 e4
    have hm512 : D.now.length ≤ 512 := HOK.out.max
    go_wp2_with fail
    go_loopw [16] (fun q wz => ∃ j : Nat, j ≤ D.now.length ∧ q = .int .i64 j ∧ Hid (Also w wz [(g1, S), (g2, O)] [(w.heap.size, .cells #[.int .u8 x.what, .int .i64 x.i, .int .i64 x.n, .string x.s, .slice KA x.k.length kc] 35), (l_a, o_a), (l_b, o_b)])) (fun q _ => D.now.length - (intOf q).toNat)
    case atStart => exact ⟨0, by omega, rfl, H15⟩
    case round =>
      obtain ⟨j, hj, rfl, hz⟩ := hrel
      clear H15
      by_cases hjl : j < D.now.length
      · have hjS : j < S.now.length := by rw [T14.out]; exact hjl
        have hjO : j < O.now.length := by rw [T15.out]; exact hjl
        have y1 := (X_a.out _ (hz.out.at_ (j := 1) rfl)).cell (tx_at hjO)
        have y2 := (X_b.out _ (hz.out.at_ (j := 2) rfl)).cell (tx_at hjS)
        have hjI : (j : Int) < (D.now.length : Int) := by omega
        have hj0 : (0 : Int) ≤ (j : Int) := by omega
        have hj1 : (j : Int) ≤ 9223372036854775807 := by have := HOK.out.max; omega
        go_wp2_with fail
        refine (hz.out.holds.len (i := 0) rfl).mono ?_
        rintro e w3 ⟨rfl, rfl⟩
        rw [T14.out]
        go_wp2_with fail
        by_cases hji : j = i
        · subst hji
          have hsS := fun m => ((hz.out.drewN m).holds.state (i := 0) rfl (j : Int) (by omega) hj1).mono (fun e w2 h => (⟨by rw [h.1, T17.out], h.2.symm⟩ : e = .returned (.int .i64 2) ∧ w2 = wr.drewN m))
          rw [T18.out] at y2
          have htq : True := trivial
          go_quiet ((go_at_call 28; exact Calls.quiet_of_same (hsS _)))
          go_wp2_with fail
          go_roundw
          case rel => exact ⟨j + 1, by omega, by go_num, hz.out.drewN _⟩
          case measure => simp [intOf]; omega
        · have h16 := T16.out j hjl hji
          have hjn : ((j : Int) == (i : Int)) = false := by rw [beq_eq_false_iff_ne]; omega
          have hjn2 : ((j : Int) != (i : Int)) = true := by rw [bne_iff_ne]; omega
          obtain ⟨sv, hsv⟩ : ∃ sv, sv = O.stateAt (j : Int) := ⟨_, rfl⟩
          have hsB : ∀ g, g = g1 ∨ g = g2 → ∀ m, Calls Try.prog 28 #[.pointer (some ⟨g, 0, none⟩), .int .i64 (j : Int)] (wr.drewN m) fun e w2 => e = .returned (.int .i64 sv) ∧ w2 = wr.drewN m := by
            rintro g (rfl | rfl) m
            · exact ((hz.out.drewN m).holds.state (i := 0) rfl (j : Int) (by omega) hj1).mono (fun e w2 h => ⟨by rw [h.1, h16.1, hsv], h.2.symm⟩)
            · exact ((hz.out.drewN m).holds.state (i := 1) rfl (j : Int) (by omega) hj1).mono (fun e w2 h => ⟨by rw [h.1, hsv], h.2.symm⟩)
          rw [h16.2] at y2
          obtain ⟨tv, htv⟩ : ∃ tv, tv = (O.read (j : Int)).1 := ⟨_, rfl⟩
          rw [← htv] at y1 y2
          have htq : (tv.toList == tv.toList) = true := by simp
          clear h16 hji htv hsv
          go_quiet ((go_at_call 28; exact Calls.quiet_of_same (hsB _ (by first | exact .inl rfl | exact .inr rfl) _)))
          go_wp2_with fail
          go_roundw
          case rel => exact ⟨j + 1, by omega, by go_num, hz.out.drewN _⟩
          case measure => simp [intOf]; omega
      · obtain rfl : j = D.now.length := by omega
        have h16 := hz.out
        have H16 : Hid (Also w wr [(g1, S), (g2, O)] [(w.heap.size, .cells #[.int .u8 x.what, .int .i64 x.i, .int .i64 x.n, .string x.s, .slice KA x.k.length kc] 35), (l_a, o_a), (l_b, o_b)]) := h16
        clear h16 hz hjl hj
        go_wp2_with fail
        refine (H16.out.holds.len (i := 0) rfl).mono ?_
        rintro e W17 ⟨rfl, rfl⟩
        rw [T14.out]
        have hb1 : S.tamper (-1) 0 ⟨#[]⟩ = (S, 2) := T19.out _ _ _ (.inl (by rw [stateAt_out S (by omega)]; omega))
        have hb2 : S.tamper (D.now.length : Int) 0 ⟨#[]⟩ = (S, 2) := T19.out _ _ _ (.inl (by rw [stateAt_out S (by rw [T14.out]; omega)]; omega))
        have hb3 : S.tamper 0 3 ⟨#[]⟩ = (S, 2) := T19.out _ _ _ (by omega)
        have hb4 : S.tamper 0 1 ⟨#[]⟩ = (S, 2) := T19.out _ _ _ (.inr (.inr (.inr (.inl ⟨rfl, by decide⟩))))
        have hl1 : (D.now.length : Int) ≤ 9223372036854775807 := by have := HOK.out.max; omega
        go_wp2_with fail
        refine (H16.out.tamper (i := 0) rfl (-1) 0 ⟨#[]⟩ (by omega) (by omega)).mono ?_
        rintro e W18 ⟨rfl, h18⟩
        rw [hb1] at h18
        have H18 : Hid (Also w W18 [(g1, S), (g2, O)] [(w.heap.size, .cells #[.int .u8 x.what, .int .i64 x.i, .int .i64 x.n, .string x.s, .slice KA x.k.length kc] 35), (l_a, o_a), (l_b, o_b)]) := h18
        clear h18 H16
        rw [hb1]
        go_wp2_with fail
        refine (H18.out.holds.len (i := 0) rfl).mono ?_
        rintro e W19 ⟨rfl, rfl⟩
        rw [T14.out]
        go_wp2_with fail
        refine (H18.out.tamper (i := 0) rfl ((D.now.length : Int)) 0 ⟨#[]⟩ (by omega) hl1).mono ?_
        rintro e W20 ⟨rfl, h20⟩
        rw [hb2] at h20
        have H20 : Hid (Also w W20 [(g1, S), (g2, O)] [(w.heap.size, .cells #[.int .u8 x.what, .int .i64 x.i, .int .i64 x.n, .string x.s, .slice KA x.k.length kc] 35), (l_a, o_a), (l_b, o_b)]) := h20
        clear h20 H18
        rw [hb2]
        go_wp2_with fail
        refine (H20.out.tamper (i := 0) rfl (0) 3 ⟨#[]⟩ (by omega) (by omega)).mono ?_
        rintro e W21 ⟨rfl, h21⟩
        rw [hb3] at h21
        have H21 : Hid (Also w W21 [(g1, S), (g2, O)] [(w.heap.size, .cells #[.int .u8 x.what, .int .i64 x.i, .int .i64 x.n, .string x.s, .slice KA x.k.length kc] 35), (l_a, o_a), (l_b, o_b)]) := h21
        clear h21 H20
        rw [hb3]
        go_wp2_with fail
        refine (H21.out.tamper (i := 0) rfl (0) 1 ⟨#[]⟩ (by omega) (by omega)).mono ?_
        rintro e W22 ⟨rfl, h22⟩
        rw [hb4] at h22
        have H22 : Hid (Also w W22 [(g1, S), (g2, O)] [(w.heap.size, .cells #[.int .u8 x.what, .int .i64 x.i, .int .i64 x.n, .string x.s, .slice KA x.k.length kc] 35), (l_a, o_a), (l_b, o_b)]) := h22
        clear h22 H21
        rw [hb4]
        have hb5 : S.tamper 0 0 ((⟨#[]⟩ : ByteArray) ++ (⟨#[120]⟩ : ByteArray)) = (S, 2) := T19.out _ _ _ (.inr (.inr (.inr (.inr ⟨by decide, by rw [ByteArray.size_append]; show ¬ (_ + 1 = 0); omega⟩))))
        go_wp2_with fail
        refine (H22.out.tamper (i := 0) rfl 0 0 _ (by omega) (by omega)).mono ?_
        rintro e W23 ⟨rfl, h23⟩
        rw [hb5] at h23
        have H23 : Hid (Also w W23 [(g1, S), (g2, O)] [(w.heap.size, .cells #[.int .u8 x.what, .int .i64 x.i, .int .i64 x.n, .string x.s, .slice KA x.k.length kc] 35), (l_a, o_a), (l_b, o_b)]) := h23
        clear h23 H22
        rw [hb5]
        go_wp2_with fail
        refine (does_any _).mono ?_
        rintro e W24 ⟨rfl, hb24⟩
        have h24 := H23.out.after hb24
        have H24 : Hid (Also w W24 [(g1, S), (g2, O)] [(w.heap.size, .cells #[.int .u8 x.what, .int .i64 x.i, .int .i64 x.n, .string x.s, .slice KA x.k.length kc] 35), (l_a, o_a), (l_b, o_b)]) := h24
        clear h24 H23 hb24
        go_wp2_with fail
        go_ret
        exact ⟨rfl, H24.out.below⟩
end Go.Proofs.Ytfmhfgkmoeimeaa
