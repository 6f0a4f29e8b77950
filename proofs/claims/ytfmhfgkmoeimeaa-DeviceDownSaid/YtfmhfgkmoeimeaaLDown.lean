/- Walks: DeviceDown. -/
import Derived.Test.YtfmhfgkmoeimeaaW20
import Derived.Test.YtfmhfgkmoeimeaaW21
import Derived.Test.YtfmhfgkmoeimeaaP2
import Derived.Test.YtfmhfgkmoeimeaaX1
namespace Go.Proofs.Ytfmhfgkmoeimeaa
open Go.RowKit

theorem down_pure (D : Dev) (hl : D.left = -1) (ho : D.off = false) (ks : List Int) (i : Int) :
    D.flush.2 = 0 ∧ D.flush.1.on = 0 ∧ (D.flush.1.crash ks).off = true ∧ (D.flush.1.crash ks).acts = [] ∧ (D.flush.1.crash ks).starts = D.starts ∧ (D.flush.1.crash ks).read i = (ByteArray.empty, 43) ∧
    (D.flush.1.crash ks).start.2 = 0 ∧ (D.flush.1.crash ks).start.1.off = false ∧ (D.flush.1.crash ks).start.1.start.2 = 2 ∧ (D.flush.1.crash ks).start.1.start.1 = (D.flush.1.crash ks).start.1 ∧
    stList (D.flush.1.crash ks).start.1 = stList D.flush.1 ∧ txList (D.flush.1.crash ks).start.1 = txList D.flush.1 ∧ (D.flush.1.crash ks).start.1.starts = D.starts + 1 := by
  have hf : D.flush = ({ D with sure := D.now, acts := [] }, 0) := by rw [D.flush_plain hl, ho]; rfl
  have hc : D.flush.1.crash ks = { D with sure := D.now, now := D.now, acts := [], off := true, left := -1 } := by
    rw [hf]; unfold Dev.crash
    show (if D.off = true then _ else _) = _
    rw [ho]; rfl
  have hon : D.flush.1.off = false := by rw [hf]; exact ho
  have hnow : D.flush.1.now = D.now := by rw [hf]
  rw [hc]
  refine ⟨by rw [hf], by unfold Dev.on; rw [hon]; rfl, rfl, rfl, rfl, rfl, rfl, rfl, rfl, rfl, stList_congr hnow.symm, txList_congr hnow.symm hon.symm, rfl⟩

theorem down_with (K : Dev) (ho : K.off = true) (x : PDo) (hx : x.what < 12) (h9 : x.what ≠ 9) (h10 : x.what ≠ 10) : withF K x = (K, 43) := by
  have hon : K.on = 43 := by unfold Dev.on; rw [ho]; rfl
  have hb : ∀ i, K.block i = 43 := fun i => by unfold Dev.block; rw [hon]; rfl
  have hw : ∀ i d, K.write i d = (K, 43) := fun i d => by unfold Dev.write; rw [hb]; rfl
  have he : ∀ i, K.erase i = (K, 43) := fun i => by unfold Dev.erase; rw [hb]; rfl
  have hfl : K.flush = (K, 43) := by unfold Dev.flush; rw [ho]; rfl
  have hcr : ∀ ks, K.crash ks = K := fun ks => by unfold Dev.crash; rw [ho]; rfl
  have hfa : ∀ n ks, K.failAt n ks = (K, 43) := fun n ks => by unfold Dev.failAt; rw [ho]; rfl
  unfold withF
  have hq : x.what = 0 ∨ x.what = 1 ∨ x.what = 2 ∨ x.what = 3 ∨ x.what = 4 ∨ x.what = 5 ∨ x.what = 6 ∨ x.what = 7 ∨ x.what = 8 ∨ x.what = 11 := by omega
  rcases hq with e | e | e | e | e | e | e | e | e | e
  all_goals rw [e]
  · exact hw _ _
  · exact hw _ _
  · exact hw _ _
  · exact hw _ _
  · exact hw _ _
  · exact he _
  · exact he _
  · exact hfl
  · show (K.crash x.k, K.on) = _
    rw [hcr, hon]
  · exact hfa _ _

set_option maxHeartbeats 3000000 in
set_option maxRecDepth 100000 in
theorem down_any (w : World) (n : Nat) (hn : n < 256) (v : Value) (x : PDo) (kv : Value) (l : List PDo) (h : DosAt w w.heap.size v l) (hx : x.In) (hk : KsAt w w.heap.size kv x.k) :
    Calls Try.prog 9 #[.int .u8 n, v, doV x kv] w fun e w' => e = .returned (.bool true) ∧ Below w.heap.size w w' := by
  obtain ⟨KA, kc, rfl, _⟩ := id hk
  obtain ⟨wA, hwA⟩ : ∃ wA, wA = w.alloc (.cells #[.int .u8 x.what, .int .i64 x.i, .int .i64 x.n, .string x.s, .slice KA x.k.length kc] 35) := ⟨_, rfl⟩
  have hB : Below w.heap.size w wA := by rw [hwA]; exact (Below.refl _ _).alloc (Nat.le_refl _) _
  have hbx : Blk wA w.heap.size 35 [.int .u8 x.what, .int .i64 x.i, .int .i64 x.n, .string x.s, .slice KA x.k.length kc] := by rw [hwA]; exact Blk.new w 35 _
  have hA2 := h.below hB
  have hmuch := much_any wA w.heap.size v l 60 hA2 (by omega)
  obtain ⟨wB, hwB⟩ : ∃ wB, wB = wA.alloc (.cells #[.int .u8 x.what, .int .i64 x.i, .int .i64 x.n, .string x.s, .slice KA x.k.length kc] 35) := ⟨_, rfl⟩
  have hB2 : Below wA.heap.size wA wB := by rw [hwB]; exact (Below.refl _ _).alloc (Nat.le_refl _) _
  have hone : DosAt wB wB.heap.size (.slice (some ⟨wA.heap.size, 0, none⟩) 1 1) [x] := by
    have hb1 : Blk wB wA.heap.size 35 [.int .u8 x.what, .int .i64 x.i, .int .i64 x.n, .string x.s, .slice KA x.k.length kc] := by rw [hwB]; exact Blk.new wA 35 _
    exact dos_one hb1 hb1.lt hx ((hk.below (hB.trans (hB2.mono hB.size))).up (hB.trans (hB2.mono hB.size)).size)
  have hmuch2 := much_any wB wB.heap.size _ [x] 1 hone (by omega)
  have hsz : wA.heap.size = w.heap.size + 1 := by rw [hwA]; simp
  rw [hsz] at hmuch2
  have c0 := hbx.cell 0
  have c1 := hbx.cell 1
  have c2 := hbx.cell 2
  have c3 := hbx.cell 3
  have c4 := hbx.cell 4
  simp only [List.getElem?_cons_zero, List.getElem?_cons_succ] at c0 c1 c2 c3 c4
  obtain ⟨A0, cc, rfl, hlc, hin, _⟩ := id h
  cases hmf : muchF l 60 with
  | true =>
    rw [hmf] at hmuch
    rw [doV_eq]
    have HB := Lib.hid hB
    clear hmf h hin hmuch2 hk hx hone hbx hA2 hB hsz
    subst hwB
    subst hwA
    go_enter Try.func9, Try.ntmps9
    go_wp2_with fail
    refine hmuch.mono ?_
    rintro e w1 ⟨rfl, rfl⟩
    go_wp2_with fail
    go_ret
    exact ⟨rfl, HB.out⟩
  | false =>
  cases hmg : muchF [x] 1 with
  | true =>
    rw [hmf] at hmuch
    rw [hmg] at hmuch2
    rw [doV_eq]
    have HB := Lib.hid (hB.trans (hB2.mono hB.size))
    clear hmf hmg h hin hk hx hone hbx hA2 hB hB2 hsz
    subst hwB
    subst hwA
    go_enter Try.func9, Try.ntmps9
    go_wp2_with fail
    refine hmuch.mono ?_
    rintro e w1 ⟨rfl, rfl⟩
    go_wp2_with fail
    refine hmuch2.mono ?_
    rintro e w1 ⟨rfl, rfl⟩
    go_wp2_with fail
    go_ret
    exact ⟨rfl, HB.out⟩
  | false =>
  rw [hmf] at hmuch
  rw [hmg] at hmuch2
  obtain ⟨hl, hxs⟩ := much_ok hmf hin
  have hxo : x.OK := (much_ok hmg (by simpa using hx)).2 x (by simp)
  have HXO := Lib.hid hxo
  obtain ⟨D, hD⟩ : ∃ D, D = afterF n l := ⟨_, rfl⟩
  have hsm := after_small n l
  have hon := after_on n l
  have hp := down_pure (afterF n l) (after_left n l) hon x.k x.i
  have HA := Lib.hid (fun (ds : List (Nat × Dev)) (bs : List (Nat × Obj)) (W : World) (h1 : Also w W ds bs) => h1.after_ n hn _ l (by omega) ((h.below h1.below).up h1.below.size) hxs)
  rw [← hD] at hsm HA hon hp
  obtain ⟨F, hF⟩ : ∃ F, F = D.flush.1 := ⟨_, rfl⟩
  rw [← hF] at hp
  obtain ⟨K, hK⟩ : ∃ K, K = F.crash x.k := ⟨_, rfl⟩
  rw [← hK] at hp
  obtain ⟨S, hS⟩ : ∃ S, S = K.start.1 := ⟨_, rfl⟩
  rw [← hS] at hp
  obtain ⟨p1, p2, p3, p4, p5, p6, p7, p8, p9, p10, p11, p12, p13⟩ := hp
  have HK := Lib.hid hk
  have Q1 := Lib.hid p1
  have Q2 := Lib.hid p2
  have Q3 := Lib.hid p3
  have Q4 : Hid (K.acts.length = 0) := by show K.acts.length = 0; rw [p4]; rfl
  have Q5 : Hid (K.starts < 1000000) := by show K.starts < 1000000; omega
  have Q6 := Lib.hid p6
  have Q7 := Lib.hid p7
  have Q8 := Lib.hid p8
  have Q9 := Lib.hid p9
  have Q10 := Lib.hid p10
  have Q11 := Lib.hid p11
  have Q12 := Lib.hid p12
  have Q13 : Hid (S.starts < 1000000) := by show S.starts < 1000000; omega
  have EF := Lib.hid hF
  have EK := Lib.hid hK
  have ES := Lib.hid hS
  have hbb := hB2.block _ hbx.lt
  have H0 : Hid (Also w wB [] [(w.heap.size, .cells #[.int .u8 x.what, .int .i64 x.i, .int .i64 x.n, .string x.s, .slice KA x.k.length kc] 35)]) :=
    ((Also.of (Holds.none_ w)).push hB (Nat.le_refl _) hbx).after hB2
  clear p1 p2 p3 p4 p5 p6 p7 p8 p9 p10 p11 p12 p13 hF hK hS hsm hD h hxs hmf hmg hin hx hxo hone hbx hA2 hB hB2 hk hon hbb hsz
  rw [doV_eq]
  subst hwB
  subst hwA
  go_enter Try.func9, Try.ntmps9
  go_wp2_with fail
  refine hmuch.mono ?_
  rintro e w1 ⟨rfl, rfl⟩
  go_wp2_with fail
  refine hmuch2.mono ?_
  rintro e w1 ⟨rfl, rfl⟩
  clear hmuch hmuch2 c0 c1 c2 c3 c4
  go_wp2_with fail
  refine (HA.out _ _ _ H0.out).mono ?_
  rintro e W1 ⟨g1, rfl, h1⟩
  have H1 : Hid (Also w W1 [(g1, D)] [(w.heap.size, .cells #[.int .u8 x.what, .int .i64 x.i, .int .i64 x.n, .string x.s, .slice KA x.k.length kc] 35)]) := h1
  clear h1 H0
  clear HA
  go_wp2_with fail
  refine (H1.out.flush (i := 0) rfl).mono ?_
  rintro e W2 ⟨rfl, h2⟩
  rw [← EF.out] at h2
  have H2 : Hid (Also w W2 [(g1, F)] [(w.heap.size, .cells #[.int .u8 x.what, .int .i64 x.i, .int .i64 x.n, .string x.s, .slice KA x.k.length kc] 35)]) := h2
  clear h2 H1
  rw [Q1.out]
  go_wp2_with fail
  refine (H2.out.states (i := 0) rfl).mono ?_
  rintro e W3 ⟨l_a, c_a, o_a, rfl, x3, hb3, h3⟩
  have H3 : Hid (Also w W3 [(g1, F)] [(w.heap.size, .cells #[.int .u8 x.what, .int .i64 x.i, .int .i64 x.n, .string x.s, .slice KA x.k.length kc] 35), (l_a, o_a)]) := h3
  clear h3 H2 hb3
  have X_a := Lib.hid x3
  clear x3
  go_wp2_with fail
  refine (H3.out.all (i := 0) rfl).mono ?_
  rintro e W4 ⟨l_b, c_b, o_b, rfl, x4, hb4, h4⟩
  have H4 : Hid (Also w W4 [(g1, F)] [(w.heap.size, .cells #[.int .u8 x.what, .int .i64 x.i, .int .i64 x.n, .string x.s, .slice KA x.k.length kc] 35), (l_a, o_a), (l_b, o_b)]) := h4
  clear h4 H3 hb4
  have X_b := Lib.hid x4
  clear x4
  have z4 : W4.cell? ⟨w.heap.size, 4, none⟩ = some (.slice KA x.k.length kc) := Blk.cell (H4.out.at_ (j := 0) rfl) 4
  go_wp2_with fail
  refine (H4.out.crash (i := 0) rfl (.slice KA x.k.length kc) x.k (fun gs hgs _ => (HK.out.below H4.out.below).reads hgs) HXO.out.k).mono ?_
  rintro e W5 ⟨rfl, h5⟩
  rw [← EK.out] at h5
  have H5 : Hid (Also w W5 [(g1, K)] [(w.heap.size, .cells #[.int .u8 x.what, .int .i64 x.i, .int .i64 x.n, .string x.s, .slice KA x.k.length kc] 35), (l_a, o_a), (l_b, o_b)]) := h5
  clear h5 H4
  rw [Q2.out]
  clear z4
  go_wp2_with fail
  refine (H5.out.holds.up (i := 0) rfl).mono ?_
  rintro e W6 ⟨rfl, rfl⟩
  rw [Q3.out]
  go_wp2_with fail
  go_loopw [10] (fun i wr => ∃ k : Nat, k ≤ 12 ∧ i = .int .u8 k ∧ Hid (Also w wr [(g1, K)] [(w.heap.size, .cells #[.int .u8 x.what, .int .i64 x.i, .int .i64 x.n, .string x.s, .slice KA x.k.length kc] 35), (l_a, o_a), (l_b, o_b)])) (fun i _ => 12 - (intOf i).toNat)
  case atStart => exact ⟨0, by omega, rfl, H5⟩
  case round =>
    obtain ⟨k, hk, rfl, hd⟩ := hrel
    clear H5
    by_cases hlt : k < 12
    · by_cases h9 : k = 9
      · subst h9
        go_wp2_with fail
        go_roundw
        case rel => exact ⟨10, by omega, by go_num, hd⟩
        case measure => simp [intOf]
      · by_cases h10 : k = 10
        · subst h10
          go_wp2_with fail
          go_roundw
          case rel => exact ⟨11, by omega, by go_num, hd⟩
          case measure => simp [intOf]
        · have hk12 : (k : Int) < 12 := by omega
          have e9 : ((k : Int) == 9) = false := by rw [beq_eq_false_iff_ne]; omega
          have e10 : ((k : Int) == 10) = false := by rw [beq_eq_false_iff_ne]; omega
          have hb0 : Blk wr w.heap.size 35 [.int .u8 x.what, .int .i64 x.i, .int .i64 x.n, .string x.s, .slice KA x.k.length kc] := hd.out.at_ (j := 0) rfl
          have z0 := hb0.cell 0
          have z1 := hb0.cell 1
          have z2 := hb0.cell 2
          have z3 := hb0.cell 3
          have z4 := hb0.cell 4
          simp only [List.getElem?_cons_zero, List.getElem?_cons_succ] at z0 z1 z2 z3 z4
          have hyo : PDo.OK { x with what := k } := ⟨(by show k < 256; omega), HXO.out.i0, HXO.out.i1, HXO.out.n0, HXO.out.n1, HXO.out.s, HXO.out.k, HXO.out.ks⟩
          have hdw := down_with K Q3.out { x with what := k } hlt h9 h10
          have hwt := (hd.out.alloc (.cells #[.int .u8 k, .int .i64 x.i, .int .i64 x.n, .string x.s, .slice KA x.k.length kc] 35)).with_ (i := 0) rfl { x with what := k } (.slice KA x.k.length kc) hyo ((HK.out.below hd.out.below).below (Below.alloc (Below.refl _ _) hd.out.below.size _)) (by rw [Q4.out]; omega) Q5.out
          rw [hdw, doV_eq] at hwt
          have HWT := Lib.hid hwt
          clear hwt hdw hyo hb0 h9 h10
          go_wp2_with fail
          refine HWT.out.mono ?_
          rintro e w2 ⟨rfl, h2⟩
          have H2 := Lib.hid h2
          clear h2
          go_wp2_with fail
          go_roundw
          case rel => exact ⟨k + 1, by omega, by go_num, H2.out⟩
          case measure => simp [intOf]; omega
    · obtain rfl : k = 12 := by omega
      have h7 := hd.out
      have H7 : Hid (Also w wr [(g1, K)] [(w.heap.size, .cells #[.int .u8 x.what, .int .i64 x.i, .int .i64 x.n, .string x.s, .slice KA x.k.length kc] 35), (l_a, o_a), (l_b, o_b)]) := h7
      clear h7 hd hlt hk
      have z1 : wr.cell? ⟨w.heap.size, 1, none⟩ = some (.int .i64 x.i) := Blk.cell (H7.out.at_ (j := 0) rfl) 1
      go_wp2_with fail
      refine (H7.out.holds.read (i := 0) rfl x.i HXO.out.i0 HXO.out.i1).mono ?_
      rintro e W8 ⟨rfl, rfl⟩
      rw [Q6.out]
      clear z1
      have hem : ByteArray.empty.toList.isEmpty = true := by rw [empty_iff]; rfl
      go_wp2_with fail
      refine (H7.out.holds.up (i := 0) rfl).mono ?_
      rintro e W9 ⟨rfl, rfl⟩
      rw [Q3.out]
      go_wp2_with fail
      refine (H7.out.start (i := 0) rfl Q5.out).mono ?_
      rintro e W10 ⟨rfl, h10⟩
      rw [← ES.out] at h10
      have H10 : Hid (Also w W10 [(g1, S)] [(w.heap.size, .cells #[.int .u8 x.what, .int .i64 x.i, .int .i64 x.n, .string x.s, .slice KA x.k.length kc] 35), (l_a, o_a), (l_b, o_b)]) := h10
      clear h10 H7
      rw [Q7.out]
      go_wp2_with fail
      refine (H10.out.holds.up (i := 0) rfl).mono ?_
      rintro e W11 ⟨rfl, rfl⟩
      rw [Q8.out]
      go_wp2_with fail
      refine (H10.out.start (i := 0) rfl Q13.out).mono ?_
      rintro e W12 ⟨rfl, h12⟩
      rw [Q10.out] at h12
      have H12 : Hid (Also w W12 [(g1, S)] [(w.heap.size, .cells #[.int .u8 x.what, .int .i64 x.i, .int .i64 x.n, .string x.s, .slice KA x.k.length kc] 35), (l_a, o_a), (l_b, o_b)]) := h12
      clear h12 H10
      rw [Q9.out]
      go_wp2_with fail
      refine (H12.out.states (i := 0) rfl).mono ?_
      rintro e W13 ⟨l_c, c_c, o_c, rfl, x13, hb13, h13⟩
      have H13 : Hid (Also w W13 [(g1, S)] [(w.heap.size, .cells #[.int .u8 x.what, .int .i64 x.i, .int .i64 x.n, .string x.s, .slice KA x.k.length kc] 35), (l_a, o_a), (l_b, o_b), (l_c, o_c)]) := h13
      clear h13 H12 hb13
      have X_c := Lib.hid x13
      clear x13
      go_wp2_with fail
      refine (ints_any _ _ _ (stList S) (stList F) (X_c.out _ (H13.out.at_ (j := 3) rfl)) (X_a.out _ (H13.out.at_ (j := 1) rfl))).mono ?_
      rintro e W14 ⟨rfl, hb14⟩
      have h14 := H13.out.after hb14
      have H14 : Hid (Also w W14 [(g1, S)] [(w.heap.size, .cells #[.int .u8 x.what, .int .i64 x.i, .int .i64 x.n, .string x.s, .slice KA x.k.length kc] 35), (l_a, o_a), (l_b, o_b), (l_c, o_c)]) := h14
      clear h14 H13 hb14
      have q14 : decide (stList S = stList F) = true := decide_eq_true (Q11.out)
      rw [q14]
      clear q14
      go_wp2_with fail
      refine (H14.out.all (i := 0) rfl).mono ?_
      rintro e W15 ⟨l_d, c_d, o_d, rfl, x15, hb15, h15⟩
      have H15 : Hid (Also w W15 [(g1, S)] [(w.heap.size, .cells #[.int .u8 x.what, .int .i64 x.i, .int .i64 x.n, .string x.s, .slice KA x.k.length kc] 35), (l_a, o_a), (l_b, o_b), (l_c, o_c), (l_d, o_d)]) := h15
      clear h15 H14 hb15
      have X_d := Lib.hid x15
      clear x15
      go_wp2_with fail
      refine (texts_any _ _ _ (txList S) (txList F) (X_d.out _ (H15.out.at_ (j := 4) rfl)) (X_b.out _ (H15.out.at_ (j := 2) rfl))).mono ?_
      rintro e W16 ⟨rfl, hb16⟩
      have h16 := H15.out.after hb16
      have H16 : Hid (Also w W16 [(g1, S)] [(w.heap.size, .cells #[.int .u8 x.what, .int .i64 x.i, .int .i64 x.n, .string x.s, .slice KA x.k.length kc] 35), (l_a, o_a), (l_b, o_b), (l_c, o_c), (l_d, o_d)]) := h16
      clear h16 H15 hb16
      have q16 : decide (txList S = txList F) = true := decide_eq_true (Q12.out)
      rw [q16]
      clear q16
      go_wp2_with fail
      refine (does_any _).mono ?_
      rintro e W17 ⟨rfl, hb17⟩
      have h17 := H16.out.after hb17
      have H17 : Hid (Also w W17 [(g1, S)] [(w.heap.size, .cells #[.int .u8 x.what, .int .i64 x.i, .int .i64 x.n, .string x.s, .slice KA x.k.length kc] 35), (l_a, o_a), (l_b, o_b), (l_c, o_c), (l_d, o_d)]) := h17
      clear h17 H16 hb17
      go_wp2_with fail
      go_ret
      exact ⟨rfl, H17.out.below⟩
end Go.Proofs.Ytfmhfgkmoeimeaa
