/- Walks: DeviceSure. -/
import Derived.Test.YtfmhfgkmoeimeaaW20
import Derived.Test.YtfmhfgkmoeimeaaW21
import Derived.Test.YtfmhfgkmoeimeaaP3
import Derived.Test.YtfmhfgkmoeimeaaX3
import Derived.Deep.QuietTactic
import Derived.BigQuiet
namespace Go.Proofs.Ytfmhfgkmoeimeaa
open Go.RowKit

set_option maxHeartbeats 4000000 in
set_option maxRecDepth 100000 in
theorem sure_any (w : World) (n : Nat) (hn : n < 256) (va vb kv : Value) (la lb : List PDo) (ks : List Int) (ha : DosAt w w.heap.size va la) (hb : DosAt w w.heap.size vb lb) (hk : KsAt w w.heap.size kv ks) (_hks : ∀ n ∈ ks, -9223372036854775808 ≤ n ∧ n ≤ 9223372036854775807) :
    Calls Try.prog 3 #[.int .u8 n, .agg #[va, vb], kv] w fun e w' => e = .returned (.bool true) ∧ Below w.heap.size w w' := by
  obtain ⟨KA, kc, rfl, _⟩ := id hk
  obtain ⟨A0, ca, rfl, hlca, hina, _⟩ := id ha
  obtain ⟨B0, cb, rfl, hlcb, hinb, _⟩ := id hb
  obtain ⟨wA, hwA⟩ : ∃ wA, wA = w.alloc (.cells #[.slice A0 la.length ca, .slice B0 lb.length cb] 23) := ⟨_, rfl⟩
  have hB : Below w.heap.size w wA := by rw [hwA]; exact (Below.refl _ _).alloc (Nat.le_refl _) _
  have hbx : Blk wA w.heap.size 23 [.slice A0 la.length ca, .slice B0 lb.length cb] := by rw [hwA]; exact Blk.new w 23 _
  have hmuch := much_any wA w.heap.size _ la 60 (ha.below hB) (by omega)
  have hmuch2 := much_any wA w.heap.size _ lb 60 (hb.below hB) (by omega)
  cases hmf : muchF la 60 with
  | true =>
    rw [hmf] at hmuch
    have HB := Lib.hid hB
    clear hmf ha hb hina hinb hmuch2 hk hbx hB
    subst hwA
    go_enter Try.func3, Try.ntmps3
    go_wp2_with fail
    refine hmuch.mono ?_
    rintro e w1 ⟨rfl, rfl⟩
    go_wp2_with fail
    go_ret
    exact ⟨rfl, HB.out⟩
  | false =>
  cases hmg : muchF lb 60 with
  | true =>
    rw [hmf] at hmuch
    rw [hmg] at hmuch2
    have HB := Lib.hid hB
    clear hmf hmg ha hb hina hinb hk hbx hB
    subst hwA
    go_enter Try.func3, Try.ntmps3
    go_wp2_with fail
    refine hmuch.mono ?_
    rintro e w1 ⟨rfl, rfl⟩
    go_wp2_with fail
    refine hmuch2.mono ?_
    rintro e w1 ⟨rfl, rfl⟩
    go_wp2_with fail
    go_ret
    exact ⟨rfl, HB.out⟩
  | false =>
  rw [hmf] at hmuch
  rw [hmg] at hmuch2
  by_cases hk100 : 100 < ks.length
  · have hkI : (100 : Int) < (ks.length : Int) := by omega
    have HB := Lib.hid hB
    clear hmf hmg ha hb hina hinb hk hbx hB hk100
    subst hwA
    go_enter Try.func3, Try.ntmps3
    go_wp2_with fail
    refine hmuch.mono ?_
    rintro e w1 ⟨rfl, rfl⟩
    go_wp2_with fail
    refine hmuch2.mono ?_
    rintro e w1 ⟨rfl, rfl⟩
    go_wp2_with fail
    go_ret
    exact ⟨rfl, HB.out⟩
  have hkI : (ks.length : Int) ≤ 100 := by omega
  obtain ⟨hl, hxs⟩ := much_ok hmf hina
  obtain ⟨hm, hys⟩ := much_ok hmg hinb
  obtain ⟨D, hD⟩ : ∃ D, D = afterF n la := ⟨_, rfl⟩
  have hsm := after_small n la
  have hon := after_on n la
  have hlf := after_left n la
  have HA := Lib.hid (fun (ds : List (Nat × Dev)) (bs : List (Nat × Obj)) (W : World) (h1 : Also w W ds bs) => h1.after_ n hn _ la (by omega) ((ha.below h1.below).up h1.below.size) hxs)
  rw [← hD] at hsm HA hon hlf
  obtain ⟨F, hF⟩ : ∃ F, F = D.flush.1 := ⟨_, rfl⟩
  have hF2 : D.flush.2 = 0 ∧ F.acts.length = 0 ∧ F.starts = D.starts ∧ F.off = false := by
    rw [hF, D.flush_plain hlf, hon]; exact ⟨rfl, rfl, rfl, rfl⟩
  have hS0 : ∀ gone, Since F F gone := fun gone => by rw [hF]; exact Since.start_ D hlf hon gone
  have S0 := Lib.hid hS0
  have Q1 := Lib.hid hF2.1
  have Q2 := Lib.hid hF2.2.1
  have Q3 : Hid (F.starts ≤ 61) := by show F.starts ≤ 61; rw [hF2.2.2.1]; omega
  have Q4 := Lib.hid hF2.2.2.2
  have EF := Lib.hid hF
  have HH := Lib.hid hb
  have HYS := Lib.hid hys
  have HK := Lib.hid hk
  have H0 : Hid (Also w wA [] [(w.heap.size, .cells #[.slice A0 la.length ca, .slice B0 lb.length cb] 23)]) :=
    (Also.of (Holds.none_ w)).push hB (Nat.le_refl _) hbx
  clear hmf hmg ha hb hina hinb hk hbx hB hxs hys hD hsm hon hlf hF hF2 hS0 hk100
  subst hwA
  go_enter Try.func3, Try.ntmps3
  go_wp2_with fail
  refine hmuch.mono ?_
  rintro e w1 ⟨rfl, rfl⟩
  go_wp2_with fail
  refine hmuch2.mono ?_
  rintro e w1 ⟨rfl, rfl⟩
  clear hmuch hmuch2
  go_wp2_with fail
  refine (HA.out _ _ _ H0.out).mono ?_
  rintro e W1 ⟨g1, rfl, h1⟩
  have H1 : Hid (Also w W1 [(g1, D)] [(w.heap.size, .cells #[.slice A0 la.length ca, .slice B0 lb.length cb] 23)]) := h1
  clear h1 H0
  clear HA
  go_wp2_with fail
  refine (H1.out.flush (i := 0) rfl).mono ?_
  rintro e W2 ⟨rfl, h2⟩
  rw [← EF.out] at h2
  have H2 : Hid (Also w W2 [(g1, F)] [(w.heap.size, .cells #[.slice A0 la.length ca, .slice B0 lb.length cb] 23)]) := h2
  clear h2 H1
  rw [Q1.out]
  go_wp2_with fail
  refine (H2.out.states (i := 0) rfl).mono ?_
  rintro e W3 ⟨l_a, c_a, o_a, rfl, x3, hb3, h3⟩
  have H3 : Hid (Also w W3 [(g1, F)] [(w.heap.size, .cells #[.slice A0 la.length ca, .slice B0 lb.length cb] 23), (l_a, o_a)]) := h3
  clear h3 H2 hb3
  have X_a := Lib.hid x3
  clear x3
  go_wp2_with fail
  refine (H3.out.all (i := 0) rfl).mono ?_
  rintro e W4 ⟨l_b, c_b, o_b, rfl, x4, hb4, h4⟩
  have H4 : Hid (Also w W4 [(g1, F)] [(w.heap.size, .cells #[.slice A0 la.length ca, .slice B0 lb.length cb] 23), (l_a, o_a), (l_b, o_b)]) := h4
  clear h4 H3 hb4
  have X_b := Lib.hid x4
  clear x4
  have hm512 : F.now.length ≤ 512 := (H4.out.holds.ok (i := 0) rfl).max
  have hst0 : Hid (∀ b ∈ F.now, 0 ≤ b.st ∧ b.st ≤ 2) := (H4.out.holds.ok (i := 0) rfl).st
  have hmk := run_mk 33 4 _ 1 1 Try.underlying33 info4 F.now.length (by omega) (by omega)
  have hz : (Value.bool false).cells = #[.bool false] := rfl
  rw [hz, made_one] at hmk
  obtain ⟨M, hMM⟩ : ∃ M : List Value, M = List.replicate F.now.length (.bool false) := ⟨_, rfl⟩
  rw [← hMM] at hmk
  have HMM := Lib.hid hMM
  clear hMM hz
  go_wp2_with fail
  obtain ⟨W5, hW5⟩ : ∃ X, X = W4.alloc (.cells M.toArray 4) := ⟨_, rfl⟩
  have h5 : Also w W5 [(g1, F)] [(w.heap.size, .cells #[.slice A0 la.length ca, .slice B0 lb.length cb] 23), (l_a, o_a), (l_b, o_b), (W4.heap.size, goneO (List.replicate F.now.length false))] := by
    rw [hW5]; exact H4.out.push ((Below.refl _ _).alloc (Nat.le_refl _) _) (Nat.le_refl _) (by rw [gone_start, ← HMM.out]; exact Blk.new _ 4 _)
  rw [← hW5]
  clear hW5 hmk
  have H5 : Hid (Also w W5 [(g1, F)] [(w.heap.size, .cells #[.slice A0 la.length ca, .slice B0 lb.length cb] 23), (l_a, o_a), (l_b, o_b), (W4.heap.size, goneO (List.replicate F.now.length false))]) := h5
  clear h5 H4
  go_loopw [11] (fun i wr => ∃ (k : Nat) (E : Dev) (gl : List Bool), k ≤ lb.length ∧ i = .int .i64 k ∧ E.acts.length ≤ 100 + k ∧ E.starts ≤ 100 + k ∧ gl.length = F.now.length ∧ Hid (Also w wr [(g1, E)] [(w.heap.size, .cells #[.slice A0 la.length ca, .slice B0 lb.length cb] 23), (l_a, o_a), (l_b, o_b), (W4.heap.size, goneO gl)] ∧ Since F E (fun j => gl.getD j false))) (fun i _ => lb.length - (intOf i).toNat)
  case atStart => exact ⟨0, F, List.replicate F.now.length false, by omega, rfl, by rw [Q2.out]; omega, by have := Q3.out; omega, by simp, H5.out, S0.out _⟩
  case round =>
    obtain ⟨k, E, gl, hk, rfl, hac, hst, hgl, hd⟩ := hrel
    clear H5
    have y0 := (show Blk wr w.heap.size 23 [.slice A0 la.length ca, .slice B0 lb.length cb] from hd.out.1.at_ (j := 0) rfl).cell 1
    simp only [List.getElem?_cons_zero, List.getElem?_cons_succ] at y0
    by_cases hlt : k < lb.length
    · obtain ⟨b, off, xv, rfl, z0, z1, z2, z3, z4, hxk⟩ := HH.out.round hd.out.1.below hlt
      obtain ⟨x, hx⟩ : ∃ x, lb[k] = x := ⟨_, rfl⟩
      rw [hx] at z0 z1 z2 z3 hxk
      have hxok : x.OK := HYS.out x (by rw [← hx]; exact List.getElem_mem hlt)
      have hw256 := hxok.what
      have hin0 := hxok.i0
      have hin1 := hxok.i1
      have HXK := Lib.hid hxk
      obtain ⟨XA, xc, rfl, _⟩ := hxk
      have H2 : Hid (Also w (wr.alloc (.cells #[.int .u8 x.what, .int .i64 x.i, .int .i64 x.n, .string x.s, .slice XA x.k.length xc] 35)) [(g1, E)] ([(w.heap.size, .cells #[.slice A0 la.length ca, .slice (some ⟨b, off, none⟩) lb.length cb] 23), (l_a, o_a), (l_b, o_b), (W4.heap.size, goneO gl)] ++ [(wr.heap.size, .cells #[.int .u8 x.what, .int .i64 x.i, .int .i64 x.n, .string x.s, .slice XA x.k.length xc] 35)])) :=
        hd.out.1.push ((Below.refl _ _).alloc (Nat.le_refl _) _) (Nat.le_refl _) (Blk.new wr 35 [.int .u8 x.what, .int .i64 x.i, .int .i64 x.n, .string x.s, .slice XA x.k.length xc])
      clear hx
      by_cases h7 : x.what % 13 < 7
      · have e1 : ¬ 7 ≤ (x.what : Int) % 13 := by omega
        have hwt := H2.out.with_ (i := 0) rfl x (.slice XA x.k.length xc) hxok (HXK.out.below ((Below.refl _ _).alloc hd.out.1.below.size _)) (by omega) (by omega)
        unfold doV at hwt
        have hgrow := withF_grow E x
        have HG := Lib.hid hgrow
        have HWT := Lib.hid hwt
        have HOK : Hid E.OK := hd.out.1.holds.ok (i := 0) rfl
        clear hwt hxok hgrow H2
        go_wp2_with fail
        refine HWT.out.mono ?_
        rintro e w2 ⟨rfl, h2⟩
        have H3 := Lib.hid h2
        have y1 : w2.cell? ⟨wr.heap.size, 1, none⟩ = some (.int .i64 x.i) := (show Blk w2 wr.heap.size 35 [.int .u8 x.what, .int .i64 x.i, .int .i64 x.n, .string x.s, .slice XA x.k.length xc] from h2.at_ (j := 4) rfl).cell 1
        clear h2
        have hgo := H3.out.at_ (j := 3) rfl
        have SN := Lib.hid hd.out.2
        by_cases h5 : x.what % 13 < 5
        · have q5 : ((x.what : Int) % 13 == 5) = false := by rw [beq_eq_false_iff_ne]; omega
          have q6 : ((x.what : Int) % 13 == 6) = false := by rw [beq_eq_false_iff_ne]; omega
          clear hgo
          go_wp2_with fail
          go_roundw
          case rel =>
            refine ⟨k + 1, (withF E x).1, gl, by omega, by go_num, (by have := HG.out.1; omega), (by have := HG.out.2; omega), hgl, Also.pop (bs := [(w.heap.size, .cells #[.slice A0 la.length ca, .slice (some ⟨b, off, none⟩) lb.length cb] 23), (l_a, o_a), (l_b, o_b), (W4.heap.size, goneO gl)]) H3.out, ?_⟩
            exact SN.out.step (fun b hb => (hst0.out b hb).1) HOK.out x h7 (fun _ h => h) (fun h => by omega)
          case measure => simp [intOf]; omega
        · have h56 : (x.what : Int) % 13 = 5 ∨ (x.what : Int) % 13 = 6 := by omega
          by_cases hneg : x.i < 0
          · rcases h56 with q | q
            all_goals
              go_wp2_with fail
              go_roundw
              case rel =>
                refine ⟨k + 1, (withF E x).1, gl, by omega, by go_num, (by have := HG.out.1; omega), (by have := HG.out.2; omega), hgl, Also.pop (bs := [(w.heap.size, .cells #[.slice A0 la.length ca, .slice (some ⟨b, off, none⟩) lb.length cb] 23), (l_a, o_a), (l_b, o_b), (W4.heap.size, goneO gl)]) H3.out, ?_⟩
                exact SN.out.step (fun b hb => (hst0.out b hb).1) HOK.out x h7 (fun _ h => h) (fun _ j hj _ => by omega)
              case measure => simp [intOf]; omega
          · have hpos : 0 ≤ x.i := by omega
            by_cases hbig : (F.now.length : Int) ≤ x.i
            · rcases h56 with q | q
              all_goals
                go_wp2_with fail
                go_roundw
                case rel =>
                  refine ⟨k + 1, (withF E x).1, gl, by omega, by go_num, (by have := HG.out.1; omega), (by have := HG.out.2; omega), hgl, Also.pop (bs := [(w.heap.size, .cells #[.slice A0 la.length ca, .slice (some ⟨b, off, none⟩) lb.length cb] 23), (l_a, o_a), (l_b, o_b), (W4.heap.size, goneO gl)]) H3.out, ?_⟩
                  exact SN.out.step (fun b hb => (hst0.out b hb).1) HOK.out x h7 (fun _ h => h) (fun _ j hj hjl => by omega)
                case measure => simp [intOf]; omega
            · obtain ⟨m, hm⟩ : ∃ m : Nat, x.i = m := ⟨x.i.toNat, by omega⟩
              have hml : m < gl.length := by omega
              have y2 := gone_cell hgo hml
              have f2 := (gone_blk hgo).frozen m
              have hI : (m : Int) < (F.now.length : Int) := by omega
              have hm0 : (0 : Int) ≤ (m : Int) := by omega
              have HMI := Lib.hid hm
              rw [hm] at y1
              clear hneg hpos hbig hgo hm
              rcases h56 with q | q
              all_goals
                go_wp2_with fail
                go_roundw
                case rel =>
                  refine ⟨k + 1, (withF E x).1, (gl.set m true), by omega, by go_num, (by have := HG.out.1; omega), (by have := HG.out.2; omega), (by simpa using hgl), Also.pop (bs := [(w.heap.size, .cells #[.slice A0 la.length ca, .slice (some ⟨b, off, none⟩) lb.length cb] 23), (l_a, o_a), (l_b, o_b), (W4.heap.size, goneO (gl.set m true))]) (H3.out.mark (m := m) (j := 3) rfl), ?_⟩
                  exact SN.out.step (fun b hb => (hst0.out b hb).1) HOK.out x h7 mark_more (fun _ j hj hjl => by have := HMI.out; obtain rfl : j = m := (by omega); exact mark_here hml)
                case measure => simp [intOf]; omega
      · have e1 : 7 ≤ (x.what : Int) % 13 := by omega
        go_wp2_with fail
        go_roundw
        case rel => exact ⟨k + 1, E, gl, by omega, by go_num, by omega, by omega, hgl, Also.pop (bs := [(w.heap.size, .cells #[.slice A0 la.length ca, .slice (some ⟨b, off, none⟩) lb.length cb] 23), (l_a, o_a), (l_b, o_b), (W4.heap.size, goneO gl)]) H2.out, hd.out.2⟩
        case measure => simp [intOf]; omega
    · obtain rfl : k = lb.length := by omega
      have h6 := hd.out.1
      have SN := Lib.hid hd.out.2
      have H6 : Hid (Also w wr [(g1, E)] [(w.heap.size, .cells #[.slice A0 la.length ca, .slice B0 lb.length cb] 23), (l_a, o_a), (l_b, o_b), (W4.heap.size, goneO gl)]) := h6
      clear h6 hd hlt hk
      have hend := SN.out.end_ ks
      have hes : (E.crash ks).starts = E.starts := by unfold Dev.crash; rw [SN.out.on]; rfl
      obtain ⟨C, hC⟩ : ∃ C, C = E.crash ks := ⟨_, rfl⟩
      rw [← hC] at hend hes
      obtain ⟨S, hS⟩ : ∃ S, S = C.start.1 := ⟨_, rfl⟩
      rw [← hS] at hend
      obtain ⟨e1, e2, e3, e4, e5, e6⟩ := hend
      have R1 := Lib.hid e1
      have R2 : Hid (S.acts.length = 0) := by show S.acts.length = 0; rw [e2]; rfl
      have R3 := Lib.hid e3
      have R4 := Lib.hid e4
      have R5 := Lib.hid e5
      have R6 := Lib.hid e6
      have R7 : Hid (C.starts < 1000000) := by show C.starts < 1000000; omega
      have EC := Lib.hid hC
      have ES := Lib.hid hS
      clear e1 e2 e3 e4 e5 e6 hC hS hes hac hst
      go_wp2_with fail
      refine (H6.out.crash (i := 0) rfl (.slice KA ks.length kc) ks (fun gs hgs _ => (HK.out.below H6.out.below).reads hgs) (by omega)).mono ?_
      rintro e W7 ⟨rfl, h7⟩
      rw [← EC.out] at h7
      have H7 : Hid (Also w W7 [(g1, C)] [(w.heap.size, .cells #[.slice A0 la.length ca, .slice B0 lb.length cb] 23), (l_a, o_a), (l_b, o_b), (W4.heap.size, goneO gl)]) := h7
      clear h7 H6
      rw [R4.out]
      go_wp2_with fail
      refine (H7.out.start (i := 0) rfl R7.out).mono ?_
      rintro e W8 ⟨rfl, h8⟩
      rw [← ES.out] at h8
      have H8 : Hid (Also w W8 [(g1, S)] [(w.heap.size, .cells #[.slice A0 la.length ca, .slice B0 lb.length cb] 23), (l_a, o_a), (l_b, o_b), (W4.heap.size, goneO gl)]) := h8
      clear h8 H7
      rw [R5.out]
      go_wp2_with fail
      refine (H8.out.states (i := 0) rfl).mono ?_
      rintro e W9 ⟨l_c, c_c, o_c, rfl, x9, hb9, h9⟩
      have H9 : Hid (Also w W9 [(g1, S)] [(w.heap.size, .cells #[.slice A0 la.length ca, .slice B0 lb.length cb] 23), (l_a, o_a), (l_b, o_b), (W4.heap.size, goneO gl), (l_c, o_c)]) := h9
      clear h9 H8 hb9
      have X_c := Lib.hid x9
      clear x9
      rw [R1.out]
      go_wp2_with fail
      refine (H9.out.all (i := 0) rfl).mono ?_
      rintro e W10 ⟨l_d, c_d, o_d, rfl, x10, hb10, h10⟩
      have H10 : Hid (Also w W10 [(g1, S)] [(w.heap.size, .cells #[.slice A0 la.length ca, .slice B0 lb.length cb] 23), (l_a, o_a), (l_b, o_b), (W4.heap.size, goneO gl), (l_c, o_c), (l_d, o_d)]) := h10
      clear h10 H9 hb10
      have X_d := Lib.hid x10
      clear x10
      rw [R1.out]
      go_wp2_with fail
      go_loopw [16] (fun i wz => ∃ j : Nat, j ≤ F.now.length ∧ i = .int .i64 j ∧ Hid (Also w wz [(g1, S)] [(w.heap.size, .cells #[.slice A0 la.length ca, .slice B0 lb.length cb] 23), (l_a, o_a), (l_b, o_b), (W4.heap.size, goneO gl), (l_c, o_c), (l_d, o_d)])) (fun i _ => F.now.length - (intOf i).toNat)
      case atStart => exact ⟨0, by omega, rfl, H10⟩
      case round =>
        obtain ⟨j, hj, rfl, hz⟩ := hrel
        clear H10
        by_cases hjl : j < F.now.length
        · have hjs : j < S.now.length := by rw [R1.out]; exact hjl
          have y1 := (X_a.out _ (hz.out.at_ (j := 1) rfl)).cell (st_at hjl)
          have y2 := (X_b.out _ (hz.out.at_ (j := 2) rfl)).cell (tx_at hjl)
          have y3 := (X_c.out _ (hz.out.at_ (j := 4) rfl)).cell (st_at hjs)
          have y4 := (X_d.out _ (hz.out.at_ (j := 5) rfl)).cell (tx_at hjs)
          have y5 := gone_cell (j := j) (hz.out.at_ (j := 3) rfl) (by omega)
          have hjI : (j : Int) < (F.now.length : Int) := by omega
          have hj0 : (0 : Int) ≤ (j : Int) := by omega
          have hst := hst0.out _ (pbAt_mem hjl)
          have h6 := R6.out j hjl
          have h3 : (pbAt F.now j).st = 0 ∨ (pbAt F.now j).st = 1 ∨ (pbAt F.now j).st = 2 := by omega
          rcases h3 with s0 | s0 | s0
          · rw [s0] at y1
            clear h6 hst s0 y2 y3 y4 y5
            go_wp2_with fail
            go_quiet (fail)
            go_wp2_with fail
            go_roundw
            case rel => exact ⟨j + 1, by omega, by go_num, hz.out.drewN _⟩
            case measure => simp [intOf]; omega
          · cases hgj : gl.getD j false with
            | true =>
              rw [hgj] at y5
              rw [s0] at y1
              clear h6 hst s0 y2 y3 y4 hgj
              go_wp2_with fail
              go_quiet (fail)
              go_wp2_with fail
              go_roundw
              case rel => exact ⟨j + 1, by omega, by go_num, hz.out.drewN _⟩
              case measure => simp [intOf]; omega
            | false =>
              have hsame := h6 (.inr ⟨s0, hgj⟩)
              have hrs := read_same (D := F) (E := S) (Q4.out.trans R3.out.symm) hjl hjs hsame
              rw [hgj] at y5
              rw [hsame, s0] at y3
              rw [s0] at y1
              rw [hrs] at y4
              obtain ⟨tv, htv⟩ : ∃ tv, tv = (F.read j).1 := ⟨_, rfl⟩
              rw [← htv] at y2 y4
              have hteq : (tv.toList == tv.toList) = true := by simp
              clear h6 hst s0 hgj hsame hrs htv
              go_wp2_with fail
              go_quiet (fail)
              go_wp2_with fail
              go_roundw
              case rel => exact ⟨j + 1, by omega, by go_num, hz.out.drewN _⟩
              case measure => simp [intOf]; omega
          · have hsame := h6 (.inl s0)
            rw [hsame, s0] at y3
            rw [s0] at y1
            clear h6 hst s0 hsame y2 y4 y5
            go_wp2_with fail
            go_quiet (fail)
            go_wp2_with fail
            go_roundw
            case rel => exact ⟨j + 1, by omega, by go_num, hz.out.drewN _⟩
            case measure => simp [intOf]; omega
        · obtain rfl : j = F.now.length := by omega
          go_wp2_with fail
          refine (hz.out.holds.pending (i := 0) rfl).mono ?_
          rintro e w2 ⟨rfl, rfl⟩
          rw [R2.out]
          go_wp2_with fail
          refine (does_any _).mono ?_
          rintro e w2 ⟨rfl, hb⟩
          go_wp2_with fail
          go_ret
          exact ⟨rfl, hz.out.below.trans (hb.mono hz.out.below.size)⟩
end Go.Proofs.Ytfmhfgkmoeimeaa
