/- Walks: DeviceTorn. -/
import Derived.Test.YtfmhfgkmoeimeaaW20
import Derived.Test.YtfmhfgkmoeimeaaW21
import Derived.Test.YtfmhfgkmoeimeaaP7
import Derived.Test.YtfmhfgkmoeimeaaBs
import Derived.Test.YtfmhfgkmoeimeaaX3
import Derived.Deep.QuietTactic
import Derived.BigQuiet
import Derived.Deep.Cut
import Derived.Deep.RegionHeld3
import Derived.BigRegion
namespace Go.Proofs.Ytfmhfgkmoeimeaa
open Go.RowKit

set_option maxHeartbeats 40000000 in
set_option maxRecDepth 100000 in
theorem ltorn_any (w : World) (n : Nat) (hn : n < 256) (v : Value) (l : List PDo) (S : ByteArray) (va vb vk : Value) (ws es : List Nat) (ks : List Int) (h : DosAt w w.heap.size v l) (ha : BsAt w w.heap.size va ws) (hb : BsAt w w.heap.size vb es) (hk : KsAt w w.heap.size vk ks) :
    Calls Try.prog 4 #[.int .u8 n, v, .agg #[.string S, va, vb, vk]] w fun e w' => e = .returned (.bool true) ∧ Below w.heap.size w w' := by
  obtain ⟨WA, wn, rfl, hWA⟩ := id ha
  obtain ⟨EA, en, rfl, hEA⟩ := id hb
  obtain ⟨KA, kn, rfl, _⟩ := id hk
  obtain ⟨A0, ca, rfl, hlca, hina, _⟩ := id h
  obtain ⟨wA, hwA⟩ : ∃ wA, wA = w.alloc (.cells #[.string S, .slice WA ws.length wn, .slice EA es.length en, .slice KA ks.length kn] 43) := ⟨_, rfl⟩
  have hB : Below w.heap.size w wA := by rw [hwA]; exact (Below.refl _ _).alloc (Nat.le_refl _) _
  have hbx : Blk wA w.heap.size 43 [.string S, .slice WA ws.length wn, .slice EA es.length en, .slice KA ks.length kn] := by rw [hwA]; exact Blk.new w 43 _
  have hmuch := much_any wA w.heap.size _ l 60 (h.below hB) (by omega)
  have z0 := hbx.cell 0
  have z1 := hbx.cell 1
  have z2 := hbx.cell 2
  have z3 := hbx.cell 3
  simp only [List.getElem?_cons_zero, List.getElem?_cons_succ] at z0 z1 z2 z3
  cases hmf : muchF l 60 with
  | true =>
    rw [hmf] at hmuch
    have HB := Lib.hid hB
    clear hmf h ha hb hina hk hbx hB hWA hEA
    go_enter Try.func4, Try.ntmps4
    subst hwA
    go_wp2_with fail
    refine hmuch.mono ?_
    rintro e w1 ⟨rfl, rfl⟩
    go_wp2_with fail
    go_ret
    exact ⟨rfl, HB.out⟩
  | false =>
  rw [hmf] at hmuch
  by_cases k1 : 100 < ks.length
  · have gI : (100 : Int) < (ks.length : Int) := by omega
    have HB := Lib.hid hB
    clear hmf h ha hb hina hk hbx hB hWA hEA k1
    go_enter Try.func4, Try.ntmps4
    subst hwA
    go_wp2_with fail
    refine hmuch.mono ?_
    rintro e w1 ⟨rfl, rfl⟩
    go_wp2_with fail
    go_ret
    exact ⟨rfl, HB.out⟩
  have i_k1 : (ks.length : Int) ≤ 100 := by omega
  by_cases k2 : 200 < S.size
  · have gI : (200 : Int) < (S.size : Int) := by omega
    have HB := Lib.hid hB
    clear hmf h ha hb hina hk hbx hB hWA hEA k2
    go_enter Try.func4, Try.ntmps4
    subst hwA
    go_wp2_with fail
    refine hmuch.mono ?_
    rintro e w1 ⟨rfl, rfl⟩
    go_wp2_with fail
    go_ret
    exact ⟨rfl, HB.out⟩
  have i_k2 : (S.size : Int) ≤ 200 := by omega
  by_cases k3 : 30 < ws.length
  · have gI : (30 : Int) < (ws.length : Int) := by omega
    have HB := Lib.hid hB
    clear hmf h ha hb hina hk hbx hB hWA hEA k3
    go_enter Try.func4, Try.ntmps4
    subst hwA
    go_wp2_with fail
    refine hmuch.mono ?_
    rintro e w1 ⟨rfl, rfl⟩
    go_wp2_with fail
    go_ret
    exact ⟨rfl, HB.out⟩
  have i_k3 : (ws.length : Int) ≤ 30 := by omega
  by_cases k4 : 30 < es.length
  · have gI : (30 : Int) < (es.length : Int) := by omega
    have HB := Lib.hid hB
    clear hmf h ha hb hina hk hbx hB hWA hEA k4
    go_enter Try.func4, Try.ntmps4
    subst hwA
    go_wp2_with fail
    refine hmuch.mono ?_
    rintro e w1 ⟨rfl, rfl⟩
    go_wp2_with fail
    go_ret
    exact ⟨rfl, HB.out⟩
  have i_k4 : (es.length : Int) ≤ 30 := by omega
  obtain ⟨hl, hxs⟩ := much_ok hmf hina
  obtain ⟨D, hD⟩ : ∃ D, D = afterF n l := ⟨_, rfl⟩
  have hsm := after_small n l
  have hon := after_on n l
  have hlf := after_left n l
  have HA := Lib.hid (fun (ds : List (Nat × Dev)) (bs : List (Nat × Obj)) (W : World) (h1 : Also w W ds bs) => h1.after_ n hn _ l (by omega) ((h.below h1.below).up h1.below.size) hxs)
  rw [← hD] at hsm HA hon hlf
  obtain ⟨F, hF⟩ : ∃ F, F = D.flush.1 := ⟨_, rfl⟩
  have hF2 : D.flush.2 = 0 ∧ F.acts.length = 0 ∧ F.starts = D.starts ∧ F.off = false := by
    rw [hF, D.flush_plain hlf, hon]; exact ⟨rfl, rfl, rfl, rfl⟩
  have hS0 : ∀ b, TornIn F F b (fun _ => false) (fun _ => false) := fun b => by rw [hF]; exact TornIn.start_ D hlf hon b
  have S0 := Lib.hid hS0
  have Q1 := Lib.hid hF2.1
  have Q2 := Lib.hid hF2.2.1
  have Q3 : Hid (F.starts ≤ 61) := by show F.starts ≤ 61; rw [hF2.2.2.1]; omega
  have Q4 := Lib.hid hF2.2.2.2
  have EF := Lib.hid hF
  have HWA := Lib.hid ha
  have HEA := Lib.hid hb
  have HK := Lib.hid hk
  have hS200 : S.size ≤ 140737488351232 := by omega
  have H0 : Hid (Also w wA [] [(w.heap.size, .cells #[.string S, .slice WA ws.length wn, .slice EA es.length en, .slice KA ks.length kn] 43)]) := (Also.of (Holds.none_ w)).push hB (Nat.le_refl _) hbx
  clear hmf h ha hb hina hk hbx hB hWA hEA hxs hD hsm hon hlf hF hF2 hS0
  go_enter Try.func4, Try.ntmps4
  go_wp2_with fail
  rw [← hwA]
  clear hwA
  refine hmuch.mono ?_
  rintro e w1 ⟨rfl, rfl⟩
  clear hmuch
  go_wp2_with fail
  refine (HA.out _ _ _ H0.out).mono ?_
  rintro e W1 ⟨g1, rfl, h1⟩
  have H1 : Hid (Also w W1 [(g1, D)] [(w.heap.size, .cells #[.string S, .slice WA ws.length wn, .slice EA es.length en, .slice KA ks.length kn] 43)]) := h1
  clear h1 H0
  clear HA z0 z1 z2 z3
  go_wp2_with fail
  refine (H1.out.flush (i := 0) rfl).mono ?_
  rintro e W2 ⟨rfl, h2⟩
  rw [← EF.out] at h2
  have H2 : Hid (Also w W2 [(g1, F)] [(w.heap.size, .cells #[.string S, .slice WA ws.length wn, .slice EA es.length en, .slice KA ks.length kn] 43)]) := h2
  clear h2 H1
  rw [Q1.out]
  go_wp2_with fail
  refine (H2.out.states (i := 0) rfl).mono ?_
  rintro e W3 ⟨l_a, c_a, o_a, rfl, x3, hb3, h3⟩
  have H3 : Hid (Also w W3 [(g1, F)] [(w.heap.size, .cells #[.string S, .slice WA ws.length wn, .slice EA es.length en, .slice KA ks.length kn] 43), (l_a, o_a)]) := h3
  clear h3 H2 hb3
  have X_a := Lib.hid x3
  clear x3
  go_wp2_with fail
  refine (H3.out.all (i := 0) rfl).mono ?_
  rintro e W4 ⟨l_b, c_b, o_b, rfl, x4, hb4, h4⟩
  have H4 : Hid (Also w W4 [(g1, F)] [(w.heap.size, .cells #[.string S, .slice WA ws.length wn, .slice EA es.length en, .slice KA ks.length kn] 43), (l_a, o_a), (l_b, o_b)]) := h4
  clear h4 H3 hb4
  have X_b := Lib.hid x4
  clear x4
  have hok := H4.out.holds.ok (i := 0) rfl
  have hm512 : F.now.length ≤ 512 := hok.max
  have hm4 : 4 ≤ F.now.length := hok.pos
  have hst0 : Hid (∀ b ∈ F.now, 0 ≤ b.st ∧ b.st ≤ 2) := hok.st
  have hm0 : ((F.now.length : Int) == 0) = false := by rw [beq_eq_false_iff_ne]; omega
  have hmne : ¬ ((F.now.length : Int) = 0) := by omega
  have z0 := Blk.cell (H4.out.at_ (j := 0) rfl) 0
  clear hok
  go_wp2_with fail
  refine (block_fn _ S hS200).mono ?_
  rintro e W90 ⟨rfl, hb90⟩
  have h90 := H4.out.after hb90
  have H90 : Hid (Also w W90 [(g1, F)] [(w.heap.size, .cells #[.string S, .slice WA ws.length wn, .slice EA es.length en, .slice KA ks.length kn] 43), (l_a, o_a), (l_b, o_b)]) := h90
  clear h90 H4 hb90
  obtain ⟨bb, hbb⟩ : ∃ bb, bb = blockF S := ⟨_, rfl⟩
  rw [← hbb]
  have hbs : bb.size = 128 := by rw [hbb]; exact blockF_size S
  clear hbb z0 hS200
  have hmk := run_mk 33 4 _ 1 1 Try.underlying33 info4 F.now.length (by omega) (by omega)
  have hz : (Value.bool false).cells = #[.bool false] := rfl
  rw [hz, made_one] at hmk
  obtain ⟨M, hMM⟩ : ∃ M : List Value, M = List.replicate F.now.length (.bool false) := ⟨_, rfl⟩
  rw [← hMM] at hmk
  have HMM := Lib.hid hMM
  clear hMM hz
  go_upto_region 11 with fail
  go_cut [12, 13] from 23 (fun s12 s13 wc => ∃ b1 b2, s12 = .slice (some ⟨b1, 0, none⟩) F.now.length F.now.length ∧ s13 = .slice (some ⟨b2, 0, none⟩) F.now.length F.now.length ∧ Hid (Also w wc [(g1, F)] [(w.heap.size, .cells #[.string S, .slice WA ws.length wn, .slice EA es.length en, .slice KA ks.length kn] 43), (l_a, o_a), (l_b, o_b), (b1, goneO (List.replicate F.now.length false)), (b2, goneO (List.replicate F.now.length false))]))
  case first =>
    go_region_with fail
    all_goals
      go_wp2_with fail
      go_meet
      first
        | exact ⟨_, _, rfl, rfl, (H90.out.push2 ((Below.refl _ _).alloc (Nat.le_refl _) _ |>.alloc (by simp) _ |>.drew) (b := W90.heap.size) (c := W90.heap.size + 1) (Nat.le_refl _) (by omega) (by omega) (by rw [gone_start, ← HMM.out]; exact (Blk.new _ 4 _).alloc _) (by rw [gone_start, ← HMM.out]; have := Blk.new (W90.alloc (.cells M.toArray 4)) 4 M; simp at this; exact this))⟩
        | exact ⟨W90.heap.size + 1, W90.heap.size, rfl, rfl, (H90.out.push2 ((Below.refl _ _).alloc (Nat.le_refl _) _ |>.alloc (by simp) _ |>.drew) (b := W90.heap.size + 1) (c := W90.heap.size) (by omega) (Nat.le_refl _) (by omega) (by rw [gone_start, ← HMM.out]; have := Blk.new (W90.alloc (.cells M.toArray 4)) 4 M; simp at this; exact this) (by rw [gone_start, ← HMM.out]; exact (Blk.new _ 4 _).alloc _))⟩
  case rest =>
    obtain ⟨b1, b2, rfl, rfl, H91⟩ := hcut
    clear hmk HMM H90
    go_wp2_with fail
    go_loopw [14] (fun s14 wr => ∃ (j : Nat) (E : Dev) (gl : List Bool), j ≤ ws.length ∧ s14 = .int .i64 j ∧ E.acts.length ≤ j ∧ E.starts ≤ 61 ∧ gl.length = F.now.length ∧ Hid (TornIn F E bb (fun i => gl.getD i false) (fun _ => false)) ∧ Hid (Also w wr [(g1, E)] [(w.heap.size, .cells #[.string S, .slice WA ws.length wn, .slice EA es.length en, .slice KA ks.length kn] 43), (l_a, o_a), (l_b, o_b), (b1, goneO gl), (b2, goneO (List.replicate F.now.length false))])) (fun s14 _ => ws.length - (intOf s14).toNat)
    case atStart =>
      refine ⟨0, F, (List.replicate F.now.length false), by omega, rfl, by rw [Q2.out]; omega, Q3.out, by simp, ?_, H91⟩
      have e : (fun i => (List.replicate F.now.length false).getD i false) = fun _ => false := by funext i; rw [List.getD_eq_getElem?_getD, List.getElem?_replicate]; split <;> rfl
      rw [e]; exact S0.out bb
    case round =>
      obtain ⟨j, E, gl, hj, rfl, hac, hst, hgl, hT, hd⟩ := hrel
      clear H91
      have z1 := (show Blk wr w.heap.size 43 [.string S, .slice WA ws.length wn, .slice EA es.length en, .slice KA ks.length kn] from hd.out.at_ (j := 0) rfl).cell 1
      simp only [List.getElem?_cons_zero, List.getElem?_cons_succ] at z1
      by_cases hlt : j < ws.length
      · obtain ⟨A', c', he, hc⟩ := HWA.out.below hd.out.below
        injection he with he1 he2 he3
        obtain ⟨ad, hA, _, zb, hy256⟩ := hc j hlt
        subst he1 he3
        subst hA
        clear hc he2
        obtain ⟨y, hy⟩ : ∃ y, ws.getD j 0 = y := ⟨_, rfl⟩
        rw [hy] at zb hy256
        clear hy
        obtain ⟨q, hql, hq1⟩ := pick_mod y F.now.length hy256 (by omega)
        have HQ := Lib.hid hq1
        clear hq1 hy256
        have hTW := hT.out.write (hd.out.holds.ok (i := 0) rfl) q (wr' := fun i => (gl.set q (decide ((E.write q bb).2 = 0) || gl.getD q false)).getD i false) (fun i => setD gl _ (by omega) i)
        obtain ⟨E2, hE1⟩ : ∃ E2, (E.write q bb).1 = E2 := ⟨_, rfl⟩
        obtain ⟨e2, hE2⟩ : ∃ e2, (E.write q bb).2 = e2 := ⟨_, rfl⟩
        rw [hE1, hE2] at hTW
        have HTW := Lib.hid hTW
        have hqI : (q : Int) < (F.now.length : Int) := by omega
        have hq0 : (0 : Int) ≤ (q : Int) := by omega
        clear hTW
        go_wp2_with fail
        rw [HQ.out]
        refine (hd.out.write (i := 0) rfl q bb (by omega) (by omega) (by omega) (by omega)).mono ?_
        rintro e w2 ⟨rfl, h2⟩
        rw [hE1] at h2
        have H2 : Hid (Also w w2 [(g1, E2)] [(w.heap.size, .cells #[.string S, .slice (some ad) ws.length wn, .slice EA es.length en, .slice KA ks.length kn] 43), (l_a, o_a), (l_b, o_b), (b1, goneO gl), (b2, goneO (List.replicate F.now.length false))]) := h2
        rw [hE2]
        clear h2 hd hE1 hE2 z1 zb
        have hgo := H2.out.at_ (j := 3) rfl
        have f2 := (gone_blk hgo).frozen q
        by_cases he0 : e2 = 0
        · have HTW2 := HTW.out
          rw [show decide (e2 = 0) = true from decide_eq_true he0, Bool.true_or] at HTW2
          have HT2 := Lib.hid HTW2
          subst he0
          have y2 := gone_cell hgo (show q < gl.length by omega)
          clear hgo HTW HTW2
          go_wp2_with fail
          go_roundw
          case rel => exact ⟨j + 1, E2, gl.set q true, by omega, by go_num, (by have := HT2.out.2.1; omega), (by have := HT2.out.2.2; omega), (by simpa using hgl), HT2.out.1, H2.out.markv true (m := q) (j := 3) rfl⟩
          case measure => simp [intOf]; omega
        · have HTW2 := HTW.out
          rw [show decide (e2 = 0) = false from decide_eq_false he0, Bool.false_or] at HTW2
          have HT2 := Lib.hid HTW2
          have he1 : (e2 == 0) = false := by rw [beq_eq_false_iff_ne]; exact he0
          have y2 := gone_cell hgo (show q < gl.length by omega)
          obtain ⟨gv, hgv⟩ : ∃ gv, gl.getD q false = gv := ⟨_, rfl⟩
          rw [hgv] at y2
          have HGV := Lib.hid hgv
          clear hgo HTW HTW2 he0 hgv
          go_wp2_with fail
          go_roundw
          case rel => exact ⟨j + 1, E2, gl.set q gv, by omega, by go_num, (by have := HT2.out.2.1; omega), (by have := HT2.out.2.2; omega), (by simpa using hgl), (by have h := HT2.out.1; rw [HGV.out] at h; exact h), H2.out.markv gv (m := q) (j := 3) rfl⟩
          case measure => simp [intOf]; omega
      · obtain rfl : j = ws.length := by omega
        clear hlt hj
        go_wp2_with fail
        clear z1
        go_loopw [16] (fun s16 wr => ∃ (j : Nat) (E : Dev) (el : List Bool), j ≤ es.length ∧ s16 = .int .i64 j ∧ E.acts.length ≤ 100 + j ∧ E.starts ≤ 61 ∧ el.length = F.now.length ∧ Hid (TornIn F E bb (fun i => gl.getD i false) (fun i => el.getD i false)) ∧ Hid (Also w wr [(g1, E)] [(w.heap.size, .cells #[.string S, .slice WA ws.length wn, .slice EA es.length en, .slice KA ks.length kn] 43), (l_a, o_a), (l_b, o_b), (b1, goneO gl), (b2, goneO el)])) (fun s16 _ => es.length - (intOf s16).toNat)
        case atStart =>
          refine ⟨0, E, (List.replicate F.now.length false), by omega, rfl, by omega, hst, by simp, ?_, hd⟩
          have e : (fun i => (List.replicate F.now.length false).getD i false) = fun _ => false := by funext i; rw [List.getD_eq_getElem?_getD, List.getElem?_replicate]; split <;> rfl
          rw [e]; exact hT
        case round =>
          clear hT hd hac hst
          obtain ⟨j, E, el, hj, rfl, hac, hst, hel, hT, hd⟩ := hrel
          have z2 := (show Blk wr w.heap.size 43 [.string S, .slice WA ws.length wn, .slice EA es.length en, .slice KA ks.length kn] from hd.out.at_ (j := 0) rfl).cell 2
          simp only [List.getElem?_cons_zero, List.getElem?_cons_succ] at z2
          by_cases hlt : j < es.length
          · obtain ⟨A', c', he, hc⟩ := HEA.out.below hd.out.below
            injection he with he1 he2 he3
            obtain ⟨ad, hA, _, zb, hy256⟩ := hc j hlt
            subst he1 he3
            subst hA
            clear hc he2
            obtain ⟨y, hy⟩ : ∃ y, es.getD j 0 = y := ⟨_, rfl⟩
            rw [hy] at zb hy256
            clear hy
            obtain ⟨q, hql, hq1⟩ := pick_mod y F.now.length hy256 (by omega)
            have HQ := Lib.hid hq1
            clear hq1 hy256
            have hqI : (q : Int) < (F.now.length : Int) := by omega
            have hq0 : (0 : Int) ≤ (q : Int) := by omega
            go_upto_region 21 with fail
            rw [HQ.out]
            clear HQ zb
            have yg := gone_cell (hd.out.at_ (j := 3) rfl) (show q < gl.length by omega)
            cases hgq : gl.getD q false with
            | true =>
              rw [hgq] at yg
              clear hgq
              go_wp2_with fail
              go_roundw
              case rel => exact ⟨j + 1, E, el, by omega, by go_num, by omega, hst, hel, hT, hd⟩
              case measure => simp [intOf]; omega
            | false =>
              rw [hgq] at yg
              have hTW := hT.out.erase (hd.out.holds.ok (i := 0) rfl) q hgq (er' := fun i => (el.set q (decide ((E.erase q).2 = 0) || el.getD q false)).getD i false) (fun i => setD el _ (by omega) i)
              obtain ⟨E2, hE1⟩ : ∃ E2, (E.erase q).1 = E2 := ⟨_, rfl⟩
              obtain ⟨e2, hE2⟩ : ∃ e2, (E.erase q).2 = e2 := ⟨_, rfl⟩
              rw [hE1, hE2] at hTW
              have HTW := Lib.hid hTW
              clear hTW hgq
              go_wp2_with fail
              refine (hd.out.erase (i := 0) rfl q (by omega) (by omega) (by omega)).mono ?_
              rintro e w2 ⟨rfl, h2⟩
              rw [hE1] at h2
              have H2 : Hid (Also w w2 [(g1, E2)] [(w.heap.size, .cells #[.string S, .slice WA ws.length wn, .slice (some ad) es.length en, .slice KA ks.length kn] 43), (l_a, o_a), (l_b, o_b), (b1, goneO gl), (b2, goneO el)]) := h2
              rw [hE2]
              clear h2 hd hE1 hE2 z2 yg
              have hgo := H2.out.at_ (j := 4) rfl
              have f2 := (gone_blk hgo).frozen q
              by_cases he0 : e2 = 0
              · have HTW2 := HTW.out
                rw [show decide (e2 = 0) = true from decide_eq_true he0, Bool.true_or] at HTW2
                have HT2 := Lib.hid HTW2
                subst he0
                have y2 := gone_cell hgo (show q < el.length by omega)
                clear hgo HTW HTW2
                go_wp2_with fail
                go_roundw
                case rel => exact ⟨j + 1, E2, el.set q true, by omega, by go_num, (by have := HT2.out.2.1; omega), (by have := HT2.out.2.2; omega), (by simpa using hel), HT2.out.1, H2.out.markv true (m := q) (j := 4) rfl⟩
                case measure => simp [intOf]; omega
              · have HTW2 := HTW.out
                rw [show decide (e2 = 0) = false from decide_eq_false he0, Bool.false_or] at HTW2
                have HT2 := Lib.hid HTW2
                have he1 : (e2 == 0) = false := by rw [beq_eq_false_iff_ne]; exact he0
                have y2 := gone_cell hgo (show q < el.length by omega)
                obtain ⟨gv, hgv⟩ : ∃ gv, el.getD q false = gv := ⟨_, rfl⟩
                rw [hgv] at y2
                have HGV := Lib.hid hgv
                clear hgo HTW HTW2 he0 hgv
                go_wp2_with fail
                go_roundw
                case rel => exact ⟨j + 1, E2, el.set q gv, by omega, by go_num, (by have := HT2.out.2.1; omega), (by have := HT2.out.2.2; omega), (by simpa using hel), (by have h := HT2.out.1; rw [HGV.out] at h; exact h), H2.out.markv gv (m := q) (j := 4) rfl⟩
                case measure => simp [intOf]; omega
          · obtain rfl : j = es.length := by omega
            have z3 : wr.cell? ⟨w.heap.size, 3, none⟩ = some (.slice KA ks.length kn) := Blk.cell (hd.out.at_ (j := 0) rfl) 3
            clear hlt hj
            go_wp2_with fail
            obtain ⟨C, Z, t1, t2, t3, t4, t5, t6, k1, k2, k3⟩ := hT.out.end_ ks
            have HZO := Lib.hid t5
            have HK1 := Lib.hid k1
            have HK2 := Lib.hid k2
            have HK3 := Lib.hid k3
            clear t5 k1 k2 k3
            refine (hd.out.crash (i := 0) rfl (.slice KA ks.length kn) ks (fun gs hgs _ => (HK.out.below hd.out.below).reads hgs) (by omega)).mono ?_
            rintro e W61 ⟨rfl, h61⟩
            rw [t1] at h61
            have H61 : Hid (Also w W61 [(g1, C)] [(w.heap.size, .cells #[.string S, .slice WA ws.length wn, .slice EA es.length en, .slice KA ks.length kn] 43), (l_a, o_a), (l_b, o_b), (b1, goneO gl), (b2, goneO el)]) := h61
            clear h61 hd
            rw [t2]
            go_wp2_with fail
            refine (H61.out.start (i := 0) rfl (by rw [t4]; omega)).mono ?_
            rintro e W62 ⟨rfl, h62⟩
            rw [t3] at h62
            have H62 : Hid (Also w W62 [(g1, Z)] [(w.heap.size, .cells #[.string S, .slice WA ws.length wn, .slice EA es.length en, .slice KA ks.length kn] 43), (l_a, o_a), (l_b, o_b), (b1, goneO gl), (b2, goneO el)]) := h62
            clear h62 H61
            rw [t3]
            clear t1 t2 t3 t4 z3 hT hac hst
            have HM4 := Lib.hid hm4
            clear hm4 hm0 hmne
            go_wp2_with fail
            go_loopw [18] (fun s18 wz => ∃ j : Nat, j ≤ F.now.length ∧ s18 = .int .i64 j ∧ Hid (Also w wz [(g1, Z)] [(w.heap.size, .cells #[.string S, .slice WA ws.length wn, .slice EA es.length en, .slice KA ks.length kn] 43), (l_a, o_a), (l_b, o_b), (b1, goneO gl), (b2, goneO el)])) (fun s18 _ => F.now.length - (intOf s18).toNat)
            case atStart => exact ⟨0, by omega, rfl, H62⟩
            case round =>
              obtain ⟨j, hj, rfl, hz⟩ := hrel
              clear H62
              by_cases hjl : j < F.now.length
              · have hjZ : j < Z.now.length := by omega
                have y1 := (X_a.out _ (hz.out.at_ (j := 1) rfl)).cell (st_at hjl)
                have y2 := (X_b.out _ (hz.out.at_ (j := 2) rfl)).cell (tx_at hjl)
                have y3 := gone_cell (hz.out.at_ (j := 3) rfl) (show j < gl.length by omega)
                have y4 := gone_cell (hz.out.at_ (j := 4) rfl) (show j < el.length by omega)
                have hjI : (j : Int) < (F.now.length : Int) := by omega
                have hj0 : (0 : Int) ≤ (j : Int) := by omega
                have hj1 : (j : Int) ≤ 9223372036854775807 := by omega
                have hzst := (hz.out.holds.ok (i := 0) rfl).st _ (pbAt_mem hjZ)
                have hra := read_at Z HZO.out hjZ hzst.1
                have hsa := stateAt_nat Z hjZ
                cases hg : gl.getD j false with
                | true =>
                  rw [hg] at y3
                  rcases HK1.out j hjl hg with ⟨h0, heq⟩ | ⟨κ, heq⟩
                  · rw [heq, h0] at hsa
                    rw [heq, h0, if_pos rfl] at hra
                    clear hg heq h0 hzst y1 y2 y4
                    go_wp2_with fail
                    refine (hz.out.holds.read (i := 0) rfl (j : Int) (by omega) hj1).mono ?_
                    rintro e w3 ⟨rfl, rfl⟩
                    rw [hra]
                    go_wp2_with fail
                    refine (hz.out.holds.state (i := 0) rfl (j : Int) (by omega) hj1).mono ?_
                    rintro e w3 ⟨rfl, rfl⟩
                    rw [hsa]
                    go_wp2_with fail
                    go_roundw
                    case rel => exact ⟨j + 1, by omega, by go_num, hz⟩
                    case measure => simp [intOf]; omega
                  · rw [heq] at hsa hra
                    rw [if_neg (show ¬ ((1 : Int) = 0) by decide), if_neg (show ¬ ((1 : Int) = 2) by decide)] at hra
                    have hsa' : Z.stateAt j = 1 := hsa
                    obtain ⟨t, ht⟩ : ∃ t, t = tornBytes bb κ := ⟨_, rfl⟩
                    have hra' : Z.read j = (t, 0) := by rw [ht]; exact hra
                    have hts : t.size = 128 := by rw [ht, torn_size]; exact hbs
                    have HSEC : Hid (∀ r, r < 4 → t.extract (32 * r) (32 * r + 32) = bb.extract (32 * r) (32 * r + 32) ∨ t.extract (32 * r) (32 * r + 32) = z32) := by rw [ht]; exact sector_or bb hbs κ
                    have htI : (t.size : Int) = 128 := by omega
                    have hbI : (bb.size : Int) = 128 := by omega
                    clear hg heq hzst y1 y2 y4 hsa hra ht hts
                    go_wp2_with fail
                    refine (hz.out.holds.read (i := 0) rfl (j : Int) (by omega) hj1).mono ?_
                    rintro e w3 ⟨rfl, rfl⟩
                    rw [hra']
                    go_wp2_with fail
                    refine (hz.out.holds.state (i := 0) rfl (j : Int) (by omega) hj1).mono ?_
                    rintro e w3 ⟨rfl, rfl⟩
                    rw [hsa']
                    go_wp2_with fail
                    clear y3 hra' hsa'
                    have h128 : True := trivial
                    have hmk5 := run_mk 41 5 _ 1 1 Try.underlying41 info5 32 (by omega) (by omega)
                    have h32 : ((32 : Nat) : Int) = 32 := rfl
                    rw [h32] at hmk5
                    have hz5 : (Value.int .u8 0).cells = #[.int .u8 0] := rfl
                    rw [hz5] at hmk5
                    have hM5 : madeCells #[Value.int .u8 0] (32 * 1) = (List.replicate 32 (Value.int .u8 0)).toArray := by kernel_rfl
                    rw [hM5] at hmk5
                    obtain ⟨M5, hMM5⟩ : ∃ M : List Value, M = List.replicate 32 (Value.int .u8 0) := ⟨_, rfl⟩
                    rw [← hMM5] at hmk5
                    have HCV : Hid (∀ (W : World) (b : Nat), Blk W b 5 M5 → (convert 41 9 (.slice (some ⟨b, 0, none⟩) 32 32)).run Try.prog W = .ok (.string z32) W) := fun W b hb =>
                      run_convert_bytes_arg (P := Try.prog) W 41 5 Try.underlying41 Try.underlying5 b 0 32 32 (List.replicate 32 0) (by simp) (fun i hi => by
                        rw [Nat.zero_add, hb.cell, hMM5, List.getElem?_replicate, if_pos hi, List.getD_eq_getElem?_getD, List.getElem?_replicate, if_pos hi]; rfl) 9 Try.underlying9
                    have HMK := Lib.hid hmk5
                    have HT : True := trivial
                    clear hmk5 hM5 hz5 h32 hMM5 h128
                    go_loopw [22] (fun s22 wq => (s22 = .int .i64 0 ∨ s22 = .int .i64 32 ∨ s22 = .int .i64 64 ∨ s22 = .int .i64 96 ∨ s22 = .int .i64 128) ∧ Hid (Also w wq [(g1, Z)] [(w.heap.size, .cells #[.string S, .slice WA ws.length wn, .slice EA es.length en, .slice KA ks.length kn] 43), (l_a, o_a), (l_b, o_b), (b1, goneO gl), (b2, goneO el)])) (fun s22 _ => 128 - (intOf s22).toNat)
                    case atStart => exact ⟨.inl rfl, hz⟩
                    case round =>
                    clear hz
                    obtain ⟨hr, hq⟩ := hrel
                    rcases hr with rfl | rfl | rfl | rfl | rfl
                    · cases hq1 : ((t.extract 0 32).toList == (bb.extract 0 32).toList) with
                      | true =>
                        clear HMK HCV HT HSEC
                        go_wp2_with fail
                        go_quiet (fail)
                        go_wp2_with fail
                        go_roundw
                        case rel => exact ⟨by simp, hq.out.drewN _⟩
                        case measure => simp [intOf]
                      | false =>
                        have hq2 : ((t.extract 0 32).toList == z32.toList) = true := by
                          rcases HSEC.out 0 (by omega) with h | h
                          · have h' : t.extract 0 32 = bb.extract 0 32 := h
                            rw [h'] at hq1; simp at hq1
                          · have h' : t.extract 0 32 = z32 := h
                            rw [h']; simp
                        have B1 : (convert 41 9 (.slice (some ⟨wr.heap.size, 0, none⟩) 32 32)).run Try.prog (wr.alloc (.cells M5.toArray 5)).drew = .ok (.string z32) (wr.alloc (.cells M5.toArray 5)).drew := HCV.out _ _ (Blk.new wr 5 M5)
                        have HMK2 := HMK.out
                        have hw1 : IntKind.i64.wrap (0 + 32) = 32 := by rw [IntKind.wrap_i64]; omega
                        have hw2 : wrap64 (0 + 32) = 32 := by unfold wrap64; omega
                        clear HMK HCV HT HSEC
                        go_wp2_with fail
                        go_region
                        all_goals
                          go_wp2_with fail
                          go_roundw
                          case rel => exact ⟨by simp, (hq.out.alloc _).drew⟩
                          case measure => simp [intOf]
                    · cases hq1 : ((t.extract 32 64).toList == (bb.extract 32 64).toList) with
                      | true =>
                        clear HMK HCV HT HSEC
                        go_wp2_with fail
                        go_quiet (fail)
                        go_wp2_with fail
                        go_roundw
                        case rel => exact ⟨by simp, hq.out.drewN _⟩
                        case measure => simp [intOf]
                      | false =>
                        have hq2 : ((t.extract 32 64).toList == z32.toList) = true := by
                          rcases HSEC.out 1 (by omega) with h | h
                          · have h' : t.extract 32 64 = bb.extract 32 64 := h
                            rw [h'] at hq1; simp at hq1
                          · have h' : t.extract 32 64 = z32 := h
                            rw [h']; simp
                        have B1 : (convert 41 9 (.slice (some ⟨wr.heap.size, 0, none⟩) 32 32)).run Try.prog (wr.alloc (.cells M5.toArray 5)).drew = .ok (.string z32) (wr.alloc (.cells M5.toArray 5)).drew := HCV.out _ _ (Blk.new wr 5 M5)
                        have HMK2 := HMK.out
                        have hw1 : IntKind.i64.wrap (32 + 32) = 64 := by rw [IntKind.wrap_i64]; omega
                        have hw2 : wrap64 (32 + 32) = 64 := by unfold wrap64; omega
                        clear HMK HCV HT HSEC
                        go_wp2_with fail
                        go_region
                        all_goals
                          go_wp2_with fail
                          go_roundw
                          case rel => exact ⟨by simp, (hq.out.alloc _).drew⟩
                          case measure => simp [intOf]
                    · cases hq1 : ((t.extract 64 96).toList == (bb.extract 64 96).toList) with
                      | true =>
                        clear HMK HCV HT HSEC
                        go_wp2_with fail
                        go_quiet (fail)
                        go_wp2_with fail
                        go_roundw
                        case rel => exact ⟨by simp, hq.out.drewN _⟩
                        case measure => simp [intOf]
                      | false =>
                        have hq2 : ((t.extract 64 96).toList == z32.toList) = true := by
                          rcases HSEC.out 2 (by omega) with h | h
                          · have h' : t.extract 64 96 = bb.extract 64 96 := h
                            rw [h'] at hq1; simp at hq1
                          · have h' : t.extract 64 96 = z32 := h
                            rw [h']; simp
                        have B1 : (convert 41 9 (.slice (some ⟨wr.heap.size, 0, none⟩) 32 32)).run Try.prog (wr.alloc (.cells M5.toArray 5)).drew = .ok (.string z32) (wr.alloc (.cells M5.toArray 5)).drew := HCV.out _ _ (Blk.new wr 5 M5)
                        have HMK2 := HMK.out
                        have hw1 : IntKind.i64.wrap (64 + 32) = 96 := by rw [IntKind.wrap_i64]; omega
                        have hw2 : wrap64 (64 + 32) = 96 := by unfold wrap64; omega
                        clear HMK HCV HT HSEC
                        go_wp2_with fail
                        go_region
                        all_goals
                          go_wp2_with fail
                          go_roundw
                          case rel => exact ⟨by simp, (hq.out.alloc _).drew⟩
                          case measure => simp [intOf]
                    · cases hq1 : ((t.extract 96 128).toList == (bb.extract 96 128).toList) with
                      | true =>
                        clear HMK HCV HT HSEC
                        go_wp2_with fail
                        go_quiet (fail)
                        go_wp2_with fail
                        go_roundw
                        case rel => exact ⟨by simp, hq.out.drewN _⟩
                        case measure => simp [intOf]
                      | false =>
                        have hq2 : ((t.extract 96 128).toList == z32.toList) = true := by
                          rcases HSEC.out 3 (by omega) with h | h
                          · have h' : t.extract 96 128 = bb.extract 96 128 := h
                            rw [h'] at hq1; simp at hq1
                          · have h' : t.extract 96 128 = z32 := h
                            rw [h']; simp
                        have B1 : (convert 41 9 (.slice (some ⟨wr.heap.size, 0, none⟩) 32 32)).run Try.prog (wr.alloc (.cells M5.toArray 5)).drew = .ok (.string z32) (wr.alloc (.cells M5.toArray 5)).drew := HCV.out _ _ (Blk.new wr 5 M5)
                        have HMK2 := HMK.out
                        have hw1 : IntKind.i64.wrap (96 + 32) = 128 := by rw [IntKind.wrap_i64]; omega
                        have hw2 : wrap64 (96 + 32) = 128 := by unfold wrap64; omega
                        clear HMK HCV HT HSEC
                        go_wp2_with fail
                        go_region
                        all_goals
                          go_wp2_with fail
                          go_roundw
                          case rel => exact ⟨by simp, (hq.out.alloc _).drew⟩
                          case measure => simp [intOf]
                    · clear HMK HCV HT HSEC
                      go_wp2_with fail
                      go_roundw
                      case rel => exact ⟨j + 1, by omega, by go_num, hq⟩
                      case measure => simp [intOf]; omega
                | false =>
                  rw [hg] at y3
                  by_cases h2 : el.getD j false = true ∧ (pbAt Z.now j).st = 2
                  · rw [h2.1] at y4
                    rw [h2.2] at hsa
                    rw [h2.2, if_neg (show ¬ ((2 : Int) = 0) by decide), if_pos rfl] at hra
                    clear hg h2 hzst y1 y2
                    go_wp2_with fail
                    refine (hz.out.holds.read (i := 0) rfl (j : Int) (by omega) hj1).mono ?_
                    rintro e w3 ⟨rfl, rfl⟩
                    rw [hra]
                    go_wp2_with fail
                    refine (hz.out.holds.state (i := 0) rfl (j : Int) (by omega) hj1).mono ?_
                    rintro e w3 ⟨rfl, rfl⟩
                    rw [hsa]
                    go_wp2_with fail
                    go_roundw
                    case rel => exact ⟨j + 1, by omega, by go_num, hz⟩
                    case measure => simp [intOf]; omega
                  · have heq : pbAt Z.now j = pbAt F.now j := by
                      cases he : el.getD j false with
                      | true =>
                        rcases HK2.out j hjl hg he with h | h
                        · exact h
                        · exact absurd ⟨he, h⟩ h2
                      | false => exact HK3.out j hjl hg he
                    have hrs := read_same (D := F) (E := Z) (Q4.out.trans HZO.out.symm) hjl hjZ heq
                    obtain ⟨tv, htv⟩ : ∃ tv, tv = (F.read j).1 := ⟨_, rfl⟩
                    rw [← htv] at y2 hrs
                    obtain ⟨sv, hsv⟩ : ∃ sv, sv = (pbAt F.now j).st := ⟨_, rfl⟩
                    rw [← hsv] at y1
                    rw [heq, ← hsv] at hsa
                    have htq : (tv.toList == tv.toList) = true := by simp
                    rw [heq, ← hsv] at h2
                    cases he : el.getD j false with
                    | true =>
                      have hs2 : (sv == 2) = false := by rw [beq_eq_false_iff_ne]; exact fun h => h2 ⟨he, h⟩
                      rw [he] at y4
                      clear hg h2 hzst hra heq htv hsv he
                      go_wp2_with fail
                      refine (hz.out.holds.read (i := 0) rfl (j : Int) (by omega) hj1).mono ?_
                      rintro e w3 ⟨rfl, rfl⟩
                      rw [hrs]
                      go_wp2_with fail
                      refine (hz.out.holds.state (i := 0) rfl (j : Int) (by omega) hj1).mono ?_
                      rintro e w3 ⟨rfl, rfl⟩
                      rw [hsa]
                      go_wp2_with fail
                      go_roundw
                      case rel => exact ⟨j + 1, by omega, by go_num, hz⟩
                      case measure => simp [intOf]; omega
                    | false =>
                      rw [he] at y4
                      clear hg h2 hzst hra heq htv hsv he
                      go_wp2_with fail
                      refine (hz.out.holds.read (i := 0) rfl (j : Int) (by omega) hj1).mono ?_
                      rintro e w3 ⟨rfl, rfl⟩
                      rw [hrs]
                      go_wp2_with fail
                      refine (hz.out.holds.state (i := 0) rfl (j : Int) (by omega) hj1).mono ?_
                      rintro e w3 ⟨rfl, rfl⟩
                      rw [hsa]
                      go_wp2_with fail
                      go_roundw
                      case rel => exact ⟨j + 1, by omega, by go_num, hz⟩
                      case measure => simp [intOf]; omega
              · obtain rfl : j = F.now.length := by omega
                go_wp2_with fail
                refine (does_any _).mono ?_
                rintro e w2 ⟨rfl, hb⟩
                go_wp2_with fail
                go_ret
                exact ⟨rfl, hz.out.below.trans (hb.mono hz.out.below.size)⟩
end Go.Proofs.Ytfmhfgkmoeimeaa
