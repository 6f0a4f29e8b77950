/- Walks: do, Write, Erase, Flush. -/
import Derived.Test.YtfmhfgkmoeimeaaW7
namespace Go.Proofs.Ytfmhfgkmoeimeaa
open Go.RowKit

/-- What a method that turns the device leaves: an answer, and a device. -/
def DPost (L : Lay) (w : World) (r : Dev × Int) (e : Ending) (w' : World) : Prop := ∃ L', e = .returned (.int .i64 r.2) ∧ DevAt w' L' r.1 ∧ Step L w L' w'

theorem crash_any (w : World) (L : Lay) (D : Dev) (h : DevAt w L D) (v : Value) (ks : List Int) (hv : ReadsI w L.gs v ks) (hks : ks.length ≤ 1000000) :
    Calls Try.prog 20 #[.pointer (some ⟨L.g, 0, none⟩), v] w (DPost L w (D.crash ks, D.on)) := by
  cases hoff : D.off with
  | true =>
    refine (crash_off w L D h v hoff).mono ?_
    rintro e w' ⟨rfl, rfl⟩
    exact ⟨L, by unfold Dev.on; rw [hoff]; rfl, by unfold Dev.crash; rw [hoff]; exact h, Step.refl _ _⟩
  | false =>
    refine (crash_on w L D h v ks hv hks hoff).mono ?_
    rintro e w' ⟨L', rfl, h', s'⟩
    exact ⟨L', by unfold Dev.on; rw [hoff]; rfl, h', s'⟩

/-- What 'keep' holds reads as ints. -/
theorem DevAt.readsKeep {w : World} {L : Lay} {D : Dev} (h : DevAt w L D) : ReadsI w L.gs L.vk D.keep := by
  have hk := h.keep
  unfold KeepAt at hk
  rcases hk.2 with ⟨hv, hn⟩ | ⟨g, cap, cur, hv, _, hh, _⟩
  · exact ⟨none, 0, by rw [hv, hn], fun k hk => by omega⟩
  · refine ⟨some ⟨g, 0, none⟩, cap, hv, fun k hlt => ⟨_, rfl, ?_, ?_⟩⟩
    · exact h.keep_ne_gs (by rw [hv]; rfl)
    · refine hk.cells (g := g) (by rw [hv]; rfl) k _ ?_
      rw [List.getElem?_map, List.getElem?_eq_getElem hlt]
      simp [intV, ksAt, hlt]

theorem Dev.acts_ok {D : Dev} (h : D.OK) (x : PAct) (hx : x.of < D.now.length) (hw : ∀ a d, x = .write a d → d.size = 128) (hm : D.acts.length < 1000000) : Dev.OK { D with acts := D.acts ++ [x] } :=
  ⟨h.len, h.pos, h.max, fun y hy => by
      rcases List.mem_append.1 hy with hy | hy
      · exact h.acts y hy
      · rw [List.mem_singleton.1 hy]; exact hx,
    h.left, h.leftMax, fun y hy a d e => by
      rcases List.mem_append.1 hy with hy | hy
      · exact h.wr y hy a d e
      · rw [List.mem_singleton.1 hy] at e; exact hw a d e,
    by show (D.acts ++ [x]).length ≤ _; simp; omega, h.starts, h.keepMax, h.st, h.stS, h.keepIs⟩

theorem doneF_st (x : PAct) : 0 ≤ (doneF x).st ∧ (doneF x).st ≤ 2 := by cases x <;> simp [doneF]

theorem Dev.put_ok {D : Dev} (h : D.OK) (x : PAct) (hx : x.of < D.now.length) (hw : ∀ a d, x = .write a d → d.size = 128) (hm : D.acts.length < 1000000) : (D.put x).OK := by
  have h' := Dev.acts_ok h x hx hw hm
  refine ⟨by show _ = (D.now.set _ _).length; rw [List.length_set]; exact h.len, by show 4 ≤ (D.now.set _ _).length; rw [List.length_set]; exact h.pos, by show (D.now.set _ _).length ≤ _; rw [List.length_set]; exact h.max, fun y hy => ?_, h.left, h.leftMax, h'.wr, h'.many, h.starts, h.keepMax, fun b hb => ?_, h.stS, h.keepIs⟩
  · show _ < (D.now.set _ _).length; rw [List.length_set]; exact h'.acts y hy
  · rcases List.mem_or_eq_of_mem_set hb with hb | rfl
    · exact h.st b hb
    · exact doneF_st x

/-- The acts' list has grown by one. -/
theorem acts_grown {w w2 : World} {L : Lay} {D : Dev} {va' : Value} {x : PAct} {row : Option Nat} (h : DevAt w L D) (hx : x.of < D.now.length) (hw : ∀ a d, x = .write a d → d.size = 128) (hm : D.acts.length < 1000000)
    (ho : w2.ownsRow 0 86 1 va' (D.acts.length + 1) (D.acts.map actV ++ [actV x])) (hg : (w.alloc (.cells #[actV x] 86)).grownBy w2 row) (hrow : row = L.va.ownBlock)
    (hat : va'.ownBlock = L.va.ownBlock ∨ va'.ownBlock = some (w.alloc (.cells #[actV x] 86)).heap.size) :
    DevAt (w2.setCell ⟨L.g, 2, none⟩ va') { L with va := va' } { D with acts := D.acts ++ [x] } ∧ Step L w { L with va := va' } (w2.setCell ⟨L.g, 2, none⟩ va') := by
  subst hrow
  have hsz : (w.alloc (.cells #[actV x] 86)).heap.size = w.heap.size + 1 := by simp
  have hne : ∀ b, b < w.heap.size → L.va.ownBlock ≠ some b → w2.heap[b]? = w.heap[b]? := fun b hb hne => by
    rw [hg.block b (by omega) (fun e => hne e.symm), Below.heap_alloc _ _ _ hb]
  have hvag : va'.ownBlock ≠ some L.g := by
    rcases hat with e | e
    · rw [e]; intro c; exact h.acts_ne_g c rfl
    · rw [e, hsz]; intro c; have := h.dev.lt; injection c; omega
  have hS : Step L w L w2 := ((Step.refl L w).alloc _).grown hg (fun b hb => .inl (.inr (.inr (.inr (.inl hb)))))
  have hvaf : ∀ b, va'.ownBlock = some b → L.foot b ∨ w.heap.size ≤ b := fun b hb => by
    rcases hat with e | e
    · exact .inl (.inr (.inr (.inr (.inl (e ▸ hb)))))
    · rw [e, hsz] at hb; injection hb with hb; omega
  have hdev : Blk w2 L.g 81 (devCells L D) := h.dev.same (hne _ h.dev.lt (fun c => h.acts_ne_g c rfl))
  obtain ⟨sp, hs, _⟩ := h.sureB
  obtain ⟨zs, hn, _⟩ := h.nowB
  have hf : ∀ b, b ≠ L.g → b < w.heap.size → L.va.ownBlock ≠ some b → (w2.setCell ⟨L.g, 2, none⟩ va').heap[b]? = w.heap[b]? := fun b hb hl hv => by
    rw [Below.heap_setCell _ _ _ _ hb, hne b hl hv]
  refine ⟨⟨Dev.acts_ok h.ok x hx hw hm, ?_, ?_, ?_, ?_, ?_, h.ne⟩, (hS.set_ (p := ⟨L.g, 2, none⟩) (.inl (.inl rfl)) _).lay va' L.vk hvaf (fun b hb => .inl (.inr (.inr (.inr (.inr hb)))))⟩
  · exact hdev.set_ 2 va'
  · exact own_same h.sure fun b e => by
      have e' : b = L.gs := by simpa [Value.ownBlock] using e.symm
      subst e'; exact hf _ (Ne.symm h.g_ne_gs) hs.lt (fun c => h.acts_ne_gs c rfl)
  · exact own_same h.now fun b e => by
      have e' : b = L.gn := by simpa [Value.ownBlock] using e.symm
      subst e'; exact hf _ (Ne.symm h.g_ne_gn) hn.lt (fun c => h.acts_ne_gn c rfl)
  · have : w2.ownsRow 0 86 1 va' (D.acts ++ [x]).length ((D.acts ++ [x]).map actV) := by simpa using ho
    exact own_same this fun b e => Below.heap_setCell _ _ _ _ (fun c => hvag (by rw [e, c]))
  · exact own_same h.keep fun b e => hf b (h.keep_ne_g e) (own_lt h.keep e) (fun c => by
      have k3 : w.ownsRow 0 3 1 L.vk D.keep.length (D.keep.map intV) := h.keep
      rcases h.acts.2 with ⟨hv, _⟩ | ⟨g', cap, cur, hv, _, hh, _⟩
      · rw [hv] at c; cases c
      · rw [hv] at c
        have e1 : g' = b := by simpa [Value.ownBlock] using c
        subst e1
        exact own_ne_blk (cs := cur.toList) k3 hh (by decide) e rfl)

/-- The block of an act is what it is with that. -/
theorem put_end {w wb : World} {L : Lay} {D : Dev} {x : PAct} (h : DevAt w L { D with acts := D.acts ++ [x] }) (hb : Bel w wb) (hx : x.of < D.now.length) (hok : (D.put x).OK) :
    DevAt ((wb.setCell ⟨L.gn, x.of * 2, none⟩ (.int .i64 (doneF x).st)).setCell ⟨L.gn, x.of * 2 + 1, none⟩ (.string (doneF x).data)) L (D.put x) ∧
    Step L w L ((wb.setCell ⟨L.gn, x.of * 2, none⟩ (.int .i64 (doneF x).st)).setCell ⟨L.gn, x.of * 2 + 1, none⟩ (.string (doneF x).data)) := by
  obtain ⟨zs, hn, hcn, hcm, hnl, hny⟩ := h.nowB
  have hf : ∀ b, b ≠ L.gn → b < w.heap.size → ((wb.setCell ⟨L.gn, x.of * 2, none⟩ (.int .i64 (doneF x).st)).setCell ⟨L.gn, x.of * 2 + 1, none⟩ (.string (doneF x).data)).heap[b]? = w.heap[b]? := fun b h1 h2 => by
    rw [Below.heap_setCell _ _ _ _ h1, Below.heap_setCell _ _ _ _ h1, hb.out.block b h2]
  have hn2 := ((hb.blk hn).set_ (x.of * 2) (.int .i64 (doneF x).st)).set_ (x.of * 2 + 1) (.string (doneF x).data)
  rw [List.set_append_left _ _ (by rw [pbCells_length]; show _ < 2 * D.now.length; omega), List.set_append_left _ _ (by rw [List.length_set, pbCells_length]; show _ < 2 * D.now.length; omega), pbCells_set] at hn2
  refine ⟨⟨hok, ?_, ?_, ?_, ?_, ?_, h.ne⟩, ?_⟩
  · have e1 : devCells L (D.put x) = devCells L { D with acts := D.acts ++ [x] } := by simp [devCells, Dev.put]
    rw [e1]; exact h.dev.same (hf _ h.g_ne_gn h.dev.lt)
  · have e1 : (D.put x).now.length = D.now.length := by simp [Dev.put]
    rw [e1]
    exact own_same h.sure fun b e => by
      have e' : b = L.gs := by simpa [Value.ownBlock] using e.symm
      subst e'; exact hf _ h.ne (h.lt (.inr (.inl rfl)))
  · have e1 : (D.put x).now.length = D.now.length := by simp [Dev.put]
    rw [e1]
    refine own_of_blk (sp := zs) hn2 hcn hcm ?_ ?_
    · rw [List.length_append, pbCells_length, e1, ← hnl, List.length_append, pbCells_length]
    · rw [pbCells_length, e1]; omega
  · exact own_same h.acts fun b e => hf b (h.acts_ne_gn e) (own_lt h.acts e)
  · exact own_same h.keep fun b e => hf b (h.keep_ne_gn e) (own_lt h.keep e)
  · have hS : Step L w L wb := ⟨hb.out.os, hb.out.tape, hb.out.output, hb.out.size, fun b hb' _ => hb.out.block b hb', rfl, rfl, rfl, rfl, rfl, fun _ h => .inl h⟩
    exact (hS.set_ (.inl (.inr (.inr (.inl rfl)))) _).set_ (.inl (.inr (.inr (.inl rfl)))) _

theorem one_of {v : Value} (h : v.oneCell' = true) : ∀ u ∈ [v], u.oneCell' = true := by
  intro u hu; rw [List.mem_singleton.1 hu]; exact h

theorem acts_dev {w w2 : World} {L : Lay} {D : Dev} {o : Obj} (h : DevAt w L D) (hg : (w.alloc o).grownBy w2 L.va.ownBlock) : Blk w2 L.g 81 (devCells L D) := by
  refine h.dev.same ?_
  rw [hg.block _ (by have := h.dev.lt; simp; omega) (fun c => h.acts_ne_g c.symm rfl), Below.heap_alloc _ _ _ h.dev.lt]

theorem own_some {w : World} {base : Nat} {e : TypeId} {size n : Nat} {v : Value} {xs : List Value} (h : w.ownsRow base e size v (n + 1) xs) : ∃ g c, v = .slice (some ⟨g, 0, none⟩) (n + 1) c := by
  rcases h.2 with ⟨_, h0⟩ | ⟨g, cap, cur, rfl, _⟩
  · omega
  · exact ⟨g, cap, rfl⟩

theorem Dev.count_same (D : Dev) : D.count.now = D.now ∧ D.count.acts = D.acts ∧ D.count.keep = D.keep ∧ D.count.off = D.off ∧ D.count.sure = D.sure ∧ D.count.starts = D.starts := by
  unfold Dev.count; split <;> exact ⟨rfl, rfl, rfl, rfl, rfl, rfl⟩

set_option maxHeartbeats 1000000 in
theorem do_any (w : World) (L : Lay) (D : Dev) (h : DevAt w L D) (x : PAct) (hx : x.of < D.now.length) (hw : ∀ a d, x = .write a d → d.size = 128) (hm : D.acts.length < 1000000) (_hoff : D.off = false) :
    Calls Try.prog 48 #[.pointer (some ⟨L.g, 0, none⟩), actV x] w (DPost L w (D.do_ x)) := by
  have hfa := fails_any w L D h
  obtain ⟨k1, k2, k3, k4, k5, k6⟩ := Dev.count_same D
  have hx' : x.of < D.count.now.length := by rw [k1]; exact hx
  have hm' : D.count.acts.length < 1000000 := by rw [k2]; exact hm
  generalize hr : D.do_ x = r
  unfold Dev.do_ at hr
  have HX := Lib.hid hx'
  have HW := Lib.hid hw
  have HM := Lib.hid hm'
  have HKP := Lib.hid k3
  clear k1 k2 k3 k4 k5 k6 h hx hx' hw hm hm'
  generalize hD1 : D.count = D1 at *
  have hdn := fun W => done_any W x
  unfold pbV at hdn
  have HDN := Lib.hid hdn
  clear hdn
  have H0 := Lib.hid hD1
  have HRR := Lib.hid hr
  clear hD1 hr
  rcases x with ⟨a, d⟩ | ⟨a⟩
  all_goals
    have hme := mw
    have hme2 := me
    have HME := Lib.hid hme
    have HME2 := Lib.hid hme2
    clear hme hme2
    unfold actV
    go_enter Try.func48, Try.ntmps48
    go_wp2_with fail
    refine hfa.mono ?_
    rintro e w1 ⟨rfl, h1, s1⟩
    clear hfa
    have c2 := h1.c2
    have K1 := Lib.hid h1
    have S1 := Lib.hid s1
    clear h1 s1
    go_wp2_with (at_builtin; go_must (refine wpList_app rfl (.tmp 12) (.tmp 14) 74 86 .nilIface 1 16 rfl Try.underlying74 info86 rfl (by decide) 0 L.va D1.acts.length (D1.acts.map actV) rfl (K1.out.acts.alloc _) ⟨w1.heap.size, 0, none⟩ 1 1 [_] rfl rfl (cell_one_new _ _ _) (one_of rfl) (by have := HM.out; unfold maxLen; omega) (by have := HM.out; omega) (Nat.zero_le _) ?_); intro va' w2 o2 g2 a2; obtain ⟨gv, cv, rfl⟩ := own_some o2; have hdv := acts_dev K1.out g2; have c2' : w2.cell? ⟨L.g, 2, none⟩ = some L.va := hdv.cell 2; have f2' := hdv.frozen 2; clear c2; have O2 := Lib.hid o2; have G2 := Lib.hid g2; have A2 := Lib.hid a2; have DV := Lib.hid hdv; clear o2 g2 a2 hdv)
    obtain ⟨K3, S3⟩ := acts_grown K1.out HX.out HW.out HM.out O2.out G2.out rfl A2.out
    clear c2' f2' O2 G2 A2 DV
    generalize w2.setCell ⟨L.g, 2, none⟩ (.slice (some ⟨gv, 0, none⟩) (D1.acts.length + 1) cv) = w3 at K3 S3 ⊢
    have d1 : w3.cell? ⟨L.g, 1, none⟩ = some (.slice (some ⟨L.gn, 0, none⟩) D1.now.length L.cn) := K3.c1
    have hlt : a < D1.now.length := HX.out
    obtain ⟨zs, hn, hcn, _, hnl, _⟩ : ∃ sp, Blk w3 L.gn 88 (pbCells D1.now ++ sp) ∧ D1.now.length ≤ L.cn ∧ L.cn ≤ maxLen ∧ (pbCells D1.now ++ sp).length = L.cn * 2 ∧ (pbCells D1.now).length = D1.now.length * 2 := K3.nowB
    have B0 := Bel.refl w3
    have BD := fun W (h : Bel w3 W) => h.drew
    have C1 := fun W (h : Bel w3 W) => h.cell d1
    have C2 : ∀ W, Bel w3 W → W.cell? ⟨L.gn, a * 2, none⟩ = some (.int .i64 (pbAt D1.now a).st) := fun W h => by
      rw [(h.blk hn).cell, List.getElem?_append_left (by rw [pbCells_length]; omega), pbCells_st _ _ hlt]
    have C3 : ∀ W, Bel w3 W → W.cell? ⟨L.gn, a * 2 + 1, none⟩ = some (.string (pbAt D1.now a).data) := fun W h => by
      rw [(h.blk hn).cell, List.getElem?_append_left (by rw [pbCells_length]; omega), pbCells_data _ _ hlt]
    have F2 : ∀ W, Bel w3 W → W.frozen? ⟨L.gn, a * 2, none⟩ = false := fun W h => (h.blk hn).frozen _
    have F3 : ∀ W, Bel w3 W → W.frozen? ⟨L.gn, a * 2 + 1, none⟩ = false := fun W h => (h.blk hn).frozen _
    have KK := Lib.hid K3
    have SS := Lib.hid S3
    have hme := HME.out
    have hme2 := HME2.out
    have HP := Lib.hid (fun wb (hb : Bel w3 wb) => put_end K3 hb HX.out (Dev.put_ok K1.out.ok _ HX.out HW.out HM.out))
    clear d1 hn hnl K3 S3
    go_region_with (first
      | (go_at_call 90; refine (ofW_any _ a _).mono ?_; rintro e wx ⟨rfl, hbx⟩; have Bx : Bel w3 wx := Bel.then (by first | assumption | exact B0.drew) hbx; clear hbx)
      | (go_at_call 91; refine (ofE_any _ a).mono ?_; rintro e wx ⟨rfl, rfl⟩)
      | (go_at_call 65; refine (HDN.out _).mono ?_; rintro e wx ⟨rfl, hbx⟩; have Bx : Bel w3 wx := Bel.then (by first | assumption | exact B0.drew) hbx; clear hbx))
    all_goals
      clear BD C1 C2 C3 F2 F3 hme hme2 hcn hlt
      generalize hw4 : World.setCell (World.setCell _ _ _) _ _ = w4
      have K4 := HP.out _ (by assumption)
      dsimp only [PAct.of] at K4
      rw [hw4] at K4
      obtain ⟨k4, s4⟩ := K4
      have c6 : w4.cell? ⟨L.g, 6, none⟩ = some L.vk := k4.c6
      have hcr := crash_any w4 _ _ k4 L.vk D1.keep k4.readsKeep k4.ok.keepMax
      have H4 := Lib.hid k4
      have S4 := Lib.hid ((S1.out.trans SS.out).trans s4)
      have HCR := Lib.hid hcr
      clear hw4 k4 s4 B0 hcr
      by_cases hf : D.fails = true
      · simp only [hf]
        go_wp2_with (go_at_call 20; refine HCR.out.mono ?_; rintro e w5 ⟨L5, rfl, h5, s5⟩)
        go_ret
        have er := HRR.out
        rw [if_pos hf, ← HKP.out] at er
        subst er
        exact ⟨L5, rfl, h5, S4.out.trans s5⟩
      · have hf' : D.fails = false := by simpa using hf
        simp only [hf']
        go_wp2_with fail
        go_ret
        have er := HRR.out
        rw [if_neg hf] at er
        subst er
        exact ⟨_, rfl, H4.out, S4.out⟩
end Go.Proofs.Ytfmhfgkmoeimeaa
