/- Walks: Tamper. -/
import Derived.Test.YtfmhfgkmoeimeaaW11
namespace Go.Proofs.Ytfmhfgkmoeimeaa
open Go.RowKit

theorem set_sure {w : World} {L : Lay} {D : Dev} (h : DevAt w L D) (k : Nat) (hk : k < D.now.length) (b : PB) (hb : 0 ≤ b.st ∧ b.st ≤ 2) :
    DevAt ((w.setCell ⟨L.gs, k * 2, none⟩ (.int .i64 b.st)).setCell ⟨L.gs, k * 2 + 1, none⟩ (.string b.data)) L { D with sure := D.sure.set k b } ∧
    Step L w L ((w.setCell ⟨L.gs, k * 2, none⟩ (.int .i64 b.st)).setCell ⟨L.gs, k * 2 + 1, none⟩ (.string b.data)) := by
  obtain ⟨sp, hs, hcs, hcm, hsl, hsy⟩ := h.sureB
  have hf : ∀ c, c ≠ L.gs → ((w.setCell ⟨L.gs, k * 2, none⟩ (.int .i64 b.st)).setCell ⟨L.gs, k * 2 + 1, none⟩ (.string b.data)).heap[c]? = w.heap[c]? := fun c h1 => by
    rw [Below.heap_setCell _ _ _ _ h1, Below.heap_setCell _ _ _ _ h1]
  have h2 := (hs.set_ (k * 2) (.int .i64 b.st)).set_ (k * 2 + 1) (.string b.data)
  have hl := h.ok.len
  rw [List.set_append_left _ _ (by rw [pbCells_length]; omega), List.set_append_left _ _ (by rw [List.length_set, pbCells_length]; omega), pbCells_set] at h2
  have hok : Dev.OK { D with sure := D.sure.set k b } := ⟨by show (D.sure.set k b).length = _; rw [List.length_set]; exact h.ok.len, h.ok.pos, h.ok.max, h.ok.acts, h.ok.left, h.ok.leftMax, h.ok.wr, h.ok.many, h.ok.starts, h.ok.keepMax, h.ok.st, fun c hc => by
    rcases List.mem_or_eq_of_mem_set hc with hc | rfl
    · exact h.ok.stS c hc
    · exact hb, h.ok.keepIs⟩
  refine ⟨⟨hok, h.dev.same (hf _ h.g_ne_gs), ?_, ?_, own_same h.acts fun c e => hf c (h.acts_ne_gs e), own_same h.keep fun c e => hf c (h.keep_ne_gs e), h.ne⟩, ((Step.refl L w).set_ (.inl (.inr (.inl rfl))) _).set_ (.inl (.inr (.inl rfl))) _⟩
  · refine own_of_blk (sp := sp) h2 hcs hcm ?_ ?_
    · rw [List.length_append, pbCells_length, List.length_set, ← hsl, List.length_append, pbCells_length]
    · rw [pbCells_length, List.length_set, hl]; show 2 * D.now.length = D.now.length * 2; omega
  · exact own_same h.now fun c e => by
      have e' : c = L.gn := by simpa [Value.ownBlock] using e.symm
      subst e'; exact hf _ (Ne.symm h.ne)

theorem set_now {w : World} {L : Lay} {D : Dev} (h : DevAt w L D) (k : Nat) (hk : k < D.now.length) (b : PB) (hb : 0 ≤ b.st ∧ b.st ≤ 2) :
    DevAt ((w.setCell ⟨L.gn, k * 2, none⟩ (.int .i64 b.st)).setCell ⟨L.gn, k * 2 + 1, none⟩ (.string b.data)) L { D with now := D.now.set k b } ∧
    Step L w L ((w.setCell ⟨L.gn, k * 2, none⟩ (.int .i64 b.st)).setCell ⟨L.gn, k * 2 + 1, none⟩ (.string b.data)) := by
  obtain ⟨sp, hs, hcs, hcm, hsl, hsy⟩ := h.nowB
  have hf : ∀ c, c ≠ L.gn → ((w.setCell ⟨L.gn, k * 2, none⟩ (.int .i64 b.st)).setCell ⟨L.gn, k * 2 + 1, none⟩ (.string b.data)).heap[c]? = w.heap[c]? := fun c h1 => by
    rw [Below.heap_setCell _ _ _ _ h1, Below.heap_setCell _ _ _ _ h1]
  have h2 := (hs.set_ (k * 2) (.int .i64 b.st)).set_ (k * 2 + 1) (.string b.data)
  rw [List.set_append_left _ _ (by rw [pbCells_length]; omega), List.set_append_left _ _ (by rw [List.length_set, pbCells_length]; omega), pbCells_set] at h2
  have e1 : (D.now.set k b).length = D.now.length := List.length_set
  have hok : Dev.OK { D with now := D.now.set k b } := ⟨by show _ = (D.now.set k b).length; rw [e1]; exact h.ok.len, by show 4 ≤ (D.now.set k b).length; rw [e1]; exact h.ok.pos, by show (D.now.set k b).length ≤ _; rw [e1]; exact h.ok.max, fun x hx => by show _ < (D.now.set k b).length; rw [e1]; exact h.ok.acts x hx, h.ok.left, h.ok.leftMax, h.ok.wr, h.ok.many, h.ok.starts, h.ok.keepMax, fun c hc => by
    rcases List.mem_or_eq_of_mem_set hc with hc | rfl
    · exact h.ok.st c hc
    · exact hb, h.ok.stS, h.ok.keepIs⟩
  refine ⟨⟨hok, ?_, ?_, ?_, own_same h.acts fun c e => hf c (h.acts_ne_gn e), own_same h.keep fun c e => hf c (h.keep_ne_gn e), h.ne⟩, ((Step.refl L w).set_ (.inl (.inr (.inr (.inl rfl)))) _).set_ (.inl (.inr (.inr (.inl rfl)))) _⟩
  · have e2 : devCells L { D with now := D.now.set k b } = devCells L D := by simp [devCells]
    rw [e2]; exact h.dev.same (hf _ h.g_ne_gn)
  · show World.ownsRow _ 0 88 2 (.slice (some ⟨L.gs, 0, none⟩) (D.now.set k b).length L.cs) (D.now.set k b).length _
    rw [e1]
    exact own_same h.sure fun c e => by
      have e' : c = L.gs := by simpa [Value.ownBlock] using e.symm
      subst e'; exact hf _ h.ne
  · show World.ownsRow _ 0 88 2 (.slice (some ⟨L.gn, 0, none⟩) (D.now.set k b).length L.cn) (D.now.set k b).length _
    rw [e1]
    refine own_of_blk (sp := sp) h2 hcs hcm ?_ ?_
    · rw [List.length_append, pbCells_length, e1, ← hsl, List.length_append, pbCells_length]
    · rw [pbCells_length, e1]; omega

/-- The acts' list has been cut in place. -/
theorem acts_cut {w w1 : World} {L : Lay} {D : Dev} {v : Value} {i : Int} (h : DevAt w L D) (ho : w1.ownsRow 0 86 1 v (D.acts.filter (keepB i)).length ((D.acts.filter (keepB i)).map actV)) (hv : v.ownBlock = L.va.ownBlock)
    (h1 : w1.os = w.os) (h2 : w1.tape = w.tape) (h3 : w1.output = w.output) (h4 : w.heap.size ≤ w1.heap.size) (hb : ∀ b, b < w.heap.size → L.va.ownBlock ≠ some b → w1.heap[b]? = w.heap[b]?) :
    DevAt (w1.setCell ⟨L.g, 2, none⟩ v) { L with va := v } { D with acts := D.acts.filter (keepB i) } ∧ Step L w { L with va := v } (w1.setCell ⟨L.g, 2, none⟩ v) := by
  have hS : Step L w L w1 := ⟨h1, h2, h3, h4, fun b hb' hf => hb b hb' (fun e => hf (.inr (.inr (.inr (.inl e))))), rfl, rfl, rfl, rfl, rfl, fun _ h => .inl h⟩
  have hdev : Blk w1 L.g 81 (devCells L D) := h.dev.same (hb _ h.dev.lt (fun c => h.acts_ne_g c rfl))
  obtain ⟨sp, hs, _⟩ := h.sureB
  obtain ⟨zs, hn, _⟩ := h.nowB
  have hf : ∀ b, b ≠ L.g → b < w.heap.size → L.va.ownBlock ≠ some b → (w1.setCell ⟨L.g, 2, none⟩ v).heap[b]? = w.heap[b]? := fun b hb1 hl hv => by
    rw [Below.heap_setCell _ _ _ _ hb1, hb b hl hv]
  have hok : Dev.OK { D with acts := D.acts.filter (keepB i) } := ⟨h.ok.len, h.ok.pos, h.ok.max, fun x hx => h.ok.acts x (List.mem_filter.1 hx).1, h.ok.left, h.ok.leftMax, fun x hx => h.ok.wr x (List.mem_filter.1 hx).1,
    by have := List.length_filter_le (keepB i) D.acts; have := h.ok.many; show (D.acts.filter (keepB i)).length ≤ _; omega, h.ok.starts, h.ok.keepMax, h.ok.st, h.ok.stS, h.ok.keepIs⟩
  refine ⟨⟨hok, hdev.set_ 2 v, ?_, ?_, ?_, ?_, h.ne⟩, (hS.set_ (p := ⟨L.g, 2, none⟩) (.inl (.inl rfl)) _).lay v L.vk (fun b e => .inl (.inr (.inr (.inr (.inl (hv ▸ e)))))) (fun b hb => .inl (.inr (.inr (.inr (.inr hb)))))⟩
  · exact own_same h.sure fun b e => by
      have e' : b = L.gs := by simpa [Value.ownBlock] using e.symm
      subst e'; exact hf _ (Ne.symm h.g_ne_gs) hs.lt (fun c => h.acts_ne_gs c rfl)
  · exact own_same h.now fun b e => by
      have e' : b = L.gn := by simpa [Value.ownBlock] using e.symm
      subst e'; exact hf _ (Ne.symm h.g_ne_gn) hn.lt (fun c => h.acts_ne_gn c rfl)
  · exact own_same ho fun b e => Below.heap_setCell _ _ _ _ (fun c => h.acts_ne_g (hv ▸ e) c)
  · exact own_same h.keep fun b e => hf b (h.keep_ne_g e) (own_lt h.keep e) (fun c => by
      have k3 : w.ownsRow 0 3 1 L.vk D.keep.length (D.keep.map intV) := h.keep
      rcases h.acts.2 with ⟨hv, _⟩ | ⟨g', cap, cur, hv, _, hh, _⟩
      · rw [hv] at c; cases c
      · rw [hv] at c
        have e1 : g' = b := by simpa [Value.ownBlock] using c
        subst e1
        exact own_ne_blk (cs := cur.toList) k3 hh (by decide) e rfl)

theorem empty_iff (s : ByteArray) : s.toList.isEmpty = decide (s.size = 0) := by
  rw [ByteArray.toList_eq]
  cases h : s.data.toList with
  | nil =>
    have : s.size = 0 := by show s.data.size = 0; rw [← Array.length_toList, h]; rfl
    simp [this]
  | cons x r =>
    have : s.size ≠ 0 := by show s.data.size ≠ 0; rw [← Array.length_toList, h]; simp
    simp [this]

theorem tamper_bad (w : World) (L : Lay) (D : Dev) (h : DevAt w L D) (i state : Int) (data : ByteArray) (h0 : -9223372036854775808 ≤ i) (h1 : i ≤ 9223372036854775807) (hb : D.tamperBad i state data = true) :
    Calls Try.prog 34 #[.pointer (some ⟨L.g, 0, none⟩), .int .i64 i, .int .i64 state, .string data] w (DPost L w (D, 2)) := by
  have hA := h.alloc (.cells #[.int .i64 i] 3)
  have hl := len_any _ L D hA
  have hs := state_any _ L D hA i h0 h1
  have h4 := h.ok.pos
  have hz : ((D.len : Int) == 0) = false := by rw [beq_eq_false_iff_ne]; unfold Dev.len; omega
  have HD := Lib.hid hA
  have fin : Hid (∀ n, DPost L w (D, n) (.returned (.int .i64 n)) (w.alloc (.cells #[.int .i64 i] 3))) := fun n => ⟨L, rfl, HD.out, (Step.refl L w).alloc _⟩
  unfold Dev.tamperBad at hb
  rw [decide_eq_true_eq] at hb
  clear h hA h4
  by_cases c1 : D.stateAt i < 0
  · clear hb
    go_enter Try.func34, Try.ntmps34
    go_wp2_with (first | (go_at_call 33; refine hl.mono ?_; rintro e w' ⟨rfl, rfl⟩) | (go_at_call 28; refine hs.mono ?_; rintro e w' ⟨rfl, rfl⟩))
    go_ret
    exact fin.out 2
  by_cases c2 : state < 0
  · clear hb
    go_enter Try.func34, Try.ntmps34
    go_wp2_with (first | (go_at_call 33; refine hl.mono ?_; rintro e w' ⟨rfl, rfl⟩) | (go_at_call 28; refine hs.mono ?_; rintro e w' ⟨rfl, rfl⟩))
    go_ret
    exact fin.out 2
  by_cases c3 : 2 < state
  · clear hb
    go_enter Try.func34, Try.ntmps34
    go_wp2_with (first | (go_at_call 33; refine hl.mono ?_; rintro e w' ⟨rfl, rfl⟩) | (go_at_call 28; refine hs.mono ?_; rintro e w' ⟨rfl, rfl⟩))
    go_ret
    exact fin.out 2
  by_cases c4 : state = 1
  · have c5 : data.size ≠ 128 := by omega
    have b1 : (state == 1) = true := by simp [c4]
    have b2 : ((data.size : Int) == 128) = false := by rw [beq_eq_false_iff_ne]; omega
    clear hb c4 c5
    go_enter Try.func34, Try.ntmps34
    go_wp2_with (first | (go_at_call 33; refine hl.mono ?_; rintro e w' ⟨rfl, rfl⟩) | (go_at_call 28; refine hs.mono ?_; rintro e w' ⟨rfl, rfl⟩))
    go_ret
    exact fin.out 2
  · have c5 : data.size ≠ 0 := by omega
    have b1 : (state == 1) = false := by simp [c4]
    have b3 : (state != 1) = true := by simp [c4]
    have b4 : data.toList.isEmpty = false := by rw [empty_iff]; simp [c5]
    clear hb c4 c5
    go_enter Try.func34, Try.ntmps34
    go_wp2_with (first | (go_at_call 33; refine hl.mono ?_; rintro e w' ⟨rfl, rfl⟩) | (go_at_call 28; refine hs.mono ?_; rintro e w' ⟨rfl, rfl⟩))
    go_ret
    exact fin.out 2

set_option maxHeartbeats 1000000 in
theorem tamper_good (w : World) (L : Lay) (D : Dev) (h : DevAt w L D) (i state : Int) (data : ByteArray) (h0 : -9223372036854775808 ≤ i) (h1 : i ≤ 9223372036854775807) (hb : D.tamperBad i state data = false) :
    Calls Try.prog 34 #[.pointer (some ⟨L.g, 0, none⟩), .int .i64 i, .int .i64 state, .string data] w (DPost L w (D.tamper i state data)) := by
  have hA := h.alloc (.cells #[.int .i64 i] 3)
  have hl := len_any _ L D hA
  have hs := state_any _ L D hA i h0 h1
  have h4 := h.ok.pos
  have hz : ((D.len : Int) == 0) = false := by rw [beq_eq_false_iff_ne]; unfold Dev.len; omega
  generalize hr : D.tamper i state data = r
  unfold Dev.tamper at hr
  rw [hb] at hr
  simp only [Bool.false_eq_true, if_false] at hr
  unfold Dev.tamperBad at hb
  rw [decide_eq_false_iff_not] at hb
  have c1 : ¬ D.stateAt i < 0 := by omega
  have c2 : ¬ state < 0 := by omega
  have c3 : ¬ 2 < state := by omega
  have hi : 0 ≤ i ∧ i < D.now.length := by
    unfold Dev.stateAt at c1
    split at c1
    · omega
    · rename_i hc; unfold Dev.len at hc; omega
  have hbx : (w.alloc (.cells #[.int .i64 i] 3)).cell? ⟨w.heap.size, 0, none⟩ = some (.int .i64 i) := (Blk.new w 3 [.int .i64 i]).cell 0
  have hna : L.va.ownBlock ≠ some w.heap.size := fun e => by have := own_lt h.acts e; omega
  have hdel := del_any _ L.va D.acts w.heap.size i hA.acts hbx hna h.ok.many
  have ca := hA.c2
  have b14 : ((state == 1) = true ∧ (state != 1) = false ∧ ((data.size : Int) == 128) = true) ∨ ((state == 1) = false ∧ (state != 1) = true ∧ data.toList.isEmpty = true) := by
    by_cases c4 : state = 1
    · exact .inl ⟨by simp [c4], by simp [c4], by rw [beq_iff_eq]; omega⟩
    · exact .inr ⟨by simp [c4], by simp [c4], by rw [empty_iff, decide_eq_true_eq]; omega⟩
  have HD := Lib.hid hA
  have HDEL := Lib.hid hdel
  have HR := Lib.hid hr
  have H0 := Lib.hid h
  obtain ⟨A, c, hv⟩ : ∃ A c, L.va = .slice A D.acts.length c := by
    rcases h.acts.2 with ⟨hv, hn⟩ | ⟨g, cap, cur, hv, _⟩
    · exact ⟨none, 0, by rw [hv, hn]⟩
    · exact ⟨_, _, hv⟩
  have HV := Lib.hid hv
  rw [hv] at ca
  clear hb h hA h4 hdel hr hbx hna hv
  rcases b14 with ⟨b1, b2, b3⟩ | ⟨b1, b2, b3⟩
  all_goals
    go_enter Try.func34, Try.ntmps34
    go_wp2_with (first | (go_at_call 33; refine hl.mono ?_; rintro e w' ⟨rfl, rfl⟩) | (go_at_call 28; refine hs.mono ?_; rintro e w' ⟨rfl, rfl⟩))
    have hdel := HDEL.out
    rw [HV.out] at hdel
    refine hdel.mono ?_
    rintro e w1 ⟨v, rfl, ov, vb, o1, o2, o3, o4, ob⟩
    clear hdel
    obtain ⟨A', c', rfl⟩ : ∃ A' c', v = .slice A' (D.acts.filter (keepB i)).length c' := by
      rcases ov.2 with ⟨hv, hn⟩ | ⟨g, cap, cur, hv, _⟩
      · exact ⟨none, 0, by rw [hv, hn]⟩
      · exact ⟨_, _, hv⟩
    rw [← HV.out] at vb ob
    obtain ⟨k2, s2⟩ := acts_cut HD.out ov vb o1 o2 o3 o4 ob
    have hdv : Blk w1 L.g 81 (devCells L D) := HD.out.dev.same (ob _ HD.out.dev.lt (fun c => HD.out.acts_ne_g c rfl))
    have q2 : w1.cell? ⟨L.g, 2, none⟩ = some L.va := hdv.cell 2
    have p2 := hdv.frozen 2
    have qb : (w1.setCell ⟨L.g, 2, none⟩ (.slice A' (D.acts.filter (keepB i)).length c')).cell? ⟨w.heap.size, 0, none⟩ = some (.int .i64 i) := by
      have hlt := H0.out.dev.lt
      have e1 : (w1.setCell ⟨L.g, 2, none⟩ (.slice A' (D.acts.filter (keepB i)).length c')).heap[w.heap.size]? = (w.alloc (.cells #[.int .i64 i] 3)).heap[w.heap.size]? := by
        rw [Below.heap_setCell _ _ _ _ (by show w.heap.size ≠ L.g; omega), ob _ (by simp) (fun e => by have := own_lt H0.out.acts e; omega)]
      exact (World.cell?_of_block e1).trans ((Blk.new w 3 [.int .i64 i]).cell 0)
    have K2 := Lib.hid k2
    have S2 := Lib.hid s2
    have QB := Lib.hid qb
    clear k2 s2 qb ov vb o1 o2 o3 o4 ob hdv ca hl hs
    go_wp2_with fail
    clear q2 p2 b1 b2 b3
    generalize w1.setCell ⟨L.g, 2, none⟩ (.slice A' (D.acts.filter (keepB i)).length c') = w2 at K2 S2 QB ⊢
    obtain ⟨k, hk⟩ : ∃ k : Nat, i = k := ⟨i.toNat, by omega⟩
    subst hk
    have hkl : k < D.now.length := by omega
    have d0 : w2.cell? ⟨L.g, 0, none⟩ = some (.slice (some ⟨L.gs, 0, none⟩) D.now.length L.cs) := K2.out.c0
    have hqb := QB.out
    obtain ⟨sp, hs, hcs, hcm, hsl, hsy⟩ : ∃ sp, Blk w2 L.gs 88 (pbCells D.sure ++ sp) ∧ D.now.length ≤ L.cs ∧ L.cs ≤ maxLen ∧ (pbCells D.sure ++ sp).length = L.cs * 2 ∧ (pbCells D.sure).length = D.now.length * 2 := K2.out.sureB
    have hls : D.sure.length = D.now.length := K2.out.ok.len
    have x0 : w2.cell? ⟨L.gs, k * 2, none⟩ = some (.int .i64 (pbAt D.sure k).st) := by rw [hs.cell, List.getElem?_append_left (by rw [pbCells_length]; omega), pbCells_st _ _ (by omega)]
    have x1 : w2.cell? ⟨L.gs, k * 2 + 1, none⟩ = some (.string (pbAt D.sure k).data) := by rw [hs.cell, List.getElem?_append_left (by rw [pbCells_length]; omega), pbCells_data _ _ (by omega)]
    have y0 := hs.frozen (k * 2)
    have y1 := hs.frozen (k * 2 + 1)
    have SS := Lib.hid (set_sure K2.out k hkl ⟨state, data⟩ ⟨c2, c3⟩)
    have LS := Lib.hid hls
    have GS : L.g ≠ L.gs := H0.out.g_ne_gs
    have BS : w.heap.size ≠ L.gs := by have := H0.out.lt (b := L.gs) (.inr (.inl rfl)); omega
    have BN : w.heap.size ≠ L.gn := by have := H0.out.lt (b := L.gn) (.inr (.inr (.inl rfl))); omega
    clear hs hls hsl hsy
    go_region
    generalize hw3 : World.drew (World.setCell (World.setCell w2 _ _) _ _) = w3
    have k3 := SS.out.1.drew
    have s3 := S2.out.trans SS.out.2.drew
    have hqb3 : w3.cell? ⟨w.heap.size, 0, none⟩ = some (.int .i64 k) := by
      rw [← hw3]
      refine (World.cell?_of_block (w := w2) ?_).trans hqb
      show ((w2.setCell _ _).setCell _ _).heap[w.heap.size]? = _
      rw [Below.heap_setCell _ _ _ _ BS, Below.heap_setCell _ _ _ _ BS]
    dsimp only at k3 s3
    rw [hw3] at k3 s3
    clear hw3 SS S2 K2 QB hqb d0 x0 x1 y0 y1 hcs hcm
    have d0 : w3.cell? ⟨L.g, 0, none⟩ = some (.slice (some ⟨L.gs, 0, none⟩) D.now.length L.cs) := k3.c0
    have d1 : w3.cell? ⟨L.g, 1, none⟩ = some (.slice (some ⟨L.gn, 0, none⟩) D.now.length L.cn) := k3.c1
    obtain ⟨sp1, hs1, hcs1, _, _, _⟩ : ∃ sp, Blk w3 L.gs 88 (pbCells (D.sure.set k ⟨state, data⟩) ++ sp) ∧ D.now.length ≤ L.cs ∧ L.cs ≤ maxLen ∧ (pbCells (D.sure.set k ⟨state, data⟩) ++ sp).length = L.cs * 2 ∧ (pbCells (D.sure.set k ⟨state, data⟩)).length = D.now.length * 2 := k3.sureB
    obtain ⟨sp2, hn1, hcn1, _, _, _⟩ : ∃ sp, Blk w3 L.gn 88 (pbCells D.now ++ sp) ∧ D.now.length ≤ L.cn ∧ L.cn ≤ maxLen ∧ (pbCells D.now ++ sp).length = L.cn * 2 ∧ (pbCells D.now).length = D.now.length * 2 := k3.nowB
    have hpb : pbAt (D.sure.set k ⟨state, data⟩) k = ⟨state, data⟩ := by unfold pbAt; rw [List.getD_eq_getElem?_getD, List.getElem?_set_self (by rw [LS.out]; exact hkl)]; rfl
    have z0 : w3.cell? ⟨L.gs, k * 2, none⟩ = some (.int .i64 state) := by rw [hs1.cell, List.getElem?_append_left (by rw [pbCells_length, List.length_set, LS.out]; omega), pbCells_st _ _ (by rw [List.length_set, LS.out]; exact hkl), hpb]
    have z1 : w3.cell? ⟨L.gs, k * 2 + 1, none⟩ = some (.string data) := by rw [hs1.cell, List.getElem?_append_left (by rw [pbCells_length, List.length_set, LS.out]; omega), pbCells_data _ _ (by rw [List.length_set, LS.out]; exact hkl), hpb]
    have x0 : w3.cell? ⟨L.gn, k * 2, none⟩ = some (.int .i64 (pbAt D.now k).st) := by rw [hn1.cell, List.getElem?_append_left (by rw [pbCells_length]; omega), pbCells_st _ _ hkl]
    have x1 : w3.cell? ⟨L.gn, k * 2 + 1, none⟩ = some (.string (pbAt D.now k).data) := by rw [hn1.cell, List.getElem?_append_left (by rw [pbCells_length]; omega), pbCells_data _ _ hkl]
    have y0 := hn1.frozen (k * 2)
    have y1 := hn1.frozen (k * 2 + 1)
    have SN := Lib.hid (set_now k3 k hkl ⟨state, data⟩ ⟨c2, c3⟩)
    have S3 := Lib.hid s3
    clear k3 s3 hs1 hn1 hpb
    go_wp2_with fail
    go_region
    go_wp2_with fail
    go_ret
    have er := HR.out
    subst er
    exact ⟨_, rfl, SN.out.1.drew, (((Step.refl L w).alloc _).trans S3.out).trans SN.out.2.drew⟩

theorem tamper_any (w : World) (L : Lay) (D : Dev) (h : DevAt w L D) (i state : Int) (data : ByteArray) (h0 : -9223372036854775808 ≤ i) (h1 : i ≤ 9223372036854775807) :
    Calls Try.prog 34 #[.pointer (some ⟨L.g, 0, none⟩), .int .i64 i, .int .i64 state, .string data] w (DPost L w (D.tamper i state data)) := by
  cases hb : D.tamperBad i state data with
  | true =>
    have e : D.tamper i state data = (D, 2) := by unfold Dev.tamper; rw [hb]; rfl
    rw [e]; exact tamper_bad w L D h i state data h0 h1 hb
  | false => exact tamper_good w L D h i state data h0 h1 hb
end Go.Proofs.Ytfmhfgkmoeimeaa
