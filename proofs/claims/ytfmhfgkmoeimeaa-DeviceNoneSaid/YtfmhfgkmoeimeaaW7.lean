/- Walks: Crash. -/
import Derived.Test.YtfmhfgkmoeimeaaW6
namespace Go.Proofs.Ytfmhfgkmoeimeaa
open Go.RowKit

theorem tear_length (l : List PAct) : ∀ (ks : List Int) (s : List PB), (Dev.tear l ks s).length = s.length := by
  induction l with
  | nil => intro ks s; rfl
  | cons x r ih => intro ks s; simp [Dev.tear, ih]

theorem tear_snoc (l : List PAct) (x : PAct) : ∀ (ks : List Int) (s : List PB),
    Dev.tear (l ++ [x]) ks s = (Dev.tear l ks s).set x.of (tornF x (pbAt (Dev.tear l ks s) x.of) (ksAt ks l.length)) := by
  induction l with
  | nil => intro ks s; cases ks <;> simp [Dev.tear, ksAt]
  | cons y r ih =>
    intro ks s
    show Dev.tear (r ++ [x]) ks.tail _ = _
    rw [ih]
    have : ksAt ks.tail r.length = ksAt ks (r.length + 1) := by unfold ksAt; cases ks <;> simp
    rw [this]; rfl

theorem tear_take (l : List PAct) (ks : List Int) (s : List PB) (k : Nat) (hk : k < l.length) :
    Dev.tear (l.take (k + 1)) ks s = (Dev.tear (l.take k) ks s).set (l[k]).of (tornF l[k] (pbAt (Dev.tear (l.take k) ks s) (l[k]).of) (ksAt ks k)) := by
  rw [List.take_succ_eq_append_getElem hk, tear_snoc, List.length_take, Nat.min_eq_left (by omega)]

theorem block_of_add (a : Addr) (n : Nat) : (a.add n).block = a.block := by unfold Addr.add; split <;> rfl

/-- The call of an act's method, as one step. -/
theorem wp_of {o : Oper} {a : Act} {K : Act → World → Prop} {Q : Exit → Act → World → Prop} {w : World} (t : Operand)
    (ho : o.op = .call { callee := .invoke t "sealingwax/device.of", args := #[], argTypes := #[] }) (x : PAct) (hx : a.eval t = actV x)
    (h : ∀ w1, Below w.heap.size w w1 → K (a.put o.dst (.int .i64 x.of)) w1) : o.wp Try.prog a w K Q := by
  cases x with
  | write n d =>
    have hm := mw n d w
    have he : ((execOp a.eval o).run Try.prog w) = .ok (.enter 90 #[.agg #[.int .i64 n, .string d]]) w := by
      simp only [execOp, ho, resolve, hx, actV]
      clear hx h
      generalize a.eval = ev
      go_simp
    unfold Oper.wp
    rw [he]
    refine (ofW_any w n d).mono ?_
    rintro e w1 ⟨rfl, hb⟩
    exact h w1 hb
  | erase n =>
    have hm := me n w
    have he : ((execOp a.eval o).run Try.prog w) = .ok (.enter 91 #[.int .i64 n]) w := by
      simp only [execOp, ho, resolve, hx, actV]
      clear hx h
      generalize a.eval = ev
      go_simp
    unfold Oper.wp
    rw [he]
    refine (ofE_any w n).mono ?_
    rintro e w1 ⟨rfl, rfl⟩
    exact h w (Below.refl _ _)

theorem wpList_of {ops : Array Oper} {rest : List Oper} {o : Oper} {a : Act} {Q : Exit → Act → World → Prop} {w : World} (hg : o.guard = none) (t : Operand)
    (ho : o.op = .call { callee := .invoke t "sealingwax/device.of", args := #[], argTypes := #[] }) (x : PAct) (hx : a.eval t = actV x)
    (h : ∀ w1, Below w.heap.size w w1 → wpList Try.prog ops Q rest (a.put o.dst (.int .i64 x.of)) w1) : wpList Try.prog ops Q (o :: rest) a w :=
  wpList_plain hg fun _ hK => wp_of t ho x hx fun w1 hb => hK _ _ (h w1 hb)

/-- 'copy' of n blocks from one row to another. -/
theorem run_copyB (W : World) (ty : TypeId) (gs gn n cs cn : Nat) (xs sp ys zs : List Value) (hsrc : Blk W gs 88 (xs ++ sp)) (hdst : Blk W gn 88 (ys ++ zs)) (hx : xs.length = n * 2) (hy : ys.length = n * 2) (h1 : ∀ u ∈ xs, u.oneCell' = true) :
    (Builtin.copy_ #[73, 73] ty #[.slice (some ⟨gn, 0, none⟩) n cn, .slice (some ⟨gs, 0, none⟩) n cs]).run Try.prog W = .ok (goInt n) (W.setRow gn (xs ++ zs).toArray) := by
  have hl := run_loadCells_list (P := Try.prog) W ⟨gs, 0, none⟩ xs (fun j v hj => by
    rw [addr_add0, hsrc.cell, List.getElem?_append_left (List.getElem?_eq_some_iff.1 hj).1]; exact hj)
  have hst := run_storeCells_at Try.prog gn 0 88 xs 0 (ys ++ zs).toArray W hdst (by simp; omega) h1
  obtain ⟨i0, hi0, hz0, hz1, hz2⟩ := info_parts info88
  have e1 : (ys ++ zs).drop xs.length = zs := by rw [List.drop_append_of_le_length (by omega), List.drop_of_length_le (by omega), List.nil_append]
  simp [e1] at hst
  simp [Builtin.copy_, run_underlying Try.underlying73, Builtin.lenOf, Builtin.firstCells, sizeOf, typeInfo, hi0, hz1, ← hx, hl, hst]

theorem goInt_eq (n : Nat) : goInt n = .int .i64 n := rfl

/-- What Crash's loop keeps. -/
structure CrashRel (w : World) (L : Lay) (D : Dev) (ks : List Int) (k : Nat) (wr : World) : Prop where
  os : wr.os = w.os
  tape : wr.tape = w.tape
  output : wr.output = w.output
  size : w.heap.size ≤ wr.heap.size
  block : ∀ b, b < w.heap.size → b ≠ L.gs → wr.heap[b]? = w.heap[b]?
  sure : ∃ sp, Blk wr L.gs 88 (pbCells (Dev.tear (D.acts.take k) ks D.sure) ++ sp) ∧ (pbCells D.sure ++ sp).length = L.cs * 2

theorem CrashRel.start {w : World} {L : Lay} {D : Dev} {ks : List Int} (h : DevAt w L D) : CrashRel w L D ks 0 w := by
  obtain ⟨sp, hb, _, _, hl, _⟩ := h.sureB
  exact ⟨rfl, rfl, rfl, Nat.le_refl _, fun _ _ _ => rfl, sp, hb, hl⟩

theorem CrashRel.cell {w wr : World} {L : Lay} {D : Dev} {ks : List Int} {k : Nat} (h : CrashRel w L D ks k wr) {p : Addr} {u : Value} (hc : w.cell? p = some u) (hp : p.block ≠ L.gs) : wr.cell? p = some u :=
  (World.cell?_of_block (h.block _ (World.block_lt_of_cell? w _ hc) hp)).trans hc

theorem CrashRel.next {w wr w1 : World} {L : Lay} {D : Dev} {ks : List Int} {k : Nat} (h : CrashRel w L D ks k wr) (hL : DevAt w L D) (hk : k < D.acts.length) (hb : Bel wr w1)
    (b : PB) (he : b = tornF D.acts[k] (pbAt (Dev.tear (D.acts.take k) ks D.sure) (D.acts[k]).of) (ksAt ks k)) :
    CrashRel w L D ks (k + 1) ((w1.setCell ⟨L.gs, (D.acts[k]).of * 2, none⟩ (.int .i64 b.st)).setCell ⟨L.gs, (D.acts[k]).of * 2 + 1, none⟩ (.string b.data)) := by
  obtain ⟨sp, hs, hl⟩ := h.sure
  have h1 := (((hb.blk hs).set_ ((D.acts[k]).of * 2) (.int .i64 b.st)).set_ ((D.acts[k]).of * 2 + 1) (.string b.data))
  have hof : (D.acts[k]).of < D.sure.length := by rw [hL.ok.len]; exact hL.ok.acts _ (List.getElem_mem hk)
  refine ⟨hb.out.os.trans h.os, hb.out.tape.trans h.tape, hb.out.output.trans h.output, by have := hb.out.size; have := h.size; simp [World.setCell]; omega, fun c hc hne => ?_, sp, ?_, hl⟩
  · rw [Below.heap_setCell _ _ _ _ hne, Below.heap_setCell _ _ _ _ hne, hb.out.block _ (by have := h.size; omega), h.block c hc hne]
  · rw [tear_take _ _ _ _ hk, ← he]
    have hlen : (pbCells (Dev.tear (D.acts.take k) ks D.sure)).length = 2 * D.sure.length := by rw [pbCells_length, tear_length]
    rw [List.set_append_left _ _ (by omega), List.set_append_left _ _ (by rw [List.length_set]; omega), pbCells_set] at h1
    exact h1

theorem pbAt_mem {l : List PB} {i : Nat} (h : i < l.length) : pbAt l i ∈ l := by
  unfold pbAt; rw [List.getD_eq_getElem?_getD, List.getElem?_eq_getElem h]; exact List.getElem_mem h

theorem tornF_st (x : PAct) (b : PB) (k : Int) (h : 0 ≤ b.st ∧ b.st ≤ 2) : 0 ≤ (tornF x b k).st ∧ (tornF x b k).st ≤ 2 := by
  unfold tornF
  cases x <;> simp only <;> split <;> first | exact h | (constructor <;> simp)

theorem tear_st (l : List PAct) : ∀ (ks : List Int) (s : List PB), (∀ x ∈ l, x.of < s.length) → (∀ b ∈ s, 0 ≤ b.st ∧ b.st ≤ 2) → ∀ b ∈ Dev.tear l ks s, 0 ≤ b.st ∧ b.st ≤ 2 := by
  induction l with
  | nil => intro ks s _ h; exact h
  | cons x r ih =>
    intro ks s hx h
    refine ih _ _ (fun y hy => by rw [List.length_set]; exact hx y (List.mem_cons_of_mem _ hy)) (fun b hb => ?_)
    rcases List.mem_or_eq_of_mem_set hb with hb | rfl
    · exact h b hb
    · exact tornF_st _ _ _ (h _ (pbAt_mem (hx x List.mem_cons_self)))

theorem Dev.crash_ok {D : Dev} (h : D.OK) (ks : List Int) : (D.crash ks).OK := by
  unfold Dev.crash
  split
  · exact h
  · have hl : (Dev.tear D.acts ks D.sure).length = D.now.length := by rw [tear_length, h.len]
    have hs := tear_st D.acts ks D.sure (fun x hx => by rw [h.len]; exact h.acts x hx) h.stS
    exact ⟨rfl, by show 4 ≤ (Dev.tear D.acts ks D.sure).length; rw [hl]; exact h.pos, by show (Dev.tear D.acts ks D.sure).length ≤ 512; rw [hl]; exact h.max,
      (fun x hx => by cases hx), by show (-1 : Int) ≤ -1; omega, by show (-1 : Int) ≤ _; omega, (fun x hx => by cases hx), by show 0 ≤ _; omega, h.starts, h.keepMax, hs, hs, h.keepIs⟩

/-- The device behind a crash. -/
theorem crash_end {w wr : World} {L : Lay} {D : Dev} {ks : List Int} {zs : List Value} (h : DevAt w L D) (hr : CrashRel w L D ks D.acts.length wr) (hoff : D.off = false)
    (hn : Blk wr L.gn 88 (pbCells D.now ++ zs)) :
    DevAt ((((wr.drew.setRow L.gn (pbCells (Dev.tear (D.acts.take D.acts.length) ks D.sure) ++ zs).toArray).setCell ⟨L.g, 2, none⟩ (.slice none 0 0)).setCell ⟨L.g, 3, none⟩ (.bool true)).setCell ⟨L.g, 5, none⟩ (.int .i64 (-1))) { L with va := .slice none 0 0 } (D.crash ks) ∧
    Step L w { L with va := .slice none 0 0 } ((((wr.drew.setRow L.gn (pbCells (Dev.tear (D.acts.take D.acts.length) ks D.sure) ++ zs).toArray).setCell ⟨L.g, 2, none⟩ (.slice none 0 0)).setCell ⟨L.g, 3, none⟩ (.bool true)).setCell ⟨L.g, 5, none⟩ (.int .i64 (-1))) := by
  have et : D.acts.take D.acts.length = D.acts := List.take_length
  rw [et]
  have hok := Dev.crash_ok h.ok ks
  have ec : D.crash ks = { D with sure := Dev.tear D.acts ks D.sure, now := Dev.tear D.acts ks D.sure, acts := [], off := true, left := -1 } := by unfold Dev.crash; simp [hoff]
  rw [ec] at hok ⊢
  have hl : (Dev.tear D.acts ks D.sure).length = D.now.length := by rw [tear_length, h.ok.len]
  obtain ⟨sp, hs, hsl⟩ := hr.sure
  rw [et] at hs
  obtain ⟨zs', hn0, hcn, hcm, hnl, hny⟩ := h.nowB
  have hzl : zs.length = zs'.length := by
    have hd : Blk wr L.gn 88 (pbCells D.now ++ zs') := hn0.same (hr.block _ hn0.lt (Ne.symm h.ne))
    unfold Blk at hn hd
    rw [hn] at hd
    simp at hd
    rw [hd]
  obtain ⟨sp0, hs0, hcs, hcsm, hsl0, hsy⟩ := h.sureB
  generalize hw' : (((wr.drew.setRow L.gn (pbCells (Dev.tear D.acts ks D.sure) ++ zs).toArray).setCell ⟨L.g, 2, none⟩ (.slice none 0 0)).setCell ⟨L.g, 3, none⟩ (.bool true)).setCell ⟨L.g, 5, none⟩ (.int .i64 (-1)) = w'
  have hblk : ∀ b, b ≠ L.gn → b ≠ L.g → w'.heap[b]? = wr.heap[b]? := fun b h1 h2 => by
    rw [← hw', Below.heap_setCell _ _ _ _ h2, Below.heap_setCell _ _ _ _ h2, Below.heap_setCell _ _ _ _ h2, setRow_other _ _ _ _ h1]; rfl
  have hdev : Blk wr L.g 81 (devCells L D) := h.dev.same (hr.block _ h.dev.lt h.g_ne_gs)
  have hdev1 : Blk (wr.drew.setRow L.gn (pbCells (Dev.tear D.acts ks D.sure) ++ zs).toArray) L.g 81 (devCells L D) := hdev.same (setRow_other _ _ _ _ h.g_ne_gn)
  have hdev2 : Blk w' L.g 81 _ := hw' ▸ ((hdev1.set_ 2 (.slice none 0 0)).set_ 3 (.bool true)).set_ 5 (.int .i64 (-1))
  have hnow1 : Blk (wr.drew.setRow L.gn (pbCells (Dev.tear D.acts ks D.sure) ++ zs).toArray) L.gn 88 (pbCells (Dev.tear D.acts ks D.sure) ++ zs) := setRow_heap _ _ _ _ 88 (0, 0) (hn : Blk wr.drew _ _ _)
  have hnow2 : Blk w' L.gn 88 (pbCells (Dev.tear D.acts ks D.sure) ++ zs) := hw' ▸ ((hnow1.far (p := ⟨L.g, 2, none⟩) (Ne.symm h.g_ne_gn) _).far (p := ⟨L.g, 3, none⟩) (Ne.symm h.g_ne_gn) _).far (p := ⟨L.g, 5, none⟩) (Ne.symm h.g_ne_gn) _
  have hsure2 : Blk w' L.gs 88 (pbCells (Dev.tear D.acts ks D.sure) ++ sp) := hs.same (hblk _ h.ne (Ne.symm h.g_ne_gs))
  have hpl : (pbCells (Dev.tear D.acts ks D.sure)).length = D.now.length * 2 := by rw [pbCells_length, hl]; omega
  have hkeep : KeepAt w' L.vk D.keep := own_same h.keep fun b hb => by
    rw [hblk b (h.keep_ne_gn hb) (h.keep_ne_g hb), hr.block b (own_lt h.keep hb) (h.keep_ne_gs hb)]
  refine ⟨⟨hok, ?_, ?_, ?_, World.ownsRow_nil _ _ _ _, hkeep, h.ne⟩, ?_⟩
  · have e1 : devCells { L with va := Value.slice none 0 0 } { D with sure := Dev.tear D.acts ks D.sure, now := Dev.tear D.acts ks D.sure, acts := [], off := true, left := -1 } = ((devCells L D).set 2 (.slice none 0 0) |>.set 3 (.bool true) |>.set 5 (.int .i64 (-1))) := by
      simp [devCells, hl]
    rw [e1]; exact hdev2
  · show w'.ownsRow 0 88 2 (.slice (some ⟨L.gs, 0, none⟩) (Dev.tear D.acts ks D.sure).length L.cs) (Dev.tear D.acts ks D.sure).length _
    rw [hl]
    refine own_of_blk hsure2 hcs hcsm ?_ hpl
    rw [List.length_append, hpl, ← hsy, ← List.length_append]; exact hsl
  · show w'.ownsRow 0 88 2 (.slice (some ⟨L.gn, 0, none⟩) (Dev.tear D.acts ks D.sure).length L.cn) (Dev.tear D.acts ks D.sure).length _
    rw [hl]
    refine own_of_blk hnow2 hcn hcm ?_ hpl
    rw [List.length_append, hpl, ← hny, hzl, ← List.length_append]; exact hnl
  · refine ⟨?_, ?_, ?_, ?_, fun b hb hf => ?_, rfl, rfl, rfl, rfl, rfl, fun b hb => ?_⟩
    · rw [← hw']; exact hr.os
    · rw [← hw']; exact hr.tape
    · rw [← hw']; exact hr.output
    · rw [← hw']; simpa [World.setCell, World.setRow] using hr.size
    · rw [hblk b (fun e => hf (.inr (.inr (.inl e)))) (fun e => hf (.inl e)), hr.block b hb (fun e => hf (.inr (.inl e)))]
    · rcases hb with e | e | e | e | e
      · exact .inl (.inl e)
      · exact .inl (.inr (.inl e))
      · exact .inl (.inr (.inr (.inl e)))
      · cases e
      · exact .inl (.inr (.inr (.inr (.inr e))))

theorem acts_cell {w : World} {L : Lay} {D : Dev} (h : DevAt w L D) : ∃ A c, L.va = .slice A D.acts.length c ∧ D.acts.length ≤ c ∧ ∀ k (hk : k < D.acts.length), ∃ g, A = some ⟨g, 0, none⟩ ∧ g ≠ L.gs ∧ w.cell? ⟨g, k, none⟩ = some (actV D.acts[k]) := by
  rcases h.acts.2 with ⟨hv, hn⟩ | ⟨g, cap, cur, hv, _, hh, hc, _, _, ht⟩
  · exact ⟨none, 0, by rw [hv, hn], by omega, fun k hk => by omega⟩
  · refine ⟨some ⟨g, 0, none⟩, cap, hv, hc, fun k hk => ⟨g, rfl, ?_, ?_⟩⟩
    · exact h.acts_ne_gs (by rw [hv]; rfl)
    · have := h.acts.cells (g := g) (by rw [hv]; rfl) k (actV D.acts[k]) (by simp [hk])
      rwa [addr_add0] at this

theorem crash_off (w : World) (L : Lay) (D : Dev) (h : DevAt w L D) (v : Value) (hoff : D.off = true) :
    Calls Try.prog 20 #[.pointer (some ⟨L.g, 0, none⟩), v] w fun e w' => e = .returned (.int .i64 43) ∧ w = w' := by
  have ho := on_any w L D h
  unfold Dev.on at ho
  rw [hoff] at ho
  clear h hoff
  go_enter Try.func20, Try.ntmps20
  go_wp2_with (go_at_call 42; refine ho.mono ?_; rintro e w' ⟨rfl, rfl⟩)
  go_ret
  exact ⟨rfl, rfl⟩

set_option maxRecDepth 100000 in
set_option maxHeartbeats 4000000 in
theorem crash_on (w : World) (L : Lay) (D : Dev) (h : DevAt w L D) (v : Value) (ks : List Int) (hv : ReadsI w L.gs v ks) (hks : ks.length ≤ 1000000) (hoff : D.off = false) :
    Calls Try.prog 20 #[.pointer (some ⟨L.g, 0, none⟩), v] w fun e w' => ∃ L', e = .returned (.int .i64 0) ∧ DevAt w' L' (D.crash ks) ∧ Step L w L' w' := by
  have ho := on_any w L D h
  unfold Dev.on at ho
  rw [hoff] at ho
  have c2 := h.c2
  obtain ⟨A, c, hva, hlc, hac⟩ := acts_cell h
  rw [hva] at c2
  have R0 : CrashRel w L D ks 0 w := CrashRel.start h
  obtain ⟨K, kc, rfl, hkc⟩ := hv
  have hmany := h.ok.many
  have HK := Lib.hid hkc
  have HA := Lib.hid hac
  have HD := Lib.hid h
  have HVA := Lib.hid hva
  clear hkc hac h hva
  have c2' := Lib.hid c2
  go_enter Try.func20, Try.ntmps20
  go_wp2_with (go_at_call 42; refine ho.mono ?_; rintro e w' ⟨rfl, rfl⟩)
  clear c2 ho
  go_loopw [20] (fun i wr => ∃ k : Nat, k ≤ D.acts.length ∧ i = .int .i64 k ∧ CrashRel w L D ks k wr) (fun i _ => D.acts.length - (intOf i).toNat)
  case atStart => exact ⟨0, by omega, rfl, R0⟩
  case round =>
    obtain ⟨k, hk, rfl, hr⟩ := hrel
    clear R0
    by_cases hlt : k < D.acts.length
    · obtain ⟨ga, rfl, hga, hcell⟩ := HA.out k hlt
      have ca := hr.cell hcell hga
      obtain ⟨x, hx⟩ : ∃ x, D.acts[k] = x := ⟨_, rfl⟩
      rw [hx] at ca
      have HX := Lib.hid hx
      have HR := Lib.hid hr
      have hcd := hr.cell HD.out.c0 HD.out.g_ne_gs
      have hof : x.of < D.now.length := by rw [← hx]; exact HD.out.ok.acts _ (List.getElem_mem hlt)
      obtain ⟨sp, hs, hsl⟩ := hr.sure
      have hts : (Dev.tear (D.acts.take k) ks D.sure).length = D.now.length := by rw [tear_length, HD.out.ok.len]
      have hcap : D.now.length ≤ L.cs := HD.out.sureB.choose_spec.2.1
      have B0 := Bel.refl wr
      have BD := fun W (h : Bel wr W) => h.drew
      have C0 := fun W (h : Bel wr W) => h.cell hcd
      have C1 : ∀ W, Bel wr W → W.cell? ⟨L.gs, x.of * 2, none⟩ = some (.int .i64 (pbAt (Dev.tear (D.acts.take k) ks D.sure) x.of).st) := fun W h => by
        rw [(h.blk hs).cell, List.getElem?_append_left (by rw [pbCells_length]; omega), pbCells_st _ _ (by omega)]
      have C2 : ∀ W, Bel wr W → W.cell? ⟨L.gs, x.of * 2 + 1, none⟩ = some (.string (pbAt (Dev.tear (D.acts.take k) ks D.sure) x.of).data) := fun W h => by
        rw [(h.blk hs).cell, List.getElem?_append_left (by rw [pbCells_length]; omega), pbCells_data _ _ (by omega)]
      have F1 : ∀ W, Bel wr W → W.frozen? ⟨L.gs, x.of * 2, none⟩ = false := fun W h => (h.blk hs).frozen _
      have F2 : ∀ W, Bel wr W → W.frozen? ⟨L.gs, x.of * 2 + 1, none⟩ = false := fun W h => (h.blk hs).frozen _
      have hwr : ∀ a d, x = .write a d → d.size = 128 := fun a d e => HD.out.ok.wr x (by rw [← hx]; exact List.getElem_mem hlt) a d e
      have HW := Lib.hid hwr
      clear hx hr hcell hs hsl hts hcd hwr
      generalize hpb : pbAt (Dev.tear (D.acts.take k) ks D.sure) x.of = pb at C1 C2
      have HP := Lib.hid hpb
      clear hpb
      obtain ⟨n, hn⟩ : ∃ n, ksAt ks k = n := ⟨_, rfl⟩
      have ht := fun W => torn_any W x pb n HW.out
      unfold pbV at ht
      have HT := Lib.hid ht
      have HN := Lib.hid hn
      clear ht
      by_cases hlk : k < ks.length
      · obtain ⟨ad, rfl, had, hkc⟩ := HK.out k hlk
        have hkc' := HR.out.cell hkc (by rw [block_of_add]; exact had)
        rw [hn] at hkc'
        clear hkc hn
        go_wp2_with ((refine wpList_of (o := ⟨some 34, _, _, _, _, _⟩) rfl (.tmp 33) rfl x ?_ ?_); (rfl); intro w1 hb1; have B1 : Bel wr w1 := B0.then hb1; clear hb1)
        go_region_with (go_at_call 45; refine (HT.out _).mono ?_; rintro e w2 ⟨rfl, hb2⟩; have B2 : Bel wr w2 := (by assumption : Bel wr w1).drew.then hb2; clear hb2)
        all_goals
          go_wp2
          refine ⟨⟨k + 1, by omega, by go_num, ?_⟩, by simp [intOf]; omega⟩
          subst HX
          exact HR.out.next HD.out hlt B2 _ (by rw [HP.out, HN.out])
      · have h0 : n = 0 := by
          rw [← hn]; unfold ksAt; rw [List.getD_eq_getElem?_getD, List.getElem?_eq_none (by omega)]; rfl
        subst h0
        clear hn
        go_wp2_with ((refine wpList_of (o := ⟨some 34, _, _, _, _, _⟩) rfl (.tmp 33) rfl x ?_ ?_); (rfl); intro w1 hb1; have B1 : Bel wr w1 := B0.then hb1; clear hb1)
        go_region_with (go_at_call 45; refine (HT.out _).mono ?_; rintro e w2 ⟨rfl, hb2⟩; have B2 : Bel wr w2 := (by assumption : Bel wr w1).drew.then hb2; clear hb2)
        all_goals
          go_wp2
          refine ⟨⟨k + 1, by omega, by go_num, ?_⟩, by simp [intOf]; omega⟩
          subst HX
          exact HR.out.next HD.out hlt B2 _ (by rw [HP.out, HN.out])
    · obtain rfl : k = D.acts.length := by omega
      have hcd0 := hr.cell HD.out.c0 HD.out.g_ne_gs
      have hcd1 := hr.cell HD.out.c1 HD.out.g_ne_gs
      have hcd2 := hr.cell HD.out.c2 HD.out.g_ne_gs
      have hcd3 := hr.cell HD.out.c3 HD.out.g_ne_gs
      have hcd5 := hr.cell HD.out.c5 HD.out.g_ne_gs
      have hdev : Blk wr L.g 81 (devCells L D) := HD.out.dev.same (hr.block _ HD.out.dev.lt HD.out.g_ne_gs)
      have fz := fun i => hdev.frozen i
      obtain ⟨sp, hs, hsl⟩ := hr.sure
      obtain ⟨zs, hn, hcn, hcm, hnl, hny⟩ := HD.out.nowB
      have hn' : Blk wr L.gn 88 (pbCells D.now ++ zs) := hn.same (hr.block _ hn.lt (Ne.symm HD.out.ne))
      have hts : (pbCells (Dev.tear (D.acts.take D.acts.length) ks D.sure)).length = D.now.length * 2 := by rw [pbCells_length, tear_length, HD.out.ok.len]; omega
      have hcp := run_copyB wr.drew 3 L.gs L.gn D.now.length L.cs L.cn _ sp _ zs (hs : Blk wr.drew _ _ _) hn' hts hny pbCells_one
      generalize hrow : (pbCells (Dev.tear (D.acts.take D.acts.length) ks D.sure) ++ zs).toArray = row at hcp
      have HR := Lib.hid hr
      have H1 := Lib.hid hs
      have H2 := Lib.hid hn'
      have H3 := Lib.hid hrow
      have H4 := Lib.hid hdev
      have e0 : ∀ i, (wr.drew.setRow L.gn row).cell? ⟨L.g, i, none⟩ = wr.cell? ⟨L.g, i, none⟩ := fun i => World.cell?_of_block (w := wr) (setRow_other _ _ _ _ HD.out.g_ne_gn)
      have f0 : ∀ i, (wr.drew.setRow L.gn row).frozen? ⟨L.g, i, none⟩ = false := fun i => (World.frozen?_of_block (w := wr) (setRow_other _ _ _ _ HD.out.g_ne_gn)).trans (fz i)
      clear hr hs hn hn' hrow hdev hts hny hnl hlt hk hsl
      go_wp2
      go_region
      go_wp2
      go_ret
      refine ⟨{ L with va := .slice none 0 0 }, rfl, ?_⟩
      subst H3
      exact crash_end HD.out HR.out hoff H2.out
end Go.Proofs.Ytfmhfgkmoeimeaa
