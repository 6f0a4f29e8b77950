/- Walks: Write, Erase, Flush, Start, Fail. -/
import Derived.Test.YtfmhfgkmoeimeaaW8
namespace Go.Proofs.Ytfmhfgkmoeimeaa
open Go.RowKit

theorem DPost.same {w : World} {L : Lay} {D : Dev} (h : DevAt w L D) (n : Int) : DPost L w (D, n) (.returned (.int .i64 n)) w := ⟨L, rfl, h, Step.refl _ _⟩

theorem DevAt.below {w w1 : World} {L : Lay} {D : Dev} (h : DevAt w L D) (hb : Below w.heap.size w w1) : DevAt w1 L D := h.same fun b hf => hb.block b (h.lt hf)

theorem Step.of_below {w w1 : World} {L : Lay} (hb : Below w.heap.size w w1) : Step L w L w1 := ⟨hb.os, hb.tape, hb.output, hb.size, fun b h _ => hb.block b h, rfl, rfl, rfl, rfl, rfl, fun _ h => .inl h⟩

theorem DPost.after {w w1 w' : World} {L L1 : Lay} {r : Dev × Int} {e : Ending} (h : DPost L1 w1 r e w') (s : Step L w L1 w1) : DPost L w r e w' := by
  obtain ⟨L', he, hd, hs⟩ := h
  exact ⟨L', he, hd, s.trans hs⟩

theorem write_any (w : World) (L : Lay) (D : Dev) (h : DevAt w L D) (i : Int) (data : ByteArray) (h0 : -9223372036854775808 ≤ i) (h1 : i ≤ 9223372036854775807) (_hd : data.size ≤ 140737488351232) (hm : D.acts.length < 1000000) :
    Calls Try.prog 25 #[.pointer (some ⟨L.g, 0, none⟩), .int .i64 i, .string data] w (DPost L w (D.write i data)) := by
  have hb := block_any w L D h i h0 h1
  have hs := state_any w L D h i h0 h1
  generalize hr : D.write i data = r
  unfold Dev.write at hr
  have HR := Lib.hid hr
  have HD := Lib.hid h
  clear hr h
  by_cases hz : D.block i = 0
  · obtain ⟨hoff, hi0, hi1, hi2⟩ := Dev.block_zero hz
    have hzb : (D.block i != 0) = false := by simp [hz]
    have er := HR.out
    rw [if_neg (by omega)] at er
    obtain ⟨k, rfl⟩ : ∃ k : Nat, i = k := ⟨i.toNat, by omega⟩
    have hk : k < D.now.length := by omega
    clear hz
    by_cases e1 : data.size = 128
    · rw [if_neg (by omega)] at er
      have e1' : ((data.size : Int) != 128) = false := by rw [e1]; rfl
      by_cases e2 : D.stateAt k = 1
      · rw [if_pos e2] at er
        subst er
        have e2' : (D.stateAt k == 1) = true := by simp [e2]
        clear e1 e2
        go_enter Try.func25, Try.ntmps25
        go_wp2_with (first | (go_at_call 47; refine hb.mono ?_; rintro e w' ⟨rfl, rfl⟩) | (go_at_call 28; refine hs.mono ?_; rintro e w' ⟨rfl, rfl⟩))
        go_ret
        exact DPost.same HD.out 40
      rw [if_neg e2] at er
      have e2' : (D.stateAt k == 1) = false := by simp [e2]
      by_cases e3 : D.stateAt k = 2
      · rw [if_pos e3] at er
        subst er
        have e3' : (D.stateAt k == 2) = true := by simp [e3]
        clear e1 e2 e3
        go_enter Try.func25, Try.ntmps25
        go_wp2_with (first | (go_at_call 47; refine hb.mono ?_; rintro e w' ⟨rfl, rfl⟩) | (go_at_call 28; refine hs.mono ?_; rintro e w' ⟨rfl, rfl⟩))
        go_ret
        exact DPost.same HD.out 42
      · rw [if_neg e3] at er
        have e3' : (D.stateAt k == 2) = false := by simp [e3]
        have E1 := Lib.hid e1
        have ER := Lib.hid er
        clear e1 e2 e3 er
        go_enter Try.func25, Try.ntmps25
        go_wp2_with (first | (go_at_call 47; refine hb.mono ?_; rintro e w' ⟨rfl, rfl⟩) | (go_at_call 28; refine hs.mono ?_; rintro e w' ⟨rfl, rfl⟩))
        refine (sclone_any _ data E1.out).mono ?_
        rintro e w1 ⟨rfl, hb1⟩
        have hdo := do_any w1 L D (HD.out.below hb1) (.write k data) hk (fun a d e => by injection e with _ e; rw [← e]; exact E1.out) hm hoff
        unfold actV at hdo
        have ST := Lib.hid (Step.of_below (L := L) hb1)
        clear hb1 hb hs
        go_wp2_with fail
        refine hdo.mono ?_
        rintro e w2 ⟨L2, rfl, h2, s2⟩
        go_wp2_with fail
        go_ret
        have er := ER.out
        subst er
        exact ⟨L2, rfl, h2, ST.out.trans s2⟩
    · rw [if_pos e1] at er
      subst er
      have e1' : ((data.size : Int) != 128) = true := by simp; omega
      clear e1
      go_enter Try.func25, Try.ntmps25
      go_wp2_with (first | (go_at_call 47; refine hb.mono ?_; rintro e w' ⟨rfl, rfl⟩) | (go_at_call 28; refine hs.mono ?_; rintro e w' ⟨rfl, rfl⟩))
      go_ret
      exact DPost.same HD.out 2
  · have er := HR.out
    rw [if_pos hz] at er
    subst er
    have hzb : (D.block i != 0) = true := by simp [hz]
    clear hz
    go_enter Try.func25, Try.ntmps25
    go_wp2_with (first | (go_at_call 47; refine hb.mono ?_; rintro e w' ⟨rfl, rfl⟩) | (go_at_call 28; refine hs.mono ?_; rintro e w' ⟨rfl, rfl⟩))
    go_ret
    exact DPost.same HD.out _

theorem erase_any (w : World) (L : Lay) (D : Dev) (h : DevAt w L D) (i : Int) (h0 : -9223372036854775808 ≤ i) (h1 : i ≤ 9223372036854775807) (hm : D.acts.length < 1000000) :
    Calls Try.prog 26 #[.pointer (some ⟨L.g, 0, none⟩), .int .i64 i] w (DPost L w (D.erase i)) := by
  have hb := block_any w L D h i h0 h1
  have hs := state_any w L D h i h0 h1
  generalize hr : D.erase i = r
  unfold Dev.erase at hr
  have HR := Lib.hid hr
  have HD := Lib.hid h
  clear hr h
  by_cases hz : D.block i = 0
  · obtain ⟨hoff, hi0, hi1, hi2⟩ := Dev.block_zero hz
    have hzb : (D.block i != 0) = false := by simp [hz]
    have er := HR.out
    rw [if_neg (by omega)] at er
    obtain ⟨k, rfl⟩ : ∃ k : Nat, i = k := ⟨i.toNat, by omega⟩
    have hk : k < D.now.length := by omega
    clear hz
    by_cases e2 : D.stateAt k = 0
    · rw [if_pos e2] at er
      subst er
      have e2' : (D.stateAt k == 0) = true := by simp [e2]
      clear e2
      go_enter Try.func26, Try.ntmps26
      go_wp2_with (first | (go_at_call 47; refine hb.mono ?_; rintro e w' ⟨rfl, rfl⟩) | (go_at_call 28; refine hs.mono ?_; rintro e w' ⟨rfl, rfl⟩))
      go_ret
      exact DPost.same HD.out 41
    rw [if_neg e2] at er
    have e2' : (D.stateAt k == 0) = false := by simp [e2]
    by_cases e3 : D.stateAt k = 2
    · rw [if_pos e3] at er
      subst er
      have e3' : (D.stateAt k == 2) = true := by simp [e3]
      clear e2 e3
      go_enter Try.func26, Try.ntmps26
      go_wp2_with (first | (go_at_call 47; refine hb.mono ?_; rintro e w' ⟨rfl, rfl⟩) | (go_at_call 28; refine hs.mono ?_; rintro e w' ⟨rfl, rfl⟩))
      go_ret
      exact DPost.same HD.out 0
    · rw [if_neg e3] at er
      have e3' : (D.stateAt k == 2) = false := by simp [e3]
      have ER := Lib.hid er
      have hdo := do_any w L D HD.out (.erase k) hk (fun a d e => by cases e) hm hoff
      unfold actV at hdo
      clear e2 e3 er
      go_enter Try.func26, Try.ntmps26
      go_wp2_with (first | (go_at_call 47; refine hb.mono ?_; rintro e w' ⟨rfl, rfl⟩) | (go_at_call 28; refine hs.mono ?_; rintro e w' ⟨rfl, rfl⟩) | (go_at_call 48; refine hdo.mono ?_; rintro e w2 ⟨L2, rfl, h2, s2⟩))
      go_ret
      have er := ER.out
      subst er
      exact ⟨L2, rfl, h2, s2⟩
  · have er := HR.out
    rw [if_pos hz] at er
    subst er
    have hzb : (D.block i != 0) = true := by simp [hz]
    clear hz
    go_enter Try.func26, Try.ntmps26
    go_wp2_with (first | (go_at_call 47; refine hb.mono ?_; rintro e w' ⟨rfl, rfl⟩) | (go_at_call 28; refine hs.mono ?_; rintro e w' ⟨rfl, rfl⟩))
    go_ret
    exact DPost.same HD.out _

theorem Dev.flush_ok {D : Dev} (h : D.OK) : Dev.OK { D with sure := D.now, acts := [] } :=
  ⟨rfl, h.pos, h.max, (fun x hx => by cases hx), h.left, h.leftMax, (fun x hx => by cases hx), by show 0 ≤ _; omega, h.starts, h.keepMax, h.st, h.st, h.keepIs⟩

/-- The device behind a Flush. -/
theorem flush_end {w : World} {L : Lay} {D : Dev} {sp : List Value} (h : DevAt w L D) (hs : Blk w L.gs 88 (pbCells D.sure ++ sp)) :
    DevAt ((w.drew.setRow L.gs (pbCells D.now ++ sp).toArray).setCell ⟨L.g, 2, none⟩ (.slice none 0 0)) { L with va := .slice none 0 0 } { D with sure := D.now, acts := [] } ∧
    Step L w { L with va := .slice none 0 0 } ((w.drew.setRow L.gs (pbCells D.now ++ sp).toArray).setCell ⟨L.g, 2, none⟩ (.slice none 0 0)) := by
  obtain ⟨sp', hs', hcs, hcm, hsl, hsy⟩ := h.sureB
  have hspl : sp.length = sp'.length := by
    unfold Blk at hs hs'
    rw [hs] at hs'
    simp at hs'
    rw [hs']
  obtain ⟨zs, hn, hcn, hnm, hnl, hny⟩ := h.nowB
  generalize hw' : (w.drew.setRow L.gs (pbCells D.now ++ sp).toArray).setCell ⟨L.g, 2, none⟩ (.slice none 0 0) = w'
  have hblk : ∀ b, b ≠ L.gs → b ≠ L.g → w'.heap[b]? = w.heap[b]? := fun b h1 h2 => by
    rw [← hw', Below.heap_setCell _ _ _ _ h2, setRow_other _ _ _ _ h1]; rfl
  have hdev1 : Blk (w.drew.setRow L.gs (pbCells D.now ++ sp).toArray) L.g 81 (devCells L D) := h.dev.same (setRow_other _ _ _ _ h.g_ne_gs)
  have hdev2 : Blk w' L.g 81 _ := hw' ▸ hdev1.set_ 2 (.slice none 0 0)
  have hs1 : Blk (w.drew.setRow L.gs (pbCells D.now ++ sp).toArray) L.gs 88 (pbCells D.now ++ sp) := setRow_heap _ _ _ _ 88 (0, 0) (hs : Blk w.drew _ _ _)
  have hs2 : Blk w' L.gs 88 (pbCells D.now ++ sp) := hw' ▸ hs1.far (p := ⟨L.g, 2, none⟩) (Ne.symm h.g_ne_gs) _
  have hn2 : Blk w' L.gn 88 (pbCells D.now ++ zs) := hn.same (hblk _ (Ne.symm h.ne) (Ne.symm h.g_ne_gn))
  refine ⟨⟨Dev.flush_ok h.ok, hdev2, ?_, ?_, World.ownsRow_nil _ _ _ _, own_same h.keep fun b hb => hblk b (h.keep_ne_gs hb) (h.keep_ne_g hb), h.ne⟩, ?_⟩
  · refine own_of_blk hs2 hcs hcm ?_ hny
    rw [List.length_append, hny, hspl, ← hsy, ← List.length_append]; exact hsl
  · exact own_of_blk hn2 hcn hnm hnl hny
  · refine ⟨?_, ?_, ?_, ?_, fun b hb hf => ?_, rfl, rfl, rfl, rfl, rfl, fun b hb => ?_⟩
    · rw [← hw']; rfl
    · rw [← hw']; rfl
    · rw [← hw']; rfl
    · rw [← hw']; simp [World.setCell, World.setRow]
    · rw [hblk b (fun e => hf (.inr (.inl e))) (fun e => hf (.inl e))]
    · rcases hb with e | e | e | e | e
      · exact .inl (.inl e)
      · exact .inl (.inr (.inl e))
      · exact .inl (.inr (.inr (.inl e)))
      · cases e
      · exact .inl (.inr (.inr (.inr (.inr e))))

theorem flush_any (w : World) (L : Lay) (D : Dev) (h : DevAt w L D) : Calls Try.prog 16 #[.pointer (some ⟨L.g, 0, none⟩)] w (DPost L w D.flush) := by
  have ho := on_any w L D h
  unfold Dev.on at ho
  generalize hr : D.flush = r
  unfold Dev.flush at hr
  cases hoff : D.off with
  | true =>
    rw [hoff] at ho
    rw [if_pos hoff] at hr
    subst hr
    have HD := Lib.hid h
    clear h hoff
    go_enter Try.func16, Try.ntmps16
    go_wp2_with (go_at_call 42; refine ho.mono ?_; rintro e w' ⟨rfl, rfl⟩)
    go_ret
    exact DPost.same HD.out 43
  | false =>
    rw [hoff] at ho
    rw [if_neg (by simp [hoff])] at hr
    have hfa := fails_any w L D h
    obtain ⟨k1, k2, k3, k4, k5, k6⟩ := Dev.count_same D
    have HK := Lib.hid k3
    have HN := Lib.hid k1
    clear k1 k2 k3 k4 k5 k6 h hoff
    by_cases hf : D.fails = true
    · rw [if_pos hf] at hr
      rw [hf] at hfa
      subst hr
      clear hf
      go_enter Try.func16, Try.ntmps16
      go_wp2_with (go_at_call 42; refine ho.mono ?_; rintro e w' ⟨rfl, rfl⟩)
      refine hfa.mono ?_
      rintro e w1 ⟨rfl, h1, s1⟩
      clear hfa ho
      have c6 := h1.c6
      have hcr := crash_any w1 _ _ h1 L.vk D.count.keep h1.readsKeep h1.ok.keepMax
      have S1 := Lib.hid s1
      clear h1 s1
      go_wp2_with (go_at_call 20; refine hcr.mono ?_; rintro e w5 ⟨L5, rfl, h5, s5⟩)
      go_ret
      rw [HK.out] at h5
      exact ⟨L5, rfl, h5, S1.out.trans s5⟩
    · have hf' : D.fails = false := by simpa using hf
      rw [if_neg hf] at hr
      rw [hf'] at hfa
      subst hr
      clear hf hf'
      go_enter Try.func16, Try.ntmps16
      go_wp2_with (go_at_call 42; refine ho.mono ?_; rintro e w' ⟨rfl, rfl⟩)
      refine hfa.mono ?_
      rintro e w1 ⟨rfl, h1, s1⟩
      clear hfa ho
      generalize hD1 : D.count = D1 at h1 HK HN ⊢
      have HD1 := Lib.hid hD1
      have d0 := h1.c0
      have d1 := h1.c1
      have d2 := h1.c2
      have fr := h1.fr
      obtain ⟨sp, hs, hcs, hcm, hsl, hsy⟩ := h1.sureB
      obtain ⟨zs, hn, hcn, hnm, hnl, hny⟩ := h1.nowB
      have hcp := run_copyB w1.drew 3 L.gn L.gs D1.now.length L.cn L.cs _ zs _ sp (hn : Blk w1.drew _ _ _) hs hny hsy pbCells_one
      generalize hrow : (pbCells D1.now ++ sp).toArray = row at hcp
      have e0 : ∀ i, (w1.drew.setRow L.gs row).cell? ⟨L.g, i, none⟩ = w1.cell? ⟨L.g, i, none⟩ := fun i => World.cell?_of_block (w := w1) (setRow_other _ _ _ _ h1.g_ne_gs)
      have f0 : ∀ i, (w1.drew.setRow L.gs row).frozen? ⟨L.g, i, none⟩ = false := fun i => (World.frozen?_of_block (w := w1) (setRow_other _ _ _ _ h1.g_ne_gs)).trans (fr i)
      have H1 := Lib.hid h1
      have S1 := Lib.hid s1
      have HS := Lib.hid hs
      have HROW := Lib.hid hrow
      clear h1 s1 hs hn hsl hnl hsy hny hrow hD1
      go_wp2_with fail
      go_region
      go_wp2
      go_ret
      have er := HROW.out
      subst er
      obtain ⟨k4, s4⟩ := flush_end H1.out HS.out
      have e1 : D.now = D1.now := HN.out.symm
      have e2 : D.count = D1 := HD1.out
      rw [e1, e2]
      exact ⟨_, rfl, k4, S1.out.trans s4⟩
end Go.Proofs.Ytfmhfgkmoeimeaa
