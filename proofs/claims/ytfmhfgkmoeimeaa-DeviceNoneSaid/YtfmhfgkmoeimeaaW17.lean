/- Walks: After. -/
import Derived.Test.YtfmhfgkmoeimeaaW16
namespace Go.Proofs.Ytfmhfgkmoeimeaa
open Go.RowKit

theorem take_fold (n : Nat) (l : List PDo) (k : Nat) (hk : k < l.length) : afterRun n (l.take (k + 1)) = afterStep (afterRun n (l.take k)) l[k] := by
  unfold afterRun
  rw [List.take_succ_eq_append_getElem hk, List.foldl_append]; rfl

theorem afterRun_grow (_n : Nat) (l : List PDo) : ∀ D : Dev, (l.foldl afterStep D).acts.length ≤ D.acts.length + l.length ∧ (l.foldl afterStep D).starts ≤ D.starts + l.length := by
  induction l with
  | nil => intro D; exact ⟨Nat.le_refl _, Nat.le_refl _⟩
  | cons x r ih =>
    intro D
    have h1 := ih (afterStep D x)
    have h2 := afterStep_grow D x
    simp only [List.foldl_cons, List.length_cons]
    exact ⟨by omega, by omega⟩

theorem afterRun_small (n : Nat) (l : List PDo) (k : Nat) (hl : l.length ≤ 100000) : (afterRun n (l.take k)).acts.length < 1000000 ∧ (afterRun n (l.take k)).starts < 1000000 := by
  have h := afterRun_grow n (l.take k) (Dev.new (4 + n % 16))
  have h2 : (l.take k).length ≤ l.length := by rw [List.length_take]; omega
  have h3 : (Dev.new (4 + n % 16)).acts.length = 0 := rfl
  have h4 : (Dev.new (4 + n % 16)).starts = 0 := rfl
  exact ⟨by unfold afterRun; omega, by unfold afterRun; omega⟩

/-- A device that a call has made, and has turned since: nothing below has turned. -/
structure Mine (w : World) (L : Lay) (w' : World) : Prop where
  below : Below w.heap.size w w'
  foot : ∀ b, L.foot b → w.heap.size ≤ b

theorem Mine.of_fresh {w w' : World} {L : Lay} (h : Fresh w L w') : Mine w L w' := ⟨h.1, h.2⟩
theorem Mine.step {w w1 w2 : World} {L L2 : Lay} (h : Mine w L w1) (s : Step L w1 L2 w2) : Mine w L2 w2 := by
  refine ⟨h.below.trans ⟨s.os, s.tape, s.output, s.size, fun b hb => s.block b (by have := h.below.size; omega) (fun hf => by have := h.foot b hf; omega)⟩, fun b hb => ?_⟩
  rcases s.foot b hb with h1 | h1
  · exact h.foot b h1
  · have := h.below.size; omega
theorem Mine.after {w w1 w2 : World} {L : Lay} (h : Mine w L w1) (hb : Below w1.heap.size w1 w2) : Mine w L w2 := ⟨h.below.trans (hb.mono h.below.size), h.foot⟩

set_option maxHeartbeats 2000000 in
theorem after_any (w : World) (n : Nat) (hn : n < 256) (v : Value) (l : List PDo) (hl : l.length ≤ 60) (h : DosAt w w.heap.size v l) (hxs : ∀ x ∈ l, x.OK) :
    Calls Try.prog 15 #[.int .u8 n, v] w fun e w' => ∃ L, e = .returned (.pointer (some ⟨L.g, 0, none⟩)) ∧ DevAt w' L (afterF n l) ∧ Mine w L w' := by
  have hnew := new_any w (4 + n % 16) (by omega) (by omega)
  have hn1 : (((4 + n % 16 : Nat)) : Int) = 4 + (n : Int) % 16 := by omega
  rw [hn1] at hnew
  have H := Lib.hid h
  have HXS := Lib.hid hxs
  clear hxs
  obtain ⟨A, c, rfl, hlc, _, _⟩ := h
  have HN := Lib.hid hnew
  clear hnew hn1
  go_enter Try.func15, Try.ntmps15
  go_wp2_with (go_at_call 35; refine HN.out.mono ?_; rintro e w1 ⟨M, rfl, hM, hf⟩; have R0 := Lib.hid (And.intro hM (Mine.of_fresh hf)); clear hM hf)
  clear HN
  go_loopw [7] (fun i wr => ∃ k : Nat, k ≤ l.length ∧ i = .int .i64 k ∧ Hid (∃ L, L.g = M.g ∧ DevAt wr L (afterRun n (l.take k)) ∧ Mine w L wr)) (fun i _ => l.length - (intOf i).toNat)
  case atStart => exact ⟨0, by omega, rfl, M, rfl, R0.out.1, R0.out.2⟩
  case round =>
    obtain ⟨k, hk, rfl, hd⟩ := hrel
    obtain ⟨L, hg, hD, hM⟩ := hd.out
    clear R0 hd
    by_cases hlt : k < l.length
    · obtain ⟨A', c', he, _, hok, hcell⟩ := H.out.below hM.below
      injection he with he1 he2 he3
      subst he1 he3
      obtain ⟨b, off, kv, rfl, hb, c0, c1, c2, c3, c4, hks⟩ := hcell k hlt
      obtain ⟨x, hx⟩ : ∃ x, l[k] = x := ⟨_, rfl⟩
      rw [hx] at c0 c1 c2 c3 hks
      have hxok : x.OK := HXS.out x (by rw [← hx]; exact List.getElem_mem hlt)
      have hsm := afterRun_small n l k (by omega)
      have hgs : w.heap.size ≤ L.gs := hM.foot _ (.inr (.inl rfl))
      have hwt := with_any wr L _ hD x kv hxok (hks.reads hgs) hsm.1 hsm.2
      rw [hg] at hwt
      unfold doV at hwt
      have hw256 := hxok.what
      have HX := Lib.hid hx
      have HD := Lib.hid hD
      have HM := Lib.hid hM
      have HG := Lib.hid hg
      have HWT := Lib.hid hwt
      obtain ⟨KA, kc, rfl, _⟩ := hks
      clear hx hD hM hg hwt hcell hok hgs hsm hxok
      by_cases h11 : x.what % 13 < 11
      · have e1 : (x.what : Int) % 13 < 11 := by omega
        have H11 := Lib.hid h11
        clear h11
        go_wp2_with (go_at_call 19; refine HWT.out.mono ?_; rintro e w2 ⟨L2, rfl, h2, s2⟩; have H2 := Lib.hid h2; have S2 := Lib.hid s2; clear h2 s2)
        go_roundw
        case rel =>
          refine ⟨k + 1, by omega, by go_num, L2, S2.out.g.trans HG.out, ?_, HM.out.step S2.out⟩
          rw [take_fold n l k hlt, HX.out]
          unfold afterStep
          rw [if_pos H11.out]
          exact H2.out
        case measure => simp [intOf]; omega
      · have e1 : ¬ (x.what : Int) % 13 < 11 := by omega
        have H11 := Lib.hid h11
        clear h11
        go_wp2_with fail
        go_roundw
        case rel =>
          refine ⟨k + 1, by omega, by go_num, L, HG.out, ?_, HM.out⟩
          rw [take_fold n l k hlt, HX.out]
          unfold afterStep
          rw [if_neg H11.out]
          exact HD.out
        case measure => simp [intOf]; omega
    · obtain rfl : k = l.length := by omega
      rw [List.take_length] at hD
      have hup := up_any wr L _ hD
      rw [hg] at hup
      have hsm := afterRun_small n l l.length (by omega)
      rw [List.take_length] at hsm
      have hst := start_any wr L _ hD hsm.2
      rw [hg] at hst
      have HD := Lib.hid hD
      have HM := Lib.hid hM
      have HG := Lib.hid hg
      have HST := Lib.hid hst
      have hF : afterF n l = if (afterRun n l).off then (afterRun n l).start.1 else afterRun n l := rfl
      generalize afterRun n l = D at *
      cases hoff : D.off with
      | false =>
        rw [hoff] at hup hF
        have HF := Lib.hid hF
        clear hD hM hg hst hsm hoff hF
        go_wp2_with (go_at_call 30; refine hup.mono ?_; rintro e w2 ⟨rfl, rfl⟩)
        go_ret
        exact ⟨L, by rw [HG.out]; rfl, by rw [HF.out]; exact HD.out, HM.out⟩
      | true =>
        rw [hoff] at hup hF
        have e0 : D.start.2 = 0 := by unfold Dev.start; rw [hoff]; rfl
        have HF := Lib.hid hF
        have E0 := Lib.hid e0
        clear hD hM hg hst hsm hoff hF e0
        go_wp2_with (first | (go_at_call 30; refine hup.mono ?_; rintro e w2 ⟨rfl, rfl⟩) | (go_at_call 21; refine HST.out.mono ?_; rintro e w2 ⟨L2, rfl, h2, s2⟩; have H2 := Lib.hid h2; have S2 := Lib.hid s2; clear h2 s2; rw [E0.out]))
        go_ret
        exact ⟨L2, by rw [S2.out.g, HG.out]; rfl, by rw [HF.out]; exact H2.out, HM.out.step S2.out⟩
end Go.Proofs.Ytfmhfgkmoeimeaa
