/- Walks: Start, Starts, Fail, States. -/
import Derived.Test.YtfmhfgkmoeimeaaW9
namespace Go.Proofs.Ytfmhfgkmoeimeaa
open Go.RowKit

theorem load_any (w : World) (g i : Nat) (x : Int) (hc : w.cell? ⟨g, i, none⟩ = some (.int .i64 x)) :
    Calls Try.prog 64 #[.pointer (some ⟨g, i, none⟩)] w fun e w' => e = .returned (.int .i64 x) ∧ w = w' := by
  have hl := run_call_load (P := Try.prog) Try.func73 (by kernel_rfl) (by kernel_rfl) (by kernel_rfl) .i64 (by kernel_rfl) hc
  go_enter Try.func64, Try.ntmps64
  go_wp2
  go_ret
  exact ⟨rfl, rfl⟩

theorem add_any (w : World) (g i : Nat) (x : Int) (hc : w.cell? ⟨g, i, none⟩ = some (.int .i64 x)) (hf : w.frozen? ⟨g, i, none⟩ = false) (h0 : 0 ≤ x) (h1 : x ≤ 1000000) :
    Calls Try.prog 46 #[.pointer (some ⟨g, i, none⟩), .int .i64 1] w fun e w' => e = .returned (.int .i64 (x + 1)) ∧ w' = w.setCell ⟨g, i, none⟩ (.int .i64 (x + 1)) := by
  have hw : IntKind.i64.wrap (x + 1) = x + 1 := IntWalk.i64_in _ (by omega)
  have hl := run_call_add (P := Try.prog) Try.func66 (by kernel_rfl) (by kernel_rfl) (by kernel_rfl) .i64 (by kernel_rfl) hc hf (y := 1) (s := x + 1) (by simp [go_sem, Op.intArith, hw])
  clear hw
  go_enter Try.func46, Try.ntmps46
  go_wp2
  go_ret
  exact ⟨rfl, rfl⟩

theorem starts_any (w : World) (L : Lay) (D : Dev) (h : DevAt w L D) :
    Calls Try.prog 41 #[.pointer (some ⟨L.g, 0, none⟩)] w fun e w' => e = .returned (.int .i64 D.starts) ∧ w = w' := by
  have hl := load_any w L.g 4 D.starts h.c4
  clear h
  go_enter Try.func41, Try.ntmps41
  go_wp2_with (go_at_call 64; refine hl.mono ?_; rintro e w' ⟨rfl, rfl⟩)
  go_ret
  exact ⟨rfl, rfl⟩

theorem Dev.start_ok {D : Dev} (h : D.OK) (hs : D.starts < 1000000) : Dev.OK { D with off := false, starts := D.starts + 1 } :=
  ⟨h.len, h.pos, h.max, h.acts, h.left, h.leftMax, h.wr, h.many, by show D.starts + 1 ≤ _; omega, h.keepMax, h.st, h.stS, h.keepIs⟩

theorem start_end {w : World} {L : Lay} {D : Dev} (h : DevAt w L D) (hs : D.starts < 1000000) :
    DevAt ((w.setCell ⟨L.g, 3, none⟩ (.bool false)).setCell ⟨L.g, 4, none⟩ (.int .i64 ((D.starts : Int) + 1))) L { D with off := false, starts := D.starts + 1 } ∧
    Step L w L ((w.setCell ⟨L.g, 3, none⟩ (.bool false)).setCell ⟨L.g, 4, none⟩ (.int .i64 ((D.starts : Int) + 1))) := by
  refine ⟨h.own_turn (Dev.start_ok h.ok hs) ?_ (fun b hb _ => by rw [Below.heap_setCell _ _ _ _ hb, Below.heap_setCell _ _ _ _ hb]) rfl rfl rfl rfl, ((Step.refl L w).set_ (.inl (.inl rfl)) _).set_ (.inl (.inl rfl)) _⟩
  exact (h.dev.set_ 3 (.bool false)).set_ 4 (.int .i64 ((D.starts : Int) + 1))

theorem start_any (w : World) (L : Lay) (D : Dev) (h : DevAt w L D) (hs : D.starts < 1000000) : Calls Try.prog 21 #[.pointer (some ⟨L.g, 0, none⟩)] w (DPost L w D.start) := by
  have ho := on_any w L D h
  unfold Dev.on at ho
  generalize hr : D.start = r
  unfold Dev.start at hr
  cases hoff : D.off with
  | true =>
    rw [hoff] at ho
    rw [if_pos hoff] at hr
    subst hr
    have c3 := h.c3
    have f3 := h.fr 3
    have hadd := add_any (w.setCell ⟨L.g, 3, none⟩ (.bool false)) L.g 4 D.starts ((h.dev.set_ 3 (.bool false)).cell 4) ((h.dev.set_ 3 (.bool false)).frozen 4) (by omega) (by omega)
    have HE := Lib.hid (start_end h hs)
    clear h hoff
    go_enter Try.func21, Try.ntmps21
    go_wp2_with (first | (go_at_call 42; refine ho.mono ?_; rintro e w' ⟨rfl, rfl⟩) | (go_at_call 46; refine hadd.mono ?_; rintro e w' ⟨rfl, rfl⟩))
    go_ret
    exact ⟨L, rfl, HE.out⟩
  | false =>
    rw [hoff] at ho
    rw [if_neg (by simp [hoff])] at hr
    subst hr
    have HD := Lib.hid h
    clear h hoff
    go_enter Try.func21, Try.ntmps21
    go_wp2_with (go_at_call 42; refine ho.mono ?_; rintro e w' ⟨rfl, rfl⟩)
    go_ret
    exact DPost.same HD.out 2

theorem Dev.failAt_ok {D : Dev} (h : D.OK) (n : Int) (ks : List Int) (h0 : 0 ≤ n) (h1 : n ≤ 9223372036854775807) (hk : ks.length ≤ 1000000) (hks : ∀ k ∈ ks, -9223372036854775808 ≤ k ∧ k ≤ 9223372036854775807) : Dev.OK { D with left := n, keep := ks } :=
  ⟨h.len, h.pos, h.max, h.acts, by show -1 ≤ n; omega, h1, h.wr, h.many, h.starts, hk, h.st, h.stS, hks⟩

theorem own_notlt {w : World} {base : Nat} {e : TypeId} {size n b : Nat} {v : Value} {xs : List Value} (h : w.ownsRow base e size v n xs) (hb : v.ownBlock = some b) : base ≤ b := (h.lt b hb).1

theorem fail_end {w w1 : World} {L : Lay} {D : Dev} {vk : Value} {n : Int} {ks : List Int} (h : DevAt w L D) (hb : Below w.heap.size w w1) (hk : w1.ownsRow w.heap.size 3 1 vk ks.length (ks.map intV)) (hok : Dev.OK { D with left := n, keep := ks }) :
    DevAt ((w1.setCell ⟨L.g, 5, none⟩ (.int .i64 n)).setCell ⟨L.g, 6, none⟩ vk) { L with vk := vk } { D with left := n, keep := ks } ∧
    Step L w { L with vk := vk } ((w1.setCell ⟨L.g, 5, none⟩ (.int .i64 n)).setCell ⟨L.g, 6, none⟩ vk) := by
  have h1 := h.below hb
  have hkg : ∀ b, vk.ownBlock = some b → w.heap.size ≤ b := fun b e => own_notlt hk e
  have hf : ∀ b, b ≠ L.g → ((w1.setCell ⟨L.g, 5, none⟩ (.int .i64 n)).setCell ⟨L.g, 6, none⟩ vk).heap[b]? = w1.heap[b]? := fun b h1 => by
    rw [Below.heap_setCell _ _ _ _ h1, Below.heap_setCell _ _ _ _ h1]
  obtain ⟨sp, hs, _⟩ := h1.sureB
  obtain ⟨zs, hn, _⟩ := h1.nowB
  refine ⟨⟨hok, (h1.dev.set_ 5 (.int .i64 n)).set_ 6 vk, ?_, ?_, ?_, ?_, h.ne⟩, ?_⟩
  · exact own_same h1.sure fun b e => by
      have e' : b = L.gs := by simpa [Value.ownBlock] using e.symm
      subst e'; exact hf _ (Ne.symm h1.g_ne_gs)
  · exact own_same h1.now fun b e => by
      have e' : b = L.gn := by simpa [Value.ownBlock] using e.symm
      subst e'; exact hf _ (Ne.symm h1.g_ne_gn)
  · exact own_same h1.acts fun b e => hf b (h1.acts_ne_g e)
  · exact own_same (own_low hk (Nat.zero_le _)) fun b e => hf b (fun c => by have := hkg b e; have := h.dev.lt; omega)
  · exact (((Step.of_below hb).set_ (.inl (.inl rfl)) _).set_ (.inl (.inl rfl)) _).lay L.va vk (fun b e => .inl (.inr (.inr (.inr (.inl e))))) (fun b e => .inr (hkg b e))

theorem fail_any (w : World) (L : Lay) (D : Dev) (h : DevAt w L D) (n : Int) (v : Value) (ks : List Int) (g : Nat) (hv : ReadsI w g v ks) (hn : n ≤ 9223372036854775807) (hk : ks.length ≤ 1000000) (hks : ∀ k ∈ ks, -9223372036854775808 ≤ k ∧ k ≤ 9223372036854775807) :
    Calls Try.prog 29 #[.pointer (some ⟨L.g, 0, none⟩), .int .i64 n, v] w (DPost L w (D.failAt n ks)) := by
  have ho := on_any w L D h
  unfold Dev.on at ho
  generalize hr : D.failAt n ks = r
  unfold Dev.failAt at hr
  have hcl := cloneI_any w g v ks hk hv
  cases hoff : D.off with
  | true =>
    rw [hoff] at ho
    rw [if_pos hoff] at hr
    subst hr
    have HD := Lib.hid h
    clear h hoff hcl hv
    go_enter Try.func29, Try.ntmps29
    go_wp2_with (go_at_call 42; refine ho.mono ?_; rintro e w' ⟨rfl, rfl⟩)
    go_ret
    exact DPost.same HD.out 43
  | false =>
    rw [hoff] at ho
    rw [if_neg (by simp [hoff])] at hr
    by_cases hneg : n < 0
    · rw [if_pos hneg] at hr
      subst hr
      have HD := Lib.hid h
      clear h hoff hcl hv
      go_enter Try.func29, Try.ntmps29
      go_wp2_with (go_at_call 42; refine ho.mono ?_; rintro e w' ⟨rfl, rfl⟩)
      go_ret
      exact DPost.same HD.out 2
    · rw [if_neg hneg] at hr
      subst hr
      have HD := Lib.hid h
      have HOK := Lib.hid (Dev.failAt_ok h.ok n ks (by omega) hn hk hks)
      have HCL := Lib.hid hcl
      clear h hoff hv hks hcl
      go_enter Try.func29, Try.ntmps29
      go_wp2_with (go_at_call 42; refine ho.mono ?_; rintro e w' ⟨rfl, rfl⟩)
      refine HCL.out.mono ?_
      rintro e w1 ⟨v', rfl, hk1, hb1⟩
      have d5 := (HD.out.below hb1).c5
      have d6 := (HD.out.below hb1).c6
      have fr := (HD.out.below hb1).fr
      have HE := Lib.hid (fail_end HD.out hb1 hk1 HOK.out)
      obtain ⟨A, c, rfl⟩ : ∃ A c, v' = .slice A ks.length c := by
        rcases hk1.2 with ⟨hv, hn⟩ | ⟨g, cap, cur, hv, _⟩
        · exact ⟨none, 0, by rw [hv, hn]⟩
        · exact ⟨_, _, hv⟩
      clear hb1 hk1
      go_wp2_with fail
      go_ret
      exact ⟨_, rfl, HE.out⟩
end Go.Proofs.Ytfmhfgkmoeimeaa
