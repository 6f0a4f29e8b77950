/- Walks: DevicePending. -/
import Derived.Test.YtfmhfgkmoeimeaaW20
import Derived.Test.YtfmhfgkmoeimeaaP1
namespace Go.Proofs.Ytfmhfgkmoeimeaa
open Go.RowKit

set_option maxHeartbeats 4000000 in
set_option maxRecDepth 100000 in
theorem pend_any (w : World) (n : Nat) (hn : n < 256) (v : Value) (l : List PDo) (h : DosAt w w.heap.size v l) :
    Calls Try.prog 8 #[.int .u8 n, v] w fun e w' => e = .returned (.bool true) ∧ Below w.heap.size w w' := by
  have hmuch := much_any w w.heap.size v l 60 h (by omega)
  obtain ⟨A, c, rfl, hlc, hin, _⟩ := id h
  cases hmf : muchF l 60 with
  | true =>
    rw [hmf] at hmuch
    clear hmf h hin
    go_enter Try.func8, Try.ntmps8
    go_wp2_with (go_at_call 14; refine hmuch.mono ?_; rintro e w1 ⟨rfl, rfl⟩)
    go_ret
    exact ⟨rfl, Below.refl _ _⟩
  | false =>
    rw [hmf] at hmuch
    obtain ⟨hl, hxs⟩ := much_ok hmf hin
    have ha := (Holds.none_ w).after_ n hn (.slice none 0 0) [] (by decide) (DosAt.nil _ _) (by simp)
    have H := Lib.hid h
    have HXS := Lib.hid hxs
    have HA := Lib.hid ha
    clear h hxs ha hmf hin
    go_enter Try.func8, Try.ntmps8
    go_wp2_with (first
      | (go_at_call 14; refine hmuch.mono ?_; rintro e w1 ⟨rfl, rfl⟩)
      | (go_at_call 15; refine HA.out.mono ?_; rintro e w1 ⟨g, rfl, h1⟩; have H1 := Lib.hid h1; clear h1))
    clear HA hmuch
    go_loopw [6, 7] (fun m i wr => ∃ (k : Nat) (D : Dev), k ≤ l.length ∧ i = .int .i64 k ∧ m = .int .i64 D.acts.length ∧ D.acts.length ≤ 100 + k ∧ Hid (Holds w wr [(g, D)] ∧ D.left = -1 ∧ D.starts ≤ 100 + k)) (fun _ i _ => l.length - (intOf i).toNat)
    case atStart =>
      have h2 := after_small n []
      have h3 : (afterF n []).acts.length = 0 := by have := h2.1; simpa using this
      exact ⟨0, afterF n [], by omega, rfl, by rw [h3]; rfl, by omega, H1.out, after_left n [], by have := h2.2; simp at this; omega⟩
    case round =>
      obtain ⟨k, D, hk, rfl, rfl, hm, hd⟩ := hrel
      by_cases hlt : k < l.length
      · obtain ⟨b, off, kv, rfl, c0, c1, c2, c3, c4, hks⟩ := H.out.round hd.out.1.below hlt
        obtain ⟨x, hx⟩ : ∃ x, l[k] = x := ⟨_, rfl⟩
        rw [hx] at c0 c1 c2 c3 hks
        have hxok : x.OK := HXS.out x (by rw [← hx]; exact List.getElem_mem hlt)
        have hsm : D.acts.length < 1000000 ∧ D.starts < 1000000 := ⟨by omega, by have := hd.out.2.2; omega⟩
        have hst := hd.out.1.state (i := 0) rfl x.i hxok.i0 hxok.i1
        have hwt := hd.out.1.with_ (i := 0) rfl x kv hxok hks hsm.1 hsm.2
        unfold doV at hwt
        have hw256 := hxok.what
        have hgrow := withF_grow D x
        have hleft := fun h => withF_left D x h hd.out.2.1
        have hdid := fun h => withF_did D x (hd.out.1.ok (i := 0) rfl) hd.out.2.1 h
        have HX := Lib.hid hx
        have HG := Lib.hid hgrow
        have HL := Lib.hid hleft
        have HDID := Lib.hid hdid
        have HWT := Lib.hid hwt
        have HST := Lib.hid hst
        obtain ⟨KA, kc, rfl, _⟩ := hks
        clear hx hwt hsm hxok hgrow hleft hdid hst H1
        by_cases h11 : x.what % 13 < 11
        · have e1 : ¬ (10 < (x.what : Int) % 13) := by omega
          have HDL := Lib.hid (HL.out h11)
          have hdid := HDID.out h11
          clear HDID HL
          revert HWT HG HDL
          generalize withF D x = r at hdid
          intro HG HWT HDL
          have HD := Lib.hid hd.out
          clear hd
          cases hdid with
          | no e he =>
            have hne : (e == 0) = false := by simpa using he
            clear he
            go_wp2_with (first
              | (go_at_call 28; refine HST.out.mono ?_; rintro e w2 ⟨rfl, rfl⟩)
              | (go_at_call 19; refine HWT.out.mono ?_; rintro e w2 ⟨rfl, h2⟩; have H2 := Lib.hid h2; clear h2)
              | (go_at_call 22; refine (H2.out.pending (i := 0) rfl).mono ?_; rintro e w3 ⟨rfl, rfl⟩))
            go_roundw
            case rel => exact ⟨k + 1, _, by omega, by go_num, rfl, by omega, H2.out, by show D.left = -1; exact HD.out.2.1, by show D.starts ≤ _; have := HD.out.2.2; omega⟩
            case measure => simp [intOf]; omega
          | wrote j d q hi hj hon hdz hs =>
            have q1 : (x.what : Int) % 13 < 5 := by omega
            have q2 : ((x.what : Int) % 13 == 7) = false := by rw [beq_eq_false_iff_ne]; omega
            have q3 : ((x.what : Int) % 13 == 8) = false := by rw [beq_eq_false_iff_ne]; omega
            have e3 : ((D.put (.write j d)).acts.length : Int) = (D.acts.length : Int) + 1 := by rw [Dev.put_len]; rfl
            have E3 := Lib.hid e3
            clear q hi hj hon hdz hs e3
            go_wp2_with (first
              | (go_at_call 28; refine HST.out.mono ?_; rintro e w2 ⟨rfl, rfl⟩)
              | (go_at_call 19; refine HWT.out.mono ?_; rintro e w2 ⟨rfl, h2⟩; have H2 := Lib.hid h2; clear h2)
              | (go_at_call 22; refine (H2.out.pending (i := 0) rfl).mono ?_; rintro e w3 ⟨rfl, rfl⟩; rw [E3.out]))
            go_roundw
            case rel => exact ⟨k + 1, _, by omega, by go_num, by rw [E3.out], by have := E3.out; omega, H2.out, by show D.left = -1; exact HD.out.2.1, by show D.starts ≤ _; have := HD.out.2.2; omega⟩
            case measure => simp [intOf]; omega
          | was j q hi hj hon hs =>
            have hsn : D.stateAt x.i = 2 := by rw [hi, stateAt_nat D hj, hs]
            rw [hsn] at HST
            clear hi hj hon hs hsn
            rcases q with q | q
            · have q0 : ¬ (x.what : Int) % 13 < 5 := by omega
              have q1 : (x.what : Int) % 13 = 5 := by omega
              clear q
              go_wp2_with (first
                | (go_at_call 28; refine HST.out.mono ?_; rintro e w2 ⟨rfl, rfl⟩)
                | (go_at_call 19; refine HWT.out.mono ?_; rintro e w2 ⟨rfl, h2⟩; have H2 := Lib.hid h2; clear h2)
                | (go_at_call 22; refine (H2.out.pending (i := 0) rfl).mono ?_; rintro e w3 ⟨rfl, rfl⟩))
              go_roundw
              case rel => exact ⟨k + 1, _, by omega, by go_num, rfl, by omega, H2.out, by show D.left = -1; exact HD.out.2.1, by show D.starts ≤ _; have := HD.out.2.2; omega⟩
              case measure => simp [intOf]; omega
            · have q0 : ¬ (x.what : Int) % 13 < 5 := by omega
              have q1 : (x.what : Int) % 13 = 6 := by omega
              clear q
              go_wp2_with (first
                | (go_at_call 28; refine HST.out.mono ?_; rintro e w2 ⟨rfl, rfl⟩)
                | (go_at_call 19; refine HWT.out.mono ?_; rintro e w2 ⟨rfl, h2⟩; have H2 := Lib.hid h2; clear h2)
                | (go_at_call 22; refine (H2.out.pending (i := 0) rfl).mono ?_; rintro e w3 ⟨rfl, rfl⟩))
              go_roundw
              case rel => exact ⟨k + 1, _, by omega, by go_num, rfl, by omega, H2.out, by show D.left = -1; exact HD.out.2.1, by show D.starts ≤ _; have := HD.out.2.2; omega⟩
              case measure => simp [intOf]; omega
          | erased j q hi hj hon hs =>
            have hsn : D.stateAt x.i = 1 := by rw [hi, stateAt_nat D hj, hs]
            rw [hsn] at HST
            have e3 : ((D.put (.erase j)).acts.length : Int) = (D.acts.length : Int) + 1 := by rw [Dev.put_len]; rfl
            have E3 := Lib.hid e3
            clear hi hj hon hs hsn e3
            rcases q with q | q
            · have q0 : ¬ (x.what : Int) % 13 < 5 := by omega
              have q1 : (x.what : Int) % 13 = 5 := by omega
              clear q
              go_wp2_with (first
                | (go_at_call 28; refine HST.out.mono ?_; rintro e w2 ⟨rfl, rfl⟩)
                | (go_at_call 19; refine HWT.out.mono ?_; rintro e w2 ⟨rfl, h2⟩; have H2 := Lib.hid h2; clear h2)
                | (go_at_call 22; refine (H2.out.pending (i := 0) rfl).mono ?_; rintro e w3 ⟨rfl, rfl⟩; rw [E3.out]))
              go_roundw
              case rel => exact ⟨k + 1, _, by omega, by go_num, by rw [E3.out], by have := E3.out; omega, H2.out, by show D.left = -1; exact HD.out.2.1, by show D.starts ≤ _; have := HD.out.2.2; omega⟩
              case measure => simp [intOf]; omega
            · have q0 : ¬ (x.what : Int) % 13 < 5 := by omega
              have q1 : (x.what : Int) % 13 = 6 := by omega
              clear q
              go_wp2_with (first
                | (go_at_call 28; refine HST.out.mono ?_; rintro e w2 ⟨rfl, rfl⟩)
                | (go_at_call 19; refine HWT.out.mono ?_; rintro e w2 ⟨rfl, h2⟩; have H2 := Lib.hid h2; clear h2)
                | (go_at_call 22; refine (H2.out.pending (i := 0) rfl).mono ?_; rintro e w3 ⟨rfl, rfl⟩; rw [E3.out]))
              go_roundw
              case rel => exact ⟨k + 1, _, by omega, by go_num, by rw [E3.out], by have := E3.out; omega, H2.out, by show D.left = -1; exact HD.out.2.1, by show D.starts ≤ _; have := HD.out.2.2; omega⟩
              case measure => simp [intOf]; omega
          | flushed q hon =>
            have q0 : ¬ (x.what : Int) % 13 < 5 := by omega
            have q1 : (x.what : Int) % 13 = 7 := by omega
            clear q hon
            go_wp2_with (first
              | (go_at_call 28; refine HST.out.mono ?_; rintro e w2 ⟨rfl, rfl⟩)
              | (go_at_call 19; refine HWT.out.mono ?_; rintro e w2 ⟨rfl, h2⟩; have H2 := Lib.hid h2; clear h2)
              | (go_at_call 22; refine (H2.out.pending (i := 0) rfl).mono ?_; rintro e w3 ⟨rfl, rfl⟩))
            go_roundw
            case rel => exact ⟨k + 1, _, by omega, by go_num, rfl, by show (0 : Nat) ≤ _; omega, H2.out, by show D.left = -1; exact HD.out.2.1, by show D.starts ≤ _; have := HD.out.2.2; omega⟩
            case measure => simp [intOf]; omega
          | crashed q hon =>
            have q0 : ¬ (x.what : Int) % 13 < 5 := by omega
            have q1 : (x.what : Int) % 13 = 8 := by omega
            clear q hon
            go_wp2_with (first
              | (go_at_call 28; refine HST.out.mono ?_; rintro e w2 ⟨rfl, rfl⟩)
              | (go_at_call 19; refine HWT.out.mono ?_; rintro e w2 ⟨rfl, h2⟩; have H2 := Lib.hid h2; clear h2)
              | (go_at_call 22; refine (H2.out.pending (i := 0) rfl).mono ?_; rintro e w3 ⟨rfl, rfl⟩))
            go_roundw
            case rel => exact ⟨k + 1, _, by omega, by go_num, rfl, by show (0 : Nat) ≤ _; omega, H2.out, rfl, by show D.starts ≤ _; have := HD.out.2.2; omega⟩
            case measure => simp [intOf]; omega
          | started q hoff =>
            clear hoff
            rcases q with q | q
            · have q0 : ¬ (x.what : Int) % 13 < 5 := by omega
              have q1 : (x.what : Int) % 13 = 9 := by omega
              clear q
              go_wp2_with (first
                | (go_at_call 28; refine HST.out.mono ?_; rintro e w2 ⟨rfl, rfl⟩)
                | (go_at_call 19; refine HWT.out.mono ?_; rintro e w2 ⟨rfl, h2⟩; have H2 := Lib.hid h2; clear h2)
                | (go_at_call 22; refine (H2.out.pending (i := 0) rfl).mono ?_; rintro e w3 ⟨rfl, rfl⟩))
              go_roundw
              case rel => exact ⟨k + 1, { D with off := false, starts := D.starts + 1 }, by omega, by go_num, rfl, by show D.acts.length ≤ _; omega, H2.out, by show D.left = -1; exact HD.out.2.1, by show D.starts + 1 ≤ _; have := HD.out.2.2; omega⟩
              case measure => simp [intOf]; omega
            · have q0 : ¬ (x.what : Int) % 13 < 5 := by omega
              have q1 : (x.what : Int) % 13 = 10 := by omega
              clear q
              go_wp2_with (first
                | (go_at_call 28; refine HST.out.mono ?_; rintro e w2 ⟨rfl, rfl⟩)
                | (go_at_call 19; refine HWT.out.mono ?_; rintro e w2 ⟨rfl, h2⟩; have H2 := Lib.hid h2; clear h2)
                | (go_at_call 22; refine (H2.out.pending (i := 0) rfl).mono ?_; rintro e w3 ⟨rfl, rfl⟩))
              go_roundw
              case rel => exact ⟨k + 1, { D with off := false, starts := D.starts + 1 }, by omega, by go_num, rfl, by show D.acts.length ≤ _; omega, H2.out, by show D.left = -1; exact HD.out.2.1, by show D.starts + 1 ≤ _; have := HD.out.2.2; omega⟩
              case measure => simp [intOf]; omega
        · have e1 : 10 < (x.what : Int) % 13 := by omega
          clear HDID HL HG HWT HST h11
          go_wp2_with fail
          go_roundw
          case rel => exact ⟨k + 1, D, by omega, by go_num, rfl, by omega, hd.out.1, hd.out.2.1, by have := hd.out.2.2; omega⟩
          case measure => simp [intOf]; omega
      · obtain rfl : k = l.length := by omega
        clear H1
        go_wp2_with (go_at_call 23; refine (does_any _).mono ?_; rintro e w2 ⟨rfl, hb⟩)
        go_ret
        exact ⟨rfl, hd.out.1.below.trans (hb.mono hd.out.1.below.size)⟩
end Go.Proofs.Ytfmhfgkmoeimeaa
