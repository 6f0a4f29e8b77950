/- Walks: DeviceOnce. -/
import Derived.Test.YtfmhfgkmoeimeaaW20
import Derived.Test.YtfmhfgkmoeimeaaW21
import Derived.Test.YtfmhfgkmoeimeaaP2
import Derived.Test.YtfmhfgkmoeimeaaX3
import Derived.Deep.QuietTactic
import Derived.BigQuiet
namespace Go.Proofs.Ytfmhfgkmoeimeaa
open Go.RowKit

theorem pbAt_set {s : List PB} {j k : Nat} (b : PB) (hj : j < s.length) : pbAt (s.set j b) k = if k = j then b else pbAt s k := by
  unfold pbAt
  rw [List.getD_eq_getElem?_getD, List.getElem?_set]
  by_cases h : j = k
  · subst h; simp [hj]
  · rw [if_neg h, if_neg (Ne.symm h), List.getD_eq_getElem?_getD]

/-- A thing asked that is no crash and no start turns one block at most. -/
theorem once_pure (D : Dev) (x : PDo) (ok : D.OK) (hl : D.left = -1) (ho : D.off = false) (hx : x.what % 13 < 8) :
    (withF D x).1.left = -1 ∧ (withF D x).1.off = false ∧ (withF D x).1.now.length = D.now.length ∧ ∃ c : Option Nat, (c.isSome = true → (withF D x).2 = 0) ∧ ∀ k, k < D.now.length →
      (c = some k ∧ ((pbAt D.now k).st = 0 ∧ (pbAt (withF D x).1.now k).st = 1 ∨ (pbAt D.now k).st = 1 ∧ (pbAt (withF D x).1.now k).st = 2)) ∨ (c ≠ some k ∧ pbAt (withF D x).1.now k = pbAt D.now k) := by
  have hd := withF_did D x ok hl (by omega)
  have hlf := withF_left D x (by omega) hl
  generalize withF D x = r at hd hlf
  refine ⟨hlf, ?_⟩
  cases hd with
  | no e he => exact ⟨ho, rfl, none, (fun h => by cases h), fun k hk => .inr ⟨by simp, rfl⟩⟩
  | wrote j d q hi hj hon hdz hs =>
    refine ⟨ho, by simp [Dev.put], some j, fun _ => rfl, fun k hk => ?_⟩
    show _ ∨ _ ∧ pbAt (D.now.set j _) k = _
    by_cases hkj : k = j
    · subst hkj
      refine .inl ⟨rfl, .inl ⟨hs, ?_⟩⟩
      show (pbAt (D.now.set k _) k).st = 1
      rw [pbAt_set _ hj, if_pos rfl]; rfl
    · refine .inr ⟨by simpa using Ne.symm hkj, ?_⟩
      rw [pbAt_set _ hj, if_neg hkj]
  | was j q hi hj hon hs => exact ⟨ho, rfl, none, (fun h => by cases h), fun k hk => .inr ⟨by simp, rfl⟩⟩
  | erased j q hi hj hon hs =>
    refine ⟨ho, by simp [Dev.put], some j, fun _ => rfl, fun k hk => ?_⟩
    show _ ∨ _ ∧ pbAt (D.now.set j _) k = _
    by_cases hkj : k = j
    · subst hkj
      refine .inl ⟨rfl, .inr ⟨hs, ?_⟩⟩
      show (pbAt (D.now.set k _) k).st = 2
      rw [pbAt_set _ hj, if_pos rfl]; rfl
    · refine .inr ⟨by simpa using Ne.symm hkj, ?_⟩
      rw [pbAt_set _ hj, if_neg hkj]
  | flushed q on => exact ⟨ho, rfl, none, (fun h => by cases h), fun k hk => .inr ⟨by simp, rfl⟩⟩
  | crashed q on => omega
  | started q off => omega

def chF (c : Option Nat) (j : Nat) : Int := match c with | some q => if q < j then 1 else 0 | none => 0
theorem chF_here (j : Nat) : chF (some j) j = 0 := by unfold chF; simp
theorem chF_next (j : Nat) : chF (some j) (j + 1) = 1 := by unfold chF; simp
theorem chF_same {c : Option Nat} {j : Nat} (h : c ≠ some j) : chF c (j + 1) = chF c j := by
  cases c with
  | none => rfl
  | some q =>
    show (if q < j + 1 then (1 : Int) else 0) = if q < j then 1 else 0
    have : q ≠ j := fun e => h (by rw [e])
    by_cases hq : q < j
    · rw [if_pos (by omega), if_pos hq]
    · rw [if_neg (by omega), if_neg hq]
theorem chF_start (c : Option Nat) : chF c 0 = 0 := by cases c <;> simp [chF]
set_option maxHeartbeats 4000000 in
set_option maxRecDepth 100000 in
theorem once_any (w : World) (n : Nat) (hn : n < 256) (v : Value) (l : List PDo) (h : DosAt w w.heap.size v l) :
    Calls Try.prog 6 #[.int .u8 n, v] w fun e w' => e = .returned (.bool true) ∧ Below w.heap.size w w' := by
  have hmuch := much_any w w.heap.size v l 60 h (by omega)
  obtain ⟨A0, c, rfl, hlc, hin, _⟩ := id h
  cases hmf : muchF l 60 with
  | true =>
    rw [hmf] at hmuch
    clear hmf h hin
    go_enter Try.func6, Try.ntmps6
    go_wp2_with (go_at_call 14; refine hmuch.mono ?_; rintro e w1 ⟨rfl, rfl⟩)
    go_ret
    exact ⟨rfl, Below.refl _ _⟩
  | false =>
  rw [hmf] at hmuch
  obtain ⟨hl, hxs⟩ := much_ok hmf hin
  have ha := (Also.of (Holds.none_ w)).after_ n hn (.slice none 0 0) [] (by decide) (DosAt.nil _ _) (by simp)
  have H := Lib.hid h
  have HXS := Lib.hid hxs
  have HA := Lib.hid ha
  clear h hxs ha hmf hin
  go_enter Try.func6, Try.ntmps6
  go_wp2_with fail
  refine hmuch.mono ?_
  rintro e w1 ⟨rfl, rfl⟩
  clear hmuch
  go_wp2_with fail
  refine HA.out.mono ?_
  rintro e w1 ⟨g, rfl, h1⟩
  have H1 : Hid (Also w w1 [(g, afterF n [])] []) := h1
  clear h1 HA
  go_wp2_with fail
  go_loopw [6] (fun i wr => ∃ (k : Nat) (D : Dev), k ≤ l.length ∧ i = .int .i64 k ∧ D.acts.length ≤ 100 + k ∧ D.starts ≤ 100 + k ∧ Hid (Also w wr [(g, D)] [] ∧ D.left = -1 ∧ D.off = false)) (fun i _ => l.length - (intOf i).toNat)
  case atStart =>
    have h2 := after_small n []
    have h3 : ([] : List PDo).length = 0 := rfl
    exact ⟨0, afterF n [], by omega, rfl, by omega, by omega, H1.out, after_left n [], after_on n []⟩
  case round =>
    obtain ⟨k, D, hk, rfl, hac, hst, hd⟩ := hrel
    clear H1
    by_cases hlt : k < l.length
    · obtain ⟨b, off, kv, rfl, c0, c1, c2, c3, c4, hks⟩ := H.out.round hd.out.1.below hlt
      obtain ⟨x, hx⟩ : ∃ x, l[k] = x := ⟨_, rfl⟩
      rw [hx] at c0 c1 c2 c3 hks
      have hxok : x.OK := HXS.out x (by rw [← hx]; exact List.getElem_mem hlt)
      have HXO := Lib.hid hxok
      have HX := Lib.hid hx
      have hw256 := hxok.what
      clear hx hxok c1 c2 c3 c4 hks
      by_cases h7 : x.what % 13 < 8
      · have e1 : (x.what : Int) % 13 ≤ 7 := by omega
        have e2 : ¬ 7 < (x.what : Int) % 13 := by omega
        have hp := once_pure D x (hd.out.1.holds.ok (i := 0) rfl) hd.out.2.1 hd.out.2.2 h7
        have hgrow := withF_grow D x
        obtain ⟨E, hE⟩ : ∃ E, E = (withF D x).1 := ⟨_, rfl⟩
        obtain ⟨ev, hev⟩ : ∃ ev, ev = (withF D x).2 := ⟨_, rfl⟩
        rw [← hE, ← hev] at hp
        rw [← hE] at hgrow
        obtain ⟨p1, p2, p3, ch, p4, p5⟩ := hp
        have P1 := Lib.hid p1
        have P2 := Lib.hid p2
        have P3 := Lib.hid p3
        have P4 := Lib.hid p4
        have P5 := Lib.hid p5
        have PG := Lib.hid hgrow
        have PE := Lib.hid hE
        have PV := Lib.hid hev
        have PO : Hid (D.off = false) := hd.out.2.2
        have B0 : Hid (Below w.heap.size w wr) := hd.out.1.below
        have K0 : Hid (Also w wr [(g, D)] []) := hd.out.1
        clear p1 p2 p3 p4 p5 hgrow hE hev hd e2
        go_wp2_with fail
        refine (K0.out.states (i := 0) rfl).mono ?_
        rintro e W1 ⟨l_a, c_a, o_a, rfl, x1, hb1, h1⟩
        have H1 : Hid (Also w W1 [(g, D)] [(l_a, o_a)]) := h1
        clear h1 K0 hb1
        have X_a := Lib.hid x1
        clear x1
        go_wp2_with fail
        refine (H1.out.all (i := 0) rfl).mono ?_
        rintro e W2 ⟨l_b, c_b, o_b, rfl, x2, hb2, h2⟩
        have H2 : Hid (Also w W2 [(g, D)] [(l_a, o_a), (l_b, o_b)]) := h2
        clear h2 H1 hb2
        have X_b := Lib.hid x2
        clear x2
        obtain ⟨b', off', kv, hA', z0, z1, z2, z3, z4, hks⟩ := H.out.round H2.out.below hlt
        injection hA' with hA'
        injection hA' with hA1 hA2 hA3
        subst hA1 hA2
        rw [HX.out] at z0 z1 z2 z3 hks
        have hwt := H2.out.with_ (i := 0) rfl x kv HXO.out hks (by omega) (by omega)
        rw [← PE.out, ← PV.out] at hwt
        unfold doV at hwt
        have HWT := Lib.hid hwt
        obtain ⟨KA, kc, rfl, _⟩ := hks
        clear hwt c0
        go_wp2_with fail
        refine HWT.out.mono ?_
        rintro e W3 ⟨rfl, h3⟩
        have H3 : Hid (Also w W3 [(g, E)] [(l_a, o_a), (l_b, o_b)]) := h3
        clear h3 H2 HWT z0 z1 z2 z3 z4
        go_wp2_with fail
        refine (H3.out.states (i := 0) rfl).mono ?_
        rintro e W4 ⟨l_c, c_c, o_c, rfl, x4, hb4, h4⟩
        have H4 : Hid (Also w W4 [(g, E)] [(l_a, o_a), (l_b, o_b), (l_c, o_c)]) := h4
        clear h4 H3 hb4
        have X_c := Lib.hid x4
        clear x4
        rw [P3.out]
        go_wp2_with fail
        refine (H4.out.all (i := 0) rfl).mono ?_
        rintro e W5 ⟨l_d, c_d, o_d, rfl, x5, hb5, h5⟩
        have H5 : Hid (Also w W5 [(g, E)] [(l_a, o_a), (l_b, o_b), (l_c, o_c), (l_d, o_d)]) := h5
        clear h5 H4 hb5
        have X_d := Lib.hid x5
        clear x5
        rw [P3.out]
        go_wp2_with fail
        go_loopw [13, 14] (fun cc i wz => ∃ j : Nat, j ≤ D.now.length ∧ i = .int .i64 j ∧ cc = .int .i64 (chF ch j) ∧ Hid (Also w wz [(g, E)] [(l_a, o_a), (l_b, o_b), (l_c, o_c), (l_d, o_d)])) (fun _ i _ => D.now.length - (intOf i).toNat)
        case atStart => exact ⟨0, by omega, rfl, (by rw [chF_start]), H5⟩
        case round =>
          obtain ⟨j, hj, rfl, rfl, hz⟩ := hrel
          clear H5
          have hm512 : D.now.length ≤ 512 := by have := (hz.out.holds.ok (i := 0) rfl).max; rw [P3.out] at this; exact this
          by_cases hjl : j < D.now.length
          · have hje : j < E.now.length := by rw [P3.out]; exact hjl
            have y1 := (X_a.out _ (hz.out.at_ (j := 0) rfl)).cell (st_at hjl)
            have y2 := (X_b.out _ (hz.out.at_ (j := 1) rfl)).cell (tx_at hjl)
            have y3 := (X_c.out _ (hz.out.at_ (j := 2) rfl)).cell (st_at hje)
            have y4 := (X_d.out _ (hz.out.at_ (j := 3) rfl)).cell (tx_at hje)
            have hjI : (j : Int) < (D.now.length : Int) := by omega
            have hj0 : (0 : Int) ≤ (j : Int) := by omega
            rcases P5.out j hjl with ⟨hc, hcase⟩ | ⟨hc, hsame⟩
            · subst hc
              rw [chF_here]
              have B2 := Lib.hid (chF_next j)
              rcases hcase with ⟨s0, s1⟩ | ⟨s0, s1⟩
              · rw [s0] at y1
                rw [s1] at y3
                clear s0 s1
                go_wp2_with fail
                go_quiet (fail)
                go_wp2_with fail
                go_quiet (fail)
                go_wp2_with fail
                go_roundw
                case rel => exact ⟨j + 1, by omega, by go_num, (by rw [B2.out]), hz.out.drewN _⟩
                case measure => simp [intOf]; omega
              · rw [s0] at y1
                rw [s1] at y3
                clear s0 s1
                go_wp2_with fail
                go_quiet (fail)
                go_wp2_with fail
                go_quiet (fail)
                go_wp2_with fail
                go_roundw
                case rel => exact ⟨j + 1, by omega, by go_num, (by rw [B2.out]), hz.out.drewN _⟩
                case measure => simp [intOf]; omega
            · have B2 := Lib.hid (chF_same hc)
              have hrs := read_same (D := D) (E := E) (PO.out.trans P2.out.symm) hjl hje hsame
              have hst := (hz.out.holds.ok (i := 0) rfl).st _ (pbAt_mem hje)
              rw [hrs] at y4
              rw [hsame] at y3 hst
              obtain ⟨tv, htv⟩ : ∃ tv, tv = (D.read j).1 := ⟨_, rfl⟩
              rw [← htv] at y2 y4
              have hteq : (tv.toList == tv.toList) = true := by simp
              have h3 : (pbAt D.now j).st = 0 ∨ (pbAt D.now j).st = 1 ∨ (pbAt D.now j).st = 2 := by omega
              clear hrs hsame hst htv
              rcases h3 with s0 | s0 | s0
              · rw [s0] at y1 y3
                clear s0
                go_wp2_with fail
                go_quiet (fail)
                go_wp2_with fail
                go_quiet (fail)
                go_wp2_with fail
                go_roundw
                case rel => exact ⟨j + 1, by omega, by go_num, (by rw [B2.out]), hz.out.drewN _⟩
                case measure => simp [intOf]; omega
              · rw [s0] at y1 y3
                clear s0
                go_wp2_with fail
                go_quiet (fail)
                go_wp2_with fail
                go_quiet (fail)
                go_wp2_with fail
                go_roundw
                case rel => exact ⟨j + 1, by omega, by go_num, (by rw [B2.out]), hz.out.drewN _⟩
                case measure => simp [intOf]; omega
              · rw [s0] at y1 y3
                clear s0
                go_wp2_with fail
                go_quiet (fail)
                go_wp2_with fail
                go_quiet (fail)
                go_wp2_with fail
                go_roundw
                case rel => exact ⟨j + 1, by omega, by go_num, (by rw [B2.out]), hz.out.drewN _⟩
                case measure => simp [intOf]; omega
          · obtain rfl : j = D.now.length := by omega
            have hcase : (ch = none ∧ ev ≠ 0) ∨ (ev = 0 ∧ (chF ch D.now.length = 0 ∨ chF ch D.now.length = 1)) := by
              cases ch with
              | none =>
                by_cases h0 : ev = 0
                · exact .inr ⟨h0, .inl rfl⟩
                · exact .inl ⟨rfl, h0⟩
              | some q =>
                refine .inr ⟨P4.out rfl, ?_⟩
                unfold chF
                by_cases hq : q < D.now.length
                · exact .inr (if_pos hq)
                · exact .inl (if_neg hq)
            have hfin : Hid (Also w wr [(g, E)] []) := Also.of hz.out.holds
            rcases hcase with ⟨rfl, hne⟩ | ⟨rfl, hc | hc⟩
            · have hne2 : (ev == 0) = false := by simpa using hne
              have hne3 : (ev != 0) = true := by simpa using hne
              have hc : chF none D.now.length = 0 := rfl
              rw [hc]
              clear hne hc
              go_wp2_with fail
              go_roundw
              case rel => exact ⟨k + 1, E, by omega, by go_num, (by have := PG.out.1; omega), (by have := PG.out.2; omega), hfin.out, P1.out, P2.out⟩
              case measure => simp [intOf]; omega
            · rw [hc]
              clear hc
              go_wp2_with fail
              go_roundw
              case rel => exact ⟨k + 1, E, by omega, by go_num, (by have := PG.out.1; omega), (by have := PG.out.2; omega), hfin.out, P1.out, P2.out⟩
              case measure => simp [intOf]; omega
            · rw [hc]
              clear hc
              go_wp2_with fail
              go_roundw
              case rel => exact ⟨k + 1, E, by omega, by go_num, (by have := PG.out.1; omega), (by have := PG.out.2; omega), hfin.out, P1.out, P2.out⟩
              case measure => simp [intOf]; omega

      · have e1 : ¬ ((x.what : Int) % 13 ≤ 7) := by omega
        have e2 : 7 < (x.what : Int) % 13 := by omega
        go_wp2_with fail
        go_roundw
        case rel => exact ⟨k + 1, D, by omega, by go_num, (by omega), (by omega), hd.out⟩
        case measure => simp [intOf]; omega
    · obtain rfl : k = l.length := by omega
      go_wp2_with fail
      refine (does_any _).mono ?_
      rintro e w2 ⟨rfl, hb⟩
      go_wp2_with fail
      go_ret
      exact ⟨rfl, hd.out.1.below.trans (hb.mono hd.out.1.below.size)⟩
end Go.Proofs.Ytfmhfgkmoeimeaa
