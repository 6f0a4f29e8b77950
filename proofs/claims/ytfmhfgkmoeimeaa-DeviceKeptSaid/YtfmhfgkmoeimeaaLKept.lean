/- Walks: DeviceKept. -/
import Derived.Test.YtfmhfgkmoeimeaaW20
import Derived.Test.YtfmhfgkmoeimeaaP2
namespace Go.Proofs.Ytfmhfgkmoeimeaa
open Go.RowKit

theorem made_one (v : Value) (m : Nat) : madeCells #[v] (m * 1) = (List.replicate m v).toArray := by
  apply Array.ext
  · simp [size_madeCells]
  · intro i h1 h2
    have hi : i < m := by simpa [size_madeCells] using h1
    simp [madeCells, Nat.mod_one]

theorem fill_set {α : Type} (a b : α) {k m : Nat} (h : k < m) : (List.replicate k a ++ List.replicate (m - k) b).set k a = List.replicate (k + 1) a ++ List.replicate (m - (k + 1)) b := by
  apply List.ext_getElem?
  intro j
  simp only [List.getElem?_set, List.getElem?_append, List.getElem?_replicate, List.length_append, List.length_replicate]
  repeat' split
  all_goals first | rfl | omega

theorem kept_pure (D : Dev) (hr : D.Runs) (hl : D.left = -1) (ho : D.off = false) :
    (D.crash (List.replicate D.acts.length 15)).start.1.now = ((D.flush.1).crash []).start.1.now ∧ (D.crash []).start.1.now = D.clone.now ∧
    D.on = 0 ∧ D.flush.2 = 0 ∧ D.flush.1.on = 0 ∧ (D.crash (List.replicate D.acts.length 15)).start.2 = 0 ∧ ((D.flush.1).crash []).start.2 = 0 ∧ (D.crash []).start.2 = 0 ∧
    (D.crash (List.replicate D.acts.length 15)).start.1.off = false ∧ ((D.flush.1).crash []).start.1.off = false ∧ (D.crash []).start.1.off = false ∧
    (D.crash (List.replicate D.acts.length 15)).starts = D.starts ∧ ((D.flush.1).crash []).starts = D.starts ∧ (D.crash []).starts = D.starts := by
  have hf : D.flush = ({ D with sure := D.now, acts := [] }, 0) := by rw [D.flush_plain hl, ho]; rfl
  have hc : ∀ ks, D.crash ks = { D with sure := Dev.tear D.acts ks D.sure, now := Dev.tear D.acts ks D.sure, acts := [], off := true, left := -1 } := fun ks => by unfold Dev.crash; rw [ho]; rfl
  have h2 : (D.flush.1).crash [] = { D with sure := D.now, now := D.now, acts := [], off := true, left := -1 } := by
    rw [hf]; unfold Dev.crash
    show (if D.off = true then _ else _) = _
    rw [ho]; rfl
  rw [h2, hc, hc, hf, tear_all _ _ hr.wr, tear_none, ← hr.now]
  unfold Dev.on Dev.start Dev.clone
  simp [ho]

/-- What a row's walk begins with: the answer where there is too much. -/
theorem kept_much (w : World) (n : Nat) (v : Value) (l : List PDo) (h : DosAt w w.heap.size v l) (hm : muchF l 60 = true) :
    Calls Try.prog 13 #[.int .u8 n, v] w fun e w' => e = .returned (.bool true) ∧ Below w.heap.size w w' := by
  have hmuch := much_any w w.heap.size v l 60 h (by omega)
  obtain ⟨A, c, rfl, hlc, hin, _⟩ := id h
  rw [hm] at hmuch
  clear hm h hin
  go_enter Try.func13, Try.ntmps13
  go_wp2_with (go_at_call 14; refine hmuch.mono ?_; rintro e w1 ⟨rfl, rfl⟩)
  go_ret
  exact ⟨rfl, Below.refl _ _⟩

set_option maxHeartbeats 8000000 in
set_option maxRecDepth 100000 in
theorem kept_any (w : World) (n : Nat) (hn : n < 256) (v : Value) (l : List PDo) (h : DosAt w w.heap.size v l) :
    Calls Try.prog 13 #[.int .u8 n, v] w fun e w' => e = .returned (.bool true) ∧ Below w.heap.size w w' := by
  cases hmf : muchF l 60 with
  | true => exact kept_much w n v l h hmf
  | false =>
  have hmuch := much_any w w.heap.size v l 60 h (by omega)
  rw [hmf] at hmuch
  obtain ⟨A0, c, rfl, hlc, hin, _⟩ := id h
  obtain ⟨hl, hxs⟩ := much_ok hmf hin
  obtain ⟨D, hD⟩ : ∃ D, D = afterF n l := ⟨_, rfl⟩
  have hsm := after_small n l
  have hp := kept_pure (afterF n l) (after_runs n l) (after_left n l) (after_on n l)
  have HA := Lib.hid (fun (ds : List (Nat × Dev)) (W : World) (h1 : Holds w W ds) => h1.after_ n hn _ l (by omega) (h.below h1.below) hxs)
  rw [← hD] at hsm hp HA
  obtain ⟨K, hK⟩ : ∃ K, K = D.crash (List.replicate D.acts.length 15) := ⟨_, rfl⟩
  obtain ⟨F, hF⟩ : ∃ F, F = D.flush.1 := ⟨_, rfl⟩
  obtain ⟨G, hG⟩ : ∃ G, G = F.crash [] := ⟨_, rfl⟩
  obtain ⟨P, hP⟩ : ∃ P, P = D.crash [] := ⟨_, rfl⟩
  rw [← hK, ← hF, ← hG, ← hP] at hp
  obtain ⟨p1, p2, p3, p4, p5, p6, p7, p8, p9, p10, p11, p12, p13, p14⟩ := hp
  have st1 : stList K.start.1 = stList G.start.1 := stList_congr p1
  have st2 : stList P.start.1 = stList D.clone := stList_congr p2
  have tx1 : txList K.start.1 = txList G.start.1 := txList_congr p1 (p9.trans p10.symm)
  have tx2 : txList P.start.1 = txList D.clone := txList_congr p2 p11
  have S1 := Lib.hid st1
  have S2 := Lib.hid st2
  have T1 := Lib.hid tx1
  have T2 := Lib.hid tx2
  have Q3 := Lib.hid p3
  have Q4 := Lib.hid p4
  have Q5 := Lib.hid p5
  have Q6 := Lib.hid p6
  have Q7 := Lib.hid p7
  have Q8 := Lib.hid p8
  have QK : Hid (K.starts < 1000000) := by show K.starts < _; omega
  have QG : Hid (G.starts < 1000000) := by show G.starts < _; omega
  have QP : Hid (P.starts < 1000000) := by show P.starts < _; omega
  have EK := Lib.hid hK
  have EF := Lib.hid hF
  have EG := Lib.hid hG
  have EP := Lib.hid hP
  have hac : D.acts.length ≤ 60 := by omega
  clear p1 p2 p3 p4 p5 p6 p7 p8 p9 p10 p11 p12 p13 p14 st1 st2 tx1 tx2 hK hF hG hP hsm hD h hxs hmf hin
  have hmk := run_mk 24 3 _ 1 8 Try.underlying24 info3 D.acts.length (by omega) (by omega)
  have hz : (Value.int .i64 0).cells = #[.int .i64 0] := rfl
  rw [hz, made_one] at hmk
  obtain ⟨m, hm⟩ : ∃ m, m = D.acts.length := ⟨_, rfl⟩
  rw [← hm] at hmk hac
  obtain ⟨M, hMM⟩ : ∃ M : List Value, M = List.replicate m (.int .i64 0) := ⟨_, rfl⟩
  rw [← hMM] at hmk
  have HMM := Lib.hid hMM
  have HM := Lib.hid hm
  clear hm hz hMM
  have H0 : Hid (Holds w w []) := Holds.none_ w
  go_enter Try.func13, Try.ntmps13
  go_wp2_with (go_at_call 14; refine hmuch.mono ?_; rintro e w1 ⟨rfl, rfl⟩)
  clear hmuch
  refine (HA.out _ _ H0.out).mono ?_
  rintro e W1 ⟨g1, rfl, h1⟩
  have H1 : Hid (Holds w W1 [(g1, D)]) := h1
  clear h1 H0
  go_wp2_with fail
  refine (HA.out _ _ H1.out).mono ?_
  rintro e W2 ⟨g2, rfl, h2⟩
  have H2 : Hid (Holds w W2 [(g1, D), (g2, D)]) := h2
  clear h2 H1
  go_wp2_with fail
  refine (HA.out _ _ H2.out).mono ?_
  rintro e W3 ⟨g3, rfl, h3⟩
  have H3 : Hid (Holds w W3 [(g1, D), (g2, D), (g3, D)]) := h3
  clear h3 H2
  clear HA
  go_wp2_with fail
  refine (H3.out.clone_ (i := 2) rfl).mono ?_
  rintro e W4 ⟨g4, rfl, h4⟩
  have H4 : Hid (Holds w W4 [(g1, D), (g2, D), (g3, D), (g4, D.clone)]) := h4
  clear h4 H3
  go_wp2_with fail
  refine (H4.out.pending (i := 0) rfl).mono ?_
  rintro e W5 ⟨rfl, rfl⟩
  rw [← HM.out]
  go_wp2_with fail
  obtain ⟨wr0, hwr0⟩ : ∃ wr0, wr0 = W4.alloc (.cells M.toArray 3) := ⟨_, rfl⟩
  have R0 : Hid (Blk wr0 W4.heap.size 3 (List.replicate 0 (Value.int .i64 15) ++ List.replicate (m - 0) (Value.int .i64 0)) ∧ Below W4.heap.size W4 wr0) := by
    rw [hwr0, List.replicate_zero, List.nil_append, Nat.sub_zero, ← HMM.out]; exact ⟨Blk.new _ 3 _, (Below.refl _ _).alloc (Nat.le_refl _) _⟩
  rw [← hwr0]
  clear hwr0 hmk
  go_loopw [10] (fun i wr => ∃ k : Nat, k ≤ m ∧ i = .int .i64 k ∧ Hid (Blk wr W4.heap.size 3 (List.replicate k (Value.int .i64 15) ++ List.replicate (m - k) (Value.int .i64 0)) ∧ Below W4.heap.size W4 wr)) (fun i _ => m - (intOf i).toNat)
  case atStart => exact ⟨0, by omega, rfl, R0⟩
  case round =>
    obtain ⟨k, hk, rfl, hr⟩ := hrel
    clear R0
    by_cases hlt : k < m
    · have c0 : wr.cell? ⟨W4.heap.size, k, none⟩ = some (.int .i64 0) := by
        rw [hr.out.1.cell, List.getElem?_append_right (by simp), List.getElem?_replicate]; simp; omega
      have f0 := hr.out.1.frozen k
      go_wp2_with fail
      go_roundw
      case rel =>
        refine ⟨k + 1, by omega, by go_num, ?_, hr.out.2.setCell (Nat.le_refl _) _⟩
        have := hr.out.1.set_ k (.int .i64 15)
        rw [fill_set _ _ hlt] at this
        exact this
      case measure => simp [intOf]; omega
    · obtain rfl : k = m := by omega
      obtain ⟨hr1, hr2⟩ := hr.out
      have er : List.replicate k (Value.int .i64 15) ++ List.replicate (k - k) (Value.int .i64 0) = (List.replicate k (15 : Int)).map intV := by rw [Nat.sub_self, List.map_replicate, List.replicate_zero, List.append_nil]; rfl
      rw [er] at hr1
      have RB := Lib.hid (reads_blk (w := w) (c := k) hr1)
      have H6 := Lib.hid (H4.out.after hr2)
      clear hr hr1 hr2 er H4
      go_wp2_with fail
      have RB2 := RB.out
      rw [List.length_replicate] at RB2
      refine (H6.out.crash (i := 0) rfl _ (List.replicate k 15) RB2 (by rw [List.length_replicate]; omega)).mono ?_
      rintro e W7 ⟨rfl, h7⟩
      rw [HM.out, ← EK.out] at h7
      have H7 : Hid (Holds w W7 [(g1, K), (g2, D), (g3, D), (g4, D.clone)]) := h7
      clear h7 H6 RB RB2
      rw [Q3.out]
      go_wp2_with fail
      refine (H7.out.flush (i := 1) rfl).mono ?_
      rintro e W8 ⟨rfl, h8⟩
      rw [← EF.out] at h8
      have H8 : Hid (Holds w W8 [(g1, K), (g2, F), (g3, D), (g4, D.clone)]) := h8
      clear h8 H7
      rw [Q4.out]
      go_wp2_with fail
      refine (H8.out.crash (i := 1) rfl (.slice none 0 0) [] reads_nil (by decide)).mono ?_
      rintro e W9 ⟨rfl, h9⟩
      rw [← EG.out] at h9
      have H9 : Hid (Holds w W9 [(g1, K), (g2, G), (g3, D), (g4, D.clone)]) := h9
      clear h9 H8
      rw [Q5.out]
      go_wp2_with fail
      refine (H9.out.crash (i := 2) rfl (.slice none 0 0) [] reads_nil (by decide)).mono ?_
      rintro e W10 ⟨rfl, h10⟩
      rw [← EP.out] at h10
      have H10 : Hid (Holds w W10 [(g1, K), (g2, G), (g3, P), (g4, D.clone)]) := h10
      clear h10 H9
      rw [Q3.out]
      go_wp2_with fail
      refine (H10.out.start (i := 0) rfl QK.out).mono ?_
      rintro e W11 ⟨rfl, h11⟩
      have H11 : Hid (Holds w W11 [(g1, K.start.1), (g2, G), (g3, P), (g4, D.clone)]) := h11
      clear h11 H10
      rw [Q6.out]
      go_wp2_with fail
      refine (H11.out.start (i := 1) rfl QG.out).mono ?_
      rintro e W12 ⟨rfl, h12⟩
      have H12 : Hid (Holds w W12 [(g1, K.start.1), (g2, G.start.1), (g3, P), (g4, D.clone)]) := h12
      clear h12 H11
      rw [Q7.out]
      go_wp2_with fail
      refine (H12.out.start (i := 2) rfl QP.out).mono ?_
      rintro e W13 ⟨rfl, h13⟩
      have H13 : Hid (Holds w W13 [(g1, K.start.1), (g2, G.start.1), (g3, P.start.1), (g4, D.clone)]) := h13
      clear h13 H12
      rw [Q8.out]
      go_wp2_with fail
      refine (H13.out.states (i := 0) rfl).mono ?_
      rintro e W14 ⟨l14, c14, rfl, hr14, hb14⟩
      have H14 := Lib.hid (H13.out.after hb14)
      clear H13
      have R14_a := Lib.hid hr14
      clear hr14 hb14
      go_wp2_with fail
      refine (H14.out.states (i := 1) rfl).mono ?_
      rintro e W15 ⟨l15, c15, rfl, hr15, hb15⟩
      have H15 := Lib.hid (H14.out.after hb15)
      clear H14
      have R15_a := Lib.hid (R14_a.out.below hb15)
      clear R14_a
      have R15_b := Lib.hid hr15
      clear hr15 hb15
      go_wp2_with fail
      refine (ints_any _ _ _ (stList K.start.1) (stList G.start.1) R15_a.out R15_b.out).mono ?_
      rintro e W16 ⟨rfl, hb16⟩
      clear R15_b
      clear R15_a
      have H16 := Lib.hid (H15.out.after hb16)
      clear H15
      have q16 : decide (stList K.start.1 = stList G.start.1) = true := decide_eq_true (S1.out)
      rw [q16]
      clear q16 hb16
      go_wp2_with fail
      refine (H16.out.all (i := 0) rfl).mono ?_
      rintro e W17 ⟨l17, c17, rfl, hr17, hb17⟩
      have H17 := Lib.hid (H16.out.after hb17)
      clear H16
      have R17_a := Lib.hid hr17
      clear hr17 hb17
      go_wp2_with fail
      refine (H17.out.all (i := 1) rfl).mono ?_
      rintro e W18 ⟨l18, c18, rfl, hr18, hb18⟩
      have H18 := Lib.hid (H17.out.after hb18)
      clear H17
      have R18_a := Lib.hid (R17_a.out.below hb18)
      clear R17_a
      have R18_b := Lib.hid hr18
      clear hr18 hb18
      go_wp2_with fail
      refine (texts_any _ _ _ (txList K.start.1) (txList G.start.1) R18_a.out R18_b.out).mono ?_
      rintro e W19 ⟨rfl, hb19⟩
      clear R18_b
      clear R18_a
      have H19 := Lib.hid (H18.out.after hb19)
      clear H18
      have q19 : decide (txList K.start.1 = txList G.start.1) = true := decide_eq_true (T1.out)
      rw [q19]
      clear q19 hb19
      go_wp2_with fail
      refine (H19.out.states (i := 2) rfl).mono ?_
      rintro e W20 ⟨l20, c20, rfl, hr20, hb20⟩
      have H20 := Lib.hid (H19.out.after hb20)
      clear H19
      have R20_a := Lib.hid hr20
      clear hr20 hb20
      go_wp2_with fail
      refine (H20.out.states (i := 3) rfl).mono ?_
      rintro e W21 ⟨l21, c21, rfl, hr21, hb21⟩
      have H21 := Lib.hid (H20.out.after hb21)
      clear H20
      have R21_a := Lib.hid (R20_a.out.below hb21)
      clear R20_a
      have R21_b := Lib.hid hr21
      clear hr21 hb21
      go_wp2_with fail
      refine (ints_any _ _ _ (stList P.start.1) (stList D.clone) R21_a.out R21_b.out).mono ?_
      rintro e W22 ⟨rfl, hb22⟩
      clear R21_b
      clear R21_a
      have H22 := Lib.hid (H21.out.after hb22)
      clear H21
      have q22 : decide (stList P.start.1 = stList D.clone) = true := decide_eq_true (S2.out)
      rw [q22]
      clear q22 hb22
      go_wp2_with fail
      refine (H22.out.all (i := 2) rfl).mono ?_
      rintro e W23 ⟨l23, c23, rfl, hr23, hb23⟩
      have H23 := Lib.hid (H22.out.after hb23)
      clear H22
      have R23_a := Lib.hid hr23
      clear hr23 hb23
      go_wp2_with fail
      refine (H23.out.all (i := 3) rfl).mono ?_
      rintro e W24 ⟨l24, c24, rfl, hr24, hb24⟩
      have H24 := Lib.hid (H23.out.after hb24)
      clear H23
      have R24_a := Lib.hid (R23_a.out.below hb24)
      clear R23_a
      have R24_b := Lib.hid hr24
      clear hr24 hb24
      go_wp2_with fail
      refine (texts_any _ _ _ (txList P.start.1) (txList D.clone) R24_a.out R24_b.out).mono ?_
      rintro e W25 ⟨rfl, hb25⟩
      clear R24_b
      clear R24_a
      have H25 := Lib.hid (H24.out.after hb25)
      clear H24
      have q25 : decide (txList P.start.1 = txList D.clone) = true := decide_eq_true (T2.out)
      rw [q25]
      clear q25 hb25
      go_wp2_with fail
      refine (does_any _).mono ?_
      rintro e W26 ⟨rfl, hb26⟩
      have H26 := Lib.hid (H25.out.after hb26)
      clear H25
      go_wp2_with fail
      go_ret
      exact ⟨rfl, H26.out.below⟩
end Go.Proofs.Ytfmhfgkmoeimeaa
