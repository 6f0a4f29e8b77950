/- Walks: States, and the law's small functions. -/
import Derived.Test.YtfmhfgkmoeimeaaW12
namespace Go.Proofs.Ytfmhfgkmoeimeaa
open Go.RowKit

def stList (D : Dev) : List Int := D.now.map (·.st)

theorem stateAt_in {D : Dev} {k : Nat} (hk : k < D.now.length) : D.stateAt k = (pbAt D.now k).st := by
  unfold Dev.stateAt
  rw [if_neg (by unfold Dev.len; omega)]; rfl

theorem take_st {D : Dev} {k : Nat} (hk : k < D.now.length) : ((stList D).take (k + 1)).map intV = ((stList D).take k).map intV ++ [intV (D.stateAt k)] := by
  rw [List.take_succ_eq_append_getElem (by simpa [stList] using hk), List.map_append, stateAt_in hk]
  simp [stList, pbAt, hk]

set_option maxHeartbeats 1000000 in
theorem states_any (w : World) (L : Lay) (D : Dev) (h : DevAt w L D) :
    Calls Try.prog 17 #[.pointer (some ⟨L.g, 0, none⟩)] w fun e w' => ∃ v, e = .returned v ∧ w'.ownsRow w.heap.size 3 1 v D.now.length ((stList D).map intV) ∧ Below w.heap.size w w' := by
  have hl := len_any w L D h
  have hm := h.ok.max
  have HD := Lib.hid h
  have hlen : D.len = D.now.length := rfl
  rw [hlen] at hl
  clear h hlen
  go_enter Try.func17, Try.ntmps17
  go_wp2_with (go_at_call 33; refine hl.mono ?_; rintro e w' ⟨rfl, rfl⟩)
  clear hl
  go_loopw [3, 7] (fun o i wr => ∃ k : Nat, k ≤ D.now.length ∧ i = .int .i64 k ∧ wr.ownsRow w.heap.size 3 1 o k (((stList D).take k).map intV) ∧ Below w.heap.size w wr) (fun _ i _ => D.now.length - (intOf i).toNat)
  case atStart => exact ⟨0, by omega, rfl, World.ownsRow_nil _ _ _ _, Below.refl _ _⟩
  case round =>
    obtain ⟨k, hk, rfl, ho, hb⟩ := hrel
    by_cases hlt : k < D.now.length
    · have hs := state_any wr L D (HD.out.below hb) k (by omega) (by omega)
      have HO := Lib.hid ho
      have HB := Lib.hid hb
      clear ho hb
      go_wp2_with (first
        | (go_at_call 28; refine hs.mono ?_; rintro e w1 ⟨rfl, rfl⟩)
        | (at_builtin; go_must (refine wpList_app rfl (.tmp 10) (.tmp 14) 24 3 (.int .i64 0) 1 8 rfl Try.underlying24 info3 rfl (by decide) w.heap.size _ k (((stList D).take k).map intV) rfl (HO.out.alloc _) ⟨_, 0, none⟩ 1 1 [_] rfl rfl (cell_one_new _ _ _) (one_of rfl) (by unfold maxLen; omega) (by omega) (by have := HB.out.size; simp; omega) ?_); intro v1 w1 o1 g1 a1; have O1 := Lib.hid o1; have G1 := Lib.hid g1; clear o1 g1 a1))
      go_roundw
      case rel =>
        refine ⟨k + 1, by omega, by go_num, ?_, ?_⟩
        · rw [take_st hlt]; exact O1.out
        · exact (HB.out.alloc HB.out.size _).grown G1.out (by have := HB.out.size; simp; omega) (fun b hb => (HO.out.lt b hb).1)
      case measure => simp [intOf]; omega
    · obtain rfl : k = D.now.length := by omega
      have HO := Lib.hid ho
      have HB := Lib.hid hb
      clear ho hb
      go_wp2_with fail
      go_ret
      have e1 : (stList D).take D.now.length = stList D := List.take_of_length_le (by simp [stList])
      refine ⟨_, rfl, ?_, HB.out⟩
      have := HO.out
      rw [e1] at this
      exact this

/-- A slice of elements of one cell each that reads as these values. -/
def ReadsV (w : World) (v : Value) (xs : List Value) : Prop :=
  ∃ A c, v = .slice A xs.length c ∧ xs.length ≤ 1000000 ∧ ∀ k, k < xs.length → ∃ ad, A = some ad ∧ w.cell? (ad.add k) = xs[k]?

theorem ReadsV.own {w : World} {base : Nat} {e : TypeId} {v : Value} {n : Nat} {xs : List Value} (h : w.ownsRow base e 1 v n xs) (hn : n ≤ 1000000) : ReadsV w v xs := by
  have hl : xs.length = n := by have := h.1; omega
  rcases h.2 with ⟨rfl, h0⟩ | ⟨g, cap, cur, rfl, _, hh, _⟩
  · exact ⟨none, 0, by rw [hl, h0], by omega, fun k hk => by omega⟩
  · refine ⟨some ⟨g, 0, none⟩, cap, by rw [hl], by omega, fun k hk => ⟨_, rfl, ?_⟩⟩
    rw [h.cells (g := g) rfl k _ (List.getElem?_eq_getElem hk), List.getElem?_eq_getElem hk]

theorem ReadsV.below {w w1 : World} {v : Value} {xs : List Value} (h : ReadsV w v xs) (hb : Below w.heap.size w w1) : ReadsV w1 v xs := by
  obtain ⟨A, c, hv, hm, hc⟩ := h
  refine ⟨A, c, hv, hm, fun k hk => ?_⟩
  obtain ⟨ad, ha, hcell⟩ := hc k hk
  refine ⟨ad, ha, ?_⟩
  rw [List.getElem?_eq_getElem hk] at hcell ⊢
  exact cell_below hb hcell

theorem ints_any (w : World) (a b : Value) (x y : List Int) (ha : ReadsV w a (x.map intV)) (hb : ReadsV w b (y.map intV)) :
    Calls Try.prog 31 #[a, b] w fun e w' => e = .returned (.bool (decide (x = y))) ∧ Below w.heap.size w w' := by
  obtain ⟨A, c, rfl, hm, hca⟩ := ha
  obtain ⟨B, d, rfl, _, hcb⟩ := hb
  simp only [List.length_map] at hm hca hcb ⊢
  have HA := Lib.hid hca
  have HB := Lib.hid hcb
  clear hca hcb
  by_cases hl : x.length = y.length
  · have hl' : ((x.length : Int) != (y.length : Int)) = false := by simp [hl]
    have HL := Lib.hid hl
    clear hl
    go_enter Try.func31, Try.ntmps31
    go_wp2_with fail
    go_loopw [5] (fun i wr => ∃ k : Nat, k ≤ x.length ∧ i = .int .i64 k ∧ Below w.heap.size w wr ∧ Hid (x.take k = y.take k)) (fun i _ => x.length - (intOf i).toNat)
    case atStart => exact ⟨0, by omega, rfl, Below.refl _ _, rfl⟩
    case round =>
      obtain ⟨k, hk, rfl, hbl, heq⟩ := hrel
      by_cases hlt : k < x.length
      · have hly : k < y.length := by have := HL.out; omega
        obtain ⟨ad, rfl, c1⟩ := HA.out k hlt
        obtain ⟨bd, rfl, c2⟩ := HB.out k hly
        rw [List.getElem?_map, List.getElem?_eq_getElem hlt] at c1
        rw [List.getElem?_map, List.getElem?_eq_getElem hly] at c2
        have c1' : wr.cell? (ad.add k) = some (.int .i64 x[k]) := cell_below hbl c1
        have c2' : wr.cell? (bd.add k) = some (.int .i64 y[k]) := cell_below hbl c2
        obtain ⟨p, hp⟩ : ∃ p, x[k] = p := ⟨_, rfl⟩
        obtain ⟨q, hq⟩ : ∃ q, y[k] = q := ⟨_, rfl⟩
        rw [hp] at c1'
        rw [hq] at c2'
        have HP := Lib.hid hp
        have HQ := Lib.hid hq
        have HBL := Lib.hid hbl
        clear c1 c2 hp hq hbl
        have hL := HL.out
        clear hL
        by_cases hpq : p = q
        · have e1 : (p != q) = false := by simp [hpq]
          have HPQ := Lib.hid hpq
          clear hpq
          go_wp2_with fail
          go_region
          go_wp2_with fail
          go_roundw
          case rel =>
            refine ⟨k + 1, by omega, by go_num, HBL.out.drew, ?_⟩
            show x.take (k + 1) = y.take (k + 1)
            rw [List.take_succ_eq_append_getElem hlt, List.take_succ_eq_append_getElem hly, heq.out, HP.out, HQ.out, HPQ.out]
          case measure => simp [intOf]; omega
        · have e1 : (p != q) = true := by simp [hpq]
          have HPQ := Lib.hid hpq
          clear hpq
          go_wp2_with fail
          go_region
          go_wp2_with fail
          go_ret
          refine ⟨?_, HBL.out.drew⟩
          have : x ≠ y := fun e => HPQ.out (by rw [← HP.out, ← HQ.out]; simp [e])
          simp [this]
      · obtain rfl : k = x.length := by omega
        have HBL := Lib.hid hbl
        have HE := Lib.hid (show x = y by
          have h1 := heq.out
          rw [List.take_length, List.take_of_length_le (by rw [HL.out]; exact Nat.le_refl _)] at h1
          exact h1)
        clear hbl heq
        go_wp2_with fail
        go_ret
        exact ⟨by rw [decide_eq_true HE.out]; rfl, HBL.out⟩
  · have hl' : ((x.length : Int) != (y.length : Int)) = true := by simp; omega
    have HL := Lib.hid hl
    clear hl
    go_enter Try.func31, Try.ntmps31
    go_wp2_with fail
    go_ret
    have : x ≠ y := fun e => HL.out (by rw [e])
    exact ⟨by simp [this], Below.refl _ _⟩

def strV (s : ByteArray) : Value := .string s

theorem texts_any (w : World) (a b : Value) (x y : List ByteArray) (ha : ReadsV w a (x.map strV)) (hb : ReadsV w b (y.map strV)) :
    Calls Try.prog 32 #[a, b] w fun e w' => e = .returned (.bool (decide (x = y))) ∧ Below w.heap.size w w' := by
  obtain ⟨A, c, rfl, hm, hca⟩ := ha
  obtain ⟨B, d, rfl, _, hcb⟩ := hb
  simp only [List.length_map] at hm hca hcb ⊢
  have HA := Lib.hid hca
  have HB := Lib.hid hcb
  clear hca hcb
  by_cases hl : x.length = y.length
  · have hl' : ((x.length : Int) != (y.length : Int)) = false := by simp [hl]
    have HL := Lib.hid hl
    clear hl
    go_enter Try.func32, Try.ntmps32
    go_wp2_with fail
    go_loopw [5] (fun i wr => ∃ k : Nat, k ≤ x.length ∧ i = .int .i64 k ∧ Below w.heap.size w wr ∧ Hid (x.take k = y.take k)) (fun i _ => x.length - (intOf i).toNat)
    case atStart => exact ⟨0, by omega, rfl, Below.refl _ _, rfl⟩
    case round =>
      obtain ⟨k, hk, rfl, hbl, heq⟩ := hrel
      by_cases hlt : k < x.length
      · have hly : k < y.length := by have := HL.out; omega
        obtain ⟨ad, rfl, c1⟩ := HA.out k hlt
        obtain ⟨bd, rfl, c2⟩ := HB.out k hly
        rw [List.getElem?_map, List.getElem?_eq_getElem hlt] at c1
        rw [List.getElem?_map, List.getElem?_eq_getElem hly] at c2
        have c1' : wr.cell? (ad.add k) = some (.string x[k]) := cell_below hbl c1
        have c2' : wr.cell? (bd.add k) = some (.string y[k]) := cell_below hbl c2
        obtain ⟨p, hp⟩ : ∃ p, x[k] = p := ⟨_, rfl⟩
        obtain ⟨q, hq⟩ : ∃ q, y[k] = q := ⟨_, rfl⟩
        rw [hp] at c1'
        rw [hq] at c2'
        have HP := Lib.hid hp
        have HQ := Lib.hid hq
        have HBL := Lib.hid hbl
        clear c1 c2 hp hq hbl
        have hL := HL.out
        clear hL
        by_cases hpq : p = q
        · have e1 : (p.toList == q.toList) = true := by simp [hpq]
          have HPQ := Lib.hid hpq
          clear hpq
          go_wp2_with fail
          go_region
          go_wp2_with fail
          go_roundw
          case rel =>
            refine ⟨k + 1, by omega, by go_num, HBL.out.drew, ?_⟩
            show x.take (k + 1) = y.take (k + 1)
            rw [List.take_succ_eq_append_getElem hlt, List.take_succ_eq_append_getElem hly, heq.out, HP.out, HQ.out, HPQ.out]
          case measure => simp [intOf]; omega
        · have e1 : (p.toList == q.toList) = false := by
            rw [beq_eq_false_iff_ne]; intro c; rw [ByteArray.toList_eq, ByteArray.toList_eq] at c; exact hpq (ByteArray.ext (Array.ext' c))
          have HPQ := Lib.hid hpq
          clear hpq
          go_wp2_with fail
          go_region
          go_wp2_with fail
          go_ret
          refine ⟨?_, HBL.out.drew⟩
          have : x ≠ y := fun e => HPQ.out (by rw [← HP.out, ← HQ.out]; simp [e])
          simp [this]
      · obtain rfl : k = x.length := by omega
        have HBL := Lib.hid hbl
        have HE := Lib.hid (show x = y by
          have h1 := heq.out
          rw [List.take_length, List.take_of_length_le (by rw [HL.out]; exact Nat.le_refl _)] at h1
          exact h1)
        clear hbl heq
        go_wp2_with fail
        go_ret
        exact ⟨by rw [decide_eq_true HE.out]; rfl, HBL.out⟩
  · have hl' : ((x.length : Int) != (y.length : Int)) = true := by simp; omega
    have HL := Lib.hid hl
    clear hl
    go_enter Try.func32, Try.ntmps32
    go_wp2_with fail
    go_ret
    have : x ≠ y := fun e => HL.out (by rw [e])
    exact ⟨by simp [this], Below.refl _ _⟩
end Go.Proofs.Ytfmhfgkmoeimeaa
