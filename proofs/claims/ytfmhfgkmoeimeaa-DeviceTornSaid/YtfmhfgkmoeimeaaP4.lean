/- Plain law of DeviceTamper: a block that was tampered with is what was said, all others are what they would be. -/
import Derived.Test.YtfmhfgkmoeimeaaP3
import Derived.Test.YtfmhfgkmoeimeaaX3
namespace Go.Proofs.Ytfmhfgkmoeimeaa
open Go.RowKit

theorem pbAt_set_self {s : List PB} {j : Nat} (b : PB) (h : j < s.length) : pbAt (s.set j b) j = b := by
  unfold pbAt
  rw [List.getD_eq_getElem?_getD, List.getElem?_set_self h]; rfl

/-- The device behind a tampering that is let in. -/
def Dev.tampered (D : Dev) (i : Nat) (b : PB) : Dev :=
  { D with acts := D.acts.filter (fun x => decide ((x.of : Int) ≠ i)), sure := D.sure.set i b, now := D.now.set i b }

theorem tamper_ok (D : Dev) (i : Nat) (hi : i < D.now.length) (hst : ∀ b ∈ D.now, 0 ≤ b.st) (st : Int) (s : ByteArray) (h0 : 0 ≤ st) (h2 : st ≤ 2) (h1 : st = 1 → s.size = 128) (hs : st ≠ 1 → s.size = 0) :
    D.tamper i st s = (D.tampered i ⟨st, s⟩, 0) := by
  have hb : D.tamperBad i st s = false := by
    unfold Dev.tamperBad
    rw [stateAt_nat D hi]
    have := hst _ (pbAt_mem hi)
    rw [decide_eq_false_iff_not]
    omega
  unfold Dev.tamper
  rw [hb]
  show (if false = true then _ else _) = _
  rw [if_neg (by decide)]
  have e : ((i : Int)).toNat = i := by omega
  rw [e]; rfl

theorem tampered_no (D : Dev) (i st : Int) (s : ByteArray) (h : D.stateAt i < 0 ∨ st < 0 ∨ 2 < st ∨ (st = 1 ∧ s.size ≠ 128) ∨ (st ≠ 1 ∧ s.size ≠ 0)) : D.tamper i st s = (D, 2) := by
  have hb : D.tamperBad i st s = true := by
    unfold Dev.tamperBad
    exact decide_eq_true h
  unfold Dev.tamper
  rw [hb]; rfl

theorem read_at (D : Dev) (ho : D.off = false) {k : Nat} (hk : k < D.now.length) (h0 : 0 ≤ (pbAt D.now k).st) :
    D.read k = if (pbAt D.now k).st = 0 then (ByteArray.empty, 41) else if (pbAt D.now k).st = 2 then (ByteArray.empty, 42) else ((pbAt D.now k).data, 0) := by
  have hb : D.block k = 0 := (dblock_zero D k).2 ⟨ho, by rw [stateAt_nat D hk]; exact h0⟩
  unfold Dev.read Dev.dataAt
  rw [if_neg (by simpa using hb), stateAt_nat D hk]
  have e : ((k : Int)).toNat = k := by omega
  rw [e]

theorem read_set (D : Dev) (ho : D.off = false) (i : Nat) (st : Int) (s : ByteArray) (hi : i < D.now.length) (hp : pbAt D.now i = ⟨st, s⟩) (h0 : 0 ≤ st) (h2 : st ≤ 2) (hs : st ≠ 1 → s = ByteArray.empty) :
    (D.read i).1 = s ∧ ((D.read i).2 = 0 ↔ st = 1) := by
  rw [read_at D ho hi (by rw [hp]; exact h0), hp]
  show (if st = 0 then _ else if st = 2 then _ else (s, (0 : Int))).1 = s ∧ ((if st = 0 then _ else if st = 2 then _ else (s, (0 : Int))).2 = 0 ↔ st = 1)
  by_cases e0 : st = 0
  · rw [if_pos e0, hs (by omega)]
    exact ⟨rfl, by constructor <;> intro h <;> first | omega | exact absurd h (by decide)⟩
  · rw [if_neg e0]
    by_cases e2 : st = 2
    · rw [if_pos e2, hs (by omega)]
      exact ⟨rfl, by constructor <;> intro h <;> first | omega | exact absurd h (by decide)⟩
    · rw [if_neg e2]
      exact ⟨rfl, by constructor <;> intro h <;> first | omega | rfl⟩

/-- Behind a crash that keeps nothing; and behind that and a start. -/
def Dev.nilCrash (E : Dev) : Dev := { E with now := E.sure, acts := [], off := true, left := -1 }
def Dev.nilUp (E : Dev) : Dev := { E with now := E.sure, acts := [], off := false, starts := E.starts + 1, left := -1 }
theorem crash_nil (E : Dev) (ho : E.off = false) : E.crash [] = E.nilCrash := by
  unfold Dev.crash
  rw [ho]
  show Dev.mk (Dev.tear E.acts [] E.sure) (Dev.tear E.acts [] E.sure) [] true E.starts (-1) E.keep = _
  rw [tear_none]; rfl

/-- The two devices, the one tampered with and the other, over a crash that keeps nothing, and a start. -/
theorem tamper_law (D : Dev) (ok : D.OK) (_hl : D.left = -1) (ho : D.off = false) (i : Nat) (hi : i < D.now.length) (st : Int) (s : ByteArray) (h0 : 0 ≤ st) (h2 : st ≤ 2) (h1 : st = 1 → s.size = 128) (hs : st ≠ 1 → s = ByteArray.empty) :
    ∃ T C S P O : Dev, D.tamper i st s = (T, 0) ∧ T.stateAt i = st ∧ (T.read i).1 = s ∧ ((T.read i).2 = 0 ↔ st = 1) ∧ T.acts.length ≤ D.acts.length ∧ T.on = 0 ∧ D.on = 0 ∧ T.crash [] = C ∧ D.crash [] = P ∧
      C.start = (S, 0) ∧ P.start = (O, 0) ∧ C.starts = D.starts ∧ P.starts = D.starts ∧ S.now.length = D.now.length ∧ O.now.length = D.now.length ∧
      (∀ k : Nat, k < D.now.length → k ≠ i → S.stateAt k = O.stateAt k ∧ (S.read k).1 = (O.read k).1) ∧ S.stateAt i = st ∧ (S.read i).1 = s ∧
      (∀ j z t, (S.stateAt j < 0 ∨ z < 0 ∨ 2 < z ∨ (z = 1 ∧ t.size ≠ 128) ∨ (z ≠ 1 ∧ t.size ≠ 0)) → S.tamper j z t = (S, 2)) := by
  have hs0 : st ≠ 1 → s.size = 0 := fun h => by rw [hs h]; rfl
  have hT := tamper_ok D i hi (fun b hb => (ok.st b hb).1) st s h0 h2 h1 hs0
  have hnow : pbAt (D.tampered i ⟨st, s⟩).now i = ⟨st, s⟩ := pbAt_set_self _ hi
  have hlen : (D.tampered i ⟨st, s⟩).now.length = D.now.length := List.length_set
  have hiS : i < D.sure.length := by rw [ok.len]; exact hi
  have hr := read_set (D.tampered i ⟨st, s⟩) ho i st s (by rw [hlen]; exact hi) hnow h0 h2 hs
  refine ⟨D.tampered i ⟨st, s⟩, (D.tampered i ⟨st, s⟩).nilCrash, (D.tampered i ⟨st, s⟩).nilUp, D.nilCrash, D.nilUp, hT, ?_, hr.1, hr.2, List.length_filter_le _ _, ?_, ?_, crash_nil _ ho, crash_nil _ ho, rfl, rfl, rfl, rfl, ?_, ok.len, ?_, ?_, ?_, ?_⟩
  · rw [stateAt_nat _ (by rw [hlen]; exact hi), hnow]
  · unfold Dev.on
    have : (D.tampered i ⟨st, s⟩).off = false := ho
    rw [this]; rfl
  · unfold Dev.on
    rw [ho]; rfl
  · show (D.sure.set i _).length = _
    rw [List.length_set, ok.len]
  · intro k hk hne
    have hkS : k < D.sure.length := by rw [ok.len]; exact hk
    have hkS2 : k < (D.sure.set i ⟨st, s⟩).length := by rw [List.length_set]; exact hkS
    have e := pbAt_set_ne (s := D.sure) (j := i) (k := k) ⟨st, s⟩ (fun h => hne h.symm)
    refine ⟨?_, read_same (D := D.nilUp) (E := (D.tampered i ⟨st, s⟩).nilUp) rfl hkS hkS2 e⟩
    rw [stateAt_nat (D.tampered i ⟨st, s⟩).nilUp hkS2,
      stateAt_nat D.nilUp hkS]
    show (pbAt (D.sure.set i _) k).st = _
    rw [e]; rfl
  · have hkS2 : i < (D.sure.set i ⟨st, s⟩).length := by rw [List.length_set]; exact hiS
    rw [stateAt_nat (D.tampered i ⟨st, s⟩).nilUp hkS2]
    show (pbAt (D.sure.set i _) i).st = _
    rw [pbAt_set_self _ hiS]
  · have hkS2 : i < (D.sure.set i ⟨st, s⟩).length := by rw [List.length_set]; exact hiS
    exact (read_set (D.tampered i ⟨st, s⟩).nilUp rfl i st s hkS2 (pbAt_set_self _ hiS) h0 h2 hs).1
  · intro j z t h
    exact tampered_no _ j z t h
end Go.Proofs.Ytfmhfgkmoeimeaa
