/- Plain law of DeviceFail: a device with a Fail laid beside one without. -/
import Derived.Test.YtfmhfgkmoeimeaaP3
namespace Go.Proofs.Ytfmhfgkmoeimeaa
open Go.RowKit

/-- What a round is told of the k-th thing asked; its list for every later world. -/
theorem DosAt.round2 {w wr : World} {A : Option Addr} {c : Nat} {l : List PDo} (H : DosAt w w.heap.size (.slice A l.length c) l) (hb : Below w.heap.size w wr) {k : Nat} (hk : k < l.length) :
    ∃ b off kv, A = some ⟨b, off, none⟩ ∧ wr.cell? ⟨b, off + k * 5, none⟩ = some (.int .u8 l[k].what) ∧ wr.cell? ⟨b, off + k * 5 + 1, none⟩ = some (.int .i64 l[k].i) ∧ wr.cell? ⟨b, off + k * 5 + 2, none⟩ = some (.int .i64 l[k].n) ∧
    wr.cell? ⟨b, off + k * 5 + 3, none⟩ = some (.string l[k].s) ∧ wr.cell? ⟨b, off + k * 5 + 4, none⟩ = some kv ∧ KsAt w w.heap.size kv l[k].k := by
  obtain ⟨A', c', he, _, _, hc⟩ := H
  injection he with he1 he2 he3
  subst he1
  obtain ⟨b, off, kv, ha, hlt, h0, h1, h2, h3, h4, h5⟩ := hc k hk
  exact ⟨b, off, kv, ha, (hb.cell hlt).trans h0, (hb.cell hlt).trans h1, (hb.cell hlt).trans h2, (hb.cell hlt).trans h3, (hb.cell hlt).trans h4, h5⟩

/-- The device with a Fail laid: so many acts are left, and what it keeps. -/
def twin (O : Dev) (L : Int) (ks : List Int) : Dev := { O with left := L, keep := ks }

theorem twin_fail (O : Dev) (ho : O.off = false) (L : Int) (hL : 0 ≤ L) (ks : List Int) : O.failAt L ks = (twin O L ks, 0) := by
  unfold Dev.failAt
  rw [if_neg (by rw [ho]; decide), if_neg (by omega)]; rfl

theorem twin_do (O : Dev) (L : Int) (hL : 0 ≤ L) (ks : List Int) (a : PAct) :
    (twin O L ks).do_ a = if L = 0 then ((twin (O.put a) 0 ks).crash ks, 43) else (twin (O.put a) (L - 1) ks, 0) := by
  unfold Dev.do_ Dev.fails
  by_cases h : L = 0
  · subst h
    have : decide ((twin O 0 ks).left = 0) = true := decide_eq_true rfl
    rw [this, if_pos rfl, if_pos rfl]; rfl
  · have h1 : decide ((twin O L ks).left = 0) = false := decide_eq_false h
    have h2 : (twin O L ks).count = twin O (L - 1) ks := by
      unfold Dev.count
      have : (twin O L ks).left = L := rfl
      rw [this, if_pos (by omega)]; rfl
    rw [h1, if_neg (by decide), if_neg h, h2]; rfl

theorem twin_write (O : Dev) (hl : O.left = -1) (L : Int) (hL : 0 ≤ L) (ks : List Int) (i : Int) (d : ByteArray) :
    (∃ e, e ≠ 0 ∧ O.write i d = (O, e) ∧ (twin O L ks).write i d = (twin O L ks, e)) ∨
    (∃ a, O.write i d = (O.put a, 0) ∧ (twin O L ks).write i d = if L = 0 then ((twin (O.put a) 0 ks).crash ks, 43) else (twin (O.put a) (L - 1) ks, 0)) := by
  have hb : (twin O L ks).block i = O.block i := rfl
  have hs : (twin O L ks).stateAt i = O.stateAt i := rfl
  unfold Dev.write
  rw [hb, hs, O.do_plain _ hl, twin_do O L hL]
  by_cases h1 : O.block i ≠ 0
  · exact .inl ⟨_, h1, by rw [if_pos h1], by rw [if_pos h1]⟩
  · rw [if_neg h1, if_neg h1]
    by_cases h2 : d.size ≠ 128
    · exact .inl ⟨2, by decide, by rw [if_pos h2], by rw [if_pos h2]⟩
    · rw [if_neg h2, if_neg h2]
      by_cases h3 : O.stateAt i = 1
      · exact .inl ⟨40, by decide, by rw [if_pos h3], by rw [if_pos h3]⟩
      · rw [if_neg h3, if_neg h3]
        by_cases h4 : O.stateAt i = 2
        · exact .inl ⟨42, by decide, by rw [if_pos h4], by rw [if_pos h4]⟩
        · rw [if_neg h4, if_neg h4]
          exact .inr ⟨_, rfl, rfl⟩

theorem twin_erase (O : Dev) (hl : O.left = -1) (L : Int) (hL : 0 ≤ L) (ks : List Int) (i : Int) (h2 : O.stateAt i ≠ 2) :
    (∃ e, e ≠ 0 ∧ O.erase i = (O, e) ∧ (twin O L ks).erase i = (twin O L ks, e)) ∨
    (∃ a, O.erase i = (O.put a, 0) ∧ (twin O L ks).erase i = if L = 0 then ((twin (O.put a) 0 ks).crash ks, 43) else (twin (O.put a) (L - 1) ks, 0)) := by
  have hb : (twin O L ks).block i = O.block i := rfl
  have hs : (twin O L ks).stateAt i = O.stateAt i := rfl
  unfold Dev.erase
  rw [hb, hs, O.do_plain _ hl, twin_do O L hL]
  by_cases h1 : O.block i ≠ 0
  · exact .inl ⟨_, h1, by rw [if_pos h1], by rw [if_pos h1]⟩
  · rw [if_neg h1, if_neg h1]
    by_cases h3 : O.stateAt i = 0
    · exact .inl ⟨41, by decide, by rw [if_pos h3], by rw [if_pos h3]⟩
    · rw [if_neg h3, if_neg h3, if_neg h2, if_neg h2]
      exact .inr ⟨_, rfl, rfl⟩

/-- A thing that counts, and is no Flush. -/
theorem fail_go (O : Dev) (hl : O.left = -1) (ho : O.off = false) (L : Int) (hL : 0 ≤ L) (ks : List Int) (x : PDo) (hc : x.what % 13 < 5 ∨ ((x.what % 13 = 5 ∨ x.what % 13 = 6) ∧ O.stateAt x.i ≠ 2)) :
    (∃ e, e ≠ 0 ∧ withF O x = (O, e) ∧ withF (twin O L ks) x = (twin O L ks, e)) ∨
    (∃ P, withF O x = (P, 0) ∧ P.left = -1 ∧ P.off = false ∧ P.starts = O.starts ∧ P.acts.length = O.acts.length + 1 ∧ (L = 0 → withF (twin O L ks) x = ((twin P 0 ks).crash ks, 43)) ∧ (L ≠ 0 → withF (twin O L ks) x = (twin P (L - 1) ks, 0))) := by
  have key : (∃ e, e ≠ 0 ∧ withF O x = (O, e) ∧ withF (twin O L ks) x = (twin O L ks, e)) ∨
      (∃ a, withF O x = (O.put a, 0) ∧ withF (twin O L ks) x = if L = 0 then ((twin (O.put a) 0 ks).crash ks, 43) else (twin (O.put a) (L - 1) ks, 0)) := by
    unfold withF
    rcases hc with h | ⟨h, h2⟩
    · have hq : x.what % 13 = 0 ∨ x.what % 13 = 1 ∨ x.what % 13 = 2 ∨ x.what % 13 = 3 ∨ x.what % 13 = 4 := by omega
      rcases hq with e | e | e | e | e
      all_goals
        rw [e]
        exact twin_write O hl L hL ks _ _
    · rcases h with e | e
      all_goals
        rw [e]
        exact twin_erase O hl L hL ks _ h2
  rcases key with h | ⟨a, h1, h2⟩
  · exact .inl h
  · exact .inr ⟨O.put a, h1, hl, ho, rfl, by simp [Dev.put], fun h => by rw [h2, if_pos h], fun h => by rw [h2, if_neg h]⟩

/-- An erasure of what is gone. -/
theorem fail_gone (O : Dev) (ho : O.off = false) (x : PDo) (h : x.what % 13 = 5 ∨ x.what % 13 = 6) (h2 : O.stateAt x.i = 2) : withF O x = (O, 0) := by
  have hb : O.block x.i = 0 := (dblock_zero O x.i).2 ⟨ho, by omega⟩
  have he : O.erase x.i = (O, 0) := by
    unfold Dev.erase
    rw [if_neg (by simpa using hb), if_neg (by omega), if_pos h2]
  unfold withF
  rcases h with e | e
  all_goals
    rw [e]
    exact he

/-- A Flush. -/
theorem fail_flush (O : Dev) (hl : O.left = -1) (ho : O.off = false) (L : Int) (hL : 0 ≤ L) (ks : List Int) :
    ∃ P, O.flush = (P, 0) ∧ P.left = -1 ∧ P.off = false ∧ P.starts = O.starts ∧ P.acts.length = 0 ∧ (L = 0 → (twin O L ks).flush = ((twin O 0 ks).crash ks, 43)) ∧ (L ≠ 0 → (twin O L ks).flush = (twin P (L - 1) ks, 0)) := by
  refine ⟨{ O with sure := O.now, acts := [] }, by rw [O.flush_plain hl, ho]; rfl, hl, ho, rfl, rfl, fun h => ?_, fun h => ?_⟩
  · subst h
    unfold Dev.flush Dev.fails
    have h1 : (twin O 0 ks).off = false := ho
    have h2 : decide ((twin O 0 ks).left = 0) = true := decide_eq_true rfl
    rw [h1, h2, if_neg (by decide), if_pos rfl]; rfl
  · unfold Dev.flush Dev.fails
    have h1 : (twin O L ks).off = false := ho
    have h2 : decide ((twin O L ks).left = 0) = false := decide_eq_false h
    have h3 : (twin O L ks).count = twin O (L - 1) ks := by
      unfold Dev.count
      have : (twin O L ks).left = L := rfl
      rw [this, if_pos (by omega)]; rfl
    rw [h1, h2, if_neg (by decide), if_neg (by decide), h3]; rfl
theorem fail_flush_with (E : Dev) (x : PDo) (h : x.what % 13 = 7) : withF E x = E.flush := by
  unfold withF; rw [h]; rfl

/-- Both devices behind their crashes, and behind their starts. -/
theorem fail_both (P : Dev) (ho : P.off = false) (ks : List Int) :
    ∃ A B S T : Dev, (twin P 0 ks).crash ks = A ∧ P.crash ks = B ∧ P.on = 0 ∧ A.off = true ∧ stList A = stList B ∧ A.starts = P.starts ∧ B.starts = P.starts ∧ A.start = (S, 0) ∧ B.start = (T, 0) ∧ txList S = txList T := by
  have ht : (twin P 0 ks).off = false := ho
  have hA : (twin P 0 ks).crash ks = Dev.mk (Dev.tear P.acts ks P.sure) (Dev.tear P.acts ks P.sure) [] true P.starts (-1) ks := by
    unfold Dev.crash; rw [ht]; rfl
  have hB : P.crash ks = Dev.mk (Dev.tear P.acts ks P.sure) (Dev.tear P.acts ks P.sure) [] true P.starts (-1) P.keep := by
    unfold Dev.crash; rw [ho]; rfl
  refine ⟨_, _, Dev.mk (Dev.tear P.acts ks P.sure) (Dev.tear P.acts ks P.sure) [] false (P.starts + 1) (-1) ks, Dev.mk (Dev.tear P.acts ks P.sure) (Dev.tear P.acts ks P.sure) [] false (P.starts + 1) (-1) P.keep, hA, hB, by unfold Dev.on; rw [ho]; rfl, rfl, stList_congr rfl, rfl, rfl, rfl, rfl, txList_congr rfl rfl⟩
end Go.Proofs.Ytfmhfgkmoeimeaa
