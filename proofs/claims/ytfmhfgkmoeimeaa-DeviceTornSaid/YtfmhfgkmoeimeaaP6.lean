/- Plain law of DeviceTorn: what a crash in the midst of writes and erasures leaves. -/
import Derived.Test.YtfmhfgkmoeimeaaP4
import Derived.Test.YtfmhfgkmoeimeaaW18
namespace Go.Proofs.Ytfmhfgkmoeimeaa
open Go.RowKit

theorem tear_ind (Q : PB → Prop) (j : Nat) (acts : List PAct) : ∀ (ks : List Int) (s : List PB), j < s.length → (∀ a ∈ acts, a.of = j → ∀ b κ, Q b → Q (tornF a b κ)) → Q (pbAt s j) → Q (pbAt (Dev.tear acts ks s) j) := by
  induction acts with
  | nil => intro ks s _ _ h; exact h
  | cons x r ih =>
    intro ks s hj ha h
    show Q (pbAt (Dev.tear r ks.tail (s.set x.of (tornF x (pbAt s x.of) (ks.headD 0)))) j)
    refine ih _ _ (by rw [List.length_set]; exact hj) (fun a h' => ha a (List.mem_cons_of_mem _ h')) ?_
    by_cases e : x.of = j
    · rw [e, pbAt_set_self _ hj]
      exact ha x (List.mem_cons_self ..) e _ _ h
    · rw [pbAt_set_ne _ e]; exact h

/-- Behind the writes and the erasures: over F, the device as it was flushed. -/
structure TornIn (F E : Dev) (b : ByteArray) (wr er : Nat → Bool) : Prop where
  left : E.left = -1
  on : E.off = false
  sure : E.sure = F.now
  len : E.now.length = F.now.length
  acts : ∀ a ∈ E.acts, (a = .write a.of b ∧ wr a.of = true) ∨ (a = .erase a.of ∧ er a.of = true ∧ wr a.of = false)
  blank : ∀ j, wr j = true → (pbAt F.now j).st = 0 ∧ (pbAt E.now j).st = 1
  still : ∀ j, wr j = false → er j = false → pbAt E.now j = pbAt F.now j
  apart : ∀ j, wr j = true → er j = false

theorem TornIn.start_ (D : Dev) (hl : D.left = -1) (ho : D.off = false) (b : ByteArray) : TornIn D.flush.1 D.flush.1 b (fun _ => false) (fun _ => false) := by
  have hf : D.flush = ({ D with sure := D.now, acts := [] }, 0) := by rw [D.flush_plain hl, ho]; rfl
  rw [hf]
  exact ⟨hl, ho, rfl, rfl, (fun a ha => by cases ha), (fun j h => by cases h), fun j _ _ => rfl, fun j h => by cases h⟩

/-- A write in the midst of the writes. -/
theorem TornIn.write {F E : Dev} {b : ByteArray} {wr wr' : Nat → Bool} (h : TornIn F E b wr (fun _ => false)) (ok : E.OK) (q : Nat)
    (hw : ∀ j, wr' j = if j = q then (decide ((E.write q b).2 = 0) || wr q) else wr j) : TornIn F (E.write q b).1 b wr' (fun _ => false) ∧ (E.write q b).1.acts.length ≤ E.acts.length + 1 ∧ (E.write q b).1.starts = E.starts := by
  rcases E.write_cases ok h.left q b with ⟨e, he, e1⟩ | ⟨k, hi, hk, hon, hd, hst, e1⟩
  · rw [e1] at hw ⊢
    have : wr' = wr := by
      funext j
      rw [hw j]
      by_cases hj : j = q
      · rw [if_pos hj, hj, show decide (((E, e) : Dev × Int).2 = 0) = false from decide_eq_false he]; rfl
      · rw [if_neg hj]
    rw [this]
    exact ⟨h, by simp, rfl⟩
  · obtain rfl : q = k := by omega
    rw [e1] at hw ⊢
    have hq : wr' q = true := by rw [hw, if_pos rfl]; rfl
    have hne : ∀ j, j ≠ q → wr' j = wr j := fun j hj => by rw [hw, if_neg hj]
    have hwq : wr q = false := by
      cases e : wr q with
      | false => rfl
      | true => have := (h.blank q e).2; omega
    have hF : (pbAt F.now q).st = 0 := by rw [← h.still q hwq rfl]; exact hst
    refine ⟨⟨h.left, h.on, h.sure, by simp [Dev.put, h.len], fun a ha => ?_, fun j hj => ?_, fun j hj he => ?_, fun j hj => rfl⟩, by simp [Dev.put], rfl⟩
    · rcases List.mem_append.1 ha with ha | ha
      · rcases h.acts a ha with ⟨h1, h2⟩ | ⟨h1, h2, _⟩
        · refine .inl ⟨h1, ?_⟩
          by_cases e : a.of = q
          · rw [e]; exact hq
          · rw [hne _ e]; exact h2
        · exact absurd h2 (by decide)
      · rw [List.mem_singleton] at ha
        subst ha
        exact .inl ⟨rfl, hq⟩
    · by_cases e : j = q
      · subst e
        exact ⟨hF, by show (pbAt (E.now.set j _) j).st = 1; rw [pbAt_set_self _ hk]; rfl⟩
      · rw [hne j e] at hj
        exact ⟨(h.blank j hj).1, by show (pbAt (E.now.set q _) j).st = 1; rw [pbAt_set_ne _ (fun h => e h.symm)]; exact (h.blank j hj).2⟩
    · by_cases e : j = q
      · subst e
        rw [hq] at hj; exact absurd hj (by decide)
      · rw [hne j e] at hj
        show pbAt (E.now.set q _) j = _
        rw [pbAt_set_ne _ (fun h => e h.symm)]
        exact h.still j hj he

/-- An erasure behind them, of a block that was not written among them. -/
theorem TornIn.erase {F E : Dev} {b : ByteArray} {wr er er' : Nat → Bool} (h : TornIn F E b wr er) (ok : E.OK) (q : Nat) (hq : wr q = false)
    (he : ∀ j, er' j = if j = q then (decide ((E.erase q).2 = 0) || er q) else er j) : TornIn F (E.erase q).1 b wr er' ∧ (E.erase q).1.acts.length ≤ E.acts.length + 1 ∧ (E.erase q).1.starts = E.starts := by
  have mono : ∀ j, er j = true → er' j = true := fun j hj => by
    rw [he j]
    by_cases e : j = q
    · rw [if_pos e, ← e, hj, Bool.or_true]
    · rw [if_neg e]; exact hj
  have back : ∀ j, er' j = false → er j = false := fun j hj => by
    cases e : er j with
    | false => rfl
    | true => rw [mono j e] at hj; exact absurd hj (by decide)
  have ap : ∀ j, wr j = true → er' j = false := fun j hj => by
    have hjq : j ≠ q := fun e => by rw [e, hq] at hj; exact absurd hj (by decide)
    rw [he j, if_neg hjq]; exact h.apart j hj
  have keep : TornIn F E b wr er' := ⟨h.left, h.on, h.sure, h.len, fun a ha => (h.acts a ha).imp id fun ⟨h1, h2, h3⟩ => ⟨h1, mono _ h2, h3⟩, h.blank, fun j hj hej => h.still j hj (back j hej), ap⟩
  rcases E.erase_cases ok h.left q with ⟨e, _, e1⟩ | ⟨k, hi, hk, hon, hst, e1⟩ | ⟨k, hi, hk, hon, hst, e1⟩
  · rw [e1]; exact ⟨keep, by simp, rfl⟩
  · rw [e1]; exact ⟨keep, by simp, rfl⟩
  · obtain rfl : q = k := by omega
    rw [e1] at he ⊢
    have hq' : er' q = true := by rw [he, if_pos rfl]; rfl
    refine ⟨⟨h.left, h.on, h.sure, by simp [Dev.put, h.len], fun a ha => ?_, fun j hj => ?_, fun j hj hej => ?_, ap⟩, by simp [Dev.put], rfl⟩
    · rcases List.mem_append.1 ha with ha | ha
      · exact keep.acts a ha
      · rw [List.mem_singleton] at ha
        subst ha
        exact .inr ⟨rfl, hq', hq⟩
    · have e : q ≠ j := fun e => by rw [← e, hq] at hj; exact absurd hj (by decide)
      exact ⟨(h.blank j hj).1, by show (pbAt (E.now.set q _) j).st = 1; rw [pbAt_set_ne _ e]; exact (h.blank j hj).2⟩
    · have e : q ≠ j := fun e => by rw [← e, hq'] at hej; exact absurd hej (by decide)
      show pbAt (E.now.set q _) j = _
      rw [pbAt_set_ne _ e]
      exact h.still j hj (back j hej)

/-- Behind the crash and the start. -/
theorem TornIn.end_ {F E : Dev} {b : ByteArray} {wr er : Nat → Bool} (h : TornIn F E b wr er) (ks : List Int) :
    ∃ C S : Dev, E.crash ks = C ∧ E.on = 0 ∧ C.start = (S, 0) ∧ C.starts = E.starts ∧ S.off = false ∧ S.now.length = F.now.length ∧
    (∀ j, j < F.now.length → wr j = true → ((pbAt F.now j).st = 0 ∧ pbAt S.now j = pbAt F.now j) ∨ ∃ κ, pbAt S.now j = ⟨1, tornBytes b κ⟩) ∧
    (∀ j, j < F.now.length → wr j = false → er j = true → pbAt S.now j = pbAt F.now j ∨ (pbAt S.now j).st = 2) ∧
    (∀ j, j < F.now.length → wr j = false → er j = false → pbAt S.now j = pbAt F.now j) := by
  refine ⟨Dev.mk (Dev.tear E.acts ks E.sure) (Dev.tear E.acts ks E.sure) [] true E.starts (-1) E.keep, Dev.mk (Dev.tear E.acts ks E.sure) (Dev.tear E.acts ks E.sure) [] false (E.starts + 1) (-1) E.keep, ?_, ?_, rfl, rfl, rfl, ?_, fun j hj hw => ?_, fun j hj hw he => ?_, fun j hj hw he => ?_⟩
  · unfold Dev.crash; rw [if_neg (by rw [h.on]; decide)]
  · unfold Dev.on; rw [h.on]; rfl
  · show (Dev.tear E.acts ks E.sure).length = _
    rw [tear_len, h.sure]
  · have hb := (h.blank j hw).1
    have key := tear_ind (fun B => B = pbAt F.now j ∨ ∃ κ, B = ⟨1, tornBytes b κ⟩) j E.acts ks E.sure (by rw [h.sure]; exact hj) (fun a ha haj B κ hB => by
      rcases h.acts a ha with ⟨h1, _⟩ | ⟨_, _, h3⟩
      · rw [h1]
        show (if κ % 16 = 0 then B else ⟨1, tornBytes b κ⟩) = _ ∨ ∃ κ', (if κ % 16 = 0 then B else ⟨1, tornBytes b κ⟩) = _
        by_cases e : κ % 16 = 0
        · rw [if_pos e]; exact hB
        · rw [if_neg e]; exact .inr ⟨κ, rfl⟩
      · rw [haj, hw] at h3; exact absurd h3 (by decide)) (.inl (by rw [h.sure]))
    rcases key with k1 | ⟨κ, k1⟩
    · exact .inl ⟨hb, k1⟩
    · exact .inr ⟨κ, k1⟩
  · exact tear_ind (fun B => B = pbAt F.now j ∨ B.st = 2) j E.acts ks E.sure (by rw [h.sure]; exact hj) (fun a ha haj B κ hB => by
      rcases h.acts a ha with ⟨_, h2⟩ | ⟨h1, _, _⟩
      · rw [haj, hw] at h2; exact absurd h2 (by decide)
      · rw [h1]
        show (if κ % 2 = 0 then B else (⟨2, ByteArray.empty⟩ : PB)) = _ ∨ (if κ % 2 = 0 then B else (⟨2, ByteArray.empty⟩ : PB)).st = 2
        by_cases e : κ % 2 = 0
        · rw [if_pos e]; exact hB
        · rw [if_neg e]; exact .inr rfl) (.inl (by rw [h.sure]))
  · show pbAt (Dev.tear E.acts ks E.sure) j = _
    rw [tear_other, h.sure]
    intro a ha haj
    rcases h.acts a ha with ⟨_, h2⟩ | ⟨_, h2, _⟩
    · rw [haj, hw] at h2; exact absurd h2 (by decide)
    · rw [haj, he] at h2; exact absurd h2 (by decide)
end Go.Proofs.Ytfmhfgkmoeimeaa
