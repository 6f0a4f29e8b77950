/- Plain laws about a device with no Fail laid: what each thing asked does. -/
import Derived.Test.YtfmhfgkmoeimeaaW17
namespace Go.Proofs.Ytfmhfgkmoeimeaa
open Go.RowKit

/-- What a round is told of the k-th thing asked. -/
theorem DosAt.round {w wr : World} {A : Option Addr} {c : Nat} {l : List PDo} (H : DosAt w w.heap.size (.slice A l.length c) l) (hb : Below w.heap.size w wr) {k : Nat} (hk : k < l.length) :
    ∃ b off kv, A = some ⟨b, off, none⟩ ∧ wr.cell? ⟨b, off + k * 5, none⟩ = some (.int .u8 l[k].what) ∧ wr.cell? ⟨b, off + k * 5 + 1, none⟩ = some (.int .i64 l[k].i) ∧ wr.cell? ⟨b, off + k * 5 + 2, none⟩ = some (.int .i64 l[k].n) ∧
    wr.cell? ⟨b, off + k * 5 + 3, none⟩ = some (.string l[k].s) ∧ wr.cell? ⟨b, off + k * 5 + 4, none⟩ = some kv ∧ KsAt wr w.heap.size kv l[k].k := by
  obtain ⟨A', c', he, _, _, hc⟩ := H
  injection he with he1 he2 he3
  subst he1
  obtain ⟨b, off, kv, ha, hlt, h0, h1, h2, h3, h4, h5⟩ := hc k hk
  exact ⟨b, off, kv, ha, (hb.cell hlt).trans h0, (hb.cell hlt).trans h1, (hb.cell hlt).trans h2, (hb.cell hlt).trans h3, (hb.cell hlt).trans h4, h5.below hb⟩

theorem Dev.do_plain (D : Dev) (x : PAct) (h : D.left = -1) : D.do_ x = (D.put x, 0) := by
  have h1 : D.fails = false := by unfold Dev.fails; rw [h]; decide
  have h2 : D.count = D := by unfold Dev.count; rw [h]; rfl
  unfold Dev.do_
  rw [h1, h2]; rfl
theorem Dev.flush_plain (D : Dev) (h : D.left = -1) : D.flush = if D.off then (D, 43) else ({ D with sure := D.now, acts := [] }, 0) := by
  have h1 : D.fails = false := by unfold Dev.fails; rw [h]; decide
  have h2 : D.count = D := by unfold Dev.count; rw [h]; rfl
  unfold Dev.flush
  rw [h1, h2]; rfl
theorem Dev.crash_left (D : Dev) (ks : List Int) (h : D.left = -1) : (D.crash ks).left = -1 := by
  unfold Dev.crash; split
  · exact h
  · rfl
theorem Dev.write_left (D : Dev) (i : Int) (d : ByteArray) (h : D.left = -1) : (D.write i d).1.left = -1 := by
  unfold Dev.write
  rw [D.do_plain _ h]
  repeat' split
  all_goals exact h
theorem Dev.erase_left (D : Dev) (i : Int) (h : D.left = -1) : (D.erase i).1.left = -1 := by
  unfold Dev.erase
  rw [D.do_plain _ h]
  repeat' split
  all_goals exact h
theorem Dev.flush_left (D : Dev) (h : D.left = -1) : D.flush.1.left = -1 := by
  rw [D.flush_plain h]; split <;> exact h
theorem Dev.start_left (D : Dev) (h : D.left = -1) : D.start.1.left = -1 := by
  unfold Dev.start; split <;> exact h

theorem withF_left (D : Dev) (x : PDo) (hx : x.what % 13 < 11) (h : D.left = -1) : (withF D x).1.left = -1 := by
  unfold withF
  generalize x.what % 13 = m at hx
  unfold withM
  split
  · exact D.write_left _ _ h
  · exact D.erase_left _ h
  · exact D.erase_left _ h
  · exact D.flush_left h
  · exact D.crash_left _ h
  · exact D.start_left h
  · exact D.start_left h
  · omega
  · omega
  · exact D.write_left _ _ h

theorem afterStep_left (D : Dev) (x : PDo) (h : D.left = -1) : (afterStep D x).left = -1 := by
  unfold afterStep; split
  · rename_i hx; exact withF_left D x hx h
  · exact h
theorem fold_left (l : List PDo) : ∀ D : Dev, D.left = -1 → (l.foldl afterStep D).left = -1 := by
  induction l with
  | nil => intro D h; exact h
  | cons x r ih => intro D h; exact ih _ (afterStep_left D x h)

theorem after_left (n : Nat) (l : List PDo) : (afterF n l).left = -1 := by
  have h : (afterRun n l).left = -1 := fold_left l _ rfl
  unfold afterF; split
  · exact Dev.start_left _ h
  · exact h
theorem after_on (n : Nat) (l : List PDo) : (afterF n l).off = false := by
  unfold afterF; split
  · rename_i h; unfold Dev.start; rw [h]; rfl
  · rename_i h; simpa using h
theorem after_small (n : Nat) (l : List PDo) : (afterF n l).acts.length ≤ l.length ∧ (afterF n l).starts ≤ l.length + 1 := by
  have h : (afterRun n l).acts.length ≤ 0 + l.length ∧ (afterRun n l).starts ≤ 0 + l.length := afterRun_grow n l _
  unfold afterF; split
  · rename_i ho
    unfold Dev.start
    rw [ho]
    exact ⟨by show (afterRun n l).acts.length ≤ _; omega, by show (afterRun n l).starts + 1 ≤ _; omega⟩
  · exact ⟨by omega, by omega⟩

theorem Dev.put_len (D : Dev) (x : PAct) : (D.put x).acts.length = D.acts.length + 1 := by simp [Dev.put]

theorem stateAt_nat (D : Dev) {k : Nat} (hk : k < D.now.length) : D.stateAt k = (pbAt D.now k).st := by
  unfold Dev.stateAt Dev.len
  rw [if_neg (by omega)]; rfl
theorem stateAt_out (D : Dev) {i : Int} (h : ¬ (0 ≤ i ∧ i < D.now.length)) : D.stateAt i = -1 := by
  unfold Dev.stateAt Dev.len
  rw [if_pos (by omega)]
theorem dblock_zero (D : Dev) (i : Int) : D.block i = 0 ↔ D.off = false ∧ 0 ≤ D.stateAt i := by
  unfold Dev.block Dev.on
  cases D.off with
  | true => simp
  | false => simp

theorem stateAt_nonneg {D : Dev} {i : Int} (h : 0 ≤ D.stateAt i) : ∃ k : Nat, i = k ∧ k < D.now.length := by
  by_cases hb : 0 ≤ i ∧ i < D.now.length
  · exact ⟨i.toNat, by omega, by omega⟩
  · rw [stateAt_out D hb] at h; omega

theorem Dev.write_cases (D : Dev) (ok : D.OK) (h : D.left = -1) (i : Int) (d : ByteArray) :
    (∃ e, e ≠ 0 ∧ D.write i d = (D, e)) ∨ (∃ k : Nat, i = k ∧ k < D.now.length ∧ D.off = false ∧ d.size = 128 ∧ (pbAt D.now k).st = 0 ∧ D.write i d = (D.put (.write k d), 0)) := by
  unfold Dev.write
  rw [D.do_plain _ h]
  by_cases hb : D.block i = 0
  · rw [if_neg (by simpa using hb)]
    by_cases hd : d.size = 128
    · rw [if_neg (by simpa using hd)]
      obtain ⟨hon, hs⟩ := (dblock_zero D i).1 hb
      obtain ⟨k, rfl, hk⟩ := stateAt_nonneg hs
      have hst := ok.st _ (pbAt_mem hk)
      rw [stateAt_nat D hk]
      by_cases h1 : (pbAt D.now k).st = 1
      · exact .inl ⟨40, by decide, by rw [if_pos h1]⟩
      · by_cases h2 : (pbAt D.now k).st = 2
        · exact .inl ⟨42, by decide, by rw [if_neg h1, if_pos h2]⟩
        · exact .inr ⟨k, rfl, hk, hon, hd, by omega, by rw [if_neg h1, if_neg h2]; rfl⟩
    · exact .inl ⟨2, by decide, by rw [if_pos hd]⟩
  · exact .inl ⟨D.block i, hb, by rw [if_pos hb]⟩

theorem Dev.erase_cases (D : Dev) (ok : D.OK) (h : D.left = -1) (i : Int) :
    (∃ e, e ≠ 0 ∧ D.erase i = (D, e)) ∨ (∃ k : Nat, i = k ∧ k < D.now.length ∧ D.off = false ∧ (pbAt D.now k).st = 2 ∧ D.erase i = (D, 0)) ∨
      (∃ k : Nat, i = k ∧ k < D.now.length ∧ D.off = false ∧ (pbAt D.now k).st = 1 ∧ D.erase i = (D.put (.erase k), 0)) := by
  unfold Dev.erase
  rw [D.do_plain _ h]
  by_cases hb : D.block i = 0
  · rw [if_neg (by simpa using hb)]
    obtain ⟨hon, hs⟩ := (dblock_zero D i).1 hb
    obtain ⟨k, rfl, hk⟩ := stateAt_nonneg hs
    have hst := ok.st _ (pbAt_mem hk)
    rw [stateAt_nat D hk]
    by_cases h1 : (pbAt D.now k).st = 0
    · exact .inl ⟨41, by decide, by rw [if_pos h1]⟩
    · by_cases h2 : (pbAt D.now k).st = 2
      · exact .inr (.inl ⟨k, rfl, hk, hon, h2, by rw [if_neg h1, if_pos h2]⟩)
      · exact .inr (.inr ⟨k, rfl, hk, hon, by omega, by rw [if_neg h1, if_neg h2]; rfl⟩)
  · exact .inl ⟨D.block i, hb, by rw [if_pos hb]⟩

/-- What a thing asked comes to, on a device with no Fail laid. -/
inductive Did (D : Dev) (x : PDo) : Dev × Int → Prop where
  | no (e : Int) (he : e ≠ 0) : Did D x (D, e)
  | wrote (k : Nat) (d : ByteArray) (q : x.what % 13 < 5) (hi : x.i = k) (hk : k < D.now.length) (on : D.off = false) (hd : d.size = 128) (st : (pbAt D.now k).st = 0) : Did D x (D.put (.write k d), 0)
  | was (k : Nat) (q : x.what % 13 = 5 ∨ x.what % 13 = 6) (hi : x.i = k) (hk : k < D.now.length) (on : D.off = false) (st : (pbAt D.now k).st = 2) : Did D x (D, 0)
  | erased (k : Nat) (q : x.what % 13 = 5 ∨ x.what % 13 = 6) (hi : x.i = k) (hk : k < D.now.length) (on : D.off = false) (st : (pbAt D.now k).st = 1) : Did D x (D.put (.erase k), 0)
  | flushed (q : x.what % 13 = 7) (on : D.off = false) : Did D x ({ D with sure := D.now, acts := [] }, 0)
  | crashed (q : x.what % 13 = 8) (on : D.off = false) : Did D x ({ D with sure := Dev.tear D.acts x.k D.sure, now := Dev.tear D.acts x.k D.sure, acts := [], off := true, left := -1 }, 0)
  | started (q : x.what % 13 = 9 ∨ x.what % 13 = 10) (off : D.off = true) : Did D x ({ D with off := false, starts := D.starts + 1 }, 0)

theorem did_write {D : Dev} {x : PDo} (ok : D.OK) (h : D.left = -1) (q : x.what % 13 < 5) (d : ByteArray) : Did D x (D.write x.i d) := by
  rcases D.write_cases ok h x.i d with ⟨e, he, e1⟩ | ⟨k, hi, hk, hon, hd, hst, e1⟩
  · rw [e1]; exact .no e he
  · rw [e1]; exact .wrote k d q hi hk hon hd hst
theorem did_erase {D : Dev} {x : PDo} (ok : D.OK) (h : D.left = -1) (q : x.what % 13 = 5 ∨ x.what % 13 = 6) : Did D x (D.erase x.i) := by
  rcases D.erase_cases ok h x.i with ⟨e, he, e1⟩ | ⟨k, hi, hk, hon, hst, e1⟩ | ⟨k, hi, hk, hon, hst, e1⟩
  · rw [e1]; exact .no e he
  · rw [e1]; exact .was k q hi hk hon hst
  · rw [e1]; exact .erased k q hi hk hon hst
theorem did_start {D : Dev} {x : PDo} (q : x.what % 13 = 9 ∨ x.what % 13 = 10) : Did D x D.start := by
  unfold Dev.start
  by_cases ho : D.off = true
  · rw [if_pos ho]; exact .started q ho
  · rw [if_neg ho]; exact .no 2 (by decide)

theorem withF_did (D : Dev) (x : PDo) (ok : D.OK) (h : D.left = -1) (hx : x.what % 13 < 11) : Did D x (withF D x) := by
  unfold withF
  have hq : x.what % 13 = 0 ∨ x.what % 13 = 1 ∨ x.what % 13 = 2 ∨ x.what % 13 = 3 ∨ x.what % 13 = 4 ∨ x.what % 13 = 5 ∨ x.what % 13 = 6 ∨ x.what % 13 = 7 ∨ x.what % 13 = 8 ∨ x.what % 13 = 9 ∨ x.what % 13 = 10 := by omega
  rcases hq with e | e | e | e | e | e | e | e | e | e | e
  all_goals rw [e]
  · exact did_write ok h (by omega) _
  · exact did_write ok h (by omega) _
  · exact did_write ok h (by omega) _
  · exact did_write ok h (by omega) _
  · exact did_write ok h (by omega) _
  · exact did_erase ok h (by omega)
  · exact did_erase ok h (by omega)
  · show Did D x D.flush
    rw [D.flush_plain h]
    by_cases ho : D.off = true
    · rw [if_pos ho]; exact .no 43 (by decide)
    · rw [if_neg ho]; exact .flushed e (by simpa using ho)
  · show Did D x (D.crash x.k, D.on)
    unfold Dev.crash Dev.on
    by_cases ho : D.off = true
    · rw [if_pos ho, if_pos ho]; exact .no 43 (by decide)
    · rw [if_neg ho, if_neg ho]; exact .crashed e (by simpa using ho)
  · exact did_start (by omega)
  · exact did_start (by omega)
end Go.Proofs.Ytfmhfgkmoeimeaa
