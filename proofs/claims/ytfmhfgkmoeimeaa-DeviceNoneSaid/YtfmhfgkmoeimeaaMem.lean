/- Memory words for the device's walks: blocks known whole, the device's lay-out, what a call may turn. -/
import Derived.Test.YtfmhfgkmoeimeaaProg
import Derived.Test.YtfmhfgkmoeimeaaDev
import Derived.WalkKit
import Derived.WalkSpells
import Derived.KernelRfl
import Derived.Deep.Draws
namespace Go.Proofs.Ytfmhfgkmoeimeaa
open Go.RowKit

/-- Block g is just these cells, of element type t, none frozen. -/
def Blk (w : World) (g : Nat) (t : TypeId) (cs : List Value) : Prop := w.heap[g]? = some (.cells cs.toArray t (0, 0))

section
variable {w w' : World} {g : Nat} {t : TypeId} {cs : List Value}
theorem Blk.lt (h : Blk w g t cs) : g < w.heap.size := (Array.getElem?_eq_some_iff.1 h).1
theorem Blk.cell (h : Blk w g t cs) (i : Nat) : w.cell? ⟨g, i, none⟩ = cs[i]? := by
  have := cell_of_row w g i cs.toArray t (0, 0) h
  simpa using this
theorem Blk.frozen (h : Blk w g t cs) (i : Nat) : w.frozen? ⟨g, i, none⟩ = false := by
  unfold Blk at h
  simp [World.frozen?, h]
theorem Blk.new (w : World) (t : TypeId) (cs : List Value) : Blk (w.alloc (.cells cs.toArray t)) w.heap.size t cs := heap_alloc_new w _
theorem Blk.alloc (h : Blk w g t cs) (o : Obj) : Blk (w.alloc o) g t cs := (Below.heap_alloc w o g h.lt).trans h
theorem Blk.set_ (h : Blk w g t cs) (i : Nat) (u : Value) : Blk (w.setCell ⟨g, i, none⟩ u) g t (cs.set i u) := by
  unfold Blk at h ⊢
  simp [World.setCell, Array.getElem?_modify, h]
theorem Blk.far (h : Blk w g t cs) {p : Addr} (hp : g ≠ p.block) (u : Value) : Blk (w.setCell p u) g t cs := (Below.heap_setCell w p u g hp).trans h
theorem Blk.same (h : Blk w g t cs) (hb : w'.heap[g]? = w.heap[g]?) : Blk w' g t cs := hb.trans h
theorem Blk.ne_ {g' : Nat} {t' : TypeId} {cs' : List Value} (h : Blk w g t cs) (h' : Blk w g' t' cs') (hne : t ≠ t') : g ≠ g' := by
  rintro rfl
  unfold Blk at h h'
  rw [h] at h'
  injection h' with h'
  injection h' with _ ht
  exact hne ht
end

/-- A block's cells, of a list of blocks. -/
def pbCells : List PB → List Value
  | [] => []
  | b :: r => .int .i64 b.st :: .string b.data :: pbCells r

theorem pbCells_length (l : List PB) : (pbCells l).length = 2 * l.length := by
  induction l with
  | nil => rfl
  | cons b r ih => simp [pbCells, ih]; omega

theorem pbCells_st (l : List PB) (i : Nat) (h : i < l.length) : (pbCells l)[i * 2]? = some (.int .i64 (pbAt l i).st) := by
  induction l generalizing i with
  | nil => simp at h
  | cons b r ih =>
    cases i with
    | zero => simp [pbCells, pbAt]
    | succ i =>
      have := ih i (by simpa using h)
      simpa [pbCells, pbAt, Nat.add_mul] using this

theorem pbCells_data (l : List PB) (i : Nat) (h : i < l.length) : (pbCells l)[i * 2 + 1]? = some (.string (pbAt l i).data) := by
  induction l generalizing i with
  | nil => simp at h
  | cons b r ih =>
    cases i with
    | zero => simp [pbCells, pbAt]
    | succ i =>
      have := ih i (by simpa using h)
      simpa [pbCells, pbAt, Nat.add_mul] using this

theorem pbCells_set (l : List PB) (i : Nat) (b : PB) : ((pbCells l).set (i * 2) (.int .i64 b.st)).set (i * 2 + 1) (.string b.data) = pbCells (l.set i b) := by
  induction l generalizing i with
  | nil => simp [pbCells]
  | cons c r ih =>
    cases i with
    | zero => simp [pbCells]
    | succ i => simpa [pbCells, Nat.add_mul] using ih i

def actV : PAct → Value
  | .write a d => .iface 93 (.agg #[.int .i64 a, .string d])
  | .erase a => .iface 94 (.int .i64 a)

/-- Number k of a list. -/
def ksAt (ks : List Int) (k : Nat) : Int := ks.getD k 0

def intV (n : Int) : Value := .int .i64 n

/-- A slice that reads as a list of ints; where it has an element its address is not in block g. -/
def ReadsI (w : World) (g : Nat) (v : Value) (ks : List Int) : Prop :=
  ∃ A c, v = .slice A ks.length c ∧ ∀ k, k < ks.length → ∃ ad, A = some ad ∧ ad.block ≠ g ∧ w.cell? (ad.add k) = some (.int .i64 (ksAt ks k))

/-- Where a device lies: its own block, the blocks of 'sure' and 'now' with their capacities, the values of 'acts' and 'keep'. -/
structure Lay where
  g : Nat
  gs : Nat
  gn : Nat
  cs : Nat
  cn : Nat
  va : Value
  vk : Value

def Lay.foot (L : Lay) (b : Nat) : Prop := b = L.g ∨ b = L.gs ∨ b = L.gn ∨ L.va.ownBlock = some b ∨ L.vk.ownBlock = some b

/-- The slice that 'keep' holds: of a row of its own, or of no elements. -/
def KeepAt (w : World) (v : Value) (ks : List Int) : Prop :=
  w.ownsRow 0 3 1 v ks.length (ks.map intV)

def devCells (L : Lay) (D : Dev) : List Value :=
  [.slice (some ⟨L.gs, 0, none⟩) D.now.length L.cs, .slice (some ⟨L.gn, 0, none⟩) D.now.length L.cn, L.va, .bool D.off, .int .i64 D.starts, .int .i64 D.left, L.vk]

/-- The device D lies at L. -/
structure DevAt (w : World) (L : Lay) (D : Dev) : Prop where
  ok : D.OK
  dev : Blk w L.g 81 (devCells L D)
  sure : w.ownsRow 0 88 2 (.slice (some ⟨L.gs, 0, none⟩) D.now.length L.cs) D.now.length (pbCells D.sure)
  now : w.ownsRow 0 88 2 (.slice (some ⟨L.gn, 0, none⟩) D.now.length L.cn) D.now.length (pbCells D.now)
  acts : w.ownsRow 0 86 1 L.va D.acts.length (D.acts.map actV)
  keep : KeepAt w L.vk D.keep
  ne : L.gs ≠ L.gn

theorem own_blk {w : World} {base : Nat} {e : TypeId} {size n c g : Nat} {xs : List Value} (h : w.ownsRow base e size (.slice (some ⟨g, 0, none⟩) n c) n xs) :
    ∃ sp, Blk w g e (xs ++ sp) ∧ n ≤ c ∧ c ≤ maxLen ∧ (xs ++ sp).length = c * size ∧ xs.length = n * size := by
  rcases h.2 with ⟨he, _⟩ | ⟨g', cap, cur, he, _, hg, hn, hm, hs, ht⟩
  · cases he
  · injection he with h1 h2 h3
    injection h1 with h1
    injection h1 with h1
    subst h1 h3
    refine ⟨cur.toList.drop (n * size), ?_, hn, hm, ?_, h.1⟩
    · unfold Blk; rw [← ht, List.take_append_drop]; exact hg
    · rw [← ht, List.take_append_drop]; simpa using hs

theorem own_of_blk {w : World} {e : TypeId} {size n c g : Nat} {xs sp : List Value} (h : Blk w g e (xs ++ sp)) (hn : n ≤ c) (hm : c ≤ maxLen) (hs : (xs ++ sp).length = c * size) (hl : xs.length = n * size) :
    w.ownsRow 0 e size (.slice (some ⟨g, 0, none⟩) n c) n xs :=
  ⟨hl, .inr ⟨g, c, (xs ++ sp).toArray, rfl, Nat.zero_le _, h, hn, hm, by simpa using hs, by simp [← hl]⟩⟩

section
variable {w : World} {L : Lay} {D : Dev}
theorem DevAt.c0 (h : DevAt w L D) : w.cell? ⟨L.g, 0, none⟩ = some (.slice (some ⟨L.gs, 0, none⟩) D.now.length L.cs) := h.dev.cell 0
theorem DevAt.c1 (h : DevAt w L D) : w.cell? ⟨L.g, 1, none⟩ = some (.slice (some ⟨L.gn, 0, none⟩) D.now.length L.cn) := h.dev.cell 1
theorem DevAt.c2 (h : DevAt w L D) : w.cell? ⟨L.g, 2, none⟩ = some L.va := h.dev.cell 2
theorem DevAt.c3 (h : DevAt w L D) : w.cell? ⟨L.g, 3, none⟩ = some (.bool D.off) := h.dev.cell 3
theorem DevAt.c4 (h : DevAt w L D) : w.cell? ⟨L.g, 4, none⟩ = some (.int .i64 D.starts) := h.dev.cell 4
theorem DevAt.c5 (h : DevAt w L D) : w.cell? ⟨L.g, 5, none⟩ = some (.int .i64 D.left) := h.dev.cell 5
theorem DevAt.c6 (h : DevAt w L D) : w.cell? ⟨L.g, 6, none⟩ = some L.vk := h.dev.cell 6
theorem DevAt.fr (h : DevAt w L D) (i : Nat) : w.frozen? ⟨L.g, i, none⟩ = false := h.dev.frozen i
end


theorem own_same {w w' : World} {base : Nat} {e : TypeId} {size n : Nat} {v : Value} {xs : List Value} (h : w.ownsRow base e size v n xs)
    (hb : ∀ b, v.ownBlock = some b → w'.heap[b]? = w.heap[b]?) : w'.ownsRow base e size v n xs := by
  refine ⟨h.1, ?_⟩
  rcases h.2 with hn | ⟨g, cap, cur, rfl, hg, hh, rest⟩
  · exact .inl hn
  · exact .inr ⟨g, cap, cur, rfl, hg, by rw [hb g rfl]; exact hh, rest⟩

theorem own_lt {w : World} {base : Nat} {e : TypeId} {size n b : Nat} {v : Value} {xs : List Value} (h : w.ownsRow base e size v n xs) (hb : v.ownBlock = some b) : b < w.heap.size := (h.lt b hb).2

/-- Rows of two element types lie in two blocks. -/
theorem own_ne_blk {w : World} {base : Nat} {e t : TypeId} {size n g b : Nat} {v : Value} {xs cs : List Value} (h : w.ownsRow base e size v n xs) (hg : Blk w g t cs) (hne : e ≠ t) (hb : v.ownBlock = some b) : b ≠ g := by
  rcases h.2 with ⟨rfl, _⟩ | ⟨g', cap, cur, rfl, _, hh, _⟩
  · simp [Value.ownBlock] at hb
  · have e1 : g' = b := by simpa [Value.ownBlock] using hb
    subst e1
    exact Blk.ne_ (cs := cur.toList) hh hg hne

/-- What a call on the device at L may turn. -/
structure Step (L : Lay) (w : World) (L' : Lay) (w' : World) : Prop where
  os : w'.os = w.os
  tape : w'.tape = w.tape
  output : w'.output = w.output
  size : w.heap.size ≤ w'.heap.size
  block : ∀ b, b < w.heap.size → ¬ L.foot b → w'.heap[b]? = w.heap[b]?
  g : L'.g = L.g
  gs : L'.gs = L.gs
  gn : L'.gn = L.gn
  cs : L'.cs = L.cs
  cn : L'.cn = L.cn
  foot : ∀ b, L'.foot b → L.foot b ∨ w.heap.size ≤ b

theorem Step.refl (L : Lay) (w : World) : Step L w L w := ⟨rfl, rfl, rfl, Nat.le_refl _, fun _ _ _ => rfl, rfl, rfl, rfl, rfl, rfl, fun _ h => .inl h⟩

theorem Step.trans {L L1 L2 : Lay} {w w1 w2 : World} (h : Step L w L1 w1) (k : Step L1 w1 L2 w2) : Step L w L2 w2 := by
  refine ⟨k.os.trans h.os, k.tape.trans h.tape, k.output.trans h.output, Nat.le_trans h.size k.size, fun b hb hf => ?_, k.g.trans h.g, k.gs.trans h.gs, k.gn.trans h.gn, k.cs.trans h.cs, k.cn.trans h.cn, fun b hb => ?_⟩
  · rw [k.block b (by have := h.size; omega) (fun hf1 => ?_), h.block b hb hf]
    rcases h.foot b hf1 with h1 | h1
    · exact hf h1
    · omega
  · rcases k.foot b hb with h1 | h1
    · exact h.foot b h1
    · exact .inr (Nat.le_trans h.size h1)

theorem Step.set_ {L L1 : Lay} {w w1 : World} (h : Step L w L1 w1) {p : Addr} (hp : L.foot p.block ∨ w.heap.size ≤ p.block) (u : Value) : Step L w L1 (w1.setCell p u) := by
  refine ⟨h.os, h.tape, h.output, by simpa [World.setCell] using h.size, fun b hb hf => ?_, h.g, h.gs, h.gn, h.cs, h.cn, h.foot⟩
  rw [Below.heap_setCell _ _ _ _ (fun e => ?_), h.block b hb hf]
  subst e
  rcases hp with h1 | h1
  · exact hf h1
  · omega

theorem Step.alloc {L L1 : Lay} {w w1 : World} (h : Step L w L1 w1) (o : Obj) : Step L w L1 (w1.alloc o) := by
  refine ⟨h.os, h.tape, h.output, by have := h.size; simp; omega, fun b hb hf => ?_, h.g, h.gs, h.gn, h.cs, h.cn, h.foot⟩
  rw [Below.heap_alloc _ _ _ (by have := h.size; omega), h.block b hb hf]

theorem Step.drewN {L L1 : Lay} {w w1 : World} (h : Step L w L1 w1) (n : Nat) : Step L w L1 (w1.drewN n) :=
  ⟨h.os, h.tape, h.output, h.size, h.block, h.g, h.gs, h.gn, h.cs, h.cn, h.foot⟩

theorem Step.drew {L L1 : Lay} {w w1 : World} (h : Step L w L1 w1) : Step L w L1 w1.drew :=
  ⟨h.os, h.tape, h.output, h.size, h.block, h.g, h.gs, h.gn, h.cs, h.cn, h.foot⟩

theorem Step.grown {L L1 : Lay} {w w1 w2 : World} {row : Option Nat} (h : Step L w L1 w1) (hg : w1.grownBy w2 row) (hr : ∀ b, row = some b → L.foot b ∨ w.heap.size ≤ b) : Step L w L1 w2 := by
  refine ⟨hg.os.trans h.os, hg.tape.trans h.tape, hg.output.trans h.output, Nat.le_trans h.size hg.size, fun b hb hf => ?_, h.g, h.gs, h.gn, h.cs, h.cn, h.foot⟩
  rw [hg.block b (by have := h.size; omega) (fun e => ?_), h.block b hb hf]
  rcases hr b e.symm with h1 | h1
  · exact hf h1
  · omega

/-- The lay-out with another 'acts', or another 'keep'. -/
theorem Step.lay {L L1 : Lay} {w w1 : World} (h : Step L w L1 w1) (va vk : Value) (ha : ∀ b, va.ownBlock = some b → L.foot b ∨ w.heap.size ≤ b) (hk : ∀ b, vk.ownBlock = some b → L.foot b ∨ w.heap.size ≤ b) :
    Step L w { L1 with va := va, vk := vk } w1 :=
  ⟨h.os, h.tape, h.output, h.size, h.block, h.g, h.gs, h.gn, h.cs, h.cn, fun b hb => by
    rcases hb with e | e | e | e | e
    · exact h.foot b (.inl e)
    · exact h.foot b (.inr (.inl e))
    · exact h.foot b (.inr (.inr (.inl e)))
    · exact ha b e
    · exact hk b e⟩

section
variable {w w' : World} {L : Lay} {D : Dev}
theorem DevAt.sureB (h : DevAt w L D) : ∃ sp, Blk w L.gs 88 (pbCells D.sure ++ sp) ∧ D.now.length ≤ L.cs ∧ L.cs ≤ maxLen ∧ (pbCells D.sure ++ sp).length = L.cs * 2 ∧ (pbCells D.sure).length = D.now.length * 2 := own_blk h.sure
theorem DevAt.nowB (h : DevAt w L D) : ∃ sp, Blk w L.gn 88 (pbCells D.now ++ sp) ∧ D.now.length ≤ L.cn ∧ L.cn ≤ maxLen ∧ (pbCells D.now ++ sp).length = L.cn * 2 ∧ (pbCells D.now).length = D.now.length * 2 := own_blk h.now
theorem DevAt.g_ne_gs (h : DevAt w L D) : L.g ≠ L.gs := by obtain ⟨sp, hb, _⟩ := h.sureB; exact h.dev.ne_ hb (by decide)
theorem DevAt.g_ne_gn (h : DevAt w L D) : L.g ≠ L.gn := by obtain ⟨sp, hb, _⟩ := h.nowB; exact h.dev.ne_ hb (by decide)
theorem DevAt.acts_ne_g (h : DevAt w L D) {b : Nat} (hb : L.va.ownBlock = some b) : b ≠ L.g := own_ne_blk h.acts h.dev (by decide) hb
theorem DevAt.acts_ne_gs (h : DevAt w L D) {b : Nat} (hb : L.va.ownBlock = some b) : b ≠ L.gs := by obtain ⟨sp, hs, _⟩ := h.sureB; exact own_ne_blk h.acts hs (by decide) hb
theorem DevAt.acts_ne_gn (h : DevAt w L D) {b : Nat} (hb : L.va.ownBlock = some b) : b ≠ L.gn := by obtain ⟨sp, hs, _⟩ := h.nowB; exact own_ne_blk h.acts hs (by decide) hb
theorem DevAt.keep_ne_g (h : DevAt w L D) {b : Nat} (hb : L.vk.ownBlock = some b) : b ≠ L.g := own_ne_blk h.keep h.dev (by decide) hb
theorem DevAt.keep_ne_gs (h : DevAt w L D) {b : Nat} (hb : L.vk.ownBlock = some b) : b ≠ L.gs := by obtain ⟨sp, hs, _⟩ := h.sureB; exact own_ne_blk h.keep hs (by decide) hb
theorem DevAt.keep_ne_gn (h : DevAt w L D) {b : Nat} (hb : L.vk.ownBlock = some b) : b ≠ L.gn := by obtain ⟨sp, hs, _⟩ := h.nowB; exact own_ne_blk h.keep hs (by decide) hb
theorem DevAt.lt (h : DevAt w L D) {b : Nat} (hb : L.foot b) : b < w.heap.size := by
  rcases hb with e | e | e | e | e
  · rw [e]; exact h.dev.lt
  · obtain ⟨sp, hs, _⟩ := h.sureB; rw [e]; exact hs.lt
  · obtain ⟨sp, hs, _⟩ := h.nowB; rw [e]; exact hs.lt
  · exact own_lt h.acts e
  · exact own_lt h.keep e

/-- The device where none of its blocks has turned. -/
theorem DevAt.same (h : DevAt w L D) (hb : ∀ b, L.foot b → w'.heap[b]? = w.heap[b]?) : DevAt w' L D :=
  ⟨h.ok, h.dev.same (hb _ (.inl rfl)), own_same h.sure fun b e => hb b (.inr (.inl (by simpa [Value.ownBlock] using e.symm))), own_same h.now fun b e => hb b (.inr (.inr (.inl (by simpa [Value.ownBlock] using e.symm)))),
    own_same h.acts fun b e => hb b (.inr (.inr (.inr (.inl e)))), own_same h.keep fun b e => hb b (.inr (.inr (.inr (.inr e)))), h.ne⟩

theorem DevAt.drewN (h : DevAt w L D) (n : Nat) : DevAt (w.drewN n) L D := h.same fun _ _ => rfl
theorem DevAt.drew (h : DevAt w L D) : DevAt w.drew L D := h.same fun _ _ => rfl
theorem DevAt.alloc (h : DevAt w L D) (o : Obj) : DevAt (w.alloc o) L D := h.same fun _ hb => Below.heap_alloc _ _ _ (h.lt hb)

/-- Two devices that share no block. -/
def Apart (L M : Lay) : Prop := ∀ b, L.foot b → ¬ M.foot b

/-- What is done to one leaves the other. -/
theorem DevAt.besides {M M' : Lay} (h : DevAt w L D) (hs : Step M w M' w') (ha : Apart L M) : DevAt w' L D ∧ Apart L M' := by
  refine ⟨h.same fun b hb => hs.block b (h.lt hb) (ha b hb), fun b hb hm => ?_⟩
  rcases hs.foot b hm with h1 | h1
  · exact ha b hb h1
  · have := h.lt hb; omega

/-- The device behind a turn of its own block's cells alone. -/
theorem DevAt.own_turn (h : DevAt w L D) {D' : Dev} (hok : D'.OK) (hd : Blk w' L.g 81 (devCells L D')) (hb : ∀ b, b ≠ L.g → b < w.heap.size → w'.heap[b]? = w.heap[b]?)
    (h1 : D'.sure = D.sure) (h2 : D'.now = D.now) (h3 : D'.acts = D.acts) (h4 : D'.keep = D.keep) : DevAt w' L D' := by
  refine ⟨hok, hd, ?_, ?_, ?_, ?_, h.ne⟩
  · rw [h1, h2]; exact own_same h.sure fun b e => by
      have e' : b = L.gs := by simpa [Value.ownBlock] using e.symm
      subst e'; exact hb _ h.g_ne_gs.symm (h.lt (.inr (.inl rfl)))
  · rw [h2]; exact own_same h.now fun b e => by
      have e' : b = L.gn := by simpa [Value.ownBlock] using e.symm
      subst e'; exact hb _ h.g_ne_gn.symm (h.lt (.inr (.inr (.inl rfl))))
  · rw [h3]; exact own_same h.acts fun b e => hb b (h.acts_ne_g e) (own_lt h.acts e)
  · rw [h4]; exact own_same h.keep fun b e => hb b (h.keep_ne_g e) (own_lt h.keep e)
end

end Go.Proofs.Ytfmhfgkmoeimeaa
