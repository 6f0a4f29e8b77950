/- Several devices at once, and blocks beside them that no device uses. -/
import Derived.Test.YtfmhfgkmoeimeaaW19
namespace Go.Proofs.Ytfmhfgkmoeimeaa
open Go.RowKit

/-- The devices lie in W as said; and these blocks hold these objects, and belong to no device. -/
structure AlsoBy (w W : World) (ds : List (Nat × Dev)) (bs : List (Nat × Obj)) (Ls : List Lay) : Prop where
  held : HeldBy w W ds Ls
  here : ∀ p ∈ bs, W.heap[p.1]? = some p.2
  out : ∀ p ∈ bs, ∀ (i : Nat) (L : Lay), Ls[i]? = some L → ¬ L.foot p.1
  nodup : (bs.map Prod.fst).Nodup
  new : ∀ p ∈ bs, w.heap.size ≤ p.1

def Also (w W : World) (ds : List (Nat × Dev)) (bs : List (Nat × Obj)) : Prop := ∃ Ls, AlsoBy w W ds bs Ls

theorem Also.holds {w W : World} {ds : List (Nat × Dev)} {bs : List (Nat × Obj)} (h : Also w W ds bs) : Holds w W ds := by
  obtain ⟨Ls, h⟩ := h; exact ⟨Ls, h.held⟩
theorem Also.below {w W : World} {ds : List (Nat × Dev)} {bs : List (Nat × Obj)} (h : Also w W ds bs) : Below w.heap.size w W := h.holds.below
theorem Also.of {w W : World} {ds : List (Nat × Dev)} (h : Holds w W ds) : Also w W ds [] := by
  obtain ⟨Ls, h⟩ := h
  exact ⟨Ls, h, (fun p hp => by cases hp), (fun p hp => by cases hp), List.nodup_nil, (fun p hp => by cases hp)⟩
theorem Also.at_ {w W : World} {ds : List (Nat × Dev)} {bs : List (Nat × Obj)} (h : Also w W ds bs) {j b : Nat} {o : Obj} (hj : bs[j]? = some (b, o)) : W.heap[b]? = some o := by
  obtain ⟨Ls, h⟩ := h
  exact h.here _ (List.mem_of_getElem? hj)
theorem heap_lt {W : World} {b : Nat} {o : Obj} (h : W.heap[b]? = some o) : b < W.heap.size := (Array.getElem?_eq_some_iff.1 h).1

theorem Also.after {w W W' : World} {ds : List (Nat × Dev)} {bs : List (Nat × Obj)} (h : Also w W ds bs) (hb : Below W.heap.size W W') : Also w W' ds bs := by
  obtain ⟨Ls, h⟩ := h
  refine ⟨Ls, ?_, fun p hp => ?_, h.out, h.nodup, h.new⟩
  · have h1 := h.held
    exact ⟨h1.len, fun i L p hL hp => ⟨(h1.at_ i L p hL hp).1, (h1.at_ i L p hL hp).2.below hb⟩, h1.apart, h1.foot, h1.below.trans (hb.mono h1.below.size)⟩
  · rw [hb.block _ (heap_lt (h.here p hp))]; exact h.here p hp
theorem Also.drew {w W : World} {ds : List (Nat × Dev)} {bs : List (Nat × Obj)} (h : Also w W ds bs) : Also w W.drew ds bs := h.after (Below.refl _ _).drew
theorem Also.alloc {w W : World} {ds : List (Nat × Dev)} {bs : List (Nat × Obj)} (h : Also w W ds bs) (o : Obj) : Also w (W.alloc o) ds bs := h.after ((Below.refl _ _).alloc (Nat.le_refl _) o)

/-- A block more. -/
theorem Also.push {w W W' : World} {ds : List (Nat × Dev)} {bs : List (Nat × Obj)} (h : Also w W ds bs) (hb : Below W.heap.size W W') {b : Nat} {o : Obj} (hg : W.heap.size ≤ b) (ho : W'.heap[b]? = some o) : Also w W' ds (bs ++ [(b, o)]) := by
  have h2 := h.after hb
  have hlt : ∀ (Ls : List Lay), AlsoBy w W ds bs Ls → ∀ (i : Nat) (M : Lay), Ls[i]? = some M → ∀ c, M.foot c → c < W.heap.size := fun Ls hL i M hM c hc => by
    obtain ⟨p, hp⟩ : ∃ p, ds[i]? = some p := ⟨_, List.getElem?_eq_getElem (by rw [← hL.held.len]; exact (List.getElem?_eq_some_iff.1 hM).1)⟩
    exact (hL.held.at_ i M p hM hp).2.lt hc
  obtain ⟨Ls, h⟩ := h
  refine ⟨Ls, ?_, fun p hp => ?_, fun p hp i L hL hf => ?_, ?_, fun p hp => ?_⟩
  · have h1 := h.held
    exact ⟨h1.len, fun i L p hL hp => ⟨(h1.at_ i L p hL hp).1, (h1.at_ i L p hL hp).2.below hb⟩, h1.apart, h1.foot, h1.below.trans (hb.mono h1.below.size)⟩
  · rcases List.mem_append.1 hp with hp | hp
    · rw [hb.block _ (heap_lt (h.here p hp))]; exact h.here p hp
    · rw [List.mem_singleton] at hp; subst hp; exact ho
  · rcases List.mem_append.1 hp with hp | hp
    · exact h.out p hp i L hL hf
    · rw [List.mem_singleton] at hp; subst hp
      have := hlt Ls h i L hL b hf; omega
  · rw [List.map_append, List.nodup_append]
    refine ⟨h.nodup, by simp, fun a ha c hc => ?_⟩
    simp at hc
    subst hc
    obtain ⟨p, hp, rfl⟩ := List.mem_map.1 ha
    have := heap_lt (h.here p hp)
    show p.1 ≠ _
    omega
  · rcases List.mem_append.1 hp with hp | hp
    · exact h.new p hp
    · rw [List.mem_singleton] at hp; subst hp
      have := h.held.below.size
      show w.heap.size ≤ b
      omega

/-- A store into one of the blocks. -/
theorem Also.turn {w W W' : World} {ds : List (Nat × Dev)} {bs : List (Nat × Obj)} (h : Also w W ds bs) {j b : Nat} {o o' : Obj} (hj : bs[j]? = some (b, o)) (ho : W'.heap[b]? = some o')
    (hsame : ∀ c, c ≠ b → W'.heap[c]? = W.heap[c]?) (hsize : W'.heap.size = W.heap.size) (h1 : W'.os = W.os) (h2 : W'.tape = W.tape) (h3 : W'.output = W.output) : Also w W' ds (bs.set j (b, o')) := by
  obtain ⟨Ls, h⟩ := h
  have hjl := (List.getElem?_eq_some_iff.1 hj).1
  have hmem := List.mem_of_getElem? hj
  refine ⟨Ls, ?_, fun p hp => ?_, fun p hp i L hL hf => ?_, ?_, fun p hp => ?_⟩
  · have hh := h.held
    refine ⟨hh.len, fun i L p hL hp => ⟨(hh.at_ i L p hL hp).1, (hh.at_ i L p hL hp).2.same fun c hc => hsame c fun e => ?_⟩, hh.apart, hh.foot, ?_⟩
    · subst e; exact h.out _ hmem i L hL hc
    · refine hh.below.trans ⟨h1, h2, h3, by omega, fun c hc => hsame c fun e => ?_⟩
      subst e
      have := h.new _ hmem
      have : w.heap.size ≤ c := this
      omega
  · obtain ⟨k, hk⟩ := List.mem_iff_getElem?.1 hp
    by_cases hkj : j = k
    · subst hkj
      rw [List.getElem?_set_self hjl] at hk
      injection hk with hk
      subst hk
      exact ho
    · rw [List.getElem?_set_ne hkj] at hk
      rw [hsame]
      · exact h.here p (List.mem_of_getElem? hk)
      · intro e
        have hn := h.nodup
        have e1 : (bs.map Prod.fst)[k]? = some p.1 := by rw [List.getElem?_map, hk]; rfl
        have e2 : (bs.map Prod.fst)[j]? = some b := by rw [List.getElem?_map, hj]; rfl
        rw [← e] at e2
        exact hkj ((List.getElem?_inj (by simpa using hjl) hn).1 (e2.trans e1.symm))
  · obtain ⟨k, hk⟩ := List.mem_iff_getElem?.1 hp
    by_cases hkj : j = k
    · subst hkj
      rw [List.getElem?_set_self hjl] at hk
      injection hk with hk
      subst hk
      exact h.out _ hmem i L hL hf
    · rw [List.getElem?_set_ne hkj] at hk
      exact h.out p (List.mem_of_getElem? hk) i L hL hf
  · have e : (bs.set j (b, o')).map Prod.fst = bs.map Prod.fst := by
      rw [List.map_set]
      apply List.ext_getElem?
      intro k
      rw [List.getElem?_set]
      split
      · rename_i e; subst e
        split
        · rw [List.getElem?_map, hj]; rfl
        · rename_i hx; exact absurd (by simpa using hjl) hx
      · rfl
    rw [e]; exact h.nodup
  · obtain ⟨k, hk⟩ := List.mem_iff_getElem?.1 hp
    by_cases hkj : j = k
    · subst hkj
      rw [List.getElem?_set_self hjl] at hk
      injection hk with hk
      subst hk
      exact h.new (b, o) hmem
    · rw [List.getElem?_set_ne hkj] at hk
      exact h.new p (List.mem_of_getElem? hk)
theorem HeldBy.new_ {w W W' : World} {ds : List (Nat × Dev)} {Ls : List Lay} {L : Lay} {D : Dev} (h : HeldBy w W ds Ls) (hD : DevAt W' L D) (hb : Below W.heap.size W W') (hf : ∀ b, L.foot b → W.heap.size ≤ b) : HeldBy w W' (ds ++ [(L.g, D)]) (Ls ++ [L]) := by
  have hlt : ∀ (i : Nat) (M : Lay), Ls[i]? = some M → ∀ b, M.foot b → b < W.heap.size := fun i M hM b hb' => by
    obtain ⟨p, hp⟩ : ∃ p, ds[i]? = some p := ⟨_, List.getElem?_eq_getElem (by rw [← h.len]; exact (List.getElem?_eq_some_iff.1 hM).1)⟩
    exact (h.at_ i M p hM hp).2.lt hb'
  refine ⟨by simp [h.len], fun i M p hM hp => ?_, fun i j M N hij hM hN => ?_, fun i M hM b hb' => ?_, h.below.trans (hb.mono h.below.size)⟩
  · by_cases hi : i < Ls.length
    · rw [List.getElem?_append_left hi] at hM
      rw [List.getElem?_append_left (by rw [← h.len]; exact hi)] at hp
      exact ⟨(h.at_ i M p hM hp).1, (h.at_ i M p hM hp).2.below hb⟩
    · rw [List.getElem?_append_right (by omega)] at hM
      rw [List.getElem?_append_right (by rw [← h.len]; omega)] at hp
      have h0 : i - Ls.length = 0 := by have := (List.getElem?_eq_some_iff.1 hM).1; simp at this; omega
      have h1 : i - ds.length = 0 := by rw [← h.len]; exact h0
      rw [h0] at hM
      rw [h1] at hp
      simp at hM hp
      subst hM hp
      exact ⟨rfl, hD⟩
  · have key : ∀ (k : Nat) (X : Lay), (Ls ++ [L])[k]? = some X → (k < Ls.length ∧ Ls[k]? = some X) ∨ (k = Ls.length ∧ X = L) := fun k X hX => by
      by_cases hk : k < Ls.length
      · rw [List.getElem?_append_left hk] at hX; exact .inl ⟨hk, hX⟩
      · have hk2 := (List.getElem?_eq_some_iff.1 hX).1
        simp at hk2
        have : k = Ls.length := by omega
        subst this
        simp at hX
        exact .inr ⟨rfl, hX.symm⟩
    rcases key i M hM with ⟨hi, hM'⟩ | ⟨hi, rfl⟩ <;> rcases key j N hN with ⟨hj, hN'⟩ | ⟨hj, rfl⟩
    · exact h.apart i j M N hij hM' hN'
    · intro b h1 h2; have := hlt i M hM' b h1; have := hf b h2; omega
    · intro b h1 h2; have := hlt j N hN' b h2; have := hf b h1; omega
    · omega
  · by_cases hi : i < Ls.length
    · rw [List.getElem?_append_left hi] at hM
      exact h.foot i M hM b hb'
    · have hi2 := (List.getElem?_eq_some_iff.1 hM).1
      simp at hi2
      have : i = Ls.length := by omega
      subst this
      simp at hM
      subst hM
      have := hf b hb'; have := h.below.size; omega

theorem HeldBy.turn {w W W' : World} {ds : List (Nat × Dev)} {Ls : List Lay} (h : HeldBy w W ds Ls) {i : Nat} {g : Nat} {D D' : Dev} {L L' : Lay} (hi : ds[i]? = some (g, D)) (hL : Ls[i]? = some L) (hD' : DevAt W' L' D') (hS : Step L W L' W') :
    HeldBy w W' (ds.set i (g, D')) (Ls.set i L') := by
  have hil := (List.getElem?_eq_some_iff.1 hi).1
  have hg := (h.at_ i L _ hL hi).1
  have hiL := (List.getElem?_eq_some_iff.1 hL).1
  refine ⟨by simp [h.len], fun j M p hM hp => ?_, fun j k M N hjk hM hN => ?_, fun j M hM b hb => ?_, ?_⟩
  · by_cases hj : i = j
    · subst hj
      rw [List.getElem?_set_self hiL] at hM
      rw [List.getElem?_set_self hil] at hp
      injection hM with hM
      injection hp with hp
      subst hM hp
      exact ⟨hS.g.trans hg, hD'⟩
    · rw [List.getElem?_set_ne hj] at hM hp
      exact ⟨(h.at_ j M p hM hp).1, ((h.at_ j M p hM hp).2.besides hS (h.apart j i M L (Ne.symm hj) hM hL)).1⟩
  · have key : ∀ (m : Nat) (X : Lay), (Ls.set i L')[m]? = some X → m ≠ i → Ls[m]? = some X := fun m X hX hm => by rwa [List.getElem?_set_ne (Ne.symm hm)] at hX
    by_cases hj : j = i
    · subst hj
      rw [List.getElem?_set_self hiL] at hM
      injection hM with hM
      subst hM
      have hN' := key k N hN (Ne.symm hjk)
      obtain ⟨p, hp⟩ : ∃ p, ds[k]? = some p := ⟨_, List.getElem?_eq_getElem (by rw [← h.len]; exact (List.getElem?_eq_some_iff.1 hN').1)⟩
      have := ((h.at_ k N p hN' hp).2.besides hS (h.apart k j N L (Ne.symm hjk) hN' hL)).2
      exact fun b h1 h2 => this b h2 h1
    · have hM' := key j M hM hj
      obtain ⟨p, hp⟩ : ∃ p, ds[j]? = some p := ⟨_, List.getElem?_eq_getElem (by rw [← h.len]; exact (List.getElem?_eq_some_iff.1 hM').1)⟩
      by_cases hk : k = i
      · subst hk
        rw [List.getElem?_set_self hiL] at hN
        injection hN with hN
        subst hN
        exact ((h.at_ j M p hM' hp).2.besides hS (h.apart j k M L hj hM' hL)).2
      · exact h.apart j k M N hjk hM' (key k N hN hk)
  · by_cases hj : i = j
    · subst hj
      rw [List.getElem?_set_self hiL] at hM
      injection hM with hM
      subst hM
      rcases hS.foot b hb with h1 | h1
      · exact h.foot i L hL b h1
      · have := h.below.size; omega
    · rw [List.getElem?_set_ne hj] at hM
      exact h.foot j M hM b hb
  · exact h.below.trans ⟨hS.os, hS.tape, hS.output, hS.size, fun b hb => hS.block b (by have := h.below.size; omega) (fun hf => by have := h.foot i L hL b hf; omega)⟩


theorem Also.new_ {w W W' : World} {ds : List (Nat × Dev)} {bs : List (Nat × Obj)} {L : Lay} {D : Dev} (h : Also w W ds bs) (hD : DevAt W' L D) (hb : Below W.heap.size W W') (hf : ∀ b, L.foot b → W.heap.size ≤ b) : Also w W' (ds ++ [(L.g, D)]) bs := by
  obtain ⟨Ls, h⟩ := h
  refine ⟨_, h.held.new_ hD hb hf, fun p hp => ?_, fun p hp i M hM hfo => ?_, h.nodup, h.new⟩
  · rw [hb.block _ (heap_lt (h.here p hp))]; exact h.here p hp
  · have := heap_lt (h.here p hp)
    by_cases hi : i < Ls.length
    · rw [List.getElem?_append_left hi] at hM
      exact h.out p hp i M hM hfo
    · rw [List.getElem?_append_right (by omega)] at hM
      have h0 : i - Ls.length = 0 := by have := (List.getElem?_eq_some_iff.1 hM).1; simp at this; omega
      rw [h0] at hM
      simp at hM
      subst hM
      have := hf _ hfo
      omega

/-- A call on one of the devices. -/
theorem Also.call {w W : World} {ds : List (Nat × Dev)} {bs : List (Nat × Obj)} (h : Also w W ds bs) {i : Nat} {g : Nat} {D : Dev} (hi : ds[i]? = some (g, D)) {f : FuncId} {args : Array Value} {r : Dev × Int}
    (hc : ∀ L, L.g = g → DevAt W L D → (∀ b, L.foot b → w.heap.size ≤ b) → Calls Try.prog f args W (DPost L W r)) :
    Calls Try.prog f args W fun e W' => e = .returned (.int .i64 r.2) ∧ Also w W' (ds.set i (g, r.1)) bs := by
  obtain ⟨Ls, h⟩ := h
  have hil := (List.getElem?_eq_some_iff.1 hi).1
  obtain ⟨L, hL⟩ : ∃ L, Ls[i]? = some L := ⟨_, List.getElem?_eq_getElem (by rw [h.held.len]; exact hil)⟩
  have hiL := (List.getElem?_eq_some_iff.1 hL).1
  refine (hc L (h.held.at_ i L _ hL hi).1 (h.held.at_ i L _ hL hi).2 (h.held.foot i L hL)).mono ?_
  rintro e W' ⟨L', rfl, hD', hS⟩
  refine ⟨rfl, _, h.held.turn hi hL hD' hS, fun p hp => ?_, fun p hp j M hM hf => ?_, h.nodup, h.new⟩
  · rw [hS.block _ (heap_lt (h.here p hp)) (h.out p hp i L hL)]; exact h.here p hp
  · by_cases hj : i = j
    · subst hj
      rw [List.getElem?_set_self hiL] at hM
      injection hM with hM
      subst hM
      have := heap_lt (h.here p hp)
      rcases hS.foot _ hf with h1 | h1
      · exact h.out p hp i L hL h1
      · omega
    · rw [List.getElem?_set_ne hj] at hM
      exact h.out p hp j M hM hf

section
variable {w W : World} {ds : List (Nat × Dev)} {bs : List (Nat × Obj)} {i g : Nat} {D : Dev}
theorem Also.write (h : Also w W ds bs) (hi : ds[i]? = some (g, D)) (k : Int) (data : ByteArray) (h0 : -9223372036854775808 ≤ k) (h1 : k ≤ 9223372036854775807) (hd : data.size ≤ 140737488351232) (hm : D.acts.length < 1000000) :
    Calls Try.prog 25 #[.pointer (some ⟨g, 0, none⟩), .int .i64 k, .string data] W fun e W' => e = .returned (.int .i64 (D.write k data).2) ∧ Also w W' (ds.set i (g, (D.write k data).1)) bs :=
  h.call hi fun L hg hD _ => hg ▸ write_any W L D hD k data h0 h1 hd hm
theorem Also.erase (h : Also w W ds bs) (hi : ds[i]? = some (g, D)) (k : Int) (h0 : -9223372036854775808 ≤ k) (h1 : k ≤ 9223372036854775807) (hm : D.acts.length < 1000000) :
    Calls Try.prog 26 #[.pointer (some ⟨g, 0, none⟩), .int .i64 k] W fun e W' => e = .returned (.int .i64 (D.erase k).2) ∧ Also w W' (ds.set i (g, (D.erase k).1)) bs :=
  h.call hi fun L hg hD _ => hg ▸ erase_any W L D hD k h0 h1 hm
theorem Also.flush (h : Also w W ds bs) (hi : ds[i]? = some (g, D)) :
    Calls Try.prog 16 #[.pointer (some ⟨g, 0, none⟩)] W fun e W' => e = .returned (.int .i64 D.flush.2) ∧ Also w W' (ds.set i (g, D.flush.1)) bs :=
  h.call hi fun L hg hD _ => hg ▸ flush_any W L D hD
theorem Also.crash (h : Also w W ds bs) (hi : ds[i]? = some (g, D)) (v : Value) (ks : List Int) (hv : ∀ gs, w.heap.size ≤ gs → (∃ cs, Blk W gs 88 cs) → ReadsI W gs v ks) (hks : ks.length ≤ 1000000) :
    Calls Try.prog 20 #[.pointer (some ⟨g, 0, none⟩), v] W fun e W' => e = .returned (.int .i64 D.on) ∧ Also w W' (ds.set i (g, D.crash ks)) bs :=
  h.call (r := (D.crash ks, D.on)) hi fun L hg hD hf => hg ▸ crash_any W L D hD v ks (hv L.gs (hf _ (.inr (.inl rfl))) (by obtain ⟨sp, hb, _⟩ := hD.sureB; exact ⟨_, hb⟩)) hks
theorem Also.start (h : Also w W ds bs) (hi : ds[i]? = some (g, D)) (hs : D.starts < 1000000) :
    Calls Try.prog 21 #[.pointer (some ⟨g, 0, none⟩)] W fun e W' => e = .returned (.int .i64 D.start.2) ∧ Also w W' (ds.set i (g, D.start.1)) bs :=
  h.call hi fun L hg hD _ => hg ▸ start_any W L D hD hs
theorem Also.fail (h : Also w W ds bs) (hi : ds[i]? = some (g, D)) (n : Int) (v : Value) (ks : List Int) (gx : Nat) (hv : ReadsI W gx v ks) (hn : n ≤ 9223372036854775807) (hk : ks.length ≤ 1000000) (hks : ∀ k ∈ ks, -9223372036854775808 ≤ k ∧ k ≤ 9223372036854775807) :
    Calls Try.prog 29 #[.pointer (some ⟨g, 0, none⟩), .int .i64 n, v] W fun e W' => e = .returned (.int .i64 (D.failAt n ks).2) ∧ Also w W' (ds.set i (g, (D.failAt n ks).1)) bs :=
  h.call hi fun L hg hD _ => hg ▸ fail_any W L D hD n v ks gx hv hn hk hks
theorem Also.tamper (h : Also w W ds bs) (hi : ds[i]? = some (g, D)) (k st : Int) (data : ByteArray) (h0 : -9223372036854775808 ≤ k) (h1 : k ≤ 9223372036854775807) :
    Calls Try.prog 34 #[.pointer (some ⟨g, 0, none⟩), .int .i64 k, .int .i64 st, .string data] W fun e W' => e = .returned (.int .i64 (D.tamper k st data).2) ∧ Also w W' (ds.set i (g, (D.tamper k st data).1)) bs :=
  h.call hi fun L hg hD _ => hg ▸ tamper_any W L D hD k st data h0 h1
theorem Also.with_ (h : Also w W ds bs) (hi : ds[i]? = some (g, D)) (x : PDo) (kv : Value) (hx : x.OK) (hk : KsAt W w.heap.size kv x.k) (hm : D.acts.length < 1000000) (hs : D.starts < 1000000) :
    Calls Try.prog 19 #[.pointer (some ⟨g, 0, none⟩), doV x kv] W fun e W' => e = .returned (.int .i64 (withF D x).2) ∧ Also w W' (ds.set i (g, (withF D x).1)) bs :=
  h.call hi fun L hg hD hf => hg ▸ with_any W L D hD x kv hx (hk.reads (hf _ (.inr (.inl rfl)))) hm hs
theorem Also.states (h : Also w W ds bs) (hi : ds[i]? = some (g, D)) : Calls Try.prog 17 #[.pointer (some ⟨g, 0, none⟩)] W fun e W' => ∃ g' c o, e = .returned (.slice (some ⟨g', 0, none⟩) D.now.length c) ∧
    (∀ X : World, X.heap[g']? = some o → ReadsV X (.slice (some ⟨g', 0, none⟩) D.now.length c) ((stList D).map intV)) ∧ Below W.heap.size W W' ∧ Also w W' ds (bs ++ [(g', o)]) := by
  obtain ⟨L, hg, hD, _⟩ := h.holds.get hi
  refine (hg ▸ states_any W L D hD).mono ?_
  rintro e W' ⟨v, rfl, ho, hb⟩
  have h4 := hD.ok.pos
  have hm := hD.ok.max
  obtain ⟨hl, h2⟩ := ho
  rcases h2 with ⟨_, h0⟩ | ⟨g', c, cur, rfl, hge, hh, hnc, hcm, hcs, htk⟩
  · omega
  · exact ⟨g', c, _, rfl, fun X hX => ReadsV.own (w := X) (base := W.heap.size) ⟨hl, .inr ⟨g', c, cur, rfl, hge, hX, hnc, hcm, hcs, htk⟩⟩ (by omega), hb, h.push hb hge hh⟩
theorem Also.all (h : Also w W ds bs) (hi : ds[i]? = some (g, D)) : Calls Try.prog 18 #[.pointer (some ⟨g, 0, none⟩)] W fun e W' => ∃ g' c o, e = .returned (.slice (some ⟨g', 0, none⟩) D.now.length c) ∧
    (∀ X : World, X.heap[g']? = some o → ReadsV X (.slice (some ⟨g', 0, none⟩) D.now.length c) ((txList D).map strV)) ∧ Below W.heap.size W W' ∧ Also w W' ds (bs ++ [(g', o)]) := by
  obtain ⟨L, hg, hD, _⟩ := h.holds.get hi
  refine (hg ▸ all_any W L D hD).mono ?_
  rintro e W' ⟨v, rfl, ho, hb⟩
  have h4 := hD.ok.pos
  have hm := hD.ok.max
  obtain ⟨hl, h2⟩ := ho
  rcases h2 with ⟨_, h0⟩ | ⟨g', c, cur, rfl, hge, hh, hnc, hcm, hcs, htk⟩
  · omega
  · exact ⟨g', c, _, rfl, fun X hX => ReadsV.own (w := X) (base := W.heap.size) ⟨hl, .inr ⟨g', c, cur, rfl, hge, hX, hnc, hcm, hcs, htk⟩⟩ (by omega), hb, h.push hb hge hh⟩
theorem Also.clone_ (h : Also w W ds bs) (hi : ds[i]? = some (g, D)) : Calls Try.prog 39 #[.pointer (some ⟨g, 0, none⟩)] W fun e W' => ∃ g', e = .returned (.pointer (some ⟨g', 0, none⟩)) ∧ Also w W' (ds ++ [(g', D.clone)]) bs := by
  obtain ⟨L, hg, hD, _⟩ := h.holds.get hi
  refine (hg ▸ clone_any W L D hD).mono ?_
  rintro e W' ⟨M, rfl, hM, hf⟩
  exact ⟨M.g, rfl, h.new_ hM hf.1 hf.2⟩
end
theorem Also.after_ {w W : World} {ds : List (Nat × Dev)} {bs : List (Nat × Obj)} (h : Also w W ds bs) (n : Nat) (hn : n < 256) (v : Value) (l : List PDo) (hl : l.length ≤ 60) (hd : DosAt W W.heap.size v l) (hxs : ∀ x ∈ l, x.OK) :
    Calls Try.prog 15 #[.int .u8 n, v] W fun e W' => ∃ g, e = .returned (.pointer (some ⟨g, 0, none⟩)) ∧ Also w W' (ds ++ [(g, afterF n l)]) bs := by
  refine (after_any W n hn v l hl hd hxs).mono ?_
  rintro e W' ⟨M, rfl, hM, hf⟩
  exact ⟨M.g, rfl, h.new_ hM hf.below hf.foot⟩
theorem DosAt.up {w W : World} {v : Value} {l : List PDo} (hd : DosAt W w.heap.size v l) (hs : w.heap.size ≤ W.heap.size) : DosAt W W.heap.size v l := by
  obtain ⟨A, c, rfl, hlc, hok, hc⟩ := hd
  refine ⟨A, c, rfl, hlc, hok, fun k hk => ?_⟩
  obtain ⟨b, off, kv, ha, hlt, h0, h1, h2, h3, h4, KA, kc, he, hks⟩ := hc k hk
  refine ⟨b, off, kv, ha, by omega, h0, h1, h2, h3, h4, KA, kc, he, fun j hj => ?_⟩
  obtain ⟨ad, ha, hlt, hcell⟩ := hks j hj
  exact ⟨ad, ha, by omega, hcell⟩
end Go.Proofs.Ytfmhfgkmoeimeaa
