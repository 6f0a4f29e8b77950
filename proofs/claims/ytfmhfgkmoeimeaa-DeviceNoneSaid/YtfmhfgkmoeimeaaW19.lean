/- Several devices at once, none of which shares a block with another one. -/
import Derived.Test.YtfmhfgkmoeimeaaW18
namespace Go.Proofs.Ytfmhfgkmoeimeaa
open Go.RowKit

structure HeldBy (w W : World) (ds : List (Nat × Dev)) (Ls : List Lay) : Prop where
  len : Ls.length = ds.length
  at_ : ∀ (i : Nat) (L : Lay) (p : Nat × Dev), Ls[i]? = some L → ds[i]? = some p → L.g = p.1 ∧ DevAt W L p.2
  apart : ∀ (i j : Nat) (L M : Lay), i ≠ j → Ls[i]? = some L → Ls[j]? = some M → Apart L M
  foot : ∀ (i : Nat) (L : Lay), Ls[i]? = some L → ∀ b, L.foot b → w.heap.size ≤ b
  below : Below w.heap.size w W

/-- In world W these devices lie, in blocks that are all newer than w; what was in w is as it was. -/
def Holds (w W : World) (ds : List (Nat × Dev)) : Prop := ∃ Ls, HeldBy w W ds Ls

theorem Holds.none_ (w : World) : Holds w w [] := ⟨[], rfl, fun i L p h => by simp at h, fun i j L M _ h => by simp at h, fun i L h => by simp at h, Below.refl _ _⟩

theorem Holds.below {w W : World} {ds : List (Nat × Dev)} (h : Holds w W ds) : Below w.heap.size w W := by obtain ⟨Ls, h⟩ := h; exact h.below

theorem Holds.after {w W W' : World} {ds : List (Nat × Dev)} (h : Holds w W ds) (hb : Below W.heap.size W W') : Holds w W' ds := by
  obtain ⟨Ls, h⟩ := h
  exact ⟨Ls, h.len, fun i L p hL hp => ⟨(h.at_ i L p hL hp).1, (h.at_ i L p hL hp).2.below hb⟩, h.apart, h.foot, h.below.trans (hb.mono h.below.size)⟩
theorem Holds.drew {w W : World} {ds : List (Nat × Dev)} (h : Holds w W ds) : Holds w W.drew ds := h.after (Below.refl _ _).drew
theorem Holds.alloc {w W : World} {ds : List (Nat × Dev)} (h : Holds w W ds) (o : Obj) : Holds w (W.alloc o) ds := h.after ((Below.refl _ _).alloc (Nat.le_refl _) o)

theorem Holds.new_ {w W W' : World} {ds : List (Nat × Dev)} {L : Lay} {D : Dev} (h : Holds w W ds) (hD : DevAt W' L D) (hb : Below W.heap.size W W') (hf : ∀ b, L.foot b → W.heap.size ≤ b) : Holds w W' (ds ++ [(L.g, D)]) := by
  obtain ⟨Ls, h⟩ := h
  have hlt : ∀ (i : Nat) (M : Lay), Ls[i]? = some M → ∀ b, M.foot b → b < W.heap.size := fun i M hM b hb' => by
    obtain ⟨p, hp⟩ : ∃ p, ds[i]? = some p := ⟨_, List.getElem?_eq_getElem (by rw [← h.len]; exact (List.getElem?_eq_some_iff.1 hM).1)⟩
    exact (h.at_ i M p hM hp).2.lt hb'
  refine ⟨Ls ++ [L], by simp [h.len], fun i M p hM hp => ?_, fun i j M N hij hM hN => ?_, fun i M hM b hb' => ?_, h.below.trans (hb.mono h.below.size)⟩
  · by_cases hi : i < Ls.length
    · rw [List.getElem?_append_left hi] at hM
      rw [List.getElem?_append_left (by rw [← h.len]; exact hi)] at hp
      exact ⟨(h.at_ i M p hM hp).1, (h.at_ i M p hM hp).2.below hb⟩
    · rw [List.getElem?_append_right (by omega)] at hM
      rw [List.getElem?_append_right (by rw [← h.len]; omega)] at hp
      have h0 : i - Ls.length = 0 := by have := (List.getElem?_eq_some_iff.1 hM).1; simp at this; omega
      have h1 : i - ds.length = 0 := by rw [← h.len]; exact h0
      rw [h0] at hM
      rw [h1] at hp
      simp at hM hp
      subst hM hp
      exact ⟨rfl, hD⟩
  · have key : ∀ (k : Nat) (X : Lay), (Ls ++ [L])[k]? = some X → (k < Ls.length ∧ Ls[k]? = some X) ∨ (k = Ls.length ∧ X = L) := fun k X hX => by
      by_cases hk : k < Ls.length
      · rw [List.getElem?_append_left hk] at hX; exact .inl ⟨hk, hX⟩
      · have hk2 := (List.getElem?_eq_some_iff.1 hX).1
        simp at hk2
        have : k = Ls.length := by omega
        subst this
        simp at hX
        exact .inr ⟨rfl, hX.symm⟩
    rcases key i M hM with ⟨hi, hM'⟩ | ⟨hi, rfl⟩ <;> rcases key j N hN with ⟨hj, hN'⟩ | ⟨hj, rfl⟩
    · exact h.apart i j M N hij hM' hN'
    · intro b h1 h2; have := hlt i M hM' b h1; have := hf b h2; omega
    · intro b h1 h2; have := hlt j N hN' b h2; have := hf b h1; omega
    · omega
  · by_cases hi : i < Ls.length
    · rw [List.getElem?_append_left hi] at hM
      exact h.foot i M hM b hb'
    · have hi2 := (List.getElem?_eq_some_iff.1 hM).1
      simp at hi2
      have : i = Ls.length := by omega
      subst this
      simp at hM
      subst hM
      have := hf b hb'; have := h.below.size; omega

theorem Holds.get {w W : World} {ds : List (Nat × Dev)} (h : Holds w W ds) {i : Nat} {g : Nat} {D : Dev} (hi : ds[i]? = some (g, D)) : ∃ L, L.g = g ∧ DevAt W L D ∧ ∀ b, L.foot b → w.heap.size ≤ b := by
  obtain ⟨Ls, h⟩ := h
  obtain ⟨L, hL⟩ : ∃ L, Ls[i]? = some L := ⟨_, List.getElem?_eq_getElem (by rw [h.len]; exact (List.getElem?_eq_some_iff.1 hi).1)⟩
  exact ⟨L, (h.at_ i L _ hL hi).1, (h.at_ i L _ hL hi).2, h.foot i L hL⟩

/-- A call on one of them. -/
theorem Holds.call {w W : World} {ds : List (Nat × Dev)} (h : Holds w W ds) {i : Nat} {g : Nat} {D : Dev} (hi : ds[i]? = some (g, D)) {f : FuncId} {args : Array Value} {r : Dev × Int}
    (hc : ∀ L, L.g = g → DevAt W L D → (∀ b, L.foot b → w.heap.size ≤ b) → Calls Try.prog f args W (DPost L W r)) :
    Calls Try.prog f args W fun e W' => e = .returned (.int .i64 r.2) ∧ Holds w W' (ds.set i (g, r.1)) := by
  obtain ⟨Ls, h⟩ := h
  have hil := (List.getElem?_eq_some_iff.1 hi).1
  obtain ⟨L, hL⟩ : ∃ L, Ls[i]? = some L := ⟨_, List.getElem?_eq_getElem (by rw [h.len]; exact hil)⟩
  have hg := (h.at_ i L _ hL hi).1
  refine (hc L hg (h.at_ i L _ hL hi).2 (h.foot i L hL)).mono ?_
  rintro e W' ⟨L', rfl, hD', hS⟩
  have hiL := (List.getElem?_eq_some_iff.1 hL).1
  refine ⟨rfl, Ls.set i L', by simp [h.len], fun j M p hM hp => ?_, fun j k M N hjk hM hN => ?_, fun j M hM b hb => ?_, ?_⟩
  · by_cases hj : i = j
    · subst hj
      rw [List.getElem?_set_self hiL] at hM
      rw [List.getElem?_set_self hil] at hp
      injection hM with hM
      injection hp with hp
      subst hM hp
      exact ⟨hS.g.trans hg, hD'⟩
    · rw [List.getElem?_set_ne hj] at hM hp
      exact ⟨(h.at_ j M p hM hp).1, ((h.at_ j M p hM hp).2.besides hS (h.apart j i M L (Ne.symm hj) hM hL)).1⟩
  · have key : ∀ (m : Nat) (X : Lay), (Ls.set i L')[m]? = some X → m ≠ i → Ls[m]? = some X := fun m X hX hm => by rwa [List.getElem?_set_ne (Ne.symm hm)] at hX
    by_cases hj : j = i
    · subst hj
      rw [List.getElem?_set_self hiL] at hM
      injection hM with hM
      subst hM
      have hN' := key k N hN (Ne.symm hjk)
      obtain ⟨p, hp⟩ : ∃ p, ds[k]? = some p := ⟨_, List.getElem?_eq_getElem (by rw [← h.len]; exact (List.getElem?_eq_some_iff.1 hN').1)⟩
      have := ((h.at_ k N p hN' hp).2.besides hS (h.apart k j N L (Ne.symm hjk) hN' hL)).2
      exact fun b h1 h2 => this b h2 h1
    · have hM' := key j M hM hj
      obtain ⟨p, hp⟩ : ∃ p, ds[j]? = some p := ⟨_, List.getElem?_eq_getElem (by rw [← h.len]; exact (List.getElem?_eq_some_iff.1 hM').1)⟩
      by_cases hk : k = i
      · subst hk
        rw [List.getElem?_set_self hiL] at hN
        injection hN with hN
        subst hN
        exact ((h.at_ j M p hM' hp).2.besides hS (h.apart j k M L hj hM' hL)).2
      · exact h.apart j k M N hjk hM' (key k N hN hk)
  · by_cases hj : i = j
    · subst hj
      rw [List.getElem?_set_self hiL] at hM
      injection hM with hM
      subst hM
      rcases hS.foot b hb with h1 | h1
      · exact h.foot i L hL b h1
      · have := h.below.size; omega
    · rw [List.getElem?_set_ne hj] at hM
      exact h.foot j M hM b hb
  · exact h.below.trans ⟨hS.os, hS.tape, hS.output, hS.size, fun b hb => hS.block b (by have := h.below.size; omega) (fun hf => by have := h.foot i L hL b hf; omega)⟩

section
variable {w W : World} {ds : List (Nat × Dev)} {i g : Nat} {D : Dev}
theorem Holds.write (h : Holds w W ds) (hi : ds[i]? = some (g, D)) (k : Int) (data : ByteArray) (h0 : -9223372036854775808 ≤ k) (h1 : k ≤ 9223372036854775807) (hd : data.size ≤ 140737488351232) (hm : D.acts.length < 1000000) :
    Calls Try.prog 25 #[.pointer (some ⟨g, 0, none⟩), .int .i64 k, .string data] W fun e W' => e = .returned (.int .i64 (D.write k data).2) ∧ Holds w W' (ds.set i (g, (D.write k data).1)) :=
  h.call hi fun L hg hD _ => hg ▸ write_any W L D hD k data h0 h1 hd hm
theorem Holds.erase (h : Holds w W ds) (hi : ds[i]? = some (g, D)) (k : Int) (h0 : -9223372036854775808 ≤ k) (h1 : k ≤ 9223372036854775807) (hm : D.acts.length < 1000000) :
    Calls Try.prog 26 #[.pointer (some ⟨g, 0, none⟩), .int .i64 k] W fun e W' => e = .returned (.int .i64 (D.erase k).2) ∧ Holds w W' (ds.set i (g, (D.erase k).1)) :=
  h.call hi fun L hg hD _ => hg ▸ erase_any W L D hD k h0 h1 hm
theorem Holds.flush (h : Holds w W ds) (hi : ds[i]? = some (g, D)) :
    Calls Try.prog 16 #[.pointer (some ⟨g, 0, none⟩)] W fun e W' => e = .returned (.int .i64 D.flush.2) ∧ Holds w W' (ds.set i (g, D.flush.1)) :=
  h.call hi fun L hg hD _ => hg ▸ flush_any W L D hD
theorem Holds.crash (h : Holds w W ds) (hi : ds[i]? = some (g, D)) (v : Value) (ks : List Int) (hv : ∀ gs, w.heap.size ≤ gs → (∃ cs, Blk W gs 88 cs) → ReadsI W gs v ks) (hks : ks.length ≤ 1000000) :
    Calls Try.prog 20 #[.pointer (some ⟨g, 0, none⟩), v] W fun e W' => e = .returned (.int .i64 D.on) ∧ Holds w W' (ds.set i (g, D.crash ks)) :=
  h.call (r := (D.crash ks, D.on)) hi fun L hg hD hf => hg ▸ crash_any W L D hD v ks (hv L.gs (hf _ (.inr (.inl rfl))) (by obtain ⟨sp, hb, _⟩ := hD.sureB; exact ⟨_, hb⟩)) hks
theorem Holds.start (h : Holds w W ds) (hi : ds[i]? = some (g, D)) (hs : D.starts < 1000000) :
    Calls Try.prog 21 #[.pointer (some ⟨g, 0, none⟩)] W fun e W' => e = .returned (.int .i64 D.start.2) ∧ Holds w W' (ds.set i (g, D.start.1)) :=
  h.call hi fun L hg hD _ => hg ▸ start_any W L D hD hs
theorem Holds.fail (h : Holds w W ds) (hi : ds[i]? = some (g, D)) (n : Int) (v : Value) (ks : List Int) (gx : Nat) (hv : ReadsI W gx v ks) (hn : n ≤ 9223372036854775807) (hk : ks.length ≤ 1000000) (hks : ∀ k ∈ ks, -9223372036854775808 ≤ k ∧ k ≤ 9223372036854775807) :
    Calls Try.prog 29 #[.pointer (some ⟨g, 0, none⟩), .int .i64 n, v] W fun e W' => e = .returned (.int .i64 (D.failAt n ks).2) ∧ Holds w W' (ds.set i (g, (D.failAt n ks).1)) :=
  h.call hi fun L hg hD _ => hg ▸ fail_any W L D hD n v ks gx hv hn hk hks
theorem Holds.tamper (h : Holds w W ds) (hi : ds[i]? = some (g, D)) (k st : Int) (data : ByteArray) (h0 : -9223372036854775808 ≤ k) (h1 : k ≤ 9223372036854775807) :
    Calls Try.prog 34 #[.pointer (some ⟨g, 0, none⟩), .int .i64 k, .int .i64 st, .string data] W fun e W' => e = .returned (.int .i64 (D.tamper k st data).2) ∧ Holds w W' (ds.set i (g, (D.tamper k st data).1)) :=
  h.call hi fun L hg hD _ => hg ▸ tamper_any W L D hD k st data h0 h1
theorem Holds.with_ (h : Holds w W ds) (hi : ds[i]? = some (g, D)) (x : PDo) (kv : Value) (hx : x.OK) (hk : KsAt W w.heap.size kv x.k) (hm : D.acts.length < 1000000) (hs : D.starts < 1000000) :
    Calls Try.prog 19 #[.pointer (some ⟨g, 0, none⟩), doV x kv] W fun e W' => e = .returned (.int .i64 (withF D x).2) ∧ Holds w W' (ds.set i (g, (withF D x).1)) :=
  h.call hi fun L hg hD hf => hg ▸ with_any W L D hD x kv hx (hk.reads (hf _ (.inr (.inl rfl)))) hm hs
theorem Holds.len (h : Holds w W ds) (hi : ds[i]? = some (g, D)) : Calls Try.prog 33 #[.pointer (some ⟨g, 0, none⟩)] W fun e W' => e = .returned (.int .i64 D.now.length) ∧ W = W' := by
  obtain ⟨L, hg, hD, _⟩ := h.get hi
  exact hg ▸ len_any W L D hD
theorem Holds.state (h : Holds w W ds) (hi : ds[i]? = some (g, D)) (k : Int) (h0 : -9223372036854775808 ≤ k) (h1 : k ≤ 9223372036854775807) : Calls Try.prog 28 #[.pointer (some ⟨g, 0, none⟩), .int .i64 k] W fun e W' => e = .returned (.int .i64 (D.stateAt k)) ∧ W = W' := by
  obtain ⟨L, hg, hD, _⟩ := h.get hi
  exact hg ▸ state_any W L D hD k h0 h1
theorem Holds.read (h : Holds w W ds) (hi : ds[i]? = some (g, D)) (k : Int) (h0 : -9223372036854775808 ≤ k) (h1 : k ≤ 9223372036854775807) : Calls Try.prog 27 #[.pointer (some ⟨g, 0, none⟩), .int .i64 k] W fun e W' => e = .returned (.tuple #[.string (D.read k).1, .int .i64 (D.read k).2]) ∧ W = W' := by
  obtain ⟨L, hg, hD, _⟩ := h.get hi
  exact hg ▸ read_any W L D hD k h0 h1
theorem Holds.up (h : Holds w W ds) (hi : ds[i]? = some (g, D)) : Calls Try.prog 30 #[.pointer (some ⟨g, 0, none⟩)] W fun e W' => e = .returned (.bool (!D.off)) ∧ W = W' := by
  obtain ⟨L, hg, hD, _⟩ := h.get hi
  exact hg ▸ up_any W L D hD
theorem Holds.pending (h : Holds w W ds) (hi : ds[i]? = some (g, D)) : Calls Try.prog 22 #[.pointer (some ⟨g, 0, none⟩)] W fun e W' => e = .returned (.int .i64 D.acts.length) ∧ W = W' := by
  obtain ⟨L, hg, hD, _⟩ := h.get hi
  exact hg ▸ pending_any W L D hD
theorem Holds.starts (h : Holds w W ds) (hi : ds[i]? = some (g, D)) : Calls Try.prog 41 #[.pointer (some ⟨g, 0, none⟩)] W fun e W' => e = .returned (.int .i64 D.starts) ∧ W = W' := by
  obtain ⟨L, hg, hD, _⟩ := h.get hi
  exact hg ▸ starts_any W L D hD
theorem Holds.ok (h : Holds w W ds) (hi : ds[i]? = some (g, D)) : D.OK := by
  obtain ⟨L, hg, hD, _⟩ := h.get hi
  exact hD.ok
/-- The states, in a list of its own. -/
theorem Holds.states (h : Holds w W ds) (hi : ds[i]? = some (g, D)) : Calls Try.prog 17 #[.pointer (some ⟨g, 0, none⟩)] W fun e W' => ∃ g' c, e = .returned (.slice (some ⟨g', 0, none⟩) D.now.length c) ∧ ReadsV W' (.slice (some ⟨g', 0, none⟩) D.now.length c) ((stList D).map intV) ∧ Below W.heap.size W W' := by
  obtain ⟨L, hg, hD, _⟩ := h.get hi
  refine (hg ▸ states_any W L D hD).mono ?_
  rintro e W' ⟨v, rfl, ho, hb⟩
  have h4 := hD.ok.pos
  have hm := hD.ok.max
  rcases ho.2 with ⟨_, h0⟩ | ⟨g', c, cur, rfl, _⟩
  · omega
  · exact ⟨g', c, rfl, ReadsV.own ho (by omega), hb⟩
theorem Holds.all (h : Holds w W ds) (hi : ds[i]? = some (g, D)) : Calls Try.prog 18 #[.pointer (some ⟨g, 0, none⟩)] W fun e W' => ∃ g' c, e = .returned (.slice (some ⟨g', 0, none⟩) D.now.length c) ∧ ReadsV W' (.slice (some ⟨g', 0, none⟩) D.now.length c) ((txList D).map strV) ∧ Below W.heap.size W W' := by
  obtain ⟨L, hg, hD, _⟩ := h.get hi
  refine (hg ▸ all_any W L D hD).mono ?_
  rintro e W' ⟨v, rfl, ho, hb⟩
  have h4 := hD.ok.pos
  have hm := hD.ok.max
  rcases ho.2 with ⟨_, h0⟩ | ⟨g', c, cur, rfl, _⟩
  · omega
  · exact ⟨g', c, rfl, ReadsV.own ho (by omega), hb⟩
theorem Holds.clone_ (h : Holds w W ds) (hi : ds[i]? = some (g, D)) : Calls Try.prog 39 #[.pointer (some ⟨g, 0, none⟩)] W fun e W' => ∃ g', e = .returned (.pointer (some ⟨g', 0, none⟩)) ∧ Holds w W' (ds ++ [(g', D.clone)]) := by
  obtain ⟨L, hg, hD, _⟩ := h.get hi
  refine (hg ▸ clone_any W L D hD).mono ?_
  rintro e W' ⟨M, rfl, hM, hf⟩
  exact ⟨M.g, rfl, h.new_ hM hf.1 hf.2⟩
end
theorem Holds.after_ {w W : World} {ds : List (Nat × Dev)} (h : Holds w W ds) (n : Nat) (hn : n < 256) (v : Value) (l : List PDo) (hl : l.length ≤ 60) (hd : DosAt W w.heap.size v l) (hxs : ∀ x ∈ l, x.OK) :
    Calls Try.prog 15 #[.int .u8 n, v] W fun e W' => ∃ g, e = .returned (.pointer (some ⟨g, 0, none⟩)) ∧ Holds w W' (ds ++ [(g, afterF n l)]) := by
  have hd' : DosAt W W.heap.size v l := by
    obtain ⟨A, c, rfl, hlc, hok, hc⟩ := hd
    refine ⟨A, c, rfl, hlc, hok, fun k hk => ?_⟩
    obtain ⟨b, off, kv, ha, hlt, h0, h1, h2, h3, h4, KA, kc, he, hks⟩ := hc k hk
    have := h.below.size
    refine ⟨b, off, kv, ha, by omega, h0, h1, h2, h3, h4, KA, kc, he, fun j hj => ?_⟩
    obtain ⟨ad, ha, hlt, hcell⟩ := hks j hj
    exact ⟨ad, ha, by omega, hcell⟩
  refine (after_any W n hn v l hl hd' hxs).mono ?_
  rintro e W' ⟨M, rfl, hM, hf⟩
  exact ⟨M.g, rfl, h.new_ hM hf.below hf.foot⟩
theorem Holds.newDev {w W : World} {ds : List (Nat × Dev)} (h : Holds w W ds) (n : Nat) (h4 : 4 ≤ n) (hm : n ≤ 512) :
    Calls Try.prog 35 #[.int .i64 n] W fun e W' => ∃ g, e = .returned (.tuple #[.pointer (some ⟨g, 0, none⟩), .int .i64 0]) ∧ Holds w W' (ds ++ [(g, Dev.new n)]) := by
  refine (new_any W n h4 hm).mono ?_
  rintro e W' ⟨M, rfl, hM, hf⟩
  exact ⟨M.g, rfl, h.new_ hM hf.1 hf.2⟩
/-- A list of ints of one's own, to be kept by a crash. -/
theorem reads_blk {w W : World} {b c : Nat} {ks : List Int} (hb : Blk W b 3 (ks.map intV)) : ∀ gs, w.heap.size ≤ gs → (∃ cs, Blk W gs 88 cs) → ReadsI W gs (.slice (some ⟨b, 0, none⟩) ks.length c) ks := by
  rintro gs _ ⟨cs, hs⟩
  refine ⟨_, c, rfl, fun k hk => ⟨_, rfl, hb.ne_ hs (by decide), ?_⟩⟩
  rw [addr_add0, hb.cell, List.getElem?_map, List.getElem?_eq_getElem hk]
  simp [intV, ksAt, hk]
theorem reads_nil {w W : World} : ∀ gs, w.heap.size ≤ gs → (∃ cs, Blk W gs 88 cs) → ReadsI W gs (.slice none 0 0) [] := fun gs _ _ => ⟨none, 0, rfl, fun k hk => by simp at hk⟩
end Go.Proofs.Ytfmhfgkmoeimeaa
