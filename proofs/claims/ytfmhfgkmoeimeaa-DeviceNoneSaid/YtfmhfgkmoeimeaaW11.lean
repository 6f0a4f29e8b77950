/- Walks: slices.IndexFunc and DeleteFunc of acts; Tamper. -/
import Derived.Test.YtfmhfgkmoeimeaaW10
namespace Go.Proofs.Ytfmhfgkmoeimeaa
open Go.RowKit

/-- Where the first act of block i stands, from number k on; -1: nowhere. -/
def idxFrom (i : Int) : List PAct → Nat → Int
  | [], _ => -1
  | x :: r, k => if (x.of : Int) = i then k else idxFrom i r (k + 1)

theorem indexFunc_any (w : World) (va : Value) (l : List PAct) (b : Nat) (i : Int) (ho : w.ownsRow 0 86 1 va l.length (l.map actV)) (hc : w.cell? ⟨b, 0, none⟩ = some (.int .i64 i)) (hl : l.length ≤ 1000000) :
    Calls Try.prog 68 #[va, .func (.func 52) #[] #[.pointer (some ⟨b, 0, none⟩)]] w fun e w' => e = .returned (.int .i64 (idxFrom i l 0)) ∧ Below w.heap.size w w' := by
  obtain ⟨A, c, rfl⟩ : ∃ A c, va = .slice A l.length c := by
    rcases ho.2 with ⟨hv, hn⟩ | ⟨g, cap, cur, hv, _⟩
    · exact ⟨none, 0, by rw [hv, hn]⟩
    · exact ⟨_, _, hv⟩
  have HO := Lib.hid ho
  have HC := Lib.hid hc
  clear ho hc
  go_enter Try.func68, Try.ntmps68
  go_wp2_with fail
  go_loopw [8] (fun t wr => ∃ k : Nat, k ≤ l.length ∧ t = .int .i64 k ∧ Below w.heap.size w wr ∧ Hid (idxFrom i l 0 = idxFrom i (l.drop k) k)) (fun t _ => l.length - (intOf t).toNat)
  case atStart => exact ⟨0, by omega, rfl, Below.refl _ _, rfl⟩
  case round =>
    obtain ⟨k, hk, rfl, hb, hid⟩ := hrel
    by_cases hlt : k < l.length
    · have h1 := own_below HO.out hb
      obtain ⟨g, rfl⟩ : ∃ g, A = some ⟨g, 0, none⟩ := by
        rcases h1.2 with ⟨hv, hn⟩ | ⟨g, cap, cur, hv, _⟩
        · omega
        · injection hv with hv; exact ⟨g, hv⟩
      have hcell : wr.cell? ⟨g, k, none⟩ = some (actV l[k]) := by
        have := h1.cells (g := g) rfl k (actV l[k]) (by simp [hlt])
        rwa [addr_add0] at this
      obtain ⟨x, hx⟩ : ∃ x, l[k] = x := ⟨_, rfl⟩
      rw [hx] at hcell
      have hd : l.drop k = x :: l.drop (k + 1) := by rw [List.drop_eq_getElem_cons hlt, hx]
      have hci := cell_below hb HC.out
      have htm := tam1_any wr x b i hci
      have H2 := Lib.hid hb
      have H3 := Lib.hid hd
      clear hb hd hx h1 hci
      go_wp2_with fail
      refine htm.mono ?_
      rintro e w1 ⟨rfl, hb1⟩
      have HB := Lib.hid (H2.out.trans (hb1.mono H2.out.size))
      clear htm hb1
      by_cases hxi : (x.of : Int) = i
      · have hid' := hid.out
        rw [H3.out, idxFrom, if_pos hxi] at hid'
        have HI := Lib.hid hid'
        have hdx : decide ((x.of : Int) = i) = true := by simp [hxi]
        clear hid' hid
        simp only [hdx]
        clear hxi hdx
        go_wp2_with fail
        go_ret
        exact ⟨by rw [HI.out]; rfl, HB.out⟩
      · have hid' := hid.out
        rw [H3.out, idxFrom, if_neg hxi] at hid'
        have HI := Lib.hid hid'
        have hdx : decide ((x.of : Int) = i) = false := by simp [hxi]
        clear hid' hid
        simp only [hdx]
        clear hxi hdx
        go_wp2_with fail
        go_roundw
        case rel => exact ⟨k + 1, by omega, by go_num, HB.out, HI.out⟩
        case measure => simp [intOf]; omega
    · obtain rfl : k = l.length := by omega
      have hid' := hid.out
      rw [List.drop_length] at hid'
      have HI := Lib.hid hid'
      have HB := Lib.hid hb
      clear hid hid' hb
      go_wp2_with fail
      go_ret
      exact ⟨by rw [HI.out]; rfl, HB.out⟩

theorem idxFrom_spec (i : Int) (l : List PAct) : ∀ k : Nat, (idxFrom i l k = -1 ∧ ∀ x ∈ l, (x.of : Int) ≠ i) ∨ ∃ j, j < l.length ∧ idxFrom i l k = ((k + j : Nat) : Int) ∧ (∀ x ∈ l.take j, (x.of : Int) ≠ i) ∧ ∃ x, l[j]? = some x ∧ (x.of : Int) = i := by
  induction l with
  | nil => intro k; exact .inl ⟨rfl, by simp⟩
  | cons x r ih =>
    intro k
    by_cases hx : (x.of : Int) = i
    · exact .inr ⟨0, by simp, by simp [idxFrom, hx], by simp, x, by simp, hx⟩
    · rcases ih (k + 1) with ⟨h1, h2⟩ | ⟨j, h1, h2, h3, y, h4, h5⟩
      · refine .inl ⟨by simp [idxFrom, hx, h1], ?_⟩
        intro y hy
        rcases List.mem_cons.1 hy with rfl | hy
        · exact hx
        · exact h2 y hy
      · refine .inr ⟨j + 1, by simpa using h1, by simp only [idxFrom, if_neg hx, h2]; congr 1; omega, ?_, y, by simpa using h4, h5⟩
        intro z hz
        rw [List.take_succ_cons] at hz
        rcases List.mem_cons.1 hz with rfl | hz
        · exact hx
        · exact h3 z hz

theorem zero86 (w : World) : (zeroValue 86).run Try.prog w = .ok .nilIface w := by kernel_rfl

theorem run_clearA (w : World) (ty : TypeId) (g o n c : Nat) (xs ys zs : List Value) (hb : Blk w g 86 (xs ++ ys ++ zs)) (hx : xs.length = o) (hy : ys.length = n) (hn : 0 < n) :
    (Builtin.clear_ #[74] ty #[.slice (some ⟨g, o, none⟩) n c]).run Try.prog w = .ok (.tuple #[]) (w.setRow g (xs ++ List.replicate n Value.nilIface ++ zs).toArray) := by
  have hzc : (Builtin.zeroCells (Value.nilIface).cells n).toList = List.replicate n .nilIface := by
    show (Builtin.zeroCells #[Value.nilIface] n).toList = _
    simp [Builtin.zeroCells]
    apply List.ext_getElem
    · simp
    · intro i h1 h2
      simp [Nat.mod_one]
  have hst := run_storeCells_at Try.prog g o 86 (List.replicate n .nilIface) 0 (xs ++ ys ++ zs).toArray w hb (by simp; omega) (by intro v hv; rw [List.eq_of_mem_replicate hv]; rfl)
  have e1 : (xs ++ ys ++ zs).take o = xs := by rw [List.append_assoc, List.take_append_of_le_length (by omega), List.take_of_length_le (by omega)]
  have e2 : (xs ++ ys ++ zs).drop (o + n) = zs := by rw [List.drop_append_of_le_length (by simp; omega), List.drop_of_length_le (by simp; omega), List.nil_append]
  simp only [Nat.add_zero, List.length_replicate, e1, e2] at hst
  obtain ⟨m, rfl⟩ : ∃ m, n = m + 1 := ⟨n - 1, by omega⟩
  simp [Builtin.clear_, run_underlying Try.underlying74, hzc, hst]

def keepB (i : Int) (x : PAct) : Bool := decide ((x.of : Int) ≠ i)

/-- What DeleteFunc's loop keeps: the first j acts gone through. -/
structure DelRel (w : World) (g c : Nat) (i : Int) (l : List PAct) (j : Nat) (p : Nat) (wr : World) : Prop where
  os : wr.os = w.os
  tape : wr.tape = w.tape
  output : wr.output = w.output
  size : w.heap.size ≤ wr.heap.size
  block : ∀ b, b < w.heap.size → b ≠ g → wr.heap[b]? = w.heap[b]?
  pos : p = ((l.take j).filter (keepB i)).length
  lt : p < j
  row : ∃ junk sp, Blk wr g 86 (((l.take j).filter (keepB i)).map actV ++ junk ++ ((l.drop j).map actV ++ sp)) ∧ p + junk.length = j ∧ l.length + sp.length = c

theorem DelRel.start {w : World} {g c : Nat} {i : Int} {l : List PAct} {j : Nat} {x : PAct} {w1 : World} (ho : w.ownsRow 0 86 1 (.slice (some ⟨g, 0, none⟩) l.length c) l.length (l.map actV)) (hb : Below w.heap.size w w1)
    (hj : j < l.length) (hp : ∀ x ∈ l.take j, (x.of : Int) ≠ i) (hx : l[j]? = some x) (he : (x.of : Int) = i) : DelRel w g c i l (j + 1) j w1 := by
  obtain ⟨sp, hblk, hnc, hcm, hlen, _⟩ := own_blk ho
  have hf : (l.take j).filter (keepB i) = l.take j := List.filter_eq_self.2 fun y hy => by simp [keepB, hp y hy]
  have hxj : l[j] = x := by rw [List.getElem?_eq_getElem hj] at hx; injection hx
  have hf2 : (l.take (j + 1)).filter (keepB i) = l.take j := by
    rw [List.take_succ_eq_append_getElem hj, List.filter_append, hf, hxj]
    simp [keepB, he]
  refine ⟨hb.os, hb.tape, hb.output, hb.size, fun b h _ => hb.block b h, ?_, by omega, [actV x], sp, ?_, by simp, by simpa using hlen⟩
  · rw [hf2, List.length_take]; omega
  · rw [hf2]
    refine (hblk.same (hb.block _ hblk.lt)) |> fun h => ?_
    have e : l.map actV = (l.take j).map actV ++ [actV x] ++ (l.drop (j + 1)).map actV := by
      conv => lhs; rw [← List.take_append_drop j l, List.drop_eq_getElem_cons hj, hxj]
      simp
    rw [e] at h
    simpa using h

theorem DelRel.skip {w wr w1 : World} {g c : Nat} {i : Int} {l : List PAct} {j p : Nat} (h : DelRel w g c i l j p wr) (hb : Bel wr w1) (_hg : g < w.heap.size) (hj : j < l.length) (he : ((l[j]).of : Int) = i) : DelRel w g c i l (j + 1) p w1 := by
  obtain ⟨junk, sp, hblk, hp, hl⟩ := h.row
  have hf2 : (l.take (j + 1)).filter (keepB i) = (l.take j).filter (keepB i) := by
    rw [List.take_succ_eq_append_getElem hj, List.filter_append]
    simp [keepB, he]
  refine ⟨hb.out.os.trans h.os, hb.out.tape.trans h.tape, hb.out.output.trans h.output, Nat.le_trans h.size hb.out.size, fun b hlt hne => ?_, by rw [hf2]; exact h.pos, by have := h.lt; omega, junk ++ [actV l[j]], sp, ?_, by simp; omega, hl⟩
  · rw [hb.out.block b (by have := h.size; omega), h.block b hlt hne]
  · rw [hf2]
    have h2 := hb.blk hblk
    rw [List.drop_eq_getElem_cons hj] at h2
    simp only [List.map_cons, List.append_assoc, List.cons_append, List.nil_append] at h2 ⊢
    exact h2

theorem DelRel.keep {w wr w1 : World} {g c : Nat} {i : Int} {l : List PAct} {j p : Nat} (h : DelRel w g c i l j p wr) (hb : Bel wr w1) (hj : j < l.length) (he : ((l[j]).of : Int) ≠ i) :
    DelRel w g c i l (j + 1) (p + 1) (w1.setCell ⟨g, p, none⟩ (actV l[j])) := by
  obtain ⟨junk, sp, hblk, hp, hl⟩ := h.row
  have hf2 : (l.take (j + 1)).filter (keepB i) = (l.take j).filter (keepB i) ++ [l[j]] := by
    rw [List.take_succ_eq_append_getElem hj, List.filter_append]
    simp [keepB, he]
  obtain ⟨y, junk', rfl⟩ : ∃ y t, junk = y :: t := by
    rcases junk with _ | ⟨y, t⟩
    · have := h.lt; simp at hp; omega
    · exact ⟨y, t, rfl⟩
  refine ⟨hb.out.os.trans h.os, hb.out.tape.trans h.tape, hb.out.output.trans h.output, by have := h.size; have := hb.out.size; simp [World.setCell]; omega, fun b hlt hne => ?_, by rw [hf2, List.length_append, ← h.pos]; rfl, by have := h.lt; omega, junk' ++ [actV l[j]], sp, ?_, by simp at hp ⊢; omega, hl⟩
  · rw [Below.heap_setCell _ _ _ _ hne, hb.out.block b (by have := h.size; omega), h.block b hlt hne]
  · rw [hf2]
    have h2 := (hb.blk hblk).set_ p (actV l[j])
    rw [List.drop_eq_getElem_cons hj, List.append_assoc, List.set_append_right _ _ (by rw [List.length_map, ← h.pos]; exact Nat.le_refl _), List.length_map, ← h.pos, Nat.sub_self] at h2
    simp only [List.map_append, List.map_cons, List.map_nil, List.append_assoc, List.cons_append, List.nil_append, List.set_cons_zero] at h2 ⊢
    exact h2

theorem DelRel.cell {w wr : World} {g c : Nat} {i : Int} {l : List PAct} {j p : Nat} (h : DelRel w g c i l j p wr) (hj : j < l.length) : wr.cell? ⟨g, j, none⟩ = some (actV l[j]) := by
  obtain ⟨junk, sp, hblk, hp, hl⟩ := h.row
  have e : (((l.take j).filter (keepB i)).map actV ++ junk).length = j := by rw [List.length_append, List.length_map, ← h.pos]; exact hp
  rw [hblk.cell, List.getElem?_append_right (by omega), e, Nat.sub_self, List.drop_eq_getElem_cons hj]
  rfl

theorem DelRel.there {w wr w1 : World} {g c : Nat} {i : Int} {l : List PAct} {j p : Nat} (h : DelRel w g c i l j p wr) (hb : Bel wr w1) : (∃ u, w1.cell? ⟨g, p, none⟩ = some u) ∧ w1.frozen? ⟨g, p, none⟩ = false := by
  obtain ⟨junk, sp, hblk, hp, hl⟩ := h.row
  have h2 := hb.blk hblk
  refine ⟨?_, h2.frozen p⟩
  rw [h2.cell]
  have hlt : p < (((l.take j).filter (keepB i)).map actV ++ junk ++ ((l.drop j).map actV ++ sp)).length := by
    rw [List.length_append, List.length_append, List.length_map, ← h.pos]; have := h.lt; omega
  exact ⟨_, List.getElem?_eq_getElem hlt⟩


/-- DeleteFunc's end: the list is cut; nothing else has turned. -/
def DelPost (w : World) (va : Value) (i : Int) (l : List PAct) (e : Ending) (w' : World) : Prop :=
  ∃ v, e = .returned v ∧ w'.ownsRow 0 86 1 v (l.filter (keepB i)).length ((l.filter (keepB i)).map actV) ∧ v.ownBlock = va.ownBlock ∧ w'.os = w.os ∧ w'.tape = w.tape ∧ w'.output = w.output ∧ w.heap.size ≤ w'.heap.size ∧
    ∀ b, b < w.heap.size → va.ownBlock ≠ some b → w'.heap[b]? = w.heap[b]?

theorem del_any (w : World) (va : Value) (l : List PAct) (b : Nat) (i : Int) (ho : w.ownsRow 0 86 1 va l.length (l.map actV)) (hc : w.cell? ⟨b, 0, none⟩ = some (.int .i64 i)) (hne : va.ownBlock ≠ some b) (hl : l.length ≤ 1000000) :
    Calls Try.prog 51 #[va, .func (.func 52) #[] #[.pointer (some ⟨b, 0, none⟩)]] w (DelPost w va i l) := by
  have hix := indexFunc_any w va l b i ho hc hl
  have hsp := idxFrom_spec i l 0
  generalize hn : idxFrom i l 0 = n at hix hsp
  rcases hsp with ⟨rfl, hall⟩ | ⟨j, hj, hnj, hbef, x, hx, he⟩
  · obtain ⟨A, c, rfl⟩ : ∃ A c, va = .slice A l.length c := by
      rcases ho.2 with ⟨hv, hn⟩ | ⟨g, cap, cur, hv, _⟩
      · exact ⟨none, 0, by rw [hv, hn]⟩
      · exact ⟨_, _, hv⟩
    have HO := Lib.hid ho
    have HA := Lib.hid hall
    clear ho hc hall hn hne
    go_enter Try.func51, Try.ntmps51
    go_wp2_with (go_at_call 68; refine hix.mono ?_; rintro e w1 ⟨rfl, hb1⟩)
    go_ret
    have hf : l.filter (keepB i) = l := List.filter_eq_self.2 fun y hy => by simp [keepB, HA.out y hy]
    exact ⟨_, rfl, by rw [hf]; exact own_below HO.out hb1, rfl, hb1.os, hb1.tape, hb1.output, hb1.size, fun b hb _ => hb1.block b hb⟩
  · rw [Nat.zero_add] at hnj
    subst hnj
    obtain ⟨g, c, rfl⟩ : ∃ g c, va = .slice (some ⟨g, 0, none⟩) l.length c := by
      rcases ho.2 with ⟨hv, hn⟩ | ⟨g, cap, cur, hv, _⟩
      · omega
      · exact ⟨_, _, hv⟩
    have hgb : g ≠ b := fun e => hne (by rw [e]; rfl)
    have hg : g < w.heap.size := own_lt ho rfl
    obtain ⟨sp0, hblk0, hnc, hcm, hlen0, _⟩ := own_blk ho
    have HO := Lib.hid ho
    have HC := Lib.hid hc
    have hm1 : ((j : Int) == -1) = false := by rw [beq_eq_false_iff_ne]; omega
    have HB := Lib.hid hbef
    have HX := Lib.hid hx
    have HE := Lib.hid he
    have HL := Lib.hid hlen0
    clear ho hc hn hne hblk0 hbef hx he hlen0
    go_enter Try.func51, Try.ntmps51
    go_wp2_with (go_at_call 68; refine hix.mono ?_; rintro e w1 ⟨rfl, hb1⟩)
    have R0 := DelRel.start HO.out hb1 hj HB.out HX.out HE.out
    clear hix hb1
    go_loopw [5, 6] (fun s t wr => ∃ p k : Nat, k ≤ l.length ∧ s = .int .i64 p ∧ t = .int .i64 k ∧ DelRel w g c i l k p wr) (fun _ t _ => l.length - (intOf t).toNat)
    case atStart => exact ⟨j, j + 1, by omega, rfl, by go_num, R0⟩
    case round =>
      obtain ⟨p, k, hk, rfl, rfl, hr⟩ := hrel
      clear R0
      by_cases hlt : k < l.length
      · have hcell := hr.cell hlt
        have hpk := hr.lt
        have hcb : wr.cell? ⟨b, 0, none⟩ = some (.int .i64 i) := (World.cell?_of_block (w := w) (hr.block b (World.block_lt_of_cell? w _ HC.out) (Ne.symm hgb))).trans HC.out
        obtain ⟨y, hy⟩ : ∃ y, l[k] = y := ⟨_, rfl⟩
        rw [hy] at hcell
        have htm := tam1_any wr y b i hcb
        have HR := Lib.hid hr
        have HY := Lib.hid hy
        clear hr hy hcb
        go_wp2_with fail
        refine htm.mono ?_
        rintro e w2 ⟨rfl, hb2⟩
        have B2 := Lib.hid ((Bel.refl wr).then hb2)
        clear htm hb2
        by_cases hyi : (y.of : Int) = i
        · have hdx : decide ((y.of : Int) = i) = true := by simp [hyi]
          simp only [hdx]
          have HI := Lib.hid hyi
          clear hyi hdx
          go_wp2_with fail
          go_roundw
          case rel => exact ⟨p, k + 1, by omega, rfl, by go_num, HR.out.skip B2.out hg hlt (by rw [HY.out]; exact HI.out)⟩
          case measure => simp [intOf]; omega
        · have hdx : decide ((y.of : Int) = i) = false := by simp [hyi]
          simp only [hdx]
          have HI := Lib.hid hyi
          obtain ⟨⟨u, hu⟩, hfu⟩ := HR.out.there B2.out
          obtain ⟨T, v, hav⟩ : ∃ T v, actV y = .iface T v := by cases y <;> exact ⟨_, _, rfl⟩
          simp only [hav]
          have HAV := Lib.hid hav
          clear hyi hdx hav hcell
          go_wp2_with fail
          go_roundw
          case rel =>
            refine ⟨p + 1, k + 1, by omega, by go_num, by go_num, ?_⟩
            have h3 := HR.out.keep B2.out hlt (by rw [HY.out]; exact HI.out)
            rw [HY.out, HAV.out] at h3
            exact h3
          case measure => simp [intOf]; omega
      · obtain rfl : k = l.length := by omega
        have hpl := hr.lt
        obtain ⟨junk, sp, hblk, hjl, hspl⟩ := hr.row
        have hpos := hr.pos
        rw [List.take_length] at hblk hpos
        rw [List.drop_length, List.map_nil, List.nil_append] at hblk
        have hcl := run_clearA wr 0 g p (l.length - p) (c - p) _ junk sp hblk (by rw [List.length_map, ← hpos]) (by omega) (by omega)
        have HR := Lib.hid hr
        have HP := Lib.hid hpos
        have HBK := Lib.hid hblk
        clear hr hblk hpos
        go_wp2_with fail
        go_ret
        have hblk2 : Blk (wr.setRow g ((l.filter (keepB i)).map actV ++ (List.replicate (l.length - p) Value.nilIface ++ sp)).toArray) g 86 ((l.filter (keepB i)).map actV ++ (List.replicate (l.length - p) Value.nilIface ++ sp)) := setRow_heap _ _ _ _ 86 (0, 0) HBK.out
        have hp2 := HP.out
        refine ⟨_, rfl, ?_, rfl, HR.out.os, HR.out.tape, HR.out.output, ?_, fun b' hb' hne' => ?_⟩
        · rw [← hp2]
          exact own_of_blk hblk2 (by omega) hcm (by simp; omega) (by simp; omega)
        · simpa [World.setRow] using HR.out.size
        · have hg' : b' ≠ g := fun e => hne' (by rw [e]; rfl)
          rw [setRow_other _ _ _ _ hg', HR.out.block b' hb' hg']
end Go.Proofs.Ytfmhfgkmoeimeaa
