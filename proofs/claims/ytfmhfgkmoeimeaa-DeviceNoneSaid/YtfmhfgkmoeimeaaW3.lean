/- Walks: slices.Clone, of, Clone, New. -/
import Derived.Test.YtfmhfgkmoeimeaaW2
namespace Go.Proofs.Ytfmhfgkmoeimeaa
open Go.RowKit

theorem info3 : (Try.prog.info? 3).map (fun i => (i.zero, i.size, i.bytes)) = some (some (.int .i64 0), 1, 8) := by kernel_rfl
theorem info88 : (Try.prog.info? 88).map (fun i => (i.zero, i.size, i.bytes)) = some (some (.agg #[.int .i64 0, .string ByteArray.empty]), 2, 24) := by kernel_rfl
theorem info86 : (Try.prog.info? 86).map (fun i => (i.zero, i.size, i.bytes)) = some (some .nilIface, 1, 16) := by kernel_rfl
theorem info9 : (Try.prog.info? 9).map (fun i => (i.zero, i.size, i.bytes)) = some (some (.string ByteArray.empty), 1, 16) := by kernel_rfl
theorem info4 : (Try.prog.info? 4).map (fun i => (i.zero, i.size, i.bytes)) = some (some (.bool false), 1, 1) := by kernel_rfl
theorem info5 : (Try.prog.info? 5).map (fun i => (i.zero, i.size, i.bytes)) = some (some (.int .u8 0), 1, 1) := by kernel_rfl

/-- The append law, its element type's row given by one fact. -/
theorem wpList_app {P : Program} {w : World} {ops : Array Oper} {rest : List Oper} {o : Oper} {a : Act} {Q : Exit → Act → World → Prop} (hgd : o.guard = none) (s x : Operand) (t e : TypeId) (z : Value) (size bytes : Nat)
    (ho : o.op = .call { callee := .builtin .append, args := #[s, x], argTypes := #[t, t] })
    (ht : P.underlying t = some (.slice e)) (hinfo : (P.info? e).map (fun i => (i.zero, i.size, i.bytes)) = some (some z, size, bytes)) (hzs : z.cells.size = size) (hsz : 0 < size)
    (base : Nat) (v : Value) (n : Nat) (xs : List Value) (hs : a.eval s = v) (hown : w.ownsRow base e size v n xs)
    (ad : Addr) (m c : Nat) (news : List Value) (hx : a.eval x = .slice (some ad) m c) (hl : news.length = m * size) (hnews : ∀ j u, news[j]? = some u → w.cell? (ad.add j) = some u) (h1 : ∀ u ∈ news, u.oneCell' = true)
    (h63 : n + m ≤ maxLen) (hbytes : (n + m) * bytes ≤ 140737488355328) (hbase : base ≤ w.heap.size)
    (h : ∀ v' w', w'.ownsRow base e size v' (n + m) (xs ++ news) → w.grownBy w' v.ownBlock → (v'.ownBlock = v.ownBlock ∨ v'.ownBlock = some w.heap.size) → wpList P ops Q rest (a.put o.dst v') w') :
    wpList P ops Q (o :: rest) a w := by
  obtain ⟨i0, hi0, hz0, hz1, hz2⟩ := info_parts hinfo
  exact wpList_append_own_at w hgd s x t ho base e i0 z size bytes ht hi0 hz0 hz1 hz2 hzs hsz v n xs hs hown ad m c news hx hl hnews h1 h63 hbytes hbase fun v' w' h2 h3 _ h5 => h v' w' h2 h3 h5

theorem own_empty (w : World) (t : TypeId) (size : Nat) : (w.alloc (.cells #[] t)).ownsRow w.heap.size t size (.slice (some ⟨w.heap.size, 0, none⟩) 0 0) 0 [] :=
  World.ownsRow_made w #[] 0 (Nat.le_refl _) (Nat.zero_le _) (by simp)

theorem cell_alloc_old {w : World} {p : Addr} {u : Value} (o : Obj) (h : w.cell? p = some u) : (w.alloc o).cell? p = some u :=
  (World.cell?_alloc_lt w o p (World.block_lt_of_cell? w p h)).trans h

theorem pbCells_one {l : List PB} : ∀ u ∈ pbCells l, u.oneCell' = true := by
  induction l with
  | nil => intro u h; cases h
  | cons b r ih =>
    intro u h
    simp only [pbCells, List.mem_cons] at h
    rcases h with rfl | rfl | h
    · rfl
    · rfl
    · exact ih u h

/-- slices.Clone of blocks: a row of its own, of the same cells. -/
theorem cloneB_any (w : World) (ad : Addr) (n c : Nat) (l : List PB) (hl : l.length = n) (hn : n ≤ 512) (hc : ∀ j u, (pbCells l)[j]? = some u → w.cell? (ad.add j) = some u) :
    Calls Try.prog 69 #[.slice (some ad) n c] w fun e w' => ∃ v, e = .returned v ∧ w'.ownsRow w.heap.size 88 2 v n (pbCells l) ∧ Below w.heap.size w w' ∧ (∃ b, v.ownBlock = some b) := by
  have hnil := fun (a : Option Addr) (n c : Nat) (w : World) => Lib.run_eql_slice_nil (P := Try.prog) w 73 88 a n c 0 0 Try.underlying73
  have hlen : (pbCells l).length = n * 2 := by rw [pbCells_length, hl]; omega
  have H1 : Hid ((pbCells l).length = n * 2) := hlen
  have H2 : Hid (∀ j u, (pbCells l)[j]? = some u → w.cell? (ad.add j) = some u) := hc
  clear hlen hc hl
  go_enter Try.func69, Try.ntmps69
  go_wp2_with (at_builtin; refine wpList_app rfl (.tmp 5) (.tmp 6) 73 88 _ 2 24 rfl Try.underlying73 info88 rfl (by decide) w.heap.size (.slice (some ⟨w.heap.size, 0, none⟩) 0 0) 0 [] rfl (own_empty w 88 2) ad n c (pbCells l) rfl H1.out (fun j u hu => cell_alloc_old _ (H2.out j u hu)) pbCells_one (by unfold maxLen; omega) (by omega) (by simp) ?_; intro v1 w1 hown hgr hat)
  go_ret
  refine ⟨_, rfl, by simpa using hown, ((Below.refl _ w).alloc (Nat.le_refl _) _).grown hgr (by simp) (fun k hk => ?_), ?_⟩
  · simp [Value.ownBlock] at hk; omega
  · rcases hat with h | h
    · exact ⟨_, h⟩
    · exact ⟨_, h⟩

/-- slices.Clone of ints. -/
theorem cloneI_any (w : World) (g : Nat) (v : Value) (ks : List Int) (hn : ks.length ≤ 1000000) (h : ReadsI w g v ks) :
    Calls Try.prog 50 #[v] w fun e w' => ∃ v', e = .returned v' ∧ w'.ownsRow w.heap.size 3 1 v' ks.length (ks.map intV) ∧ Below w.heap.size w w' := by
  obtain ⟨A, c, rfl, hc⟩ := h
  have hnil := fun (a : Option Addr) (n c : Nat) (w : World) => Lib.run_eql_slice_nil (P := Try.prog) w 24 3 a n c 0 0 Try.underlying24
  have H2 : Hid (∀ k, k < ks.length → ∃ ad, A = some ad ∧ ad.block ≠ g ∧ w.cell? (ad.add k) = some (.int .i64 (ksAt ks k))) := hc
  clear hc
  rcases A with _ | ad
  · have h0 : ks = [] := by
      rcases ks with _ | ⟨k, r⟩
      · rfl
      · obtain ⟨ad, h, _⟩ := H2.out 0 (by simp)
        cases h
    subst h0
    go_enter Try.func50, Try.ntmps50
    go_wp2
    go_ret
    exact ⟨_, rfl, World.ownsRow_nil _ _ _ _, Below.refl _ _⟩
  · have H3 : Hid (∀ j u, (ks.map intV)[j]? = some u → w.cell? (ad.add j) = some u) := by
      intro j u hu
      rw [List.getElem?_map] at hu
      cases hk : ks[j]? with
      | none => rw [hk] at hu; simp at hu
      | some k =>
        rw [hk] at hu
        simp at hu
        subst hu
        have hj : j < ks.length := (List.getElem?_eq_some_iff.1 hk).1
        obtain ⟨ad', e, _, hcell⟩ := H2.out j hj
        injection e with e
        subst e
        rw [hcell]
        have : ksAt ks j = k := by unfold ksAt; rw [List.getD_eq_getElem?_getD, hk]; rfl
        rw [this]; rfl
    clear H2
    go_enter Try.func50, Try.ntmps50
    go_wp2_with (at_builtin; refine wpList_app rfl (.tmp 5) (.tmp 6) 24 3 _ 1 8 rfl Try.underlying24 info3 rfl (by decide) w.heap.size (.slice (some ⟨w.heap.size, 0, none⟩) 0 0) 0 [] rfl (own_empty w 3 1) ad ks.length c (ks.map intV) rfl (by simp) (fun j u hu => cell_alloc_old _ (H3.out j u hu)) (fun u hu => by obtain ⟨k, _, rfl⟩ := List.mem_map.1 hu; rfl) (by unfold maxLen; omega) (by omega) (by simp) ?_; intro v1 w1 hown hgr hat)
    go_ret
    refine ⟨_, rfl, by simpa using hown, ((Below.refl _ w).alloc (Nat.le_refl _) _).grown hgr (by simp) (fun k hk => ?_)⟩
    simp [Value.ownBlock] at hk; omega

theorem cell_below {w w1 : World} {p : Addr} {u : Value} (hb : Below w.heap.size w w1) (h : w.cell? p = some u) : w1.cell? p = some u :=
  (hb.cell (World.block_lt_of_cell? w p h)).trans h

theorem own_form {w : World} {base : Nat} {e : TypeId} {size n : Nat} {v : Value} {xs : List Value} (h : w.ownsRow base e size v n xs) (hb : ∃ b, v.ownBlock = some b) :
    ∃ g c, v = .slice (some ⟨g, 0, none⟩) n c ∧ base ≤ g ∧ g < w.heap.size := by
  obtain ⟨b, hb⟩ := hb
  rcases h.2 with ⟨rfl, _⟩ | ⟨g, cap, cur, rfl, hg, hh, _⟩
  · simp [Value.ownBlock] at hb
  · exact ⟨g, cap, rfl, hg, (Array.getElem?_eq_some_iff.1 hh).1⟩

theorem own_low {w : World} {base base' : Nat} {e : TypeId} {size n : Nat} {v : Value} {xs : List Value} (h : w.ownsRow base e size v n xs) (hb : base' ≤ base) : w.ownsRow base' e size v n xs := by
  refine ⟨h.1, ?_⟩
  rcases h.2 with hn | ⟨g, cap, cur, rfl, hg, rest⟩
  · exact .inl hn
  · exact .inr ⟨g, cap, cur, rfl, by omega, rest⟩

theorem own_below {w w1 : World} {base : Nat} {e : TypeId} {size n : Nat} {v : Value} {xs : List Value} (h : w.ownsRow base e size v n xs) (hb : Below w.heap.size w w1) : w1.ownsRow base e size v n xs :=
  own_same h fun b e => hb.block b (own_lt h e)

theorem heap_below {w w1 : World} (hb : Below w.heap.size w w1) : w.heap.size ≤ w1.heap.size := hb.size

/-- A new device: nothing of what was there has turned; it lies in blocks of its own. -/
def Fresh (w : World) (L : Lay) (w' : World) : Prop := Below w.heap.size w w' ∧ ∀ b, L.foot b → w.heap.size ≤ b

theorem Dev.of_ok (l : List PB) (h4 : 4 ≤ l.length) (hm : l.length ≤ 512) (hs : ∀ b ∈ l, 0 ≤ b.st ∧ b.st ≤ 2) :
    Dev.OK { sure := l, now := l, acts := [], off := false, starts := 0, left := -1, keep := [] } :=
  ⟨rfl, h4, hm, by simp, by simp, by simp, by simp, by simp, by simp, by simp, hs, hs, by simp⟩

theorem ofB_any (w : World) (ad : Addr) (n c : Nat) (l : List PB) (hl : l.length = n) (h4 : 4 ≤ n) (hn : n ≤ 512) (hs : ∀ b ∈ l, 0 ≤ b.st ∧ b.st ≤ 2) (hc : ∀ j u, (pbCells l)[j]? = some u → w.cell? (ad.add j) = some u) :
    Calls Try.prog 53 #[.slice (some ad) n c] w fun e w' => ∃ L, e = .returned (.pointer (some ⟨L.g, 0, none⟩)) ∧ DevAt w' L { sure := l, now := l, acts := [], off := false, starts := 0, left := -1, keep := [] } ∧ Fresh w L w' := by
  have HS : Hid (∀ b ∈ l, 0 ≤ b.st ∧ b.st ≤ 2) := hs
  have HL : Hid (l.length = n) := hl
  have HC : Hid (∀ j u, (pbCells l)[j]? = some u → w.cell? (ad.add j) = some u) := hc
  clear hs hl hc
  go_enter Try.func53, Try.ntmps53
  go_wp2_with fail
  refine (cloneB_any w ad n c l HL.out hn HC.out).mono ?_
  rintro e w1 ⟨v1, rfl, o1, b1, e1⟩
  obtain ⟨g1, c1, rfl, l1, u1⟩ := own_form o1 e1
  have HC1 : Hid (∀ j u, (pbCells l)[j]? = some u → w1.cell? (ad.add j) = some u) := fun j u hu => cell_below b1 (HC.out j u hu)
  go_wp2_with fail
  refine (cloneB_any w1 ad n c l HL.out hn HC1.out).mono ?_
  rintro e w2 ⟨v2, rfl, o2, b2, e2⟩
  obtain ⟨g2, c2, rfl, l2, u2⟩ := own_form o2 e2
  clear e1 e2
  go_wp2_with fail
  go_ret
  have z1 := b1.size
  have z2 := b2.size
  have hL : l.length = n := HL.out
  subst hL
  refine ⟨⟨w2.heap.size, g1, g2, c1, c2, .slice none 0 0, .slice none 0 0⟩, rfl, ⟨Dev.of_ok l h4 hn HS.out, ?_, ?_, ?_, ?_, ?_, ?_⟩, ?_, ?_⟩
  · exact Blk.new w2 81 _
  · exact (own_low (own_below o1 b2) (Nat.zero_le _)).alloc _
  · exact (own_low o2 (Nat.zero_le _)).alloc _
  · exact World.ownsRow_nil _ _ _ _
  · exact World.ownsRow_nil _ _ _ _
  · show g1 ≠ g2; omega
  · exact (b1.trans (b2.mono z1)).alloc (by omega) _
  · intro b hb
    rcases hb with h | h | h | h | h
    · show w.heap.size ≤ b; rw [h]; show _ ≤ w2.heap.size; omega
    · rw [h]; exact l1
    · rw [h]; show _ ≤ g2; omega
    · cases h
    · cases h

theorem addr_add0 (g j : Nat) : (⟨g, 0, none⟩ : Addr).add j = ⟨g, j, none⟩ := by unfold Addr.add; split <;> simp_all

theorem pbCells_at {w : World} {L : Lay} {D : Dev} (h : DevAt w L D) : ∀ j u, (pbCells D.sure)[j]? = some u → w.cell? ((⟨L.gs, 0, none⟩ : Addr).add j) = some u := by
  intro j u hu
  exact h.sure.cells (g := L.gs) rfl j u hu

theorem clone_any (w : World) (L : Lay) (D : Dev) (h : DevAt w L D) :
    Calls Try.prog 39 #[.pointer (some ⟨L.g, 0, none⟩)] w fun e w' => ∃ M, e = .returned (.pointer (some ⟨M.g, 0, none⟩)) ∧ DevAt w' M D.clone ∧ Fresh w M w' := by
  have hl := len_any w L D h
  have c0 := h.c0
  have h4 := h.ok.pos
  have hm := h.ok.max
  have hz : ((D.len : Int) == 0) = false := by rw [beq_eq_false_iff_ne]; unfold Dev.len; omega
  have ho := ofB_any w ⟨L.gs, 0, none⟩ D.now.length L.cs D.sure h.ok.len h4 hm h.ok.stS (pbCells_at h)
  clear h
  go_enter Try.func39, Try.ntmps39
  go_wp2_with (first | (go_at_call 33; refine hl.mono ?_; rintro e w' ⟨rfl, rfl⟩) | (go_at_call 53; refine ho.mono ?_; rintro e w' ⟨M, rfl, hM, hf⟩))
  go_ret
  exact ⟨M, rfl, hM, hf⟩

theorem pbCells_rep (n : Nat) : pbCells (List.replicate n (default : PB)) = (List.replicate n [Value.int .i64 0, Value.string ByteArray.empty]).flatten := by
  induction n with
  | zero => rfl
  | succ n ih => rw [List.replicate_succ, List.replicate_succ, pbCells, ih]; rfl

theorem new_bad (w : World) (n : Int) (h : n < 4 ∨ 512 < n) :
    Calls Try.prog 35 #[.int .i64 n] w fun e w' => e = .returned (.tuple #[.pointer none, .int .i64 2]) ∧ w = w' := by
  rcases h with h | h
  · go_enter Try.func35, Try.ntmps35
    go_wp2
    go_ret2
    exact ⟨rfl, rfl⟩
  · have h' : ¬ n < 4 := by omega
    go_enter Try.func35, Try.ntmps35
    go_wp2
    go_ret2
    exact ⟨rfl, rfl⟩

theorem run_mk (t e : TypeId) (z : Value) (size bytes : Nat) (ht : Try.prog.underlying t = some (.slice e)) (hinfo : (Try.prog.info? e).map (fun i => (i.zero, i.size, i.bytes)) = some (some z, size, bytes))
    (n : Nat) (hb : (bytes : Int) * n ≤ 281474976710656) (hn : (n : Int) ≤ 9223372036854775807) (w : World) :
    (Instr.makeSlice t (.int .i64 n) (.int .i64 n)).run Try.prog w = .ok (.slice (some ⟨w.heap.size, 0, none⟩) n n) (w.alloc (.cells (madeCells z.cells (n * size)) e)) := by
  obtain ⟨i0, hi0, hz0, hz1, hz2⟩ := info_parts hinfo
  have := run_make (P := Try.prog) w t e i0 z ht hi0 hz0 .i64 .i64 n n (by omega) (by omega) (by rw [hz2]; exact hb) hn
  rw [hz1] at this
  exact this

theorem made_pb (n : Nat) : madeCells (#[.int .i64 0, .string ByteArray.empty]) (n * 2) = (pbCells (List.replicate n (default : PB))).toArray := by
  apply Array.ext'
  apply List.ext_getElem?
  intro j
  simp only [madeCells, Array.toList_map, Array.toList_range, List.getElem?_map]
  by_cases hj : j < n * 2
  · rw [List.getElem?_range hj]
    obtain ⟨k, hk | hk⟩ : ∃ k, j = k * 2 ∨ j = k * 2 + 1 := ⟨j / 2, by omega⟩
    · subst hk
      rw [pbCells_st _ _ (by simp; omega)]
      have : pbAt (List.replicate n (default : PB)) k = default := by simp [pbAt, List.getElem?_replicate]; split <;> rfl
      rw [this]
      simp
      rfl
    · subst hk
      rw [pbCells_data _ _ (by simp; omega)]
      have : pbAt (List.replicate n (default : PB)) k = default := by simp [pbAt, List.getElem?_replicate]; split <;> rfl
      rw [this]
      have : (k * 2 + 1) % 2 = 1 := by omega
      simp [this]
      rfl
  · rw [List.getElem?_eq_none (by simpa using hj), List.getElem?_eq_none (by rw [pbCells_length]; simp; omega)]; rfl

theorem new_any (w : World) (n : Nat) (h4 : 4 ≤ n) (hm : n ≤ 512) :
    Calls Try.prog 35 #[.int .i64 n] w fun e w' => ∃ M, e = .returned (.tuple #[.pointer (some ⟨M.g, 0, none⟩), .int .i64 0]) ∧ DevAt w' M (Dev.new n) ∧ Fresh w M w' := by
  have h1 : ¬ ((n : Int) < 4) := by omega
  have h2 : ¬ ((512 : Int) < n) := by omega
  have hmk := run_mk 73 88 _ 2 24 Try.underlying73 info88 n (by omega) (by omega)
  have e0 : (Value.agg #[Value.int .i64 0, .string ByteArray.empty]).cells = #[.int .i64 0, .string ByteArray.empty] := rfl
  rw [e0, made_pb] at hmk
  go_enter Try.func35, Try.ntmps35
  go_wp2_with fail
  clear hmk
  refine (ofB_any _ ⟨w.heap.size, 0, none⟩ n n (List.replicate n (default : PB)) (by simp) h4 hm ?_ ?_).mono ?_
  · intro b hb; rw [List.eq_of_mem_replicate hb]; decide
  · intro j u hu
    rw [addr_add0, (Blk.new w 88 _).cell]; exact hu
  rintro e w1 ⟨M, rfl, hM, hf⟩
  go_wp2_with fail
  go_ret2
  refine ⟨M, rfl, hM, ?_, ?_⟩
  · exact ((Below.refl _ w).alloc (Nat.le_refl _) _).trans (hf.1.mono (by simp))
  · intro b hb; have := hf.2 b hb; simp at this; omega
end Go.Proofs.Ytfmhfgkmoeimeaa
