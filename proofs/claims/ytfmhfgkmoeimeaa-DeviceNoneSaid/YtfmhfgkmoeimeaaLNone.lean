/- Walks: DeviceNone. -/
import Derived.Test.YtfmhfgkmoeimeaaW20
import Derived.Test.YtfmhfgkmoeimeaaW21
import Derived.Test.YtfmhfgkmoeimeaaN2
import Derived.Test.YtfmhfgkmoeimeaaX1
import Derived.Test.YtfmhfgkmoeimeaaX3
namespace Go.Proofs.Ytfmhfgkmoeimeaa
open Go.RowKit

/-- What a thing asked is, as cells, its first one being m. -/
def doO (x : PDo) (KA : Option Addr) (kc m : Nat) : Obj := .cells #[.int .u8 m, .int .i64 x.i, .int .i64 x.n, .string x.s, .slice KA x.k.length kc] 35
theorem doO_cells {W : World} {g : Nat} {x : PDo} {KA : Option Addr} {kc m : Nat} (h : W.heap[g]? = some (doO x KA kc m)) :
    W.cell? ⟨g, 0, none⟩ = some (.int .u8 m) ∧ W.cell? ⟨g, 1, none⟩ = some (.int .i64 x.i) ∧ W.cell? ⟨g, 2, none⟩ = some (.int .i64 x.n) ∧ W.cell? ⟨g, 3, none⟩ = some (.string x.s) ∧ W.cell? ⟨g, 4, none⟩ = some (.slice KA x.k.length kc) := by
  have hb : Blk W g 35 [.int .u8 m, .int .i64 x.i, .int .i64 x.n, .string x.s, .slice KA x.k.length kc] := h
  exact ⟨hb.cell 0, hb.cell 1, hb.cell 2, hb.cell 3, hb.cell 4⟩
theorem doO_set {w W : World} {ds : List (Nat × Dev)} {bs : List (Nat × Obj)} {j g : Nat} {x : PDo} {KA : Option Addr} {kc m : Nat} (k : Nat) (h : Also w W ds bs) (hj : bs[j]? = some (g, doO x KA kc m)) :
    Also w (W.setCell ⟨g, 0, none⟩ (.int .u8 k)) ds (bs.set j (g, doO x KA kc k)) := by
  refine h.turn hj ?_ (fun c hc => Below.heap_setCell _ _ _ c hc) (by simp) rfl rfl rfl
  have hb : Blk W g 35 [.int .u8 m, .int .i64 x.i, .int .i64 x.n, .string x.s, .slice KA x.k.length kc] := h.at_ hj
  exact hb.set_ 0 (.int .u8 k)
theorem NoneAt.turned {W : World} {v : Value} {g : Nat} {a : Addr} {u : Value} (h : NoneAt W v) (ha : a.block = g) (hne : ∀ p, v = .pointer (some ⟨p, 0, none⟩) → p ≠ g) : NoneAt (W.setCell a u) v := by
  rcases h with h | ⟨p, h, hp⟩
  · exact .inl h
  · exact .inr ⟨p, h, hp.same (Below.heap_setCell _ _ _ p (by rw [ha]; exact hne p h))⟩

set_option maxHeartbeats 8000000 in
set_option maxRecDepth 100000 in
theorem lnone_any (w : World) (x : PDo) (kv : Value) (hx : x.In) (hk : KsAt w w.heap.size kv x.k) :
    Calls Try.prog 11 #[doV x kv] w fun e w' => e = .returned (.bool true) ∧ Below w.heap.size w w' := by
  obtain ⟨KA, kc, rfl, _⟩ := id hk
  obtain ⟨wA, hwA⟩ : ∃ wA, wA = w.alloc (.cells #[.int .u8 x.what, .int .i64 x.i, .int .i64 x.n, .string x.s, .slice KA x.k.length kc] 35) := ⟨_, rfl⟩
  have hB : Below w.heap.size w wA := by rw [hwA]; exact (Below.refl _ _).alloc (Nat.le_refl _) _
  have hbx : Blk wA w.heap.size 35 [.int .u8 x.what, .int .i64 x.i, .int .i64 x.n, .string x.s, .slice KA x.k.length kc] := by rw [hwA]; exact Blk.new w 35 _
  obtain ⟨wB, hwB⟩ : ∃ wB, wB = wA.alloc (.cells #[.int .u8 x.what, .int .i64 x.i, .int .i64 x.n, .string x.s, .slice KA x.k.length kc] 35) := ⟨_, rfl⟩
  have hB2 : Below wA.heap.size wA wB := by rw [hwB]; exact (Below.refl _ _).alloc (Nat.le_refl _) _
  have hone : DosAt wB wB.heap.size (.slice (some ⟨wA.heap.size, 0, none⟩) 1 1) [x] := by
    have hb1 : Blk wB wA.heap.size 35 [.int .u8 x.what, .int .i64 x.i, .int .i64 x.n, .string x.s, .slice KA x.k.length kc] := by rw [hwB]; exact Blk.new wA 35 _
    exact dos_one hb1 hb1.lt hx ((hk.below (hB.trans (hB2.mono hB.size))).up (hB.trans (hB2.mono hB.size)).size)
  have hmuch2 := much_any wB wB.heap.size _ [x] 1 hone (by omega)
  have hsz : wA.heap.size = w.heap.size + 1 := by rw [hwA]; simp
  rw [hsz] at hmuch2
  have c0 := hbx.cell 0
  have c1 := hbx.cell 1
  have c2 := hbx.cell 2
  have c3 := hbx.cell 3
  have c4 := hbx.cell 4
  simp only [List.getElem?_cons_zero, List.getElem?_cons_succ] at c0 c1 c2 c3 c4
  cases hmg : muchF [x] 1 with
  | true =>
    rw [hmg] at hmuch2
    rw [doV_eq]
    have HB := Lib.hid (hB.trans (hB2.mono hB.size))
    clear hmg hk hx hone hbx hB hB2 hsz
    subst hwB
    subst hwA
    go_enter Try.func11, Try.ntmps11
    go_wp2_with fail
    refine hmuch2.mono ?_
    rintro e w1 ⟨rfl, rfl⟩
    go_wp2_with fail
    go_ret
    exact ⟨rfl, HB.out⟩
  | false =>
  rw [hmg] at hmuch2
  have hxo : x.OK := (much_ok hmg (by simpa using hx)).2 x (by simp)
  have HXO := Lib.hid hxo
  have H0 : Hid (Also w wB [] [(w.heap.size, doO x KA kc x.what)]) := ((Also.of (Holds.none_ w)).push hB (Nat.le_refl _) hbx).after hB2
  clear hmg hk hx hxo hone hbx hB hB2 hsz
  rw [doV_eq]
  subst hwB
  subst hwA
  go_enter Try.func11, Try.ntmps11
  go_wp2_with fail
  refine hmuch2.mono ?_
  rintro e w1 ⟨rfl, rfl⟩
  clear hmuch2 c0 c1 c2 c3 c4
  go_wp2_with fail
  go_loopw [3, 4] (fun s3 s4 wr => ∃ (t m : Nat), t ≤ 2 ∧ s4 = .int .i64 t ∧ NoneAt wr s3 ∧ (∀ p, s3 = .pointer (some ⟨p, 0, none⟩) → p ≠ w.heap.size) ∧ Hid (Also w wr [] [(w.heap.size, doO x KA kc m)])) (fun _ s4 _ => 2 - (intOf s4).toNat)
  case atStart => exact ⟨0, x.what, by omega, rfl, .inl rfl, (fun p h => by simp at h), H0⟩
  case round =>
    obtain ⟨t, m, ht, rfl, hN, hNe, hd⟩ := hrel
    clear H0
    by_cases htl : t < 2
    · have htI : (t : Int) < 2 := by omega
      go_wp2_with fail
      go_loopw [5] (fun s5 wr => ∃ (k m : Nat), k ≤ 13 ∧ s5 = .int .u8 k ∧ NoneAt wr u3 ∧ Hid (Also w wr [] [(w.heap.size, doO x KA kc m)])) (fun s5 _ => 13 - (intOf s5).toNat)
      case atStart => exact ⟨0, m, by omega, rfl, hN, hd⟩
      case round =>
        clear hN hd
        obtain ⟨k, m, hk, rfl, hN, hd⟩ := hrel
        by_cases hkl : k < 13
        · have hkI : (k : Int) < 13 := by omega
          have hbk := hd.out.at_ (j := 0) rfl
          have c0 := (doO_cells hbk).1
          have f0 : wr.frozen? ⟨w.heap.size, 0, none⟩ = false := (show Blk wr w.heap.size 35 [.int .u8 m, .int .i64 x.i, .int .i64 x.n, .string x.s, .slice KA x.k.length kc] from hbk).frozen 0
          have HN := Lib.hid hN
          clear hbk hN
          go_upto_region 11 with fail
          obtain ⟨W2, hW2⟩ : ∃ W2, W2 = wr.setCell ⟨w.heap.size, 0, none⟩ (.int .u8 k) := ⟨_, rfl⟩
          have h2 : Also w W2 [] [(w.heap.size, doO x KA kc k)] := by rw [hW2]; exact doO_set (j := 0) (m := m) k hd.out rfl
          have hN2 : NoneAt W2 u3 := by rw [hW2]; exact HN.out.turned rfl hNe
          rw [← hW2]
          obtain ⟨d0, d1, d2, d3, d4⟩ := doO_cells (h2.at_ (j := 0) rfl)
          have hyo : PDo.OK { x with what := k } := ⟨(by show k < 256; omega), HXO.out.i0, HXO.out.i1, HXO.out.n0, HXO.out.n1, HXO.out.s, HXO.out.k, HXO.out.ks⟩
          have hw := n_with W2 u3 hN2 { x with what := k } (.slice KA x.k.length kc) hyo ⟨KA, kc, rfl⟩
          rw [doV_eq] at hw
          have HW := Lib.hid hw
          have H2 := Lib.hid h2
          have HN2 := Lib.hid hN2
          clear hw h2 hN2 hyo hW2 hd HN c0 f0
          go_wp2_with fail
          refine HW.out.mono ?_
          rintro e w3 ⟨rfl, hb3⟩
          have H3 := Lib.hid (H2.out.after hb3)
          have HN3 := Lib.hid (HN2.out.below hb3)
          clear hb3 HW H2 HN2 d0 d1 d2 d3 d4
          go_wp2_with fail
          go_roundw
          case rel => exact ⟨k + 1, k, by omega, by go_num, HN3.out, H3.out⟩
          case measure => simp [intOf]; omega
        · obtain rfl : k = 13 := by omega
          obtain ⟨d0, d1, d2, d3, d4⟩ := doO_cells (hd.out.at_ (j := 0) rfl)
          have HN := Lib.hid hN
          clear hN hkl hk
          go_wp2_with fail
          refine (n_read _ _ HN.out x.i).mono ?_
          rintro e w3 ⟨rfl, rfl⟩
          go_wp2_with fail
          refine (n_len _ _ HN.out).mono ?_
          rintro e w3 ⟨rfl, rfl⟩
          go_wp2_with fail
          refine (n_state _ _ HN.out x.i).mono ?_
          rintro e w3 ⟨rfl, rfl⟩
          go_wp2_with fail
          refine (n_states _ _ HN.out).mono ?_
          rintro e w3 ⟨rfl, hb3⟩
          have H3 := Lib.hid (hd.out.after hb3)
          have HN3 := Lib.hid (HN.out.below hb3)
          clear hb3 hd HN d0 d1 d2 d3 d4
          go_wp2_with fail
          refine (n_pending _ _ HN3.out).mono ?_
          rintro e w4 ⟨rfl, rfl⟩
          go_wp2_with fail
          refine (n_up _ _ HN3.out).mono ?_
          rintro e w4 ⟨rfl, rfl⟩
          go_wp2_with fail
          refine (n_starts _ _ HN3.out).mono ?_
          rintro e w4 ⟨rfl, rfl⟩
          go_wp2_with fail
          refine (n_clone _ _ HN3.out).mono ?_
          rintro e w4 ⟨rfl, rfl⟩
          go_wp2_with fail

          go_roundw
          case rel => exact ⟨t + 1, m, by omega, by go_num, .inr ⟨_, rfl, Blk.new _ 81 zeroDev⟩, (fun p hp => by have := heap_lt (H3.out.at_ (j := 0) rfl); simp at hp; omega), H3.out.alloc _⟩
          case measure => simp [intOf]; omega
    · obtain rfl : t = 2 := by omega
      go_wp2_with fail
      refine (does_any _).mono ?_
      rintro e w2 ⟨rfl, hb⟩
      go_wp2_with fail
      go_ret
      exact ⟨rfl, hd.out.below.trans (hb.mono hd.out.below.size)⟩
end Go.Proofs.Ytfmhfgkmoeimeaa
