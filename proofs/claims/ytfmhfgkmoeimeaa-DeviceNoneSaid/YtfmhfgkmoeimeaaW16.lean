/- Walks: lists of things asked; Much. -/
import Derived.Test.YtfmhfgkmoeimeaaW15
namespace Go.Proofs.Ytfmhfgkmoeimeaa
open Go.RowKit

/-- A list of ints in memory below block B. -/
def KsAt (w : World) (B : Nat) (v : Value) (ks : List Int) : Prop :=
  ∃ A c, v = .slice A ks.length c ∧ ∀ k, k < ks.length → ∃ ad, A = some ad ∧ ad.block < B ∧ w.cell? (ad.add k) = some (.int .i64 (ksAt ks k))

theorem KsAt.below {w w1 : World} {B : Nat} {v : Value} {ks : List Int} (h : KsAt w B v ks) (hb : Below B w w1) : KsAt w1 B v ks := by
  obtain ⟨A, c, rfl, hc⟩ := h
  refine ⟨A, c, rfl, fun k hk => ?_⟩
  obtain ⟨ad, ha, hlt, hcell⟩ := hc k hk
  exact ⟨ad, ha, hlt, (hb.cell (by rw [block_of_add]; exact hlt)).trans hcell⟩

theorem KsAt.reads {w : World} {B g : Nat} {v : Value} {ks : List Int} (h : KsAt w B v ks) (hg : B ≤ g) : ReadsI w g v ks := by
  obtain ⟨A, c, rfl, hc⟩ := h
  refine ⟨A, c, rfl, fun k hk => ?_⟩
  obtain ⟨ad, ha, hlt, hcell⟩ := hc k hk
  exact ⟨ad, ha, by omega, hcell⟩

/-- A list of things asked, in memory below block B. -/
def DosAt (w : World) (B : Nat) (v : Value) (l : List PDo) : Prop :=
  ∃ A c, v = .slice A l.length c ∧ l.length ≤ c ∧ (∀ x ∈ l, x.In) ∧ ∀ k (hk : k < l.length), ∃ b off kv, A = some ⟨b, off, none⟩ ∧ b < B ∧
    w.cell? ⟨b, off + k * 5, none⟩ = some (.int .u8 l[k].what) ∧ w.cell? ⟨b, off + k * 5 + 1, none⟩ = some (.int .i64 l[k].i) ∧ w.cell? ⟨b, off + k * 5 + 2, none⟩ = some (.int .i64 l[k].n) ∧
    w.cell? ⟨b, off + k * 5 + 3, none⟩ = some (.string l[k].s) ∧ w.cell? ⟨b, off + k * 5 + 4, none⟩ = some kv ∧ KsAt w B kv l[k].k

theorem DosAt.below {w w1 : World} {B : Nat} {v : Value} {l : List PDo} (h : DosAt w B v l) (hb : Below B w w1) : DosAt w1 B v l := by
  obtain ⟨A, c, rfl, hlc, hok, hc⟩ := h
  refine ⟨A, c, rfl, hlc, hok, fun k hk => ?_⟩
  obtain ⟨b, off, kv, ha, hlt, h0, h1, h2, h3, h4, h5⟩ := hc k hk
  exact ⟨b, off, kv, ha, hlt, (hb.cell hlt).trans h0, (hb.cell hlt).trans h1, (hb.cell hlt).trans h2, (hb.cell hlt).trans h3, (hb.cell hlt).trans h4, h5.below hb⟩

theorem DosAt.nil (w : World) (B : Nat) : DosAt w B (.slice none 0 0) [] := ⟨none, 0, rfl, Nat.le_refl _, by simp, fun k hk => by simp at hk⟩

def bigDo (x : PDo) : Bool := decide (200 < x.s.size) || decide (100 < x.k.length)
def muchF (l : List PDo) (many : Int) : Bool := decide (many < l.length) || l.any bigDo

theorem much_ok {l : List PDo} {many : Int} (h : muchF l many = false) (hin : ∀ x ∈ l, x.In) : (l.length : Int) ≤ many ∧ ∀ x ∈ l, x.OK := by
  unfold muchF at h
  rw [Bool.or_eq_false_iff, decide_eq_false_iff_not, List.any_eq_false] at h
  refine ⟨by omega, fun x hx => ?_⟩
  have := h.2 x hx
  unfold bigDo at this
  rw [Bool.or_eq_true, decide_eq_true_eq, decide_eq_true_eq] at this
  exact (hin x hx).ok (by omega) (by omega)

set_option maxHeartbeats 1000000 in
theorem much_any (w : World) (B : Nat) (v : Value) (l : List PDo) (many : Int) (h : DosAt w B v l) (hm : many ≤ 1000) :
    Calls Try.prog 14 #[v, .int .i64 many] w fun e w' => e = .returned (.bool (muchF l many)) ∧ w = w' := by
  obtain ⟨A, c, rfl, hlc, hok, hc⟩ := h
  have HC := Lib.hid hc
  have HOK := Lib.hid hok
  clear hc hok
  by_cases hl : many < l.length
  · have hf : muchF l many = true := by unfold muchF; simp [hl]
    rw [hf]
    clear hf
    go_enter Try.func14, Try.ntmps14
    go_wp2_with fail
    go_ret
    exact ⟨rfl, rfl⟩
  · go_enter Try.func14, Try.ntmps14
    go_wp2_with fail
    go_loop [5] (fun i => ∃ k : Nat, k ≤ l.length ∧ i = .int .i64 k ∧ Hid (muchF l many = (l.drop k).any bigDo)) (fun i => l.length - (intOf i).toNat)
    case atStart => exact ⟨0, by omega, rfl, by show muchF l many = _; unfold muchF; rw [decide_eq_false (by omega)]; simp⟩
    case round =>
      obtain ⟨k, hk, rfl, hrest⟩ := hrel
      by_cases hlt : k < l.length
      · obtain ⟨b, off, kv, rfl, hb, c0, c1, c2, c3, c4, hks⟩ := HC.out k hlt
        obtain ⟨KA, kc, rfl, _⟩ := hks
        obtain ⟨x, hx⟩ : ∃ x, l[k] = x := ⟨_, rfl⟩
        rw [hx] at c3 c4
        have hd : l.drop k = x :: l.drop (k + 1) := by rw [List.drop_eq_getElem_cons hlt, hx]
        have HD := Lib.hid hd
        clear hx c0 c1 c2 hd
        by_cases h1 : 200 < x.s.size
        · have h1' : (200 : Int) < (x.s.size : Int) := by omega
          have hf : muchF l many = true := by rw [hrest.out, HD.out]; simp [bigDo, h1]
          have HF := Lib.hid hf
          clear hf hrest h1
          go_wp2_with fail
          go_ret
          exact ⟨by rw [HF.out]; rfl, rfl⟩
        by_cases h2 : 100 < x.k.length
        · have h1' : ¬ (200 : Int) < (x.s.size : Int) := by omega
          have h2' : (100 : Int) < (x.k.length : Int) := by omega
          have hf : muchF l many = true := by rw [hrest.out, HD.out]; simp [bigDo, h2]
          have HF := Lib.hid hf
          clear hf hrest h1 h2
          go_wp2_with fail
          go_ret
          exact ⟨by rw [HF.out]; rfl, rfl⟩
        · have h1' : ¬ (200 : Int) < (x.s.size : Int) := by omega
          have h2' : ¬ (100 : Int) < (x.k.length : Int) := by omega
          have hf : muchF l many = (l.drop (k + 1)).any bigDo := by rw [hrest.out, HD.out]; simp [bigDo, h1, h2]
          have HF := Lib.hid hf
          clear hf hrest h1 h2
          go_wp2_with fail
          go_round
          case rel => exact ⟨k + 1, by omega, by go_num, HF⟩
          case measure => simp [intOf]; omega
      · obtain rfl : k = l.length := by omega
        have hf : muchF l many = false := by rw [hrest.out, List.drop_length]; rfl
        have HF := Lib.hid hf
        clear hf hrest
        go_wp2_with fail
        go_ret
        exact ⟨by rw [HF.out]; rfl, rfl⟩

theorem Dev.crash_grow (D : Dev) (ks : List Int) : (D.crash ks).acts.length ≤ D.acts.length ∧ (D.crash ks).starts = D.starts := by
  unfold Dev.crash; split
  · exact ⟨Nat.le_refl _, rfl⟩
  · exact ⟨Nat.zero_le _, rfl⟩
theorem Dev.count_grow (D : Dev) : D.count.acts = D.acts ∧ D.count.starts = D.starts := by unfold Dev.count; split <;> exact ⟨rfl, rfl⟩
theorem Dev.do_grow (D : Dev) (x : PAct) : (D.do_ x).1.acts.length ≤ D.acts.length + 1 ∧ (D.do_ x).1.starts = D.starts := by
  have h1 := (D.count).put x |>.crash_grow D.keep
  have h2 := D.count_grow
  have h3 : ((D.count).put x).acts.length = D.acts.length + 1 := by simp [Dev.put, h2.1]
  have h4 : ((D.count).put x).starts = D.starts := by simp [Dev.put, h2.2]
  unfold Dev.do_
  split
  · exact ⟨by show (((D.count).put x).crash D.keep).acts.length ≤ _; omega, by rw [← h4]; exact h1.2⟩
  · exact ⟨by show ((D.count).put x).acts.length ≤ _; omega, h4⟩
theorem Dev.write_grow (D : Dev) (i : Int) (d : ByteArray) : (D.write i d).1.acts.length ≤ D.acts.length + 1 ∧ (D.write i d).1.starts = D.starts := by
  unfold Dev.write
  repeat' split
  all_goals first | exact ⟨Nat.le_succ _, rfl⟩ | exact Dev.do_grow _ _
theorem Dev.erase_grow (D : Dev) (i : Int) : (D.erase i).1.acts.length ≤ D.acts.length + 1 ∧ (D.erase i).1.starts = D.starts := by
  unfold Dev.erase
  repeat' split
  all_goals first | exact ⟨Nat.le_succ _, rfl⟩ | exact Dev.do_grow _ _
theorem Dev.flush_grow (D : Dev) : D.flush.1.acts.length ≤ D.acts.length ∧ D.flush.1.starts = D.starts := by
  unfold Dev.flush
  have h2 := D.count_grow
  repeat' split
  · exact ⟨Nat.le_refl _, rfl⟩
  · have h1 := D.count.crash_grow D.keep
    rw [h2.1, h2.2] at h1
    exact h1
  · exact ⟨Nat.zero_le _, h2.2⟩
theorem withF_grow (D : Dev) (x : PDo) : (withF D x).1.acts.length ≤ D.acts.length + 1 ∧ (withF D x).1.starts ≤ D.starts + 1 := by
  unfold withF
  generalize x.what % 13 = m
  unfold withM
  have s1 : D.start.1.acts.length ≤ D.acts.length + 1 ∧ D.start.1.starts ≤ D.starts + 1 := by
    unfold Dev.start; split
    · exact ⟨Nat.le_succ _, Nat.le_refl _⟩
    · exact ⟨Nat.le_succ _, Nat.le_succ _⟩
  split
  · have := D.write_grow x.i x.s; exact ⟨this.1, by omega⟩
  · have := D.erase_grow x.i; exact ⟨this.1, by omega⟩
  · have := D.erase_grow x.i; exact ⟨this.1, by omega⟩
  · have := D.flush_grow; exact ⟨by omega, by omega⟩
  · have := D.crash_grow x.k; exact ⟨by show (D.crash x.k).acts.length ≤ _; omega, by show (D.crash x.k).starts ≤ _; omega⟩
  · exact s1
  · exact s1
  · unfold Dev.failAt; repeat' split
    all_goals exact ⟨Nat.le_succ _, Nat.le_succ _⟩
  · unfold Dev.tamper; split
    · exact ⟨Nat.le_succ _, Nat.le_succ _⟩
    · refine ⟨?_, Nat.le_succ _⟩
      have := List.length_filter_le (fun y : PAct => decide ((y.of : Int) ≠ x.i)) D.acts
      show (D.acts.filter _).length ≤ _
      omega
  · have := D.write_grow x.i (blockF x.s); exact ⟨this.1, by omega⟩

def afterStep (D : Dev) (x : PDo) : Dev := if x.what % 13 < 11 then (withF D x).1 else D
def afterRun (n : Nat) (l : List PDo) : Dev := l.foldl afterStep (Dev.new (4 + n % 16))
def afterF (n : Nat) (l : List PDo) : Dev := if (afterRun n l).off then (afterRun n l).start.1 else afterRun n l

theorem afterStep_grow (D : Dev) (x : PDo) : (afterStep D x).acts.length ≤ D.acts.length + 1 ∧ (afterStep D x).starts ≤ D.starts + 1 := by
  unfold afterStep; split
  · exact withF_grow D x
  · exact ⟨Nat.le_succ _, Nat.le_succ _⟩
end Go.Proofs.Ytfmhfgkmoeimeaa
