/- Plain laws: what is there is what is sure with the acts done; a crash that keeps nothing, or all. -/
import Derived.Test.YtfmhfgkmoeimeaaP1
namespace Go.Proofs.Ytfmhfgkmoeimeaa
open Go.RowKit

/-- How a device with no Fail laid may turn by a thing asked. -/
inductive Went (D : Dev) (x : PDo) : Dev → Prop where
  | same : Went D x D
  | wrote (k : Nat) (d : ByteArray) (q : x.what % 13 < 5) (hi : x.i = k) (hd : d.size = 128) (on : D.off = false) : Went D x (D.put (.write k d))
  | erased (k : Nat) (q : x.what % 13 = 5 ∨ x.what % 13 = 6) (hi : x.i = k) (on : D.off = false) : Went D x (D.put (.erase k))
  | flushed (q : x.what % 13 = 7) (on : D.off = false) : Went D x { D with sure := D.now, acts := [] }
  | crashed (q : x.what % 13 = 8) (on : D.off = false) : Went D x { D with sure := Dev.tear D.acts x.k D.sure, now := Dev.tear D.acts x.k D.sure, acts := [], off := true, left := -1 }
  | started (q : x.what % 13 = 9 ∨ x.what % 13 = 10) (off : D.off = true) : Went D x { D with off := false, starts := D.starts + 1 }

theorem went_write {D : Dev} {x : PDo} (h : D.left = -1) (q : x.what % 13 < 5) (d : ByteArray) : Went D x (D.write x.i d).1 := by
  unfold Dev.write
  rw [D.do_plain _ h]
  by_cases hb : D.block x.i = 0
  · rw [if_neg (by simpa using hb)]
    by_cases hd : d.size = 128
    · rw [if_neg (by simpa using hd)]
      obtain ⟨hon, hs⟩ := (dblock_zero D x.i).1 hb
      obtain ⟨k, hk, hlt⟩ := stateAt_nonneg hs
      split
      · exact .same
      · split
        · exact .same
        · have e : x.i.toNat = k := by omega
          rw [e]
          exact .wrote k d q hk hd hon
    · rw [if_pos hd]; exact .same
  · rw [if_pos hb]; exact .same
theorem went_erase {D : Dev} {x : PDo} (h : D.left = -1) (q : x.what % 13 = 5 ∨ x.what % 13 = 6) : Went D x (D.erase x.i).1 := by
  unfold Dev.erase
  rw [D.do_plain _ h]
  by_cases hb : D.block x.i = 0
  · rw [if_neg (by simpa using hb)]
    obtain ⟨hon, hs⟩ := (dblock_zero D x.i).1 hb
    obtain ⟨k, hk, hlt⟩ := stateAt_nonneg hs
    split
    · exact .same
    · split
      · exact .same
      · have e : x.i.toNat = k := by omega
        rw [e]
        exact .erased k q hk hon
  · rw [if_pos hb]; exact .same
theorem went_start {D : Dev} {x : PDo} (q : x.what % 13 = 9 ∨ x.what % 13 = 10) : Went D x D.start.1 := by
  unfold Dev.start
  by_cases ho : D.off = true
  · rw [if_pos ho]; exact .started q ho
  · rw [if_neg ho]; exact .same

theorem withF_went (D : Dev) (x : PDo) (h : D.left = -1) (hx : x.what % 13 < 11) : Went D x (withF D x).1 := by
  unfold withF
  have hq : x.what % 13 = 0 ∨ x.what % 13 = 1 ∨ x.what % 13 = 2 ∨ x.what % 13 = 3 ∨ x.what % 13 = 4 ∨ x.what % 13 = 5 ∨ x.what % 13 = 6 ∨ x.what % 13 = 7 ∨ x.what % 13 = 8 ∨ x.what % 13 = 9 ∨ x.what % 13 = 10 := by omega
  rcases hq with e | e | e | e | e | e | e | e | e | e | e
  all_goals rw [e]
  · exact went_write h (by omega) _
  · exact went_write h (by omega) _
  · exact went_write h (by omega) _
  · exact went_write h (by omega) _
  · exact went_write h (by omega) _
  · exact went_erase h (by omega)
  · exact went_erase h (by omega)
  · show Went D x D.flush.1
    rw [D.flush_plain h]
    by_cases ho : D.off = true
    · rw [if_pos ho]; exact .same
    · rw [if_neg ho]; exact .flushed e (by simpa using ho)
  · show Went D x (D.crash x.k)
    unfold Dev.crash
    by_cases ho : D.off = true
    · rw [if_pos ho]; exact .same
    · rw [if_neg ho]; exact .crashed e (by simpa using ho)
  · exact went_start (by omega)
  · exact went_start (by omega)

def applyAll (acts : List PAct) (s : List PB) : List PB := acts.foldl (fun s x => s.set x.of (doneF x)) s
theorem applyAll_app (acts : List PAct) (x : PAct) (s : List PB) : applyAll (acts ++ [x]) s = (applyAll acts s).set x.of (doneF x) := by unfold applyAll; rw [List.foldl_append]; rfl

/-- What is there is what is sure, with the acts done; a device that does not run has none under way. -/
structure Dev.Runs (D : Dev) : Prop where
  now : D.now = applyAll D.acts D.sure
  still : D.off = true → D.acts = []
  wr : ∀ x ∈ D.acts, ∀ a d, x = .write a d → d.size = 128

theorem Went.runs {D E : Dev} {x : PDo} (h : Went D x E) (hr : D.Runs) : E.Runs := by
  cases h with
  | same => exact hr
  | wrote k d q hi hd on =>
    refine ⟨?_, fun ho => ?_, fun y hy a d' he => ?_⟩
    · show D.now.set _ _ = _
      rw [hr.now]; exact (applyAll_app _ _ _).symm
    · exact absurd (on.symm.trans ho) (by decide)
    · rcases List.mem_append.1 hy with hy | hy
      · exact hr.wr y hy a d' he
      · rw [List.mem_singleton] at hy
        subst hy
        injection he with _ h2
        rw [← h2]; exact hd
  | erased k q hi on =>
    refine ⟨?_, fun ho => ?_, fun y hy a d' he => ?_⟩
    · show D.now.set _ _ = _
      rw [hr.now]; exact (applyAll_app _ _ _).symm
    · exact absurd (on.symm.trans ho) (by decide)
    · rcases List.mem_append.1 hy with hy | hy
      · exact hr.wr y hy a d' he
      · rw [List.mem_singleton] at hy
        subst hy
        injection he
  | flushed q on => exact ⟨rfl, fun _ => rfl, fun y hy => by cases hy⟩
  | crashed q on => exact ⟨rfl, fun _ => rfl, fun y hy => by cases hy⟩
  | started q off => exact ⟨hr.now, (fun ho => Bool.noConfusion (show false = true from ho)), hr.wr⟩

theorem afterStep_runs (D : Dev) (x : PDo) (h : D.left = -1) (hr : D.Runs) : (afterStep D x).Runs := by
  unfold afterStep; split
  · rename_i hx; exact (withF_went D x h hx).runs hr
  · exact hr
theorem fold_runs (l : List PDo) : ∀ D : Dev, D.left = -1 → D.Runs → (l.foldl afterStep D).Runs := by
  induction l with
  | nil => intro D _ h; exact h
  | cons x r ih => intro D hl h; exact ih _ (afterStep_left D x hl) (afterStep_runs D x hl h)
theorem new_runs (n : Nat) : (Dev.new n).Runs := ⟨rfl, fun _ => rfl, fun y hy => by cases hy⟩
theorem after_runs (n : Nat) (l : List PDo) : (afterF n l).Runs := by
  have h : (afterRun n l).Runs := fold_runs l _ rfl (new_runs _)
  unfold afterF; split
  · rename_i ho
    unfold Dev.start
    rw [ho]
    exact ⟨h.now, (fun ho => Bool.noConfusion (show false = true from ho)), h.wr⟩
  · exact h

theorem set_same (s : List PB) (i : Nat) : s.set i (pbAt s i) = s := by
  apply List.ext_getElem?
  intro j
  rw [List.getElem?_set]
  split
  · rename_i h
    subst h
    unfold pbAt
    split
    · rename_i h; rw [List.getD_eq_getElem?_getD, List.getElem?_eq_getElem h]; rfl
    · rename_i h; rw [List.getElem?_eq_none (by omega)]
  · rfl

theorem tear_none (acts : List PAct) : ∀ s, Dev.tear acts [] s = s := by
  induction acts with
  | nil => intro s; rfl
  | cons x r ih =>
    intro s
    show Dev.tear r [] (s.set x.of (tornF x (pbAt s x.of) 0)) = s
    have e : tornF x (pbAt s x.of) 0 = pbAt s x.of := by cases x <;> rfl
    rw [e, set_same, ih]

theorem torn_all (d : ByteArray) (h : d.size = 128) : tornBytes d 15 = d := by
  unfold tornBytes
  have hs : d.data.size = 128 := h
  have e : (List.range d.size).map (fun i => if bitOf 15 (i / 32) then d.data.getD i 0 else 0) = d.data.toList := by
    apply List.ext_getElem
    · simp [hs, h]
    · intro i h1 h2
      have hi : i < 128 := by simpa [h] using h1
      have hb : bitOf 15 (i / 32) = true := by
        have : i / 32 = 0 ∨ i / 32 = 1 ∨ i / 32 = 2 ∨ i / 32 = 3 := by omega
        rcases this with e | e | e | e <;> rw [e] <;> decide
      simp only [List.getElem_map, List.getElem_range, hb, if_true, Array.getElem_toList]
      rw [Array.getD_eq_getD_getElem?, Array.getElem?_eq_getElem (by omega)]; rfl
  rw [e]

theorem tear_all (acts : List PAct) : ∀ s, (∀ x ∈ acts, ∀ a d, x = .write a d → d.size = 128) → Dev.tear acts (List.replicate acts.length 15) s = applyAll acts s := by
  induction acts with
  | nil => intro s _; rfl
  | cons x r ih =>
    intro s h
    show Dev.tear r (List.replicate r.length 15) (s.set x.of (tornF x (pbAt s x.of) 15)) = applyAll r (s.set x.of (doneF x))
    have e : tornF x (pbAt s x.of) 15 = doneF x := by
      cases x with
      | write a d =>
        show (if (15 : Int) % 16 = 0 then pbAt s a else ⟨1, tornBytes d 15⟩) = _
        rw [if_neg (by decide), torn_all d (h _ (List.mem_cons_self ..) a d rfl)]; rfl
      | erase a => rfl
    rw [e]
    exact ih _ fun y hy => h y (List.mem_cons_of_mem _ hy)

theorem stList_congr {D E : Dev} (h : D.now = E.now) : stList D = stList E := by unfold stList; rw [h]
theorem txList_congr {D E : Dev} (h : D.now = E.now) (ho : D.off = E.off) : txList D = txList E := by
  unfold txList
  have h1 : ∀ i, D.stateAt i = E.stateAt i := fun i => by unfold Dev.stateAt Dev.len; rw [h]
  have h2 : D.on = E.on := by unfold Dev.on; rw [ho]
  have h3 : ∀ i, D.read i = E.read i := fun i => by
    unfold Dev.read Dev.block Dev.dataAt
    rw [h1, h2, h]
  rw [h]; simp only [h3]
end Go.Proofs.Ytfmhfgkmoeimeaa
