/- Plain law of DeviceSure: what was flushed stays, but erased. -/
import Derived.Test.YtfmhfgkmoeimeaaP2
namespace Go.Proofs.Ytfmhfgkmoeimeaa
open Go.RowKit

theorem pbAt_set_ne {s : List PB} {j k : Nat} (b : PB) (h : j ≠ k) : pbAt (s.set j b) k = pbAt s k := by
  unfold pbAt
  rw [List.getD_eq_getElem?_getD, List.getElem?_set_ne h, List.getD_eq_getElem?_getD]
theorem tear_other (acts : List PAct) {j : Nat} : ∀ (ks : List Int) (s : List PB), (∀ a ∈ acts, a.of ≠ j) → pbAt (Dev.tear acts ks s) j = pbAt s j := by
  induction acts with
  | nil => intro ks s _; rfl
  | cons x r ih =>
    intro ks s h
    show pbAt (Dev.tear r ks.tail (s.set x.of _)) j = _
    rw [ih _ _ fun a ha => h a (List.mem_cons_of_mem _ ha), pbAt_set_ne _ (h x (List.mem_cons_self ..))]
theorem tear_len (acts : List PAct) : ∀ (ks : List Int) (s : List PB), (Dev.tear acts ks s).length = s.length := by
  induction acts with
  | nil => intro ks s; rfl
  | cons x r ih =>
    intro ks s
    show (Dev.tear r ks.tail (s.set x.of _)).length = _
    rw [ih, List.length_set]

/-- What holds behind things asked that are no flush, crash, start, over a device that was flushed (F). -/
structure Since (F E : Dev) (gone : Nat → Bool) : Prop where
  left : E.left = -1
  on : E.off = false
  sure : E.sure = F.now
  len : E.now.length = F.now.length
  mono : ∀ j, j < F.now.length → (pbAt F.now j).st ≤ (pbAt E.now j).st
  wrote : ∀ a ∈ E.acts, ∀ j d, a = .write j d → j < F.now.length ∧ (pbAt F.now j).st = 0
  erased : ∀ a ∈ E.acts, ∀ j, a = .erase j → j < F.now.length ∧ gone j = true ∧ (pbAt F.now j).st ≤ 1

theorem Since.start_ (D : Dev) (hl : D.left = -1) (ho : D.off = false) (gone : Nat → Bool) : Since D.flush.1 D.flush.1 gone := by
  have hf : D.flush = ({ D with sure := D.now, acts := [] }, 0) := by rw [D.flush_plain hl, ho]; rfl
  rw [hf]
  exact ⟨hl, ho, rfl, rfl, fun j _ => Int.le_refl _, (fun a ha => by cases ha), (fun a ha => by cases ha)⟩

theorem Since.step {F E : Dev} {gone gone' : Nat → Bool} (h : Since F E gone) (hF : ∀ b ∈ F.now, 0 ≤ b.st) (ok : E.OK) (x : PDo) (hx : x.what % 13 < 7) (hg : ∀ j, gone j = true → gone' j = true)
    (hn : (x.what % 13 = 5 ∨ x.what % 13 = 6) → ∀ j : Nat, x.i = j → j < F.now.length → gone' j = true) : Since F (withF E x).1 gone' := by
  have hd := withF_did E x ok h.left (by omega)
  generalize withF E x = r at hd
  have keep : Since F E gone' := ⟨h.left, h.on, h.sure, h.len, h.mono, h.wrote, fun a ha j e => ⟨(h.erased a ha j e).1, hg j (h.erased a ha j e).2.1, (h.erased a ha j e).2.2⟩⟩
  cases hd with
  | no e he => exact keep
  | wrote k d q hi hk hon hdz hs =>
    have hkF : k < F.now.length := by rw [← h.len]; exact hk
    have hF0 := hF _ (pbAt_mem hkF)
    have hm := h.mono k hkF
    refine ⟨h.left, h.on, h.sure, by simp [Dev.put, h.len], fun j hj => ?_, fun a ha j d' e => ?_, fun a ha j e => ?_⟩
    · show _ ≤ (pbAt (E.now.set k _) j).st
      by_cases hkj : k = j
      · subst hkj
        have : pbAt (E.now.set k (doneF (.write k d))) k = doneF (.write k d) := by
          unfold pbAt
          rw [List.getD_eq_getElem?_getD, List.getElem?_set_self hk]; rfl
        show _ ≤ (pbAt (E.now.set k (doneF (.write k d))) k).st
        rw [this]
        show (pbAt F.now k).st ≤ 1
        omega
      · rw [pbAt_set_ne _ hkj]; exact h.mono j hj
    · rcases List.mem_append.1 ha with ha | ha
      · exact h.wrote a ha j d' e
      · rw [List.mem_singleton] at ha
        subst ha
        injection e with e1 _
        subst e1
        exact ⟨hkF, by omega⟩
    · rcases List.mem_append.1 ha with ha | ha
      · exact keep.erased a ha j e
      · rw [List.mem_singleton] at ha
        subst ha
        injection e
  | was k q hi hk hon hs => exact keep
  | erased k q hi hk hon hs =>
    have hkF : k < F.now.length := by rw [← h.len]; exact hk
    have hm := h.mono k hkF
    refine ⟨h.left, h.on, h.sure, by simp [Dev.put, h.len], fun j hj => ?_, fun a ha j d' e => ?_, fun a ha j e => ?_⟩
    · by_cases hkj : k = j
      · subst hkj
        have : pbAt (E.now.set k (doneF (.erase k))) k = doneF (.erase k) := by
          unfold pbAt
          rw [List.getD_eq_getElem?_getD, List.getElem?_set_self hk]; rfl
        show _ ≤ (pbAt (E.now.set k (doneF (.erase k))) k).st
        rw [this]
        show (pbAt F.now k).st ≤ 2
        omega
      · show _ ≤ (pbAt (E.now.set k _) j).st
        rw [pbAt_set_ne _ hkj]; exact h.mono j hj
    · rcases List.mem_append.1 ha with ha | ha
      · exact h.wrote a ha j d' e
      · rw [List.mem_singleton] at ha
        subst ha
        injection e
    · rcases List.mem_append.1 ha with ha | ha
      · exact keep.erased a ha j e
      · rw [List.mem_singleton] at ha
        subst ha
        injection e with e1
        subst e1
        exact ⟨hkF, hn q k hi hkF, by omega⟩
  | flushed q on => omega
  | crashed q on => omega
  | started q off => omega

/-- Behind the crash and the start: gone stays gone; written stays as it was, but where it was erased. -/
theorem Since.end_ {F E : Dev} {gone : Nat → Bool} (h : Since F E gone) (ks : List Int) :
    (E.crash ks).start.1.now.length = F.now.length ∧ (E.crash ks).start.1.acts = [] ∧ (E.crash ks).start.1.off = false ∧ E.on = 0 ∧ (E.crash ks).start.2 = 0 ∧
    ∀ j, j < F.now.length → ((pbAt F.now j).st = 2 ∨ (pbAt F.now j).st = 1 ∧ gone j = false) → pbAt (E.crash ks).start.1.now j = pbAt F.now j := by
  have hc : E.crash ks = { E with sure := Dev.tear E.acts ks E.sure, now := Dev.tear E.acts ks E.sure, acts := [], off := true, left := -1 } := by unfold Dev.crash; rw [h.on]; rfl
  rw [hc]
  refine ⟨by show (Dev.tear E.acts ks E.sure).length = _; rw [tear_len, h.sure], rfl, rfl, by unfold Dev.on; rw [h.on]; rfl, rfl, fun j hj hs => ?_⟩
  show pbAt (Dev.tear E.acts ks E.sure) j = _
  rw [tear_other, h.sure]
  intro a ha e
  cases a with
  | write k d =>
    have e' : k = j := e
    subst e'
    have := (h.wrote _ ha k d rfl).2
    omega
  | erase k =>
    have e' : k = j := e
    subst e'
    have h2 := h.erased _ ha k rfl
    rcases hs with hs | ⟨_, hs⟩
    · omega
    · rw [h2.2.1] at hs; exact absurd hs (by decide)
end Go.Proofs.Ytfmhfgkmoeimeaa
