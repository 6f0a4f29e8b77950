/- Walks: a method of an act; do; Crash. -/
import Derived.Test.YtfmhfgkmoeimeaaW5
import Derived.Deep.RegionWith
namespace Go.Proofs.Ytfmhfgkmoeimeaa
open Go.RowKit

theorem mw (a : Nat) (d : ByteArray) (w : World) : (method 229 93 (.agg #[.int .i64 a, .string d]) "sealingwax/device.of").run Try.prog w = .ok (90, .agg #[.int .i64 a, .string d]) w := by kernel_rfl
theorem me (a : Nat) (w : World) : (method 229 94 (.int .i64 a) "sealingwax/device.of").run Try.prog w = .ok (91, .int .i64 a) w := by kernel_rfl

/-- 'Nothing that was there in w0 has turned': kept as a word, for the walk's conditional facts. -/
structure Bel (w0 w : World) : Prop where
  out : Below w0.heap.size w0 w
theorem Bel.refl (w : World) : Bel w w := ⟨Below.refl _ _⟩
theorem Bel.drew {w0 w : World} (h : Bel w0 w) : Bel w0 w.drew := ⟨h.out.drew⟩
theorem Bel.alloc {w0 w : World} (h : Bel w0 w) (o : Obj) : Bel w0 (w.alloc o) := ⟨h.out.alloc h.out.size o⟩
theorem Bel.then {w0 w w1 : World} (h : Bel w0 w) (hb : Below w.heap.size w w1) : Bel w0 w1 := ⟨h.out.trans (hb.mono h.out.size)⟩
theorem Bel.cell {w0 w : World} (h : Bel w0 w) {p : Addr} {u : Value} (hc : w0.cell? p = some u) : w.cell? p = some u := cell_below h.out hc
theorem Bel.blk {w0 w : World} (h : Bel w0 w) {g : Nat} {t : TypeId} {cs : List Value} (hb : Blk w0 g t cs) : Blk w g t cs := hb.same (h.out.block _ hb.lt)

theorem tam1_any (w : World) (x : PAct) (b : Nat) (i : Int) (hc : w.cell? ⟨b, 0, none⟩ = some (.int .i64 i)) :
    Calls Try.prog 52 #[actV x, .pointer (some ⟨b, 0, none⟩)] w fun e w' => e = .returned (.bool (decide ((x.of : Int) = i))) ∧ Below w.heap.size w w' := by
  have B0 := Bel.refl w
  have BD := fun W (h : Bel w W) => h.drew
  have C := fun W (h : Bel w W) => h.cell hc
  cases x with
  | write a d =>
    have hm := mw a d
    unfold actV
    go_enter Try.func52, Try.ntmps52
    go_wp2_with fail
    go_region_with (go_at_call 90; refine (ofW_any _ a d).mono ?_; rintro e w1 ⟨rfl, hbel⟩; have B1 : Bel w w1 := (by assumption : Bel w _).drew.then hbel; clear hbel)
    all_goals
      go_wp2
      go_ret
      exact ⟨rfl, B1.out⟩
  | erase a =>
    have hm := me a
    unfold actV
    go_enter Try.func52, Try.ntmps52
    go_wp2_with fail
    go_region_with (go_at_call 91; refine (ofE_any _ a).mono ?_; rintro e w1 ⟨rfl, rfl⟩)
    all_goals
      go_wp2
      go_ret
      exact ⟨rfl, B0.drew.out⟩
end Go.Proofs.Ytfmhfgkmoeimeaa
