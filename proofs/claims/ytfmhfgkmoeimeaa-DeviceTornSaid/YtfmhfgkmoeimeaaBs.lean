/- A row of bytes as it lies in memory. -/
import Derived.Test.YtfmhfgkmoeimeaaW16
namespace Go.Proofs.Ytfmhfgkmoeimeaa
open Go.RowKit

def BsAt (w : World) (B : Nat) (v : Value) (zs : List Nat) : Prop :=
  ∃ A c, v = .slice A zs.length c ∧ ∀ k, k < zs.length → ∃ ad, A = some ad ∧ ad.block < B ∧ w.cell? (ad.add k) = some (.int .u8 (zs.getD k 0 : Nat)) ∧ zs.getD k 0 < 256

theorem BsAt.below {w w1 : World} {B : Nat} {v : Value} {zs : List Nat} (h : BsAt w B v zs) (hb : Below B w w1) : BsAt w1 B v zs := by
  obtain ⟨A, c, rfl, hc⟩ := h
  refine ⟨A, c, rfl, fun k hk => ?_⟩
  obtain ⟨ad, ha, hlt, hcell, hy⟩ := hc k hk
  exact ⟨ad, ha, hlt, by rw [hb.cell (by rw [block_of_add]; exact hlt)]; exact hcell, hy⟩
end Go.Proofs.Ytfmhfgkmoeimeaa
