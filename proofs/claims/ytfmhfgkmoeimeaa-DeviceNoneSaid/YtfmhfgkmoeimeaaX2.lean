/- Small things of lists and rows that several walks use. -/
import Derived.Test.YtfmhfgkmoeimeaaW17
namespace Go.Proofs.Ytfmhfgkmoeimeaa
open Go.RowKit

theorem made_one (v : Value) (m : Nat) : madeCells #[v] (m * 1) = (List.replicate m v).toArray := by
  apply Array.ext
  · simp [size_madeCells]
  · intro i h1 h2
    simp [madeCells, Nat.mod_one]

/-- A row of Booleans of one's own. -/
def goneO (gl : List Bool) : Obj := .cells (gl.map Value.bool).toArray 4
theorem gone_start (n : Nat) : goneO (List.replicate n false) = .cells (List.replicate n (Value.bool false)).toArray 4 := by unfold goneO; rw [List.map_replicate]
end Go.Proofs.Ytfmhfgkmoeimeaa
