/- A list of one thing asked; a list of ints seen from a higher block. -/
import Derived.Test.YtfmhfgkmoeimeaaW17
namespace Go.Proofs.Ytfmhfgkmoeimeaa
open Go.RowKit

theorem KsAt.up {w : World} {B B' : Nat} {v : Value} {ks : List Int} (h : KsAt w B v ks) (hb : B ≤ B') : KsAt w B' v ks := by
  obtain ⟨A, c, rfl, hc⟩ := h
  refine ⟨A, c, rfl, fun k hk => ?_⟩
  obtain ⟨ad, ha, hlt, hcell⟩ := hc k hk
  exact ⟨ad, ha, by omega, hcell⟩
theorem dos_one {W : World} {b B : Nat} {x : PDo} {kv : Value} (hb : Blk W b 35 [.int .u8 x.what, .int .i64 x.i, .int .i64 x.n, .string x.s, kv]) (hlt : b < B) (hx : x.In) (hk : KsAt W B kv x.k) : DosAt W B (.slice (some ⟨b, 0, none⟩) 1 1) [x] := by
  refine ⟨_, _, rfl, Nat.le_refl _, by simpa using hx, fun k hkk => ?_⟩
  obtain rfl : k = 0 := by simpa using hkk
  exact ⟨b, 0, kv, rfl, hlt, hb.cell 0, hb.cell 1, hb.cell 2, hb.cell 3, hb.cell 4, hk⟩
end Go.Proofs.Ytfmhfgkmoeimeaa
