/- The chapter's examples, as plain data. -/
import Derived.Test.YtfmhfgkmoeimeaaW17
namespace Go.Proofs.Ytfmhfgkmoeimeaa
open Go.RowKit

def aB : ByteArray := blockF ⟨#[97]⟩
def d0 : Dev := Dev.new 4
def d1 : Dev := (d0.write 1 aB).1
def d2 : Dev := (d1.write 1 aB).1
def d3 : Dev := d2.crash [5]
def d4 : Dev := d3.start.1
def d5 : Dev := (d4.write 2 aB).1
def d6 : Dev := d5.crash []
def d7 : Dev := d6.start.1
def d8 : Dev := (d7.write 2 aB).1
def d9 : Dev := d8.flush.1
def d10 : Dev := (d9.failAt 0 [1]).1
def d11 : Dev := (d10.erase 1).1
def z32 : ByteArray := strOfNums (List.replicate 32 0)

theorem a1 : (d0.write 1 aB).2 = 0 := by kernel_rfl
theorem a2 : (d1.write 1 aB).2 = 40 := by kernel_rfl
theorem a2p : (d2.acts.length : Int) = 1 := by kernel_rfl
theorem a2o : d2.on = 0 := by kernel_rfl
theorem a3 : d3.start.2 = 0 := by kernel_rfl
theorem a4 : (d4.read 1).2 = 0 := by kernel_rfl
theorem a4s : ((d4.read 1).1.toList == ((aB.extract 0 32 ++ z32 ++ aB.extract 0 32) ++ z32).toList) = true := by kernel_rfl
theorem a5 : (d4.write 2 aB).2 = 0 := by kernel_rfl
theorem a5o : d5.on = 0 := by kernel_rfl
theorem a6 : d6.start.2 = 0 := by kernel_rfl
theorem a7 : (d7.read 2).2 = 41 := by kernel_rfl
theorem a8 : (d7.write 2 aB).2 = 0 := by kernel_rfl
theorem a9 : d8.flush.2 = 0 := by kernel_rfl
theorem a10 : (d9.failAt 0 [1]).2 = 0 := by kernel_rfl
theorem a11 : (d10.erase 1).2 = 43 := by kernel_rfl
theorem a12 : stList d11 = [0, 2, 1, 0] := by kernel_rfl
theorem a12o : d11.off = true := by kernel_rfl
theorem a12s : (d11.starts : Int) = 2 := by kernel_rfl
theorem aBs : aB.size = 128 := blockF_size _
theorem m0 : d0.acts.length < 1000000 ∧ d1.acts.length < 1000000 ∧ d4.acts.length < 1000000 ∧ d7.acts.length < 1000000 ∧ d10.acts.length < 1000000 ∧ d3.starts < 1000000 ∧ d6.starts < 1000000 := by
  refine ⟨?_, ?_, ?_, ?_, ?_, ?_, ?_⟩ <;> exact of_decide_eq_true (by kernel_rfl)
end Go.Proofs.Ytfmhfgkmoeimeaa
