/- The device as plain data: blocks, acts under way, and what each method answers. Plain definitions; nothing of the program in it. -/
import Derived.WalkKit
namespace Go.Proofs.Ytfmhfgkmoeimeaa
open Go.RowKit

/-- What one block is: its state (0 blank, 1 written, 2 gone), its bytes. -/
structure PB where
  st : Int
  data : ByteArray

instance : Inhabited PB := ⟨⟨0, ByteArray.empty⟩⟩

/-- Block i of a list. -/
def pbAt (l : List PB) (i : Nat) : PB := l.getD i default

/-- An act under way. -/
inductive PAct where
  | write (at_ : Nat) (data : ByteArray)
  | erase (at_ : Nat)

def PAct.of : PAct → Nat
  | .write a _ => a
  | .erase a => a

def doneF : PAct → PB
  | .write _ d => ⟨1, d⟩
  | .erase _ => ⟨2, ByteArray.empty⟩

/-- Bit k of a number of 64 bits, in two's complement. -/
def bitOf (n : Int) (k : Nat) : Bool := decide ((n / 2 ^ k) % 2 = 1)

def tornBytes (d : ByteArray) (keep : Int) : ByteArray :=
  ⟨((List.range d.size).map fun i => if bitOf keep (i / 32) then d.data.getD i 0 else 0).toArray⟩

def tornF (x : PAct) (was : PB) (keep : Int) : PB :=
  match x with
  | .write _ d => if keep % 16 = 0 then was else ⟨1, tornBytes d keep⟩
  | .erase _ => if keep % 2 = 0 then was else ⟨2, ByteArray.empty⟩

/-- The device: what is sure, what is there now, the acts, is it off, its starts, what is left to a failure, what that keeps. -/
structure Dev where
  sure : List PB
  now : List PB
  acts : List PAct
  off : Bool
  starts : Nat
  left : Int
  keep : List Int

namespace Dev
def len (D : Dev) : Nat := D.now.length
def stateAt (D : Dev) (i : Int) : Int := if i < 0 ∨ i ≥ D.len then -1 else (pbAt D.now i.toNat).st
def dataAt (D : Dev) (i : Int) : ByteArray := (pbAt D.now i.toNat).data
def on (D : Dev) : Int := if D.off then 43 else 0
def block (D : Dev) (i : Int) : Int := if D.on = 0 ∧ D.stateAt i < 0 then 2 else D.on
/-- What is sure behind a crash, the acts from number k on. -/
def tear : List PAct → List Int → List PB → List PB
  | [], _, s => s
  | x :: r, ks, s => tear r ks.tail (s.set x.of (tornF x (pbAt s x.of) (ks.headD 0)))
def crash (D : Dev) (keep : List Int) : Dev :=
  if D.off then D else
  let s := tear D.acts keep D.sure
  { D with sure := s, now := s, acts := [], off := true, left := -1 }
/-- An act is done, or fails: the device behind the count. -/
def fails (D : Dev) : Bool := decide (D.left = 0)
def count (D : Dev) : Dev := if 0 < D.left then { D with left := D.left - 1 } else D
def put (D : Dev) (x : PAct) : Dev := { D with acts := D.acts ++ [x], now := D.now.set x.of (doneF x) }
def do_ (D : Dev) (x : PAct) : Dev × Int :=
  if D.fails then (((D.count).put x).crash D.keep, 43) else ((D.count).put x, 0)
def write (D : Dev) (i : Int) (data : ByteArray) : Dev × Int :=
  if D.block i ≠ 0 then (D, D.block i) else
  if data.size ≠ 128 then (D, 2) else
  if D.stateAt i = 1 then (D, 40) else
  if D.stateAt i = 2 then (D, 42) else D.do_ (.write i.toNat data)
def erase (D : Dev) (i : Int) : Dev × Int :=
  if D.block i ≠ 0 then (D, D.block i) else
  if D.stateAt i = 0 then (D, 41) else
  if D.stateAt i = 2 then (D, 0) else D.do_ (.erase i.toNat)
def flush (D : Dev) : Dev × Int :=
  if D.off then (D, 43) else
  if D.fails then ((D.count).crash D.keep, 43) else ({ D.count with sure := D.now, acts := [] }, 0)
def read (D : Dev) (i : Int) : ByteArray × Int :=
  if D.block i ≠ 0 then (ByteArray.empty, D.block i) else
  if D.stateAt i = 0 then (ByteArray.empty, 41) else
  if D.stateAt i = 2 then (ByteArray.empty, 42) else (D.dataAt i, 0)
def failAt (D : Dev) (n : Int) (keep : List Int) : Dev × Int :=
  if D.off then (D, 43) else if n < 0 then (D, 2) else ({ D with left := n, keep := keep }, 0)
def start (D : Dev) : Dev × Int := if D.off then ({ D with off := false, starts := D.starts + 1 }, 0) else (D, 2)
def tamperBad (D : Dev) (i state : Int) (data : ByteArray) : Bool :=
  decide (D.stateAt i < 0 ∨ state < 0 ∨ 2 < state ∨ (state = 1 ∧ data.size ≠ 128) ∨ (state ≠ 1 ∧ data.size ≠ 0))
def tamper (D : Dev) (i state : Int) (data : ByteArray) : Dev × Int :=
  if D.tamperBad i state data then (D, 2) else
  ({ D with acts := D.acts.filter (fun x => decide ((x.of : Int) ≠ i)), sure := D.sure.set i.toNat ⟨state, data⟩, now := D.now.set i.toNat ⟨state, data⟩ }, 0)
def clone (D : Dev) : Dev := { sure := D.sure, now := D.sure, acts := [], off := false, starts := 0, left := -1, keep := [] }
def new (n : Nat) : Dev := { sure := List.replicate n default, now := List.replicate n default, acts := [], off := false, starts := 0, left := -1, keep := [] }

/-- What is true of each device that the program makes. -/
structure OK (D : Dev) : Prop where
  len : D.sure.length = D.now.length
  pos : 4 ≤ D.now.length
  max : D.now.length ≤ 512
  acts : ∀ x ∈ D.acts, x.of < D.now.length
  left : -1 ≤ D.left
  leftMax : D.left ≤ 9223372036854775807
  wr : ∀ x ∈ D.acts, ∀ a d, x = .write a d → d.size = 128
  many : D.acts.length ≤ 1000000
  starts : D.starts ≤ 1000000
  keepMax : D.keep.length ≤ 1000000
  st : ∀ b ∈ D.now, 0 ≤ b.st ∧ b.st ≤ 2
  stS : ∀ b ∈ D.sure, 0 ≤ b.st ∧ b.st ≤ 2
  keepIs : ∀ n ∈ D.keep, -9223372036854775808 ≤ n ∧ n ≤ 9223372036854775807
end Dev
end Go.Proofs.Ytfmhfgkmoeimeaa
