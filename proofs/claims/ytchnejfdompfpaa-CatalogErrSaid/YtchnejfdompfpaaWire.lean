/-
  Numbers, strings and lists as bytes, plain: no program in sight.
-/
import Derived.WalkKit
import Derived.Lib.BitFns
namespace Go.Proofs.Ytchnejfdompfpaa

/-- the k upper groups of a number, each with the bit more -/
def uhi (v : Nat) : Nat → List UInt8
  | 0 => []
  | k + 1 => UInt8.ofNat (v / 128 ^ (k + 1) % 128 + 128) :: uhi v k
def ugroups (v : Nat) : Nat := (Lib.bitLen (v ||| 1) - 1) / 7
def uenc (v : Nat) : List UInt8 := uhi v (ugroups v) ++ [UInt8.ofNat (v % 128)]
def ienc (n : Int) : List UInt8 := uenc (max n 0).toNat
def senc (s : ByteArray) : List UInt8 := ienc s.size ++ s.data.toList
def lenc (l : List Int) : List UInt8 := ienc l.length ++ l.flatMap ienc

/-- A decoder: the bytes that are left, the error. -/
structure Dc where
  rest : List UInt8
  err : Int
def Dc.fail (d : Dc) (e : Int) : Dc := if d.err = 0 then { d with err := e } else d
def Dc.next (d : Dc) : Option UInt8 × Dc :=
  if d.err = 0 then (match d.rest with | [] => (none, { d with err := 2 }) | c :: r => (some c, { d with rest := r })) else (none, d)
def uloop (first : Bool) (v : Nat) : List UInt8 → Nat × Dc
  | [] => (0, ⟨[], 2⟩)
  | c :: r => if (first && c == 128) || decide (144115188075855871 < v) then (0, ⟨r, 3⟩)
    else if c.toNat < 128 then (v * 128 + c.toNat % 128, ⟨r, 0⟩) else uloop false (v * 128 + c.toNat % 128) r
def Dc.u (d : Dc) : Nat × Dc := if d.err = 0 then uloop true 0 d.rest else (0, d)
def Dc.i (d : Dc) (most : Int) : Nat × Dc := if max most 0 < (d.u.1 : Int) then (0, d.u.2.fail 11) else d.u
def Dc.b (d : Dc) : Bool × Dc := match d.next with
  | (none, e) => (false, e)
  | (some c, e) => if 1 < c.toNat then (false, e.fail 3) else (c == 1, e)
def Dc.s (d : Dc) (most : Int) : List UInt8 × Dc :=
  if (d.i most).2.err = 0 then
    if (d.i most).2.rest.length < (d.i most).1 then ([], { (d.i most).2 with err := 2 })
    else ((d.i most).2.rest.take (d.i most).1, { (d.i most).2 with rest := (d.i most).2.rest.drop (d.i most).1 })
  else ([], (d.i most).2)
def listLoop (each : Int) : Nat → Dc → Option (List Int) × Dc
  | 0, d => (some [], d)
  | n + 1, d => if (d.i each).2.err = 0 then (match listLoop each n (d.i each).2 with | (none, e) => (none, e) | (some l, e) => (some (((d.i each).1 : Int) :: l), e)) else (none, (d.i each).2)
def Dc.list (d : Dc) (most each : Int) : List Int × Dc := (((listLoop each (d.i most).1 (d.i most).2).1).getD [], (listLoop each (d.i most).1 (d.i most).2).2)
def Dc.done (d : Dc) : Dc := if d.rest = [] then d else d.fail 3
end Go.Proofs.Ytchnejfdompfpaa
