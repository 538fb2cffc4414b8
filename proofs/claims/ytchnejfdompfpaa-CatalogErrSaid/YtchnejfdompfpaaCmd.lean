/-
  Commands, plain: their bytes, what may be said, what bytes are read as. No program in sight.
-/
import Derived.Test.YtchnejfdompfpaaWire
namespace Go.Proofs.Ytchnejfdompfpaa

structure Cmd where
  kind : Int
  client : Int
  seq : Int
  name : ByteArray
  blob : Nat
  size : Int
  sum : Nat
  disks : List Int
  pool : Int
  vol : Int
  at_ : Int

def Cmd.zero : Cmd := ⟨0, 0, 0, ByteArray.empty, 0, 0, 0, [], 0, 0, 0⟩
def cmdVal (c : Cmd) (dv : Value) : Value := .agg #[.int .i64 c.kind, .int .i64 c.client, .int .i64 c.seq, .string c.name, .int .u64 (c.blob : Int), .int .i64 c.size, .int .u32 (c.sum : Int), dv, .int .i64 c.pool, .int .i64 c.vol, .int .i64 c.at_]
def upB (n l : Int) : Bool := decide (0 ≤ n) && decide (n ≤ l)
def stepOk (ds : List Int) (k : Nat) : Bool := upB (ds.getD k 0) 5 && (k == 0 || decide (ds.getD (k - 1) 0 < ds.getD k 0))
def risesB (ds : List Int) : Bool := (List.range ds.length).all (stepOk ds)
def Cmd.good (c : Cmd) : Bool :=
  upB c.kind 14 && (c.kind != 0) && risesB c.disks && upB c.client 1073741824 && upB c.seq 1073741824 && decide (c.name.size ≤ 32) && upB c.size 4000 && upB c.pool 1 && upB c.vol 11 && upB c.at_ 1073741824
/-- what any command's fields are -/
structure Cmd.Wf (c : Cmd) : Prop where
  kind : -9223372036854775808 ≤ c.kind ∧ c.kind ≤ 9223372036854775807
  client : -9223372036854775808 ≤ c.client ∧ c.client ≤ 9223372036854775807
  seq : -9223372036854775808 ≤ c.seq ∧ c.seq ≤ 9223372036854775807
  blob : c.blob < 18446744073709551616
  size : -9223372036854775808 ≤ c.size ∧ c.size ≤ 9223372036854775807
  sum : c.sum < 4294967296
  pool : -9223372036854775808 ≤ c.pool ∧ c.pool ≤ 9223372036854775807
  vol : -9223372036854775808 ≤ c.vol ∧ c.vol ≤ 9223372036854775807
  at_ : -9223372036854775808 ≤ c.at_ ∧ c.at_ ≤ 9223372036854775807
  disks : ∀ d ∈ c.disks, -9223372036854775808 ≤ d ∧ d ≤ 9223372036854775807

def Cmd.enc1 (c : Cmd) : List UInt8 := [c.kind, c.client, c.seq].flatMap ienc ++ [c.name].flatMap senc ++ [c.blob].flatMap uenc ++ [c.size].flatMap ienc ++ [c.sum].flatMap uenc
def Cmd.enc (c : Cmd) : List UInt8 := c.enc1 ++ lenc c.disks ++ [c.pool, c.vol, c.at_].flatMap ienc

/-- the fields as they are read one behind the other; the sum whole; the decoder behind them -/
def craw (d : Dc) : Cmd × Nat × Dc :=
  let k := d.i 14
  let cl := k.2.i 1073741824
  let sq := cl.2.i 1073741824
  let nm := sq.2.s 32
  let bl := nm.2.u
  let sz := bl.2.i 4000
  let su := sz.2.u
  let dk := su.2.list 6 5
  let po := dk.2.i 1
  let vo := po.2.i 11
  let at_ := vo.2.i 1073741824
  (⟨k.1, cl.1, sq.1, ⟨nm.1.toArray⟩, bl.1, sz.1, su.1 % 4294967296, dk.1, po.1, vo.1, at_.1⟩, su.1, at_.2)
def cend (r : Cmd × Nat × Dc) : Dc := (if (decide (4294967295 < r.2.1) || !r.1.good) = true then r.2.2.fail 3 else r.2.2).done
def cread (s : List UInt8) : Cmd × Int := if (cend (craw ⟨s, 0⟩)).err = 0 then ((craw ⟨s, 0⟩).1, 0) else (Cmd.zero, (cend (craw ⟨s, 0⟩)).err)
end Go.Proofs.Ytchnejfdompfpaa
