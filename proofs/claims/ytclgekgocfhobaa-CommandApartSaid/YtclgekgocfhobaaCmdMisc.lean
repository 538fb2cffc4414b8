/-
  command.IsClient; as the document's
-/
import Derived.Test.YtclgekgocfhobaaCmdGood
namespace Go.Proofs.Ytclgekgocfhobaa
open Go.RowKit

def Cmd.isClient (c : Cmd) : Bool := decide (1 ≤ c.kind) && decide (c.kind ≤ 5)
set_option maxRecDepth 100000 in
theorem isClient_any (w : World) (c : Cmd) (dv : Value) : Calls Try.prog 19 #[cmdVal c dv] w fun e w' => e = .returned (.bool c.isClient) ∧ Ext w w' := by
  unfold cmdVal Cmd.isClient
  have hB := At.new w 26 #[.int .i64 c.kind, .int .i64 c.client, .int .i64 c.seq, .string c.name, .int .u64 (c.blob : Int), .int .i64 c.size, .int .u32 (c.sum : Int), dv, .int .i64 c.pool, .int .i64 c.vol, .int .i64 c.at_]
  have c0 := hB.cell 0
  simp at c0
  by_cases h : 1 ≤ c.kind
  · have t1 : decide (1 ≤ c.kind) = true := by simpa using h
    by_cases h2 : c.kind ≤ 5
    · have t2 : decide (c.kind ≤ 5) = true := by simpa using h2
      go_enter Try.func19, Try.ntmps19
      go_wp2
      go_ret
      exact ⟨by simp [h, h2], (Ext.refl w).alloc _⟩
    · have t2 : decide (c.kind ≤ 5) = false := by simpa using h2
      go_enter Try.func19, Try.ntmps19
      go_wp2
      go_ret
      exact ⟨by simp, (Ext.refl w).alloc _⟩
  · have t1 : decide (1 ≤ c.kind) = false := by simpa using h
    go_enter Try.func19, Try.ntmps19
    go_wp2
    go_ret
    exact ⟨by simp, (Ext.refl w).alloc _⟩

set_option maxRecDepth 100000 in
set_option maxHeartbeats 1000000 in
theorem told_any (w : World) (c : Cmd) (A : Option Addr) (n m : Nat) : Calls Try.prog 15 #[cmdVal c (.slice A n m)] w fun e w' => e = .returned (cmdVal c (.slice A n m)) ∧ Ext w w' := by
  unfold cmdVal
  go_enter Try.func15, Try.ntmps15
  go_wp2_with fail
  exact bodyPost_ret (v := .agg #[.int .i64 c.kind, .int .i64 c.client, .int .i64 c.seq, .string c.name, .int .u64 (c.blob : Int), .int .i64 c.size, .int .u32 (c.sum : Int), .slice A n m, .int .i64 c.pool, .int .i64 c.vol, .int .i64 c.at_]) (by simp [results, Try.results15, go_sem]) rfl ⟨rfl, ((Ext.refl w).alloc _).alloc _⟩

end Go.Proofs.Ytclgekgocfhobaa
