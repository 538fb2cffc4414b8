/-
  CommandOne: the walk.
-/
import Derived.Test.YtclgekgocfhobaaCmdAwake
import Derived.Test.YtclgekgocfhobaaCmdPlain
import Derived.Test.YtclgekgocfhobaaCut
import Derived.Test.YtclgekgocfhobaaOpen2
namespace Go.Proofs.Ytclgekgocfhobaa
open Go.RowKit

set_option maxRecDepth 100000 in
set_option maxHeartbeats 4000000 in
theorem one_any (w : World) (s : ByteArray) (hs : s.size ≤ maxLen) : Calls Try.prog 4 #[.string s] w fun e w' => e = .returned (.bool true) ∧ Ext w w' := by
  have k1 := cut_any s 200 w hs (by omega)
  have g1 := cut_size s 200
  generalize cut s 200 = t at k1 g1
  go_enter Try.func4, Try.ntmps4
  go_wp2_with fail
  refine k1.mono ?_
  clear k1
  rintro e w0 ⟨rfl, rfl⟩
  go_wp2_with fail
  have cr := cread_any w0 t (by omega)
  have hz := @cread_err t.data.toList
  have hi := @cread_inv t.data.toList
  have hwf := @cread_wf t.data.toList
  generalize cread t.data.toList = F at cr hz hi hwf
  obtain ⟨c, e0⟩ := F
  simp only at cr hz
  refine cr.mono ?_
  clear cr
  rintro e w1 ⟨dv, rfl, hSd, hE1⟩
  obtain ⟨dA, dc, rfl, hx⟩ := hSd
  have hS : Sl w1 (.slice dA (c.disks.map (Value.int .i64)).length dc) (c.disks.map (Value.int .i64)) := ⟨dA, dc, rfl, hx⟩
  clear hx
  rw [List.length_map] at hS ⊢
  unfold cmdVal
  have hB := At.new w1 26 #[.int .i64 c.kind, .int .i64 c.client, .int .i64 c.seq, .string c.name, .int .u64 (c.blob : Int), .int .i64 c.size, .int .u32 (c.sum : Int), .slice dA c.disks.length dc, .int .i64 c.pool, .int .i64 c.vol, .int .i64 c.at_]
  replace hS := hS.ext ((Ext.refl w1).alloc (.cells #[.int .i64 c.kind, .int .i64 c.client, .int .i64 c.seq, .string c.name, .int .u64 (c.blob : Int), .int .i64 c.size, .int .u32 (c.sum : Int), .slice dA c.disks.length dc, .int .i64 c.pool, .int .i64 c.vol, .int .i64 c.at_] 26))
  have X := hE1.alloc (.cells #[.int .i64 c.kind, .int .i64 c.client, .int .i64 c.seq, .string c.name, .int .u64 (c.blob : Int), .int .i64 c.size, .int .u32 (c.sum : Int), .slice dA c.disks.length dc, .int .i64 c.pool, .int .i64 c.vol, .int .i64 c.at_] 26)
  by_cases he : e0 = 0
  · subst he
    obtain ⟨hg, henc⟩ := hi rfl
    have hw := hwf rfl
    have hnm := Cmd.good_iff.1 hg
    have hnm1 : c.name.size ≤ 1048576 := by omega
    have hdl : c.disks.length ≤ 1048576 := by have := rises_len hnm.2.2.1; omega
    clear hnm hi hwf hz
    go_wp2_with fail
    generalize w1.alloc (.cells #[.int .i64 c.kind, .int .i64 c.client, .int .i64 c.seq, .string c.name, .int .u64 (c.blob : Int), .int .i64 c.size, .int .u32 (c.sum : Int), .slice dA c.disks.length dc, .int .i64 c.pool, .int .i64 c.vol, .int .i64 c.at_] 26) = w2 at hB hS X ⊢
    generalize w1.heap.size = b at hB ⊢
    clear hE1
    refine (cawake_any _).mono ?_
    rintro e w3 ⟨rfl, hE3⟩
    replace hB := hB.ext hE3
    replace hS := hS.ext hE3
    replace X := X.trans hE3
    clear hE3
    have y0 := hB.cell 0
    have y1 := hB.cell 1
    have y2 := hB.cell 2
    have y3 := hB.cell 3
    have y4 := hB.cell 4
    have y5 := hB.cell 5
    have y6 := hB.cell 6
    have y7 := hB.cell 7
    have y8 := hB.cell 8
    have y9 := hB.cell 9
    have y10 := hB.cell 10
    simp at y0 y1 y2 y3 y4 y5 y6 y7 y8 y9 y10
    go_wp2_with fail
    have cg := good_any w3 c (.slice dA c.disks.length dc) hS (by omega) (by omega)
    rw [hg] at cg
    unfold cmdVal at cg
    refine cg.mono ?_
    clear cg
    rintro e w4 ⟨rfl, hE4⟩
    replace hB := hB.ext hE4
    replace hS := hS.ext hE4
    replace X := X.trans hE4
    clear hE4
    clear y0 y1 y2 y3 y4 y5 y6 y7 y8 y9 y10
    have y0 := hB.cell 0
    have y1 := hB.cell 1
    have y2 := hB.cell 2
    have y3 := hB.cell 3
    have y4 := hB.cell 4
    have y5 := hB.cell 5
    have y6 := hB.cell 6
    have y7 := hB.cell 7
    have y8 := hB.cell 8
    have y9 := hB.cell 9
    have y10 := hB.cell 10
    simp at y0 y1 y2 y3 y4 y5 y6 y7 y8 y9 y10
    go_wp2_with fail
    have cw := write_any w4 c (.slice dA c.disks.length dc) hw hS hdl hnm1
    rw [henc, show (⟨t.data.toList.toArray⟩ : ByteArray) = t from rfl] at cw
    unfold cmdVal at cw
    refine cw.mono ?_
    clear cw
    rintro e w5 ⟨rfl, hE5⟩
    go_wp2_with fail
    go_ret
    exact ⟨rfl, X.trans hE5⟩
  · have hcz := hz he
    subst hcz
    have t1 : (e0 != 0) = true := by simpa using he
    clear hi hwf hz hS
    go_wp2_with fail
    generalize w1.alloc (.cells #[.int .i64 Cmd.zero.kind, .int .i64 Cmd.zero.client, .int .i64 Cmd.zero.seq, .string Cmd.zero.name, .int .u64 (Cmd.zero.blob : Int), .int .i64 Cmd.zero.size, .int .u32 (Cmd.zero.sum : Int), .slice dA Cmd.zero.disks.length dc, .int .i64 Cmd.zero.pool, .int .i64 Cmd.zero.vol, .int .i64 Cmd.zero.at_] 26) = w2 at hB X ⊢
    generalize w1.heap.size = b at hB ⊢
    clear hE1
    refine (cawake_any _).mono ?_
    rintro e w3 ⟨rfl, hE3⟩
    replace hB := hB.ext hE3
    replace X := X.trans hE3
    clear hE3
    have y0 := hB.cell 0
    have y3 := hB.cell 3
    have y7 := hB.cell 7
    simp at y0 y3 y7
    have n1 : (Cmd.zero.kind == 0) = true := rfl
    have n2 : Cmd.zero.name.toList = [] := by decide +kernel
    have n3 : Cmd.zero.disks.length = 0 := rfl
    go_wp2_with fail
    go_ret
    exact ⟨rfl, X⟩
end Go.Proofs.Ytclgekgocfhobaa
