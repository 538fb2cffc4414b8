/-
  Layer 12: awake.
-/
import Derived.Test.YtclgekgocfhobaaDiskPlain
import Derived.Test.YtclgekgocfhobaaCmdWrite
import Derived.Test.YtclgekgocfhobaaCmdRead
import Derived.Test.YtclgekgocfhobaaCmdMisc
namespace Go.Proofs.Ytclgekgocfhobaa
open Go.RowKit

theorem disk_0029 : diskOf [2, 0, 2, 9] = [0, 2] := by rw [diskOf_eq]; decide
abbrev bA : ByteArray := ⟨#[97]⟩
def c0 : Cmd := ⟨1, 1, 1, bA, 7, 1, 0, [0, 2], 0, 0, 0⟩
theorem c0_enc : c0.enc = [1, 1, 1, 1, 97, 7, 1, 0, 2, 0, 2, 0, 0, 0] := by decide +kernel
theorem c0_read : cread [1, 1, 1, 1, 97, 7, 1, 0, 2, 0, 2, 0, 0, 0] = (c0, 0) := by kernel_rfl
theorem c0_good : c0.good = true := by decide +kernel
theorem c0_client : c0.isClient = true := by decide +kernel
theorem c0_wf : c0.Wf := ⟨by decide, by decide, by decide, by decide, by decide, by decide, by decide, by decide, by decide, by decide⟩

set_option maxRecDepth 100000 in
set_option maxHeartbeats 4000000 in
theorem cawake_any (w : World) : Calls Try.prog 10 #[] w fun e w' => e = .returned (.bool true) ∧ Ext w w' := by
  go_enter Try.func10, Try.ntmps10
  go_wp2_with fail
  have hS0 : Sl (w.alloc (.cells #[.int .i64 2, .int .i64 0, .int .i64 2, .int .i64 9] 3)) (.slice (some ⟨w.heap.size, 0, none⟩) 4 4) (([2, 0, 2, 9] : List Int).map (Value.int .i64)) := by
    refine ⟨_, 4, rfl, fun _ => ⟨_, 0, rfl, fun i x hi => ?_⟩⟩
    rw [(At.new w 3 #[.int .i64 2, .int .i64 0, .int .i64 2, .int .i64 9]).cell (0 + i), Nat.zero_add]
    simpa using hi
  refine (disk_any _ _ [2, 0, 2, 9] hS0 (by decide)).mono ?_
  rintro e w1 ⟨v, rfl, hown, hE1⟩
  rw [disk_0029] at hown
  have X1 : Ext w w1 := ((Ext.refl w).alloc _).trans hE1
  have hS := Sl.of_own hown
  obtain ⟨A, m, c, rfl⟩ := own_slice hown
  clear hown hE1 hS0
  have cw := fun W hS => write_any W c0 (.slice A m c) c0_wf hS (by decide) (by decide)
  rw [c0_enc] at cw
  unfold cmdVal at cw
  go_wp2_with fail
  refine (cw _ (hS.ext ((Ext.refl _).alloc _))).mono ?_
  clear cw
  have hB := At.new w1 26 #[.int .i64 1, .int .i64 1, .int .i64 1, .string ⟨#[97]⟩, .int .u64 7, .int .i64 1, .int .u32 0, .slice A m c, .int .i64 0, .int .i64 0, .int .i64 0]
  have X2 := X1.alloc (.cells #[.int .i64 1, .int .i64 1, .int .i64 1, .string ⟨#[97]⟩, .int .u64 7, .int .i64 1, .int .u32 0, .slice A m c, .int .i64 0, .int .i64 0, .int .i64 0] 26)
  replace hS := hS.ext ((Ext.refl w1).alloc (.cells #[.int .i64 1, .int .i64 1, .int .i64 1, .string ⟨#[97]⟩, .int .u64 7, .int .i64 1, .int .u32 0, .slice A m c, .int .i64 0, .int .i64 0, .int .i64 0] 26))
  generalize w1.alloc (.cells #[.int .i64 1, .int .i64 1, .int .i64 1, .string ⟨#[97]⟩, .int .u64 7, .int .i64 1, .int .u32 0, .slice A m c, .int .i64 0, .int .i64 0, .int .i64 0] 26) = w2 at hB X2 hS ⊢
  generalize w1.heap.size = bc at hB ⊢
  rintro e w3 ⟨rfl, hE3⟩
  replace hB := hB.ext hE3
  replace hS := hS.ext hE3
  replace X2 := X2.trans hE3
  clear hE3 X1
  go_wp2_with fail
  have cr := cread_any w3 ⟨#[1, 1, 1, 1, 97, 7, 1, 0, 2, 0, 2, 0, 0, 0]⟩ (by decide)
  rw [show cread _ = (c0, 0) from c0_read] at cr
  unfold cmdVal at cr
  refine cr.mono ?_
  clear cr
  rintro e w4 ⟨dv, rfl, hSd, hE4⟩
  obtain ⟨dA, dn, dc, rfl⟩ : ∃ A n c, dv = .slice A n c := by obtain ⟨A, c, h, _⟩ := hSd; exact ⟨A, _, c, h⟩
  replace hB := hB.ext hE4
  replace hS := hS.ext hE4
  replace X2 := X2.trans hE4
  clear hE4 hSd
  have y0 := hB.cell 0
  have y1 := hB.cell 1
  have y2 := hB.cell 2
  have y3 := hB.cell 3
  have y4 := hB.cell 4
  have y5 := hB.cell 5
  have y6 := hB.cell 6
  have y7 := hB.cell 7
  have y8 := hB.cell 8
  have y9 := hB.cell 9
  have y10 := hB.cell 10
  simp at y0 y1 y2 y3 y4 y5 y6 y7 y8 y9 y10
  have hblt := hB.lt
  have hnm : (c0.name.toList == [97]) = true := by decide +kernel
  have cg := fun W hS => good_any W c0 (.slice A m c) hS (by decide) (by decide)
  have ci := fun W => isClient_any W c0 (.slice A m c)
  rw [c0_good] at cg
  rw [c0_client] at ci
  unfold cmdVal at cg ci
  go_wp2_with fail
  refine (cg _ (hS.ext ((Ext.refl _).alloc _))).mono ?_
  clear cg
  rintro e w5 ⟨rfl, hE5⟩
  have X5 := (X2.alloc _).trans hE5
  have hB5 := (hB.alloc _).ext hE5
  clear y0 y1 y2 y3 y4 y5 y6 y7 y8 y9 y10 hE5 hB hS X2
  have y0 := hB5.cell 0
  have y1 := hB5.cell 1
  have y2 := hB5.cell 2
  have y3 := hB5.cell 3
  have y4 := hB5.cell 4
  have y5 := hB5.cell 5
  have y6 := hB5.cell 6
  have y7 := hB5.cell 7
  have y8 := hB5.cell 8
  have y9 := hB5.cell 9
  have y10 := hB5.cell 10
  simp at y0 y1 y2 y3 y4 y5 y6 y7 y8 y9 y10
  go_wp2_with fail
  refine (ci _).mono ?_
  clear ci
  rintro e w6 ⟨rfl, hE6⟩
  go_wp2_with fail
  go_ret
  exact ⟨rfl, X5.trans hE6⟩
end Go.Proofs.Ytclgekgocfhobaa
