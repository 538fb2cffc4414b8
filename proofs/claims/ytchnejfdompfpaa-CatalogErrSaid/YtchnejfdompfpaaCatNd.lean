/-
  Layer 13: Named, of a name that none has.
-/
import Derived.Test.YtchnejfdompfpaaCatBlob
import Derived.Test.YtchnejfdompfpaaCatLive
namespace Go.Proofs.Ytchnejfdompfpaa
open Go.RowKit Go.Sort

set_option maxRecDepth 100000 in
set_option maxHeartbeats 2000000 in
theorem nd_none (w : World) (B c mb mn : Nat) (C : Ct) (h : CtAt w B c mb mn C) (m : ByteArray) (hn : lget m C.names = none) :
    Calls Try.prog 17 #[.pointer (some ⟨c, 0, none⟩), .string m] w fun e w' => e = .returned (.tuple #[.agg blZero, .bool false]) ∧ Ext w w' := by
  go_enter Try.func17, Try.ntmps17
  have hR := At.new w 44 blZero
  have hE := (Ext.refl w).alloc (.cells blZero 44)
  go_upto_region 1 with fail
  generalize hxb : w.heap.size = xb at *
  generalize World.alloc _ _ = W at *
  have hC := h.ext hE
  obtain ⟨c0, c1⟩ := hC.c0
  have hlk := hC.lookName m
  rw [hn] at hlk
  simp at hlk
  have hR2 := hR
  clear hC h hn
  have f0 := hR2.frozen 0
  have f1 := hR2.frozen 1
  have f2 := hR2.frozen 2
  have f3 := hR2.frozen 3
  have f4 := hR2.frozen 4
  have f5 := hR2.frozen 5
  have f6 := hR2.frozen 6
  have f7 := hR2.frozen 7
  have f8 := hR2.frozen 8
  have f9 := hR2.frozen 9
  have f10 := hR2.frozen 10
  have f11 := hR2.frozen 11
  have f12 := hR2.frozen 12
  have r0 := hR2.cell 0
  have r1 := hR2.cell 1
  have r2 := hR2.cell 2
  have r3 := hR2.cell 3
  have r4 := hR2.cell 4
  have r5 := hR2.cell 5
  have r6 := hR2.cell 6
  have r7 := hR2.cell 7
  have r8 := hR2.cell 8
  have r9 := hR2.cell 9
  have r10 := hR2.cell 10
  have r11 := hR2.cell 11
  have r12 := hR2.cell 12
  simp at r0 r1 r2 r3 r4 r5 r6 r7 r8 r9 r10 r11 r12
  go_wp2_with fail
  obtain ⟨hZ, hCz⟩ := blob_out hR2 (.int .u64 0) (.string ⟨#[]⟩) (.int .i64 0) (.int .u32 0) (.slice none 0 0) (.bool false) (.int .i64 0) (.int .i64 0) (.bool false) (.int .i64 0) (.int .i64 0) (.int .i64 0) (.bool false)
  generalize World.setCell _ _ _ = WZ at hZ hCz ⊢
  have g0 := hZ.cell 0
  have g1 := hZ.cell 1
  have g2 := hZ.cell 2
  have g3 := hZ.cell 3
  have g4 := hZ.cell 4
  have g5 := hZ.cell 5
  have g6 := hZ.cell 6
  have g7 := hZ.cell 7
  have g8 := hZ.cell 8
  have g9 := hZ.cell 9
  have g10 := hZ.cell 10
  have g11 := hZ.cell 11
  have g12 := hZ.cell 12
  simp at g0 g1 g2 g3 g4 g5 g6 g7 g8 g9 g10 g11 g12
  have hwl : w.heap.size ≤ xb := by omega
  refine bodyPost_ret (v := .tuple #[.agg blZero, .bool false]) (by simp [results, Try.results17, go_sem, g0, g1, g2, g3, g4, g5, g6, g7, g8, g9, g10, g11, g12]) rfl ⟨rfl, Chg.mono (hE.chg_trans hCz) fun j hj e => by have e' : j = xb := e; omega⟩
end Go.Proofs.Ytchnejfdompfpaa
