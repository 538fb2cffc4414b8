/-
  Layer 13: own, Blob.
-/
import Derived.Test.YtchnejfdompfpaaCatPut
namespace Go.Proofs.Ytchnejfdompfpaa
open Go.RowKit

abbrev blZero : Array Value := #[.int .u64 0, .string ⟨#[]⟩, .int .i64 0, .int .u32 0, .slice none 0 0, .bool false, .int .i64 0, .int .i64 0, .bool false, .int .i64 0, .int .i64 0, .int .i64 0, .bool false]
theorem blob_out {W : World} {g : Nat} (h : At W g 44 blZero) (a0 a1 a2 a3 a4 a5 a6 a7 a8 a9 a10 a11 a12 : Value) :
    At (((((((((((((W.setCell ⟨g, 0, none⟩ a0).setCell ⟨g, 1, none⟩ a1).setCell ⟨g, 2, none⟩ a2).setCell ⟨g, 3, none⟩ a3).setCell ⟨g, 4, none⟩ a4).setCell ⟨g, 5, none⟩ a5).setCell ⟨g, 6, none⟩ a6).setCell ⟨g, 7, none⟩ a7).setCell ⟨g, 8, none⟩ a8).setCell ⟨g, 9, none⟩ a9).setCell ⟨g, 10, none⟩ a10).setCell ⟨g, 11, none⟩ a11).setCell ⟨g, 12, none⟩ a12) g 44 #[a0, a1, a2, a3, a4, a5, a6, a7, a8, a9, a10, a11, a12] ∧ Chg (· = g) W (((((((((((((W.setCell ⟨g, 0, none⟩ a0).setCell ⟨g, 1, none⟩ a1).setCell ⟨g, 2, none⟩ a2).setCell ⟨g, 3, none⟩ a3).setCell ⟨g, 4, none⟩ a4).setCell ⟨g, 5, none⟩ a5).setCell ⟨g, 6, none⟩ a6).setCell ⟨g, 7, none⟩ a7).setCell ⟨g, 8, none⟩ a8).setCell ⟨g, 9, none⟩ a9).setCell ⟨g, 10, none⟩ a10).setCell ⟨g, 11, none⟩ a11).setCell ⟨g, 12, none⟩ a12) := by
  have h0 : At (W.setCell ⟨g, 0, none⟩ a0) g 44 #[a0, .string ⟨#[]⟩, .int .i64 0, .int .u32 0, .slice none 0 0, .bool false, .int .i64 0, .int .i64 0, .bool false, .int .i64 0, .int .i64 0, .int .i64 0, .bool false] := h.set 0 a0
  have c0 := (Chg.refl (· = g) W).setCell (p := ⟨g, 0, none⟩) (.inl rfl) a0
  have h1 : At ((W.setCell ⟨g, 0, none⟩ a0).setCell ⟨g, 1, none⟩ a1) g 44 #[a0, a1, .int .i64 0, .int .u32 0, .slice none 0 0, .bool false, .int .i64 0, .int .i64 0, .bool false, .int .i64 0, .int .i64 0, .int .i64 0, .bool false] := h0.set 1 a1
  have c1 := (c0).setCell (p := ⟨g, 1, none⟩) (.inl rfl) a1
  have h2 : At (((W.setCell ⟨g, 0, none⟩ a0).setCell ⟨g, 1, none⟩ a1).setCell ⟨g, 2, none⟩ a2) g 44 #[a0, a1, a2, .int .u32 0, .slice none 0 0, .bool false, .int .i64 0, .int .i64 0, .bool false, .int .i64 0, .int .i64 0, .int .i64 0, .bool false] := h1.set 2 a2
  have c2 := (c1).setCell (p := ⟨g, 2, none⟩) (.inl rfl) a2
  have h3 : At ((((W.setCell ⟨g, 0, none⟩ a0).setCell ⟨g, 1, none⟩ a1).setCell ⟨g, 2, none⟩ a2).setCell ⟨g, 3, none⟩ a3) g 44 #[a0, a1, a2, a3, .slice none 0 0, .bool false, .int .i64 0, .int .i64 0, .bool false, .int .i64 0, .int .i64 0, .int .i64 0, .bool false] := h2.set 3 a3
  have c3 := (c2).setCell (p := ⟨g, 3, none⟩) (.inl rfl) a3
  have h4 : At (((((W.setCell ⟨g, 0, none⟩ a0).setCell ⟨g, 1, none⟩ a1).setCell ⟨g, 2, none⟩ a2).setCell ⟨g, 3, none⟩ a3).setCell ⟨g, 4, none⟩ a4) g 44 #[a0, a1, a2, a3, a4, .bool false, .int .i64 0, .int .i64 0, .bool false, .int .i64 0, .int .i64 0, .int .i64 0, .bool false] := h3.set 4 a4
  have c4 := (c3).setCell (p := ⟨g, 4, none⟩) (.inl rfl) a4
  have h5 : At ((((((W.setCell ⟨g, 0, none⟩ a0).setCell ⟨g, 1, none⟩ a1).setCell ⟨g, 2, none⟩ a2).setCell ⟨g, 3, none⟩ a3).setCell ⟨g, 4, none⟩ a4).setCell ⟨g, 5, none⟩ a5) g 44 #[a0, a1, a2, a3, a4, a5, .int .i64 0, .int .i64 0, .bool false, .int .i64 0, .int .i64 0, .int .i64 0, .bool false] := h4.set 5 a5
  have c5 := (c4).setCell (p := ⟨g, 5, none⟩) (.inl rfl) a5
  have h6 : At (((((((W.setCell ⟨g, 0, none⟩ a0).setCell ⟨g, 1, none⟩ a1).setCell ⟨g, 2, none⟩ a2).setCell ⟨g, 3, none⟩ a3).setCell ⟨g, 4, none⟩ a4).setCell ⟨g, 5, none⟩ a5).setCell ⟨g, 6, none⟩ a6) g 44 #[a0, a1, a2, a3, a4, a5, a6, .int .i64 0, .bool false, .int .i64 0, .int .i64 0, .int .i64 0, .bool false] := h5.set 6 a6
  have c6 := (c5).setCell (p := ⟨g, 6, none⟩) (.inl rfl) a6
  have h7 : At ((((((((W.setCell ⟨g, 0, none⟩ a0).setCell ⟨g, 1, none⟩ a1).setCell ⟨g, 2, none⟩ a2).setCell ⟨g, 3, none⟩ a3).setCell ⟨g, 4, none⟩ a4).setCell ⟨g, 5, none⟩ a5).setCell ⟨g, 6, none⟩ a6).setCell ⟨g, 7, none⟩ a7) g 44 #[a0, a1, a2, a3, a4, a5, a6, a7, .bool false, .int .i64 0, .int .i64 0, .int .i64 0, .bool false] := h6.set 7 a7
  have c7 := (c6).setCell (p := ⟨g, 7, none⟩) (.inl rfl) a7
  have h8 : At (((((((((W.setCell ⟨g, 0, none⟩ a0).setCell ⟨g, 1, none⟩ a1).setCell ⟨g, 2, none⟩ a2).setCell ⟨g, 3, none⟩ a3).setCell ⟨g, 4, none⟩ a4).setCell ⟨g, 5, none⟩ a5).setCell ⟨g, 6, none⟩ a6).setCell ⟨g, 7, none⟩ a7).setCell ⟨g, 8, none⟩ a8) g 44 #[a0, a1, a2, a3, a4, a5, a6, a7, a8, .int .i64 0, .int .i64 0, .int .i64 0, .bool false] := h7.set 8 a8
  have c8 := (c7).setCell (p := ⟨g, 8, none⟩) (.inl rfl) a8
  have h9 : At ((((((((((W.setCell ⟨g, 0, none⟩ a0).setCell ⟨g, 1, none⟩ a1).setCell ⟨g, 2, none⟩ a2).setCell ⟨g, 3, none⟩ a3).setCell ⟨g, 4, none⟩ a4).setCell ⟨g, 5, none⟩ a5).setCell ⟨g, 6, none⟩ a6).setCell ⟨g, 7, none⟩ a7).setCell ⟨g, 8, none⟩ a8).setCell ⟨g, 9, none⟩ a9) g 44 #[a0, a1, a2, a3, a4, a5, a6, a7, a8, a9, .int .i64 0, .int .i64 0, .bool false] := h8.set 9 a9
  have c9 := (c8).setCell (p := ⟨g, 9, none⟩) (.inl rfl) a9
  have h10 : At (((((((((((W.setCell ⟨g, 0, none⟩ a0).setCell ⟨g, 1, none⟩ a1).setCell ⟨g, 2, none⟩ a2).setCell ⟨g, 3, none⟩ a3).setCell ⟨g, 4, none⟩ a4).setCell ⟨g, 5, none⟩ a5).setCell ⟨g, 6, none⟩ a6).setCell ⟨g, 7, none⟩ a7).setCell ⟨g, 8, none⟩ a8).setCell ⟨g, 9, none⟩ a9).setCell ⟨g, 10, none⟩ a10) g 44 #[a0, a1, a2, a3, a4, a5, a6, a7, a8, a9, a10, .int .i64 0, .bool false] := h9.set 10 a10
  have c10 := (c9).setCell (p := ⟨g, 10, none⟩) (.inl rfl) a10
  have h11 : At ((((((((((((W.setCell ⟨g, 0, none⟩ a0).setCell ⟨g, 1, none⟩ a1).setCell ⟨g, 2, none⟩ a2).setCell ⟨g, 3, none⟩ a3).setCell ⟨g, 4, none⟩ a4).setCell ⟨g, 5, none⟩ a5).setCell ⟨g, 6, none⟩ a6).setCell ⟨g, 7, none⟩ a7).setCell ⟨g, 8, none⟩ a8).setCell ⟨g, 9, none⟩ a9).setCell ⟨g, 10, none⟩ a10).setCell ⟨g, 11, none⟩ a11) g 44 #[a0, a1, a2, a3, a4, a5, a6, a7, a8, a9, a10, a11, .bool false] := h10.set 11 a11
  have c11 := (c10).setCell (p := ⟨g, 11, none⟩) (.inl rfl) a11
  have h12 : At (((((((((((((W.setCell ⟨g, 0, none⟩ a0).setCell ⟨g, 1, none⟩ a1).setCell ⟨g, 2, none⟩ a2).setCell ⟨g, 3, none⟩ a3).setCell ⟨g, 4, none⟩ a4).setCell ⟨g, 5, none⟩ a5).setCell ⟨g, 6, none⟩ a6).setCell ⟨g, 7, none⟩ a7).setCell ⟨g, 8, none⟩ a8).setCell ⟨g, 9, none⟩ a9).setCell ⟨g, 10, none⟩ a10).setCell ⟨g, 11, none⟩ a11).setCell ⟨g, 12, none⟩ a12) g 44 #[a0, a1, a2, a3, a4, a5, a6, a7, a8, a9, a10, a11, a12] := h11.set 12 a12
  have c12 := (c11).setCell (p := ⟨g, 12, none⟩) (.inl rfl) a12
  exact ⟨h12, c12⟩
set_option maxRecDepth 100000 in
set_option maxHeartbeats 4000000 in
theorem own_any (w : World) (g : Nat) (b : Bl) (dv : Value) (hB : At w g 44 (blCells b dv)) (hO : w.ownsRow 0 3 1 dv b.disks.length (b.disks.map (Value.int .i64))) (hdl : b.disks.length ≤ 17592186043904) :
    Calls Try.prog 29 #[.pointer (some ⟨g, 0, none⟩)] w fun e w' => ∃ dv', e = .returned (.agg (blCells b dv')) ∧ w'.ownsRow 0 3 1 dv' b.disks.length (b.disks.map (Value.int .i64)) ∧ Ext w w' := by
  obtain ⟨dA, dc, rfl⟩ := own_slc hO
  go_enter Try.func29, Try.ntmps29
  have hR := At.new w 44 blZero
  have hE := (Ext.refl w).alloc (.cells blZero 44)
  go_upto_region 1 with fail
  generalize hxb : w.heap.size = xb at *
  generalize World.alloc _ _ = W at *
  have hB1 := hB.ext hE
  have hO1 := own_keep hO hE (fun _ _ hh => hh)
  have b0 := hB1.cell 0
  have b1 := hB1.cell 1
  have b2 := hB1.cell 2
  have b3 := hB1.cell 3
  have b4 := hB1.cell 4
  have b5 := hB1.cell 5
  have b6 := hB1.cell 6
  have b7 := hB1.cell 7
  have b8 := hB1.cell 8
  have b9 := hB1.cell 9
  have b10 := hB1.cell 10
  have b11 := hB1.cell 11
  have b12 := hB1.cell 12
  simp at b0 b1 b2 b3 b4 b5 b6 b7 b8 b9 b10 b11 b12
  go_upto_region 2 with fail
  have hY := At.new W 44 (blCells b (.slice dA b.disks.length dc))
  have hR1 := hR.alloc (.cells (blCells b (.slice dA b.disks.length dc)) 44)
  have hE1 := hE.alloc (.cells (blCells b (.slice dA b.disks.length dc)) 44)
  have hB2 := hB1.alloc (.cells (blCells b (.slice dA b.disks.length dc)) 44)
  have hO2 := own_keep hO1 ((Ext.refl W).alloc (.cells (blCells b (.slice dA b.disks.length dc)) 44)) (fun _ _ hh => hh)
  have hxw : xb < W.heap.size := hR.lt
  clear b0 b1 b2 b3 b4 b5 b6 b7 b8 b9 b10 b11 b12 hB1 hO1 hR hE
  generalize hyb : W.heap.size = yb at *
  generalize World.alloc _ _ = W1 at *
  have b4 := hB2.cell 4
  simp at b4
  go_wp2_with fail
  refine (clone_any W1 _ b.disks (Sl.of_own hO2) hdl).mono ?_
  rintro e W2 ⟨v', rfl, hOc, hEc⟩
  have hY2 := hY.ext hEc
  have hR2 := hR1.ext hEc
  have hE2 := hE1.trans hEc
  have y4 := hY2.cell 4
  have f4 := hY2.frozen 4
  have hyl := hY2.lt
  simp at y4
  clear b4 hB2 hO2 hY hR1
  obtain ⟨vA, vc, rfl⟩ := own_slc hOc
  go_upto_region 3 with fail
  have hCs := (Chg.refl (· = yb) W2).setCell (p := ⟨yb, 4, none⟩) (.inl rfl) (.slice vA b.disks.length vc)
  have hY3 : At (W2.setCell ⟨yb, 4, none⟩ (.slice vA b.disks.length vc)) yb 44 (blCells b (.slice vA b.disks.length vc)) := hY2.set 4 _
  have hR3 := hR2.far (p := ⟨yb, 4, none⟩) (show xb ≠ yb by omega) (.slice vA b.disks.length vc)
  have hO3 := own_keep (own_base0 hOc) hCs (fun k hk e => own_apart' (own_base0 hOc) hY2 (by decide) k hk e)
  have hwl : w.heap.size ≤ yb := by omega
  have hE3 : Ext w (W2.setCell ⟨yb, 4, none⟩ (.slice vA b.disks.length vc)) := Chg.mono (hE2.chg_trans hCs) fun j hj e => by have e' : j = yb := e; omega
  clear y4 f4 hyl hY2 hR2 hE2 hOc hCs
  generalize World.setCell _ _ _ = W3 at *
  have b0 := hY3.cell 0
  have b1 := hY3.cell 1
  have b2 := hY3.cell 2
  have b3 := hY3.cell 3
  have b4 := hY3.cell 4
  have b5 := hY3.cell 5
  have b6 := hY3.cell 6
  have b7 := hY3.cell 7
  have b8 := hY3.cell 8
  have b9 := hY3.cell 9
  have b10 := hY3.cell 10
  have b11 := hY3.cell 11
  have b12 := hY3.cell 12
  simp at b0 b1 b2 b3 b4 b5 b6 b7 b8 b9 b10 b11 b12
  have f0 := hR3.frozen 0
  have f1 := hR3.frozen 1
  have f2 := hR3.frozen 2
  have f3 := hR3.frozen 3
  have f4 := hR3.frozen 4
  have f5 := hR3.frozen 5
  have f6 := hR3.frozen 6
  have f7 := hR3.frozen 7
  have f8 := hR3.frozen 8
  have f9 := hR3.frozen 9
  have f10 := hR3.frozen 10
  have f11 := hR3.frozen 11
  have f12 := hR3.frozen 12
  have r0 := hR3.cell 0
  have r1 := hR3.cell 1
  have r2 := hR3.cell 2
  have r3 := hR3.cell 3
  have r4 := hR3.cell 4
  have r5 := hR3.cell 5
  have r6 := hR3.cell 6
  have r7 := hR3.cell 7
  have r8 := hR3.cell 8
  have r9 := hR3.cell 9
  have r10 := hR3.cell 10
  have r11 := hR3.cell 11
  have r12 := hR3.cell 12
  simp at r0 r1 r2 r3 r4 r5 r6 r7 r8 r9 r10 r11 r12
  go_wp2_with fail
  obtain ⟨hZ, hCz⟩ := blob_out hR3 (.int .u64 (b.id : Int)) (.string b.name) (.int .i64 b.size) (.int .u32 (b.sum : Int)) (.slice vA b.disks.length vc) (.bool b.a.there) (.int .i64 b.a.vol) (.int .i64 b.a.at_) (.bool b.b.there) (.int .i64 b.b.vol) (.int .i64 b.b.at_) (.int .i64 b.pins) (.bool b.dead)
  generalize World.setCell _ _ _ = WZ at hZ hCz ⊢
  have g0 := hZ.cell 0
  have g1 := hZ.cell 1
  have g2 := hZ.cell 2
  have g3 := hZ.cell 3
  have g4 := hZ.cell 4
  have g5 := hZ.cell 5
  have g6 := hZ.cell 6
  have g7 := hZ.cell 7
  have g8 := hZ.cell 8
  have g9 := hZ.cell 9
  have g10 := hZ.cell 10
  have g11 := hZ.cell 11
  have g12 := hZ.cell 12
  simp at g0 g1 g2 g3 g4 g5 g6 g7 g8 g9 g10 g11 g12
  refine bodyPost_ret (v := .agg (blCells b (.slice vA b.disks.length vc))) (by simp [results, Try.results29, go_sem, g0, g1, g2, g3, g4, g5, g6, g7, g8, g9, g10, g11, g12]) rfl ⟨_, rfl, own_keep hO3 hCz (fun k hk e => own_apart' hO3 hR3 (by decide) k hk e), Chg.mono (hE3.chg_trans hCz) fun j hj e => by have e' : j = xb := e; omega⟩
set_option maxRecDepth 100000 in
set_option maxHeartbeats 4000000 in
theorem blob_some (w : World) (B c mb mn : Nat) (C : Ct) (h : CtAt w B c mb mn C) (id : Nat) {r : BR} (hf : C.find id = some r) (hdl : r.b.disks.length ≤ 17592186043904) :
    Calls Try.prog 15 #[.pointer (some ⟨c, 0, none⟩), .int .u64 (id : Int)] w fun e w' => ∃ dv', e = .returned (.tuple #[.agg (blCells r.b dv'), .bool true]) ∧ w'.ownsRow 0 3 1 dv' r.b.disks.length (r.b.disks.map (Value.int .i64)) ∧ Ext w w' := by
  go_enter Try.func15, Try.ntmps15
  have hR := At.new w 44 blZero
  have hE := (Ext.refl w).alloc (.cells blZero 44)
  go_upto_region 1 with fail
  generalize hxb : w.heap.size = xb at *
  generalize World.alloc _ _ = W at *
  have hC := h.ext hE
  obtain ⟨c0, c1⟩ := hC.c0
  have hlk := hC.look id
  rw [hf] at hlk
  simp only [ptrO] at hlk
  have hb := hC.bl r (find_mem hf).1
  have HB := Lib.hid (own_any W r.g r.b r.dv hb.1 hb.2 hdl)
  clear hb
  go_wp2_with fail
  refine HB.out.mono ?_
  rintro e W2 ⟨dv', rfl, hO, hE2⟩
  obtain ⟨vA, vc, rfl⟩ := own_slc hO
  have hR2 := hR.ext hE2
  have hE3 := hE.trans hE2
  clear hlk c0 c1 hR hE hC h HB
  have f0 := hR2.frozen 0
  have f1 := hR2.frozen 1
  have f2 := hR2.frozen 2
  have f3 := hR2.frozen 3
  have f4 := hR2.frozen 4
  have f5 := hR2.frozen 5
  have f6 := hR2.frozen 6
  have f7 := hR2.frozen 7
  have f8 := hR2.frozen 8
  have f9 := hR2.frozen 9
  have f10 := hR2.frozen 10
  have f11 := hR2.frozen 11
  have f12 := hR2.frozen 12
  have r0 := hR2.cell 0
  have r1 := hR2.cell 1
  have r2 := hR2.cell 2
  have r3 := hR2.cell 3
  have r4 := hR2.cell 4
  have r5 := hR2.cell 5
  have r6 := hR2.cell 6
  have r7 := hR2.cell 7
  have r8 := hR2.cell 8
  have r9 := hR2.cell 9
  have r10 := hR2.cell 10
  have r11 := hR2.cell 11
  have r12 := hR2.cell 12
  simp at r0 r1 r2 r3 r4 r5 r6 r7 r8 r9 r10 r11 r12
  go_wp2_with fail
  obtain ⟨hZ, hCz⟩ := blob_out hR2 (.int .u64 (r.b.id : Int)) (.string r.b.name) (.int .i64 r.b.size) (.int .u32 (r.b.sum : Int)) (.slice vA r.b.disks.length vc) (.bool r.b.a.there) (.int .i64 r.b.a.vol) (.int .i64 r.b.a.at_) (.bool r.b.b.there) (.int .i64 r.b.b.vol) (.int .i64 r.b.b.at_) (.int .i64 r.b.pins) (.bool r.b.dead)
  generalize World.setCell _ _ _ = WZ at hZ hCz ⊢
  have g0 := hZ.cell 0
  have g1 := hZ.cell 1
  have g2 := hZ.cell 2
  have g3 := hZ.cell 3
  have g4 := hZ.cell 4
  have g5 := hZ.cell 5
  have g6 := hZ.cell 6
  have g7 := hZ.cell 7
  have g8 := hZ.cell 8
  have g9 := hZ.cell 9
  have g10 := hZ.cell 10
  have g11 := hZ.cell 11
  have g12 := hZ.cell 12
  simp at g0 g1 g2 g3 g4 g5 g6 g7 g8 g9 g10 g11 g12
  have hwl : w.heap.size ≤ xb := by omega
  refine bodyPost_ret (v := .tuple #[.agg (blCells r.b (.slice vA r.b.disks.length vc)), .bool true]) (by simp [results, Try.results15, go_sem, g0, g1, g2, g3, g4, g5, g6, g7, g8, g9, g10, g11, g12]) rfl ⟨_, rfl, own_keep hO hCz (fun k hk e => own_apart' hO hR2 (by decide) k hk e), Chg.mono (hE3.chg_trans hCz) fun j hj e => by have e' : j = xb := e; omega⟩
set_option maxRecDepth 100000 in
set_option maxHeartbeats 4000000 in
theorem blob_none (w : World) (B c mb mn : Nat) (C : Ct) (h : CtAt w B c mb mn C) (id : Nat) (hf : C.find id = none) :
    Calls Try.prog 15 #[.pointer (some ⟨c, 0, none⟩), .int .u64 (id : Int)] w fun e w' => e = .returned (.tuple #[.agg blZero, .bool false]) ∧ Ext w w' := by
  go_enter Try.func15, Try.ntmps15
  have hR := At.new w 44 blZero
  have hE := (Ext.refl w).alloc (.cells blZero 44)
  go_upto_region 1 with fail
  generalize hxb : w.heap.size = xb at *
  generalize World.alloc _ _ = W at *
  have hC := h.ext hE
  obtain ⟨c0, c1⟩ := hC.c0
  have hlk := hC.look id
  rw [hf] at hlk
  simp only [ptrO] at hlk
  have hR2 := hR
  clear hC h
  have f0 := hR2.frozen 0
  have f1 := hR2.frozen 1
  have f2 := hR2.frozen 2
  have f3 := hR2.frozen 3
  have f4 := hR2.frozen 4
  have f5 := hR2.frozen 5
  have f6 := hR2.frozen 6
  have f7 := hR2.frozen 7
  have f8 := hR2.frozen 8
  have f9 := hR2.frozen 9
  have f10 := hR2.frozen 10
  have f11 := hR2.frozen 11
  have f12 := hR2.frozen 12
  have r0 := hR2.cell 0
  have r1 := hR2.cell 1
  have r2 := hR2.cell 2
  have r3 := hR2.cell 3
  have r4 := hR2.cell 4
  have r5 := hR2.cell 5
  have r6 := hR2.cell 6
  have r7 := hR2.cell 7
  have r8 := hR2.cell 8
  have r9 := hR2.cell 9
  have r10 := hR2.cell 10
  have r11 := hR2.cell 11
  have r12 := hR2.cell 12
  simp at r0 r1 r2 r3 r4 r5 r6 r7 r8 r9 r10 r11 r12
  go_wp2_with fail
  obtain ⟨hZ, hCz⟩ := blob_out hR2 (.int .u64 0) (.string ⟨#[]⟩) (.int .i64 0) (.int .u32 0) (.slice none 0 0) (.bool false) (.int .i64 0) (.int .i64 0) (.bool false) (.int .i64 0) (.int .i64 0) (.int .i64 0) (.bool false)
  generalize World.setCell _ _ _ = WZ at hZ hCz ⊢
  have g0 := hZ.cell 0
  have g1 := hZ.cell 1
  have g2 := hZ.cell 2
  have g3 := hZ.cell 3
  have g4 := hZ.cell 4
  have g5 := hZ.cell 5
  have g6 := hZ.cell 6
  have g7 := hZ.cell 7
  have g8 := hZ.cell 8
  have g9 := hZ.cell 9
  have g10 := hZ.cell 10
  have g11 := hZ.cell 11
  have g12 := hZ.cell 12
  simp at g0 g1 g2 g3 g4 g5 g6 g7 g8 g9 g10 g11 g12
  have hwl : w.heap.size ≤ xb := by omega
  refine bodyPost_ret (v := .tuple #[.agg blZero, .bool false]) (by simp [results, Try.results15, go_sem, g0, g1, g2, g3, g4, g5, g6, g7, g8, g9, g10, g11, g12]) rfl ⟨rfl, Chg.mono (hE.chg_trans hCz) fun j hj e => by have e' : j = xb := e; omega⟩
end Go.Proofs.Ytchnejfdompfpaa
