/-
  Layer 13: Named, of a name that none has.
  Layer 13: Live, Named, Vol of a catalog that stands for a list; the cells of blobs handed out.
-/
import Derived.Test.YtimjipcplmnpbaaGreatCatPut
import Derived.Test.YtimjipcplmnpbaaGreatCatLive
import Derived.Test.YtimjipcplmnpbaaGreatCatIn
import Derived.Test.YtimjipcplmnpbaaGreatFewG
namespace Go.Proofs.YtimjipcplmnpbaaGreat
open Go.RowKit Go.Sort

set_option maxRecDepth 100000 in
set_option maxHeartbeats 2000000 in
theorem nd_none (w : World) (B : Nat → Prop) (c mb mn : Nat) (C : Ct) (h : CtAt w B c mb mn C) (m : ByteArray) (hn : lget m C.names = none) :
    Calls Tryz.prog 93 #[.pointer (some ⟨c, 0, none⟩), .string m] w fun e w' => e = .returned (.tuple #[.agg blZero, .bool false]) ∧ Ext w w' := by
  go_enter Tryz.func93, Tryz.ntmps93
  have hR := At.new w 108 blZero
  have hE := (Ext.refl w).alloc (.cells blZero 108)
  go_upto_region 1 with fail
  generalize hxb : w.heap.size = xb at *
  generalize World.alloc _ _ = W at *
  have hC := h.ext hE
  obtain ⟨c0, c1⟩ := hC.c0
  have hlk := hC.lookName m
  rw [hn] at hlk
  simp at hlk
  have hR2 := hR
  clear hC h hn
  have f0 := hR2.frozen 0
  have f1 := hR2.frozen 1
  have f2 := hR2.frozen 2
  have f3 := hR2.frozen 3
  have f4 := hR2.frozen 4
  have f5 := hR2.frozen 5
  have f6 := hR2.frozen 6
  have f7 := hR2.frozen 7
  have f8 := hR2.frozen 8
  have f9 := hR2.frozen 9
  have f10 := hR2.frozen 10
  have f11 := hR2.frozen 11
  have f12 := hR2.frozen 12
  have r0 := hR2.cell 0
  have r1 := hR2.cell 1
  have r2 := hR2.cell 2
  have r3 := hR2.cell 3
  have r4 := hR2.cell 4
  have r5 := hR2.cell 5
  have r6 := hR2.cell 6
  have r7 := hR2.cell 7
  have r8 := hR2.cell 8
  have r9 := hR2.cell 9
  have r10 := hR2.cell 10
  have r11 := hR2.cell 11
  have r12 := hR2.cell 12
  simp at r0 r1 r2 r3 r4 r5 r6 r7 r8 r9 r10 r11 r12
  go_wp2_with fail
  obtain ⟨hZ, hCz⟩ := blob_out hR2 (.int .u64 0) (.string ⟨#[]⟩) (.int .i64 0) (.int .u32 0) (.slice none 0 0) (.bool false) (.int .i64 0) (.int .i64 0) (.bool false) (.int .i64 0) (.int .i64 0) (.int .i64 0) (.bool false)
  generalize World.setCell _ _ _ = WZ at hZ hCz ⊢
  have g0 := hZ.cell 0
  have g1 := hZ.cell 1
  have g2 := hZ.cell 2
  have g3 := hZ.cell 3
  have g4 := hZ.cell 4
  have g5 := hZ.cell 5
  have g6 := hZ.cell 6
  have g7 := hZ.cell 7
  have g8 := hZ.cell 8
  have g9 := hZ.cell 9
  have g10 := hZ.cell 10
  have g11 := hZ.cell 11
  have g12 := hZ.cell 12
  simp at g0 g1 g2 g3 g4 g5 g6 g7 g8 g9 g10 g11 g12
  have hwl : w.heap.size ≤ xb := by omega
  refine bodyPost_ret (v := .tuple #[.agg blZero, .bool false]) (by simp [results, Tryz.results93, go_sem, g0, g1, g2, g3, g4, g5, g6, g7, g8, g9, g10, g11, g12]) rfl ⟨rfl, Chg.mono (hE.chg_trans hCz) fun j hj e => by have e' : j = xb := e; omega⟩
end Go.Proofs.YtimjipcplmnpbaaGreat
namespace Go.Proofs.YtimjipcplmnpbaaGreat
open Go.RowKit Go.Sort

section
variable {w : World} {B : Nat → Prop} {c mb mn : Nat} {P : Pm}
theorem clive_any {n : Nat} (h : CatIn w B c mb mn P) (hi : PInv n P) (hn : n ≤ 1000000) (v : Nat) (hv : v < 12) :
    Calls Tryz.prog 97 #[.pointer (some ⟨c, 0, none⟩), .int .i64 v] w fun e w' => e = .returned (.tuple #[.int .i64 (((P.L.filter (onV v)).length : Nat) : Int), .int .i64 (pinsOf (P.L.filter (onV v)))]) ∧ Ext w w' := by
  obtain ⟨C, hC, hR⟩ := h
  have hp := hR.perm hi
  have hl := hp.length_eq
  rw [List.length_map] at hl
  have hlen := hi.len
  have hpins : ∀ r ∈ C.rows, 0 ≤ r.b.pins ∧ r.b.pins ≤ n := fun r hr => (hi.bl r.b (hp.mem_iff.1 (List.mem_map.2 ⟨r, hr, rfl⟩))).pins
  have hv2 := hR.onVol hi v
  have e1 : (onR v C.rows).length = (P.L.filter (onV v)).length := hv2.length_eq
  have e2 : pinsOf (onR v C.rows) = pinsOf (P.L.filter (onV v)) := pinsOf_perm hv2
  have hL := liveR_any w B c mb mn C hC v hv n hn (by omega) hpins
  rw [e1, e2] at hL
  exact hL
theorem cnamed_none {n : Nat} (h : CatIn w B c mb mn P) (hi : PInv n P) (m : ByteArray) (hm : P.named m = none) :
    Calls Tryz.prog 93 #[.pointer (some ⟨c, 0, none⟩), .string m] w fun e w' => e = .returned (.tuple #[.agg blZero, .bool false]) ∧ Ext w w' := by
  obtain ⟨C, hC, hR⟩ := h
  have e := hR.named hC hi m
  rw [hm] at e
  exact nd_none w B c mb mn C hC m e
theorem cvol_any (h : CatIn w B c mb mn P) (v : Nat) (hv : v < 12) :
    Calls Tryz.prog 98 #[.pointer (some ⟨c, 0, none⟩), .int .i64 v] w fun e w' => e = .returned (vlAgg (P.vol v)) ∧ Ext w w' := by
  obtain ⟨C, hC, hR⟩ := h
  have e := vol_any w B c mb mn C hC v hv
  rw [hR.vols] at e
  exact e
end
theorem bl_rows {w : World} {v : Value} {L : List Bl} (h : BlobsIn w v L) : ∃ DV : List (Bl × Value), DV.map (·.1) = L ∧ Sln w v 13 (DV.map blRow) ∧ ∀ p ∈ DV, w.ownsRow 0 3 1 p.2 p.1.disks.length (p.1.disks.map (Value.int .i64)) := by
  obtain ⟨DV, h1, h2, h3⟩ := h
  refine ⟨DV, h1, Sln.of_own h2 ?_ (by rw [← h1]; simp), h3⟩
  intro r hr
  obtain ⟨p, _, rfl⟩ := List.mem_map.1 hr
  rfl
theorem bl_cells {w : World} {b o n c : Nat} {l : List (Bl × Value)} (h : Sln w (.slice (some ⟨b, o, none⟩) n c) 13 (l.map blRow)) {i : Nat} {x : Bl} {dv : Value} (hi : l[i]? = some (x, dv)) :
    w.cell? ⟨b, o + i * 13, none⟩ = some (.int .u64 (x.id : Int)) ∧ w.cell? ⟨b, o + i * 13 + 1, none⟩ = some (.string x.name) ∧ w.cell? ⟨b, o + i * 13 + 2, none⟩ = some (.int .i64 x.size) ∧ w.cell? ⟨b, o + i * 13 + 3, none⟩ = some (.int .u32 (x.sum : Int)) ∧ w.cell? ⟨b, o + i * 13 + 4, none⟩ = some (dv) ∧ w.cell? ⟨b, o + i * 13 + 5, none⟩ = some (.bool x.a.there) ∧ w.cell? ⟨b, o + i * 13 + 6, none⟩ = some (.int .i64 x.a.vol) ∧ w.cell? ⟨b, o + i * 13 + 7, none⟩ = some (.int .i64 x.a.at_) ∧ w.cell? ⟨b, o + i * 13 + 8, none⟩ = some (.bool x.b.there) ∧ w.cell? ⟨b, o + i * 13 + 9, none⟩ = some (.int .i64 x.b.vol) ∧ w.cell? ⟨b, o + i * 13 + 10, none⟩ = some (.int .i64 x.b.at_) ∧ w.cell? ⟨b, o + i * 13 + 11, none⟩ = some (.int .i64 x.pins) ∧ w.cell? ⟨b, o + i * 13 + 12, none⟩ = some (.bool x.dead) := by
  have hg : (l.map blRow)[i]? = some (blRow (x, dv)) := by rw [List.getElem?_map, hi]; rfl
  have hc := sln_get h hg
  exact ⟨hc 0 _ rfl, hc 1 _ rfl, hc 2 _ rfl, hc 3 _ rfl, hc 4 _ rfl, hc 5 _ rfl, hc 6 _ rfl, hc 7 _ rfl, hc 8 _ rfl, hc 9 _ rfl, hc 10 _ rfl, hc 11 _ rfl, hc 12 _ rfl⟩
end Go.Proofs.YtimjipcplmnpbaaGreat
