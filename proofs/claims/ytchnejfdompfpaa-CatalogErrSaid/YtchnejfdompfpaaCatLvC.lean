/-
  Layer 13: Live, Named, Vol of a catalog that stands for a list; the cells of blobs handed out.
-/
import Derived.Test.YtchnejfdompfpaaCatAwake
import Derived.Test.YtchnejfdompfpaaCatNd
import Derived.Test.YtchnejfdompfpaaCmdRow
namespace Go.Proofs.Ytchnejfdompfpaa
open Go.RowKit Go.Sort

section
variable {w : World} {B c mb mn : Nat} {P : Pm}
theorem clive_any {n : Nat} (h : CatIn w B c mb mn P) (hi : PInv n P) (hn : n ≤ 1000000) (v : Nat) (hv : v < 12) :
    Calls Try.prog 16 #[.pointer (some ⟨c, 0, none⟩), .int .i64 v] w fun e w' => e = .returned (.tuple #[.int .i64 (((P.L.filter (onV v)).length : Nat) : Int), .int .i64 (pinsOf (P.L.filter (onV v)))]) ∧ Ext w w' := by
  obtain ⟨C, hC, hR⟩ := h
  have hp := hR.perm hi
  have hl := hp.length_eq
  rw [List.length_map] at hl
  have hlen := hi.len
  have hpins : ∀ r ∈ C.rows, 0 ≤ r.b.pins ∧ r.b.pins ≤ n := fun r hr => (hi.bl r.b (hp.mem_iff.1 (List.mem_map.2 ⟨r, hr, rfl⟩))).pins
  have hv2 := hR.onVol hi v
  have e1 : (onR v C.rows).length = (P.L.filter (onV v)).length := hv2.length_eq
  have e2 : pinsOf (onR v C.rows) = pinsOf (P.L.filter (onV v)) := pinsOf_perm hv2
  have hL := liveR_any w B c mb mn C hC v hv n hn (by omega) hpins
  rw [e1, e2] at hL
  exact hL
theorem cnamed_none {n : Nat} (h : CatIn w B c mb mn P) (hi : PInv n P) (m : ByteArray) (hm : P.named m = none) :
    Calls Try.prog 17 #[.pointer (some ⟨c, 0, none⟩), .string m] w fun e w' => e = .returned (.tuple #[.agg blZero, .bool false]) ∧ Ext w w' := by
  obtain ⟨C, hC, hR⟩ := h
  have e := hR.named hC hi m
  rw [hm] at e
  exact nd_none w B c mb mn C hC m e
theorem cvol_any (h : CatIn w B c mb mn P) (v : Nat) (hv : v < 12) :
    Calls Try.prog 13 #[.pointer (some ⟨c, 0, none⟩), .int .i64 v] w fun e w' => e = .returned (vlAgg (P.vol v)) ∧ Ext w w' := by
  obtain ⟨C, hC, hR⟩ := h
  have e := vol_any w B c mb mn C hC v hv
  rw [hR.vols] at e
  exact e
end
theorem bl_rows {w : World} {v : Value} {L : List Bl} (h : BlobsIn w v L) : ∃ DV : List (Bl × Value), DV.map (·.1) = L ∧ Sln w v 13 (DV.map blRow) ∧ ∀ p ∈ DV, w.ownsRow 0 3 1 p.2 p.1.disks.length (p.1.disks.map (Value.int .i64)) := by
  obtain ⟨DV, h1, h2, h3⟩ := h
  refine ⟨DV, h1, Sln.of_own h2 ?_ (by rw [← h1]; simp), h3⟩
  intro r hr
  obtain ⟨p, _, rfl⟩ := List.mem_map.1 hr
  rfl
theorem bl_cells {w : World} {b o n c : Nat} {l : List (Bl × Value)} (h : Sln w (.slice (some ⟨b, o, none⟩) n c) 13 (l.map blRow)) {i : Nat} {x : Bl} {dv : Value} (hi : l[i]? = some (x, dv)) :
    w.cell? ⟨b, o + i * 13, none⟩ = some (.int .u64 (x.id : Int)) ∧ w.cell? ⟨b, o + i * 13 + 1, none⟩ = some (.string x.name) ∧ w.cell? ⟨b, o + i * 13 + 2, none⟩ = some (.int .i64 x.size) ∧ w.cell? ⟨b, o + i * 13 + 3, none⟩ = some (.int .u32 (x.sum : Int)) ∧ w.cell? ⟨b, o + i * 13 + 4, none⟩ = some (dv) ∧ w.cell? ⟨b, o + i * 13 + 5, none⟩ = some (.bool x.a.there) ∧ w.cell? ⟨b, o + i * 13 + 6, none⟩ = some (.int .i64 x.a.vol) ∧ w.cell? ⟨b, o + i * 13 + 7, none⟩ = some (.int .i64 x.a.at_) ∧ w.cell? ⟨b, o + i * 13 + 8, none⟩ = some (.bool x.b.there) ∧ w.cell? ⟨b, o + i * 13 + 9, none⟩ = some (.int .i64 x.b.vol) ∧ w.cell? ⟨b, o + i * 13 + 10, none⟩ = some (.int .i64 x.b.at_) ∧ w.cell? ⟨b, o + i * 13 + 11, none⟩ = some (.int .i64 x.pins) ∧ w.cell? ⟨b, o + i * 13 + 12, none⟩ = some (.bool x.dead) := by
  have hg : (l.map blRow)[i]? = some (blRow (x, dv)) := by rw [List.getElem?_map, hi]; rfl
  have hc := sln_get h hg
  exact ⟨hc 0 _ rfl, hc 1 _ rfl, hc 2 _ rfl, hc 3 _ rfl, hc 4 _ rfl, hc 5 _ rfl, hc 6 _ rfl, hc 7 _ rfl, hc 8 _ rfl, hc 9 _ rfl, hc 10 _ rfl, hc 11 _ rfl, hc 12 _ rfl⟩
end Go.Proofs.Ytchnejfdompfpaa
