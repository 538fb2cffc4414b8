/-
  Layer 13's laws: a blob as the document's; are two blobs the same?
  Layer 13's laws: Named of a name that is there; the document's volumes as an array.
-/
import Derived.Test.YtchnejfdompfpaaGreatL13B
import Derived.Test.YtchnejfdompfpaaGreatL13C
namespace Go.Proofs.YtchnejfdompfpaaGreat
open Go.RowKit Go.Sort

set_option maxRecDepth 100000 in
set_option maxHeartbeats 4000000 in
theorem blob13_any (w : World) (b : Bl) (A : Option Addr) (n m : Nat) : Calls Tryz.prog 26 #[.agg (blCells b (.slice A n m))] w fun e w' => e = .returned (.agg (blCells b (.slice A n m))) ∧ Ext w w' := by
  go_enter Tryz.func26, Tryz.ntmps26
  go_wp2_with fail
  exact bodyPost_ret (v := .agg (blCells b (.slice A n m))) (by simp [results, Tryz.results26, go_sem, blCells]) rfl ⟨rfl, ((Ext.refl w).alloc _).alloc _⟩
set_option maxRecDepth 100000 in
set_option maxHeartbeats 4000000 in
theorem same13_any (w : World) (b : Bl) (v1 v2 : Value) (h1 : w.ownsRow 0 3 1 v1 b.disks.length (b.disks.map (Value.int .i64))) (h2 : w.ownsRow 0 3 1 v2 b.disks.length (b.disks.map (Value.int .i64))) (hl : b.disks.length ≤ 1000000000000) :
    Calls Tryz.prog 25 #[.agg (blCells b v1), .agg (blCells b v2)] w fun e w' => e = .returned (.bool true) ∧ Ext w w' := by
  obtain ⟨A, c, rfl⟩ := own_slc h1
  obtain ⟨B, d, rfl⟩ := own_slc h2
  have HS := Lib.hid (own_sl h1)
  have HT := Lib.hid (own_sl h2)
  clear h1 h2
  go_enter Tryz.func25, Tryz.ntmps25
  have hB := (At.new w 80 (blCells b (.slice A b.disks.length c))).alloc (.cells (blCells b (.slice B b.disks.length d)) 80)
  have hD := At.new (w.alloc (.cells (blCells b (.slice A b.disks.length c)) 80)) 80 (blCells b (.slice B b.disks.length d))
  have hE := ((Ext.refl w).alloc (.cells (blCells b (.slice A b.disks.length c)) 80)).alloc (.cells (blCells b (.slice B b.disks.length d)) 80)
  rw [show (w.alloc (.cells (blCells b (.slice A b.disks.length c)) 80)).heap.size = w.heap.size + 1 by simp] at hD
  go_upto_region 1 with fail
  generalize hxb : w.heap.size = xb at hB hD ⊢
  generalize World.alloc _ _ = W at hB hD hE ⊢
  clear hxb
  have b4 := hB.cell 4
  have d4 := hD.cell 4
  simp [blCells] at b4 d4
  go_wp2_with fail
  clear b4 d4
  go_loopw [16] (fun iv wr => ∃ k : Nat, k ≤ b.disks.length ∧ iv = .int .i64 (k : Int) ∧ Ext W wr) (fun iv _ => b.disks.length - (intOf iv).toNat)
  case atStart => exact ⟨0, by omega, rfl, Ext.refl _⟩
  case round =>
    obtain ⟨k, hk, rfl, hEk⟩ := hrel
    by_cases hlt : k < b.disks.length
    · obtain ⟨s, hs⟩ : ∃ s, b.disks[k]? = some s := ⟨_, List.getElem?_eq_getElem hlt⟩
      obtain ⟨A', c', ha, hc⟩ := HS.out.ext (hE.trans hEk)
      obtain ⟨B', d', hb, hd⟩ := HT.out.ext (hE.trans hEk)
      have hne : b.disks.map (Value.int .i64) ≠ [] := fun e => by rw [List.map_eq_nil_iff.1 e] at hlt; simp at hlt
      obtain ⟨g, o, rfl, hcc⟩ := hc hne
      obtain ⟨g2, o2, rfl, hdd⟩ := hd hne
      injection ha with ha q1 q2
      injection hb with hb q3 q4
      clear q1 q2 q3 q4
      subst ha hb
      have c1 := hcc k (.int .i64 s) (by rw [List.getElem?_map, hs]; rfl)
      have d1 := hdd k (.int .i64 s) (by rw [List.getElem?_map, hs]; rfl)
      have b4 := (hB.ext hEk).cell 4
      have d4 := (hD.ext hEk).cell 4
      simp [blCells] at b4 d4
      clear hc hd hcc hdd hs hne
      have rg : ∀ {p : Addr} {u : Value}, wr.cell? p = some u → ∀ d os, (grow (redrawn wr d) os).cell? p = some u := fun h d os => (Ext.cell (ext_regrown wr d os) (cell_lt h)).trans h
      have r1 := rg c1
      have r2 := rg d1
      have r3 := rg b4
      have r4 := rg d4
      clear rg
      go_wp2_with fail
      refine wp_region_quiet_ext (by kernel_rfl) (by kernel_rfl) ?_
      repeat (go_big_quiet_step (fail))
      refine wpQuiet_nil ?_
      intro W8 hE8
      go_wp2_with fail
      exact ⟨⟨k + 1, by omega, by simp, hEk.trans hE8⟩, by simp only [intOf, Int.toNat_natCast]; omega⟩
    · obtain rfl : k = b.disks.length := by omega
      have hBk := hB.ext hEk
      have hDk := hD.ext hEk
      have b0 := hBk.cell 0
      have b1 := hBk.cell 1
      have b2 := hBk.cell 2
      have b3 := hBk.cell 3
      have b5 := hBk.cell 5
      have b6 := hBk.cell 6
      have b7 := hBk.cell 7
      have b8 := hBk.cell 8
      have b9 := hBk.cell 9
      have b10 := hBk.cell 10
      have b11 := hBk.cell 11
      have b12 := hBk.cell 12
      have d0 := hDk.cell 0
      have d1 := hDk.cell 1
      have d2 := hDk.cell 2
      have d3 := hDk.cell 3
      have d5 := hDk.cell 5
      have d6 := hDk.cell 6
      have d7 := hDk.cell 7
      have d8 := hDk.cell 8
      have d9 := hDk.cell 9
      have d10 := hDk.cell 10
      have d11 := hDk.cell 11
      have d12 := hDk.cell 12
      simp [blCells] at b0 b1 b2 b3 b5 b6 b7 b8 b9 b10 b11 b12 d0 d1 d2 d3 d5 d6 d7 d8 d9 d10 d11 d12
      clear hB hD hBk hDk
      go_wp2_with fail
      go_ret
      exact ⟨rfl, hE.trans hEk⟩
end Go.Proofs.YtchnejfdompfpaaGreat
namespace Go.Proofs.YtchnejfdompfpaaGreat
open Go.RowKit Go.Sort

theorem cb_info : (Tryz.prog.info? 44).map (·.size) = some 13 := by kernel_rfl
set_option maxRecDepth 100000 in
set_option maxHeartbeats 4000000 in
theorem cnamed_some {w : World} {B c mb mn n : Nat} {P : Pm} (h : CatIn w B c mb mn P) (hi : PInv n P) (m : ByteArray) {b : Bl} (hm : P.named m = some b) :
    Calls Tryz.prog 23 #[.pointer (some ⟨c, 0, none⟩), .string m] w fun e w' => ∃ A cp, e = .returned (.tuple #[.agg (blCells b (.slice A b.disks.length cp)), .bool true]) ∧ Ext w w' := by
  have HCT := Lib.hid h
  obtain ⟨C, hC0, hR0⟩ := h
  have hn := hR0.named hC0 hi m
  rw [hm] at hn
  have hfb : P.find b.id = some b := (pfind_some hi.asc).2 ⟨((pnamed_some hi).1 hm).1, rfl⟩
  go_enter Tryz.func23, Tryz.ntmps23
  have hR := At.new w 44 blZero
  have hE := (Ext.refl w).alloc (.cells blZero 44)
  go_upto_region 1 with fail
  obtain ⟨xb, hxb⟩ : ∃ xb, w.heap.size = xb := ⟨_, rfl⟩
  rw [hxb] at hR ⊢
  generalize w.alloc _ = W at hR hE ⊢
  have HXB := Lib.hid (show w.heap.size ≤ xb by omega)
  clear hxb
  have hC := hC0.ext hE
  obtain ⟨c0, c1⟩ := hC.c0
  have hlk := hC.lookName m
  rw [hn] at hlk
  simp at hlk
  have HB := Lib.hid (cblob_some (HCT.out.ext hE) hi b.id hfb)
  clear hC hC0 hR0 hn hm hfb hi HCT
  go_wp2_with fail
  refine HB.out.mono ?_
  rintro e w2 ⟨A, cp, rfl, _, hE2⟩
  have hR2 := hR.ext hE2
  have HT := Lib.hid hR2.there
  have hrg := World.rangeAt_setCells_same w2 xb 0 (blCells b (.slice A b.disks.length cp)).toList (by rw [Array.length_toList]; exact HT.out)
  have hl : (loadVar 44 ⟨xb, 0, none⟩).run Tryz.prog (w2.setCells xb 0 (blCells b (.slice A b.disks.length cp)).toList) = .ok (.agg (blCells b (.slice A b.disks.length cp))) (w2.setCells xb 0 (blCells b (.slice A b.disks.length cp)).toList) := run_loadVar_mid (P := Tryz.prog) _ xb 0 44 (blCells b (.slice A b.disks.length cp)).toList _ hrg Tryz.underlying44 rfl cb_info
  have HL := Lib.hid hl
  have HEF := Lib.hid ((hE.trans hE2).setCells HXB.out (blCells b (.slice A b.disks.length cp)).toList 0)
  clear HB hlk c0 c1 hR hE hE2 hR2 hrg hl
  go_wp2_with (refine wpList_store_mid rfl 44 _ _ rfl xb 0 (blCells b (.slice A b.disks.length cp)) rfl rfl HT.out cb_info (blC_one b A _ cp) ?_)
  refine bodyPost_ret (v := .tuple #[.agg (blCells b (.slice A b.disks.length cp)), .bool true]) (results_ct Tryz.results23 _ rfl HL.out) rfl ?_
  exact ⟨A, cp, rfl, HEF.out⟩
set_option maxRecDepth 100000 in
theorem vl_idxR {V : List Vl} (h : V.length = 12) (j : Nat) (hj : j < 12) : ∃ x : Vl, V[j]? = some x ∧ ∀ w, (Instr.index 29 (vlArr V) (.int .i64 (j : Int))).run Tryz.prog w = .ok (.agg #[.bool x.closed, .bool x.erase, .int .i64 x.gen]) w := by
  obtain ⟨a0, a1, a2, a3, a4, a5, a6, a7, a8, a9, a10, a11, rfl⟩ := twelve h
  have h2 : j = 0 ∨ j = 1 ∨ j = 2 ∨ j = 3 ∨ j = 4 ∨ j = 5 ∨ j = 6 ∨ j = 7 ∨ j = 8 ∨ j = 9 ∨ j = 10 ∨ j = 11 := by omega
  rcases h2 with rfl | rfl | rfl | rfl | rfl | rfl | rfl | rfl | rfl | rfl | rfl | rfl
  · exact ⟨a0, rfl, fun _ => by kernel_rfl⟩
  · exact ⟨a1, rfl, fun _ => by kernel_rfl⟩
  · exact ⟨a2, rfl, fun _ => by kernel_rfl⟩
  · exact ⟨a3, rfl, fun _ => by kernel_rfl⟩
  · exact ⟨a4, rfl, fun _ => by kernel_rfl⟩
  · exact ⟨a5, rfl, fun _ => by kernel_rfl⟩
  · exact ⟨a6, rfl, fun _ => by kernel_rfl⟩
  · exact ⟨a7, rfl, fun _ => by kernel_rfl⟩
  · exact ⟨a8, rfl, fun _ => by kernel_rfl⟩
  · exact ⟨a9, rfl, fun _ => by kernel_rfl⟩
  · exact ⟨a10, rfl, fun _ => by kernel_rfl⟩
  · exact ⟨a11, rfl, fun _ => by kernel_rfl⟩
set_option maxRecDepth 100000 in
theorem vl_info12 {V : List Vl} (h : V.length = 12) : (Tryz.prog.info? 29).map (·.size) = some ((V.map vlRow).flatten).length := by
  obtain ⟨a0, a1, a2, a3, a4, a5, a6, a7, a8, a9, a10, a11, e⟩ := twelve h
  rw [e]
  kernel_rfl
theorem rf_vrange {w : World} {g : Nat} {lv : Value} {V : List Vl} (h : At w g 31 (rfArr lv V)) : w.rangeAt g 1 ((V.map vlRow).flatten) := fun j v hv => by
  have := h.cell (1 + j)
  rw [this]
  unfold rfArr
  rw [List.getElem?_toArray, show 1 + j = j + 1 by omega, List.getElem?_cons_succ]
  exact hv
theorem blob13_re (W : World) (b : Bl) (A : Option Addr) (n m : Nat) (dd : Nat) (os : Array Obj) : Calls Tryz.prog 26 #[.agg (blCells b (.slice A n m))] (grow (redrawn W dd) os) fun e w'' => e = .returned (.agg (blCells b (.slice A n m))) ∧ ∃ p : Regrown, w'' = grow (redrawn W p.d) p.os :=
  Calls.ext_of (blob13_any _ b A n m)
theorem same13_re (W : World) (b : Bl) (v1 v2 : Value) (h1 : W.ownsRow 0 3 1 v1 b.disks.length (b.disks.map (Value.int .i64))) (h2 : W.ownsRow 0 3 1 v2 b.disks.length (b.disks.map (Value.int .i64))) (hl : b.disks.length ≤ 1000000000000) (dd : Nat) (os : Array Obj) :
    Calls Tryz.prog 25 #[.agg (blCells b v1), .agg (blCells b v2)] (grow (redrawn W dd) os) fun e w'' => e = .returned (.bool true) ∧ ∃ p : Regrown, w'' = grow (redrawn W p.d) p.os :=
  Calls.ext_of (same13_any _ b v1 v2 (own_keep h1 (ext_regrown W dd os) (fun _ _ hh => hh)) (own_keep h2 (ext_regrown W dd os) (fun _ _ hh => hh)) hl)
end Go.Proofs.YtchnejfdompfpaaGreat
