/-
  Layer 13's laws: Is: a catalog is as the document's.
-/
import Derived.Test.YtchnejfdompfpaaGreatL13E
namespace Go.Proofs.YtchnejfdompfpaaGreat
open Go.RowKit Go.Sort

set_option maxRecDepth 100000 in
set_option maxHeartbeats 8000000 in
theorem is_any (w : World) (B c mb mn : Nat) (P : Pm) (n : Nat) (v : Value) (hC : CatIn w B c mb mn P) (hR : RfIn w v P) (hi : PInv n P) (hn : n < 50) :
    Calls Tryz.prog 9 #[.pointer (some ⟨c, 0, none⟩), v] w fun e w' => e = .returned (.int .i64 0) ∧ Ext w w' := by
  have HRF := Lib.hid hR
  obtain ⟨lv, DV, rfl, hDV, hRR⟩ := hR
  have hlen : DV.length = P.L.length := by rw [← hDV, List.length_map]
  obtain ⟨A, cp, rfl⟩ := own_slc hRR.own
  have h37 := rfArr_size (.slice A DV.length cp) hi.vlen
  have HX : Hid (rfArr (.slice A DV.length cp) P.vols = (.slice A DV.length cp :: (P.vols.map vlRow).flatten).toArray) := Lib.hid rfl
  have HIX := Lib.hid (vl_idxR hi.vlen)
  have HINF := Lib.hid (vl_info12 hi.vlen)
  have HIV : Hid (∀ {w : World} {g : Nat}, At w g 31 (rfArr (.slice A DV.length cp) P.vols) → w.rangeAt g 1 ((P.vols.map vlRow).flatten)) := Lib.hid fun h => rf_vrange h
  have hX0 : (rfArr (.slice A DV.length cp) P.vols)[0]? = some (.slice A DV.length cp) := rfl
  have HI1 : Hid ((Tryz.prog.info? 31).map (·.size) = some (rfArr (.slice A DV.length cp) P.vols).toList.length) := Lib.hid (by rw [Array.length_toList, h37]; exact rf_cinfo)
  generalize rfArr (.slice A DV.length cp) P.vols = X at HX HRF HIV HI1 hX0 h37 ⊢
  have HX0 := Lib.hid hX0
  have HDV := Lib.hid hDV
  have HRR := Lib.hid hRR
  have HI := Lib.hid hi
  have HCT := Lib.hid hC
  have HLN := Lib.hid hlen
  have hPL : P.L.length < 50 := by have := hi.len; omega
  clear hDV hRR hi hC hX0 h37 HX
  go_enter Tryz.func9, Tryz.ntmps9
  have hB := At.new w 31 X
  have hE := (Ext.refl w).alloc (.cells X 31)
  go_upto_region 1 with fail
  obtain ⟨xb, hxb⟩ : ∃ xb, w.heap.size = xb := ⟨_, rfl⟩
  rw [hxb] at hB ⊢
  generalize w.alloc _ = W at hB hE ⊢
  clear hxb
  have HBL := Lib.hid (cblobs_any (HCT.out.ext hE) HI.out hn)
  go_wp2_with fail
  refine HBL.out.mono ?_
  rintro e w1 ⟨A1, c1, rfl, hBI, hE1⟩
  obtain ⟨DB, hDB, hSb, hOb⟩ := bl_rows hBI
  have hB := hB.ext hE1
  have hE := hE.trans hE1
  have x0 := hB.cell 0
  rw [HX0.out, HLN.out] at x0
  have HSb := Lib.hid hSb
  have HOb := Lib.hid hOb
  have HDB := Lib.hid hDB
  have HE := Lib.hid hE
  have HB := Lib.hid hB
  clear HBL hBI hE1 hB hlen hSb hOb hDB hE
  go_upto_region 5 with fail
  clear x0
  go_loopw [30] (fun iv wr => ∃ k : Nat, k ≤ P.L.length ∧ iv = .int .i64 (k : Int) ∧ Ext w1 wr) (fun iv _ => P.L.length - (intOf iv).toNat)
  case atStart => exact ⟨0, by omega, rfl, Ext.refl _⟩
  case round =>
    obtain ⟨k, hk, rfl, hEk⟩ := hrel
    by_cases hlt : k < P.L.length
    · obtain ⟨b, hb⟩ : ∃ b, P.L[k]? = some b := ⟨_, List.getElem?_eq_getElem hlt⟩
      obtain ⟨dv1, h1⟩ : ∃ q, DB[k]? = some (b, q) := by
        have e := hb
        rw [← HDB.out, List.getElem?_map] at e
        cases h : DB[k]? with
        | none => rw [h] at e; cases e
        | some p => rw [h] at e; injection e with e; exact ⟨p.2, by rw [← e]⟩
      obtain ⟨dv2, h2⟩ : ∃ q, DV[k]? = some (b, q) := by
        have e := hb
        rw [← HDV.out, List.getElem?_map] at e
        cases h : DV[k]? with
        | none => rw [h] at e; cases e
        | some p => rw [h] at e; injection e with e; exact ⟨p.2, by rw [← e]⟩
      have hbm := List.mem_of_getElem? hb
      have HBK := Lib.hid (HI.out.bl _ hbm)
      have hfb : P.find b.id = some b := (pfind_some HI.out.asc).2 ⟨hbm, rfl⟩
      have hdl : b.disks.length ≤ 1000000000000 := Nat.le_trans (rises_len HBK.out.rises) (by decide)
      obtain ⟨dA, dAc, rfl⟩ : ∃ A c, dv1 = .slice A b.disks.length c := own_slc (HOb.out _ (List.mem_of_getElem? h1))
      obtain ⟨eA, eAc, rfl⟩ : ∃ A c, dv2 = .slice A b.disks.length c := own_slc (HRR.out.dks _ (List.mem_of_getElem? h2))
      have hw1r : Ext w wr := HE.out.trans hEk
      have hO1 := own_keep (HOb.out _ (List.mem_of_getElem? h1)) hEk (fun _ _ hh => hh)
      have hO2 := own_keep (HRR.out.dks _ (List.mem_of_getElem? h2)) hw1r (fun _ _ hh => hh)
      have hS1 := HSb.out.ext hEk
      have hS2 := HRR.out.sln.ext hw1r
      obtain ⟨b1, o1, rfl⟩ := cmds_some hS1 (fun e => by
        have h0 := List.map_eq_nil_iff.1 e
        rw [h0] at h1; simp at h1)
      obtain ⟨b2, o2, rfl⟩ := cmds_some hS2 (fun e => by
        have h0 := List.map_eq_nil_iff.1 e
        rw [h0] at h2; simp at h2)
      obtain ⟨s0, s1, s2, s3, s4, s5, s6, s7, s8, s9, s10, s11, s12⟩ := bl_cells hS2 h2
      have hYb := At.new wr 80 (blCells b (.slice eA b.disks.length eAc))
      have hEy := (Ext.refl wr).alloc (.cells (blCells b (.slice eA b.disks.length eAc)) 80)
      go_upto_region 7 with fail
      clear s0 s1 s2 s3 s4 s5 s6 s7 s8 s9 s10 s11 s12
      generalize wr.heap.size = yb at hYb ⊢
      generalize wr.alloc (.cells (blCells b (.slice eA b.disks.length eAc)) 80) = W2 at hYb hEy ⊢
      have hEW : Ext w W2 := hw1r.trans hEy
      have y0 := hYb.cell 0
      simp [blCells] at y0
      have HBL := Lib.hid (cblob_some (HCT.out.ext hEW) HI.out b.id hfb)
      go_wp2_with fail
      refine HBL.out.mono ?_
      rintro e w3 ⟨zA, zAc, rfl, hO3, hE3⟩
      have hZb := At.new w3 44 (blCells b (.slice zA b.disks.length zAc))
      have hEz := hE3.alloc (.cells (blCells b (.slice zA b.disks.length zAc)) 44)
      have hO3 := own_keep hO3 ((Ext.refl w3).alloc (.cells (blCells b (.slice zA b.disks.length zAc)) 44)) (fun _ _ hh => hh)
      go_upto_region 8 with fail
      clear HBL y0
      generalize w3.heap.size = zb at hZb ⊢
      generalize w3.alloc (.cells (blCells b (.slice zA b.disks.length zAc)) 44) = W4 at hZb hEz hO3 ⊢
      have hYb := hYb.ext hEz
      have hEW := hEW.trans hEz
      have hE4 := hEy.trans hEz
      clear hEy hEz hE3
      have y1 := hYb.cell 1
      simp [blCells] at y1
      have HRFW := Lib.hid (HRF.out.ext (HE.out.trans hEk))
      rcases name_at (P := P) (n := b.name) with ⟨hnm, hnn⟩ | ⟨i, q, hiq, hnn, hnm⟩
      · have HNM := Lib.hid (cnamed_none (HCT.out.ext hEW) HI.out b.name hnn)
        go_wp2_with fail
        refine HNM.out.mono ?_
        rintro e w5 ⟨rfl, hE5⟩
        have hQ := At.new w5 44 blZero
        have hEq := hE5.alloc (.cells blZero 44)
        go_upto_region 9 with fail
        clear HNM y1
        generalize w5.heap.size = qb at hQ ⊢
        generalize w5.alloc (.cells blZero 44) = W6 at hQ hEq ⊢
        have hYb := hYb.ext hEq
        have hZb := hZb.ext hEq
        have hEW := hEW.trans hEq
        have hE6 := hE4.trans hEq
        have HRM := Lib.hid (rnamed_any W6 (.agg X) P (HRF.out.ext hEW) b.name (by omega))
        have y1 := hYb.cell 1
        simp [blCells] at y1
        have HRX := Lib.hid (HB.out.ext (hEk.trans hE6)).range
        have hEO := hEq
        clear hE5 hE4
        go_wp2_with (refine wpList_load_mid rfl 31 _ rfl xb 0 rfl _ _ HRX.out Tryz.underlying31 rfl HI1.out ?_)
        refine HRM.out.mono ?_
        rintro e w7 ⟨rfl, hE7⟩
        rw [hnm]
        have hYb := hYb.ext hE7
        have hZb := hZb.ext hE7
        have hQ := hQ.ext hE7
        have hE8 := hE6.trans hE7
        have hEO := hEO.trans hE7
        have hEW := hEW.trans hE7
        obtain ⟨s0, s1, s2, s3, s4, s5, s6, s7, s8, s9, s10, s11, s12⟩ := bl_cells (HSb.out.ext (hEk.trans hE8)) h1
        have cw1 := blob13_re w7 b dA b.disks.length dAc
        have cw2 := blob13_re w7 b zA b.disks.length zAc
        have cw3 := same13_re w7 b (.slice dA b.disks.length dAc) (.slice eA b.disks.length eAc) (own_keep hO1 hE8 (fun _ _ hh => hh)) (own_keep hO2 hE8 (fun _ _ hh => hh)) hdl
        have cw4 := same13_re w7 b (.slice zA b.disks.length zAc) (.slice eA b.disks.length eAc) (own_keep hO3 hEO (fun _ _ hh => hh)) (own_keep hO2 hE8 (fun _ _ hh => hh)) hdl
        have rg : ∀ {p : Addr} {u : Value}, w7.cell? p = some u → ∀ d os, (grow (redrawn w7 d) os).cell? p = some u := fun h d os => (Ext.cell (ext_regrown w7 d os) (cell_lt h)).trans h
        have rs0 := rg s0
        have rs1 := rg s1
        have rs2 := rg s2
        have rs3 := rg s3
        have rs4 := rg s4
        have rs5 := rg s5
        have rs6 := rg s6
        have rs7 := rg s7
        have rs8 := rg s8
        have rs9 := rg s9
        have rs10 := rg s10
        have rs11 := rg s11
        have rs12 := rg s12
        clear rg s0 s1 s2 s3 s4 s5 s6 s7 s8 s9 s10 s11 s12
        have ry0 := hYb.cell_regrown 0
        have rz0 := hZb.cell_regrown 0
        have ry1 := hYb.cell_regrown 1
        have rz1 := hZb.cell_regrown 1
        have ry2 := hYb.cell_regrown 2
        have rz2 := hZb.cell_regrown 2
        have ry3 := hYb.cell_regrown 3
        have rz3 := hZb.cell_regrown 3
        have ry4 := hYb.cell_regrown 4
        have rz4 := hZb.cell_regrown 4
        have ry5 := hYb.cell_regrown 5
        have rz5 := hZb.cell_regrown 5
        have ry6 := hYb.cell_regrown 6
        have rz6 := hZb.cell_regrown 6
        have ry7 := hYb.cell_regrown 7
        have rz7 := hZb.cell_regrown 7
        have ry8 := hYb.cell_regrown 8
        have rz8 := hZb.cell_regrown 8
        have ry9 := hYb.cell_regrown 9
        have rz9 := hZb.cell_regrown 9
        have ry10 := hYb.cell_regrown 10
        have rz10 := hZb.cell_regrown 10
        have ry11 := hYb.cell_regrown 11
        have rz11 := hZb.cell_regrown 11
        have ry12 := hYb.cell_regrown 12
        have rz12 := hZb.cell_regrown 12
        have rq0 := hQ.cell_regrown 0
        simp [blCells] at ry0 rz0 ry1 rz1 ry2 rz2 ry3 rz3 ry4 rz4 ry5 rz5 ry6 rz6 ry7 rz7 ry8 rz8 ry9 rz9 ry10 rz10 ry11 rz11 ry12 rz12 rq0
        clear HRX HRM y1 HRFW hnm hnn hb h1 h2 hbm
        unfold blCells at cw1 cw2 cw3 cw4
        go_upto_region 10 with fail
        refine wp_region_quiet_ext (by kernel_rfl) (by kernel_rfl) ?_
        repeat (go_big_quiet_step (first | with_reducible exact cw1 _ _ | with_reducible exact cw2 _ _ | with_reducible exact cw3 _ _ | with_reducible exact cw4 _ _))
        refine wpQuiet_nil ?_
        intro W8 hE9
        go_wp2_with fail
        exact ⟨⟨k + 1, by omega, by simp, (hEk.trans hE8).trans hE9⟩, by simp only [intOf, Int.toNat_natCast]; omega⟩
      · have HNM := Lib.hid (cnamed_some (HCT.out.ext hEW) HI.out b.name hnn)
        go_wp2_with fail
        refine HNM.out.mono ?_
        rintro e w5 ⟨qA, qAc, rfl, hE5⟩
        have hQ := At.new w5 44 (blCells q (.slice qA q.disks.length qAc))
        have hEq := hE5.alloc (.cells (blCells q (.slice qA q.disks.length qAc)) 44)
        go_upto_region 9 with fail
        clear HNM y1
        generalize w5.heap.size = qb at hQ ⊢
        generalize w5.alloc (.cells (blCells q (.slice qA q.disks.length qAc)) 44) = W6 at hQ hEq ⊢
        have hYb := hYb.ext hEq
        have hZb := hZb.ext hEq
        have hEW := hEW.trans hEq
        have hE6 := hE4.trans hEq
        have HRM := Lib.hid (rnamed_any W6 (.agg X) P (HRF.out.ext hEW) b.name (by omega))
        have y1 := hYb.cell 1
        simp [blCells] at y1
        have HRX := Lib.hid (HB.out.ext (hEk.trans hE6)).range
        have hEO := hEq
        clear hE5 hE4
        go_wp2_with (refine wpList_load_mid rfl 31 _ rfl xb 0 rfl _ _ HRX.out Tryz.underlying31 rfl HI1.out ?_)
        refine HRM.out.mono ?_
        rintro e w7 ⟨rfl, hE7⟩
        rw [hnm]
        have hYb := hYb.ext hE7
        have hZb := hZb.ext hE7
        have hQ := hQ.ext hE7
        have hE8 := hE6.trans hE7
        have hEO := hEO.trans hE7
        have hEW := hEW.trans hE7
        obtain ⟨s0, s1, s2, s3, s4, s5, s6, s7, s8, s9, s10, s11, s12⟩ := bl_cells (HSb.out.ext (hEk.trans hE8)) h1
        obtain ⟨dq, hq2⟩ : ∃ d, DV[i]? = some (q, d) := by
          have e := hiq
          rw [← HDV.out, List.getElem?_map] at e
          cases h : DV[i]? with
          | none => rw [h] at e; cases e
          | some p => rw [h] at e; injection e with e; exact ⟨p.2, by rw [← e]⟩
        have hil : i < DV.length := (List.getElem?_eq_some_iff.1 hq2).1
        obtain ⟨u0, _⟩ := bl_cells (HRR.out.sln.ext hEW) hq2
        have x0 := (HB.out.ext (hEk.trans hE8)).cell 0
        rw [HX0.out] at x0
        have cw1 := blob13_re w7 b dA b.disks.length dAc
        have cw2 := blob13_re w7 b zA b.disks.length zAc
        have cw3 := same13_re w7 b (.slice dA b.disks.length dAc) (.slice eA b.disks.length eAc) (own_keep hO1 hE8 (fun _ _ hh => hh)) (own_keep hO2 hE8 (fun _ _ hh => hh)) hdl
        have cw4 := same13_re w7 b (.slice zA b.disks.length zAc) (.slice eA b.disks.length eAc) (own_keep hO3 hEO (fun _ _ hh => hh)) (own_keep hO2 hE8 (fun _ _ hh => hh)) hdl
        have rg : ∀ {p : Addr} {u : Value}, w7.cell? p = some u → ∀ d os, (grow (redrawn w7 d) os).cell? p = some u := fun h d os => (Ext.cell (ext_regrown w7 d os) (cell_lt h)).trans h
        have rs0 := rg s0
        have rs1 := rg s1
        have rs2 := rg s2
        have rs3 := rg s3
        have rs4 := rg s4
        have rs5 := rg s5
        have rs6 := rg s6
        have rs7 := rg s7
        have rs8 := rg s8
        have rs9 := rg s9
        have rs10 := rg s10
        have rs11 := rg s11
        have rs12 := rg s12
        have ru0 := rg u0
        have rx0 := rg x0
        clear u0 x0
        clear rg s0 s1 s2 s3 s4 s5 s6 s7 s8 s9 s10 s11 s12
        have ry0 := hYb.cell_regrown 0
        have rz0 := hZb.cell_regrown 0
        have ry1 := hYb.cell_regrown 1
        have rz1 := hZb.cell_regrown 1
        have ry2 := hYb.cell_regrown 2
        have rz2 := hZb.cell_regrown 2
        have ry3 := hYb.cell_regrown 3
        have rz3 := hZb.cell_regrown 3
        have ry4 := hYb.cell_regrown 4
        have rz4 := hZb.cell_regrown 4
        have ry5 := hYb.cell_regrown 5
        have rz5 := hZb.cell_regrown 5
        have ry6 := hYb.cell_regrown 6
        have rz6 := hZb.cell_regrown 6
        have ry7 := hYb.cell_regrown 7
        have rz7 := hZb.cell_regrown 7
        have ry8 := hYb.cell_regrown 8
        have rz8 := hZb.cell_regrown 8
        have ry9 := hYb.cell_regrown 9
        have rz9 := hZb.cell_regrown 9
        have ry10 := hYb.cell_regrown 10
        have rz10 := hZb.cell_regrown 10
        have ry11 := hYb.cell_regrown 11
        have rz11 := hZb.cell_regrown 11
        have ry12 := hYb.cell_regrown 12
        have rz12 := hZb.cell_regrown 12
        have rq0 := hQ.cell_regrown 0
        simp [blCells] at ry0 rz0 ry1 rz1 ry2 rz2 ry3 rz3 ry4 rz4 ry5 rz5 ry6 rz6 ry7 rz7 ry8 rz8 ry9 rz9 ry10 rz10 ry11 rz11 ry12 rz12 rq0
        clear HRX HRM y1 HRFW hnm hiq hq2 hnn hb h1 h2 hbm
        unfold blCells at cw1 cw2 cw3 cw4
        go_upto_region 10 with fail
        refine wp_region_quiet_ext (by kernel_rfl) (by kernel_rfl) ?_
        repeat (go_big_quiet_step (first | with_reducible exact cw1 _ _ | with_reducible exact cw2 _ _ | with_reducible exact cw3 _ _ | with_reducible exact cw4 _ _))
        refine wpQuiet_nil ?_
        intro W8 hE9
        go_wp2_with fail
        exact ⟨⟨k + 1, by omega, by simp, (hEk.trans hE8).trans hE9⟩, by simp only [intOf, Int.toNat_natCast]; omega⟩
    · obtain rfl : k = P.L.length := by omega
      have hBk := HB.out.ext hEk
      have HRG := Lib.hid (HIV.out hBk)
      go_upto_region 14 with (refine wpList_load_mid rfl 29 _ rfl xb 1 rfl _ _ HRG.out Tryz.underlying29 rfl HINF.out ?_)
      rw [show Value.agg ((P.vols.map vlRow).flatten).toArray = vlArr P.vols from rfl]
      generalize vlArr P.vols = va at HIX ⊢
      clear HRG HINF HIV
      go_loopw [95] (fun iv wx => ∃ j : Nat, j ≤ 12 ∧ iv = .int .i64 (j : Int) ∧ Ext wr wx) (fun iv _ => 12 - (intOf iv).toNat)
      case atStart => exact ⟨0, by omega, rfl, Ext.refl _⟩
      case round =>
        obtain ⟨j, hj, rfl, hEj⟩ := hrel
        by_cases hj2 : j < 12
        · obtain ⟨y, hy, hix⟩ := HIX.out j hj2
          have hpv : P.vol j = y := by unfold Pm.vol; rw [List.getD_eq_getElem?_getD, hy]; rfl
          have hV := At.new wr 28 #[.bool y.closed, .bool y.erase, .int .i64 y.gen]
          have hEv := (Ext.refl wr).alloc (.cells #[.bool y.closed, .bool y.erase, .int .i64 y.gen] 28)
          go_upto_region 16 with fail
          clear hix
          generalize wr.heap.size = vb at hV ⊢
          generalize wr.alloc (.cells #[.bool y.closed, .bool y.erase, .int .i64 y.gen] 28) = W2 at hV hEv ⊢
          have hEW := ((HE.out.trans hEk).trans hEj).trans hEv
          have HLV := Lib.hid (clive_any (HCT.out.ext hEW) HI.out (by omega) j hj2)
          go_wp2_with fail
          refine HLV.out.mono ?_
          rintro e w3 ⟨rfl, hE3⟩
          have hEW3 := hEW.trans hE3
          have hB3 := (HB.out.ext (((hEk.trans hEj).trans hEv).trans hE3)).range
          have HRX := Lib.hid hB3
          have HLR := Lib.hid (rlive_any w3 (.agg X) P n (HRF.out.ext hEW3) HI.out (by omega) j hj2)
          clear HLV hB3
          go_wp2_with (refine wpList_load_mid rfl 31 _ rfl xb 0 rfl _ _ HRX.out Tryz.underlying31 rfl HI1.out ?_)
          refine HLR.out.mono ?_
          rintro e w4 ⟨rfl, hE4⟩
          have hV4 := hV.ext (hE3.trans hE4)
          have hEW4 := hEW3.trans hE4
          have hEX := (hEv.trans hE3).trans hE4
          clear HLR HRX hV hEv hE3 hE4 hEW hEW3
          have HPV : Hid (∀ dd os, Calls Tryz.prog 29 #[.pointer (some ⟨c, 0, none⟩), .int .i64 (j : Int)] (grow (redrawn w4 dd) os) fun e w'' => e = .returned (.agg #[.bool y.closed, .bool y.erase, .int .i64 y.gen]) ∧ ∃ p : Regrown, w'' = grow (redrawn w4 p.d) p.os) := Lib.hid fun dd os => by
            refine Calls.ext_of ?_
            have h := cvol_any (HCT.out.ext (hEW4.trans (ext_regrown w4 dd os))) j hj2
            rw [hpv] at h
            exact h
          have HPP : Hid (∀ dd os, Calls Tryz.prog 30 #[.int .i64 (j : Int)] (grow (redrawn w4 dd) os) fun e w'' => e = .returned (.int .i64 ((j % 2 : Nat) : Int)) ∧ ∃ p : Regrown, w'' = grow (redrawn w4 p.d) p.os) := Lib.hid fun dd os => by
            refine Calls.ext_of ((pool_any _ j hj2).mono ?_)
            rintro e w' ⟨rfl, rfl⟩
            exact ⟨rfl, Ext.refl _⟩
          have rv0 := hV4.cell_regrown 0
          have rv1 := hV4.cell_regrown 1
          have rv2 := hV4.cell_regrown 2
          simp at rv0 rv1 rv2
          have hon : P.onVol (j : Int) = P.L.filter (onV (j : Int)) := rfl
          rw [hon]
          generalize ((P.L.filter (onV (j : Int))).length : Int) = m1
          generalize pinsOf (P.L.filter (onV (j : Int))) = m2
          go_upto_region 18 with fail
          refine wp_region_quiet_ext (by kernel_rfl) (by kernel_rfl) ?_
          repeat (go_big_quiet_step (first | with_reducible exact HPV.out _ _ | with_reducible exact HPP.out _ _))
          refine wpQuiet_nil ?_
          intro W8 hE9

          go_wp2_with fail
          exact ⟨⟨j + 1, by omega, by simp, (hEj.trans hEX).trans hE9⟩, by simp only [intOf, Int.toNat_natCast]; omega⟩
        · obtain rfl : j = 12 := by omega
          go_wp2_with fail
          go_ret
          exact ⟨rfl, (HE.out.trans hEk).trans hEj⟩
end Go.Proofs.YtchnejfdompfpaaGreat
