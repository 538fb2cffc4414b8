/-
  Part 22 of what the law leans on.
-/
import Derived.Test.YtiojjokfeknhcaaGreatSB21
set_option maxRecDepth 100000
set_option maxHeartbeats 16000000
set_option linter.unusedVariables false
set_option linter.unusedSimpArgs false
set_option linter.unusedSectionVars false
namespace Go.Proofs.YtiojjokfeknhcaaGreat
open Go.RowKit Go.Sort
theorem rise_drop {J : List Jb} (h : J.Pairwise fun x y => x.kind ≤ y.kind) {k : Nat} {j : Jb} (hj : J[k]? = some j) : ∀ x ∈ J.drop (k + 1), j.kind ≤ x.kind := by
  have hk := (List.getElem?_eq_some_iff.1 hj).1
  have hd : J.drop k = j :: J.drop (k + 1) := by
    rw [List.drop_eq_getElem_cons hk]
    congr 1
    exact (List.getElem?_eq_some_iff.1 hj).2
  have h2 := h.sublist (List.drop_sublist k J)
  rw [hd] at h2
  exact (List.pairwise_cons.1 h2).1
theorem mem_drop_at {J : List Jb} {k : Nat} {j : Jb} (hj : J[k]? = some j) : j ∈ J.drop k := by
  have hk := (List.getElem?_eq_some_iff.1 hj).1
  rw [List.drop_eq_getElem_cons hk]
  rw [(List.getElem?_eq_some_iff.1 hj).2]
  exact List.mem_cons_self ..
theorem order_any (w : World) (cv dv vv iv ldv lvv : Value) (cmds : List CRow) (dl vl : List Spot) (il : List Int) (ldl lvl : List Bool) (cp kp pc rs : Int) (hC : CmdsIn w cmds cv) (hD : SlnC w dv 2 (dl.map Spot.cells)) (hV : SlnC w vv 2 (vl.map Spot.cells)) (hI : SlC w iv (il.map (Value.int .i64))) (hLD : SlC w ldv (ldl.map Value.bool)) (hLV : SlC w lvv (lvl.map Value.bool)) :
    Calls Tryz.prog 4 #[cv, .agg #[dv, vv, iv, ldv, lvv, .int .i64 cp, .int .i64 kp, .int .i64 pc, .int .i64 rs]] w fun e w' => e = .returned (.bool true) ∧ Ext w w' := by
  have hslc : ∀ {ls : List Value} {v : Value} {w2 : World}, SlC w v ls → Ext w w2 → SlC w2 v ls := fun h hE => ⟨h.1.ext hE, h.2⟩
  have hYb := At.new w 27 #[dv, vv, iv, ldv, lvv, .int .i64 cp, .int .i64 kp, .int .i64 pc, .int .i64 rs]
  have hE0 := (Ext.refl w).alloc (.cells #[dv, vv, iv, ldv, lvv, .int .i64 cp, .int .i64 kp, .int .i64 pc, .int .i64 rs] 27)
  have HCM := Lib.hid (fun w2 (hE : Ext w w2) => hC.ext hE)
  have HLW := Lib.hid (fun w2 (hE : Ext w w2) => lw_any w2 dv vv iv ldv lvv dl vl il ldl lvl cp kp pc rs ⟨hD.1.ext hE, hD.2⟩ ⟨hV.1.ext hE, hV.2⟩ (hslc hI hE) (hslc hLD hE) (hslc hLV hE))
  have HOK := Lib.hid (wdOf_ok dl vl il ldl lvl cp kp pc rs)
  generalize wdOf dl vl il ldl lvl cp kp pc rs = W at HLW HOK
  clear hC hD hV hI hLD hLV hslc
  go_enter Tryz.func4, Tryz.ntmps4
  go_upto_region 1 with fail
  generalize w.heap.size = yb at hYb ⊢
  generalize w.alloc (.cells #[dv, vv, iv, ldv, lvv, .int .i64 cp, .int .i64 kp, .int .i64 pc, .int .i64 rs] 27) = W0 at hYb hE0 ⊢
  have HYB := Lib.hid (fun w2 (hE : Ext W0 w2) => (hYb.ext hE).range)
  clear hYb
  have HAW := Lib.hid (awake17_any W0)
  go_wp2_with fail
  refine HAW.out.mono ?_
  rintro e W1 ⟨rfl, hE1⟩
  have hE01 := hE0.trans hE1
  have HGR := Lib.hid (grow_any W1 cmds cv (HCM.out W1 hE01))
  clear HAW
  go_wp2_with fail
  refine HGR.out.mono ?_
  rintro e W2 ⟨B, c, mb, mn, X, P, rfl, hBw, hCt, hRf, h37, hXo, hPI, hE2⟩
  have hE02 := hE01.trans hE2
  have hY02 := hE1.trans hE2
  have HX37 := Lib.hid h37
  have HXO := Lib.hid hXo
  have HI1 : Hid ((Tryz.prog.info? 35).map (·.size) = some X.toList.length) := Lib.hid (by rw [Array.length_toList, h37]; exact rf_cinfo)
  have hX0 := At.new W2 35 #[.slice none 0 0, .bool false, .bool false, .int .i64 0, .bool false, .bool false, .int .i64 0, .bool false, .bool false, .int .i64 0, .bool false, .bool false, .int .i64 0, .bool false, .bool false, .int .i64 0, .bool false, .bool false, .int .i64 0, .bool false, .bool false, .int .i64 0, .bool false, .bool false, .int .i64 0, .bool false, .bool false, .int .i64 0, .bool false, .bool false, .int .i64 0, .bool false, .bool false, .int .i64 0, .bool false, .bool false, .int .i64 0]
  have hEx := (Ext.refl W2).alloc (.cells #[.slice none 0 0, .bool false, .bool false, .int .i64 0, .bool false, .bool false, .int .i64 0, .bool false, .bool false, .int .i64 0, .bool false, .bool false, .int .i64 0, .bool false, .bool false, .int .i64 0, .bool false, .bool false, .int .i64 0, .bool false, .bool false, .int .i64 0, .bool false, .bool false, .int .i64 0, .bool false, .bool false, .int .i64 0, .bool false, .bool false, .int .i64 0, .bool false, .bool false, .int .i64 0, .bool false, .bool false, .int .i64 0] 35)
  have HT0 := Lib.hid hX0.there
  clear HGR HCM hE0 hE1 hE01 hE2 hBw
  go_upto_region 6 with (refine wpList_store_mid rfl 35 _ _ rfl W2.heap.size 0 X rfl rfl (by rw [HX37.out]; exact HT0.out) (by rw [HX37.out]; exact rf_cinfo) HXO.out ?_)
  have hX1 := At.cells_all (cs := X) hX0 (by rw [HX37.out]; rfl)
  have hE3 : Ext W2 ((W2.alloc (.cells #[.slice none 0 0, .bool false, .bool false, .int .i64 0, .bool false, .bool false, .int .i64 0, .bool false, .bool false, .int .i64 0, .bool false, .bool false, .int .i64 0, .bool false, .bool false, .int .i64 0, .bool false, .bool false, .int .i64 0, .bool false, .bool false, .int .i64 0, .bool false, .bool false, .int .i64 0, .bool false, .bool false, .int .i64 0, .bool false, .bool false, .int .i64 0, .bool false, .bool false, .int .i64 0, .bool false, .bool false, .int .i64 0] 35)).setCells W2.heap.size 0 X.toList) := hEx.setCells (Nat.le_refl _) _ _
  generalize W2.heap.size = x6 at hX1 hE3 ⊢
  generalize (W2.alloc (.cells #[.slice none 0 0, .bool false, .bool false, .int .i64 0, .bool false, .bool false, .int .i64 0, .bool false, .bool false, .int .i64 0, .bool false, .bool false, .int .i64 0, .bool false, .bool false, .int .i64 0, .bool false, .bool false, .int .i64 0, .bool false, .bool false, .int .i64 0, .bool false, .bool false, .int .i64 0, .bool false, .bool false, .int .i64 0, .bool false, .bool false, .int .i64 0, .bool false, .bool false, .int .i64 0, .bool false, .bool false, .int .i64 0] 35)).setCells x6 0 X.toList = W3 at hX1 hE3 ⊢
  have hE03 := hE02.trans hE3
  have HYR := Lib.hid (HYB.out W3 (hY02.trans hE3))
  have HL3 := Lib.hid (HLW.out W3 hE03)
  have hCt3 := hCt.ext hE3
  have hRf3 := hRf.ext hE3
  have HI9 : Hid ((Tryz.prog.info? 27).map (·.size) = some (#[dv, vv, iv, ldv, lvv, .int .i64 cp, .int .i64 kp, .int .i64 pc, .int .i64 rs] : Array Value).toList.length) := Lib.hid wd9_info
  clear hCt hRf hX0 hEx HT0 h37 hXo hE02 hE3 hY02 HYB HLW
  go_wp2_with (refine wpList_load_mid rfl 27 _ rfl yb 0 rfl _ _ HYR.out Tryz.underlying27 rfl HI9.out ?_)
  refine HL3.out.mono ?_
  rintro e W4 ⟨V, V2, rfl, hw1, hw2, hE4⟩
  have hE04 := hE03.trans hE4
  have hs1 := hw1.sl
  have hs2 := hw2.sl
  have HC1 : Hid ((wdCells W V).all (·.oneCell') = true ∧ (wdCells W V2).all (·.oneCell') = true) := Lib.hid ⟨wdCells_one hs1, wdCells_one hs2⟩
  have HS9 : Hid ((wdCells W V).size = 9 ∧ (wdCells W V2).size = 9) := Lib.hid ⟨rfl, rfl⟩
  have HC4 := Lib.hid (And.intro (hCt3.ext hE4) (And.intro (hRf3.ext hE4) (hX1.ext hE4)))
  have HW4 := Lib.hid (And.intro hw1 hw2)
  have HSL := Lib.hid (And.intro hs1 hs2)
  obtain ⟨C1, hC1⟩ : ∃ C, C = wdCells W V := ⟨_, rfl⟩
  obtain ⟨C2, hC2⟩ : ∃ C, C = wdCells W V2 := ⟨_, rfl⟩
  rw [← hC1, ← hC2] at HC1 HS9
  have HCE := Lib.hid (And.intro hC1 hC2)
  rw [← hC1, ← hC2]
  clear hs1 hs2 hw1 hw2 hE4 hE03 hX1 hCt3 hRf3 HL3 HYR hC1 hC2
  have hA0 := (At.new W4 27 #[.slice none 0 0, .slice none 0 0, .slice none 0 0, .slice none 0 0, .slice none 0 0, .int .i64 0, .int .i64 0, .int .i64 0, .int .i64 0]).alloc (.cells #[.slice none 0 0, .slice none 0 0, .slice none 0 0, .slice none 0 0, .slice none 0 0, .int .i64 0, .int .i64 0, .int .i64 0, .int .i64 0] 40)
  have hB0 := At.new (W4.alloc (.cells #[.slice none 0 0, .slice none 0 0, .slice none 0 0, .slice none 0 0, .slice none 0 0, .int .i64 0, .int .i64 0, .int .i64 0, .int .i64 0] 27)) 40 #[.slice none 0 0, .slice none 0 0, .slice none 0 0, .slice none 0 0, .slice none 0 0, .int .i64 0, .int .i64 0, .int .i64 0, .int .i64 0]
  have hs4 : (W4.alloc (.cells #[.slice none 0 0, .slice none 0 0, .slice none 0 0, .slice none 0 0, .slice none 0 0, .int .i64 0, .int .i64 0, .int .i64 0, .int .i64 0] 27)).heap.size = W4.heap.size + 1 := by simp
  rw [hs4] at hB0
  have hE5 := ((Ext.refl W4).alloc (.cells #[.slice none 0 0, .slice none 0 0, .slice none 0 0, .slice none 0 0, .slice none 0 0, .int .i64 0, .int .i64 0, .int .i64 0, .int .i64 0] 27)).alloc (.cells #[.slice none 0 0, .slice none 0 0, .slice none 0 0, .slice none 0 0, .slice none 0 0, .int .i64 0, .int .i64 0, .int .i64 0, .int .i64 0] 40)
  have HTA := Lib.hid hA0.there
  have hB1 : At (((W4.alloc (.cells #[.slice none 0 0, .slice none 0 0, .slice none 0 0, .slice none 0 0, .slice none 0 0, .int .i64 0, .int .i64 0, .int .i64 0, .int .i64 0] 27)).alloc (.cells #[.slice none 0 0, .slice none 0 0, .slice none 0 0, .slice none 0 0, .slice none 0 0, .int .i64 0, .int .i64 0, .int .i64 0, .int .i64 0] 40)).setCells W4.heap.size 0 C1.toList) (W4.heap.size + 1) 40 #[.slice none 0 0, .slice none 0 0, .slice none 0 0, .slice none 0 0, .slice none 0 0, .int .i64 0, .int .i64 0, .int .i64 0, .int .i64 0] := hB0.chg (chg_setCells (b := W4.heap.size) C1.toList 0) (by show ¬ W4.heap.size + 1 = W4.heap.size; omega)
  have HTB := Lib.hid hB1.there
  go_upto_region 7 with (first | (refine wpList_store_mid rfl 27 _ _ rfl W4.heap.size 0 C1 rfl rfl (by rw [HS9.out.1]; exact HTA.out) (by rw [HS9.out.1]; exact wd9_info) HC1.out.1 ?_) | (refine wpList_store_mid rfl 40 _ _ rfl (W4.heap.size + 1) 0 C2 rfl rfl (by rw [HS9.out.2]; exact HTB.out) (by rw [HS9.out.2]; exact rwd9_info) HC1.out.2 ?_))
  have hA1 := (hA0.cells_all (cs := C1) (by rw [HS9.out.1]; rfl)).chg (chg_setCells (b := W4.heap.size + 1) C2.toList 0) (by show ¬ W4.heap.size = W4.heap.size + 1; omega)
  have hB2 := hB1.cells_all (cs := C2) (by rw [HS9.out.2]; rfl)
  have hE6 := (hE5.setCells (b := W4.heap.size) (Nat.le_refl _) C1.toList 0).setCells (b := W4.heap.size + 1) (by omega) C2.toList 0
  have HK4 := Lib.hid (And.intro HC4.out.1 (And.intro HW4.out.1 (And.intro hE6 hE04)))
  generalize hx8 : W4.heap.size = x8 at hA1 hB2 hE6 HK4 ⊢
  generalize ((((W4.alloc (.cells #[.slice none 0 0, .slice none 0 0, .slice none 0 0, .slice none 0 0, .slice none 0 0, .int .i64 0, .int .i64 0, .int .i64 0, .int .i64 0] 27)).alloc (.cells #[.slice none 0 0, .slice none 0 0, .slice none 0 0, .slice none 0 0, .slice none 0 0, .int .i64 0, .int .i64 0, .int .i64 0, .int .i64 0] 40)).setCells x8 0 C1.toList).setCells (x8 + 1) 0 C2.toList) = W5 at hA1 hB2 hE6 HK4 ⊢
  have HX8E := Lib.hid hx8
  have hE05 := hE04.trans hE6
  have HC5 := Lib.hid (And.intro (HC4.out.1.ext hE6) (And.intro (HC4.out.2.1.ext hE6) (HC4.out.2.2.ext hE6)))
  have HW5 := Lib.hid (And.intro (HW4.out.1.ext hE6) (HW4.out.2.ext hE6))
  have HAB := Lib.hid (And.intro hA1 hB2)
  have hx8w : w.heap.size ≤ x8 := by have := hE04.size; omega
  clear hA0 hB0 hs4 hE5 HTA hB1 HTB hA1 hB2 hE6 hx8 HC4 HW4 hE04 HI9
  have HRA := Lib.hid HAB.out.1.range
  have HI9 : Hid ((Tryz.prog.info? 27).map (·.size) = some C1.toList.length) := Lib.hid (by rw [Array.length_toList, HS9.out.1]; exact wd9_info)
  have hjb := jobs_any W5 B c mb mn W V P 25 HW5.out.1 HOK.out HC5.out.1 hPI (by decide)
  rw [← HCE.out.1] at hjb
  have HJB := Lib.hid hjb
  have HSF : Hid ((planJobs W P).Pairwise (fun x y => x.kind ≤ y.kind) ∧ ∀ j ∈ planJobs W P, 1 ≤ j.kind ∧ (P.L.length = 0 → j.blob = 0)) := Lib.hid ⟨planJobs_rise W P, fun j hj => ⟨(planJobs_kinds hj).1, fun h0 => planJobs_none (List.eq_nil_of_length_eq_zero h0) hj⟩⟩
  have hPL := planJobs_len25 (W := W) hPI HOK.out
  generalize planJobs W P = J at HJB HSF hPL
  have HPI := Lib.hid hPI
  have hPLn : P.L.length ≤ 25 := hPI.len
  clear hjb hPI
  go_wp2_with (refine wpList_load_mid rfl 27 _ rfl x8 0 rfl _ _ HRA.out Tryz.underlying27 rfl HI9.out ?_)
  refine HJB.out.mono ?_
  rintro e W7 ⟨jv, rfl, hj7, hE57⟩
  obtain ⟨jA, jc, rfl⟩ := own_slc hj7
  clear HJB
  go_wp2_with fail
  go_loopw [10, 36] (fun mv iv wr => ∃ (k : Nat) (m : Int), k ≤ J.length ∧ iv = .int .i64 (k : Int) ∧ mv = .int .i64 m ∧ (∀ j ∈ J.drop k, m ≤ j.kind) ∧ wr.ownsRow W5.heap.size 50 4 (.slice jA J.length jc) J.length (jobsV J) ∧ Ext W5 wr) (fun _ iv _ => J.length - (intOf iv).toNat)
  case atStart => exact ⟨0, 0, Nat.zero_le _, rfl, rfl, fun j hj => by have := (HSF.out.2 j (List.mem_of_mem_drop hj)).1; omega, hj7, hE57⟩
  case round =>
    clear hj7 hE57
    obtain ⟨k, m, hk, rfl, rfl, hmk, hjo, hEw⟩ := hrel
    have HMK := Lib.hid hmk
    clear hmk
    by_cases hlt : k < J.length
    · obtain ⟨j, hj⟩ : ∃ j, J[k]? = some j := ⟨_, List.getElem?_eq_getElem hlt⟩
      obtain ⟨jb, rfl, hjb, hjl, r0, r1, r2, r3⟩ := jobs_cells hjo rfl hj
      have hjm := List.mem_of_getElem? hj
      have hmj := HMK.out j (mem_drop_at hj)
      have HRD := Lib.hid (rise_drop HSF.out.1 hj)
      have hb0 := (HSF.out.2 j hjm).2
      have hYb := At.new wr 50 #[.int .i64 j.kind, .int .u64 (j.blob : Int), .int .i64 j.pool, .int .i64 j.vol]
      have hEb := (Ext.refl wr).alloc (.cells #[.int .i64 j.kind, .int .u64 (j.blob : Int), .int .i64 j.pool, .int .i64 j.vol] 50)
      have HJO := Lib.hid (own_e hjo hEb)
      have HEB := Lib.hid (hEw.trans hEb)
      clear hjo hEb hjb hjl hj hjm HMK
      go_upto_region 11 with fail
      clear r0 r1 r2 r3
      generalize wr.heap.size = yb at hYb ⊢
      generalize wr.alloc _ = W8 at hYb HJO HEB ⊢
      have y0 := hYb.cell 0
      simp at y0
      have HYB := Lib.hid hYb
      have HBL := Lib.hid (cblobs_any (HC5.out.1.ext HEB.out) HPI.out (by decide))
      have t1 : decide (j.kind < m) = false := by simp; omega
      clear hYb
      go_wp2_with fail
      refine HBL.out.mono ?_
      rintro e W9 ⟨bA, bcp, rfl, _, hE9⟩
      have y1 := (HYB.out.ext hE9).cell 1
      have y0' := (HYB.out.ext hE9).cell 0
      simp at y1 y0'
      have HJ9 := Lib.hid (And.intro (own_e HJO.out hE9) (HEB.out.trans hE9))
      clear HBL y0
      by_cases hPl : P.L.length = 0
      · have hbz := hb0 hPl
        rw [hbz] at y1
        rw [hPl]
        clear hb0
        go_wp2_with fail
        go_roundw
        case rel => exact ⟨k + 1, j.kind, by omega, by go_num, rfl, HRD.out, HJ9.out.1, HJ9.out.2⟩
        case measure => simp [intOf]; omega
      · clear hb0
        go_wp2_with fail
        go_roundw
        case rel => exact ⟨k + 1, j.kind, by omega, by go_num, rfl, HRD.out, HJ9.out.1, HJ9.out.2⟩
        case measure => simp [intOf]; omega
    · obtain rfl : k = J.length := by omega
      clear hjo HMK hlt hk HSF
      obtain ⟨Vd, Vv, Vi, Vld, Vlv⟩ := V
      obtain ⟨DA, dc, hd', _⟩ := HW5.out.1.d
      obtain ⟨VA, vc, hv', _⟩ := HW5.out.1.v
      simp only [] at hd' hv'
      rw [List.length_map] at hd' hv'
      subst hd'
      subst hv'
      have hdn := HOK.out.d
      have hvn := HOK.out.v
      have hcell : C1[0]? = some (.slice DA W.disks.length dc) := by rw [HCE.out.1]; rfl
      have hcell1 : C1[1]? = some (.slice VA W.vols.length vc) := by rw [HCE.out.1]; rfl
      have hA8 := HAB.out.1.ext hEw
      have hE4w := HK4.out.2.2.1.trans hEw
      have hE04w := HK4.out.2.2.2
      have hSd := HW5.out.1.d.ext hEw
      have hSv := HW5.out.1.v.ext hEw
      simp only [] at hSd hSv
      obtain ⟨wo, hwo⟩ : ∃ x : World, x = wr := ⟨_, rfl⟩
      rw [← hwo] at hA8 hSd hSv hEw hE4w ⊢
      clear hwo
      clear wr
      go_upto_region 15 with fail
      refine wp_region_phi (Γ := Nat → Value) (sgφ [.val (.pointer (some ⟨x8, 0, none⟩)), .val (.slice DA W.disks.length dc), .val (.slice DA 0 0), .val (.pointer (some ⟨x8, 0, none⟩)), .val (.slice DA W.disks.length dc), .g 0, .val (.pointer (some ⟨x8, 0, none⟩)), .any]) (GAp wo x8 0 W.disks) (by kernel_rfl) (by kernel_rfl) (by kernel_rfl) (fun _ => undef) ?inv ?steps ?fin
      case inv => exact ⟨fun _ => (Ext.refl wo).drew, fun h => (by cases h), fun h => (by cases h)⟩
      case steps =>
        show StepsTo _ _ _ _ _ _ 8
        refine ⟨⟨⟨⟨⟨⟨⟨⟨trivial, ?s0⟩, ?s1⟩, ?s2⟩, ?s3⟩, ?s4⟩, ?s5⟩, ?s6⟩, ?s7⟩
        case s0 =>
          refine sg_val (x := .pointer (some ⟨x8, 0, none⟩)) rfl rfl rfl (GAp.keep (j := 0) (by decide) (by decide)) fun γ L v a w1 st => ?_
          have e8 := st.far 8 (by kernel_rfl)
          simp at e8
          go_simp
        case s1 =>
          refine sg_val (x := .slice DA W.disks.length dc) rfl rfl rfl (GAp.keep (j := 1) (by decide) (by decide)) fun γ L v a w1 st => ?_
          have e58 := st.val 0 58 rfl (by kernel_rfl)
          rw [show v 0 = _ from st.φ 0 (by kernel_rfl)] at e58
          simp at e58
          have h5 : L 5 = false := by
            cases hq : L 5 with
            | false => rfl
            | true =>
              have q1 := st.down 5 2 hq (by kernel_rfl)
              have q2 := st.down 2 1 q1 (by kernel_rfl)
              have q99 := st.off; rw [q2] at q99; cases q99
          have q := ((hA8).ext (st.inv.ext h5)).cell 0
          rw [hcell] at q
          go_simp
        case s2 =>
          refine sg_val (x := .slice DA 0 0) rfl rfl rfl (GAp.keep (j := 2) (by decide) (by decide)) fun γ L v a w1 st => ?_
          have e59 := st.val 1 59 rfl (by kernel_rfl)
          rw [show v 1 = _ from st.φ 1 (by kernel_rfl)] at e59
          simp at e59
          obtain ⟨i0, hi0, _⟩ := info_parts pspot_info
          have hc := run_cut0 (P := Tryz.prog) (n := W.disks.length) (c := dc) (A := DA) Tryz.underlying23 hi0 w1
          go_simp
        case s3 =>
          refine sg_val (x := .pointer (some ⟨x8, 0, none⟩)) rfl rfl rfl (GAp.keep (j := 3) (by decide) (by decide)) fun γ L v a w1 st => ?_
          have e8 := st.far 8 (by kernel_rfl)
          simp at e8
          go_simp
        case s4 =>
          refine sg_val (x := .slice DA W.disks.length dc) rfl rfl rfl (GAp.keep (j := 4) (by decide) (by decide)) fun γ L v a w1 st => ?_
          have e61 := st.val 3 61 rfl (by kernel_rfl)
          rw [show v 3 = _ from st.φ 3 (by kernel_rfl)] at e61
          simp at e61
          have h5 : L 5 = false := by
            cases hq : L 5 with
            | false => rfl
            | true =>
              have q1 := st.down 5 4 hq (by kernel_rfl)
              have q2 := q1
              have q99 := st.off; rw [q2] at q99; cases q99
          have q := ((hA8).ext (st.inv.ext h5)).cell 0
          rw [hcell] at q
          go_simp
        case s5 =>
          refine sg_new (k := 0) rfl rfl rfl (by kernel_rfl) fun γ L v a w1 st => ?_
          have e60 := st.val 2 60 rfl (by kernel_rfl)
          rw [show v 2 = _ from st.φ 2 (by kernel_rfl)] at e60
          simp at e60
          have e62 := st.val 4 62 rfl (by kernel_rfl)
          rw [show v 4 = _ from st.φ 4 (by kernel_rfl)] at e62
          simp at e62
          have h7 : L 7 = false := by
            cases hq : L 7 with
            | false => rfl
            | true =>
              have q1 := st.down 7 5 hq (by kernel_rfl)
              have q99 := st.off; rw [q1] at q99; cases q99
          have h5 := st.off
          have hE := st.inv.ext h5
          refine ex_append_cut DA (hSd.ext hE) (fun r hr => by obtain ⟨s, _, rfl⟩ := List.mem_map.1 hr; rfl) (fun r hr => by obtain ⟨s, _, rfl⟩ := List.mem_map.1 hr; rfl) 23 Tryz.underlying23 pspot_info rfl (by decide) (by decide) (by rw [List.length_map]; omega) _ _ rfl (by simpa [Act.eval] using e60) (by simpa [Act.eval] using e62) ?_
          intro v' w' hE' hres
          refine ⟨fun hh => (by simp at hh), fun _ _ => ⟨hE.trans hE', ?_⟩, fun hh => (by simp [h7] at hh)⟩
          simp only [upd, if_true]
          rcases hres with ⟨e1, e2⟩ | ho
          · exact .inl ⟨List.map_eq_nil_iff.1 e1, _, e2⟩
          · rw [List.length_map] at ho
            exact .inr (own_lower ho hE.size)
        case s6 =>
          refine sg_val (x := .pointer (some ⟨x8, 0, none⟩)) rfl rfl rfl (GAp.keep (j := 6) (by decide) (by decide)) fun γ L v a w1 st => ?_
          have e8 := st.far 8 (by kernel_rfl)
          simp at e8
          go_simp
        case s7 =>
          refine sg_skip rfl rfl rfl fun γ L v a w1 st => ?_
          have d5 := st.dep 5 (by kernel_rfl)
          have h7 := st.off
          have e64 := st.val 6 64 rfl (by kernel_rfl)
          rw [show v 6 = _ from st.φ 6 (by kernel_rfl)] at e64
          simp at e64
          have e63 := st.val 5 63 rfl (by kernel_rfl)
          rw [show v 5 = _ from st.φ 5 (by kernel_rfl)] at e63
          simp at e63
          obtain ⟨hE, hres⟩ := st.inv.app d5 h7
          have hb := (hA8).ext hE
          have q := hb.cell 0
          rw [hcell] at q
          have hfz := hb.frozen 0
          obtain ⟨vA, vcp, hvs⟩ := hres.sl
          refine ⟨w1.setCell ⟨x8, 0, none⟩ (γ 0), ?_, fun hh => (by simp [d5] at hh), fun _ hh => (by simp at hh), fun _ => ⟨w1, hE, hres, rfl⟩⟩
          rw [hvs] at e63 ⊢
          go_simp
      case fin =>
        intro γ L v wz hall hG hφ
        obtain ⟨w1, hE1, hres, rfl⟩ := hG.fin (hall 7 (by decide))
        clear hφ hall hG
        generalize γ 0 = nv at hres ⊢
        have hA1 := hA8.ext hE1
        have hA9 := hA1.set 0 nv
        have hC9 : Chg (· = x8) w1 (w1.setCell ⟨x8, 0, none⟩ nv) := (Chg.refl (· = x8) w1).setCell (p := ⟨x8, 0, none⟩) (.inl rfl) nv
        have hres9 := hres.keep hA1 (by decide) hC9
        have hE49 := ((hE4w.trans hE1).setCell (p := ⟨x8, 0, none⟩) (by rw [HX8E.out]; exact Nat.le_refl _) nv)
        have hsz9 := hE49.size
        have hsw9 : wo.heap.size ≤ (w1.setCell ⟨x8, 0, none⟩ nv).heap.size := by have := hE1.size; simpa [World.setCell] using this
        have hng : ∀ g o n cc, nv = .slice (some ⟨g, o, none⟩) n cc → W.disks ≠ [] → g < (w1.setCell ⟨x8, 0, none⟩ nv).heap.size := by
          rintro g o n cc rfl hne
          exact Sln.block_lt hres9.sln (fun r hr => by obtain ⟨s, _, rfl⟩ := List.mem_map.1 hr; exact List.cons_ne_nil _ _) g o n cc rfl (fun e => hne (List.map_eq_nil_iff.1 e))
        have HNG := Lib.hid hng
        have hSv9 : Sln (w1.setCell ⟨x8, 0, none⟩ nv) (.slice VA W.vols.length vc) 2 (W.vols.map Spot.cells) := by
          have h := HK4.out.2.1.v.ext hE49
          exact h
        obtain ⟨nA, nc, hnv⟩ := hres9.sl
        subst hnv
        generalize w1.setCell ⟨x8, 0, none⟩ (.slice nA W.disks.length nc) = W9 at hA9 hres9 hE49 hSv9 HNG hsz9 hsw9 ⊢
        have hcell1 : (C1.setIfInBounds 0 (.slice nA W.disks.length nc))[1]? = some (.slice VA W.vols.length vc) := by rw [HCE.out.1]; rfl
        have HWZ := Lib.hid (And.intro hE4w.size (And.intro hsw9 hsz9))
        clear hA1 hC9 hres hng hE1 hsz9 hsw9 hA8 hSd hSv hcell hE4w
        change Exit.then _ _ _ (putAll _ v _ 8) W9
        simp only [putAll, dstOf, Act.put]
        simp only [List.getElem?_toArray, List.getElem?_cons_zero, List.getElem?_cons_succ, Option.bind_some, List.setIfInBounds_toArray, List.set_cons_zero, List.set_cons_succ]
        go_upto_region 16 with fail
        generalize hC2e : C1.setIfInBounds 0 (.slice nA W.disks.length nc) = Cb at hA9 hcell1
        have hcell := hcell1
        refine wp_region_phi (Γ := Nat → Value) (sgφ [.val (.pointer (some ⟨x8, 1, none⟩)), .val (.slice VA W.vols.length vc), .val (.slice VA 0 0), .val (.pointer (some ⟨x8, 1, none⟩)), .val (.slice VA W.vols.length vc), .g 0, .val (.pointer (some ⟨x8, 1, none⟩)), .any]) (GAp W9 x8 1 W.vols) (by kernel_rfl) (by kernel_rfl) (by kernel_rfl) (fun _ => undef) ?inv ?steps ?fin
        case inv => exact ⟨fun _ => (Ext.refl W9).drew, fun h => (by cases h), fun h => (by cases h)⟩
        case steps =>
          show StepsTo _ _ _ _ _ _ 8
          refine ⟨⟨⟨⟨⟨⟨⟨⟨trivial, ?s0⟩, ?s1⟩, ?s2⟩, ?s3⟩, ?s4⟩, ?s5⟩, ?s6⟩, ?s7⟩
          case s0 =>
            refine sg_val (x := .pointer (some ⟨x8, 1, none⟩)) rfl rfl rfl (GAp.keep (j := 0) (by decide) (by decide)) fun γ L v a w1 st => ?_
            have e8 := st.far 8 (by kernel_rfl)
            simp at e8
            go_simp
          case s1 =>
            refine sg_val (x := .slice VA W.vols.length vc) rfl rfl rfl (GAp.keep (j := 1) (by decide) (by decide)) fun γ L v a w1 st => ?_
            have e65 := st.val 0 65 rfl (by kernel_rfl)
            rw [show v 0 = _ from st.φ 0 (by kernel_rfl)] at e65
            simp at e65
            have h5 : L 5 = false := by
              cases hq : L 5 with
              | false => rfl
              | true =>
                have q1 := st.down 5 2 hq (by kernel_rfl)
                have q2 := st.down 2 1 q1 (by kernel_rfl)
                have q99 := st.off; rw [q2] at q99; cases q99
            have q := ((hA9).ext (st.inv.ext h5)).cell 1
            rw [hcell] at q
            go_simp
          case s2 =>
            refine sg_val (x := .slice VA 0 0) rfl rfl rfl (GAp.keep (j := 2) (by decide) (by decide)) fun γ L v a w1 st => ?_
            have e66 := st.val 1 66 rfl (by kernel_rfl)
            rw [show v 1 = _ from st.φ 1 (by kernel_rfl)] at e66
            simp at e66
            obtain ⟨i0, hi0, _⟩ := info_parts pspot_info
            have hc := run_cut0 (P := Tryz.prog) (n := W.vols.length) (c := vc) (A := VA) Tryz.underlying23 hi0 w1
            go_simp
          case s3 =>
            refine sg_val (x := .pointer (some ⟨x8, 1, none⟩)) rfl rfl rfl (GAp.keep (j := 3) (by decide) (by decide)) fun γ L v a w1 st => ?_
            have e8 := st.far 8 (by kernel_rfl)
            simp at e8
            go_simp
          case s4 =>
            refine sg_val (x := .slice VA W.vols.length vc) rfl rfl rfl (GAp.keep (j := 4) (by decide) (by decide)) fun γ L v a w1 st => ?_
            have e68 := st.val 3 68 rfl (by kernel_rfl)
            rw [show v 3 = _ from st.φ 3 (by kernel_rfl)] at e68
            simp at e68
            have h5 : L 5 = false := by
              cases hq : L 5 with
              | false => rfl
              | true =>
                have q1 := st.down 5 4 hq (by kernel_rfl)
                have q2 := q1
                have q99 := st.off; rw [q2] at q99; cases q99
            have q := ((hA9).ext (st.inv.ext h5)).cell 1
            rw [hcell] at q
            go_simp
          case s5 =>
            refine sg_new (k := 0) rfl rfl rfl (by kernel_rfl) fun γ L v a w1 st => ?_
            have e67 := st.val 2 67 rfl (by kernel_rfl)
            rw [show v 2 = _ from st.φ 2 (by kernel_rfl)] at e67
            simp at e67
            have e69 := st.val 4 69 rfl (by kernel_rfl)
            rw [show v 4 = _ from st.φ 4 (by kernel_rfl)] at e69
            simp at e69
            have h7 : L 7 = false := by
              cases hq : L 7 with
              | false => rfl
              | true =>
                have q1 := st.down 7 5 hq (by kernel_rfl)
                have q99 := st.off; rw [q1] at q99; cases q99
            have h5 := st.off
            have hE := st.inv.ext h5
            refine ex_append_cut VA (hSv9.ext hE) (fun r hr => by obtain ⟨s, _, rfl⟩ := List.mem_map.1 hr; rfl) (fun r hr => by obtain ⟨s, _, rfl⟩ := List.mem_map.1 hr; rfl) 23 Tryz.underlying23 pspot_info rfl (by decide) (by decide) (by rw [List.length_map]; omega) _ _ rfl (by simpa [Act.eval] using e67) (by simpa [Act.eval] using e69) ?_
            intro v' w' hE' hres
            refine ⟨fun hh => (by simp at hh), fun _ _ => ⟨hE.trans hE', ?_⟩, fun hh => (by simp [h7] at hh)⟩
            simp only [upd, if_true]
            rcases hres with ⟨e1, e2⟩ | ho
            · exact .inl ⟨List.map_eq_nil_iff.1 e1, _, e2⟩
            · rw [List.length_map] at ho
              exact .inr (own_lower ho hE.size)
          case s6 =>
            refine sg_val (x := .pointer (some ⟨x8, 1, none⟩)) rfl rfl rfl (GAp.keep (j := 6) (by decide) (by decide)) fun γ L v a w1 st => ?_
            have e8 := st.far 8 (by kernel_rfl)
            simp at e8
            go_simp
          case s7 =>
            refine sg_skip rfl rfl rfl fun γ L v a w1 st => ?_
            have d5 := st.dep 5 (by kernel_rfl)
            have h7 := st.off
            have e71 := st.val 6 71 rfl (by kernel_rfl)
            rw [show v 6 = _ from st.φ 6 (by kernel_rfl)] at e71
            simp at e71
            have e70 := st.val 5 70 rfl (by kernel_rfl)
            rw [show v 5 = _ from st.φ 5 (by kernel_rfl)] at e70
            simp at e70
            obtain ⟨hE, hres⟩ := st.inv.app d5 h7
            have hb := (hA9).ext hE
            have q := hb.cell 1
            rw [hcell] at q
            have hfz := hb.frozen 1
            obtain ⟨vA, vcp, hvs⟩ := hres.sl
            refine ⟨w1.setCell ⟨x8, 1, none⟩ (γ 0), ?_, fun hh => (by simp [d5] at hh), fun _ hh => (by simp at hh), fun _ => ⟨w1, hE, hres, rfl⟩⟩
            rw [hvs] at e70 ⊢
            go_simp
        case fin =>
          intro γ L v wz hall hG hφ
          obtain ⟨w1, hE1, hres, rfl⟩ := hG.fin (hall 7 (by decide))
          clear hφ hall hG
          generalize γ 0 = nv at hres ⊢
          have hA1 := hA9.ext hE1
          have hAa := hA1.set 1 nv
          have hCa : Chg (· = x8) w1 (w1.setCell ⟨x8, 1, none⟩ nv) := (Chg.refl (· = x8) w1).setCell (p := ⟨x8, 1, none⟩) (.inl rfl) nv
          have hresv := hres.keep hA1 (by decide) hCa
          have hresd := (hres9.ext hE1).keep hA1 (by decide) hCa
          have hE4a := ((hE49.trans hE1).setCell (p := ⟨x8, 1, none⟩) (by rw [HX8E.out]; exact Nat.le_refl _) nv)
          obtain ⟨mA, mc', hnv⟩ := hresv.sl
          subst hnv
          generalize w1.setCell ⟨x8, 1, none⟩ (.slice mA W.vols.length mc') = Wa at hAa hresv hresd hE4a ⊢
          have HA0 := Lib.hid (And.intro hAa (And.intro hresd (And.intro hresv hE4a)))
          obtain ⟨Cc, hCc⟩ : ∃ C, C = Cb.setIfInBounds 1 (.slice mA W.vols.length mc') := ⟨_, rfl⟩
          rw [← hCc] at HA0
          have HCC : Hid (Cc = wdCells W.downs ⟨.slice nA W.disks.length nc, .slice mA W.vols.length mc', Vi, Vld, Vlv⟩) := Lib.hid (by rw [hCc, ← hC2e, HCE.out.1]; rfl)
          have hc0 : Cc[0]? = some (.slice nA W.disks.length nc) := by rw [HCC.out]; rfl
          have hc1 : Cc[1]? = some (.slice mA W.vols.length mc') := by rw [HCC.out]; rfl
          clear hA1 hCa hres hE1 hA9 hAa hresv hresd hE4a hres9 hE49 hSv9 hcell hcell1 hCc hC2e
          change Exit.then _ _ _ (putAll _ v _ 8) Wa
          simp only [putAll, dstOf, Act.put]
          simp only [List.getElem?_toArray, List.getElem?_cons_zero, List.getElem?_cons_succ, Option.bind_some, List.setIfInBounds_toArray, List.set_cons_zero, List.set_cons_succ]
          have HSZ := Lib.hid (show W4.heap.size ≤ wo.heap.size ∧ wo.heap.size ≤ W9.heap.size ∧ W4.heap.size ≤ W9.heap.size from HWZ.out)
          have hcz := HA0.out.1.cell 0
          rw [hc0] at hcz
          go_wp2_with fail
          go_loopw [75] (fun iv wr => ∃ k : Nat, k ≤ W.disks.length ∧ iv = .int .i64 (k : Int) ∧ (W.disks = [] ∨ wr.ownsRow wo.heap.size 55 2 (.slice nA W.disks.length nc) W.disks.length (((downTo W.disks k).map Spot.cells).flatten)) ∧ (W.vols = [] ∨ wr.ownsRow W9.heap.size 55 2 (.slice mA W.vols.length mc') W.vols.length ((W.vols.map Spot.cells).flatten)) ∧ At wr x8 27 Cc ∧ Ext W4 wr) (fun iv _ => W.disks.length - (intOf iv).toNat)
          case atStart => exact ⟨0, Nat.zero_le _, rfl, HA0.out.2.1.imp (fun h => h.1) (fun h => by simpa [downTo] using h), HA0.out.2.2.1.imp (fun h => h.1) id, HA0.out.1, HA0.out.2.2.2⟩
          case round =>
            obtain ⟨k, hk, rfl, hrow, hother, hAx, hEx⟩ := hrel
            by_cases hlt : k < W.disks.length
            · have hne : ¬ W.disks = [] := fun e => by rw [e] at hlt; simp at hlt
              have hown := hrow.resolve_left hne
              obtain ⟨s, hs⟩ : ∃ s, W.disks[k]? = some s := ⟨_, List.getElem?_eq_getElem hlt⟩
              obtain ⟨g, cap, hv2, hgb, hgl, hnc, hcm, hfz⟩ := own_some hown (by omega)
              injection hv2 with q1 q2 q3
              subst q1
              subst q3
              have c1 := hown.cellAt (k * 2) (by omega)
              rw [down_cell hs] at c1
              have f1 := hfz (k * 2)
              have hset := own_set hown (j := k * 2) (by omega) (.bool false)
              rw [down_rows hs] at hset
              have hCg : Chg (· = g) wr (wr.setCell ⟨g, k * 2, none⟩ (.bool false)) := (Chg.refl (· = g) wr).setCell (p := ⟨g, k * 2, none⟩) (.inl rfl) _
              have hx8g : x8 ≠ g := fun e => by
                subst e
                exact own_apart' hown hAx (by decide) _ rfl rfl
              have hA2 := hAx.far (p := ⟨g, k * 2, none⟩) hx8g (.bool false)
              have hE2 : Ext W4 (wr.setCell ⟨g, k * 2, none⟩ (.bool false)) := hEx.setCell (by show W4.heap.size ≤ g; have := HSZ.out; omega) _
              have ho2 : W.vols = [] ∨ (wr.setCell ⟨g, k * 2, none⟩ (.bool false)).ownsRow W9.heap.size 55 2 (.slice mA W.vols.length mc') W.vols.length ((W.vols.map Spot.cells).flatten) := by
                by_cases hd1 : W.vols = []
                · exact .inl hd1
                · exact hother.imp id fun h => own_keep h hCg (fun q hq e => by
                    have e' : q = g := e
                    have hge := own_ge h q hq
                    have hg9 := HNG.out g 0 _ _ rfl hne
                    omega)
              have HR := Lib.hid (And.intro hset (And.intro ho2 (And.intro hA2 hE2)))
              have hcx := hAx.cell 0
              rw [hc0] at hcx
              clear hset ho2 hA2 hE2 hCg hx8g hown hrow hother hAx hEx hs hne hfz hgb hgl hnc hcm
              go_wp2_with fail
              go_roundw
              case rel => exact ⟨k + 1, by omega, by go_num, .inr HR.out.1, HR.out.2.1, HR.out.2.2.1, HR.out.2.2.2⟩
              case measure => simp [intOf]; omega
            · obtain rfl : k = W.disks.length := by omega
              rw [downTo_all] at hrow
              have HZ1 := Lib.hid (And.intro hrow (And.intro hother (And.intro hAx hEx)))
              clear hother hrow hk hlt
              have hcz := hAx.cell 1
              rw [hc1] at hcz
              clear hAx hEx
              obtain ⟨wz, hwz⟩ : ∃ x : World, x = wr := ⟨_, rfl⟩
              rw [← hwz] at HZ1 hcz ⊢
              clear hwz
              clear wr
              go_wp2_with fail
              go_loopw [87] (fun iv wr => ∃ k : Nat, k ≤ W.vols.length ∧ iv = .int .i64 (k : Int) ∧ (W.vols = [] ∨ wr.ownsRow W9.heap.size 55 2 (.slice mA W.vols.length mc') W.vols.length (((downTo W.vols k).map Spot.cells).flatten)) ∧ (W.disks = [] ∨ wr.ownsRow wo.heap.size 55 2 (.slice nA W.disks.length nc) W.disks.length (((W.disks.map down).map Spot.cells).flatten)) ∧ At wr x8 27 Cc ∧ Ext W4 wr) (fun iv _ => W.vols.length - (intOf iv).toNat)
              case atStart => exact ⟨0, Nat.zero_le _, rfl, HZ1.out.2.1.imp id (fun h => by simpa [downTo] using h), HZ1.out.1, HZ1.out.2.2.1, HZ1.out.2.2.2⟩
              case round =>
                obtain ⟨k, hk, rfl, hrow, hother, hAx, hEx⟩ := hrel
                by_cases hlt : k < W.vols.length
                · have hne : ¬ W.vols = [] := fun e => by rw [e] at hlt; simp at hlt
                  have hown := hrow.resolve_left hne
                  obtain ⟨s, hs⟩ : ∃ s, W.vols[k]? = some s := ⟨_, List.getElem?_eq_getElem hlt⟩
                  obtain ⟨g, cap, hv2, hgb, hgl, hnc, hcm, hfz⟩ := own_some hown (by omega)
                  injection hv2 with q1 q2 q3
                  subst q1
                  subst q3
                  have c1 := hown.cellAt (k * 2) (by omega)
                  rw [down_cell hs] at c1
                  have f1 := hfz (k * 2)
                  have hset := own_set hown (j := k * 2) (by omega) (.bool false)
                  rw [down_rows hs] at hset
                  have hCg : Chg (· = g) wr (wr.setCell ⟨g, k * 2, none⟩ (.bool false)) := (Chg.refl (· = g) wr).setCell (p := ⟨g, k * 2, none⟩) (.inl rfl) _
                  have hx8g : x8 ≠ g := fun e => by
                    subst e
                    exact own_apart' hown hAx (by decide) _ rfl rfl
                  have hA2 := hAx.far (p := ⟨g, k * 2, none⟩) hx8g (.bool false)
                  have hE2 : Ext W4 (wr.setCell ⟨g, k * 2, none⟩ (.bool false)) := hEx.setCell (by show W4.heap.size ≤ g; have := HSZ.out; omega) _
                  have ho2 : W.disks = [] ∨ (wr.setCell ⟨g, k * 2, none⟩ (.bool false)).ownsRow wo.heap.size 55 2 (.slice nA W.disks.length nc) W.disks.length (((W.disks.map down).map Spot.cells).flatten) := by
                    by_cases hd1 : W.disks = []
                    · exact .inl hd1
                    · exact hother.imp id fun h => own_keep h hCg (fun q hq e => by
                        have e' : q = g := e
                        have hlp : 0 < W.disks.length := List.length_pos_iff.2 hd1
                        obtain ⟨g2, c2, e2, _⟩ := own_some h hlp
                        have e3 : q = g2 := by rw [e2] at hq; simpa [Value.ownBlock] using hq
                        have hlt9 := HNG.out g2 0 _ _ e2 hd1
                        omega)
                  have HR := Lib.hid (And.intro hset (And.intro ho2 (And.intro hA2 hE2)))
                  have hcx := hAx.cell 1
                  rw [hc1] at hcx
                  clear hset ho2 hA2 hE2 hCg hx8g hown hrow hother hAx hEx hs hne hfz hgb hgl hnc hcm
                  go_wp2_with fail
                  go_roundw
                  case rel => exact ⟨k + 1, by omega, by go_num, .inr HR.out.1, HR.out.2.1, HR.out.2.2.1, HR.out.2.2.2⟩
                  case measure => simp [intOf]; omega
                · obtain rfl : k = W.vols.length := by omega
                  rw [downTo_all] at hrow
                  have HZ2 := Lib.hid (And.intro hother (And.intro hrow (And.intro hAx hEx)))
                  clear hother hrow hAx hEx hk hlt
                  obtain ⟨wp, hwp⟩ : ∃ x : World, x = wr := ⟨_, rfl⟩
                  rw [← hwp] at HZ2 ⊢
                  clear hwp
                  clear wr
                  have hwd : WdIn wp W.downs ⟨.slice nA W.disks.length nc, .slice mA W.vols.length mc', Vi, Vld, Vlv⟩ := by
                    have h0 := HK4.out.2.1
                    have hE := HZ2.out.2.2.2
                    refine ⟨?_, ?_, h0.i.ext hE, h0.ld.ext hE, h0.lv.ext hE⟩
                    · show Sln wp (.slice nA W.disks.length nc) 2 ((W.disks.map down).map Spot.cells)
                      rcases HZ2.out.1 with h | h
                      · rw [h]
                        exact ⟨nA, nc, rfl, fun hn => absurd rfl hn⟩
                      · exact Sln.of_own h (fun r hr => by obtain ⟨x, _, rfl⟩ := List.mem_map.1 hr; rfl) (by simp)
                    · show Sln wp (.slice mA W.vols.length mc') 2 ((W.vols.map down).map Spot.cells)
                      rcases HZ2.out.2.1 with h | h
                      · rw [h]
                        exact ⟨mA, mc', rfl, fun hn => absurd rfl hn⟩
                      · exact Sln.of_own h (fun r hr => by obtain ⟨x, _, rfl⟩ := List.mem_map.1 hr; rfl) (by simp)
                  have hjb2 := jobs_any wp B c mb mn W.downs ⟨.slice nA W.disks.length nc, .slice mA W.vols.length mc', Vi, Vld, Vlv⟩ P 25 hwd (Wd.downs_ok HOK.out) (HK4.out.1.ext HZ2.out.2.2.2) HPI.out (by decide)
                  rw [← HCC.out] at hjb2
                  have HJB2 := Lib.hid hjb2
                  have HS2 : Hid (∀ j ∈ planJobs W.downs P, j.kind = 4 ∨ j.kind = 5 ∨ j.kind = 9) := Lib.hid (fun j hj => planJobs_down (fun i => down_up _ i) (fun i => down_up _ i) hj)
                  have hPL2 := planJobs_len25 (W := W.downs) HPI.out (Wd.downs_ok HOK.out)
                  generalize planJobs W.downs P = J2 at HJB2 HS2 hPL2
                  have HRB := Lib.hid HZ2.out.2.2.1.range
                  have HI2 : Hid ((Tryz.prog.info? 27).map (·.size) = some Cc.toList.length) := Lib.hid (by rw [HCC.out]; exact wd9_info)
                  have hEwp := hE04w.trans HZ2.out.2.2.2
                  clear hwd hjb2 HZ2
                  go_wp2_with (refine wpList_load_mid rfl 27 _ rfl x8 0 rfl _ _ HRB.out Tryz.underlying27 rfl HI2.out ?_)
                  refine HJB2.out.mono ?_
                  rintro e Wq ⟨jv2, rfl, hj2, hEq⟩
                  obtain ⟨jB, jd, rfl⟩ := own_slc hj2
                  have hEq2 := hEwp.trans hEq
                  clear HJB2
                  go_wp2_with fail
                  go_loopw [100] (fun iv wr => ∃ k : Nat, k ≤ J2.length ∧ iv = .int .i64 (k : Int) ∧ wr.ownsRow wp.heap.size 50 4 (.slice jB J2.length jd) J2.length (jobsV J2) ∧ Ext w wr) (fun iv _ => J2.length - (intOf iv).toNat)
                  case atStart => exact ⟨0, Nat.zero_le _, rfl, hj2, hEq2⟩
                  case round =>
                    clear hj2 hEq2
                    obtain ⟨k, hk, rfl, hjo, hEw⟩ := hrel
                    by_cases hlt : k < J2.length
                    · obtain ⟨j, hj⟩ : ∃ j, J2[k]? = some j := ⟨_, List.getElem?_eq_getElem hlt⟩
                      obtain ⟨jb, rfl, hjb, hjl, r0, r1, r2, r3⟩ := jobs_cells hjo rfl hj
                      have hkd := HS2.out j (List.mem_of_getElem? hj)
                      have hYb := At.new wr 50 #[.int .i64 j.kind, .int .u64 (j.blob : Int), .int .i64 j.pool, .int .i64 j.vol]
                      have hEb := (Ext.refl wr).alloc (.cells #[.int .i64 j.kind, .int .u64 (j.blob : Int), .int .i64 j.pool, .int .i64 j.vol] 50)
                      have HJO := Lib.hid (And.intro (own_e hjo hEb) (hEw.trans hEb))
                      clear hjo hEb hjb hjl hj hEw
                      have HKD := Lib.hid hkd
                      clear hkd
                      go_upto_region 30 with fail
                      clear r0 r1 r2 r3
                      generalize wr.heap.size = yb at hYb ⊢
                      generalize wr.alloc _ = W8 at hYb HJO ⊢
                      have y0 := hYb.cell 0
                      simp at y0
                      clear hYb
                      rcases HKD.out with h | h | h
                      · rw [h] at y0
                        clear h
                        go_wp2_with fail
                        go_roundw
                        case rel => exact ⟨k + 1, by omega, by go_num, HJO.out.1, HJO.out.2⟩
                        case measure => simp [intOf]; omega
                      · rw [h] at y0
                        clear h
                        go_wp2_with fail
                        go_roundw
                        case rel => exact ⟨k + 1, by omega, by go_num, HJO.out.1, HJO.out.2⟩
                        case measure => simp [intOf]; omega
                      · rw [h] at y0
                        clear h
                        go_wp2_with fail
                        go_roundw
                        case rel => exact ⟨k + 1, by omega, by go_num, HJO.out.1, HJO.out.2⟩
                        case measure => simp [intOf]; omega
                    · obtain rfl : k = J2.length := by omega
                      go_wp2_with fail
                      go_ret
                      exact ⟨rfl, hEw⟩
end Go.Proofs.YtiojjokfeknhcaaGreat
