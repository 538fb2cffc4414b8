/-
  Part 21 of what the law leans on.
-/
import Derived.Test.YtiojjokfeknhcaaGreatSA6
import Derived.Test.YtiojjokfeknhcaaGreatSA14
import Derived.Test.YtiojjokfeknhcaaGreatSA15
import Derived.Test.YtiojjokfeknhcaaGreatSA20
set_option linter.unusedVariables false
set_option linter.unusedSimpArgs false
set_option linter.unusedSectionVars false
namespace Go.Proofs.YtiojjokfeknhcaaGreat
open Go.RowKit Go.Sort
theorem copies_at (a0 : Bool) (a1 a2 : Int) (b0 : Bool) (b1 b2 : Int) (w : World) : (Instr.index 61 (.agg #[.bool a0, .int .i64 a1, .int .i64 a2, .bool b0, .int .i64 b1, .int .i64 b2]) (.int .i64 0)).run Tryz.prog w = .ok (.agg #[.bool a0, .int .i64 a1, .int .i64 a2]) w ∧ (Instr.index 61 (.agg #[.bool a0, .int .i64 a1, .int .i64 a2, .bool b0, .int .i64 b1, .int .i64 b2]) (.int .i64 1)).run Tryz.prog w = .ok (.agg #[.bool b0, .int .i64 b1, .int .i64 b2]) w := by
  constructor <;> kernel_rfl
theorem jobs_cells {w : World} {A : Option Addr} {n cp : Nat} {J : List Jb} {base : Nat} (h : w.ownsRow base 50 4 (.slice A n cp) n (jobsV J)) (hn : n = J.length) {k : Nat} {j : Jb} (hj : J[k]? = some j) :
    ∃ g, A = some ⟨g, 0, none⟩ ∧ base ≤ g ∧ g < w.heap.size ∧ w.cell? ⟨g, k * 4, none⟩ = some (.int .i64 j.kind) ∧ w.cell? ⟨g, k * 4 + 1, none⟩ = some (.int .u64 (j.blob : Int)) ∧ w.cell? ⟨g, k * 4 + 2, none⟩ = some (.int .i64 j.pool) ∧ w.cell? ⟨g, k * 4 + 3, none⟩ = some (.int .i64 j.vol) := by
  have hk : k < J.length := (List.getElem?_eq_some_iff.1 hj).1
  obtain ⟨g, c, e, hb, hl, _⟩ := own_some h (by omega)
  injection e with e1 e2 e3
  subst e1
  have hS : Sln w (.slice (some ⟨g, 0, none⟩) n cp) 4 (J.map Jb.cells) := Sln.of_own h (fun r hr => by obtain ⟨s, _, rfl⟩ := List.mem_map.1 hr; rfl) (by rw [List.length_map, hn])
  have hg : (J.map Jb.cells)[k]? = some j.cells := by rw [List.getElem?_map, hj]; rfl
  have hc := sln_get hS hg
  have h0 := hc 0 _ rfl
  have h1 := hc 1 _ rfl
  have h2 := hc 2 _ rfl
  have h3 := hc 3 _ rfl
  simp only [Nat.zero_add, Nat.add_zero] at h0 h1 h2 h3
  exact ⟨g, rfl, hb, hl, h0, h1, h2, h3⟩
set_option maxRecDepth 100000 in
set_option maxHeartbeats 8000000 in
theorem safe_any (w : World) (cv dv vv iv ldv lvv : Value) (cmds : List CRow) (dl vl : List Spot) (il : List Int) (ldl lvl : List Bool) (cp kp pc rs : Int) (hC : CmdsIn w cmds cv) (hD : SlnC w dv 2 (dl.map Spot.cells)) (hV : SlnC w vv 2 (vl.map Spot.cells)) (hI : SlC w iv (il.map (Value.int .i64))) (hLD : SlC w ldv (ldl.map Value.bool)) (hLV : SlC w lvv (lvl.map Value.bool)) :
    Calls Tryz.prog 5 #[cv, .agg #[dv, vv, iv, ldv, lvv, .int .i64 cp, .int .i64 kp, .int .i64 pc, .int .i64 rs]] w fun e w' => e = .returned (.bool true) ∧ Ext w w' := by
  have hslc : ∀ {ls : List Value} {v : Value} {w2 : World}, SlC w v ls → Ext w w2 → SlC w2 v ls := fun h hE => ⟨h.1.ext hE, h.2⟩
  have hYb := At.new w 27 #[dv, vv, iv, ldv, lvv, .int .i64 cp, .int .i64 kp, .int .i64 pc, .int .i64 rs]
  have hE0 := (Ext.refl w).alloc (.cells #[dv, vv, iv, ldv, lvv, .int .i64 cp, .int .i64 kp, .int .i64 pc, .int .i64 rs] 27)
  have HCM := Lib.hid (fun w2 (hE : Ext w w2) => hC.ext hE)
  have HLW := Lib.hid (fun w2 (hE : Ext w w2) => lw_any w2 dv vv iv ldv lvv dl vl il ldl lvl cp kp pc rs ⟨hD.1.ext hE, hD.2⟩ ⟨hV.1.ext hE, hV.2⟩ (hslc hI hE) (hslc hLD hE) (hslc hLV hE))
  have HOK := Lib.hid (wdOf_ok dl vl il ldl lvl cp kp pc rs)
  generalize wdOf dl vl il ldl lvl cp kp pc rs = W at HLW HOK
  clear hC hD hV hI hLD hLV hslc
  go_enter Tryz.func5, Tryz.ntmps5
  go_upto_region 1 with fail
  generalize w.heap.size = yb at hYb ⊢
  generalize w.alloc (.cells #[dv, vv, iv, ldv, lvv, .int .i64 cp, .int .i64 kp, .int .i64 pc, .int .i64 rs] 27) = W0 at hYb hE0 ⊢
  have HYB := Lib.hid (fun w2 (hE : Ext W0 w2) => (hYb.ext hE).range)
  clear hYb
  have HAW := Lib.hid (awake17_any W0)
  go_wp2_with fail
  refine HAW.out.mono ?_
  rintro e W1 ⟨rfl, hE1⟩
  have hE01 := hE0.trans hE1
  have HGR := Lib.hid (grow_any W1 cmds cv (HCM.out W1 hE01))
  clear HAW
  go_wp2_with fail
  refine HGR.out.mono ?_
  rintro e W2 ⟨B, c, mb, mn, X, P, rfl, hBw, hCt, hRf, h37, hXo, hPI, hE2⟩
  have hE02 := hE01.trans hE2
  have hY02 := hE1.trans hE2
  have HX37 := Lib.hid h37
  have HXO := Lib.hid hXo
  have HI1 : Hid ((Tryz.prog.info? 35).map (·.size) = some X.toList.length) := Lib.hid (by rw [Array.length_toList, h37]; exact rf_cinfo)
  have hX0 := At.new W2 35 #[.slice none 0 0, .bool false, .bool false, .int .i64 0, .bool false, .bool false, .int .i64 0, .bool false, .bool false, .int .i64 0, .bool false, .bool false, .int .i64 0, .bool false, .bool false, .int .i64 0, .bool false, .bool false, .int .i64 0, .bool false, .bool false, .int .i64 0, .bool false, .bool false, .int .i64 0, .bool false, .bool false, .int .i64 0, .bool false, .bool false, .int .i64 0, .bool false, .bool false, .int .i64 0, .bool false, .bool false, .int .i64 0]
  have hEx := (Ext.refl W2).alloc (.cells #[.slice none 0 0, .bool false, .bool false, .int .i64 0, .bool false, .bool false, .int .i64 0, .bool false, .bool false, .int .i64 0, .bool false, .bool false, .int .i64 0, .bool false, .bool false, .int .i64 0, .bool false, .bool false, .int .i64 0, .bool false, .bool false, .int .i64 0, .bool false, .bool false, .int .i64 0, .bool false, .bool false, .int .i64 0, .bool false, .bool false, .int .i64 0, .bool false, .bool false, .int .i64 0, .bool false, .bool false, .int .i64 0] 35)
  have HT0 := Lib.hid hX0.there
  clear HGR HCM hE0 hE1 hE01 hE2 hBw
  go_upto_region 6 with (refine wpList_store_mid rfl 35 _ _ rfl W2.heap.size 0 X rfl rfl (by rw [HX37.out]; exact HT0.out) (by rw [HX37.out]; exact rf_cinfo) HXO.out ?_)
  have hX1 := At.cells_all (cs := X) hX0 (by rw [HX37.out]; rfl)
  have hE3 : Ext W2 ((W2.alloc (.cells #[.slice none 0 0, .bool false, .bool false, .int .i64 0, .bool false, .bool false, .int .i64 0, .bool false, .bool false, .int .i64 0, .bool false, .bool false, .int .i64 0, .bool false, .bool false, .int .i64 0, .bool false, .bool false, .int .i64 0, .bool false, .bool false, .int .i64 0, .bool false, .bool false, .int .i64 0, .bool false, .bool false, .int .i64 0, .bool false, .bool false, .int .i64 0, .bool false, .bool false, .int .i64 0, .bool false, .bool false, .int .i64 0] 35)).setCells W2.heap.size 0 X.toList) := hEx.setCells (Nat.le_refl _) _ _
  generalize W2.heap.size = x6 at hX1 hE3 ⊢
  generalize (W2.alloc (.cells #[.slice none 0 0, .bool false, .bool false, .int .i64 0, .bool false, .bool false, .int .i64 0, .bool false, .bool false, .int .i64 0, .bool false, .bool false, .int .i64 0, .bool false, .bool false, .int .i64 0, .bool false, .bool false, .int .i64 0, .bool false, .bool false, .int .i64 0, .bool false, .bool false, .int .i64 0, .bool false, .bool false, .int .i64 0, .bool false, .bool false, .int .i64 0, .bool false, .bool false, .int .i64 0, .bool false, .bool false, .int .i64 0] 35)).setCells x6 0 X.toList = W3 at hX1 hE3 ⊢
  have hE03 := hE02.trans hE3
  have HYR := Lib.hid (HYB.out W3 (hY02.trans hE3))
  have HL3 := Lib.hid (HLW.out W3 hE03)
  have hCt3 := hCt.ext hE3
  have hRf3 := hRf.ext hE3
  have HI9 : Hid ((Tryz.prog.info? 27).map (·.size) = some (#[dv, vv, iv, ldv, lvv, .int .i64 cp, .int .i64 kp, .int .i64 pc, .int .i64 rs] : Array Value).toList.length) := Lib.hid wd9_info
  clear hCt hRf hX0 hEx HT0 h37 hXo hE02 hE3 hY02 HYB HLW
  go_wp2_with (refine wpList_load_mid rfl 27 _ rfl yb 0 rfl _ _ HYR.out Tryz.underlying27 rfl HI9.out ?_)
  refine HL3.out.mono ?_
  rintro e W4 ⟨V, V2, rfl, hw1, hw2, hE4⟩
  have hE04 := hE03.trans hE4
  have hs1 := hw1.sl
  have hs2 := hw2.sl
  have HC1 : Hid ((wdCells W V).all (·.oneCell') = true ∧ (wdCells W V2).all (·.oneCell') = true) := Lib.hid ⟨wdCells_one hs1, wdCells_one hs2⟩
  have HS9 : Hid ((wdCells W V).size = 9 ∧ (wdCells W V2).size = 9) := Lib.hid ⟨rfl, rfl⟩
  have HC4 := Lib.hid (And.intro (hCt3.ext hE4) (And.intro (hRf3.ext hE4) (hX1.ext hE4)))
  have HW4 := Lib.hid (And.intro hw1 hw2)
  have HSL := Lib.hid (And.intro hs1 hs2)
  obtain ⟨C1, hC1⟩ : ∃ C, C = wdCells W V := ⟨_, rfl⟩
  obtain ⟨C2, hC2⟩ : ∃ C, C = wdCells W V2 := ⟨_, rfl⟩
  rw [← hC1, ← hC2] at HC1 HS9
  have HCE := Lib.hid (And.intro hC1 hC2)
  rw [← hC1, ← hC2]
  clear hs1 hs2 hw1 hw2 hE4 hE03 hX1 hCt3 hRf3 HL3 HYR hC1 hC2
  have hA0 := (At.new W4 27 #[.slice none 0 0, .slice none 0 0, .slice none 0 0, .slice none 0 0, .slice none 0 0, .int .i64 0, .int .i64 0, .int .i64 0, .int .i64 0]).alloc (.cells #[.slice none 0 0, .slice none 0 0, .slice none 0 0, .slice none 0 0, .slice none 0 0, .int .i64 0, .int .i64 0, .int .i64 0, .int .i64 0] 40)
  have hB0 := At.new (W4.alloc (.cells #[.slice none 0 0, .slice none 0 0, .slice none 0 0, .slice none 0 0, .slice none 0 0, .int .i64 0, .int .i64 0, .int .i64 0, .int .i64 0] 27)) 40 #[.slice none 0 0, .slice none 0 0, .slice none 0 0, .slice none 0 0, .slice none 0 0, .int .i64 0, .int .i64 0, .int .i64 0, .int .i64 0]
  have hs4 : (W4.alloc (.cells #[.slice none 0 0, .slice none 0 0, .slice none 0 0, .slice none 0 0, .slice none 0 0, .int .i64 0, .int .i64 0, .int .i64 0, .int .i64 0] 27)).heap.size = W4.heap.size + 1 := by simp
  rw [hs4] at hB0
  have hE5 := ((Ext.refl W4).alloc (.cells #[.slice none 0 0, .slice none 0 0, .slice none 0 0, .slice none 0 0, .slice none 0 0, .int .i64 0, .int .i64 0, .int .i64 0, .int .i64 0] 27)).alloc (.cells #[.slice none 0 0, .slice none 0 0, .slice none 0 0, .slice none 0 0, .slice none 0 0, .int .i64 0, .int .i64 0, .int .i64 0, .int .i64 0] 40)
  have HTA := Lib.hid hA0.there
  have hB1 : At (((W4.alloc (.cells #[.slice none 0 0, .slice none 0 0, .slice none 0 0, .slice none 0 0, .slice none 0 0, .int .i64 0, .int .i64 0, .int .i64 0, .int .i64 0] 27)).alloc (.cells #[.slice none 0 0, .slice none 0 0, .slice none 0 0, .slice none 0 0, .slice none 0 0, .int .i64 0, .int .i64 0, .int .i64 0, .int .i64 0] 40)).setCells W4.heap.size 0 C1.toList) (W4.heap.size + 1) 40 #[.slice none 0 0, .slice none 0 0, .slice none 0 0, .slice none 0 0, .slice none 0 0, .int .i64 0, .int .i64 0, .int .i64 0, .int .i64 0] := hB0.chg (chg_setCells (b := W4.heap.size) C1.toList 0) (by show ¬ W4.heap.size + 1 = W4.heap.size; omega)
  have HTB := Lib.hid hB1.there
  go_upto_region 7 with (first | (refine wpList_store_mid rfl 27 _ _ rfl W4.heap.size 0 C1 rfl rfl (by rw [HS9.out.1]; exact HTA.out) (by rw [HS9.out.1]; exact wd9_info) HC1.out.1 ?_) | (refine wpList_store_mid rfl 40 _ _ rfl (W4.heap.size + 1) 0 C2 rfl rfl (by rw [HS9.out.2]; exact HTB.out) (by rw [HS9.out.2]; exact rwd9_info) HC1.out.2 ?_))
  have hA1 := (hA0.cells_all (cs := C1) (by rw [HS9.out.1]; rfl)).chg (chg_setCells (b := W4.heap.size + 1) C2.toList 0) (by show ¬ W4.heap.size = W4.heap.size + 1; omega)
  have hB2 := hB1.cells_all (cs := C2) (by rw [HS9.out.2]; rfl)
  have hE6 := (hE5.setCells (b := W4.heap.size) (Nat.le_refl _) C1.toList 0).setCells (b := W4.heap.size + 1) (by omega) C2.toList 0
  generalize hx8 : W4.heap.size = x8 at hA1 hB2 hE6 ⊢
  generalize ((((W4.alloc (.cells #[.slice none 0 0, .slice none 0 0, .slice none 0 0, .slice none 0 0, .slice none 0 0, .int .i64 0, .int .i64 0, .int .i64 0, .int .i64 0] 27)).alloc (.cells #[.slice none 0 0, .slice none 0 0, .slice none 0 0, .slice none 0 0, .slice none 0 0, .int .i64 0, .int .i64 0, .int .i64 0, .int .i64 0] 40)).setCells x8 0 C1.toList).setCells (x8 + 1) 0 C2.toList) = W5 at hA1 hB2 hE6 ⊢
  have hE05 := hE04.trans hE6
  have HC5 := Lib.hid (And.intro (HC4.out.1.ext hE6) (And.intro (HC4.out.2.1.ext hE6) (HC4.out.2.2.ext hE6)))
  have HW5 := Lib.hid (And.intro (HW4.out.1.ext hE6) (HW4.out.2.ext hE6))
  have HAB := Lib.hid (And.intro hA1 hB2)
  have hx8w : w.heap.size ≤ x8 := by have := hE04.size; omega
  clear hA0 hB0 hs4 hE5 HTA hB1 HTB hA1 hB2 hE6 hx8 HC4 HW4 hE04 HI9
  have hM0 := JMap.new W5
  have hE7 := (Ext.refl W5).alloc (.map #[] 0)
  have hmm := @run_makeMap Tryz.prog
  go_upto_region 9 with fail
  clear hmm
  have hml : W5.heap.size < (W5.alloc (.map #[] 0)).heap.size := hM0.lt
  generalize hmb : W5.heap.size = mb5 at hM0 hml ⊢
  generalize W5.alloc (.map #[] 0) = W6 at hM0 hE7 hml ⊢
  have HRA := Lib.hid (HAB.out.1.ext hE7).range
  have HI9 : Hid ((Tryz.prog.info? 27).map (·.size) = some C1.toList.length) := Lib.hid (by rw [Array.length_toList, HS9.out.1]; exact wd9_info)
  have hjb := jobs_any W6 B c mb mn W V P 25 (HW5.out.1.ext hE7) HOK.out (HC5.out.1.ext hE7) hPI (by decide)
  rw [← HCE.out.1] at hjb
  have HJB := Lib.hid hjb
  have HSF : Hid ((planJobs W P).Nodup ∧ ∀ j ∈ planJobs W P, (1 ≤ j.kind ∧ j.kind ≤ 9) ∧ (j.kind = 4 → (P.find j.blob).isSome = true ∧ soundN W ((P.find j.blob).getD zeroB) 2 = 2) ∧ (j.kind = 9 → (P.find j.blob).isSome = true ∧ 0 < soundN W ((P.find j.blob).getD zeroB) 2 + (goodOf W ((P.find j.blob).getD zeroB)).length ∧ ∃ p : Nat, p < 2 ∧ j.pool = (p : Int) ∧ lostOf W.lostV (((P.find j.blob).getD zeroB).copy p).vol = true) ∧ (j.kind = 8 → ∃ v : Nat, v < 12 ∧ j.vol = (v : Int) ∧ P.onVol v = [])) := Lib.hid ⟨planJobs_nodup hPI.asc, fun j hj => ⟨planJobs_kinds hj, safe_free hPI hj, safe_untape hPI hj, safe_erase HOK.out hj⟩⟩
  have hPL := planJobs_len25 (W := W) hPI HOK.out
  generalize planJobs W P = J at HJB HSF hPL
  have HPI := Lib.hid hPI
  clear hjb hPI
  go_wp2_with (refine wpList_load_mid rfl 27 _ rfl x8 0 rfl _ _ HRA.out Tryz.underlying27 rfl HI9.out ?_)
  refine HJB.out.mono ?_
  rintro e W7 ⟨jv, rfl, hj7, hE8⟩
  obtain ⟨jA, jc, rfl⟩ := own_slc hj7
  have hM7 := hM0.ext hE8
  have hE57 := hE7.trans hE8
  clear HJB hM0 hE7 hE8
  go_wp2_with fail
  go_loopw [44] (fun iv wr => ∃ k : Nat, k ≤ J.length ∧ iv = .int .i64 (k : Int) ∧ JMap wr mb5 (J.take k) ∧ wr.ownsRow W6.heap.size 50 4 (.slice jA J.length jc) J.length (jobsV J) ∧ Ext W5 wr) (fun iv _ => J.length - (intOf iv).toNat)
  case atStart => exact ⟨0, Nat.zero_le _, rfl, hM7, hj7, hE57⟩
  case round =>
    clear hM7 hj7 hE57
    obtain ⟨k, hk, rfl, hM, hjo, hEw⟩ := hrel
    by_cases hlt : k < J.length
    · obtain ⟨j, hj⟩ : ∃ j, J[k]? = some j := ⟨_, List.getElem?_eq_getElem hlt⟩
      obtain ⟨jb, rfl, hjb, hjl, r0, r1, r2, r3⟩ := jobs_cells hjo rfl hj
      have hjm := List.mem_of_getElem? hj
      have hnm : j ∉ J.take k := by
        intro hm
        obtain ⟨i, hi, e⟩ := List.mem_take_iff_getElem.1 hm
        have h1 := HSF.out.1
        have h2 := List.pairwise_iff_getElem.1 h1 i k (by omega) hlt (by omega)
        exact h2 (by rw [e]; exact ((List.getElem?_eq_some_iff.1 hj).2).symm)
      have htk : J.take (k + 1) = J.take k ++ [j] := by rw [List.take_add_one, hj]; rfl
      have HJ := Lib.hid (HSF.out.2 j hjm)
      have HTK := Lib.hid htk
      have hYb := At.new wr 50 #[.int .i64 j.kind, .int .u64 (j.blob : Int), .int .i64 j.pool, .int .i64 j.vol]
      have hEb := (Ext.refl wr).alloc (.cells #[.int .i64 j.kind, .int .u64 (j.blob : Int), .int .i64 j.pool, .int .i64 j.vol] 50)
      have hlk := (hM.ext hEb).lookup hnm
      have hMb := hM.ext hEb
      have hjb2 := own_e hjo hEb
      have hEb5 := hEw.trans hEb
      obtain ⟨W9, hup, hM9, hC9⟩ := hMb.update hnm (.bool true)
      rw [← htk] at hM9
      rw [show j.cells.toArray = #[.int .i64 j.kind, .int .u64 (j.blob : Int), .int .i64 j.pool, .int .i64 j.vol] from rfl] at hlk hup
      have hE59 : Ext W5 W9 := hEb5.chg_trans hC9 |>.mono (fun q hq e => by have e' : q = mb5 := e; omega)
      have hjo9 := own_keep hjb2 hC9 (fun q hq e => by
        have e' : q = mb5 := e
        have := own_ge hjb2 q hq
        omega)
      have hYb9 := hYb.chg hC9 (fun e => by
        have e' : wr.heap.size = mb5 := e
        have := hM.lt
        omega)
      clear hMb hjb2 hEb5 hM hjo hC9 hEb hjb hjl hj htk hnm hjm
      go_upto_region 12 with fail
      clear r0 r1 r2 r3
      generalize wr.heap.size = yb at hYb hYb9 ⊢
      generalize wr.alloc _ = W8 at hYb hlk hup ⊢
      have y0 := hYb.cell 0
      have y1 := hYb.cell 1
      have y2 := hYb.cell 2
      have y3 := hYb.cell 3
      simp at y0 y1 y2 y3
      have hk1 := HJ.out.1
      have t1 : decide (j.kind < 1) = false := by simp; omega
      have t2 : decide (9 < j.kind) = false := by simp; omega
      go_upto_region 15 with fail
      clear hlk hup hYb y0 y1 y2 y3 t1 t2 hk1
      have hzo := zeroB_ok HPI.out j.blob
      have HBL := cblob_both (HC5.out.1.ext hE59) HPI.out j.blob
      have HJ2 := HJ.out
      generalize (P.find j.blob).getD zeroB = b at hzo HBL HJ2
      generalize (P.find j.blob).isSome = th at HBL HJ2
      have HJ3 := Lib.hid HJ2
      have HBX := Lib.hid HBL
      have y1 := hYb9.cell 1
      simp at y1
      clear HJ HJ2 HBL
      go_wp2_with fail
      refine HBX.out.mono ?_
      rintro e Wa ⟨bA, bc, rfl, hod, hEa⟩
      have hE5a := hE59.trans hEa
      have hYa := hYb9.ext hEa
      have hMa := hM9.ext hEa
      have hjoa := own_e hjo9 hEa
      have hZb := At.new Wa 63 (blCells b (.slice bA b.disks.length bc))
      have hEz := (Ext.refl Wa).alloc (.cells (blCells b (.slice bA b.disks.length bc)) 63)
      clear HBX hYb9 hM9 hjo9 hE59 hEa y1
      go_upto_region 16 with fail
      generalize Wa.heap.size = zb at hZb ⊢
      generalize Wa.alloc _ = Wb at hZb hEz ⊢
      have HF := Lib.hid (And.intro hZb (And.intro (hYa.ext hEz) (And.intro (hMa.ext hEz) (And.intro (own_e hjoa hEz) (And.intro (own_e hod hEz) (hE5a.trans hEz))))))
      have hZ5 := hZb.cell 5
      have hZ6 := hZb.cell 6
      have hZ7 := hZb.cell 7
      have hZ8 := hZb.cell 8
      have hZ9 := hZb.cell 9
      have hZ10 := hZb.cell 10
      simp at hZ5 hZ6 hZ7 hZ8 hZ9 hZ10
      have HX8 := Lib.hid (fun w2 (hE : Ext Wb w2) => HAB.out.1.ext (HF.out.2.2.2.2.2.trans hE))
      have hC4 : C1[4]? = some V.lv := by rw [HCE.out.1]; rfl
      have hC3 : C1[3]? = some V.ld := by rw [HCE.out.1]; rfl
      have HC34 := Lib.hid (And.intro hC3 hC4)
      have HZO := Lib.hid hzo
      clear hZb hYa hMa hjoa hod hE5a hEz hEw hC3 hC4 hzo
      go_wp2_with fail
      clear hZ5 hZ6 hZ7 hZ8 hZ9 hZ10
      go_loopw [16, 72] (fun sv qv wr => ∃ q : Nat, q ≤ 2 ∧ qv = .int .i64 (q : Int) ∧ sv = .int .i64 (soundN W b q : Int) ∧ Ext Wb wr) (fun _ qv _ => 2 - (intOf qv).toNat)
      case atStart => exact ⟨0, by omega, rfl, rfl, Ext.refl _⟩
      case round =>
        obtain ⟨q, hq, rfl, rfl, hEq⟩ := hrel
        have hss := soundN_succ W b q
        have hsl : soundN W b q ≤ q := by
          unfold soundN
          have := List.length_filter_le (fun p => soundC W (b.copy p)) (List.range q)
          simpa using this
        by_cases hq2 : q < 2
        · have hidx : ∀ w, (Instr.index 61 (.agg #[.bool b.a.there, .int .i64 b.a.vol, .int .i64 b.a.at_, .bool b.b.there, .int .i64 b.b.vol, .int .i64 b.b.at_]) (.int .i64 (q : Int))).run Tryz.prog w = .ok (.agg #[.bool (b.copy q).there, .int .i64 (b.copy q).vol, .int .i64 (b.copy q).at_]) w := fun w => by
            have h2 : q = 0 ∨ q = 1 := by omega
            rcases h2 with rfl | rfl
            · exact (copies_at _ _ _ _ _ _ w).1
            · exact (copies_at _ _ _ _ _ _ w).2
          have hvp := HZO.out.1 q
          rw [show soundC W (b.copy q) = ((b.copy q).there && !lostOf W.lostV (b.copy q).vol) from rfl] at hss
          generalize b.copy q = cy at hidx hvp hss
          obtain ⟨ct, cv', ca⟩ := cy
          simp only [] at hidx hvp hss
          generalize soundN W b q = sn at hss hsl
          have HSS := Lib.hid hss
          have hYq := At.new wr 60 #[.bool ct, .int .i64 cv', .int .i64 ca]
          have hEy := (Ext.refl wr).alloc (.cells #[.bool ct, .int .i64 cv', .int .i64 ca] 60)
          clear hss
          go_upto_region 20 with fail
          clear hidx
          generalize wr.heap.size = qb at hYq ⊢
          generalize wr.alloc _ = Wc at hYq hEy ⊢
          have hEc := hEq.trans hEy
          have u0 := hYq.cell 0
          have u1 := hYq.cell 1
          simp at u0 u1
          have u4 := (HX8.out Wc hEc).cell 4
          rw [HC34.out.2] at u4
          clear hYq hEq hEy
          cases ct
          · have HSN : Hid (soundN W b (q + 1) = sn) := Lib.hid (by rw [HSS.out]; simp)
            go_wp2_with fail
            go_roundw
            case rel => exact ⟨q + 1, by omega, by go_num, by rw [HSN.out], hEc⟩
            case measure => simp [intOf]; omega
          · have HGO := Lib.hid (gone_any Wc V.lv W.lostV (HW5.out.1.lv.ext (HF.out.2.2.2.2.2.trans hEc)) HOK.out.lv cv' hvp)
            generalize lostOf W.lostV cv' = lo at HGO HSS
            go_wp2_with fail
            refine HGO.out.mono ?_
            rintro e Wd' ⟨rfl, hEd⟩
            have hEe := hEc.trans hEd
            clear HGO
            cases lo
            · have HSN : Hid (soundN W b (q + 1) = sn + 1) := Lib.hid (by rw [HSS.out]; simp)
              go_wp2_with fail
              go_roundw
              case rel => exact ⟨q + 1, by omega, by go_num, by rw [HSN.out]; congr 1, hEe⟩
              case measure => simp [intOf]; omega
            · have HSN : Hid (soundN W b (q + 1) = sn) := Lib.hid (by rw [HSS.out]; simp)
              go_wp2_with fail
              go_roundw
              case rel => exact ⟨q + 1, by omega, by go_num, by rw [HSN.out], hEe⟩
              case measure => simp [intOf]; omega
        · obtain rfl : q = 2 := by omega
          rw [show ((2 : Nat) : Int) = 2 from rfl]
          have z4 := (HF.out.1.ext hEq).cell 4
          simp at z4
          clear hss
          generalize soundN W b 2 = sn at hsl HJ3 ⊢
          have HSL2 := Lib.hid hsl
          have HEQ2 := Lib.hid hEq
          clear hq hq2 hEq hsl
          go_wp2_with fail
          clear z4
          obtain ⟨wq, hwq⟩ : ∃ x : World, x = wr := ⟨_, rfl⟩
          rw [← hwq] at HEQ2 ⊢
          clear hwq
          clear wr
          go_loopw [19, 92] (fun gv mv wr => ∃ m : Nat, m ≤ b.disks.length ∧ mv = .int .i64 (m : Int) ∧ gv = .int .i64 ((((b.disks.take m).filter fun d => !lostOf W.lostD d).length : Nat) : Int) ∧ Ext Wb wr) (fun _ mv _ => b.disks.length - (intOf mv).toNat)
          case atStart => exact ⟨0, Nat.zero_le _, rfl, rfl, HEQ2.out⟩
          case round =>
            clear HEQ2
            obtain ⟨m, hm, rfl, rfl, hEm⟩ := hrel
            by_cases hml2 : m < b.disks.length
            · obtain ⟨d, hd⟩ : ∃ d, b.disks[m]? = some d := ⟨_, List.getElem?_eq_getElem hml2⟩
              have hdr := HZO.out.2.1 d (List.mem_of_getElem? hd)
              have hfs := filter_snoc (fun d => !lostOf W.lostD d) hd
              have hfl : ((b.disks.take m).filter fun d => !lostOf W.lostD d).length ≤ m := Nat.le_trans (List.length_filter_le _ _) (List.length_take_le _ _)
              have hdl := HZO.out.2.2
              generalize (b.disks.take m).filter (fun d => !lostOf W.lostD d) = fs at hfs hfl ⊢
              obtain ⟨db, do_, rfl, c1⟩ := cell_of ((Sl.of_own HF.out.2.2.2.2.1).ext hEm) m (x := .int .i64 d) (by rw [List.getElem?_map, hd]; rfl)
              have u3 := (HX8.out wr hEm).cell 3
              rw [HC34.out.1] at u3
              have HGO := Lib.hid (gone_any wr V.ld W.lostD (HW5.out.1.ld.ext (HF.out.2.2.2.2.2.trans hEm)) (by have := HOK.out.ld; omega) d hdr.1)
              have HFS := Lib.hid hfs
              clear hfs hd
              generalize lostOf W.lostD d = lo at HGO HFS
              go_wp2_with fail
              refine HGO.out.mono ?_
              rintro e Wd' ⟨rfl, hEd⟩
              have hEe := hEm.trans hEd
              clear HGO hEm c1 u3
              cases lo
              · have HFX : Hid ((b.disks.take (m + 1)).filter (fun d => !lostOf W.lostD d) = fs ++ [d]) := Lib.hid (by rw [HFS.out]; rfl)
                go_wp2_with fail
                go_roundw
                case rel => exact ⟨m + 1, by omega, by go_num, by rw [HFX.out]; congr 1; simp, hEe⟩
                case measure => simp [intOf]; omega
              · have HFX : Hid ((b.disks.take (m + 1)).filter (fun d => !lostOf W.lostD d) = fs) := Lib.hid (by rw [HFS.out]; simp)
                go_wp2_with fail
                go_roundw
                case rel => exact ⟨m + 1, by omega, by go_num, by rw [HFX.out], hEe⟩
                case measure => simp [intOf]; omega
            · obtain rfl : m = b.disks.length := by omega
              rw [List.take_length]
              rw [show (b.disks.filter fun d => !lostOf W.lostD d) = goodOf W b from rfl]
              have hgl : (goodOf W b).length ≤ 6 := Nat.le_trans (List.length_filter_le _ _) HZO.out.2.2
              generalize (goodOf W b).length = gn at hgl HJ3 ⊢
              have hsl := HSL2.out
              have hEf := HF.out.2.2.2.2.2.trans hEm
              have hYf := HF.out.2.1.ext hEm
              have HMF := Lib.hid (And.intro (HF.out.2.2.1.ext hEm) (And.intro (own_e HF.out.2.2.2.1 hEm) hEf))
              have y0 := hYf.cell 0
              simp at y0
              have HZF := Lib.hid (HF.out.1.ext hEm)
              have HYF := Lib.hid hYf
              have HEM := Lib.hid hEm
              have HEF := Lib.hid hEf
              have hu8 := (HX8.out wr hEm).cell 4
              rw [HC34.out.2] at hu8
              clear hYf hEm hEf hm hml2
              go_upto_region 31 with fail
              have HKD := HJ3.out
              by_cases h4 : j.kind = 4
              · have hth := (HKD.2.1 h4).1
                have hsn := (HKD.2.1 h4).2
                have t4 : (j.kind == 4) = true := by rw [h4]; rfl
                clear HKD h4
                subst hth
                subst hsn
                rw [show ((2 : Nat) : Int) = 2 from rfl]
                go_wp2_with fail
                go_roundw
                case rel => exact ⟨k + 1, by omega, by go_num, HMF.out.1, HMF.out.2.1, HMF.out.2.2⟩
                case measure => simp [intOf]; omega
              · have t4 : (j.kind == 4) = false := by simpa using h4
                by_cases h9 : j.kind = 9
                · obtain ⟨hth, hpos, p, hp2, hpe, hlo⟩ := HKD.2.2.1 h9
                  have t9 : (j.kind == 9) = true := by rw [h9]; rfl
                  clear HKD h9 h4
                  subst hth
                  have y2 := HYF.out.cell 2
                  simp at y2
                  rw [hpe] at y2
                  have hpv := HZO.out.1 p
                  obtain ⟨_, yv, _⟩ := bl_copy b (.slice bA b.disks.length bc) p hp2
                  have z1 := HZF.out.cell (5 + p * 3 + 1)
                  rw [yv] at z1
                  have hnz : ¬ ((sn : Int) + (gn : Int) = 0) := by omega
                  have t5 : ((sn : Int) + (gn : Int) == 0) = false := by simpa using hnz
                  have rg : ∀ {p : Addr} {v : Value}, wr.cell? p = some v → ∀ d os, (grow (redrawn wr d) os).cell? p = some v := fun h d os => (Ext.cell (ext_regrown wr d os) (cell_lt h)).trans h
                  have g2 := rg y2
                  have g1 := rg z1
                  have g4 := rg hu8
                  have c1 : Hid (∀ dd os, Calls Tryz.prog 12 #[V.lv, .int .i64 (b.copy p).vol] (grow (redrawn wr dd) os) fun e w'' => e = .returned (.bool true) ∧ ∃ q : Regrown, w'' = grow (redrawn wr q.d) q.os) := Lib.hid fun dd os => Calls.ext_of (by
                    have h := gone_any (grow (redrawn wr dd) os) V.lv W.lostV (HW5.out.1.lv.ext (HEF.out.trans (ext_regrown wr dd os))) HOK.out.lv (b.copy p).vol hpv
                    rw [hlo] at h
                    exact h)
                  generalize (b.copy p).vol = pv at c1 g1
                  clear rg z1 y2 hpv yv hnz hlo
                  go_upto_region 35 with fail
                  refine wp_region_quiet_ext (by kernel_rfl) (by kernel_rfl) ?_
                  repeat (go_big_quiet_step (first | with_reducible exact c1.out _ _))
                  refine wpQuiet_nil ?_
                  intro Wq hEq
                  have HMG := Lib.hid (And.intro (HMF.out.1.ext hEq) (And.intro (own_e HMF.out.2.1 hEq) (HMF.out.2.2.trans hEq)))
                  clear g1 g2 g4 c1
                  go_wp2_with fail
                  go_roundw
                  case rel => exact ⟨k + 1, by omega, by go_num, HMG.out.1, HMG.out.2.1, HMG.out.2.2⟩
                  case measure => simp [intOf]; omega
                · have t9 : (j.kind == 9) = false := by simpa using h9
                  by_cases h8 : j.kind = 8
                  · obtain ⟨vn, hv12, hve, hon⟩ := HKD.2.2.2 h8
                    have t8 : (j.kind == 8) = true := by rw [h8]; rfl
                    have y3 := HYF.out.cell 3
                    simp at y3
                    rw [hve] at y3
                    have hlv := clive_any (HC5.out.1.ext HEF.out) HPI.out (by omega) vn hv12
                    rw [show P.L.filter (onV (vn : Int)) = P.onVol vn from rfl, hon] at hlv
                    have HLV := Lib.hid hlv
                    clear HKD h8 h9 h4 hlv hon
                    go_wp2_with fail
                    refine HLV.out.mono ?_
                    rintro e Wq ⟨rfl, hEq⟩
                    have HMG := Lib.hid (And.intro (HMF.out.1.ext hEq) (And.intro (own_e HMF.out.2.1 hEq) (HMF.out.2.2.trans hEq)))
                    rw [show pinsOf ([] : List Bl) = 0 from rfl, show ((([] : List Bl).length : Nat) : Int) = 0 from rfl]
                    clear HLV y3
                    go_wp2_with fail
                    go_roundw
                    case rel => exact ⟨k + 1, by omega, by go_num, HMG.out.1, HMG.out.2.1, HMG.out.2.2⟩
                    case measure => simp [intOf]; omega
                  · have t8 : (j.kind == 8) = false := by simpa using h8
                    clear HKD h8 h9 h4
                    go_wp2_with fail
                    go_roundw
                    case rel => exact ⟨k + 1, by omega, by go_num, HMF.out.1, HMF.out.2.1, HMF.out.2.2⟩
                    case measure => simp [intOf]; omega
    · obtain rfl : k = J.length := by omega
      go_wp2_with fail
      go_ret
      exact ⟨rfl, hE05.trans hEw⟩
end Go.Proofs.YtiojjokfeknhcaaGreat
namespace Go.Proofs.YtiojjokfeknhcaaGreat
open Go.ChangeShapes Go.WideShapes Go.ChangeAt Go.RowKit
set_option maxRecDepth 100000 in
theorem spots_of_trod {H : Type} {enc : TypeId × Value → H} {W : World} {k : Nat} {v : Value} {y : DataW H × List MemPlace}
    (hf : DataW.trod enc Tryz.prog W 0 (fun _ => true) true k 23 [v] = some y) :
    ∃ l : List Spot, (Sln W v 2 (l.map Spot.cells) ∧ ∃ A c, v = .slice A (l.map Spot.cells).length c ∧ (l.map Spot.cells).length ≤ c ∧ c ≤ maxLen ∧ (A = none → c = 0)) ∧ (∀ x ∈ l, x.Ok) ∧ l.length ≤ maxLen := by
  rcases Go.Deep.open_slice Tryz.underlying23 hf with ⟨hcs, _⟩ | ⟨a, len, cap, m, n, D, Pl, hcs, _, hl, hm, hmm, _, hx⟩
  · simp only [List.cons.injEq, and_true] at hcs
    rw [hcs]
    exact ⟨[], ⟨⟨none, 0, rfl, fun h => absurd rfl h⟩, none, 0, rfl, Nat.le_refl _, Nat.zero_le _, fun _ => rfl⟩, by simp, Nat.zero_le _⟩
  · simp only [List.cons.injEq, and_true] at hcs
    rw [hcs]
    have hlm : len ≤ m := by rw [hmm]; split <;> omega
    have each : ∀ i, i < len → ∃ x : Spot, (∀ (j : Nat) (u : Value), x.cells[j]? = some u → W.cell? (a.add (i * 2 + j)) = some u) ∧ x.Ok := fun i hi => by
      obtain ⟨cs', h1, h2⟩ := hx i (by omega)
      rw [show Tryz.prog.cellsOf 55 = 2 by kernel_rfl] at h1
      obtain ⟨_, hlen, hcell⟩ := World.cells?_some h1
      obtain ⟨x, rfl, hok⟩ := one_spot h2
      refine ⟨x, fun j u hj => ?_, hok⟩
      have hj7 : j < 2 := by
        have := (List.getElem?_eq_some_iff.1 hj).1
        exact this
      have := hcell j hj7
      rw [Go.Deep.add_add] at this
      rw [this, hj]
    haveI : Inhabited Spot := ⟨⟨false, 0⟩⟩
    obtain ⟨f, hfx⟩ := Go.Deep.choose_lt each
    refine ⟨(List.range len).map f, ⟨⟨some a, cap, by simp, fun hne => ?_⟩, some a, cap, by simp, by simp; omega, by omega, fun h => by cases h⟩, ?_, by simp; omega⟩
    · have hpos : 0 < len := by
        rcases Nat.eq_zero_or_pos len with h0 | h0
        · subst h0; exact absurd rfl hne
        · exact h0
      obtain ⟨b, off, spot⟩ := a
      have hspot : spot = none := by
        have := (hfx 0 hpos).1 0 _ rfl
        simpa [Addr.add] using World.cell?_spot this
      subst hspot
      refine ⟨b, off, rfl, fun i row hi j u hj => ?_⟩
      rw [List.map_map, List.getElem?_map] at hi
      by_cases hlt : i < len
      · rw [List.getElem?_range hlt] at hi
        simp only [Option.map_some, Option.some.injEq, Function.comp_apply] at hi
        subst hi
        have := (hfx i hlt).1 j u hj
        rw [Go.WideShapes.add_plain] at this
        rw [Nat.add_assoc]
        exact this
      · rw [List.getElem?_eq_none (by simpa using hlt)] at hi
        cases hi
    · intro x hx
      obtain ⟨i, hi, rfl⟩ := List.mem_map.1 hx
      exact (hfx i (List.mem_range.1 hi)).2
set_option maxRecDepth 100000 in
theorem bools_of_trod {H : Type} {enc : TypeId × Value → H} {W : World} {k : Nat} {v : Value} {y : DataW H × List MemPlace}
    (hf : DataW.trod enc Tryz.prog W 0 (fun _ => true) true k 25 [v] = some y) : ∃ l : List Bool, SlC W v (l.map Value.bool) := by
  suffices h : ∃ l : List Bool, Sl W v (l.map Value.bool) ∧ ∃ A c, v = .slice A l.length c ∧ l.length ≤ c ∧ c ≤ maxLen by
    obtain ⟨l, h1, h2⟩ := h
    exact ⟨l, h1, by rw [List.length_map]; exact h2⟩
  rcases Go.Deep.open_slice Tryz.underlying25 hf with ⟨hcs, _⟩ | ⟨a, len, cap, m, n, D, Pl, hcs, _, hl, hm, hmm, _, hx⟩
  · simp only [List.cons.injEq, and_true] at hcs
    rw [hcs]
    exact ⟨[], Sl.nil _ _, _, _, rfl, Nat.le_refl _, Nat.zero_le _⟩
  · simp only [List.cons.injEq, and_true] at hcs
    rw [hcs]
    have hlm : len ≤ m := by rw [hmm]; split <;> omega
    have each : ∀ i, i < len → ∃ x : Bool, W.cell? (a.add i) = some (.bool x) := fun i hi => by
      obtain ⟨cs', h1, h2⟩ := hx i (by omega)
      rw [show Tryz.prog.cellsOf 4 = 1 by kernel_rfl] at h1
      obtain ⟨_, hlen, hcell⟩ := World.cells?_some h1
      obtain ⟨x, e0, _⟩ := DataW.trod_bool Tryz.underlying4 h2
      have := hcell 0 (by omega)
      rw [Go.Deep.add_add, Nat.mul_one, Nat.add_zero] at this
      exact ⟨x, by rw [this, e0]; rfl⟩
    obtain ⟨f, hfx⟩ := Go.Deep.choose_lt each
    refine ⟨(List.range len).map f, ⟨some a, cap, by simp, fun hne => ?_⟩, some a, cap, by simp, by simp; omega, by omega⟩
    have hpos : 0 < len := by
      rcases Nat.eq_zero_or_pos len with h0 | h0
      · subst h0; exact absurd rfl hne
      · exact h0
    obtain ⟨b, off, spot⟩ := a
    have hspot : spot = none := by
      have := hfx 0 hpos
      simpa [Addr.add] using World.cell?_spot this
    subst hspot
    refine ⟨b, off, rfl, fun i u hi => ?_⟩
    rw [List.map_map, List.getElem?_map] at hi
    by_cases hlt : i < len
    · rw [List.getElem?_range hlt] at hi
      simp only [Option.map_some, Option.some.injEq, Function.comp_apply] at hi
      subst hi
      have := hfx i hlt
      rw [Go.WideShapes.add_plain] at this
      exact this
    · rw [List.getElem?_eq_none (by simpa using hlt)] at hi
      cases hi
set_option maxRecDepth 100000 in
theorem open_world {H : Type} {enc : TypeId × Value → H} {W : World} {r : Reach} {b0 : Nat} {v : Value} {d : DataW H} {p : List MemPlace}
    (hv : Value.okWide Tryz.prog W r b0 27 v) (h : DataW.Trod enc Tryz.prog W 0 (fun _ => true) true 27 v d p) :
    ∃ (dv vv iv ldv lvv : Value) (dl vl : List Spot) (il : List Int) (ldl lvl : List Bool) (cp kp pc rs : Int), v = .agg #[dv, vv, iv, ldv, lvv, .int .i64 cp, .int .i64 kp, .int .i64 pc, .int .i64 rs] ∧ SlnC W dv 2 (dl.map Spot.cells) ∧ SlnC W vv 2 (vl.map Spot.cells) ∧ SlC W iv (il.map (Value.int .i64)) ∧ SlC W ldv (ldl.map Value.bool) ∧ SlC W lvv (lvl.map Value.bool) := by
  obtain ⟨cs, rfl, hsz⟩ := okWide_struct Tryz.underlying27 hv
  obtain ⟨fuel, hf0⟩ := h
  obtain ⟨xs, k, _, hx, hl, hxl, hf⟩ := DataW.trod_struct Tryz.underlying27 hf0
  rw [show Tryz.prog.cellsOf 27 = 9 by kernel_rfl] at hl
  obtain ⟨l⟩ := cs
  have hl' : l.length = 9 := hl
  match l, hl' with
  | [v0, v1, v2, v3, v4, v5, v6, v7, v8], _ =>
    have get : ∀ i : Nat, i < 9 → ∃ y, xs[i]? = some y := fun i hi => ⟨xs[i]'(by rw [hxl]; exact hi), List.getElem?_eq_getElem _⟩
    obtain ⟨y0, g0⟩ := get 0 (by omega)
    obtain ⟨y1, g1⟩ := get 1 (by omega)
    obtain ⟨y2, g2⟩ := get 2 (by omega)
    obtain ⟨y3, g3⟩ := get 3 (by omega)
    obtain ⟨y4, g4⟩ := get 4 (by omega)
    obtain ⟨y5, g5⟩ := get 5 (by omega)
    obtain ⟨y6, g6⟩ := get 6 (by omega)
    obtain ⟨y7, g7⟩ := get 7 (by omega)
    obtain ⟨y8, g8⟩ := get 8 (by omega)
    generalize hfs : (#[_, _, _, _, _, _, _, _, _] : Array Field) = fs at hf hxl
    have key : ∀ (i t o : Nat), (∃ f, fs[i]? = some f ∧ f.type = t ∧ f.offset = o) → Tryz.prog.cellsOf t = 1 → DataW.trod enc Tryz.prog W 0 (fun _ => true) true k t (([v0, v1, v2, v3, v4, v5, v6, v7, v8].drop o).take 1) = xs[i]? := by
      rintro i t o ⟨f, hi, rfl, rfl⟩ hc
      rw [← hc]
      exact hf i f hi
    subst hfs
    have f0 : DataW.trod enc Tryz.prog W 0 (fun _ => true) true k 23 [v0] = some y0 := (key 0 23 0 ⟨_, rfl, rfl, rfl⟩ (by kernel_rfl)).trans g0
    have f1 : DataW.trod enc Tryz.prog W 0 (fun _ => true) true k 23 [v1] = some y1 := (key 1 23 1 ⟨_, rfl, rfl, rfl⟩ (by kernel_rfl)).trans g1
    have f2 : DataW.trod enc Tryz.prog W 0 (fun _ => true) true k 24 [v2] = some y2 := (key 2 24 2 ⟨_, rfl, rfl, rfl⟩ (by kernel_rfl)).trans g2
    have f3 : DataW.trod enc Tryz.prog W 0 (fun _ => true) true k 25 [v3] = some y3 := (key 3 25 3 ⟨_, rfl, rfl, rfl⟩ (by kernel_rfl)).trans g3
    have f4 : DataW.trod enc Tryz.prog W 0 (fun _ => true) true k 25 [v4] = some y4 := (key 4 25 4 ⟨_, rfl, rfl, rfl⟩ (by kernel_rfl)).trans g4
    have f5 : DataW.trod enc Tryz.prog W 0 (fun _ => true) true k 3 [v5] = some y5 := (key 5 3 5 ⟨_, rfl, rfl, rfl⟩ (by kernel_rfl)).trans g5
    have f6 : DataW.trod enc Tryz.prog W 0 (fun _ => true) true k 3 [v6] = some y6 := (key 6 3 6 ⟨_, rfl, rfl, rfl⟩ (by kernel_rfl)).trans g6
    have f7 : DataW.trod enc Tryz.prog W 0 (fun _ => true) true k 3 [v7] = some y7 := (key 7 3 7 ⟨_, rfl, rfl, rfl⟩ (by kernel_rfl)).trans g7
    have f8 : DataW.trod enc Tryz.prog W 0 (fun _ => true) true k 3 [v8] = some y8 := (key 8 3 8 ⟨_, rfl, rfl, rfl⟩ (by kernel_rfl)).trans g8
    obtain ⟨l0, h0, _⟩ := spots_of_trod f0
    obtain ⟨l1, h1, _⟩ := spots_of_trod f1
    obtain ⟨l2, h2, _⟩ := i64s_of_trod Tryz.underlying24 Tryz.underlying3 (by kernel_rfl) f2
    obtain ⟨l3, h3⟩ := bools_of_trod f3
    obtain ⟨l4, h4⟩ := bools_of_trod f4
    obtain ⟨a5, e5, _, w5⟩ := DataW.trod_int Tryz.underlying3 f5
    obtain ⟨a6, e6, _, w6⟩ := DataW.trod_int Tryz.underlying3 f6
    obtain ⟨a7, e7, _, w7⟩ := DataW.trod_int Tryz.underlying3 f7
    obtain ⟨a8, e8, _, w8⟩ := DataW.trod_int Tryz.underlying3 f8
    simp only [List.cons.injEq, and_true] at e5 e6 e7 e8
    subst e5 e6 e7 e8
    exact ⟨v0, v1, v2, v3, v4, l0, l1, l2, l3, l4, a5, a6, a7, a8, rfl, h0, h1, h2, h3, h4⟩
end Go.Proofs.YtiojjokfeknhcaaGreat
