/-
  The document's catalog: a command about a blob: Untape.
-/
import Derived.Test.YtchnejfdompfpaaGreatRf6
namespace Go.Proofs.YtchnejfdompfpaaGreat
open Go.RowKit Go.Sort

section blob
variable (w : World) (X : Array Value) (b : Bl) (dv : Value) (x : Cmd) (dx : Value) (y : Vl) (hb : w.ownsRow 0 3 1 dv b.disks.length (b.disks.map (Value.int .i64))) (hx : w.ownsRow 0 3 1 dx x.disks.length (x.disks.map (Value.int .i64)))
  (hbl : b.disks.length ≤ 17592186043904) (hxl : x.disks.length ≤ 17592186043904)
include hb hx hbl hxl
set_option maxRecDepth 100000 in
set_option maxHeartbeats 8000000 in
theorem rblob_14 (hk : x.kind = 14) (hpl : x.pool = 0 ∨ x.pool = 1) : Calls Tryz.prog 64 #[.agg X, .agg (blCells b dv), cmdVal x dx] w (RbOut w (blobR y.closed b x)) := by
  have _hh := And.intro hbl hxl
  obtain ⟨dA, dc, rfl⟩ := own_slc hb
  obtain ⟨xA, xc, rfl⟩ := own_slc hx
  unfold cmdVal
  have HK := Lib.hid hk
  clear hk
  have HPP := Lib.hid hpl
  clear hpl
  go_enter Tryz.func64, Tryz.ntmps64
  have hC := (((At.new w 31 X).alloc (.cells (blCells b (.slice dA b.disks.length dc)) 80)).alloc (.cells #[.int .i64 x.kind, .int .i64 x.client, .int .i64 x.seq, .string x.name, .int .u64 (x.blob : Int), .int .i64 x.size, .int .u32 (x.sum : Int), .slice xA x.disks.length xc, .int .i64 x.pool, .int .i64 x.vol, .int .i64 x.at_] 75)).alloc (.cells #[.int .u64 0, .string ⟨#[]⟩, .int .i64 0, .int .u32 0, .slice none 0 0, .bool false, .int .i64 0, .int .i64 0, .bool false, .int .i64 0, .int .i64 0, .int .i64 0, .bool false] 80)
  have hQ := ((At.new (w.alloc (.cells X 31)) 80 (blCells b (.slice dA b.disks.length dc))).alloc (.cells #[.int .i64 x.kind, .int .i64 x.client, .int .i64 x.seq, .string x.name, .int .u64 (x.blob : Int), .int .i64 x.size, .int .u32 (x.sum : Int), .slice xA x.disks.length xc, .int .i64 x.pool, .int .i64 x.vol, .int .i64 x.at_] 75)).alloc (.cells #[.int .u64 0, .string ⟨#[]⟩, .int .i64 0, .int .u32 0, .slice none 0 0, .bool false, .int .i64 0, .int .i64 0, .bool false, .int .i64 0, .int .i64 0, .int .i64 0, .bool false] 80)
  have hY := (At.new ((w.alloc (.cells X 31)).alloc (.cells (blCells b (.slice dA b.disks.length dc)) 80)) 75 #[.int .i64 x.kind, .int .i64 x.client, .int .i64 x.seq, .string x.name, .int .u64 (x.blob : Int), .int .i64 x.size, .int .u32 (x.sum : Int), .slice xA x.disks.length xc, .int .i64 x.pool, .int .i64 x.vol, .int .i64 x.at_]).alloc (.cells #[.int .u64 0, .string ⟨#[]⟩, .int .i64 0, .int .u32 0, .slice none 0 0, .bool false, .int .i64 0, .int .i64 0, .bool false, .int .i64 0, .int .i64 0, .int .i64 0, .bool false] 80)
  have hZ := At.new (((w.alloc (.cells X 31)).alloc (.cells (blCells b (.slice dA b.disks.length dc)) 80)).alloc (.cells #[.int .i64 x.kind, .int .i64 x.client, .int .i64 x.seq, .string x.name, .int .u64 (x.blob : Int), .int .i64 x.size, .int .u32 (x.sum : Int), .slice xA x.disks.length xc, .int .i64 x.pool, .int .i64 x.vol, .int .i64 x.at_] 75)) 80 #[.int .u64 0, .string ⟨#[]⟩, .int .i64 0, .int .u32 0, .slice none 0 0, .bool false, .int .i64 0, .int .i64 0, .bool false, .int .i64 0, .int .i64 0, .int .i64 0, .bool false]
  have hE := ((((Ext.refl w).alloc (.cells X 31)).alloc (.cells (blCells b (.slice dA b.disks.length dc)) 80)).alloc (.cells #[.int .i64 x.kind, .int .i64 x.client, .int .i64 x.seq, .string x.name, .int .u64 (x.blob : Int), .int .i64 x.size, .int .u32 (x.sum : Int), .slice xA x.disks.length xc, .int .i64 x.pool, .int .i64 x.vol, .int .i64 x.at_] 75)).alloc (.cells #[.int .u64 0, .string ⟨#[]⟩, .int .i64 0, .int .u32 0, .slice none 0 0, .bool false, .int .i64 0, .int .i64 0, .bool false, .int .i64 0, .int .i64 0, .int .i64 0, .bool false] 80)
  rw [show (w.alloc (.cells X 31)).heap.size = w.heap.size + 1 by simp] at hQ
  rw [show ((w.alloc (.cells X 31)).alloc (.cells (blCells b (.slice dA b.disks.length dc)) 80)).heap.size = w.heap.size + 1 + 1 by simp] at hY
  rw [show (((w.alloc (.cells X 31)).alloc (.cells (blCells b (.slice dA b.disks.length dc)) 80)).alloc (.cells #[.int .i64 x.kind, .int .i64 x.client, .int .i64 x.seq, .string x.name, .int .u64 (x.blob : Int), .int .i64 x.size, .int .u32 (x.sum : Int), .slice xA x.disks.length xc, .int .i64 x.pool, .int .i64 x.vol, .int .i64 x.at_] 75)).heap.size = w.heap.size + 1 + 1 + 1 by simp] at hZ
  go_upto_region 1 with fail
  obtain ⟨xb, hxb⟩ : ∃ xb, w.heap.size = xb := ⟨_, rfl⟩
  rw [hxb] at hC hQ hY hZ ⊢
  generalize World.alloc _ _ = W at hC hQ hY hZ hE ⊢
  have HXB := Lib.hid (show w.heap.size ≤ xb by omega)
  have hxb2 := hZ.lt
  have lC := hC.lt
  have lQ := hQ.lt
  have lY := hY.lt
  clear hxb
  have HBO := Lib.hid hb
  have HXO := Lib.hid hx
  clear hb hx
  have y0 := hY.cell 0
  simp at y0
  rw [HK.out] at y0
  have y8 := hY.cell 8
  simp at y8
  have q4 := hQ.cell 4
  have q5 := hQ.cell 5
  have f5 := hQ.frozen 5
  have q6 := hQ.cell 6
  have f6 := hQ.frozen 6
  have q7 := hQ.cell 7
  have f7 := hQ.frozen 7
  have q8 := hQ.cell 8
  have f8 := hQ.frozen 8
  have q9 := hQ.cell 9
  have f9 := hQ.frozen 9
  have q10 := hQ.cell 10
  have f10 := hQ.frozen 10
  simp at q4 q5 q6 q7 q8 q9 q10
  rcases HPP.out with hp | hp
  · have HPO := Lib.hid hp
    rw [hp] at y8
    clear hp
    rcases Bool.eq_false_or_eq_true b.a.there with hm | hm
    · rw [hm] at q5
      have HM := Lib.hid hm
      clear hm
      by_cases hd : b.disks = []
      · have hl : (b.disks.length : Int) = 0 := by rw [hd]; rfl
        have HD := Lib.hid hd
        clear hd
        rcases Bool.eq_false_or_eq_true b.b.there with ho | ho
        · rw [ho] at q8
          have HO := Lib.hid ho
          clear ho
          go_upto_region 32 with fail
          go_region
          go_upto_region 41 with fail
          clear q4 q5 q8 q6 q7 q9 q10 f5 f6 f7 f8 f9 f10 y0 y8
          have hQ2 : At (((W.setCell ⟨xb + 1, 5, none⟩ (.bool false)).setCell ⟨xb + 1, 6, none⟩ (.int .i64 0)).setCell ⟨xb + 1, 7, none⟩ (.int .i64 0)) (xb + 1) 80 (blCells { b with a := Cp.none } (.slice dA b.disks.length dc)) := ((hQ.set 5 (.bool false)).set 6 (.int .i64 0)).set 7 (.int .i64 0)
          have hne : xb + 1 + 1 + 1 ≠ xb + 1 := by omega
          have hZ2 := ((hZ.far (p := ⟨xb + 1, 5, none⟩) hne (.bool false)).far (p := ⟨xb + 1, 6, none⟩) hne (.int .i64 0)).far (p := ⟨xb + 1, 7, none⟩) hne (.int .i64 0)
          have hle : w.heap.size ≤ xb + 1 := by have := HXB.out; omega
          have hE2 : Ext w (((W.setCell ⟨xb + 1, 5, none⟩ (.bool false)).setCell ⟨xb + 1, 6, none⟩ (.int .i64 0)).setCell ⟨xb + 1, 7, none⟩ (.int .i64 0)) := Chg.setCell (p := ⟨xb + 1, 7, none⟩) (Chg.setCell (p := ⟨xb + 1, 6, none⟩) (Chg.setCell (p := ⟨xb + 1, 5, none⟩) hE (.inr hle) _) (.inr hle) _) (.inr hle) _
          clear hC hQ hY hZ hE hne hle
          generalize (((W.setCell ⟨xb + 1, 5, none⟩ (.bool false)).setCell ⟨xb + 1, 6, none⟩ (.int .i64 0)).setCell ⟨xb + 1, 7, none⟩ (.int .i64 0)) = W2 at hQ2 hZ2 hE2 ⊢
          have hC := hQ2
          have hQ := hQ2
          have hZ := hZ2
          have hE := hE2
          have hY := hQ2
          clear hQ2 hZ2 hE2
          have hQa := hQ.drew
          have hZa := hZ.drew
          have hEa := hE.drew
          clear hC hQ hY hZ hE
          generalize W2.drew = WA at hQa hZa hEa ⊢
          have hC := hQa
          have hQ := hQa
          have hZ := hZa
          have hE := hEa
          have hY := hQa
          clear hQa hZa hEa
          have HEQ : Hid (blobR y.closed b x = ({ b with a := Cp.none }, true, 0)) := Lib.hid (by unfold blobR chgB; rw [if_neg (by rw [HK.out]; decide)]; rw [if_neg (by rw [HK.out]; decide)]; rw [if_neg (by rw [HK.out]; decide)]; rw [if_neg (by rw [HK.out]; decide)]; rw [if_neg (by rw [HK.out]; decide)]; rw [if_neg (by unfold cpOf; rw [HPO.out]; simp [HM.out, HD.out, HO.out])]; unfold setCp; rw [HPO.out]; rfl)
          have HRG := Lib.hid hQ.range
          have HTH : Hid (WA.there (xb + 1 + 1 + 1) 0 (blCells { b with a := Cp.none } (.slice dA b.disks.length dc)).toList.toArray.size) := Lib.hid hZ.there
          have hEF : Ext w (WA.setCells (xb + 1 + 1 + 1) 0 (blCells { b with a := Cp.none } (.slice dA b.disks.length dc)).toList) := hE.setCells (by have := HXB.out; omega) _ _
          have hld : (loadVar 80 ⟨xb + 1 + 1 + 1, 0, none⟩).run Tryz.prog (WA.setCells (xb + 1 + 1 + 1) 0 (blCells { b with a := Cp.none } (.slice dA b.disks.length dc)).toList) = .ok (.agg (blCells { b with a := Cp.none } (.slice dA b.disks.length dc))) (WA.setCells (xb + 1 + 1 + 1) 0 (blCells { b with a := Cp.none } (.slice dA b.disks.length dc)).toList) :=
            run_loadVar_mid (P := Tryz.prog) (WA.setCells (xb + 1 + 1 + 1) 0 (blCells { b with a := Cp.none } (.slice dA b.disks.length dc)).toList) (xb + 1 + 1 + 1) 0 80 (blCells { b with a := Cp.none } (.slice dA b.disks.length dc)).toList _ (World.rangeAt_setCells_same WA (xb + 1 + 1 + 1) 0 (blCells { b with a := Cp.none } (.slice dA b.disks.length dc)).toList HTH.out) Tryz.underlying80 rfl blC_info
          have HEF := Lib.hid hEF
          have HLD := Lib.hid hld
          clear hC hQ hY hZ hE hEF hld
          go_wp2_with (first | (refine wpList_load_mid rfl 80 _ rfl (xb + 1) 0 rfl _ _ HRG.out Tryz.underlying80 rfl blC_info ?_) | (refine wpList_store_mid rfl 80 _ _ rfl (xb + 1 + 1 + 1) 0 (blCells { b with a := Cp.none } (.slice dA b.disks.length dc)).toList.toArray rfl rfl HTH.out blC_info (blC_one _ _ _ _) ?_))
          refine bodyPost_ret (v := .tuple #[.agg (blCells { b with a := Cp.none } (.slice dA b.disks.length dc)), .bool true, .int .i64 0]) (results_three Tryz.results64 _ rfl HLD.out) rfl ?_
          rw [HEQ.out]
          exact ⟨(.slice dA b.disks.length dc), rfl, own_keep (HBO.out) HEF.out (fun _ _ hh => hh), HEF.out⟩
        · rw [ho] at q8
          have HO := Lib.hid ho
          clear ho
          go_upto_region 32 with fail
          go_region
          go_upto_region 37 with fail
          clear q4 q5 q8 q6 q7 q9 q10 f5 f6 f7 f8 f9 f10 y0 y8
          have hQa := hQ.drew
          have hZa := hZ.drew
          have hEa := hE.drew
          clear hC hQ hY hZ hE
          generalize W.drew = WA at hQa hZa hEa ⊢
          have hC := hQa
          have hQ := hQa
          have hZ := hZa
          have hE := hEa
          have hY := hQa
          clear hQa hZa hEa
          have HEQ : Hid (blobR y.closed b x = (b, true, 16)) := Lib.hid (by unfold blobR chgB; rw [if_neg (by rw [HK.out]; decide)]; rw [if_neg (by rw [HK.out]; decide)]; rw [if_neg (by rw [HK.out]; decide)]; rw [if_neg (by rw [HK.out]; decide)]; rw [if_neg (by rw [HK.out]; decide)]; rw [if_pos (by unfold cpOf; rw [HPO.out]; simp [HM.out, HD.out, HO.out])])
          have HRG := Lib.hid hQ.range
          have HTH : Hid (WA.there (xb + 1 + 1 + 1) 0 (blCells b (.slice dA b.disks.length dc)).toList.toArray.size) := Lib.hid hZ.there
          have hEF : Ext w (WA.setCells (xb + 1 + 1 + 1) 0 (blCells b (.slice dA b.disks.length dc)).toList) := hE.setCells (by have := HXB.out; omega) _ _
          have hld : (loadVar 80 ⟨xb + 1 + 1 + 1, 0, none⟩).run Tryz.prog (WA.setCells (xb + 1 + 1 + 1) 0 (blCells b (.slice dA b.disks.length dc)).toList) = .ok (.agg (blCells b (.slice dA b.disks.length dc))) (WA.setCells (xb + 1 + 1 + 1) 0 (blCells b (.slice dA b.disks.length dc)).toList) :=
            run_loadVar_mid (P := Tryz.prog) (WA.setCells (xb + 1 + 1 + 1) 0 (blCells b (.slice dA b.disks.length dc)).toList) (xb + 1 + 1 + 1) 0 80 (blCells b (.slice dA b.disks.length dc)).toList _ (World.rangeAt_setCells_same WA (xb + 1 + 1 + 1) 0 (blCells b (.slice dA b.disks.length dc)).toList HTH.out) Tryz.underlying80 rfl blC_info
          have HEF := Lib.hid hEF
          have HLD := Lib.hid hld
          clear hC hQ hY hZ hE hEF hld
          go_wp2_with (first | (refine wpList_load_mid rfl 80 _ rfl (xb + 1) 0 rfl _ _ HRG.out Tryz.underlying80 rfl blC_info ?_) | (refine wpList_store_mid rfl 80 _ _ rfl (xb + 1 + 1 + 1) 0 (blCells b (.slice dA b.disks.length dc)).toList.toArray rfl rfl HTH.out blC_info (blC_one _ _ _ _) ?_))
          refine bodyPost_ret (v := .tuple #[.agg (blCells b (.slice dA b.disks.length dc)), .bool true, .int .i64 16]) (results_three Tryz.results64 _ rfl HLD.out) rfl ?_
          rw [HEQ.out]
          exact ⟨(.slice dA b.disks.length dc), rfl, own_keep (HBO.out) HEF.out (fun _ _ hh => hh), HEF.out⟩
      · have hl : ¬ b.disks.length = 0 := fun e => hd (List.length_eq_zero_iff.1 e)
        have HD := Lib.hid hd
        clear hd
        go_upto_region 32 with fail
        go_region
        go_upto_region 41 with fail
        clear q4 q5 q8 q6 q7 q9 q10 f5 f6 f7 f8 f9 f10 y0 y8
        have hQ2 : At (((W.setCell ⟨xb + 1, 5, none⟩ (.bool false)).setCell ⟨xb + 1, 6, none⟩ (.int .i64 0)).setCell ⟨xb + 1, 7, none⟩ (.int .i64 0)) (xb + 1) 80 (blCells { b with a := Cp.none } (.slice dA b.disks.length dc)) := ((hQ.set 5 (.bool false)).set 6 (.int .i64 0)).set 7 (.int .i64 0)
        have hne : xb + 1 + 1 + 1 ≠ xb + 1 := by omega
        have hZ2 := ((hZ.far (p := ⟨xb + 1, 5, none⟩) hne (.bool false)).far (p := ⟨xb + 1, 6, none⟩) hne (.int .i64 0)).far (p := ⟨xb + 1, 7, none⟩) hne (.int .i64 0)
        have hle : w.heap.size ≤ xb + 1 := by have := HXB.out; omega
        have hE2 : Ext w (((W.setCell ⟨xb + 1, 5, none⟩ (.bool false)).setCell ⟨xb + 1, 6, none⟩ (.int .i64 0)).setCell ⟨xb + 1, 7, none⟩ (.int .i64 0)) := Chg.setCell (p := ⟨xb + 1, 7, none⟩) (Chg.setCell (p := ⟨xb + 1, 6, none⟩) (Chg.setCell (p := ⟨xb + 1, 5, none⟩) hE (.inr hle) _) (.inr hle) _) (.inr hle) _
        clear hC hQ hY hZ hE hne hle
        generalize (((W.setCell ⟨xb + 1, 5, none⟩ (.bool false)).setCell ⟨xb + 1, 6, none⟩ (.int .i64 0)).setCell ⟨xb + 1, 7, none⟩ (.int .i64 0)) = W2 at hQ2 hZ2 hE2 ⊢
        have hC := hQ2
        have hQ := hQ2
        have hZ := hZ2
        have hE := hE2
        have hY := hQ2
        clear hQ2 hZ2 hE2
        have hQa := hQ.drew
        have hZa := hZ.drew
        have hEa := hE.drew
        clear hC hQ hY hZ hE
        generalize W2.drew = WA at hQa hZa hEa ⊢
        have hC := hQa
        have hQ := hQa
        have hZ := hZa
        have hE := hEa
        have hY := hQa
        clear hQa hZa hEa
        have HEQ : Hid (blobR y.closed b x = ({ b with a := Cp.none }, true, 0)) := Lib.hid (by unfold blobR chgB; rw [if_neg (by rw [HK.out]; decide)]; rw [if_neg (by rw [HK.out]; decide)]; rw [if_neg (by rw [HK.out]; decide)]; rw [if_neg (by rw [HK.out]; decide)]; rw [if_neg (by rw [HK.out]; decide)]; rw [if_neg (by unfold cpOf; rw [HPO.out]; simp [HM.out, HD.out])]; unfold setCp; rw [HPO.out]; rfl)
        have HRG := Lib.hid hQ.range
        have HTH : Hid (WA.there (xb + 1 + 1 + 1) 0 (blCells { b with a := Cp.none } (.slice dA b.disks.length dc)).toList.toArray.size) := Lib.hid hZ.there
        have hEF : Ext w (WA.setCells (xb + 1 + 1 + 1) 0 (blCells { b with a := Cp.none } (.slice dA b.disks.length dc)).toList) := hE.setCells (by have := HXB.out; omega) _ _
        have hld : (loadVar 80 ⟨xb + 1 + 1 + 1, 0, none⟩).run Tryz.prog (WA.setCells (xb + 1 + 1 + 1) 0 (blCells { b with a := Cp.none } (.slice dA b.disks.length dc)).toList) = .ok (.agg (blCells { b with a := Cp.none } (.slice dA b.disks.length dc))) (WA.setCells (xb + 1 + 1 + 1) 0 (blCells { b with a := Cp.none } (.slice dA b.disks.length dc)).toList) :=
          run_loadVar_mid (P := Tryz.prog) (WA.setCells (xb + 1 + 1 + 1) 0 (blCells { b with a := Cp.none } (.slice dA b.disks.length dc)).toList) (xb + 1 + 1 + 1) 0 80 (blCells { b with a := Cp.none } (.slice dA b.disks.length dc)).toList _ (World.rangeAt_setCells_same WA (xb + 1 + 1 + 1) 0 (blCells { b with a := Cp.none } (.slice dA b.disks.length dc)).toList HTH.out) Tryz.underlying80 rfl blC_info
        have HEF := Lib.hid hEF
        have HLD := Lib.hid hld
        clear hC hQ hY hZ hE hEF hld
        go_wp2_with (first | (refine wpList_load_mid rfl 80 _ rfl (xb + 1) 0 rfl _ _ HRG.out Tryz.underlying80 rfl blC_info ?_) | (refine wpList_store_mid rfl 80 _ _ rfl (xb + 1 + 1 + 1) 0 (blCells { b with a := Cp.none } (.slice dA b.disks.length dc)).toList.toArray rfl rfl HTH.out blC_info (blC_one _ _ _ _) ?_))
        refine bodyPost_ret (v := .tuple #[.agg (blCells { b with a := Cp.none } (.slice dA b.disks.length dc)), .bool true, .int .i64 0]) (results_three Tryz.results64 _ rfl HLD.out) rfl ?_
        rw [HEQ.out]
        exact ⟨(.slice dA b.disks.length dc), rfl, own_keep (HBO.out) HEF.out (fun _ _ hh => hh), HEF.out⟩
    · rw [hm] at q5
      have HM := Lib.hid hm
      clear hm
      go_upto_region 32 with fail
      go_region
      go_upto_region 37 with fail
      clear q4 q5 q8 q6 q7 q9 q10 f5 f6 f7 f8 f9 f10 y0 y8
      have hQa := hQ.drew
      have hZa := hZ.drew
      have hEa := hE.drew
      clear hC hQ hY hZ hE
      generalize W.drew = WA at hQa hZa hEa ⊢
      have hC := hQa
      have hQ := hQa
      have hZ := hZa
      have hE := hEa
      have hY := hQa
      clear hQa hZa hEa
      have HEQ : Hid (blobR y.closed b x = (b, true, 16)) := Lib.hid (by unfold blobR chgB; rw [if_neg (by rw [HK.out]; decide)]; rw [if_neg (by rw [HK.out]; decide)]; rw [if_neg (by rw [HK.out]; decide)]; rw [if_neg (by rw [HK.out]; decide)]; rw [if_neg (by rw [HK.out]; decide)]; rw [if_pos (by unfold cpOf; rw [HPO.out]; simp [HM.out])])
      have HRG := Lib.hid hQ.range
      have HTH : Hid (WA.there (xb + 1 + 1 + 1) 0 (blCells b (.slice dA b.disks.length dc)).toList.toArray.size) := Lib.hid hZ.there
      have hEF : Ext w (WA.setCells (xb + 1 + 1 + 1) 0 (blCells b (.slice dA b.disks.length dc)).toList) := hE.setCells (by have := HXB.out; omega) _ _
      have hld : (loadVar 80 ⟨xb + 1 + 1 + 1, 0, none⟩).run Tryz.prog (WA.setCells (xb + 1 + 1 + 1) 0 (blCells b (.slice dA b.disks.length dc)).toList) = .ok (.agg (blCells b (.slice dA b.disks.length dc))) (WA.setCells (xb + 1 + 1 + 1) 0 (blCells b (.slice dA b.disks.length dc)).toList) :=
        run_loadVar_mid (P := Tryz.prog) (WA.setCells (xb + 1 + 1 + 1) 0 (blCells b (.slice dA b.disks.length dc)).toList) (xb + 1 + 1 + 1) 0 80 (blCells b (.slice dA b.disks.length dc)).toList _ (World.rangeAt_setCells_same WA (xb + 1 + 1 + 1) 0 (blCells b (.slice dA b.disks.length dc)).toList HTH.out) Tryz.underlying80 rfl blC_info
      have HEF := Lib.hid hEF
      have HLD := Lib.hid hld
      clear hC hQ hY hZ hE hEF hld
      go_wp2_with (first | (refine wpList_load_mid rfl 80 _ rfl (xb + 1) 0 rfl _ _ HRG.out Tryz.underlying80 rfl blC_info ?_) | (refine wpList_store_mid rfl 80 _ _ rfl (xb + 1 + 1 + 1) 0 (blCells b (.slice dA b.disks.length dc)).toList.toArray rfl rfl HTH.out blC_info (blC_one _ _ _ _) ?_))
      refine bodyPost_ret (v := .tuple #[.agg (blCells b (.slice dA b.disks.length dc)), .bool true, .int .i64 16]) (results_three Tryz.results64 _ rfl HLD.out) rfl ?_
      rw [HEQ.out]
      exact ⟨(.slice dA b.disks.length dc), rfl, own_keep (HBO.out) HEF.out (fun _ _ hh => hh), HEF.out⟩
  · have HPO := Lib.hid hp
    rw [hp] at y8
    clear hp
    rcases Bool.eq_false_or_eq_true b.b.there with hm | hm
    · rw [hm] at q8
      have HM := Lib.hid hm
      clear hm
      by_cases hd : b.disks = []
      · have hl : (b.disks.length : Int) = 0 := by rw [hd]; rfl
        have HD := Lib.hid hd
        clear hd
        rcases Bool.eq_false_or_eq_true b.a.there with ho | ho
        · rw [ho] at q5
          have HO := Lib.hid ho
          clear ho
          go_upto_region 32 with fail
          go_region
          go_upto_region 41 with fail
          clear q4 q5 q8 q6 q7 q9 q10 f5 f6 f7 f8 f9 f10 y0 y8
          have hQ2 : At (((W.setCell ⟨xb + 1, 8, none⟩ (.bool false)).setCell ⟨xb + 1, 9, none⟩ (.int .i64 0)).setCell ⟨xb + 1, 10, none⟩ (.int .i64 0)) (xb + 1) 80 (blCells { b with b := Cp.none } (.slice dA b.disks.length dc)) := ((hQ.set 8 (.bool false)).set 9 (.int .i64 0)).set 10 (.int .i64 0)
          have hne : xb + 1 + 1 + 1 ≠ xb + 1 := by omega
          have hZ2 := ((hZ.far (p := ⟨xb + 1, 8, none⟩) hne (.bool false)).far (p := ⟨xb + 1, 9, none⟩) hne (.int .i64 0)).far (p := ⟨xb + 1, 10, none⟩) hne (.int .i64 0)
          have hle : w.heap.size ≤ xb + 1 := by have := HXB.out; omega
          have hE2 : Ext w (((W.setCell ⟨xb + 1, 8, none⟩ (.bool false)).setCell ⟨xb + 1, 9, none⟩ (.int .i64 0)).setCell ⟨xb + 1, 10, none⟩ (.int .i64 0)) := Chg.setCell (p := ⟨xb + 1, 10, none⟩) (Chg.setCell (p := ⟨xb + 1, 9, none⟩) (Chg.setCell (p := ⟨xb + 1, 8, none⟩) hE (.inr hle) _) (.inr hle) _) (.inr hle) _
          clear hC hQ hY hZ hE hne hle
          generalize (((W.setCell ⟨xb + 1, 8, none⟩ (.bool false)).setCell ⟨xb + 1, 9, none⟩ (.int .i64 0)).setCell ⟨xb + 1, 10, none⟩ (.int .i64 0)) = W2 at hQ2 hZ2 hE2 ⊢
          have hC := hQ2
          have hQ := hQ2
          have hZ := hZ2
          have hE := hE2
          have hY := hQ2
          clear hQ2 hZ2 hE2
          have hQa := hQ.drew
          have hZa := hZ.drew
          have hEa := hE.drew
          clear hC hQ hY hZ hE
          generalize W2.drew = WA at hQa hZa hEa ⊢
          have hC := hQa
          have hQ := hQa
          have hZ := hZa
          have hE := hEa
          have hY := hQa
          clear hQa hZa hEa
          have HEQ : Hid (blobR y.closed b x = ({ b with b := Cp.none }, true, 0)) := Lib.hid (by unfold blobR chgB; rw [if_neg (by rw [HK.out]; decide)]; rw [if_neg (by rw [HK.out]; decide)]; rw [if_neg (by rw [HK.out]; decide)]; rw [if_neg (by rw [HK.out]; decide)]; rw [if_neg (by rw [HK.out]; decide)]; rw [if_neg (by unfold cpOf; rw [HPO.out]; simp [HM.out, HD.out, HO.out])]; unfold setCp; rw [HPO.out]; rfl)
          have HRG := Lib.hid hQ.range
          have HTH : Hid (WA.there (xb + 1 + 1 + 1) 0 (blCells { b with b := Cp.none } (.slice dA b.disks.length dc)).toList.toArray.size) := Lib.hid hZ.there
          have hEF : Ext w (WA.setCells (xb + 1 + 1 + 1) 0 (blCells { b with b := Cp.none } (.slice dA b.disks.length dc)).toList) := hE.setCells (by have := HXB.out; omega) _ _
          have hld : (loadVar 80 ⟨xb + 1 + 1 + 1, 0, none⟩).run Tryz.prog (WA.setCells (xb + 1 + 1 + 1) 0 (blCells { b with b := Cp.none } (.slice dA b.disks.length dc)).toList) = .ok (.agg (blCells { b with b := Cp.none } (.slice dA b.disks.length dc))) (WA.setCells (xb + 1 + 1 + 1) 0 (blCells { b with b := Cp.none } (.slice dA b.disks.length dc)).toList) :=
            run_loadVar_mid (P := Tryz.prog) (WA.setCells (xb + 1 + 1 + 1) 0 (blCells { b with b := Cp.none } (.slice dA b.disks.length dc)).toList) (xb + 1 + 1 + 1) 0 80 (blCells { b with b := Cp.none } (.slice dA b.disks.length dc)).toList _ (World.rangeAt_setCells_same WA (xb + 1 + 1 + 1) 0 (blCells { b with b := Cp.none } (.slice dA b.disks.length dc)).toList HTH.out) Tryz.underlying80 rfl blC_info
          have HEF := Lib.hid hEF
          have HLD := Lib.hid hld
          clear hC hQ hY hZ hE hEF hld
          go_wp2_with (first | (refine wpList_load_mid rfl 80 _ rfl (xb + 1) 0 rfl _ _ HRG.out Tryz.underlying80 rfl blC_info ?_) | (refine wpList_store_mid rfl 80 _ _ rfl (xb + 1 + 1 + 1) 0 (blCells { b with b := Cp.none } (.slice dA b.disks.length dc)).toList.toArray rfl rfl HTH.out blC_info (blC_one _ _ _ _) ?_))
          refine bodyPost_ret (v := .tuple #[.agg (blCells { b with b := Cp.none } (.slice dA b.disks.length dc)), .bool true, .int .i64 0]) (results_three Tryz.results64 _ rfl HLD.out) rfl ?_
          rw [HEQ.out]
          exact ⟨(.slice dA b.disks.length dc), rfl, own_keep (HBO.out) HEF.out (fun _ _ hh => hh), HEF.out⟩
        · rw [ho] at q5
          have HO := Lib.hid ho
          clear ho
          go_upto_region 32 with fail
          go_region
          go_upto_region 37 with fail
          clear q4 q5 q8 q6 q7 q9 q10 f5 f6 f7 f8 f9 f10 y0 y8
          have hQa := hQ.drew
          have hZa := hZ.drew
          have hEa := hE.drew
          clear hC hQ hY hZ hE
          generalize W.drew = WA at hQa hZa hEa ⊢
          have hC := hQa
          have hQ := hQa
          have hZ := hZa
          have hE := hEa
          have hY := hQa
          clear hQa hZa hEa
          have HEQ : Hid (blobR y.closed b x = (b, true, 16)) := Lib.hid (by unfold blobR chgB; rw [if_neg (by rw [HK.out]; decide)]; rw [if_neg (by rw [HK.out]; decide)]; rw [if_neg (by rw [HK.out]; decide)]; rw [if_neg (by rw [HK.out]; decide)]; rw [if_neg (by rw [HK.out]; decide)]; rw [if_pos (by unfold cpOf; rw [HPO.out]; simp [HM.out, HD.out, HO.out])])
          have HRG := Lib.hid hQ.range
          have HTH : Hid (WA.there (xb + 1 + 1 + 1) 0 (blCells b (.slice dA b.disks.length dc)).toList.toArray.size) := Lib.hid hZ.there
          have hEF : Ext w (WA.setCells (xb + 1 + 1 + 1) 0 (blCells b (.slice dA b.disks.length dc)).toList) := hE.setCells (by have := HXB.out; omega) _ _
          have hld : (loadVar 80 ⟨xb + 1 + 1 + 1, 0, none⟩).run Tryz.prog (WA.setCells (xb + 1 + 1 + 1) 0 (blCells b (.slice dA b.disks.length dc)).toList) = .ok (.agg (blCells b (.slice dA b.disks.length dc))) (WA.setCells (xb + 1 + 1 + 1) 0 (blCells b (.slice dA b.disks.length dc)).toList) :=
            run_loadVar_mid (P := Tryz.prog) (WA.setCells (xb + 1 + 1 + 1) 0 (blCells b (.slice dA b.disks.length dc)).toList) (xb + 1 + 1 + 1) 0 80 (blCells b (.slice dA b.disks.length dc)).toList _ (World.rangeAt_setCells_same WA (xb + 1 + 1 + 1) 0 (blCells b (.slice dA b.disks.length dc)).toList HTH.out) Tryz.underlying80 rfl blC_info
          have HEF := Lib.hid hEF
          have HLD := Lib.hid hld
          clear hC hQ hY hZ hE hEF hld
          go_wp2_with (first | (refine wpList_load_mid rfl 80 _ rfl (xb + 1) 0 rfl _ _ HRG.out Tryz.underlying80 rfl blC_info ?_) | (refine wpList_store_mid rfl 80 _ _ rfl (xb + 1 + 1 + 1) 0 (blCells b (.slice dA b.disks.length dc)).toList.toArray rfl rfl HTH.out blC_info (blC_one _ _ _ _) ?_))
          refine bodyPost_ret (v := .tuple #[.agg (blCells b (.slice dA b.disks.length dc)), .bool true, .int .i64 16]) (results_three Tryz.results64 _ rfl HLD.out) rfl ?_
          rw [HEQ.out]
          exact ⟨(.slice dA b.disks.length dc), rfl, own_keep (HBO.out) HEF.out (fun _ _ hh => hh), HEF.out⟩
      · have hl : ¬ b.disks.length = 0 := fun e => hd (List.length_eq_zero_iff.1 e)
        have HD := Lib.hid hd
        clear hd
        go_upto_region 32 with fail
        go_region
        go_upto_region 41 with fail
        clear q4 q5 q8 q6 q7 q9 q10 f5 f6 f7 f8 f9 f10 y0 y8
        have hQ2 : At (((W.setCell ⟨xb + 1, 8, none⟩ (.bool false)).setCell ⟨xb + 1, 9, none⟩ (.int .i64 0)).setCell ⟨xb + 1, 10, none⟩ (.int .i64 0)) (xb + 1) 80 (blCells { b with b := Cp.none } (.slice dA b.disks.length dc)) := ((hQ.set 8 (.bool false)).set 9 (.int .i64 0)).set 10 (.int .i64 0)
        have hne : xb + 1 + 1 + 1 ≠ xb + 1 := by omega
        have hZ2 := ((hZ.far (p := ⟨xb + 1, 8, none⟩) hne (.bool false)).far (p := ⟨xb + 1, 9, none⟩) hne (.int .i64 0)).far (p := ⟨xb + 1, 10, none⟩) hne (.int .i64 0)
        have hle : w.heap.size ≤ xb + 1 := by have := HXB.out; omega
        have hE2 : Ext w (((W.setCell ⟨xb + 1, 8, none⟩ (.bool false)).setCell ⟨xb + 1, 9, none⟩ (.int .i64 0)).setCell ⟨xb + 1, 10, none⟩ (.int .i64 0)) := Chg.setCell (p := ⟨xb + 1, 10, none⟩) (Chg.setCell (p := ⟨xb + 1, 9, none⟩) (Chg.setCell (p := ⟨xb + 1, 8, none⟩) hE (.inr hle) _) (.inr hle) _) (.inr hle) _
        clear hC hQ hY hZ hE hne hle
        generalize (((W.setCell ⟨xb + 1, 8, none⟩ (.bool false)).setCell ⟨xb + 1, 9, none⟩ (.int .i64 0)).setCell ⟨xb + 1, 10, none⟩ (.int .i64 0)) = W2 at hQ2 hZ2 hE2 ⊢
        have hC := hQ2
        have hQ := hQ2
        have hZ := hZ2
        have hE := hE2
        have hY := hQ2
        clear hQ2 hZ2 hE2
        have hQa := hQ.drew
        have hZa := hZ.drew
        have hEa := hE.drew
        clear hC hQ hY hZ hE
        generalize W2.drew = WA at hQa hZa hEa ⊢
        have hC := hQa
        have hQ := hQa
        have hZ := hZa
        have hE := hEa
        have hY := hQa
        clear hQa hZa hEa
        have HEQ : Hid (blobR y.closed b x = ({ b with b := Cp.none }, true, 0)) := Lib.hid (by unfold blobR chgB; rw [if_neg (by rw [HK.out]; decide)]; rw [if_neg (by rw [HK.out]; decide)]; rw [if_neg (by rw [HK.out]; decide)]; rw [if_neg (by rw [HK.out]; decide)]; rw [if_neg (by rw [HK.out]; decide)]; rw [if_neg (by unfold cpOf; rw [HPO.out]; simp [HM.out, HD.out])]; unfold setCp; rw [HPO.out]; rfl)
        have HRG := Lib.hid hQ.range
        have HTH : Hid (WA.there (xb + 1 + 1 + 1) 0 (blCells { b with b := Cp.none } (.slice dA b.disks.length dc)).toList.toArray.size) := Lib.hid hZ.there
        have hEF : Ext w (WA.setCells (xb + 1 + 1 + 1) 0 (blCells { b with b := Cp.none } (.slice dA b.disks.length dc)).toList) := hE.setCells (by have := HXB.out; omega) _ _
        have hld : (loadVar 80 ⟨xb + 1 + 1 + 1, 0, none⟩).run Tryz.prog (WA.setCells (xb + 1 + 1 + 1) 0 (blCells { b with b := Cp.none } (.slice dA b.disks.length dc)).toList) = .ok (.agg (blCells { b with b := Cp.none } (.slice dA b.disks.length dc))) (WA.setCells (xb + 1 + 1 + 1) 0 (blCells { b with b := Cp.none } (.slice dA b.disks.length dc)).toList) :=
          run_loadVar_mid (P := Tryz.prog) (WA.setCells (xb + 1 + 1 + 1) 0 (blCells { b with b := Cp.none } (.slice dA b.disks.length dc)).toList) (xb + 1 + 1 + 1) 0 80 (blCells { b with b := Cp.none } (.slice dA b.disks.length dc)).toList _ (World.rangeAt_setCells_same WA (xb + 1 + 1 + 1) 0 (blCells { b with b := Cp.none } (.slice dA b.disks.length dc)).toList HTH.out) Tryz.underlying80 rfl blC_info
        have HEF := Lib.hid hEF
        have HLD := Lib.hid hld
        clear hC hQ hY hZ hE hEF hld
        go_wp2_with (first | (refine wpList_load_mid rfl 80 _ rfl (xb + 1) 0 rfl _ _ HRG.out Tryz.underlying80 rfl blC_info ?_) | (refine wpList_store_mid rfl 80 _ _ rfl (xb + 1 + 1 + 1) 0 (blCells { b with b := Cp.none } (.slice dA b.disks.length dc)).toList.toArray rfl rfl HTH.out blC_info (blC_one _ _ _ _) ?_))
        refine bodyPost_ret (v := .tuple #[.agg (blCells { b with b := Cp.none } (.slice dA b.disks.length dc)), .bool true, .int .i64 0]) (results_three Tryz.results64 _ rfl HLD.out) rfl ?_
        rw [HEQ.out]
        exact ⟨(.slice dA b.disks.length dc), rfl, own_keep (HBO.out) HEF.out (fun _ _ hh => hh), HEF.out⟩
    · rw [hm] at q8
      have HM := Lib.hid hm
      clear hm
      go_upto_region 32 with fail
      go_region
      go_upto_region 37 with fail
      clear q4 q5 q8 q6 q7 q9 q10 f5 f6 f7 f8 f9 f10 y0 y8
      have hQa := hQ.drew
      have hZa := hZ.drew
      have hEa := hE.drew
      clear hC hQ hY hZ hE
      generalize W.drew = WA at hQa hZa hEa ⊢
      have hC := hQa
      have hQ := hQa
      have hZ := hZa
      have hE := hEa
      have hY := hQa
      clear hQa hZa hEa
      have HEQ : Hid (blobR y.closed b x = (b, true, 16)) := Lib.hid (by unfold blobR chgB; rw [if_neg (by rw [HK.out]; decide)]; rw [if_neg (by rw [HK.out]; decide)]; rw [if_neg (by rw [HK.out]; decide)]; rw [if_neg (by rw [HK.out]; decide)]; rw [if_neg (by rw [HK.out]; decide)]; rw [if_pos (by unfold cpOf; rw [HPO.out]; simp [HM.out])])
      have HRG := Lib.hid hQ.range
      have HTH : Hid (WA.there (xb + 1 + 1 + 1) 0 (blCells b (.slice dA b.disks.length dc)).toList.toArray.size) := Lib.hid hZ.there
      have hEF : Ext w (WA.setCells (xb + 1 + 1 + 1) 0 (blCells b (.slice dA b.disks.length dc)).toList) := hE.setCells (by have := HXB.out; omega) _ _
      have hld : (loadVar 80 ⟨xb + 1 + 1 + 1, 0, none⟩).run Tryz.prog (WA.setCells (xb + 1 + 1 + 1) 0 (blCells b (.slice dA b.disks.length dc)).toList) = .ok (.agg (blCells b (.slice dA b.disks.length dc))) (WA.setCells (xb + 1 + 1 + 1) 0 (blCells b (.slice dA b.disks.length dc)).toList) :=
        run_loadVar_mid (P := Tryz.prog) (WA.setCells (xb + 1 + 1 + 1) 0 (blCells b (.slice dA b.disks.length dc)).toList) (xb + 1 + 1 + 1) 0 80 (blCells b (.slice dA b.disks.length dc)).toList _ (World.rangeAt_setCells_same WA (xb + 1 + 1 + 1) 0 (blCells b (.slice dA b.disks.length dc)).toList HTH.out) Tryz.underlying80 rfl blC_info
      have HEF := Lib.hid hEF
      have HLD := Lib.hid hld
      clear hC hQ hY hZ hE hEF hld
      go_wp2_with (first | (refine wpList_load_mid rfl 80 _ rfl (xb + 1) 0 rfl _ _ HRG.out Tryz.underlying80 rfl blC_info ?_) | (refine wpList_store_mid rfl 80 _ _ rfl (xb + 1 + 1 + 1) 0 (blCells b (.slice dA b.disks.length dc)).toList.toArray rfl rfl HTH.out blC_info (blC_one _ _ _ _) ?_))
      refine bodyPost_ret (v := .tuple #[.agg (blCells b (.slice dA b.disks.length dc)), .bool true, .int .i64 16]) (results_three Tryz.results64 _ rfl HLD.out) rfl ?_
      rw [HEQ.out]
      exact ⟨(.slice dA b.disks.length dc), rfl, own_keep (HBO.out) HEF.out (fun _ _ hh => hh), HEF.out⟩
end blob
end Go.Proofs.YtchnejfdompfpaaGreat
