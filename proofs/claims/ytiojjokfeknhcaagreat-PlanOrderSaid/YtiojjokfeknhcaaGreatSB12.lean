/-
  Part 12 of what the law leans on.
-/
import Derived.Test.YtiojjokfeknhcaaGreatSB11
set_option maxRecDepth 100000
set_option maxHeartbeats 16000000
set_option linter.unusedVariables false
set_option linter.unusedSimpArgs false
set_option linter.unusedSectionVars false
namespace Go.Proofs.YtiojjokfeknhcaaGreat
open Go.RowKit Go.Sort
theorem vl_infoR : (Tryz.prog.info? 32).map (·.size) = some 3 := by kernel_rfl
theorem rfArr_put (lv : Value) (V : List Vl) {v j : Nat} {y y' : Vl} {u : Value} (hj : j < 3) (hy : V[v]? = some y) (hr : vlRow y' = (vlRow y).set j u) : (rfArr lv V).setIfInBounds (1 + v * 3 + j) u = rfArr lv (V.set v y') := by
  unfold rfArr
  rw [List.setIfInBounds_toArray, show 1 + v * 3 + j = (3 * v + j) + 1 by omega, List.set_cons_succ, vol_set V v j y y' u hj hy hr]
theorem vol_store {w : World} {xb v : Nat} {lv : Value} {V : List Vl} {y : Vl} (y' : Vl) (h : At w xb 35 (rfArr lv V)) (hy : V[v]? = some y) : At (w.setCells xb (1 + v * 3) (vlRow y')) xb 35 (rfArr lv (V.set v y')) := by
  have hv : v < V.length := (List.getElem?_eq_some_iff.1 hy).1
  have h1 := ((h.set (1 + v * 3) (.bool y'.closed)).set (1 + v * 3 + 1) (.bool y'.erase)).set (1 + v * 3 + 2) (.int .i64 y'.gen)
  have e1 : (rfArr lv V).setIfInBounds (1 + v * 3) (.bool y'.closed) = rfArr lv (V.set v ⟨y'.closed, y.erase, y.gen⟩) := rfArr_put lv V (j := 0) (by omega) hy rfl
  have g1 : (V.set v ⟨y'.closed, y.erase, y.gen⟩)[v]? = some ⟨y'.closed, y.erase, y.gen⟩ := by simp [hv]
  have e2 : (rfArr lv (V.set v ⟨y'.closed, y.erase, y.gen⟩)).setIfInBounds (1 + v * 3 + 1) (.bool y'.erase) = rfArr lv ((V.set v ⟨y'.closed, y.erase, y.gen⟩).set v ⟨y'.closed, y'.erase, y.gen⟩) := rfArr_put lv _ (j := 1) (by omega) g1 rfl
  rw [List.set_set] at e2
  have g2 : (V.set v ⟨y'.closed, y'.erase, y.gen⟩)[v]? = some ⟨y'.closed, y'.erase, y.gen⟩ := by simp [hv]
  have e3 : (rfArr lv (V.set v ⟨y'.closed, y'.erase, y.gen⟩)).setIfInBounds (1 + v * 3 + 2) (.int .i64 y'.gen) = rfArr lv ((V.set v ⟨y'.closed, y'.erase, y.gen⟩).set v y') := rfArr_put lv _ (j := 2) (by omega) g2 rfl
  rw [List.set_set] at e3
  rw [e1, e2, e3] at h1
  exact h1
theorem rapply_11 (w : World) (v : Value) (P : Pm) (n : Nat) (h : RfIn w v P) (hi : PInv n P) (hn : n ≤ 1000000) (x : Cmd) (dx : Value) (hx : w.ownsRow 0 3 1 dx x.disks.length (x.disks.map (Value.int .i64))) (hd : x.disks.length ≤ 17592186043904) (hnm : x.name.size ≤ 9223372036854775807) (hw : x.Wf) (j : Nat) (y : Vl) (hk : x.good = true ∧ x.kind = 11 ∧ x.vol = (j : Int) ∧ j < 12 ∧ P.vols[j]? = some y) :
    Calls Tryz.prog 49 #[v, cmdVal x dx] w (RcOut w (P.app x)) := by
  obtain ⟨lv, DV, rfl, hDV, hR⟩ := h
  have hlen : DV.length = P.L.length := by rw [← hDV, List.length_map]
  obtain ⟨A, c, rfl⟩ := own_slc hR.own
  obtain ⟨xA, xc, rfl⟩ := own_slc hx
  have HRF : Hid (RfIn w (.agg (rfArr (.slice A DV.length c) P.vols)) P) := Lib.hid ⟨_, DV, rfl, hDV, hR⟩
  have HX : Hid (rfArr (.slice A DV.length c) P.vols = (.slice A DV.length c :: (P.vols.map vlRow).flatten).toArray) := Lib.hid rfl
  have h37 := rfArr_size (.slice A DV.length c) hi.vlen
  have hone := rfArr_one A DV.length c P.vols
  have HVOL : Hid (∀ v y, P.vols[v]? = some y → (rfArr (.slice A DV.length c) P.vols)[1 + v * 3]? = some (.bool y.closed) ∧ (rfArr (.slice A DV.length c) P.vols)[1 + v * 3 + 1]? = some (.bool y.erase) ∧ (rfArr (.slice A DV.length c) P.vols)[1 + v * 3 + 2]? = some (.int .i64 y.gen)) := Lib.hid (fun v y h => rf_vol h)
  generalize hX : rfArr (.slice A DV.length c) P.vols = X at HX HRF HVOL h37 hone ⊢
  clear hX
  have H37 := Lib.hid h37
  have HONE := Lib.hid hone
  have HI1 : Hid ((Tryz.prog.info? 35).map (·.size) = some X.toList.length) := Lib.hid (by rw [Array.length_toList, h37]; exact rf_cinfo)
  have HI2 : Hid ((Tryz.prog.info? 35).map (·.size) = some X.size) := Lib.hid (by rw [h37]; exact rf_cinfo)
  have hX0 : X[0]? = some (.slice A DV.length c) := by rw [HX.out]; rfl
  have HX0 := Lib.hid hX0
  have HDV := Lib.hid hDV
  have HR := Lib.hid hR
  have HI := Lib.hid hi
  have HXO := Lib.hid hx
  have HK := Lib.hid hk
  clear hDV hlen hR hi hx hk hX0 h37 hone
  unfold cmdVal
  go_enter Tryz.func49, Tryz.ntmps49
  have hB := (((At.new w 35 X).alloc (.cells #[.int .i64 x.kind, .int .i64 x.client, .int .i64 x.seq, .string x.name, .int .u64 (x.blob : Int), .int .i64 x.size, .int .u32 (x.sum : Int), .slice xA x.disks.length xc, .int .i64 x.pool, .int .i64 x.vol, .int .i64 x.at_] 117)).alloc (.cells #[.slice none 0 0, .bool false, .bool false, .int .i64 0, .bool false, .bool false, .int .i64 0, .bool false, .bool false, .int .i64 0, .bool false, .bool false, .int .i64 0, .bool false, .bool false, .int .i64 0, .bool false, .bool false, .int .i64 0, .bool false, .bool false, .int .i64 0, .bool false, .bool false, .int .i64 0, .bool false, .bool false, .int .i64 0, .bool false, .bool false, .int .i64 0, .bool false, .bool false, .int .i64 0, .bool false, .bool false, .int .i64 0] 35)).alloc (.cells #[.int .i64 0, .int .u64 0, .int .i64 0, .int .u32 0, .slice none 0 0] 114)
  have hY := ((At.new (w.alloc (.cells X 35)) 117 #[.int .i64 x.kind, .int .i64 x.client, .int .i64 x.seq, .string x.name, .int .u64 (x.blob : Int), .int .i64 x.size, .int .u32 (x.sum : Int), .slice xA x.disks.length xc, .int .i64 x.pool, .int .i64 x.vol, .int .i64 x.at_]).alloc (.cells #[.slice none 0 0, .bool false, .bool false, .int .i64 0, .bool false, .bool false, .int .i64 0, .bool false, .bool false, .int .i64 0, .bool false, .bool false, .int .i64 0, .bool false, .bool false, .int .i64 0, .bool false, .bool false, .int .i64 0, .bool false, .bool false, .int .i64 0, .bool false, .bool false, .int .i64 0, .bool false, .bool false, .int .i64 0, .bool false, .bool false, .int .i64 0, .bool false, .bool false, .int .i64 0, .bool false, .bool false, .int .i64 0] 35)).alloc (.cells #[.int .i64 0, .int .u64 0, .int .i64 0, .int .u32 0, .slice none 0 0] 114)
  have hC := (At.new ((w.alloc (.cells X 35)).alloc (.cells #[.int .i64 x.kind, .int .i64 x.client, .int .i64 x.seq, .string x.name, .int .u64 (x.blob : Int), .int .i64 x.size, .int .u32 (x.sum : Int), .slice xA x.disks.length xc, .int .i64 x.pool, .int .i64 x.vol, .int .i64 x.at_] 117)) 35 #[.slice none 0 0, .bool false, .bool false, .int .i64 0, .bool false, .bool false, .int .i64 0, .bool false, .bool false, .int .i64 0, .bool false, .bool false, .int .i64 0, .bool false, .bool false, .int .i64 0, .bool false, .bool false, .int .i64 0, .bool false, .bool false, .int .i64 0, .bool false, .bool false, .int .i64 0, .bool false, .bool false, .int .i64 0, .bool false, .bool false, .int .i64 0, .bool false, .bool false, .int .i64 0, .bool false, .bool false, .int .i64 0]).alloc (.cells #[.int .i64 0, .int .u64 0, .int .i64 0, .int .u32 0, .slice none 0 0] 114)
  have hS := At.new (((w.alloc (.cells X 35)).alloc (.cells #[.int .i64 x.kind, .int .i64 x.client, .int .i64 x.seq, .string x.name, .int .u64 (x.blob : Int), .int .i64 x.size, .int .u32 (x.sum : Int), .slice xA x.disks.length xc, .int .i64 x.pool, .int .i64 x.vol, .int .i64 x.at_] 117)).alloc (.cells #[.slice none 0 0, .bool false, .bool false, .int .i64 0, .bool false, .bool false, .int .i64 0, .bool false, .bool false, .int .i64 0, .bool false, .bool false, .int .i64 0, .bool false, .bool false, .int .i64 0, .bool false, .bool false, .int .i64 0, .bool false, .bool false, .int .i64 0, .bool false, .bool false, .int .i64 0, .bool false, .bool false, .int .i64 0, .bool false, .bool false, .int .i64 0, .bool false, .bool false, .int .i64 0, .bool false, .bool false, .int .i64 0] 35)) 114 #[.int .i64 0, .int .u64 0, .int .i64 0, .int .u32 0, .slice none 0 0]
  have hE := ((((Ext.refl w).alloc (.cells X 35)).alloc (.cells #[.int .i64 x.kind, .int .i64 x.client, .int .i64 x.seq, .string x.name, .int .u64 (x.blob : Int), .int .i64 x.size, .int .u32 (x.sum : Int), .slice xA x.disks.length xc, .int .i64 x.pool, .int .i64 x.vol, .int .i64 x.at_] 117)).alloc (.cells #[.slice none 0 0, .bool false, .bool false, .int .i64 0, .bool false, .bool false, .int .i64 0, .bool false, .bool false, .int .i64 0, .bool false, .bool false, .int .i64 0, .bool false, .bool false, .int .i64 0, .bool false, .bool false, .int .i64 0, .bool false, .bool false, .int .i64 0, .bool false, .bool false, .int .i64 0, .bool false, .bool false, .int .i64 0, .bool false, .bool false, .int .i64 0, .bool false, .bool false, .int .i64 0, .bool false, .bool false, .int .i64 0] 35)).alloc (.cells #[.int .i64 0, .int .u64 0, .int .i64 0, .int .u32 0, .slice none 0 0] 114)
  rw [show (w.alloc (.cells X 35)).heap.size = w.heap.size + 1 by simp] at hY
  rw [show ((w.alloc (.cells X 35)).alloc (.cells #[.int .i64 x.kind, .int .i64 x.client, .int .i64 x.seq, .string x.name, .int .u64 (x.blob : Int), .int .i64 x.size, .int .u32 (x.sum : Int), .slice xA x.disks.length xc, .int .i64 x.pool, .int .i64 x.vol, .int .i64 x.at_] 117)).heap.size = w.heap.size + 1 + 1 by simp] at hC
  rw [show (((w.alloc (.cells X 35)).alloc (.cells #[.int .i64 x.kind, .int .i64 x.client, .int .i64 x.seq, .string x.name, .int .u64 (x.blob : Int), .int .i64 x.size, .int .u32 (x.sum : Int), .slice xA x.disks.length xc, .int .i64 x.pool, .int .i64 x.vol, .int .i64 x.at_] 117)).alloc (.cells #[.slice none 0 0, .bool false, .bool false, .int .i64 0, .bool false, .bool false, .int .i64 0, .bool false, .bool false, .int .i64 0, .bool false, .bool false, .int .i64 0, .bool false, .bool false, .int .i64 0, .bool false, .bool false, .int .i64 0, .bool false, .bool false, .int .i64 0, .bool false, .bool false, .int .i64 0, .bool false, .bool false, .int .i64 0, .bool false, .bool false, .int .i64 0, .bool false, .bool false, .int .i64 0, .bool false, .bool false, .int .i64 0] 35)).heap.size = w.heap.size + 1 + 1 + 1 by simp] at hS
  go_upto_region 1 with fail
  obtain ⟨xb, hxb⟩ : ∃ xb, w.heap.size = xb := ⟨_, rfl⟩
  rw [hxb] at hB hY hC hS ⊢
  generalize World.alloc _ _ = W at hB hY hC hS hE ⊢
  have HXB := Lib.hid (show w.heap.size ≤ xb by omega)
  clear hxb
  have HZ : Hid ((#[.slice none 0 0, .bool false, .bool false, .int .i64 0, .bool false, .bool false, .int .i64 0, .bool false, .bool false, .int .i64 0, .bool false, .bool false, .int .i64 0, .bool false, .bool false, .int .i64 0, .bool false, .bool false, .int .i64 0, .bool false, .bool false, .int .i64 0, .bool false, .bool false, .int .i64 0, .bool false, .bool false, .int .i64 0, .bool false, .bool false, .int .i64 0, .bool false, .bool false, .int .i64 0, .bool false, .bool false, .int .i64 0] : Array Value).size = 37) := Lib.hid rfl
  generalize (#[.slice none 0 0, .bool false, .bool false, .int .i64 0, .bool false, .bool false, .int .i64 0, .bool false, .bool false, .int .i64 0, .bool false, .bool false, .int .i64 0, .bool false, .bool false, .int .i64 0, .bool false, .bool false, .int .i64 0, .bool false, .bool false, .int .i64 0, .bool false, .bool false, .int .i64 0, .bool false, .bool false, .int .i64 0, .bool false, .bool false, .int .i64 0, .bool false, .bool false, .int .i64 0, .bool false, .bool false, .int .i64 0] : Array Value) = ZC at hC HZ
  have lS := hS.lt
  have lC := hC.lt
  have lY := hY.lt
  have lB := hB.lt
  have y0 := hY.cell 0
  simp at y0
  have HGD : Hid (x.good = true) := Lib.hid HK.out.1
  clear y0
  have HG := Lib.hid (rgood_any W x (.slice xA x.disks.length xc) (own_sl (own_keep HXO.out hE (fun _ _ hh => hh))) hd hnm)
  rw [HGD.out] at HG
  have HRY := Lib.hid hY.range
  go_wp2_with (refine wpList_load_mid rfl 117 _ rfl (xb + 1) 0 rfl _ _ HRY.out Tryz.underlying117 rfl cmd_infoR ?_)
  refine HG.out.mono ?_
  rintro e w1 ⟨rfl, hE1⟩
  have hB := hB.ext hE1
  have hY := hY.ext hE1
  have hC := hC.ext hE1
  have hS := hS.ext hE1
  have hE := hE.trans hE1
  have lS := hS.lt
  have lC := hC.lt
  have lY := hY.lt
  have lB := hB.lt
  clear HG HRY
  have y0 := hY.cell 0
  have y9 := hY.cell 9
  simp at y0 y9
  rw [HK.out.2.1] at y0
  rw [HK.out.2.2.1] at y9
  have hj12 := HK.out.2.2.2.1
  have HYV := Lib.hid (HVOL.out j y HK.out.2.2.2.2)
  have x0 := hB.cell (1 + j * 3)
  have x1 := hB.cell (1 + j * 3 + 1)
  have x2 := hB.cell (1 + j * 3 + 2)
  rw [HYV.out.1] at x0
  rw [HYV.out.2.1] at x1
  rw [HYV.out.2.2] at x2
  have hV := At.new w1 32 #[.bool y.closed, .bool y.erase, .int .i64 y.gen]
  have hEV := (Ext.refl w1).alloc (.cells #[.bool y.closed, .bool y.erase, .int .i64 y.gen] 32)
  go_upto_region 6 with fail
  clear x0 x1 x2
  have HVB := Lib.hid (show w.heap.size ≤ w1.heap.size from hE.size)
  generalize w1.heap.size = vb at hV HVB ⊢
  generalize w1.alloc (.cells #[.bool y.closed, .bool y.erase, .int .i64 y.gen] 32) = W2 at hV hEV ⊢
  have hB := hB.ext hEV
  have hY := hY.ext hEV
  have hC := hC.ext hEV
  have hS := hS.ext hEV
  have hE := hE.trans hEV
  have lS := hS.lt
  have lC := hC.lt
  have lY := hY.lt
  have lB := hB.lt
  have y0 := hY.cell 0
  simp at y0
  rw [HK.out.2.1] at y0
  have v0 := hV.cell 0
  have vf0 := hV.frozen 0
  have v1 := hV.cell 1
  have vf1 := hV.frozen 1
  simp at v0 v1
  have HAP := Lib.hid (show P.app x = rs1 (P.volume x) from by unfold Pm.app; rw [if_neg (by rw [HK.out.1]; decide), if_neg (by rw [HK.out.2.1]; decide), if_neg (by rw [HK.out.2.1]; decide), if_neg (by rw [HK.out.2.1]; decide), if_pos (by rw [HK.out.2.1]; decide)])
  have HPV : Hid (P.vol x.vol.toNat = y) := Lib.hid (by unfold Pm.vol; rw [HK.out.2.2.1, Int.toNat_natCast, List.getD_eq_getElem?_getD, HK.out.2.2.2.2]; rfl)
  go_upto_region 19 with fail
  clear v0 vf0 v1 vf1 y0 y9
  have hne : xb ≠ vb := At.ne hB hV (by decide)
  have hne2 : xb + 1 + 1 ≠ vb := At.ne hC hV (by decide)
  have hne3 : xb + 1 + 1 + 1 ≠ vb := At.ne hS hV (by decide)
  have hne4 : xb + 1 ≠ vb := At.ne hY hV (by decide)
  have kV : At (W2.setCell ⟨vb, 0, none⟩ (.bool true)) vb 32 #[.bool true, .bool y.erase, .int .i64 y.gen] := hV.set 0 (.bool true)
  have hch : Chg (· = vb) W2 (W2.setCell ⟨vb, 0, none⟩ (.bool true)) := Chg.setCell (S := (· = vb)) (p := ⟨vb, 0, none⟩) (Ext.refl W2).chg (.inl rfl) _
  have hE3 : Ext w (W2.setCell ⟨vb, 0, none⟩ (.bool true)) := hE.chg_trans hch |>.mono (fun k hk e => by have := HVB.out; have e' : k = vb := e; omega)
  have kB := hB.chg hch hne
  have kC := hC.chg hch hne2
  have kS := hS.chg hch hne3
  have kY := hY.chg hch hne4
  clear hB hC hS hY hV hE hch hne hne2 hne3 hne4 lC lS lY lB
  generalize (W2.setCell ⟨vb, 0, none⟩ (.bool true)) = W3 at kB kC kS kY kV hE3 ⊢
  have hB := kB
  have hC := kC
  have hS := kS
  have hY := kY
  have hV := kV
  have hE := hE3
  clear kB kC kS kY kV hE3
  have y0 := hY.cell 0
  have y9 := hY.cell 9
  simp at y0 y9
  rw [HK.out.2.1] at y0
  rw [HK.out.2.2.1] at y9
  have v0 := hV.cell 0
  have v1 := hV.cell 1
  have v2 := hV.cell 2
  simp at v0 v1 v2
  have HTX : Hid (W3.there xb (1 + j * 3) 3) := Lib.hid (fun i hi3 => by have h := hB.there (1 + j * 3 + i) (by rw [H37.out]; omega); simpa using h)
  have hB0 : At W3 xb 35 (rfArr (.slice A DV.length c) P.vols) := by have h := hB; rw [HX.out] at h; exact h
  have hB4 : At (W3.setCells xb (1 + j * 3) (#[.bool true, .bool y.erase, .int .i64 y.gen] : Array Value).toList) xb 35 (rfArr (.slice A DV.length c) (P.vols.set j { y with closed := true })) := vol_store { y with closed := true } hB0 HK.out.2.2.2.2
  have hch : Chg (· = xb) W3 (W3.setCells xb (1 + j * 3) (#[.bool true, .bool y.erase, .int .i64 y.gen] : Array Value).toList) := chg_setCells _ _
  have hC4 := hC.chg hch (by omega)
  have hS4 := hS.chg hch (by omega)
  have hE4 : Ext w (W3.setCells xb (1 + j * 3) (#[.bool true, .bool y.erase, .int .i64 y.gen] : Array Value).toList) := hE.chg_trans hch |>.mono (fun k hk e => by have := HXB.out; have e' : k = xb := e; omega)
  have hVL : (P.vols.set j { y with closed := true }).length = 12 := by rw [List.length_set]; exact HI.out.vlen
  have h37' := rfArr_size (.slice A DV.length c) hVL
  have hone' := rfArr_one A DV.length c (P.vols.set j { y with closed := true })
  have hrf : RfIn (W3.setCells xb (1 + j * 3) (#[.bool true, .bool y.erase, .int .i64 y.gen] : Array Value).toList) (.agg (rfArr (.slice A DV.length c) (P.vols.set j { y with closed := true }))) (P.setVol j { y with closed := true }) := ⟨_, DV, rfl, HDV.out, HR.out.ext hE4⟩
  generalize rfArr (.slice A DV.length c) (P.vols.set j { y with closed := true }) = X2 at hB4 h37' hone' hrf
  have hTO := two_out (X := X2) (R := #[.int .i64 0, .int .u64 0, .int .i64 0, .int .u32 0, .slice none 0 0]) hC4 hS4 (by rw [HZ.out, h37']) rfl h37' rfl (by omega)
  have HTO := Lib.hid hTO
  have hroC : Chg (fun k => k = xb + 1 + 1 ∨ k = xb + 1 + 1 + 1) (W3.setCells xb (1 + j * 3) (#[.bool true, .bool y.erase, .int .i64 y.gen] : Array Value).toList) (((W3.setCells xb (1 + j * 3) (#[.bool true, .bool y.erase, .int .i64 y.gen] : Array Value).toList).setCells (xb + 1 + 1) 0 X2.toList).setCells (xb + 1 + 1 + 1) 0 (#[.int .i64 0, .int .u64 0, .int .i64 0, .int .u32 0, .slice none 0 0] : Array Value).toList) := Chg.setCells (Chg.setCells (Ext.refl (W3.setCells xb (1 + j * 3) (#[.bool true, .bool y.erase, .int .i64 y.gen] : Array Value).toList)).chg (.inl rfl) _ _) (.inr rfl) _ _
  have HRO := Lib.hid (RfIn.two hrf ⟨_, hC4⟩ ⟨_, hS4⟩ hroC)
  have HEF := Lib.hid (hTO.ext w hE4 (by have := HXB.out; omega) (by have := HXB.out; omega))
  have HRX := Lib.hid hB4.range
  clear hB hY hC hS hE hV hTO hrf hroC hB0 hB4 hC4 hS4 hE4 hch hVL
  go_upto_region 21 with (refine wpList_store_mid rfl 32 _ _ rfl xb (1 + j * 3) #[.bool true, .bool y.erase, .int .i64 y.gen] rfl rfl HTX.out vl_infoR (by simp [Value.oneCell']) ?_)
  clear y0 y9 v0 v1 v2 HTX
  generalize (W3.setCells xb (1 + j * 3) (#[.bool true, .bool y.erase, .int .i64 y.gen] : Array Value).toList) = W4 at HTO HRO HEF HRX ⊢
  go_wp2_with (first | (refine wpList_load_mid rfl 35 _ rfl xb 0 rfl _ _ HRX.out Tryz.underlying35 rfl (by rw [Array.length_toList, h37']; exact rf_cinfo) ?_) | (refine wpList_store_mid rfl 35 _ _ rfl (xb + 1 + 1) 0 X2 rfl rfl HTO.out.t1 (by rw [h37']; exact rf_cinfo) hone' ?_) | (refine wpList_store_mid rfl 114 _ _ rfl (xb + 1 + 1 + 1) 0 #[.int .i64 0, .int .u64 0, .int .i64 0, .int .u32 0, .slice none 0 0] rfl rfl HTO.out.t2 res_info (by simp [Value.oneCell']) ?_))
  refine bodyPost_ret (v := .tuple #[.agg X2, .agg #[.int .i64 0, .int .u64 0, .int .i64 0, .int .u32 0, .slice none 0 0]]) (results_two Tryz.results49 _ rfl rfl HTO.out.l1 HTO.out.l2) rfl ?_
  rw [show P.app x = (P.setVol j { y with closed := true }, Rs.er 0) from by rw [HAP.out]; unfold Pm.volume rs1; rw [if_pos HK.out.2.1, HPV.out, HK.out.2.2.1, Int.toNat_natCast]]
  exact ⟨.agg X2, .slice none 0 0, rfl, HRO.out, own_nil _ _ _, HEF.out⟩
theorem rapply_12 (w : World) (v : Value) (P : Pm) (n : Nat) (h : RfIn w v P) (hi : PInv n P) (hn : n ≤ 1000000) (x : Cmd) (dx : Value) (hx : w.ownsRow 0 3 1 dx x.disks.length (x.disks.map (Value.int .i64))) (hd : x.disks.length ≤ 17592186043904) (hnm : x.name.size ≤ 9223372036854775807) (hw : x.Wf) (j : Nat) (y : Vl) (hk : x.good = true ∧ x.kind = 12 ∧ x.vol = (j : Int) ∧ j < 12 ∧ P.vols[j]? = some y) :
    Calls Tryz.prog 49 #[v, cmdVal x dx] w (RcOut w (P.app x)) := by
  obtain ⟨lv, DV, rfl, hDV, hR⟩ := h
  have hlen : DV.length = P.L.length := by rw [← hDV, List.length_map]
  obtain ⟨A, c, rfl⟩ := own_slc hR.own
  obtain ⟨xA, xc, rfl⟩ := own_slc hx
  have HRF : Hid (RfIn w (.agg (rfArr (.slice A DV.length c) P.vols)) P) := Lib.hid ⟨_, DV, rfl, hDV, hR⟩
  have HX : Hid (rfArr (.slice A DV.length c) P.vols = (.slice A DV.length c :: (P.vols.map vlRow).flatten).toArray) := Lib.hid rfl
  have h37 := rfArr_size (.slice A DV.length c) hi.vlen
  have hone := rfArr_one A DV.length c P.vols
  have HVOL : Hid (∀ v y, P.vols[v]? = some y → (rfArr (.slice A DV.length c) P.vols)[1 + v * 3]? = some (.bool y.closed) ∧ (rfArr (.slice A DV.length c) P.vols)[1 + v * 3 + 1]? = some (.bool y.erase) ∧ (rfArr (.slice A DV.length c) P.vols)[1 + v * 3 + 2]? = some (.int .i64 y.gen)) := Lib.hid (fun v y h => rf_vol h)
  generalize hX : rfArr (.slice A DV.length c) P.vols = X at HX HRF HVOL h37 hone ⊢
  clear hX
  have H37 := Lib.hid h37
  have HONE := Lib.hid hone
  have HI1 : Hid ((Tryz.prog.info? 35).map (·.size) = some X.toList.length) := Lib.hid (by rw [Array.length_toList, h37]; exact rf_cinfo)
  have HI2 : Hid ((Tryz.prog.info? 35).map (·.size) = some X.size) := Lib.hid (by rw [h37]; exact rf_cinfo)
  have hX0 : X[0]? = some (.slice A DV.length c) := by rw [HX.out]; rfl
  have HX0 := Lib.hid hX0
  have HDV := Lib.hid hDV
  have HR := Lib.hid hR
  have HI := Lib.hid hi
  have HXO := Lib.hid hx
  have HK := Lib.hid hk
  clear hDV hlen hR hi hx hk hX0 h37 hone
  unfold cmdVal
  go_enter Tryz.func49, Tryz.ntmps49
  have hB := (((At.new w 35 X).alloc (.cells #[.int .i64 x.kind, .int .i64 x.client, .int .i64 x.seq, .string x.name, .int .u64 (x.blob : Int), .int .i64 x.size, .int .u32 (x.sum : Int), .slice xA x.disks.length xc, .int .i64 x.pool, .int .i64 x.vol, .int .i64 x.at_] 117)).alloc (.cells #[.slice none 0 0, .bool false, .bool false, .int .i64 0, .bool false, .bool false, .int .i64 0, .bool false, .bool false, .int .i64 0, .bool false, .bool false, .int .i64 0, .bool false, .bool false, .int .i64 0, .bool false, .bool false, .int .i64 0, .bool false, .bool false, .int .i64 0, .bool false, .bool false, .int .i64 0, .bool false, .bool false, .int .i64 0, .bool false, .bool false, .int .i64 0, .bool false, .bool false, .int .i64 0, .bool false, .bool false, .int .i64 0] 35)).alloc (.cells #[.int .i64 0, .int .u64 0, .int .i64 0, .int .u32 0, .slice none 0 0] 114)
  have hY := ((At.new (w.alloc (.cells X 35)) 117 #[.int .i64 x.kind, .int .i64 x.client, .int .i64 x.seq, .string x.name, .int .u64 (x.blob : Int), .int .i64 x.size, .int .u32 (x.sum : Int), .slice xA x.disks.length xc, .int .i64 x.pool, .int .i64 x.vol, .int .i64 x.at_]).alloc (.cells #[.slice none 0 0, .bool false, .bool false, .int .i64 0, .bool false, .bool false, .int .i64 0, .bool false, .bool false, .int .i64 0, .bool false, .bool false, .int .i64 0, .bool false, .bool false, .int .i64 0, .bool false, .bool false, .int .i64 0, .bool false, .bool false, .int .i64 0, .bool false, .bool false, .int .i64 0, .bool false, .bool false, .int .i64 0, .bool false, .bool false, .int .i64 0, .bool false, .bool false, .int .i64 0, .bool false, .bool false, .int .i64 0] 35)).alloc (.cells #[.int .i64 0, .int .u64 0, .int .i64 0, .int .u32 0, .slice none 0 0] 114)
  have hC := (At.new ((w.alloc (.cells X 35)).alloc (.cells #[.int .i64 x.kind, .int .i64 x.client, .int .i64 x.seq, .string x.name, .int .u64 (x.blob : Int), .int .i64 x.size, .int .u32 (x.sum : Int), .slice xA x.disks.length xc, .int .i64 x.pool, .int .i64 x.vol, .int .i64 x.at_] 117)) 35 #[.slice none 0 0, .bool false, .bool false, .int .i64 0, .bool false, .bool false, .int .i64 0, .bool false, .bool false, .int .i64 0, .bool false, .bool false, .int .i64 0, .bool false, .bool false, .int .i64 0, .bool false, .bool false, .int .i64 0, .bool false, .bool false, .int .i64 0, .bool false, .bool false, .int .i64 0, .bool false, .bool false, .int .i64 0, .bool false, .bool false, .int .i64 0, .bool false, .bool false, .int .i64 0, .bool false, .bool false, .int .i64 0]).alloc (.cells #[.int .i64 0, .int .u64 0, .int .i64 0, .int .u32 0, .slice none 0 0] 114)
  have hS := At.new (((w.alloc (.cells X 35)).alloc (.cells #[.int .i64 x.kind, .int .i64 x.client, .int .i64 x.seq, .string x.name, .int .u64 (x.blob : Int), .int .i64 x.size, .int .u32 (x.sum : Int), .slice xA x.disks.length xc, .int .i64 x.pool, .int .i64 x.vol, .int .i64 x.at_] 117)).alloc (.cells #[.slice none 0 0, .bool false, .bool false, .int .i64 0, .bool false, .bool false, .int .i64 0, .bool false, .bool false, .int .i64 0, .bool false, .bool false, .int .i64 0, .bool false, .bool false, .int .i64 0, .bool false, .bool false, .int .i64 0, .bool false, .bool false, .int .i64 0, .bool false, .bool false, .int .i64 0, .bool false, .bool false, .int .i64 0, .bool false, .bool false, .int .i64 0, .bool false, .bool false, .int .i64 0, .bool false, .bool false, .int .i64 0] 35)) 114 #[.int .i64 0, .int .u64 0, .int .i64 0, .int .u32 0, .slice none 0 0]
  have hE := ((((Ext.refl w).alloc (.cells X 35)).alloc (.cells #[.int .i64 x.kind, .int .i64 x.client, .int .i64 x.seq, .string x.name, .int .u64 (x.blob : Int), .int .i64 x.size, .int .u32 (x.sum : Int), .slice xA x.disks.length xc, .int .i64 x.pool, .int .i64 x.vol, .int .i64 x.at_] 117)).alloc (.cells #[.slice none 0 0, .bool false, .bool false, .int .i64 0, .bool false, .bool false, .int .i64 0, .bool false, .bool false, .int .i64 0, .bool false, .bool false, .int .i64 0, .bool false, .bool false, .int .i64 0, .bool false, .bool false, .int .i64 0, .bool false, .bool false, .int .i64 0, .bool false, .bool false, .int .i64 0, .bool false, .bool false, .int .i64 0, .bool false, .bool false, .int .i64 0, .bool false, .bool false, .int .i64 0, .bool false, .bool false, .int .i64 0] 35)).alloc (.cells #[.int .i64 0, .int .u64 0, .int .i64 0, .int .u32 0, .slice none 0 0] 114)
  rw [show (w.alloc (.cells X 35)).heap.size = w.heap.size + 1 by simp] at hY
  rw [show ((w.alloc (.cells X 35)).alloc (.cells #[.int .i64 x.kind, .int .i64 x.client, .int .i64 x.seq, .string x.name, .int .u64 (x.blob : Int), .int .i64 x.size, .int .u32 (x.sum : Int), .slice xA x.disks.length xc, .int .i64 x.pool, .int .i64 x.vol, .int .i64 x.at_] 117)).heap.size = w.heap.size + 1 + 1 by simp] at hC
  rw [show (((w.alloc (.cells X 35)).alloc (.cells #[.int .i64 x.kind, .int .i64 x.client, .int .i64 x.seq, .string x.name, .int .u64 (x.blob : Int), .int .i64 x.size, .int .u32 (x.sum : Int), .slice xA x.disks.length xc, .int .i64 x.pool, .int .i64 x.vol, .int .i64 x.at_] 117)).alloc (.cells #[.slice none 0 0, .bool false, .bool false, .int .i64 0, .bool false, .bool false, .int .i64 0, .bool false, .bool false, .int .i64 0, .bool false, .bool false, .int .i64 0, .bool false, .bool false, .int .i64 0, .bool false, .bool false, .int .i64 0, .bool false, .bool false, .int .i64 0, .bool false, .bool false, .int .i64 0, .bool false, .bool false, .int .i64 0, .bool false, .bool false, .int .i64 0, .bool false, .bool false, .int .i64 0, .bool false, .bool false, .int .i64 0] 35)).heap.size = w.heap.size + 1 + 1 + 1 by simp] at hS
  go_upto_region 1 with fail
  obtain ⟨xb, hxb⟩ : ∃ xb, w.heap.size = xb := ⟨_, rfl⟩
  rw [hxb] at hB hY hC hS ⊢
  generalize World.alloc _ _ = W at hB hY hC hS hE ⊢
  have HXB := Lib.hid (show w.heap.size ≤ xb by omega)
  clear hxb
  have HZ : Hid ((#[.slice none 0 0, .bool false, .bool false, .int .i64 0, .bool false, .bool false, .int .i64 0, .bool false, .bool false, .int .i64 0, .bool false, .bool false, .int .i64 0, .bool false, .bool false, .int .i64 0, .bool false, .bool false, .int .i64 0, .bool false, .bool false, .int .i64 0, .bool false, .bool false, .int .i64 0, .bool false, .bool false, .int .i64 0, .bool false, .bool false, .int .i64 0, .bool false, .bool false, .int .i64 0, .bool false, .bool false, .int .i64 0] : Array Value).size = 37) := Lib.hid rfl
  generalize (#[.slice none 0 0, .bool false, .bool false, .int .i64 0, .bool false, .bool false, .int .i64 0, .bool false, .bool false, .int .i64 0, .bool false, .bool false, .int .i64 0, .bool false, .bool false, .int .i64 0, .bool false, .bool false, .int .i64 0, .bool false, .bool false, .int .i64 0, .bool false, .bool false, .int .i64 0, .bool false, .bool false, .int .i64 0, .bool false, .bool false, .int .i64 0, .bool false, .bool false, .int .i64 0, .bool false, .bool false, .int .i64 0] : Array Value) = ZC at hC HZ
  have lS := hS.lt
  have lC := hC.lt
  have lY := hY.lt
  have lB := hB.lt
  have y0 := hY.cell 0
  simp at y0
  have HGD : Hid (x.good = true) := Lib.hid HK.out.1
  clear y0
  have HG := Lib.hid (rgood_any W x (.slice xA x.disks.length xc) (own_sl (own_keep HXO.out hE (fun _ _ hh => hh))) hd hnm)
  rw [HGD.out] at HG
  have HRY := Lib.hid hY.range
  go_wp2_with (refine wpList_load_mid rfl 117 _ rfl (xb + 1) 0 rfl _ _ HRY.out Tryz.underlying117 rfl cmd_infoR ?_)
  refine HG.out.mono ?_
  rintro e w1 ⟨rfl, hE1⟩
  have hB := hB.ext hE1
  have hY := hY.ext hE1
  have hC := hC.ext hE1
  have hS := hS.ext hE1
  have hE := hE.trans hE1
  have lS := hS.lt
  have lC := hC.lt
  have lY := hY.lt
  have lB := hB.lt
  clear HG HRY
  have y0 := hY.cell 0
  have y9 := hY.cell 9
  simp at y0 y9
  rw [HK.out.2.1] at y0
  rw [HK.out.2.2.1] at y9
  have hj12 := HK.out.2.2.2.1
  have HYV := Lib.hid (HVOL.out j y HK.out.2.2.2.2)
  have x0 := hB.cell (1 + j * 3)
  have x1 := hB.cell (1 + j * 3 + 1)
  have x2 := hB.cell (1 + j * 3 + 2)
  rw [HYV.out.1] at x0
  rw [HYV.out.2.1] at x1
  rw [HYV.out.2.2] at x2
  have hV := At.new w1 32 #[.bool y.closed, .bool y.erase, .int .i64 y.gen]
  have hEV := (Ext.refl w1).alloc (.cells #[.bool y.closed, .bool y.erase, .int .i64 y.gen] 32)
  go_upto_region 6 with fail
  clear x0 x1 x2
  have HVB := Lib.hid (show w.heap.size ≤ w1.heap.size from hE.size)
  generalize w1.heap.size = vb at hV HVB ⊢
  generalize w1.alloc (.cells #[.bool y.closed, .bool y.erase, .int .i64 y.gen] 32) = W2 at hV hEV ⊢
  have hB := hB.ext hEV
  have hY := hY.ext hEV
  have hC := hC.ext hEV
  have hS := hS.ext hEV
  have hE := hE.trans hEV
  have lS := hS.lt
  have lC := hC.lt
  have lY := hY.lt
  have lB := hB.lt
  have y0 := hY.cell 0
  simp at y0
  rw [HK.out.2.1] at y0
  have v0 := hV.cell 0
  have vf0 := hV.frozen 0
  have v1 := hV.cell 1
  have vf1 := hV.frozen 1
  simp at v0 v1
  have HAP := Lib.hid (show P.app x = rs1 (P.volume x) from by unfold Pm.app; rw [if_neg (by rw [HK.out.1]; decide), if_neg (by rw [HK.out.2.1]; decide), if_neg (by rw [HK.out.2.1]; decide), if_neg (by rw [HK.out.2.1]; decide), if_pos (by rw [HK.out.2.1]; decide)])
  have HPV : Hid (P.vol x.vol.toNat = y) := Lib.hid (by unfold Pm.vol; rw [HK.out.2.2.1, Int.toNat_natCast, List.getD_eq_getElem?_getD, HK.out.2.2.2.2]; rfl)
  have HLV := Lib.hid (rlive_any W2 (.agg X) P n (HRF.out.ext hE) HI.out hn j hj12)
  have y9 := hY.cell 9
  simp at y9
  rw [HK.out.2.2.1] at y9
  have HRX := Lib.hid hB.range
  go_wp2_with (refine wpList_load_mid rfl 35 _ rfl xb 0 rfl _ _ HRX.out Tryz.underlying35 rfl HI1.out ?_)
  refine HLV.out.mono ?_
  rintro e w3 ⟨rfl, hE3⟩
  have hB := hB.ext hE3
  have hY := hY.ext hE3
  have hC := hC.ext hE3
  have hS := hS.ext hE3
  have hE := hE.trans hE3
  have lS := hS.lt
  have lC := hC.lt
  have lY := hY.lt
  have lB := hB.lt
  have hV := hV.ext hE3
  have HVL : Hid (W2.heap.size ≤ w3.heap.size) := Lib.hid hE3.size
  clear HLV HRX y0 y9 v0 vf0 v1 vf1
  have y0 := hY.cell 0
  have y9 := hY.cell 9
  simp at y0 y9
  rw [HK.out.2.1] at y0
  rw [HK.out.2.2.1] at y9
  by_cases hlv : P.onVol (j : Int) = []
  · have hlen : (P.onVol (j : Int)).length = 0 := by rw [hlv]; rfl
    have HLN := Lib.hid hlv
    have v0 := hV.cell 0
    have vf0 := hV.frozen 0
    have v1 := hV.cell 1
    have vf1 := hV.frozen 1
    simp at v0 v1
    generalize hpo : P.onVol (j : Int) = PO at hlen ⊢
    clear hpo hlv
    rw [hlen]
    go_upto_region 19 with fail
    clear v0 vf0 v1 vf1 y0 y9 hlen
    have hne : xb ≠ vb := At.ne hB hV (by decide)
    have hne2 : xb + 1 + 1 ≠ vb := At.ne hC hV (by decide)
    have hne3 : xb + 1 + 1 + 1 ≠ vb := At.ne hS hV (by decide)
    have hne4 : xb + 1 ≠ vb := At.ne hY hV (by decide)
    have kV : At ((w3.setCell ⟨vb, 0, none⟩ (.bool true)).setCell ⟨vb, 1, none⟩ (.bool true)) vb 32 #[.bool true, .bool true, .int .i64 y.gen] := (hV.set 0 (.bool true)).set 1 (.bool true)
    have hch : Chg (· = vb) w3 ((w3.setCell ⟨vb, 0, none⟩ (.bool true)).setCell ⟨vb, 1, none⟩ (.bool true)) := Chg.setCell (S := (· = vb)) (p := ⟨vb, 1, none⟩) (Chg.setCell (S := (· = vb)) (p := ⟨vb, 0, none⟩) (Ext.refl w3).chg (.inl rfl) _) (.inl rfl) _
    have hE3 : Ext w ((w3.setCell ⟨vb, 0, none⟩ (.bool true)).setCell ⟨vb, 1, none⟩ (.bool true)) := hE.chg_trans hch |>.mono (fun k hk e => by have := HVB.out; have e' : k = vb := e; omega)
    have kB := hB.chg hch hne
    have kC := hC.chg hch hne2
    have kS := hS.chg hch hne3
    have kY := hY.chg hch hne4
    clear hB hC hS hY hV hE hch hne hne2 hne3 hne4 lC lS lY lB
    generalize ((w3.setCell ⟨vb, 0, none⟩ (.bool true)).setCell ⟨vb, 1, none⟩ (.bool true)) = W3 at kB kC kS kY kV hE3 ⊢
    have hB := kB
    have hC := kC
    have hS := kS
    have hY := kY
    have hV := kV
    have hE := hE3
    clear kB kC kS kY kV hE3
    have y0 := hY.cell 0
    have y9 := hY.cell 9
    simp at y0 y9
    rw [HK.out.2.1] at y0
    rw [HK.out.2.2.1] at y9
    have v0 := hV.cell 0
    have v1 := hV.cell 1
    have v2 := hV.cell 2
    simp at v0 v1 v2
    have HTX : Hid (W3.there xb (1 + j * 3) 3) := Lib.hid (fun i hi3 => by have h := hB.there (1 + j * 3 + i) (by rw [H37.out]; omega); simpa using h)
    have hB0 : At W3 xb 35 (rfArr (.slice A DV.length c) P.vols) := by have h := hB; rw [HX.out] at h; exact h
    have hB4 : At (W3.setCells xb (1 + j * 3) (#[.bool true, .bool true, .int .i64 y.gen] : Array Value).toList) xb 35 (rfArr (.slice A DV.length c) (P.vols.set j { y with closed := true, erase := true })) := vol_store { y with closed := true, erase := true } hB0 HK.out.2.2.2.2
    have hch : Chg (· = xb) W3 (W3.setCells xb (1 + j * 3) (#[.bool true, .bool true, .int .i64 y.gen] : Array Value).toList) := chg_setCells _ _
    have hC4 := hC.chg hch (by omega)
    have hS4 := hS.chg hch (by omega)
    have hE4 : Ext w (W3.setCells xb (1 + j * 3) (#[.bool true, .bool true, .int .i64 y.gen] : Array Value).toList) := hE.chg_trans hch |>.mono (fun k hk e => by have := HXB.out; have e' : k = xb := e; omega)
    have hVL : (P.vols.set j { y with closed := true, erase := true }).length = 12 := by rw [List.length_set]; exact HI.out.vlen
    have h37' := rfArr_size (.slice A DV.length c) hVL
    have hone' := rfArr_one A DV.length c (P.vols.set j { y with closed := true, erase := true })
    have hrf : RfIn (W3.setCells xb (1 + j * 3) (#[.bool true, .bool true, .int .i64 y.gen] : Array Value).toList) (.agg (rfArr (.slice A DV.length c) (P.vols.set j { y with closed := true, erase := true }))) (P.setVol j { y with closed := true, erase := true }) := ⟨_, DV, rfl, HDV.out, HR.out.ext hE4⟩
    generalize rfArr (.slice A DV.length c) (P.vols.set j { y with closed := true, erase := true }) = X2 at hB4 h37' hone' hrf
    have hTO := two_out (X := X2) (R := #[.int .i64 0, .int .u64 0, .int .i64 0, .int .u32 0, .slice none 0 0]) hC4 hS4 (by rw [HZ.out, h37']) rfl h37' rfl (by omega)
    have HTO := Lib.hid hTO
    have hroC : Chg (fun k => k = xb + 1 + 1 ∨ k = xb + 1 + 1 + 1) (W3.setCells xb (1 + j * 3) (#[.bool true, .bool true, .int .i64 y.gen] : Array Value).toList) (((W3.setCells xb (1 + j * 3) (#[.bool true, .bool true, .int .i64 y.gen] : Array Value).toList).setCells (xb + 1 + 1) 0 X2.toList).setCells (xb + 1 + 1 + 1) 0 (#[.int .i64 0, .int .u64 0, .int .i64 0, .int .u32 0, .slice none 0 0] : Array Value).toList) := Chg.setCells (Chg.setCells (Ext.refl (W3.setCells xb (1 + j * 3) (#[.bool true, .bool true, .int .i64 y.gen] : Array Value).toList)).chg (.inl rfl) _ _) (.inr rfl) _ _
    have HRO := Lib.hid (RfIn.two hrf ⟨_, hC4⟩ ⟨_, hS4⟩ hroC)
    have HEF := Lib.hid (hTO.ext w hE4 (by have := HXB.out; omega) (by have := HXB.out; omega))
    have HRX := Lib.hid hB4.range
    clear hB hY hC hS hE hV hTO hrf hroC hB0 hB4 hC4 hS4 hE4 hch hVL
    go_upto_region 21 with (refine wpList_store_mid rfl 32 _ _ rfl xb (1 + j * 3) #[.bool true, .bool true, .int .i64 y.gen] rfl rfl HTX.out vl_infoR (by simp [Value.oneCell']) ?_)
    clear y0 y9 v0 v1 v2 HTX
    generalize (W3.setCells xb (1 + j * 3) (#[.bool true, .bool true, .int .i64 y.gen] : Array Value).toList) = W4 at HTO HRO HEF HRX ⊢
    go_wp2_with (first | (refine wpList_load_mid rfl 35 _ rfl xb 0 rfl _ _ HRX.out Tryz.underlying35 rfl (by rw [Array.length_toList, h37']; exact rf_cinfo) ?_) | (refine wpList_store_mid rfl 35 _ _ rfl (xb + 1 + 1) 0 X2 rfl rfl HTO.out.t1 (by rw [h37']; exact rf_cinfo) hone' ?_) | (refine wpList_store_mid rfl 114 _ _ rfl (xb + 1 + 1 + 1) 0 #[.int .i64 0, .int .u64 0, .int .i64 0, .int .u32 0, .slice none 0 0] rfl rfl HTO.out.t2 res_info (by simp [Value.oneCell']) ?_))
    refine bodyPost_ret (v := .tuple #[.agg X2, .agg #[.int .i64 0, .int .u64 0, .int .i64 0, .int .u32 0, .slice none 0 0]]) (results_two Tryz.results49 _ rfl rfl HTO.out.l1 HTO.out.l2) rfl ?_
    rw [show P.app x = (P.setVol j { y with closed := true, erase := true }, Rs.er 0) from by rw [HAP.out]; unfold Pm.volume rs1; rw [if_neg (by rw [HK.out.2.1]; decide), if_pos HK.out.2.1, HPV.out, HK.out.2.2.1, if_pos HLN.out, Int.toNat_natCast]]
    exact ⟨.agg X2, .slice none 0 0, rfl, HRO.out, own_nil _ _ _, HEF.out⟩
  · have hlen : ((0 : Int) < (P.onVol (j : Int)).length) := by
      have := List.length_pos_iff.2 hlv
      omega
    have HLN := Lib.hid hlv
    generalize hpo : P.onVol (j : Int) = PO at hlen ⊢
    clear hpo hlv
    have hTO := two_out (X := X) (R := #[.int .i64 10, .int .u64 0, .int .i64 0, .int .u32 0, .slice none 0 0]) hC hS (by rw [HZ.out, H37.out]) rfl H37.out rfl (by omega)
    have HTO := Lib.hid hTO
    have HRG := Lib.hid hB.range
    have HEF := Lib.hid (hTO.ext w hE (by have := HXB.out; omega) (by have := HXB.out; omega))
    clear hB hY hC hS hE hTO
    go_wp2_with (first | (refine wpList_load_mid rfl 35 _ rfl xb 0 rfl _ _ HRG.out Tryz.underlying35 rfl HI1.out ?_) | (refine wpList_store_mid rfl 35 _ _ rfl (xb + 1 + 1) 0 X rfl rfl HTO.out.t1 HI2.out HONE.out ?_) | (refine wpList_store_mid rfl 114 _ _ rfl (xb + 1 + 1 + 1) 0 #[.int .i64 10, .int .u64 0, .int .i64 0, .int .u32 0, .slice none 0 0] rfl rfl HTO.out.t2 res_info (by simp [Value.oneCell']) ?_))
    refine bodyPost_ret (v := .tuple #[.agg X, .agg #[.int .i64 10, .int .u64 0, .int .i64 0, .int .u32 0, .slice none 0 0]]) (results_two Tryz.results49 _ rfl rfl HTO.out.l1 HTO.out.l2) rfl ?_
    rw [show P.app x = (P, Rs.er 10) from by rw [HAP.out]; unfold Pm.volume rs1; rw [if_neg (by rw [HK.out.2.1]; decide), if_pos HK.out.2.1, HK.out.2.2.1, if_neg HLN.out]]
    exact ⟨.agg X, .slice none 0 0, rfl, HRF.out.ext HEF.out, own_nil _ _ _, HEF.out⟩
theorem rapply_13 (w : World) (v : Value) (P : Pm) (n : Nat) (h : RfIn w v P) (hi : PInv n P) (hn : n ≤ 1000000) (x : Cmd) (dx : Value) (hx : w.ownsRow 0 3 1 dx x.disks.length (x.disks.map (Value.int .i64))) (hd : x.disks.length ≤ 17592186043904) (hnm : x.name.size ≤ 9223372036854775807) (hw : x.Wf) (j : Nat) (y : Vl) (hk : x.good = true ∧ x.kind = 13 ∧ x.vol = (j : Int) ∧ j < 12 ∧ P.vols[j]? = some y) :
    Calls Tryz.prog 49 #[v, cmdVal x dx] w (RcOut w (P.app x)) := by
  obtain ⟨lv, DV, rfl, hDV, hR⟩ := h
  have hlen : DV.length = P.L.length := by rw [← hDV, List.length_map]
  obtain ⟨A, c, rfl⟩ := own_slc hR.own
  obtain ⟨xA, xc, rfl⟩ := own_slc hx
  have HRF : Hid (RfIn w (.agg (rfArr (.slice A DV.length c) P.vols)) P) := Lib.hid ⟨_, DV, rfl, hDV, hR⟩
  have HX : Hid (rfArr (.slice A DV.length c) P.vols = (.slice A DV.length c :: (P.vols.map vlRow).flatten).toArray) := Lib.hid rfl
  have h37 := rfArr_size (.slice A DV.length c) hi.vlen
  have hone := rfArr_one A DV.length c P.vols
  have HVOL : Hid (∀ v y, P.vols[v]? = some y → (rfArr (.slice A DV.length c) P.vols)[1 + v * 3]? = some (.bool y.closed) ∧ (rfArr (.slice A DV.length c) P.vols)[1 + v * 3 + 1]? = some (.bool y.erase) ∧ (rfArr (.slice A DV.length c) P.vols)[1 + v * 3 + 2]? = some (.int .i64 y.gen)) := Lib.hid (fun v y h => rf_vol h)
  generalize hX : rfArr (.slice A DV.length c) P.vols = X at HX HRF HVOL h37 hone ⊢
  clear hX
  have H37 := Lib.hid h37
  have HONE := Lib.hid hone
  have HI1 : Hid ((Tryz.prog.info? 35).map (·.size) = some X.toList.length) := Lib.hid (by rw [Array.length_toList, h37]; exact rf_cinfo)
  have HI2 : Hid ((Tryz.prog.info? 35).map (·.size) = some X.size) := Lib.hid (by rw [h37]; exact rf_cinfo)
  have hX0 : X[0]? = some (.slice A DV.length c) := by rw [HX.out]; rfl
  have HX0 := Lib.hid hX0
  have HDV := Lib.hid hDV
  have HR := Lib.hid hR
  have HI := Lib.hid hi
  have HXO := Lib.hid hx
  have HK := Lib.hid hk
  clear hDV hlen hR hi hx hk hX0 h37 hone
  unfold cmdVal
  go_enter Tryz.func49, Tryz.ntmps49
  have hB := (((At.new w 35 X).alloc (.cells #[.int .i64 x.kind, .int .i64 x.client, .int .i64 x.seq, .string x.name, .int .u64 (x.blob : Int), .int .i64 x.size, .int .u32 (x.sum : Int), .slice xA x.disks.length xc, .int .i64 x.pool, .int .i64 x.vol, .int .i64 x.at_] 117)).alloc (.cells #[.slice none 0 0, .bool false, .bool false, .int .i64 0, .bool false, .bool false, .int .i64 0, .bool false, .bool false, .int .i64 0, .bool false, .bool false, .int .i64 0, .bool false, .bool false, .int .i64 0, .bool false, .bool false, .int .i64 0, .bool false, .bool false, .int .i64 0, .bool false, .bool false, .int .i64 0, .bool false, .bool false, .int .i64 0, .bool false, .bool false, .int .i64 0, .bool false, .bool false, .int .i64 0, .bool false, .bool false, .int .i64 0] 35)).alloc (.cells #[.int .i64 0, .int .u64 0, .int .i64 0, .int .u32 0, .slice none 0 0] 114)
  have hY := ((At.new (w.alloc (.cells X 35)) 117 #[.int .i64 x.kind, .int .i64 x.client, .int .i64 x.seq, .string x.name, .int .u64 (x.blob : Int), .int .i64 x.size, .int .u32 (x.sum : Int), .slice xA x.disks.length xc, .int .i64 x.pool, .int .i64 x.vol, .int .i64 x.at_]).alloc (.cells #[.slice none 0 0, .bool false, .bool false, .int .i64 0, .bool false, .bool false, .int .i64 0, .bool false, .bool false, .int .i64 0, .bool false, .bool false, .int .i64 0, .bool false, .bool false, .int .i64 0, .bool false, .bool false, .int .i64 0, .bool false, .bool false, .int .i64 0, .bool false, .bool false, .int .i64 0, .bool false, .bool false, .int .i64 0, .bool false, .bool false, .int .i64 0, .bool false, .bool false, .int .i64 0, .bool false, .bool false, .int .i64 0] 35)).alloc (.cells #[.int .i64 0, .int .u64 0, .int .i64 0, .int .u32 0, .slice none 0 0] 114)
  have hC := (At.new ((w.alloc (.cells X 35)).alloc (.cells #[.int .i64 x.kind, .int .i64 x.client, .int .i64 x.seq, .string x.name, .int .u64 (x.blob : Int), .int .i64 x.size, .int .u32 (x.sum : Int), .slice xA x.disks.length xc, .int .i64 x.pool, .int .i64 x.vol, .int .i64 x.at_] 117)) 35 #[.slice none 0 0, .bool false, .bool false, .int .i64 0, .bool false, .bool false, .int .i64 0, .bool false, .bool false, .int .i64 0, .bool false, .bool false, .int .i64 0, .bool false, .bool false, .int .i64 0, .bool false, .bool false, .int .i64 0, .bool false, .bool false, .int .i64 0, .bool false, .bool false, .int .i64 0, .bool false, .bool false, .int .i64 0, .bool false, .bool false, .int .i64 0, .bool false, .bool false, .int .i64 0, .bool false, .bool false, .int .i64 0]).alloc (.cells #[.int .i64 0, .int .u64 0, .int .i64 0, .int .u32 0, .slice none 0 0] 114)
  have hS := At.new (((w.alloc (.cells X 35)).alloc (.cells #[.int .i64 x.kind, .int .i64 x.client, .int .i64 x.seq, .string x.name, .int .u64 (x.blob : Int), .int .i64 x.size, .int .u32 (x.sum : Int), .slice xA x.disks.length xc, .int .i64 x.pool, .int .i64 x.vol, .int .i64 x.at_] 117)).alloc (.cells #[.slice none 0 0, .bool false, .bool false, .int .i64 0, .bool false, .bool false, .int .i64 0, .bool false, .bool false, .int .i64 0, .bool false, .bool false, .int .i64 0, .bool false, .bool false, .int .i64 0, .bool false, .bool false, .int .i64 0, .bool false, .bool false, .int .i64 0, .bool false, .bool false, .int .i64 0, .bool false, .bool false, .int .i64 0, .bool false, .bool false, .int .i64 0, .bool false, .bool false, .int .i64 0, .bool false, .bool false, .int .i64 0] 35)) 114 #[.int .i64 0, .int .u64 0, .int .i64 0, .int .u32 0, .slice none 0 0]
  have hE := ((((Ext.refl w).alloc (.cells X 35)).alloc (.cells #[.int .i64 x.kind, .int .i64 x.client, .int .i64 x.seq, .string x.name, .int .u64 (x.blob : Int), .int .i64 x.size, .int .u32 (x.sum : Int), .slice xA x.disks.length xc, .int .i64 x.pool, .int .i64 x.vol, .int .i64 x.at_] 117)).alloc (.cells #[.slice none 0 0, .bool false, .bool false, .int .i64 0, .bool false, .bool false, .int .i64 0, .bool false, .bool false, .int .i64 0, .bool false, .bool false, .int .i64 0, .bool false, .bool false, .int .i64 0, .bool false, .bool false, .int .i64 0, .bool false, .bool false, .int .i64 0, .bool false, .bool false, .int .i64 0, .bool false, .bool false, .int .i64 0, .bool false, .bool false, .int .i64 0, .bool false, .bool false, .int .i64 0, .bool false, .bool false, .int .i64 0] 35)).alloc (.cells #[.int .i64 0, .int .u64 0, .int .i64 0, .int .u32 0, .slice none 0 0] 114)
  rw [show (w.alloc (.cells X 35)).heap.size = w.heap.size + 1 by simp] at hY
  rw [show ((w.alloc (.cells X 35)).alloc (.cells #[.int .i64 x.kind, .int .i64 x.client, .int .i64 x.seq, .string x.name, .int .u64 (x.blob : Int), .int .i64 x.size, .int .u32 (x.sum : Int), .slice xA x.disks.length xc, .int .i64 x.pool, .int .i64 x.vol, .int .i64 x.at_] 117)).heap.size = w.heap.size + 1 + 1 by simp] at hC
  rw [show (((w.alloc (.cells X 35)).alloc (.cells #[.int .i64 x.kind, .int .i64 x.client, .int .i64 x.seq, .string x.name, .int .u64 (x.blob : Int), .int .i64 x.size, .int .u32 (x.sum : Int), .slice xA x.disks.length xc, .int .i64 x.pool, .int .i64 x.vol, .int .i64 x.at_] 117)).alloc (.cells #[.slice none 0 0, .bool false, .bool false, .int .i64 0, .bool false, .bool false, .int .i64 0, .bool false, .bool false, .int .i64 0, .bool false, .bool false, .int .i64 0, .bool false, .bool false, .int .i64 0, .bool false, .bool false, .int .i64 0, .bool false, .bool false, .int .i64 0, .bool false, .bool false, .int .i64 0, .bool false, .bool false, .int .i64 0, .bool false, .bool false, .int .i64 0, .bool false, .bool false, .int .i64 0, .bool false, .bool false, .int .i64 0] 35)).heap.size = w.heap.size + 1 + 1 + 1 by simp] at hS
  go_upto_region 1 with fail
  obtain ⟨xb, hxb⟩ : ∃ xb, w.heap.size = xb := ⟨_, rfl⟩
  rw [hxb] at hB hY hC hS ⊢
  generalize World.alloc _ _ = W at hB hY hC hS hE ⊢
  have HXB := Lib.hid (show w.heap.size ≤ xb by omega)
  clear hxb
  have HZ : Hid ((#[.slice none 0 0, .bool false, .bool false, .int .i64 0, .bool false, .bool false, .int .i64 0, .bool false, .bool false, .int .i64 0, .bool false, .bool false, .int .i64 0, .bool false, .bool false, .int .i64 0, .bool false, .bool false, .int .i64 0, .bool false, .bool false, .int .i64 0, .bool false, .bool false, .int .i64 0, .bool false, .bool false, .int .i64 0, .bool false, .bool false, .int .i64 0, .bool false, .bool false, .int .i64 0, .bool false, .bool false, .int .i64 0] : Array Value).size = 37) := Lib.hid rfl
  generalize (#[.slice none 0 0, .bool false, .bool false, .int .i64 0, .bool false, .bool false, .int .i64 0, .bool false, .bool false, .int .i64 0, .bool false, .bool false, .int .i64 0, .bool false, .bool false, .int .i64 0, .bool false, .bool false, .int .i64 0, .bool false, .bool false, .int .i64 0, .bool false, .bool false, .int .i64 0, .bool false, .bool false, .int .i64 0, .bool false, .bool false, .int .i64 0, .bool false, .bool false, .int .i64 0, .bool false, .bool false, .int .i64 0] : Array Value) = ZC at hC HZ
  have lS := hS.lt
  have lC := hC.lt
  have lY := hY.lt
  have lB := hB.lt
  have y0 := hY.cell 0
  simp at y0
  have HGD : Hid (x.good = true) := Lib.hid HK.out.1
  clear y0
  have HG := Lib.hid (rgood_any W x (.slice xA x.disks.length xc) (own_sl (own_keep HXO.out hE (fun _ _ hh => hh))) hd hnm)
  rw [HGD.out] at HG
  have HRY := Lib.hid hY.range
  go_wp2_with (refine wpList_load_mid rfl 117 _ rfl (xb + 1) 0 rfl _ _ HRY.out Tryz.underlying117 rfl cmd_infoR ?_)
  refine HG.out.mono ?_
  rintro e w1 ⟨rfl, hE1⟩
  have hB := hB.ext hE1
  have hY := hY.ext hE1
  have hC := hC.ext hE1
  have hS := hS.ext hE1
  have hE := hE.trans hE1
  have lS := hS.lt
  have lC := hC.lt
  have lY := hY.lt
  have lB := hB.lt
  clear HG HRY
  have y0 := hY.cell 0
  have y9 := hY.cell 9
  simp at y0 y9
  rw [HK.out.2.1] at y0
  rw [HK.out.2.2.1] at y9
  have hj12 := HK.out.2.2.2.1
  have HYV := Lib.hid (HVOL.out j y HK.out.2.2.2.2)
  have x0 := hB.cell (1 + j * 3)
  have x1 := hB.cell (1 + j * 3 + 1)
  have x2 := hB.cell (1 + j * 3 + 2)
  rw [HYV.out.1] at x0
  rw [HYV.out.2.1] at x1
  rw [HYV.out.2.2] at x2
  have hV := At.new w1 32 #[.bool y.closed, .bool y.erase, .int .i64 y.gen]
  have hEV := (Ext.refl w1).alloc (.cells #[.bool y.closed, .bool y.erase, .int .i64 y.gen] 32)
  go_upto_region 6 with fail
  clear x0 x1 x2
  have HVB := Lib.hid (show w.heap.size ≤ w1.heap.size from hE.size)
  generalize w1.heap.size = vb at hV HVB ⊢
  generalize w1.alloc (.cells #[.bool y.closed, .bool y.erase, .int .i64 y.gen] 32) = W2 at hV hEV ⊢
  have hB := hB.ext hEV
  have hY := hY.ext hEV
  have hC := hC.ext hEV
  have hS := hS.ext hEV
  have hE := hE.trans hEV
  have lS := hS.lt
  have lC := hC.lt
  have lY := hY.lt
  have lB := hB.lt
  have y0 := hY.cell 0
  simp at y0
  rw [HK.out.2.1] at y0
  have v0 := hV.cell 0
  have vf0 := hV.frozen 0
  have v1 := hV.cell 1
  have vf1 := hV.frozen 1
  simp at v0 v1
  have HAP := Lib.hid (show P.app x = rs1 (P.volume x) from by unfold Pm.app; rw [if_neg (by rw [HK.out.1]; decide), if_neg (by rw [HK.out.2.1]; decide), if_neg (by rw [HK.out.2.1]; decide), if_neg (by rw [HK.out.2.1]; decide), if_pos (by rw [HK.out.2.1]; decide)])
  have HPV : Hid (P.vol x.vol.toNat = y) := Lib.hid (by unfold Pm.vol; rw [HK.out.2.2.1, Int.toNat_natCast, List.getD_eq_getElem?_getD, HK.out.2.2.2.2]; rfl)
  rcases Bool.eq_false_or_eq_true y.erase with her | her
  rotate_left
  · rw [her] at v1
    have HER := Lib.hid her
    have hTO := two_out (X := X) (R := #[.int .i64 16, .int .u64 0, .int .i64 0, .int .u32 0, .slice none 0 0]) hC hS (by rw [HZ.out, H37.out]) rfl H37.out rfl (by omega)
    have HTO := Lib.hid hTO
    have HRG := Lib.hid hB.range
    have HEF := Lib.hid (hTO.ext w hE (by have := HXB.out; omega) (by have := HXB.out; omega))
    clear hB hY hC hS hE hTO
    go_wp2_with (first | (refine wpList_load_mid rfl 35 _ rfl xb 0 rfl _ _ HRG.out Tryz.underlying35 rfl HI1.out ?_) | (refine wpList_store_mid rfl 35 _ _ rfl (xb + 1 + 1) 0 X rfl rfl HTO.out.t1 HI2.out HONE.out ?_) | (refine wpList_store_mid rfl 114 _ _ rfl (xb + 1 + 1 + 1) 0 #[.int .i64 16, .int .u64 0, .int .i64 0, .int .u32 0, .slice none 0 0] rfl rfl HTO.out.t2 res_info (by simp [Value.oneCell']) ?_))
    refine bodyPost_ret (v := .tuple #[.agg X, .agg #[.int .i64 16, .int .u64 0, .int .i64 0, .int .u32 0, .slice none 0 0]]) (results_two Tryz.results49 _ rfl rfl HTO.out.l1 HTO.out.l2) rfl ?_
    rw [show P.app x = (P, Rs.er 16) from by rw [HAP.out]; unfold Pm.volume rs1; rw [if_neg (by rw [HK.out.2.1]; decide), if_neg (by rw [HK.out.2.1]; decide), HPV.out, if_neg (by rw [HER.out]; decide)]]
    exact ⟨.agg X, .slice none 0 0, rfl, HRF.out.ext HEF.out, own_nil _ _ _, HEF.out⟩
  · rw [her] at v1
    have HER := Lib.hid her
    clear her
    have v2 := hV.cell 2
    simp at v2
    have hgw : IntKind.i64.wrap (y.gen + 1) = y.gen + 1 := IntWalk.i64_in _ (by have := HI.out.gen y (List.mem_of_getElem? HK.out.2.2.2.2); omega)
    have HTV := Lib.hid hV.there
    go_upto_region 19 with (refine wpList_store_mid rfl 32 _ _ rfl vb 0 #[.bool false, .bool false, .int .i64 (y.gen + 1)] rfl rfl HTV.out vl_infoR (by simp [Value.oneCell']) ?_)
    clear v0 vf0 v1 vf1 v2 y0 y9 hgw HTV
    have hne : xb ≠ vb := At.ne hB hV (by decide)
    have hne2 : xb + 1 + 1 ≠ vb := At.ne hC hV (by decide)
    have hne3 : xb + 1 + 1 + 1 ≠ vb := At.ne hS hV (by decide)
    have hne4 : xb + 1 ≠ vb := At.ne hY hV (by decide)
    have kV : At (W2.setCells vb 0 (#[.bool false, .bool false, .int .i64 (y.gen + 1)] : Array Value).toList) vb 32 #[.bool false, .bool false, .int .i64 (y.gen + 1)] := ((hV.set 0 (.bool false)).set 1 (.bool false)).set 2 (.int .i64 (y.gen + 1))
    have hch : Chg (· = vb) W2 (W2.setCells vb 0 (#[.bool false, .bool false, .int .i64 (y.gen + 1)] : Array Value).toList) := chg_setCells _ _
    have hE3 : Ext w (W2.setCells vb 0 (#[.bool false, .bool false, .int .i64 (y.gen + 1)] : Array Value).toList) := hE.chg_trans hch |>.mono (fun k hk e => by have := HVB.out; have e' : k = vb := e; omega)
    have kB := hB.chg hch hne
    have kC := hC.chg hch hne2
    have kS := hS.chg hch hne3
    have kY := hY.chg hch hne4
    clear hB hC hS hY hV hE hch hne hne2 hne3 hne4 lC lS lY lB
    generalize (W2.setCells vb 0 (#[.bool false, .bool false, .int .i64 (y.gen + 1)] : Array Value).toList) = W3 at kB kC kS kY kV hE3 ⊢
    have hB := kB
    have hC := kC
    have hS := kS
    have hY := kY
    have hV := kV
    have hE := hE3
    clear kB kC kS kY kV hE3
    have y0 := hY.cell 0
    have y9 := hY.cell 9
    simp at y0 y9
    rw [HK.out.2.1] at y0
    rw [HK.out.2.2.1] at y9
    have v0 := hV.cell 0
    have v1 := hV.cell 1
    have v2 := hV.cell 2
    simp at v0 v1 v2
    have HTX : Hid (W3.there xb (1 + j * 3) 3) := Lib.hid (fun i hi3 => by have h := hB.there (1 + j * 3 + i) (by rw [H37.out]; omega); simpa using h)
    have hB0 : At W3 xb 35 (rfArr (.slice A DV.length c) P.vols) := by have h := hB; rw [HX.out] at h; exact h
    have hB4 : At (W3.setCells xb (1 + j * 3) (#[.bool false, .bool false, .int .i64 (y.gen + 1)] : Array Value).toList) xb 35 (rfArr (.slice A DV.length c) (P.vols.set j ⟨false, false, y.gen + 1⟩)) := vol_store ⟨false, false, y.gen + 1⟩ hB0 HK.out.2.2.2.2
    have hch : Chg (· = xb) W3 (W3.setCells xb (1 + j * 3) (#[.bool false, .bool false, .int .i64 (y.gen + 1)] : Array Value).toList) := chg_setCells _ _
    have hC4 := hC.chg hch (by omega)
    have hS4 := hS.chg hch (by omega)
    have hE4 : Ext w (W3.setCells xb (1 + j * 3) (#[.bool false, .bool false, .int .i64 (y.gen + 1)] : Array Value).toList) := hE.chg_trans hch |>.mono (fun k hk e => by have := HXB.out; have e' : k = xb := e; omega)
    have hVL : (P.vols.set j ⟨false, false, y.gen + 1⟩).length = 12 := by rw [List.length_set]; exact HI.out.vlen
    have h37' := rfArr_size (.slice A DV.length c) hVL
    have hone' := rfArr_one A DV.length c (P.vols.set j ⟨false, false, y.gen + 1⟩)
    have hrf : RfIn (W3.setCells xb (1 + j * 3) (#[.bool false, .bool false, .int .i64 (y.gen + 1)] : Array Value).toList) (.agg (rfArr (.slice A DV.length c) (P.vols.set j ⟨false, false, y.gen + 1⟩))) (P.setVol j ⟨false, false, y.gen + 1⟩) := ⟨_, DV, rfl, HDV.out, HR.out.ext hE4⟩
    generalize rfArr (.slice A DV.length c) (P.vols.set j ⟨false, false, y.gen + 1⟩) = X2 at hB4 h37' hone' hrf
    have hTO := two_out (X := X2) (R := #[.int .i64 0, .int .u64 0, .int .i64 0, .int .u32 0, .slice none 0 0]) hC4 hS4 (by rw [HZ.out, h37']) rfl h37' rfl (by omega)
    have HTO := Lib.hid hTO
    have hroC : Chg (fun k => k = xb + 1 + 1 ∨ k = xb + 1 + 1 + 1) (W3.setCells xb (1 + j * 3) (#[.bool false, .bool false, .int .i64 (y.gen + 1)] : Array Value).toList) (((W3.setCells xb (1 + j * 3) (#[.bool false, .bool false, .int .i64 (y.gen + 1)] : Array Value).toList).setCells (xb + 1 + 1) 0 X2.toList).setCells (xb + 1 + 1 + 1) 0 (#[.int .i64 0, .int .u64 0, .int .i64 0, .int .u32 0, .slice none 0 0] : Array Value).toList) := Chg.setCells (Chg.setCells (Ext.refl (W3.setCells xb (1 + j * 3) (#[.bool false, .bool false, .int .i64 (y.gen + 1)] : Array Value).toList)).chg (.inl rfl) _ _) (.inr rfl) _ _
    have HRO := Lib.hid (RfIn.two hrf ⟨_, hC4⟩ ⟨_, hS4⟩ hroC)
    have HEF := Lib.hid (hTO.ext w hE4 (by have := HXB.out; omega) (by have := HXB.out; omega))
    have HRX := Lib.hid hB4.range
    clear hB hY hC hS hE hV hTO hrf hroC hB0 hB4 hC4 hS4 hE4 hch hVL
    go_upto_region 21 with (refine wpList_store_mid rfl 32 _ _ rfl xb (1 + j * 3) #[.bool false, .bool false, .int .i64 (y.gen + 1)] rfl rfl HTX.out vl_infoR (by simp [Value.oneCell']) ?_)
    clear y0 y9 v0 v1 v2 HTX
    generalize (W3.setCells xb (1 + j * 3) (#[.bool false, .bool false, .int .i64 (y.gen + 1)] : Array Value).toList) = W4 at HTO HRO HEF HRX ⊢
    go_wp2_with (first | (refine wpList_load_mid rfl 35 _ rfl xb 0 rfl _ _ HRX.out Tryz.underlying35 rfl (by rw [Array.length_toList, h37']; exact rf_cinfo) ?_) | (refine wpList_store_mid rfl 35 _ _ rfl (xb + 1 + 1) 0 X2 rfl rfl HTO.out.t1 (by rw [h37']; exact rf_cinfo) hone' ?_) | (refine wpList_store_mid rfl 114 _ _ rfl (xb + 1 + 1 + 1) 0 #[.int .i64 0, .int .u64 0, .int .i64 0, .int .u32 0, .slice none 0 0] rfl rfl HTO.out.t2 res_info (by simp [Value.oneCell']) ?_))
    refine bodyPost_ret (v := .tuple #[.agg X2, .agg #[.int .i64 0, .int .u64 0, .int .i64 0, .int .u32 0, .slice none 0 0]]) (results_two Tryz.results49 _ rfl rfl HTO.out.l1 HTO.out.l2) rfl ?_
    rw [show P.app x = (P.setVol j ⟨false, false, y.gen + 1⟩, Rs.er 0) from by rw [HAP.out]; unfold Pm.volume rs1; rw [if_neg (by rw [HK.out.2.1]; decide), if_neg (by rw [HK.out.2.1]; decide), HPV.out, if_pos HER.out, HK.out.2.2.1, Int.toNat_natCast]]
    exact ⟨.agg X2, .slice none 0 0, rfl, HRO.out, own_nil _ _ _, HEF.out⟩
end Go.Proofs.YtiojjokfeknhcaaGreat
namespace Go.Proofs.YtiojjokfeknhcaaGreat
open Go.RowKit Go.Sort
theorem good_pool {x : Cmd} (h : x.good = true) : x.pool = 0 ∨ x.pool = 1 := by
  have := (Cmd.good_iff.1 h).2.2.2.2.2.2.2.1
  omega
theorem rapply_b (w : World) (v : Value) (P : Pm) (n : Nat) (h : RfIn w v P) (hi : PInv n P) (hn : n ≤ 1000000) (x : Cmd) (dx : Value) (hx : w.ownsRow 0 3 1 dx x.disks.length (x.disks.map (Value.int .i64))) (hd : x.disks.length ≤ 17592186043904) (hnm : x.name.size ≤ 9223372036854775807) (hw : x.Wf) (j : Nat) (y : Vl) (hk : x.good = true ∧ ((6 ≤ x.kind ∧ x.kind ≤ 10) ∨ x.kind = 14) ∧ x.vol = (j : Int) ∧ j < 12 ∧ P.vols[j]? = some y) :
    Calls Tryz.prog 49 #[v, cmdVal x dx] w (RcOut w (P.app x)) := by
  obtain ⟨lv, DV, rfl, hDV, hR⟩ := h
  have hlen : DV.length = P.L.length := by rw [← hDV, List.length_map]
  obtain ⟨A, c, rfl⟩ := own_slc hR.own
  obtain ⟨xA, xc, rfl⟩ := own_slc hx
  have HRF : Hid (RfIn w (.agg (rfArr (.slice A DV.length c) P.vols)) P) := Lib.hid ⟨_, DV, rfl, hDV, hR⟩
  have HX : Hid (rfArr (.slice A DV.length c) P.vols = (.slice A DV.length c :: (P.vols.map vlRow).flatten).toArray) := Lib.hid rfl
  have h37 := rfArr_size (.slice A DV.length c) hi.vlen
  have hone := rfArr_one A DV.length c P.vols
  have HVOL : Hid (∀ v y, P.vols[v]? = some y → (rfArr (.slice A DV.length c) P.vols)[1 + v * 3]? = some (.bool y.closed) ∧ (rfArr (.slice A DV.length c) P.vols)[1 + v * 3 + 1]? = some (.bool y.erase) ∧ (rfArr (.slice A DV.length c) P.vols)[1 + v * 3 + 2]? = some (.int .i64 y.gen)) := Lib.hid (fun v y h => rf_vol h)
  generalize hX : rfArr (.slice A DV.length c) P.vols = X at HX HRF HVOL h37 hone ⊢
  clear hX
  have H37 := Lib.hid h37
  have HONE := Lib.hid hone
  have HI1 : Hid ((Tryz.prog.info? 35).map (·.size) = some X.toList.length) := Lib.hid (by rw [Array.length_toList, h37]; exact rf_cinfo)
  have HI2 : Hid ((Tryz.prog.info? 35).map (·.size) = some X.size) := Lib.hid (by rw [h37]; exact rf_cinfo)
  have hX0 : X[0]? = some (.slice A DV.length c) := by rw [HX.out]; rfl
  have HX0 := Lib.hid hX0
  have HDV := Lib.hid hDV
  have HR := Lib.hid hR
  have HI := Lib.hid hi
  have HXO := Lib.hid hx
  have HK := Lib.hid hk
  clear hDV hlen hR hi hx hk hX0 h37 hone
  unfold cmdVal
  go_enter Tryz.func49, Tryz.ntmps49
  have hB := (((At.new w 35 X).alloc (.cells #[.int .i64 x.kind, .int .i64 x.client, .int .i64 x.seq, .string x.name, .int .u64 (x.blob : Int), .int .i64 x.size, .int .u32 (x.sum : Int), .slice xA x.disks.length xc, .int .i64 x.pool, .int .i64 x.vol, .int .i64 x.at_] 117)).alloc (.cells #[.slice none 0 0, .bool false, .bool false, .int .i64 0, .bool false, .bool false, .int .i64 0, .bool false, .bool false, .int .i64 0, .bool false, .bool false, .int .i64 0, .bool false, .bool false, .int .i64 0, .bool false, .bool false, .int .i64 0, .bool false, .bool false, .int .i64 0, .bool false, .bool false, .int .i64 0, .bool false, .bool false, .int .i64 0, .bool false, .bool false, .int .i64 0, .bool false, .bool false, .int .i64 0, .bool false, .bool false, .int .i64 0] 35)).alloc (.cells #[.int .i64 0, .int .u64 0, .int .i64 0, .int .u32 0, .slice none 0 0] 114)
  have hY := ((At.new (w.alloc (.cells X 35)) 117 #[.int .i64 x.kind, .int .i64 x.client, .int .i64 x.seq, .string x.name, .int .u64 (x.blob : Int), .int .i64 x.size, .int .u32 (x.sum : Int), .slice xA x.disks.length xc, .int .i64 x.pool, .int .i64 x.vol, .int .i64 x.at_]).alloc (.cells #[.slice none 0 0, .bool false, .bool false, .int .i64 0, .bool false, .bool false, .int .i64 0, .bool false, .bool false, .int .i64 0, .bool false, .bool false, .int .i64 0, .bool false, .bool false, .int .i64 0, .bool false, .bool false, .int .i64 0, .bool false, .bool false, .int .i64 0, .bool false, .bool false, .int .i64 0, .bool false, .bool false, .int .i64 0, .bool false, .bool false, .int .i64 0, .bool false, .bool false, .int .i64 0, .bool false, .bool false, .int .i64 0] 35)).alloc (.cells #[.int .i64 0, .int .u64 0, .int .i64 0, .int .u32 0, .slice none 0 0] 114)
  have hC := (At.new ((w.alloc (.cells X 35)).alloc (.cells #[.int .i64 x.kind, .int .i64 x.client, .int .i64 x.seq, .string x.name, .int .u64 (x.blob : Int), .int .i64 x.size, .int .u32 (x.sum : Int), .slice xA x.disks.length xc, .int .i64 x.pool, .int .i64 x.vol, .int .i64 x.at_] 117)) 35 #[.slice none 0 0, .bool false, .bool false, .int .i64 0, .bool false, .bool false, .int .i64 0, .bool false, .bool false, .int .i64 0, .bool false, .bool false, .int .i64 0, .bool false, .bool false, .int .i64 0, .bool false, .bool false, .int .i64 0, .bool false, .bool false, .int .i64 0, .bool false, .bool false, .int .i64 0, .bool false, .bool false, .int .i64 0, .bool false, .bool false, .int .i64 0, .bool false, .bool false, .int .i64 0, .bool false, .bool false, .int .i64 0]).alloc (.cells #[.int .i64 0, .int .u64 0, .int .i64 0, .int .u32 0, .slice none 0 0] 114)
  have hS := At.new (((w.alloc (.cells X 35)).alloc (.cells #[.int .i64 x.kind, .int .i64 x.client, .int .i64 x.seq, .string x.name, .int .u64 (x.blob : Int), .int .i64 x.size, .int .u32 (x.sum : Int), .slice xA x.disks.length xc, .int .i64 x.pool, .int .i64 x.vol, .int .i64 x.at_] 117)).alloc (.cells #[.slice none 0 0, .bool false, .bool false, .int .i64 0, .bool false, .bool false, .int .i64 0, .bool false, .bool false, .int .i64 0, .bool false, .bool false, .int .i64 0, .bool false, .bool false, .int .i64 0, .bool false, .bool false, .int .i64 0, .bool false, .bool false, .int .i64 0, .bool false, .bool false, .int .i64 0, .bool false, .bool false, .int .i64 0, .bool false, .bool false, .int .i64 0, .bool false, .bool false, .int .i64 0, .bool false, .bool false, .int .i64 0] 35)) 114 #[.int .i64 0, .int .u64 0, .int .i64 0, .int .u32 0, .slice none 0 0]
  have hE := ((((Ext.refl w).alloc (.cells X 35)).alloc (.cells #[.int .i64 x.kind, .int .i64 x.client, .int .i64 x.seq, .string x.name, .int .u64 (x.blob : Int), .int .i64 x.size, .int .u32 (x.sum : Int), .slice xA x.disks.length xc, .int .i64 x.pool, .int .i64 x.vol, .int .i64 x.at_] 117)).alloc (.cells #[.slice none 0 0, .bool false, .bool false, .int .i64 0, .bool false, .bool false, .int .i64 0, .bool false, .bool false, .int .i64 0, .bool false, .bool false, .int .i64 0, .bool false, .bool false, .int .i64 0, .bool false, .bool false, .int .i64 0, .bool false, .bool false, .int .i64 0, .bool false, .bool false, .int .i64 0, .bool false, .bool false, .int .i64 0, .bool false, .bool false, .int .i64 0, .bool false, .bool false, .int .i64 0, .bool false, .bool false, .int .i64 0] 35)).alloc (.cells #[.int .i64 0, .int .u64 0, .int .i64 0, .int .u32 0, .slice none 0 0] 114)
  rw [show (w.alloc (.cells X 35)).heap.size = w.heap.size + 1 by simp] at hY
  rw [show ((w.alloc (.cells X 35)).alloc (.cells #[.int .i64 x.kind, .int .i64 x.client, .int .i64 x.seq, .string x.name, .int .u64 (x.blob : Int), .int .i64 x.size, .int .u32 (x.sum : Int), .slice xA x.disks.length xc, .int .i64 x.pool, .int .i64 x.vol, .int .i64 x.at_] 117)).heap.size = w.heap.size + 1 + 1 by simp] at hC
  rw [show (((w.alloc (.cells X 35)).alloc (.cells #[.int .i64 x.kind, .int .i64 x.client, .int .i64 x.seq, .string x.name, .int .u64 (x.blob : Int), .int .i64 x.size, .int .u32 (x.sum : Int), .slice xA x.disks.length xc, .int .i64 x.pool, .int .i64 x.vol, .int .i64 x.at_] 117)).alloc (.cells #[.slice none 0 0, .bool false, .bool false, .int .i64 0, .bool false, .bool false, .int .i64 0, .bool false, .bool false, .int .i64 0, .bool false, .bool false, .int .i64 0, .bool false, .bool false, .int .i64 0, .bool false, .bool false, .int .i64 0, .bool false, .bool false, .int .i64 0, .bool false, .bool false, .int .i64 0, .bool false, .bool false, .int .i64 0, .bool false, .bool false, .int .i64 0, .bool false, .bool false, .int .i64 0, .bool false, .bool false, .int .i64 0] 35)).heap.size = w.heap.size + 1 + 1 + 1 by simp] at hS
  go_upto_region 1 with fail
  obtain ⟨xb, hxb⟩ : ∃ xb, w.heap.size = xb := ⟨_, rfl⟩
  rw [hxb] at hB hY hC hS ⊢
  generalize World.alloc _ _ = W at hB hY hC hS hE ⊢
  have HXB := Lib.hid (show w.heap.size ≤ xb by omega)
  clear hxb
  have HZ : Hid ((#[.slice none 0 0, .bool false, .bool false, .int .i64 0, .bool false, .bool false, .int .i64 0, .bool false, .bool false, .int .i64 0, .bool false, .bool false, .int .i64 0, .bool false, .bool false, .int .i64 0, .bool false, .bool false, .int .i64 0, .bool false, .bool false, .int .i64 0, .bool false, .bool false, .int .i64 0, .bool false, .bool false, .int .i64 0, .bool false, .bool false, .int .i64 0, .bool false, .bool false, .int .i64 0, .bool false, .bool false, .int .i64 0] : Array Value).size = 37) := Lib.hid rfl
  generalize (#[.slice none 0 0, .bool false, .bool false, .int .i64 0, .bool false, .bool false, .int .i64 0, .bool false, .bool false, .int .i64 0, .bool false, .bool false, .int .i64 0, .bool false, .bool false, .int .i64 0, .bool false, .bool false, .int .i64 0, .bool false, .bool false, .int .i64 0, .bool false, .bool false, .int .i64 0, .bool false, .bool false, .int .i64 0, .bool false, .bool false, .int .i64 0, .bool false, .bool false, .int .i64 0, .bool false, .bool false, .int .i64 0] : Array Value) = ZC at hC HZ
  have lS := hS.lt
  have lC := hC.lt
  have lY := hY.lt
  have lB := hB.lt
  have y0 := hY.cell 0
  simp at y0
  have HGD : Hid (x.good = true) := Lib.hid HK.out.1
  clear y0
  have HG := Lib.hid (rgood_any W x (.slice xA x.disks.length xc) (own_sl (own_keep HXO.out hE (fun _ _ hh => hh))) hd hnm)
  rw [HGD.out] at HG
  have HRY := Lib.hid hY.range
  go_wp2_with (refine wpList_load_mid rfl 117 _ rfl (xb + 1) 0 rfl _ _ HRY.out Tryz.underlying117 rfl cmd_infoR ?_)
  refine HG.out.mono ?_
  rintro e w1 ⟨rfl, hE1⟩
  have hB := hB.ext hE1
  have hY := hY.ext hE1
  have hC := hC.ext hE1
  have hS := hS.ext hE1
  have hE := hE.trans hE1
  have lS := hS.lt
  have lC := hC.lt
  have lY := hY.lt
  have lB := hB.lt
  clear HG HRY
  have y0 := hY.cell 0
  have y9 := hY.cell 9
  simp at y0 y9
  rw [HK.out.2.2.1] at y9
  have HKD : Hid (6 ≤ x.kind ∧ (x.kind ≤ 10 ∨ x.kind = 14)) := Lib.hid (by have := HK.out.2.1; omega)
  have g6 : decide (x.kind < 6) = false := decide_eq_false (by have := HKD.out; omega)
  have g11 : (x.kind == 11) = false := by rw [beq_eq_false_iff_ne]; have := HKD.out; omega
  have g12 : (x.kind == 12) = false := by rw [beq_eq_false_iff_ne]; have := HKD.out; omega
  have g13 : (x.kind == 13) = false := by rw [beq_eq_false_iff_ne]; have := HKD.out; omega
  have hj12 := HK.out.2.2.2.1
  have HPV : Hid (P.vol x.vol.toNat = y) := Lib.hid (by unfold Pm.vol; rw [HK.out.2.2.1, Int.toNat_natCast, List.getD_eq_getElem?_getD, HK.out.2.2.2.2]; rfl)
  have HYV := Lib.hid (HVOL.out j y HK.out.2.2.2.2)
  have x0 := hB.cell (1 + j * 3)
  have x1 := hB.cell (1 + j * 3 + 1)
  have x2 := hB.cell (1 + j * 3 + 2)
  rw [HYV.out.1] at x0
  rw [HYV.out.2.1] at x1
  rw [HYV.out.2.2] at x2
  have hEV := (Ext.refl w1).alloc (.cells #[.bool y.closed, .bool y.erase, .int .i64 y.gen] 32)
  go_upto_region 6 with fail
  clear x0 x1 x2 y9
  generalize w1.alloc (.cells #[.bool y.closed, .bool y.erase, .int .i64 y.gen] 32) = W2 at hEV ⊢
  have hB := hB.ext hEV
  have hY := hY.ext hEV
  have hC := hC.ext hEV
  have hS := hS.ext hEV
  have hE := hE.trans hEV
  have lS := hS.lt
  have lC := hC.lt
  have lY := hY.lt
  have lB := hB.lt
  have y0 := hY.cell 0
  have y4 := hY.cell 4
  simp at y0 y4
  go_upto_region 19 with fail
  obtain ⟨wo, hwo⟩ : ∃ wo : World, wo = W2 := ⟨_, rfl⟩
  go_cut [69] from 62 to 69 (fun tv wx => tv = .bool false ∧ wx = wo)
  case first =>
    by_cases h14 : x.kind = 14
    · rw [h14] at y0
      go_wp2_with fail
      go_meet
      case rel => exact ⟨rfl, hwo.symm⟩
    · have g10 : decide (10 < x.kind) = false := decide_eq_false (by have := HKD.out; omega)
      go_wp2_with fail
      go_meet
      case rel => exact ⟨rfl, hwo.symm⟩
  obtain ⟨rfl, hwc⟩ := hcut
  subst hwc
  subst hwo
  have HFD := Lib.hid (rfind_any wc (.agg X) P (HRF.out.ext hE) x.blob (by have := HI.out.len; omega))
  have HRX := Lib.hid hB.range
  go_wp2_with (refine wpList_load_mid rfl 35 _ rfl xb 0 rfl _ _ HRX.out Tryz.underlying35 rfl HI1.out ?_)
  refine HFD.out.mono ?_
  rintro e w3 ⟨rfl, hE3⟩
  have hB := hB.ext hE3
  have hY := hY.ext hE3
  have hC := hC.ext hE3
  have hS := hS.ext hE3
  have hE := hE.trans hE3
  have lS := hS.lt
  have lC := hC.lt
  have lY := hY.lt
  have lB := hB.lt
  clear HFD HRX y0 y4
  rcases find_at (P := P) (id := x.blob) with ⟨hf, hfn⟩ | ⟨i, b, hib, hid, hf⟩
  · rw [hf]
    have HFN := Lib.hid hfn
    clear hf hfn
    have hTO := two_out (X := X) (R := #[.int .i64 5, .int .u64 0, .int .i64 0, .int .u32 0, .slice none 0 0]) hC hS (by rw [HZ.out, H37.out]) rfl H37.out rfl (by omega)
    have HTO := Lib.hid hTO
    have HRG := Lib.hid hB.range
    have HEF := Lib.hid (hTO.ext w hE (by have := HXB.out; omega) (by have := HXB.out; omega))
    clear hB hY hC hS hE hTO
    go_wp2_with (first | (refine wpList_load_mid rfl 35 _ rfl xb 0 rfl _ _ HRG.out Tryz.underlying35 rfl HI1.out ?_) | (refine wpList_store_mid rfl 35 _ _ rfl (xb + 1 + 1) 0 X rfl rfl HTO.out.t1 HI2.out HONE.out ?_) | (refine wpList_store_mid rfl 114 _ _ rfl (xb + 1 + 1 + 1) 0 #[.int .i64 5, .int .u64 0, .int .i64 0, .int .u32 0, .slice none 0 0] rfl rfl HTO.out.t2 res_info (by simp [Value.oneCell']) ?_))
    refine bodyPost_ret (v := .tuple #[.agg X, .agg #[.int .i64 5, .int .u64 0, .int .i64 0, .int .u32 0, .slice none 0 0]]) (results_two Tryz.results49 _ rfl rfl HTO.out.l1 HTO.out.l2) rfl ?_
    rw [show P.app x = (P, Rs.er 5) from by rw [app_byBlob HK.out.1 HKD.out.1 HKD.out.2]; unfold Pm.byBlob rs1; rw [HFN.out]]
    exact ⟨.agg X, .slice none 0 0, rfl, HRF.out.ext HEF.out, own_nil _ _ _, HEF.out⟩
  · rw [hf]
    obtain ⟨⟨b', dv⟩, hb⟩ : ∃ q, DV[i]? = some q := by
      have h1 : i < DV.length := by
        have h2 := (List.getElem?_eq_some_iff.1 hib).1
        rw [← HDV.out, List.length_map] at h2
        exact h2
      exact ⟨_, List.getElem?_eq_getElem h1⟩
    obtain rfl : b' = b := by
      rw [← HDV.out, List.getElem?_map, hb] at hib
      injection hib
    have hil : i < DV.length := (List.getElem?_eq_some_iff.1 hb).1
    obtain ⟨dA, dc, rfl⟩ : ∃ A c, dv = .slice A b'.disks.length c := own_slc (HR.out.dks _ (List.mem_of_getElem? hb))
    have hSl := HR.out.sln.ext hE
    obtain ⟨rb, ro, rfl⟩ := cmds_some hSl (fun e => by
      have h0 := List.map_eq_nil_iff.1 e
      rw [h0] at hb; simp at hb)
    have hbL := List.mem_of_getElem? hib
    have HFS : Hid (P.find x.blob = some b') := Lib.hid ((pfind_some HI.out.asc).2 ⟨hbL, hid⟩)
    have HBI := Lib.hid (HI.out.bl _ hbL)
    have HOD := Lib.hid (HR.out.dks _ (List.mem_of_getElem? hb))
    have hrw : ∀ w1, Ext w3 w1 → w1.rangeAt rb (ro + i * 13) (blCells b' (.slice dA b'.disks.length dc)).toList := fun w1 hc k u hk => sln_get (HR.out.sln.ext (hE.trans hc)) (by rw [List.getElem?_map, hb]; rfl) k u hk
    have hrx : ∀ w1, Ext w3 w1 → w1.rangeAt xb 0 X.toList := fun w1 hc => (hB.ext hc).range
    have hry : ∀ w1, Ext w3 w1 → w1.rangeAt (xb + 1) 0 (#[.int .i64 x.kind, .int .i64 x.client, .int .i64 x.seq, .string x.name, .int .u64 (x.blob : Int), .int .i64 x.size, .int .u32 (x.sum : Int), .slice xA x.disks.length xc, .int .i64 x.pool, .int .i64 x.vol, .int .i64 x.at_] : Array Value).toList := fun w1 hc => (hY.ext hc).range
    have hr0 : ∀ w1, Ext w3 w1 → w1.cell? ⟨xb, 0, none⟩ = some (.slice (some ⟨rb, ro, none⟩) DV.length c) := fun w1 hc => by rw [(hB.ext hc).cell 0]; exact HX0.out
    clear hb hib hbL hid hSl hf
    go_upto_region 25 with fail
    obtain ⟨r, hR⟩ : ∃ r, blobR y.closed b' x = r := ⟨_, rfl⟩
    have HBC : ∀ w1, Ext w3 w1 → Calls Tryz.prog 82 #[.agg X, .agg (blCells b' (.slice dA b'.disks.length dc)), cmdVal x (.slice xA x.disks.length xc)] w1 (RbOut w1 r) := fun w1 hc => by
      rw [← hR]
      exact rblob_any w1 X b' _ x _ y (own_keep HOD.out (hE.trans hc) (fun _ _ hh => hh)) (own_keep HXO.out (hE.trans hc) (fun _ _ hh => hh)) (Nat.le_trans (rises_len HBI.out.rises) (by decide)) hd (by have := HBI.out.pins; omega) j HK.out.2.2.1 HK.out.2.2.2.1 (HVOL.out j y HK.out.2.2.2.2).1 (good_pool HK.out.1) (by have := HKD.out; omega)
    refine wp_region_phi (Γ := Nat → Value) (sgφ [.val (.agg X), .val (.pointer (some ⟨xb, 0, none⟩)), .val (.slice (some ⟨rb, ro, none⟩) DV.length c), .val (.int .i64 (i : Int)), .val (.pointer (some ⟨rb, ro + i * 13, none⟩)), .val (.agg (blCells b' (.slice dA b'.disks.length dc))), .val (cmdVal x (.slice xA x.disks.length xc)), .g 0, .g 3, .g 2, .val (.bool r.2.1), .val (.int .i64 r.2.2), .g 1, .any, .val (.bool r.2.1), .val (.int .i64 r.2.2)])
      (GBl w3 r 7 8 9 12 13) (by kernel_rfl) (by kernel_rfl) (by kernel_rfl) (fun _ => undef) ?inv ?steps ?fin
    case inv => exact ⟨(Ext.refl w3).drew, fun hh => (by cases hh), fun hh => (by cases hh), fun hh => (by cases hh), fun hh => (by cases hh)⟩
    case steps =>
      show StepsTo _ _ _ _ _ _ 16
      refine ⟨⟨⟨⟨⟨⟨⟨⟨⟨⟨⟨⟨⟨⟨⟨⟨trivial, ?s0⟩, ?s1⟩, ?s2⟩, ?s3⟩, ?s4⟩, ?s5⟩, ?s6⟩, ?s7⟩, ?s8⟩, ?s9⟩, ?s10⟩, ?s11⟩, ?s12⟩, ?s13⟩, ?s14⟩, ?s15⟩
      case s0 =>
        refine sg_val (x := .agg X) rfl rfl rfl (GBl.keep (j := 0) (by decide) (by decide) (by decide) (by decide) (by decide)) fun γ L v a w1 st => ?_
        have e2 := st.far 2 (by kernel_rfl)
        simp at e2
        exact exec_load_mid rfl (b := xb) (off := 0) (by simp [Act.eval, e2]) (hrx w1 st.inv.ext) Tryz.underlying35 rfl HI1.out
      case s1 =>
        refine sg_val (x := .pointer (some ⟨xb, 0, none⟩)) rfl rfl rfl (GBl.keep (j := 1) (by decide) (by decide) (by decide) (by decide) (by decide)) fun γ L v a w1 st => ?_
        have e2 := st.far 2 (by kernel_rfl)
        simp at e2
        go_simp
      case s2 =>
        refine sg_val (x := .slice (some ⟨rb, ro, none⟩) DV.length c) rfl rfl rfl (GBl.keep (j := 2) (by decide) (by decide) (by decide) (by decide) (by decide)) fun γ L v a w1 st => ?_
        have e1 := st.val 1 87 rfl (by kernel_rfl)
        rw [show v 1 = _ from st.φ 1 (by kernel_rfl)] at e1
        simp at e1
        have q := hr0 w1 st.inv.ext
        go_simp
      case s3 =>
        refine sg_val (x := .int .i64 (i : Int)) rfl rfl rfl (GBl.keep (j := 3) (by decide) (by decide) (by decide) (by decide) (by decide)) fun γ L v a w1 st => ?_
        have e9 := st.far 9 (by kernel_rfl)
        simp at e9
        go_simp
      case s4 =>
        refine sg_val (x := .pointer (some ⟨rb, ro + i * 13, none⟩)) rfl rfl rfl (GBl.keep (j := 4) (by decide) (by decide) (by decide) (by decide) (by decide)) fun γ L v a w1 st => ?_
        have e2 := st.val 2 88 rfl (by kernel_rfl)
        rw [show v 2 = _ from st.φ 2 (by kernel_rfl)] at e2
        simp at e2
        have e3 := st.val 3 89 rfl (by kernel_rfl)
        rw [show v 3 = _ from st.φ 3 (by kernel_rfl)] at e3
        simp at e3
        go_simp
      case s5 =>
        refine sg_val (x := .agg (blCells b' (.slice dA b'.disks.length dc))) rfl rfl rfl (GBl.keep (j := 5) (by decide) (by decide) (by decide) (by decide) (by decide)) fun γ L v a w1 st => ?_
        have e4 := st.val 4 90 rfl (by kernel_rfl)
        rw [show v 4 = _ from st.φ 4 (by kernel_rfl)] at e4
        simp at e4
        exact exec_load_mid rfl (b := rb) (off := ro + i * 13) (by simp [Act.eval, e4]) (hrw w1 st.inv.ext) Tryz.underlying89 rfl blC_info
      case s6 =>
        refine sg_val (x := cmdVal x (.slice xA x.disks.length xc)) rfl rfl rfl (GBl.keep (j := 6) (by decide) (by decide) (by decide) (by decide) (by decide)) fun γ L v a w1 st => ?_
        have e3 := st.far 3 (by kernel_rfl)
        simp at e3
        exact exec_load_mid rfl (b := xb + 1) (off := 0) (by simp [Act.eval, e3]) (hry w1 st.inv.ext) Tryz.underlying117 rfl cmd_infoR
      case s7 =>
        refine sg_call (k := 0) (f := 82) rfl rfl rfl (by kernel_rfl) fun γ L v a w1 st => ?_
        have e0 := st.val 0 86 rfl (by kernel_rfl)
        rw [show v 0 = _ from st.φ 0 (by kernel_rfl)] at e0
        simp at e0
        have e5 := st.val 5 91 rfl (by kernel_rfl)
        rw [show v 5 = _ from st.φ 5 (by kernel_rfl)] at e5
        simp at e5
        have e6 := st.val 6 92 rfl (by kernel_rfl)
        rw [show v 6 = _ from st.φ 6 (by kernel_rfl)] at e6
        simp at e6
        have h8 : L 8 = false := by
          cases hq : L 8 with
          | false => rfl
          | true =>
            have q7 := st.down 8 7 hq (by kernel_rfl)
            have q99 := st.off; rw [q7] at q99; cases q99
        have h9 : L 9 = false := by
          cases hq : L 9 with
          | false => rfl
          | true =>
            have q8 := st.down 9 8 hq (by kernel_rfl)
            have q7 := st.down 8 7 q8 (by kernel_rfl)
            have q99 := st.off; rw [q7] at q99; cases q99
        have h13 : L 13 = false := by
          cases hq : L 13 with
          | false => rfl
          | true =>
            have q9 := st.down 13 9 hq (by kernel_rfl)
            have q8 := st.down 9 8 q9 (by kernel_rfl)
            have q7 := st.down 8 7 q8 (by kernel_rfl)
            have q99 := st.off; rw [q7] at q99; cases q99
        refine ⟨#[.agg X, .agg (blCells b' (.slice dA b'.disks.length dc)), cmdVal x (.slice xA x.disks.length xc)], by go_simp, ?_⟩
        refine (HBC w1 st.inv.ext).mono ?_
        rintro e w2 ⟨dv', rfl, hO, hE2⟩
        obtain ⟨A', c', rfl⟩ := own_slc hO
        exact ⟨_, rfl, GBl.called st.inv hE2 h8 h9 h13 (by decide) (by decide) (by decide) (by decide) hO⟩
      case s8 =>
        refine sg_new (k := 3) rfl rfl rfl (by kernel_rfl) fun γ L v a w1 st => ?_
        have e7 := st.val 7 93 rfl (by kernel_rfl)
        rw [show v 7 = _ from st.φ 7 (by kernel_rfl)] at e7
        simp at e7
        exact ⟨γ 0, w1, by go_simp, GBl.moved st.inv (by decide) (by decide) (by decide) (by decide)⟩
      case s9 =>
        refine sg_new (k := 2) rfl rfl rfl (by kernel_rfl) fun γ L v a w1 st => ?_
        have e8 := st.val 8 85 rfl (by kernel_rfl)
        rw [show v 8 = _ from st.φ 8 (by kernel_rfl)] at e8
        simp at e8
        obtain ⟨A', c', hγ, _⟩ := st.inv.call (st.down 8 7 (st.dep 8 (by kernel_rfl)) (by kernel_rfl))
        refine ⟨.agg (blArr (γ 0)), w1, ?_, GBl.got st.inv (by decide) (by decide) (by decide) (by decide)⟩
        rw [st.inv.mv (st.dep 8 (by kernel_rfl)), hγ] at e8
        rw [hγ]
        go_simp
        rfl
      case s10 =>
        refine sg_val (x := .bool r.2.1) rfl rfl rfl (GBl.keep (j := 10) (by decide) (by decide) (by decide) (by decide) (by decide)) fun γ L v a w1 st => ?_
        have e8 := st.val 8 85 rfl (by kernel_rfl)
        rw [show v 8 = _ from st.φ 8 (by kernel_rfl)] at e8
        simp at e8
        obtain ⟨A', c', hγ, _⟩ := st.inv.call (st.down 8 7 (st.dep 8 (by kernel_rfl)) (by kernel_rfl))
        rw [st.inv.mv (st.dep 8 (by kernel_rfl)), hγ] at e8
        go_simp
      case s11 =>
        refine sg_val (x := .int .i64 r.2.2) rfl rfl rfl (GBl.keep (j := 11) (by decide) (by decide) (by decide) (by decide) (by decide)) fun γ L v a w1 st => ?_
        have e8 := st.val 8 85 rfl (by kernel_rfl)
        rw [show v 8 = _ from st.φ 8 (by kernel_rfl)] at e8
        simp at e8
        obtain ⟨A', c', hγ, _⟩ := st.inv.call (st.down 8 7 (st.dep 8 (by kernel_rfl)) (by kernel_rfl))
        rw [st.inv.mv (st.dep 8 (by kernel_rfl)), hγ] at e8
        go_simp
      case s12 =>
        refine sg_new (k := 1) rfl rfl rfl (by kernel_rfl) fun γ L v a w1 st => ?_
        have h13 : L 13 = false := by
          cases hq : L 13 with
          | false => rfl
          | true =>
            have q12 := st.down 13 12 hq (by kernel_rfl)
            have q99 := st.off; rw [q12] at q99; cases q99
        exact ⟨.pointer (some ⟨w1.heap.size, 0, none⟩), w1.alloc (.cells #[.int .u64 0, .string ⟨#[]⟩, .int .i64 0, .int .u32 0, .slice none 0 0, .bool false, .int .i64 0, .int .i64 0, .bool false, .int .i64 0, .int .i64 0, .int .i64 0, .bool false] 89), by go_simp, GBl.made st.inv rfl h13 (by decide) (by decide) (by decide) (by decide)⟩
      case s13 =>
        refine sg_skip rfl rfl rfl fun γ L v a w1 st => ?_
        have hc9 := st.dep 9 (by kernel_rfl)
        have hc8 := st.down 9 8 hc9 (by kernel_rfl)
        have hc7 := st.down 8 7 hc8 (by kernel_rfl)
        have hc12 := st.dep 12 (by kernel_rfl)
        obtain ⟨A', c', hγ, _⟩ := st.inv.call hc7
        obtain ⟨g, g1, g2, ⟨Z, g3, g4⟩, _⟩ := st.inv.new hc12
        have e9 := st.val 9 94 rfl (by kernel_rfl)
        rw [show v 9 = _ from st.φ 9 (by kernel_rfl), st.inv.ex hc9] at e9
        simp at e9
        have e12 := st.val 12 10 rfl (by kernel_rfl)
        rw [show v 12 = _ from st.φ 12 (by kernel_rfl), g1] at e12
        simp at e12
        have hb13 : (blArr (γ 0)).size = 13 := by rw [hγ]; rfl
        refine ⟨_, exec_store_mid rfl (b := g) (off := 0) (cells := blArr (γ 0)) (by simp [Act.eval, e12]) (by simp [Act.eval, e9]) (by rw [hb13, ← g4]; exact g3.there) (by rw [hb13]; exact blC_info) (by rw [hγ]; exact blC_one _ _ _ _), ?_⟩
        exact GBl.stored st.inv hc7 hc12 (by decide) (by decide) g1
      case s14 =>
        refine sg_val (x := .bool r.2.1) rfl rfl rfl (GBl.keep (j := 14) (by decide) (by decide) (by decide) (by decide) (by decide)) fun γ L v a w1 st => ?_
        have e10 := st.val 10 95 rfl (by kernel_rfl)
        rw [show v 10 = _ from st.φ 10 (by kernel_rfl)] at e10
        simp at e10
        go_simp
      case s15 =>
        refine sg_val (x := .int .i64 r.2.2) rfl rfl rfl (GBl.keep (j := 15) (by decide) (by decide) (by decide) (by decide) (by decide)) fun γ L v a w1 st => ?_
        have e11 := st.val 11 96 rfl (by kernel_rfl)
        rw [show v 11 = _ from st.φ 11 (by kernel_rfl)] at e11
        simp at e11
        go_simp
    case fin =>
      intro γ L v wx hall hG hφ
      have h11 : v 14 = .bool r.2.1 := hφ 14 (by decide)
      have h12 : v 15 = .int .i64 r.2.2 := hφ 15 (by decide)
      have h10 : v 12 = γ 1 := hφ 12 (by decide)
      obtain ⟨A', c', hγ, hO⟩ := hG.call (hall 7 (by decide))
      obtain ⟨q, q1, q2, ⟨Z, q3, q4⟩, q5⟩ := hG.new (hall 12 (by decide))
      have hQ : At wx q 89 (blCells r.1 (.slice A' r.1.disks.length c')) := by
        have := At.of_range q3 (cs := blArr (γ 0)) (by rw [q4, hγ]; rfl) (q5 (hall 13 (by decide)))
        rw [hγ] at this
        exact this
      rw [q1] at h10
      have hEx := hG.ext
      have HAB := Lib.hid (byBlob_R HFS.out HPV.out)
      rw [hR] at HAB
      have HRO2 := Lib.hid hO
      clear q1 q5 q3 hγ hG hφ hall hrw hrx hry hr0 HBC hR hO
      have hB := hB.ext hEx
      have hY := hY.ext hEx
      have hC := hC.ext hEx
      have hS := hS.ext hEx
      have hE := hE.trans hEx
      have lS := hS.lt
      have lC := hC.lt
      have lY := hY.lt
      have lB := hB.lt
      change Exit.then _ _ _ (putAll _ v _ 16) wx
      simp only [putAll, dstOf, Act.put]
      simp only [List.getElem?_toArray, List.getElem?_cons_zero, List.getElem?_cons_succ, Option.bind_some, List.setIfInBounds_toArray, List.set_cons_zero, List.set_cons_succ]
      rw [h10, h11, h12]
      by_cases he : r.2.2 = 0
      · rw [he]
        have HAB2 : Hid (P.app x = rs1 (if r.2.1 = true then (P.set r.1, 0) else (P.drop r.1.id, 0))) := Lib.hid (by rw [app_byBlob HK.out.1 HKD.out.1 HKD.out.2, HAB.out, if_neg (by simp [he])])
        clear HAB he
        have q0 := hQ.cell 0
        simp [blCells] at q0
        have HRQ := Lib.hid hQ.range
        have HRX := Lib.hid hB.range
        rcases Bool.eq_false_or_eq_true r.2.1 with ht | ht
        · rw [ht]
          have HAP : Hid (P.app x = (P.set r.1, Rs.er 0)) := Lib.hid (by rw [HAB2.out, if_pos ht]; rfl)
          clear HAB2 ht
          have HST := Lib.hid (rset_any wx (.agg X) P (HRF.out.ext hE) r.1 (.slice A' r.1.disks.length c') HRO2.out HI.out.asc (by have := HI.out.len; omega) HI.out.vlen)
          go_wp2_with (first | (refine wpList_load_mid rfl 35 _ rfl xb 0 rfl _ _ HRX.out Tryz.underlying35 rfl HI1.out ?_) | (refine wpList_load_mid rfl 89 _ rfl q 0 rfl _ _ HRQ.out Tryz.underlying89 rfl blC_info ?_))
          refine HST.out.mono ?_
          rintro e w4 ⟨nv, rfl, hO, hE4⟩
          obtain ⟨lv2, DV2, rfl, hd2, hr2⟩ := hO
          obtain ⟨A2, c2, rfl⟩ := own_slc hr2.own
          have hC := hC.ext hE4
          have hS := hS.ext hE4
          have hE := hE.trans hE4
          have h37' := rfArr_size (.slice A2 DV2.length c2) (V := (P.set r.1).vols) HI.out.vlen
          have hone' := rfArr_one A2 DV2.length c2 (P.set r.1).vols
          have hrf : RfIn w4 (.agg (rfArr (.slice A2 DV2.length c2) (P.set r.1).vols)) (P.set r.1) := ⟨_, DV2, rfl, hd2, hr2⟩
          generalize rfArr (.slice A2 DV2.length c2) (P.set r.1).vols = X2 at h37' hone' hrf ⊢
          have hTO := two_out (X := X2) (R := #[.int .i64 0, .int .u64 0, .int .i64 0, .int .u32 0, .slice none 0 0]) hC hS (by rw [HZ.out, h37']) rfl h37' rfl (by omega)
          have HTO := Lib.hid hTO
          have hroC : Chg (fun k => k = xb + 1 + 1 ∨ k = xb + 1 + 1 + 1) w4 ((w4.setCells (xb + 1 + 1) 0 X2.toList).setCells (xb + 1 + 1 + 1) 0 (#[.int .i64 0, .int .u64 0, .int .i64 0, .int .u32 0, .slice none 0 0] : Array Value).toList) := Chg.setCells (Chg.setCells (Ext.refl w4).chg (.inl rfl) _ _) (.inr rfl) _ _
          have HRO := Lib.hid (RfIn.two hrf ⟨_, hC⟩ ⟨_, hS⟩ hroC)
          have HEF := Lib.hid (hTO.ext w hE (by have := HXB.out; omega) (by have := HXB.out; omega))
          clear hB hY hC hS hE hTO hr2 hd2 hrf hroC
          go_wp2_with (first | (refine wpList_store_mid rfl 35 _ _ rfl (xb + 1 + 1) 0 X2 rfl rfl HTO.out.t1 (by rw [h37']; exact rf_cinfo) hone' ?_) | (refine wpList_store_mid rfl 114 _ _ rfl (xb + 1 + 1 + 1) 0 #[.int .i64 0, .int .u64 0, .int .i64 0, .int .u32 0, .slice none 0 0] rfl rfl HTO.out.t2 res_info (by simp [Value.oneCell']) ?_))
          refine bodyPost_ret (v := .tuple #[.agg X2, .agg #[.int .i64 0, .int .u64 0, .int .i64 0, .int .u32 0, .slice none 0 0]]) (results_two Tryz.results49 _ rfl rfl HTO.out.l1 HTO.out.l2) rfl ?_
          rw [HAP.out]
          exact ⟨.agg X2, .slice none 0 0, rfl, HRO.out, own_nil _ _ _, HEF.out⟩
        · rw [ht]
          have HAP : Hid (P.app x = (P.drop r.1.id, Rs.er 0)) := Lib.hid (by rw [HAB2.out, if_neg (by rw [ht]; decide)]; rfl)
          clear HAB2 ht
          have HST := Lib.hid (rdrop_any wx (.agg X) P (HRF.out.ext hE) r.1.id (by have := HI.out.len; omega) HI.out.vlen)
          go_wp2_with (refine wpList_load_mid rfl 35 _ rfl xb 0 rfl _ _ HRX.out Tryz.underlying35 rfl HI1.out ?_)
          refine HST.out.mono ?_
          rintro e w4 ⟨nv, rfl, hO, hE4⟩
          obtain ⟨lv2, DV2, rfl, hd2, hr2⟩ := hO
          obtain ⟨A2, c2, rfl⟩ := own_slc hr2.own
          have hC := hC.ext hE4
          have hS := hS.ext hE4
          have hE := hE.trans hE4
          have h37' := rfArr_size (.slice A2 DV2.length c2) (V := (P.drop r.1.id).vols) HI.out.vlen
          have hone' := rfArr_one A2 DV2.length c2 (P.drop r.1.id).vols
          have hrf : RfIn w4 (.agg (rfArr (.slice A2 DV2.length c2) (P.drop r.1.id).vols)) (P.drop r.1.id) := ⟨_, DV2, rfl, hd2, hr2⟩
          generalize rfArr (.slice A2 DV2.length c2) (P.drop r.1.id).vols = X2 at h37' hone' hrf ⊢
          have hTO := two_out (X := X2) (R := #[.int .i64 0, .int .u64 0, .int .i64 0, .int .u32 0, .slice none 0 0]) hC hS (by rw [HZ.out, h37']) rfl h37' rfl (by omega)
          have HTO := Lib.hid hTO
          have hroC : Chg (fun k => k = xb + 1 + 1 ∨ k = xb + 1 + 1 + 1) w4 ((w4.setCells (xb + 1 + 1) 0 X2.toList).setCells (xb + 1 + 1 + 1) 0 (#[.int .i64 0, .int .u64 0, .int .i64 0, .int .u32 0, .slice none 0 0] : Array Value).toList) := Chg.setCells (Chg.setCells (Ext.refl w4).chg (.inl rfl) _ _) (.inr rfl) _ _
          have HRO := Lib.hid (RfIn.two hrf ⟨_, hC⟩ ⟨_, hS⟩ hroC)
          have HEF := Lib.hid (hTO.ext w hE (by have := HXB.out; omega) (by have := HXB.out; omega))
          clear hB hY hC hS hE hTO hr2 hd2 hrf hroC
          go_wp2_with (first | (refine wpList_store_mid rfl 35 _ _ rfl (xb + 1 + 1) 0 X2 rfl rfl HTO.out.t1 (by rw [h37']; exact rf_cinfo) hone' ?_) | (refine wpList_store_mid rfl 114 _ _ rfl (xb + 1 + 1 + 1) 0 #[.int .i64 0, .int .u64 0, .int .i64 0, .int .u32 0, .slice none 0 0] rfl rfl HTO.out.t2 res_info (by simp [Value.oneCell']) ?_))
          refine bodyPost_ret (v := .tuple #[.agg X2, .agg #[.int .i64 0, .int .u64 0, .int .i64 0, .int .u32 0, .slice none 0 0]]) (results_two Tryz.results49 _ rfl rfl HTO.out.l1 HTO.out.l2) rfl ?_
          rw [HAP.out]
          exact ⟨.agg X2, .slice none 0 0, rfl, HRO.out, own_nil _ _ _, HEF.out⟩
      · have hne : (r.2.2 == 0) = false := by rw [beq_eq_false_iff_ne]; exact he
        have HAP : Hid (P.app x = (P, Rs.er r.2.2)) := Lib.hid (by rw [app_byBlob HK.out.1 HKD.out.1 HKD.out.2, HAB.out, if_pos he]; rfl)
        clear HAB
        have hTO := two_out (X := X) (R := #[.int .i64 r.2.2, .int .u64 0, .int .i64 0, .int .u32 0, .slice none 0 0]) hC hS (by rw [HZ.out, H37.out]) rfl H37.out rfl (by omega)
        have HTO := Lib.hid hTO
        have HRG := Lib.hid hB.range
        have HEF := Lib.hid (hTO.ext w hE (by have := HXB.out; omega) (by have := HXB.out; omega))
        clear hB hY hC hS hE hTO
        go_wp2_with (first | (refine wpList_load_mid rfl 35 _ rfl xb 0 rfl _ _ HRG.out Tryz.underlying35 rfl HI1.out ?_) | (refine wpList_store_mid rfl 35 _ _ rfl (xb + 1 + 1) 0 X rfl rfl HTO.out.t1 HI2.out HONE.out ?_) | (refine wpList_store_mid rfl 114 _ _ rfl (xb + 1 + 1 + 1) 0 #[.int .i64 r.2.2, .int .u64 0, .int .i64 0, .int .u32 0, .slice none 0 0] rfl rfl HTO.out.t2 res_info (by simp [Value.oneCell']) ?_))
        refine bodyPost_ret (v := .tuple #[.agg X, .agg #[.int .i64 r.2.2, .int .u64 0, .int .i64 0, .int .u32 0, .slice none 0 0]]) (results_two Tryz.results49 _ rfl rfl HTO.out.l1 HTO.out.l2) rfl ?_
        rw [show P.app x = (P, Rs.er r.2.2) from HAP.out]
        exact ⟨.agg X, .slice none 0 0, rfl, HRF.out.ext HEF.out, own_nil _ _ _, HEF.out⟩
end Go.Proofs.YtiojjokfeknhcaaGreat
