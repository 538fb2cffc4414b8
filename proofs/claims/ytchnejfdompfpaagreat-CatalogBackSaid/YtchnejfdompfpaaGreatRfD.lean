/-
  The document's Apply: a command about a volume.
-/
import Derived.Test.YtchnejfdompfpaaGreatRfB
namespace Go.Proofs.YtchnejfdompfpaaGreat
open Go.RowKit Go.Sort

theorem vl_infoR : (Tryz.prog.info? 28).map (·.size) = some 3 := by kernel_rfl
theorem rfArr_put (lv : Value) (V : List Vl) {v j : Nat} {y y' : Vl} {u : Value} (hj : j < 3) (hy : V[v]? = some y) (hr : vlRow y' = (vlRow y).set j u) : (rfArr lv V).setIfInBounds (1 + v * 3 + j) u = rfArr lv (V.set v y') := by
  unfold rfArr
  rw [List.setIfInBounds_toArray, show 1 + v * 3 + j = (3 * v + j) + 1 by omega, List.set_cons_succ, vol_set V v j y y' u hj hy hr]
theorem vol_store {w : World} {xb v : Nat} {lv : Value} {V : List Vl} {y : Vl} (y' : Vl) (h : At w xb 31 (rfArr lv V)) (hy : V[v]? = some y) : At (w.setCells xb (1 + v * 3) (vlRow y')) xb 31 (rfArr lv (V.set v y')) := by
  have hv : v < V.length := (List.getElem?_eq_some_iff.1 hy).1
  have h1 := ((h.set (1 + v * 3) (.bool y'.closed)).set (1 + v * 3 + 1) (.bool y'.erase)).set (1 + v * 3 + 2) (.int .i64 y'.gen)
  have e1 : (rfArr lv V).setIfInBounds (1 + v * 3) (.bool y'.closed) = rfArr lv (V.set v ⟨y'.closed, y.erase, y.gen⟩) := rfArr_put lv V (j := 0) (by omega) hy rfl
  have g1 : (V.set v ⟨y'.closed, y.erase, y.gen⟩)[v]? = some ⟨y'.closed, y.erase, y.gen⟩ := by simp [hv]
  have e2 : (rfArr lv (V.set v ⟨y'.closed, y.erase, y.gen⟩)).setIfInBounds (1 + v * 3 + 1) (.bool y'.erase) = rfArr lv ((V.set v ⟨y'.closed, y.erase, y.gen⟩).set v ⟨y'.closed, y'.erase, y.gen⟩) := rfArr_put lv _ (j := 1) (by omega) g1 rfl
  rw [List.set_set] at e2
  have g2 : (V.set v ⟨y'.closed, y'.erase, y.gen⟩)[v]? = some ⟨y'.closed, y'.erase, y.gen⟩ := by simp [hv]
  have e3 : (rfArr lv (V.set v ⟨y'.closed, y'.erase, y.gen⟩)).setIfInBounds (1 + v * 3 + 2) (.int .i64 y'.gen) = rfArr lv ((V.set v ⟨y'.closed, y'.erase, y.gen⟩).set v y') := rfArr_put lv _ (j := 2) (by omega) g2 rfl
  rw [List.set_set] at e3
  rw [e1, e2, e3] at h1
  exact h1
set_option maxRecDepth 100000 in
set_option maxHeartbeats 8000000 in
theorem rapply_11 (w : World) (v : Value) (P : Pm) (n : Nat) (h : RfIn w v P) (hi : PInv n P) (hn : n ≤ 1000000) (x : Cmd) (dx : Value) (hx : w.ownsRow 0 3 1 dx x.disks.length (x.disks.map (Value.int .i64))) (hd : x.disks.length ≤ 17592186043904) (hnm : x.name.size ≤ 9223372036854775807) (hw : x.Wf) (j : Nat) (y : Vl) (hk : x.good = true ∧ x.kind = 11 ∧ x.vol = (j : Int) ∧ j < 12 ∧ P.vols[j]? = some y) :
    Calls Tryz.prog 20 #[v, cmdVal x dx] w (RcOut w (P.app x)) := by
  obtain ⟨lv, DV, rfl, hDV, hR⟩ := h
  have hlen : DV.length = P.L.length := by rw [← hDV, List.length_map]
  obtain ⟨A, c, rfl⟩ := own_slc hR.own
  obtain ⟨xA, xc, rfl⟩ := own_slc hx
  have HRF : Hid (RfIn w (.agg (rfArr (.slice A DV.length c) P.vols)) P) := Lib.hid ⟨_, DV, rfl, hDV, hR⟩
  have HX : Hid (rfArr (.slice A DV.length c) P.vols = (.slice A DV.length c :: (P.vols.map vlRow).flatten).toArray) := Lib.hid rfl
  have h37 := rfArr_size (.slice A DV.length c) hi.vlen
  have hone := rfArr_one A DV.length c P.vols
  have HVOL : Hid (∀ v y, P.vols[v]? = some y → (rfArr (.slice A DV.length c) P.vols)[1 + v * 3]? = some (.bool y.closed) ∧ (rfArr (.slice A DV.length c) P.vols)[1 + v * 3 + 1]? = some (.bool y.erase) ∧ (rfArr (.slice A DV.length c) P.vols)[1 + v * 3 + 2]? = some (.int .i64 y.gen)) := Lib.hid (fun v y h => rf_vol h)
  generalize hX : rfArr (.slice A DV.length c) P.vols = X at HX HRF HVOL h37 hone ⊢
  clear hX
  have H37 := Lib.hid h37
  have HONE := Lib.hid hone
  have HI1 : Hid ((Tryz.prog.info? 31).map (·.size) = some X.toList.length) := Lib.hid (by rw [Array.length_toList, h37]; exact rf_cinfo)
  have HI2 : Hid ((Tryz.prog.info? 31).map (·.size) = some X.size) := Lib.hid (by rw [h37]; exact rf_cinfo)
  have hX0 : X[0]? = some (.slice A DV.length c) := by rw [HX.out]; rfl
  have HX0 := Lib.hid hX0
  have HDV := Lib.hid hDV
  have HR := Lib.hid hR
  have HI := Lib.hid hi
  have HXO := Lib.hid hx
  have HK := Lib.hid hk
  clear hDV hlen hR hi hx hk hX0 h37 hone
  unfold cmdVal
  go_enter Tryz.func20, Tryz.ntmps20
  have hB := (((At.new w 31 X).alloc (.cells #[.int .i64 x.kind, .int .i64 x.client, .int .i64 x.seq, .string x.name, .int .u64 (x.blob : Int), .int .i64 x.size, .int .u32 (x.sum : Int), .slice xA x.disks.length xc, .int .i64 x.pool, .int .i64 x.vol, .int .i64 x.at_] 75)).alloc (.cells #[.slice none 0 0, .bool false, .bool false, .int .i64 0, .bool false, .bool false, .int .i64 0, .bool false, .bool false, .int .i64 0, .bool false, .bool false, .int .i64 0, .bool false, .bool false, .int .i64 0, .bool false, .bool false, .int .i64 0, .bool false, .bool false, .int .i64 0, .bool false, .bool false, .int .i64 0, .bool false, .bool false, .int .i64 0, .bool false, .bool false, .int .i64 0, .bool false, .bool false, .int .i64 0, .bool false, .bool false, .int .i64 0] 31)).alloc (.cells #[.int .i64 0, .int .u64 0, .int .i64 0, .int .u32 0, .slice none 0 0] 72)
  have hY := ((At.new (w.alloc (.cells X 31)) 75 #[.int .i64 x.kind, .int .i64 x.client, .int .i64 x.seq, .string x.name, .int .u64 (x.blob : Int), .int .i64 x.size, .int .u32 (x.sum : Int), .slice xA x.disks.length xc, .int .i64 x.pool, .int .i64 x.vol, .int .i64 x.at_]).alloc (.cells #[.slice none 0 0, .bool false, .bool false, .int .i64 0, .bool false, .bool false, .int .i64 0, .bool false, .bool false, .int .i64 0, .bool false, .bool false, .int .i64 0, .bool false, .bool false, .int .i64 0, .bool false, .bool false, .int .i64 0, .bool false, .bool false, .int .i64 0, .bool false, .bool false, .int .i64 0, .bool false, .bool false, .int .i64 0, .bool false, .bool false, .int .i64 0, .bool false, .bool false, .int .i64 0, .bool false, .bool false, .int .i64 0] 31)).alloc (.cells #[.int .i64 0, .int .u64 0, .int .i64 0, .int .u32 0, .slice none 0 0] 72)
  have hC := (At.new ((w.alloc (.cells X 31)).alloc (.cells #[.int .i64 x.kind, .int .i64 x.client, .int .i64 x.seq, .string x.name, .int .u64 (x.blob : Int), .int .i64 x.size, .int .u32 (x.sum : Int), .slice xA x.disks.length xc, .int .i64 x.pool, .int .i64 x.vol, .int .i64 x.at_] 75)) 31 #[.slice none 0 0, .bool false, .bool false, .int .i64 0, .bool false, .bool false, .int .i64 0, .bool false, .bool false, .int .i64 0, .bool false, .bool false, .int .i64 0, .bool false, .bool false, .int .i64 0, .bool false, .bool false, .int .i64 0, .bool false, .bool false, .int .i64 0, .bool false, .bool false, .int .i64 0, .bool false, .bool false, .int .i64 0, .bool false, .bool false, .int .i64 0, .bool false, .bool false, .int .i64 0, .bool false, .bool false, .int .i64 0]).alloc (.cells #[.int .i64 0, .int .u64 0, .int .i64 0, .int .u32 0, .slice none 0 0] 72)
  have hS := At.new (((w.alloc (.cells X 31)).alloc (.cells #[.int .i64 x.kind, .int .i64 x.client, .int .i64 x.seq, .string x.name, .int .u64 (x.blob : Int), .int .i64 x.size, .int .u32 (x.sum : Int), .slice xA x.disks.length xc, .int .i64 x.pool, .int .i64 x.vol, .int .i64 x.at_] 75)).alloc (.cells #[.slice none 0 0, .bool false, .bool false, .int .i64 0, .bool false, .bool false, .int .i64 0, .bool false, .bool false, .int .i64 0, .bool false, .bool false, .int .i64 0, .bool false, .bool false, .int .i64 0, .bool false, .bool false, .int .i64 0, .bool false, .bool false, .int .i64 0, .bool false, .bool false, .int .i64 0, .bool false, .bool false, .int .i64 0, .bool false, .bool false, .int .i64 0, .bool false, .bool false, .int .i64 0, .bool false, .bool false, .int .i64 0] 31)) 72 #[.int .i64 0, .int .u64 0, .int .i64 0, .int .u32 0, .slice none 0 0]
  have hE := ((((Ext.refl w).alloc (.cells X 31)).alloc (.cells #[.int .i64 x.kind, .int .i64 x.client, .int .i64 x.seq, .string x.name, .int .u64 (x.blob : Int), .int .i64 x.size, .int .u32 (x.sum : Int), .slice xA x.disks.length xc, .int .i64 x.pool, .int .i64 x.vol, .int .i64 x.at_] 75)).alloc (.cells #[.slice none 0 0, .bool false, .bool false, .int .i64 0, .bool false, .bool false, .int .i64 0, .bool false, .bool false, .int .i64 0, .bool false, .bool false, .int .i64 0, .bool false, .bool false, .int .i64 0, .bool false, .bool false, .int .i64 0, .bool false, .bool false, .int .i64 0, .bool false, .bool false, .int .i64 0, .bool false, .bool false, .int .i64 0, .bool false, .bool false, .int .i64 0, .bool false, .bool false, .int .i64 0, .bool false, .bool false, .int .i64 0] 31)).alloc (.cells #[.int .i64 0, .int .u64 0, .int .i64 0, .int .u32 0, .slice none 0 0] 72)
  rw [show (w.alloc (.cells X 31)).heap.size = w.heap.size + 1 by simp] at hY
  rw [show ((w.alloc (.cells X 31)).alloc (.cells #[.int .i64 x.kind, .int .i64 x.client, .int .i64 x.seq, .string x.name, .int .u64 (x.blob : Int), .int .i64 x.size, .int .u32 (x.sum : Int), .slice xA x.disks.length xc, .int .i64 x.pool, .int .i64 x.vol, .int .i64 x.at_] 75)).heap.size = w.heap.size + 1 + 1 by simp] at hC
  rw [show (((w.alloc (.cells X 31)).alloc (.cells #[.int .i64 x.kind, .int .i64 x.client, .int .i64 x.seq, .string x.name, .int .u64 (x.blob : Int), .int .i64 x.size, .int .u32 (x.sum : Int), .slice xA x.disks.length xc, .int .i64 x.pool, .int .i64 x.vol, .int .i64 x.at_] 75)).alloc (.cells #[.slice none 0 0, .bool false, .bool false, .int .i64 0, .bool false, .bool false, .int .i64 0, .bool false, .bool false, .int .i64 0, .bool false, .bool false, .int .i64 0, .bool false, .bool false, .int .i64 0, .bool false, .bool false, .int .i64 0, .bool false, .bool false, .int .i64 0, .bool false, .bool false, .int .i64 0, .bool false, .bool false, .int .i64 0, .bool false, .bool false, .int .i64 0, .bool false, .bool false, .int .i64 0, .bool false, .bool false, .int .i64 0] 31)).heap.size = w.heap.size + 1 + 1 + 1 by simp] at hS
  go_upto_region 1 with fail
  obtain ⟨xb, hxb⟩ : ∃ xb, w.heap.size = xb := ⟨_, rfl⟩
  rw [hxb] at hB hY hC hS ⊢
  generalize World.alloc _ _ = W at hB hY hC hS hE ⊢
  have HXB := Lib.hid (show w.heap.size ≤ xb by omega)
  clear hxb
  have HZ : Hid ((#[.slice none 0 0, .bool false, .bool false, .int .i64 0, .bool false, .bool false, .int .i64 0, .bool false, .bool false, .int .i64 0, .bool false, .bool false, .int .i64 0, .bool false, .bool false, .int .i64 0, .bool false, .bool false, .int .i64 0, .bool false, .bool false, .int .i64 0, .bool false, .bool false, .int .i64 0, .bool false, .bool false, .int .i64 0, .bool false, .bool false, .int .i64 0, .bool false, .bool false, .int .i64 0, .bool false, .bool false, .int .i64 0] : Array Value).size = 37) := Lib.hid rfl
  generalize (#[.slice none 0 0, .bool false, .bool false, .int .i64 0, .bool false, .bool false, .int .i64 0, .bool false, .bool false, .int .i64 0, .bool false, .bool false, .int .i64 0, .bool false, .bool false, .int .i64 0, .bool false, .bool false, .int .i64 0, .bool false, .bool false, .int .i64 0, .bool false, .bool false, .int .i64 0, .bool false, .bool false, .int .i64 0, .bool false, .bool false, .int .i64 0, .bool false, .bool false, .int .i64 0, .bool false, .bool false, .int .i64 0] : Array Value) = ZC at hC HZ
  have lS := hS.lt
  have lC := hC.lt
  have lY := hY.lt
  have lB := hB.lt
  have y0 := hY.cell 0
  simp at y0
  have HGD : Hid (x.good = true) := Lib.hid HK.out.1
  clear y0
  have HG := Lib.hid (rgood_any W x (.slice xA x.disks.length xc) (own_sl (own_keep HXO.out hE (fun _ _ hh => hh))) hd hnm)
  rw [HGD.out] at HG
  have HRY := Lib.hid hY.range
  go_wp2_with (refine wpList_load_mid rfl 75 _ rfl (xb + 1) 0 rfl _ _ HRY.out Tryz.underlying75 rfl cmd_infoR ?_)
  refine HG.out.mono ?_
  rintro e w1 ⟨rfl, hE1⟩
  have hB := hB.ext hE1
  have hY := hY.ext hE1
  have hC := hC.ext hE1
  have hS := hS.ext hE1
  have hE := hE.trans hE1
  have lS := hS.lt
  have lC := hC.lt
  have lY := hY.lt
  have lB := hB.lt
  clear HG HRY
  have y0 := hY.cell 0
  have y9 := hY.cell 9
  simp at y0 y9
  rw [HK.out.2.1] at y0
  rw [HK.out.2.2.1] at y9
  have hj12 := HK.out.2.2.2.1
  have HYV := Lib.hid (HVOL.out j y HK.out.2.2.2.2)
  have x0 := hB.cell (1 + j * 3)
  have x1 := hB.cell (1 + j * 3 + 1)
  have x2 := hB.cell (1 + j * 3 + 2)
  rw [HYV.out.1] at x0
  rw [HYV.out.2.1] at x1
  rw [HYV.out.2.2] at x2
  have hV := At.new w1 28 #[.bool y.closed, .bool y.erase, .int .i64 y.gen]
  have hEV := (Ext.refl w1).alloc (.cells #[.bool y.closed, .bool y.erase, .int .i64 y.gen] 28)
  go_upto_region 6 with fail
  clear x0 x1 x2
  have HVB := Lib.hid (show w.heap.size ≤ w1.heap.size from hE.size)
  generalize w1.heap.size = vb at hV HVB ⊢
  generalize w1.alloc (.cells #[.bool y.closed, .bool y.erase, .int .i64 y.gen] 28) = W2 at hV hEV ⊢
  have hB := hB.ext hEV
  have hY := hY.ext hEV
  have hC := hC.ext hEV
  have hS := hS.ext hEV
  have hE := hE.trans hEV
  have lS := hS.lt
  have lC := hC.lt
  have lY := hY.lt
  have lB := hB.lt
  have y0 := hY.cell 0
  simp at y0
  rw [HK.out.2.1] at y0
  have v0 := hV.cell 0
  have vf0 := hV.frozen 0
  have v1 := hV.cell 1
  have vf1 := hV.frozen 1
  simp at v0 v1
  have HAP := Lib.hid (show P.app x = rs1 (P.volume x) from by unfold Pm.app; rw [if_neg (by rw [HK.out.1]; decide), if_neg (by rw [HK.out.2.1]; decide), if_neg (by rw [HK.out.2.1]; decide), if_neg (by rw [HK.out.2.1]; decide), if_pos (by rw [HK.out.2.1]; decide)])
  have HPV : Hid (P.vol x.vol.toNat = y) := Lib.hid (by unfold Pm.vol; rw [HK.out.2.2.1, Int.toNat_natCast, List.getD_eq_getElem?_getD, HK.out.2.2.2.2]; rfl)
  go_upto_region 19 with fail
  clear v0 vf0 v1 vf1 y0 y9
  have hne : xb ≠ vb := At.ne hB hV (by decide)
  have hne2 : xb + 1 + 1 ≠ vb := At.ne hC hV (by decide)
  have hne3 : xb + 1 + 1 + 1 ≠ vb := At.ne hS hV (by decide)
  have hne4 : xb + 1 ≠ vb := At.ne hY hV (by decide)
  have kV : At (W2.setCell ⟨vb, 0, none⟩ (.bool true)) vb 28 #[.bool true, .bool y.erase, .int .i64 y.gen] := hV.set 0 (.bool true)
  have hch : Chg (· = vb) W2 (W2.setCell ⟨vb, 0, none⟩ (.bool true)) := Chg.setCell (S := (· = vb)) (p := ⟨vb, 0, none⟩) (Ext.refl W2).chg (.inl rfl) _
  have hE3 : Ext w (W2.setCell ⟨vb, 0, none⟩ (.bool true)) := hE.chg_trans hch |>.mono (fun k hk e => by have := HVB.out; have e' : k = vb := e; omega)
  have kB := hB.chg hch hne
  have kC := hC.chg hch hne2
  have kS := hS.chg hch hne3
  have kY := hY.chg hch hne4
  clear hB hC hS hY hV hE hch hne hne2 hne3 hne4 lC lS lY lB
  generalize (W2.setCell ⟨vb, 0, none⟩ (.bool true)) = W3 at kB kC kS kY kV hE3 ⊢
  have hB := kB
  have hC := kC
  have hS := kS
  have hY := kY
  have hV := kV
  have hE := hE3
  clear kB kC kS kY kV hE3
  have y0 := hY.cell 0
  have y9 := hY.cell 9
  simp at y0 y9
  rw [HK.out.2.1] at y0
  rw [HK.out.2.2.1] at y9
  have v0 := hV.cell 0
  have v1 := hV.cell 1
  have v2 := hV.cell 2
  simp at v0 v1 v2
  have HTX : Hid (W3.there xb (1 + j * 3) 3) := Lib.hid (fun i hi3 => by have h := hB.there (1 + j * 3 + i) (by rw [H37.out]; omega); simpa using h)
  have hB0 : At W3 xb 31 (rfArr (.slice A DV.length c) P.vols) := by have h := hB; rw [HX.out] at h; exact h
  have hB4 : At (W3.setCells xb (1 + j * 3) (#[.bool true, .bool y.erase, .int .i64 y.gen] : Array Value).toList) xb 31 (rfArr (.slice A DV.length c) (P.vols.set j { y with closed := true })) := vol_store { y with closed := true } hB0 HK.out.2.2.2.2
  have hch : Chg (· = xb) W3 (W3.setCells xb (1 + j * 3) (#[.bool true, .bool y.erase, .int .i64 y.gen] : Array Value).toList) := chg_setCells _ _
  have hC4 := hC.chg hch (by omega)
  have hS4 := hS.chg hch (by omega)
  have hE4 : Ext w (W3.setCells xb (1 + j * 3) (#[.bool true, .bool y.erase, .int .i64 y.gen] : Array Value).toList) := hE.chg_trans hch |>.mono (fun k hk e => by have := HXB.out; have e' : k = xb := e; omega)
  have hVL : (P.vols.set j { y with closed := true }).length = 12 := by rw [List.length_set]; exact HI.out.vlen
  have h37' := rfArr_size (.slice A DV.length c) hVL
  have hone' := rfArr_one A DV.length c (P.vols.set j { y with closed := true })
  have hrf : RfIn (W3.setCells xb (1 + j * 3) (#[.bool true, .bool y.erase, .int .i64 y.gen] : Array Value).toList) (.agg (rfArr (.slice A DV.length c) (P.vols.set j { y with closed := true }))) (P.setVol j { y with closed := true }) := ⟨_, DV, rfl, HDV.out, HR.out.ext hE4⟩
  generalize rfArr (.slice A DV.length c) (P.vols.set j { y with closed := true }) = X2 at hB4 h37' hone' hrf
  have hTO := two_out (X := X2) (R := #[.int .i64 0, .int .u64 0, .int .i64 0, .int .u32 0, .slice none 0 0]) hC4 hS4 (by rw [HZ.out, h37']) rfl h37' rfl (by omega)
  have HTO := Lib.hid hTO
  have hroC : Chg (fun k => k = xb + 1 + 1 ∨ k = xb + 1 + 1 + 1) (W3.setCells xb (1 + j * 3) (#[.bool true, .bool y.erase, .int .i64 y.gen] : Array Value).toList) (((W3.setCells xb (1 + j * 3) (#[.bool true, .bool y.erase, .int .i64 y.gen] : Array Value).toList).setCells (xb + 1 + 1) 0 X2.toList).setCells (xb + 1 + 1 + 1) 0 (#[.int .i64 0, .int .u64 0, .int .i64 0, .int .u32 0, .slice none 0 0] : Array Value).toList) := Chg.setCells (Chg.setCells (Ext.refl (W3.setCells xb (1 + j * 3) (#[.bool true, .bool y.erase, .int .i64 y.gen] : Array Value).toList)).chg (.inl rfl) _ _) (.inr rfl) _ _
  have HRO := Lib.hid (RfIn.two hrf ⟨_, hC4⟩ ⟨_, hS4⟩ hroC)
  have HEF := Lib.hid (hTO.ext w hE4 (by have := HXB.out; omega) (by have := HXB.out; omega))
  have HRX := Lib.hid hB4.range
  clear hB hY hC hS hE hV hTO hrf hroC hB0 hB4 hC4 hS4 hE4 hch hVL
  go_upto_region 21 with (refine wpList_store_mid rfl 28 _ _ rfl xb (1 + j * 3) #[.bool true, .bool y.erase, .int .i64 y.gen] rfl rfl HTX.out vl_infoR (by simp [Value.oneCell']) ?_)
  clear y0 y9 v0 v1 v2 HTX
  generalize (W3.setCells xb (1 + j * 3) (#[.bool true, .bool y.erase, .int .i64 y.gen] : Array Value).toList) = W4 at HTO HRO HEF HRX ⊢
  go_wp2_with (first | (refine wpList_load_mid rfl 31 _ rfl xb 0 rfl _ _ HRX.out Tryz.underlying31 rfl (by rw [Array.length_toList, h37']; exact rf_cinfo) ?_) | (refine wpList_store_mid rfl 31 _ _ rfl (xb + 1 + 1) 0 X2 rfl rfl HTO.out.t1 (by rw [h37']; exact rf_cinfo) hone' ?_) | (refine wpList_store_mid rfl 72 _ _ rfl (xb + 1 + 1 + 1) 0 #[.int .i64 0, .int .u64 0, .int .i64 0, .int .u32 0, .slice none 0 0] rfl rfl HTO.out.t2 res_info (by simp [Value.oneCell']) ?_))
  refine bodyPost_ret (v := .tuple #[.agg X2, .agg #[.int .i64 0, .int .u64 0, .int .i64 0, .int .u32 0, .slice none 0 0]]) (results_two Tryz.results20 _ rfl rfl HTO.out.l1 HTO.out.l2) rfl ?_
  rw [show P.app x = (P.setVol j { y with closed := true }, Rs.er 0) from by rw [HAP.out]; unfold Pm.volume rs1; rw [if_pos HK.out.2.1, HPV.out, HK.out.2.2.1, Int.toNat_natCast]]
  exact ⟨.agg X2, .slice none 0 0, rfl, HRO.out, own_nil _ _ _, HEF.out⟩
set_option maxRecDepth 100000 in
set_option maxHeartbeats 8000000 in
theorem rapply_12 (w : World) (v : Value) (P : Pm) (n : Nat) (h : RfIn w v P) (hi : PInv n P) (hn : n ≤ 1000000) (x : Cmd) (dx : Value) (hx : w.ownsRow 0 3 1 dx x.disks.length (x.disks.map (Value.int .i64))) (hd : x.disks.length ≤ 17592186043904) (hnm : x.name.size ≤ 9223372036854775807) (hw : x.Wf) (j : Nat) (y : Vl) (hk : x.good = true ∧ x.kind = 12 ∧ x.vol = (j : Int) ∧ j < 12 ∧ P.vols[j]? = some y) :
    Calls Tryz.prog 20 #[v, cmdVal x dx] w (RcOut w (P.app x)) := by
  obtain ⟨lv, DV, rfl, hDV, hR⟩ := h
  have hlen : DV.length = P.L.length := by rw [← hDV, List.length_map]
  obtain ⟨A, c, rfl⟩ := own_slc hR.own
  obtain ⟨xA, xc, rfl⟩ := own_slc hx
  have HRF : Hid (RfIn w (.agg (rfArr (.slice A DV.length c) P.vols)) P) := Lib.hid ⟨_, DV, rfl, hDV, hR⟩
  have HX : Hid (rfArr (.slice A DV.length c) P.vols = (.slice A DV.length c :: (P.vols.map vlRow).flatten).toArray) := Lib.hid rfl
  have h37 := rfArr_size (.slice A DV.length c) hi.vlen
  have hone := rfArr_one A DV.length c P.vols
  have HVOL : Hid (∀ v y, P.vols[v]? = some y → (rfArr (.slice A DV.length c) P.vols)[1 + v * 3]? = some (.bool y.closed) ∧ (rfArr (.slice A DV.length c) P.vols)[1 + v * 3 + 1]? = some (.bool y.erase) ∧ (rfArr (.slice A DV.length c) P.vols)[1 + v * 3 + 2]? = some (.int .i64 y.gen)) := Lib.hid (fun v y h => rf_vol h)
  generalize hX : rfArr (.slice A DV.length c) P.vols = X at HX HRF HVOL h37 hone ⊢
  clear hX
  have H37 := Lib.hid h37
  have HONE := Lib.hid hone
  have HI1 : Hid ((Tryz.prog.info? 31).map (·.size) = some X.toList.length) := Lib.hid (by rw [Array.length_toList, h37]; exact rf_cinfo)
  have HI2 : Hid ((Tryz.prog.info? 31).map (·.size) = some X.size) := Lib.hid (by rw [h37]; exact rf_cinfo)
  have hX0 : X[0]? = some (.slice A DV.length c) := by rw [HX.out]; rfl
  have HX0 := Lib.hid hX0
  have HDV := Lib.hid hDV
  have HR := Lib.hid hR
  have HI := Lib.hid hi
  have HXO := Lib.hid hx
  have HK := Lib.hid hk
  clear hDV hlen hR hi hx hk hX0 h37 hone
  unfold cmdVal
  go_enter Tryz.func20, Tryz.ntmps20
  have hB := (((At.new w 31 X).alloc (.cells #[.int .i64 x.kind, .int .i64 x.client, .int .i64 x.seq, .string x.name, .int .u64 (x.blob : Int), .int .i64 x.size, .int .u32 (x.sum : Int), .slice xA x.disks.length xc, .int .i64 x.pool, .int .i64 x.vol, .int .i64 x.at_] 75)).alloc (.cells #[.slice none 0 0, .bool false, .bool false, .int .i64 0, .bool false, .bool false, .int .i64 0, .bool false, .bool false, .int .i64 0, .bool false, .bool false, .int .i64 0, .bool false, .bool false, .int .i64 0, .bool false, .bool false, .int .i64 0, .bool false, .bool false, .int .i64 0, .bool false, .bool false, .int .i64 0, .bool false, .bool false, .int .i64 0, .bool false, .bool false, .int .i64 0, .bool false, .bool false, .int .i64 0, .bool false, .bool false, .int .i64 0] 31)).alloc (.cells #[.int .i64 0, .int .u64 0, .int .i64 0, .int .u32 0, .slice none 0 0] 72)
  have hY := ((At.new (w.alloc (.cells X 31)) 75 #[.int .i64 x.kind, .int .i64 x.client, .int .i64 x.seq, .string x.name, .int .u64 (x.blob : Int), .int .i64 x.size, .int .u32 (x.sum : Int), .slice xA x.disks.length xc, .int .i64 x.pool, .int .i64 x.vol, .int .i64 x.at_]).alloc (.cells #[.slice none 0 0, .bool false, .bool false, .int .i64 0, .bool false, .bool false, .int .i64 0, .bool false, .bool false, .int .i64 0, .bool false, .bool false, .int .i64 0, .bool false, .bool false, .int .i64 0, .bool false, .bool false, .int .i64 0, .bool false, .bool false, .int .i64 0, .bool false, .bool false, .int .i64 0, .bool false, .bool false, .int .i64 0, .bool false, .bool false, .int .i64 0, .bool false, .bool false, .int .i64 0, .bool false, .bool false, .int .i64 0] 31)).alloc (.cells #[.int .i64 0, .int .u64 0, .int .i64 0, .int .u32 0, .slice none 0 0] 72)
  have hC := (At.new ((w.alloc (.cells X 31)).alloc (.cells #[.int .i64 x.kind, .int .i64 x.client, .int .i64 x.seq, .string x.name, .int .u64 (x.blob : Int), .int .i64 x.size, .int .u32 (x.sum : Int), .slice xA x.disks.length xc, .int .i64 x.pool, .int .i64 x.vol, .int .i64 x.at_] 75)) 31 #[.slice none 0 0, .bool false, .bool false, .int .i64 0, .bool false, .bool false, .int .i64 0, .bool false, .bool false, .int .i64 0, .bool false, .bool false, .int .i64 0, .bool false, .bool false, .int .i64 0, .bool false, .bool false, .int .i64 0, .bool false, .bool false, .int .i64 0, .bool false, .bool false, .int .i64 0, .bool false, .bool false, .int .i64 0, .bool false, .bool false, .int .i64 0, .bool false, .bool false, .int .i64 0, .bool false, .bool false, .int .i64 0]).alloc (.cells #[.int .i64 0, .int .u64 0, .int .i64 0, .int .u32 0, .slice none 0 0] 72)
  have hS := At.new (((w.alloc (.cells X 31)).alloc (.cells #[.int .i64 x.kind, .int .i64 x.client, .int .i64 x.seq, .string x.name, .int .u64 (x.blob : Int), .int .i64 x.size, .int .u32 (x.sum : Int), .slice xA x.disks.length xc, .int .i64 x.pool, .int .i64 x.vol, .int .i64 x.at_] 75)).alloc (.cells #[.slice none 0 0, .bool false, .bool false, .int .i64 0, .bool false, .bool false, .int .i64 0, .bool false, .bool false, .int .i64 0, .bool false, .bool false, .int .i64 0, .bool false, .bool false, .int .i64 0, .bool false, .bool false, .int .i64 0, .bool false, .bool false, .int .i64 0, .bool false, .bool false, .int .i64 0, .bool false, .bool false, .int .i64 0, .bool false, .bool false, .int .i64 0, .bool false, .bool false, .int .i64 0, .bool false, .bool false, .int .i64 0] 31)) 72 #[.int .i64 0, .int .u64 0, .int .i64 0, .int .u32 0, .slice none 0 0]
  have hE := ((((Ext.refl w).alloc (.cells X 31)).alloc (.cells #[.int .i64 x.kind, .int .i64 x.client, .int .i64 x.seq, .string x.name, .int .u64 (x.blob : Int), .int .i64 x.size, .int .u32 (x.sum : Int), .slice xA x.disks.length xc, .int .i64 x.pool, .int .i64 x.vol, .int .i64 x.at_] 75)).alloc (.cells #[.slice none 0 0, .bool false, .bool false, .int .i64 0, .bool false, .bool false, .int .i64 0, .bool false, .bool false, .int .i64 0, .bool false, .bool false, .int .i64 0, .bool false, .bool false, .int .i64 0, .bool false, .bool false, .int .i64 0, .bool false, .bool false, .int .i64 0, .bool false, .bool false, .int .i64 0, .bool false, .bool false, .int .i64 0, .bool false, .bool false, .int .i64 0, .bool false, .bool false, .int .i64 0, .bool false, .bool false, .int .i64 0] 31)).alloc (.cells #[.int .i64 0, .int .u64 0, .int .i64 0, .int .u32 0, .slice none 0 0] 72)
  rw [show (w.alloc (.cells X 31)).heap.size = w.heap.size + 1 by simp] at hY
  rw [show ((w.alloc (.cells X 31)).alloc (.cells #[.int .i64 x.kind, .int .i64 x.client, .int .i64 x.seq, .string x.name, .int .u64 (x.blob : Int), .int .i64 x.size, .int .u32 (x.sum : Int), .slice xA x.disks.length xc, .int .i64 x.pool, .int .i64 x.vol, .int .i64 x.at_] 75)).heap.size = w.heap.size + 1 + 1 by simp] at hC
  rw [show (((w.alloc (.cells X 31)).alloc (.cells #[.int .i64 x.kind, .int .i64 x.client, .int .i64 x.seq, .string x.name, .int .u64 (x.blob : Int), .int .i64 x.size, .int .u32 (x.sum : Int), .slice xA x.disks.length xc, .int .i64 x.pool, .int .i64 x.vol, .int .i64 x.at_] 75)).alloc (.cells #[.slice none 0 0, .bool false, .bool false, .int .i64 0, .bool false, .bool false, .int .i64 0, .bool false, .bool false, .int .i64 0, .bool false, .bool false, .int .i64 0, .bool false, .bool false, .int .i64 0, .bool false, .bool false, .int .i64 0, .bool false, .bool false, .int .i64 0, .bool false, .bool false, .int .i64 0, .bool false, .bool false, .int .i64 0, .bool false, .bool false, .int .i64 0, .bool false, .bool false, .int .i64 0, .bool false, .bool false, .int .i64 0] 31)).heap.size = w.heap.size + 1 + 1 + 1 by simp] at hS
  go_upto_region 1 with fail
  obtain ⟨xb, hxb⟩ : ∃ xb, w.heap.size = xb := ⟨_, rfl⟩
  rw [hxb] at hB hY hC hS ⊢
  generalize World.alloc _ _ = W at hB hY hC hS hE ⊢
  have HXB := Lib.hid (show w.heap.size ≤ xb by omega)
  clear hxb
  have HZ : Hid ((#[.slice none 0 0, .bool false, .bool false, .int .i64 0, .bool false, .bool false, .int .i64 0, .bool false, .bool false, .int .i64 0, .bool false, .bool false, .int .i64 0, .bool false, .bool false, .int .i64 0, .bool false, .bool false, .int .i64 0, .bool false, .bool false, .int .i64 0, .bool false, .bool false, .int .i64 0, .bool false, .bool false, .int .i64 0, .bool false, .bool false, .int .i64 0, .bool false, .bool false, .int .i64 0, .bool false, .bool false, .int .i64 0] : Array Value).size = 37) := Lib.hid rfl
  generalize (#[.slice none 0 0, .bool false, .bool false, .int .i64 0, .bool false, .bool false, .int .i64 0, .bool false, .bool false, .int .i64 0, .bool false, .bool false, .int .i64 0, .bool false, .bool false, .int .i64 0, .bool false, .bool false, .int .i64 0, .bool false, .bool false, .int .i64 0, .bool false, .bool false, .int .i64 0, .bool false, .bool false, .int .i64 0, .bool false, .bool false, .int .i64 0, .bool false, .bool false, .int .i64 0, .bool false, .bool false, .int .i64 0] : Array Value) = ZC at hC HZ
  have lS := hS.lt
  have lC := hC.lt
  have lY := hY.lt
  have lB := hB.lt
  have y0 := hY.cell 0
  simp at y0
  have HGD : Hid (x.good = true) := Lib.hid HK.out.1
  clear y0
  have HG := Lib.hid (rgood_any W x (.slice xA x.disks.length xc) (own_sl (own_keep HXO.out hE (fun _ _ hh => hh))) hd hnm)
  rw [HGD.out] at HG
  have HRY := Lib.hid hY.range
  go_wp2_with (refine wpList_load_mid rfl 75 _ rfl (xb + 1) 0 rfl _ _ HRY.out Tryz.underlying75 rfl cmd_infoR ?_)
  refine HG.out.mono ?_
  rintro e w1 ⟨rfl, hE1⟩
  have hB := hB.ext hE1
  have hY := hY.ext hE1
  have hC := hC.ext hE1
  have hS := hS.ext hE1
  have hE := hE.trans hE1
  have lS := hS.lt
  have lC := hC.lt
  have lY := hY.lt
  have lB := hB.lt
  clear HG HRY
  have y0 := hY.cell 0
  have y9 := hY.cell 9
  simp at y0 y9
  rw [HK.out.2.1] at y0
  rw [HK.out.2.2.1] at y9
  have hj12 := HK.out.2.2.2.1
  have HYV := Lib.hid (HVOL.out j y HK.out.2.2.2.2)
  have x0 := hB.cell (1 + j * 3)
  have x1 := hB.cell (1 + j * 3 + 1)
  have x2 := hB.cell (1 + j * 3 + 2)
  rw [HYV.out.1] at x0
  rw [HYV.out.2.1] at x1
  rw [HYV.out.2.2] at x2
  have hV := At.new w1 28 #[.bool y.closed, .bool y.erase, .int .i64 y.gen]
  have hEV := (Ext.refl w1).alloc (.cells #[.bool y.closed, .bool y.erase, .int .i64 y.gen] 28)
  go_upto_region 6 with fail
  clear x0 x1 x2
  have HVB := Lib.hid (show w.heap.size ≤ w1.heap.size from hE.size)
  generalize w1.heap.size = vb at hV HVB ⊢
  generalize w1.alloc (.cells #[.bool y.closed, .bool y.erase, .int .i64 y.gen] 28) = W2 at hV hEV ⊢
  have hB := hB.ext hEV
  have hY := hY.ext hEV
  have hC := hC.ext hEV
  have hS := hS.ext hEV
  have hE := hE.trans hEV
  have lS := hS.lt
  have lC := hC.lt
  have lY := hY.lt
  have lB := hB.lt
  have y0 := hY.cell 0
  simp at y0
  rw [HK.out.2.1] at y0
  have v0 := hV.cell 0
  have vf0 := hV.frozen 0
  have v1 := hV.cell 1
  have vf1 := hV.frozen 1
  simp at v0 v1
  have HAP := Lib.hid (show P.app x = rs1 (P.volume x) from by unfold Pm.app; rw [if_neg (by rw [HK.out.1]; decide), if_neg (by rw [HK.out.2.1]; decide), if_neg (by rw [HK.out.2.1]; decide), if_neg (by rw [HK.out.2.1]; decide), if_pos (by rw [HK.out.2.1]; decide)])
  have HPV : Hid (P.vol x.vol.toNat = y) := Lib.hid (by unfold Pm.vol; rw [HK.out.2.2.1, Int.toNat_natCast, List.getD_eq_getElem?_getD, HK.out.2.2.2.2]; rfl)
  have HLV := Lib.hid (rlive_any W2 (.agg X) P n (HRF.out.ext hE) HI.out hn j hj12)
  have y9 := hY.cell 9
  simp at y9
  rw [HK.out.2.2.1] at y9
  have HRX := Lib.hid hB.range
  go_wp2_with (refine wpList_load_mid rfl 31 _ rfl xb 0 rfl _ _ HRX.out Tryz.underlying31 rfl HI1.out ?_)
  refine HLV.out.mono ?_
  rintro e w3 ⟨rfl, hE3⟩
  have hB := hB.ext hE3
  have hY := hY.ext hE3
  have hC := hC.ext hE3
  have hS := hS.ext hE3
  have hE := hE.trans hE3
  have lS := hS.lt
  have lC := hC.lt
  have lY := hY.lt
  have lB := hB.lt
  have hV := hV.ext hE3
  have HVL : Hid (W2.heap.size ≤ w3.heap.size) := Lib.hid hE3.size
  clear HLV HRX y0 y9 v0 vf0 v1 vf1
  have y0 := hY.cell 0
  have y9 := hY.cell 9
  simp at y0 y9
  rw [HK.out.2.1] at y0
  rw [HK.out.2.2.1] at y9
  by_cases hlv : P.onVol (j : Int) = []
  · have hlen : (P.onVol (j : Int)).length = 0 := by rw [hlv]; rfl
    have HLN := Lib.hid hlv
    have v0 := hV.cell 0
    have vf0 := hV.frozen 0
    have v1 := hV.cell 1
    have vf1 := hV.frozen 1
    simp at v0 v1
    generalize hpo : P.onVol (j : Int) = PO at hlen ⊢
    clear hpo hlv
    rw [hlen]
    go_upto_region 19 with fail
    clear v0 vf0 v1 vf1 y0 y9 hlen
    have hne : xb ≠ vb := At.ne hB hV (by decide)
    have hne2 : xb + 1 + 1 ≠ vb := At.ne hC hV (by decide)
    have hne3 : xb + 1 + 1 + 1 ≠ vb := At.ne hS hV (by decide)
    have hne4 : xb + 1 ≠ vb := At.ne hY hV (by decide)
    have kV : At ((w3.setCell ⟨vb, 0, none⟩ (.bool true)).setCell ⟨vb, 1, none⟩ (.bool true)) vb 28 #[.bool true, .bool true, .int .i64 y.gen] := (hV.set 0 (.bool true)).set 1 (.bool true)
    have hch : Chg (· = vb) w3 ((w3.setCell ⟨vb, 0, none⟩ (.bool true)).setCell ⟨vb, 1, none⟩ (.bool true)) := Chg.setCell (S := (· = vb)) (p := ⟨vb, 1, none⟩) (Chg.setCell (S := (· = vb)) (p := ⟨vb, 0, none⟩) (Ext.refl w3).chg (.inl rfl) _) (.inl rfl) _
    have hE3 : Ext w ((w3.setCell ⟨vb, 0, none⟩ (.bool true)).setCell ⟨vb, 1, none⟩ (.bool true)) := hE.chg_trans hch |>.mono (fun k hk e => by have := HVB.out; have e' : k = vb := e; omega)
    have kB := hB.chg hch hne
    have kC := hC.chg hch hne2
    have kS := hS.chg hch hne3
    have kY := hY.chg hch hne4
    clear hB hC hS hY hV hE hch hne hne2 hne3 hne4 lC lS lY lB
    generalize ((w3.setCell ⟨vb, 0, none⟩ (.bool true)).setCell ⟨vb, 1, none⟩ (.bool true)) = W3 at kB kC kS kY kV hE3 ⊢
    have hB := kB
    have hC := kC
    have hS := kS
    have hY := kY
    have hV := kV
    have hE := hE3
    clear kB kC kS kY kV hE3
    have y0 := hY.cell 0
    have y9 := hY.cell 9
    simp at y0 y9
    rw [HK.out.2.1] at y0
    rw [HK.out.2.2.1] at y9
    have v0 := hV.cell 0
    have v1 := hV.cell 1
    have v2 := hV.cell 2
    simp at v0 v1 v2
    have HTX : Hid (W3.there xb (1 + j * 3) 3) := Lib.hid (fun i hi3 => by have h := hB.there (1 + j * 3 + i) (by rw [H37.out]; omega); simpa using h)
    have hB0 : At W3 xb 31 (rfArr (.slice A DV.length c) P.vols) := by have h := hB; rw [HX.out] at h; exact h
    have hB4 : At (W3.setCells xb (1 + j * 3) (#[.bool true, .bool true, .int .i64 y.gen] : Array Value).toList) xb 31 (rfArr (.slice A DV.length c) (P.vols.set j { y with closed := true, erase := true })) := vol_store { y with closed := true, erase := true } hB0 HK.out.2.2.2.2
    have hch : Chg (· = xb) W3 (W3.setCells xb (1 + j * 3) (#[.bool true, .bool true, .int .i64 y.gen] : Array Value).toList) := chg_setCells _ _
    have hC4 := hC.chg hch (by omega)
    have hS4 := hS.chg hch (by omega)
    have hE4 : Ext w (W3.setCells xb (1 + j * 3) (#[.bool true, .bool true, .int .i64 y.gen] : Array Value).toList) := hE.chg_trans hch |>.mono (fun k hk e => by have := HXB.out; have e' : k = xb := e; omega)
    have hVL : (P.vols.set j { y with closed := true, erase := true }).length = 12 := by rw [List.length_set]; exact HI.out.vlen
    have h37' := rfArr_size (.slice A DV.length c) hVL
    have hone' := rfArr_one A DV.length c (P.vols.set j { y with closed := true, erase := true })
    have hrf : RfIn (W3.setCells xb (1 + j * 3) (#[.bool true, .bool true, .int .i64 y.gen] : Array Value).toList) (.agg (rfArr (.slice A DV.length c) (P.vols.set j { y with closed := true, erase := true }))) (P.setVol j { y with closed := true, erase := true }) := ⟨_, DV, rfl, HDV.out, HR.out.ext hE4⟩
    generalize rfArr (.slice A DV.length c) (P.vols.set j { y with closed := true, erase := true }) = X2 at hB4 h37' hone' hrf
    have hTO := two_out (X := X2) (R := #[.int .i64 0, .int .u64 0, .int .i64 0, .int .u32 0, .slice none 0 0]) hC4 hS4 (by rw [HZ.out, h37']) rfl h37' rfl (by omega)
    have HTO := Lib.hid hTO
    have hroC : Chg (fun k => k = xb + 1 + 1 ∨ k = xb + 1 + 1 + 1) (W3.setCells xb (1 + j * 3) (#[.bool true, .bool true, .int .i64 y.gen] : Array Value).toList) (((W3.setCells xb (1 + j * 3) (#[.bool true, .bool true, .int .i64 y.gen] : Array Value).toList).setCells (xb + 1 + 1) 0 X2.toList).setCells (xb + 1 + 1 + 1) 0 (#[.int .i64 0, .int .u64 0, .int .i64 0, .int .u32 0, .slice none 0 0] : Array Value).toList) := Chg.setCells (Chg.setCells (Ext.refl (W3.setCells xb (1 + j * 3) (#[.bool true, .bool true, .int .i64 y.gen] : Array Value).toList)).chg (.inl rfl) _ _) (.inr rfl) _ _
    have HRO := Lib.hid (RfIn.two hrf ⟨_, hC4⟩ ⟨_, hS4⟩ hroC)
    have HEF := Lib.hid (hTO.ext w hE4 (by have := HXB.out; omega) (by have := HXB.out; omega))
    have HRX := Lib.hid hB4.range
    clear hB hY hC hS hE hV hTO hrf hroC hB0 hB4 hC4 hS4 hE4 hch hVL
    go_upto_region 21 with (refine wpList_store_mid rfl 28 _ _ rfl xb (1 + j * 3) #[.bool true, .bool true, .int .i64 y.gen] rfl rfl HTX.out vl_infoR (by simp [Value.oneCell']) ?_)
    clear y0 y9 v0 v1 v2 HTX
    generalize (W3.setCells xb (1 + j * 3) (#[.bool true, .bool true, .int .i64 y.gen] : Array Value).toList) = W4 at HTO HRO HEF HRX ⊢
    go_wp2_with (first | (refine wpList_load_mid rfl 31 _ rfl xb 0 rfl _ _ HRX.out Tryz.underlying31 rfl (by rw [Array.length_toList, h37']; exact rf_cinfo) ?_) | (refine wpList_store_mid rfl 31 _ _ rfl (xb + 1 + 1) 0 X2 rfl rfl HTO.out.t1 (by rw [h37']; exact rf_cinfo) hone' ?_) | (refine wpList_store_mid rfl 72 _ _ rfl (xb + 1 + 1 + 1) 0 #[.int .i64 0, .int .u64 0, .int .i64 0, .int .u32 0, .slice none 0 0] rfl rfl HTO.out.t2 res_info (by simp [Value.oneCell']) ?_))
    refine bodyPost_ret (v := .tuple #[.agg X2, .agg #[.int .i64 0, .int .u64 0, .int .i64 0, .int .u32 0, .slice none 0 0]]) (results_two Tryz.results20 _ rfl rfl HTO.out.l1 HTO.out.l2) rfl ?_
    rw [show P.app x = (P.setVol j { y with closed := true, erase := true }, Rs.er 0) from by rw [HAP.out]; unfold Pm.volume rs1; rw [if_neg (by rw [HK.out.2.1]; decide), if_pos HK.out.2.1, HPV.out, HK.out.2.2.1, if_pos HLN.out, Int.toNat_natCast]]
    exact ⟨.agg X2, .slice none 0 0, rfl, HRO.out, own_nil _ _ _, HEF.out⟩
  · have hlen : ((0 : Int) < (P.onVol (j : Int)).length) := by
      have := List.length_pos_iff.2 hlv
      omega
    have HLN := Lib.hid hlv
    generalize hpo : P.onVol (j : Int) = PO at hlen ⊢
    clear hpo hlv
    have hTO := two_out (X := X) (R := #[.int .i64 10, .int .u64 0, .int .i64 0, .int .u32 0, .slice none 0 0]) hC hS (by rw [HZ.out, H37.out]) rfl H37.out rfl (by omega)
    have HTO := Lib.hid hTO
    have HRG := Lib.hid hB.range
    have HEF := Lib.hid (hTO.ext w hE (by have := HXB.out; omega) (by have := HXB.out; omega))
    clear hB hY hC hS hE hTO
    go_wp2_with (first | (refine wpList_load_mid rfl 31 _ rfl xb 0 rfl _ _ HRG.out Tryz.underlying31 rfl HI1.out ?_) | (refine wpList_store_mid rfl 31 _ _ rfl (xb + 1 + 1) 0 X rfl rfl HTO.out.t1 HI2.out HONE.out ?_) | (refine wpList_store_mid rfl 72 _ _ rfl (xb + 1 + 1 + 1) 0 #[.int .i64 10, .int .u64 0, .int .i64 0, .int .u32 0, .slice none 0 0] rfl rfl HTO.out.t2 res_info (by simp [Value.oneCell']) ?_))
    refine bodyPost_ret (v := .tuple #[.agg X, .agg #[.int .i64 10, .int .u64 0, .int .i64 0, .int .u32 0, .slice none 0 0]]) (results_two Tryz.results20 _ rfl rfl HTO.out.l1 HTO.out.l2) rfl ?_
    rw [show P.app x = (P, Rs.er 10) from by rw [HAP.out]; unfold Pm.volume rs1; rw [if_neg (by rw [HK.out.2.1]; decide), if_pos HK.out.2.1, HK.out.2.2.1, if_neg HLN.out]]
    exact ⟨.agg X, .slice none 0 0, rfl, HRF.out.ext HEF.out, own_nil _ _ _, HEF.out⟩
set_option maxRecDepth 100000 in
set_option maxHeartbeats 8000000 in
theorem rapply_13 (w : World) (v : Value) (P : Pm) (n : Nat) (h : RfIn w v P) (hi : PInv n P) (hn : n ≤ 1000000) (x : Cmd) (dx : Value) (hx : w.ownsRow 0 3 1 dx x.disks.length (x.disks.map (Value.int .i64))) (hd : x.disks.length ≤ 17592186043904) (hnm : x.name.size ≤ 9223372036854775807) (hw : x.Wf) (j : Nat) (y : Vl) (hk : x.good = true ∧ x.kind = 13 ∧ x.vol = (j : Int) ∧ j < 12 ∧ P.vols[j]? = some y) :
    Calls Tryz.prog 20 #[v, cmdVal x dx] w (RcOut w (P.app x)) := by
  obtain ⟨lv, DV, rfl, hDV, hR⟩ := h
  have hlen : DV.length = P.L.length := by rw [← hDV, List.length_map]
  obtain ⟨A, c, rfl⟩ := own_slc hR.own
  obtain ⟨xA, xc, rfl⟩ := own_slc hx
  have HRF : Hid (RfIn w (.agg (rfArr (.slice A DV.length c) P.vols)) P) := Lib.hid ⟨_, DV, rfl, hDV, hR⟩
  have HX : Hid (rfArr (.slice A DV.length c) P.vols = (.slice A DV.length c :: (P.vols.map vlRow).flatten).toArray) := Lib.hid rfl
  have h37 := rfArr_size (.slice A DV.length c) hi.vlen
  have hone := rfArr_one A DV.length c P.vols
  have HVOL : Hid (∀ v y, P.vols[v]? = some y → (rfArr (.slice A DV.length c) P.vols)[1 + v * 3]? = some (.bool y.closed) ∧ (rfArr (.slice A DV.length c) P.vols)[1 + v * 3 + 1]? = some (.bool y.erase) ∧ (rfArr (.slice A DV.length c) P.vols)[1 + v * 3 + 2]? = some (.int .i64 y.gen)) := Lib.hid (fun v y h => rf_vol h)
  generalize hX : rfArr (.slice A DV.length c) P.vols = X at HX HRF HVOL h37 hone ⊢
  clear hX
  have H37 := Lib.hid h37
  have HONE := Lib.hid hone
  have HI1 : Hid ((Tryz.prog.info? 31).map (·.size) = some X.toList.length) := Lib.hid (by rw [Array.length_toList, h37]; exact rf_cinfo)
  have HI2 : Hid ((Tryz.prog.info? 31).map (·.size) = some X.size) := Lib.hid (by rw [h37]; exact rf_cinfo)
  have hX0 : X[0]? = some (.slice A DV.length c) := by rw [HX.out]; rfl
  have HX0 := Lib.hid hX0
  have HDV := Lib.hid hDV
  have HR := Lib.hid hR
  have HI := Lib.hid hi
  have HXO := Lib.hid hx
  have HK := Lib.hid hk
  clear hDV hlen hR hi hx hk hX0 h37 hone
  unfold cmdVal
  go_enter Tryz.func20, Tryz.ntmps20
  have hB := (((At.new w 31 X).alloc (.cells #[.int .i64 x.kind, .int .i64 x.client, .int .i64 x.seq, .string x.name, .int .u64 (x.blob : Int), .int .i64 x.size, .int .u32 (x.sum : Int), .slice xA x.disks.length xc, .int .i64 x.pool, .int .i64 x.vol, .int .i64 x.at_] 75)).alloc (.cells #[.slice none 0 0, .bool false, .bool false, .int .i64 0, .bool false, .bool false, .int .i64 0, .bool false, .bool false, .int .i64 0, .bool false, .bool false, .int .i64 0, .bool false, .bool false, .int .i64 0, .bool false, .bool false, .int .i64 0, .bool false, .bool false, .int .i64 0, .bool false, .bool false, .int .i64 0, .bool false, .bool false, .int .i64 0, .bool false, .bool false, .int .i64 0, .bool false, .bool false, .int .i64 0, .bool false, .bool false, .int .i64 0] 31)).alloc (.cells #[.int .i64 0, .int .u64 0, .int .i64 0, .int .u32 0, .slice none 0 0] 72)
  have hY := ((At.new (w.alloc (.cells X 31)) 75 #[.int .i64 x.kind, .int .i64 x.client, .int .i64 x.seq, .string x.name, .int .u64 (x.blob : Int), .int .i64 x.size, .int .u32 (x.sum : Int), .slice xA x.disks.length xc, .int .i64 x.pool, .int .i64 x.vol, .int .i64 x.at_]).alloc (.cells #[.slice none 0 0, .bool false, .bool false, .int .i64 0, .bool false, .bool false, .int .i64 0, .bool false, .bool false, .int .i64 0, .bool false, .bool false, .int .i64 0, .bool false, .bool false, .int .i64 0, .bool false, .bool false, .int .i64 0, .bool false, .bool false, .int .i64 0, .bool false, .bool false, .int .i64 0, .bool false, .bool false, .int .i64 0, .bool false, .bool false, .int .i64 0, .bool false, .bool false, .int .i64 0, .bool false, .bool false, .int .i64 0] 31)).alloc (.cells #[.int .i64 0, .int .u64 0, .int .i64 0, .int .u32 0, .slice none 0 0] 72)
  have hC := (At.new ((w.alloc (.cells X 31)).alloc (.cells #[.int .i64 x.kind, .int .i64 x.client, .int .i64 x.seq, .string x.name, .int .u64 (x.blob : Int), .int .i64 x.size, .int .u32 (x.sum : Int), .slice xA x.disks.length xc, .int .i64 x.pool, .int .i64 x.vol, .int .i64 x.at_] 75)) 31 #[.slice none 0 0, .bool false, .bool false, .int .i64 0, .bool false, .bool false, .int .i64 0, .bool false, .bool false, .int .i64 0, .bool false, .bool false, .int .i64 0, .bool false, .bool false, .int .i64 0, .bool false, .bool false, .int .i64 0, .bool false, .bool false, .int .i64 0, .bool false, .bool false, .int .i64 0, .bool false, .bool false, .int .i64 0, .bool false, .bool false, .int .i64 0, .bool false, .bool false, .int .i64 0, .bool false, .bool false, .int .i64 0]).alloc (.cells #[.int .i64 0, .int .u64 0, .int .i64 0, .int .u32 0, .slice none 0 0] 72)
  have hS := At.new (((w.alloc (.cells X 31)).alloc (.cells #[.int .i64 x.kind, .int .i64 x.client, .int .i64 x.seq, .string x.name, .int .u64 (x.blob : Int), .int .i64 x.size, .int .u32 (x.sum : Int), .slice xA x.disks.length xc, .int .i64 x.pool, .int .i64 x.vol, .int .i64 x.at_] 75)).alloc (.cells #[.slice none 0 0, .bool false, .bool false, .int .i64 0, .bool false, .bool false, .int .i64 0, .bool false, .bool false, .int .i64 0, .bool false, .bool false, .int .i64 0, .bool false, .bool false, .int .i64 0, .bool false, .bool false, .int .i64 0, .bool false, .bool false, .int .i64 0, .bool false, .bool false, .int .i64 0, .bool false, .bool false, .int .i64 0, .bool false, .bool false, .int .i64 0, .bool false, .bool false, .int .i64 0, .bool false, .bool false, .int .i64 0] 31)) 72 #[.int .i64 0, .int .u64 0, .int .i64 0, .int .u32 0, .slice none 0 0]
  have hE := ((((Ext.refl w).alloc (.cells X 31)).alloc (.cells #[.int .i64 x.kind, .int .i64 x.client, .int .i64 x.seq, .string x.name, .int .u64 (x.blob : Int), .int .i64 x.size, .int .u32 (x.sum : Int), .slice xA x.disks.length xc, .int .i64 x.pool, .int .i64 x.vol, .int .i64 x.at_] 75)).alloc (.cells #[.slice none 0 0, .bool false, .bool false, .int .i64 0, .bool false, .bool false, .int .i64 0, .bool false, .bool false, .int .i64 0, .bool false, .bool false, .int .i64 0, .bool false, .bool false, .int .i64 0, .bool false, .bool false, .int .i64 0, .bool false, .bool false, .int .i64 0, .bool false, .bool false, .int .i64 0, .bool false, .bool false, .int .i64 0, .bool false, .bool false, .int .i64 0, .bool false, .bool false, .int .i64 0, .bool false, .bool false, .int .i64 0] 31)).alloc (.cells #[.int .i64 0, .int .u64 0, .int .i64 0, .int .u32 0, .slice none 0 0] 72)
  rw [show (w.alloc (.cells X 31)).heap.size = w.heap.size + 1 by simp] at hY
  rw [show ((w.alloc (.cells X 31)).alloc (.cells #[.int .i64 x.kind, .int .i64 x.client, .int .i64 x.seq, .string x.name, .int .u64 (x.blob : Int), .int .i64 x.size, .int .u32 (x.sum : Int), .slice xA x.disks.length xc, .int .i64 x.pool, .int .i64 x.vol, .int .i64 x.at_] 75)).heap.size = w.heap.size + 1 + 1 by simp] at hC
  rw [show (((w.alloc (.cells X 31)).alloc (.cells #[.int .i64 x.kind, .int .i64 x.client, .int .i64 x.seq, .string x.name, .int .u64 (x.blob : Int), .int .i64 x.size, .int .u32 (x.sum : Int), .slice xA x.disks.length xc, .int .i64 x.pool, .int .i64 x.vol, .int .i64 x.at_] 75)).alloc (.cells #[.slice none 0 0, .bool false, .bool false, .int .i64 0, .bool false, .bool false, .int .i64 0, .bool false, .bool false, .int .i64 0, .bool false, .bool false, .int .i64 0, .bool false, .bool false, .int .i64 0, .bool false, .bool false, .int .i64 0, .bool false, .bool false, .int .i64 0, .bool false, .bool false, .int .i64 0, .bool false, .bool false, .int .i64 0, .bool false, .bool false, .int .i64 0, .bool false, .bool false, .int .i64 0, .bool false, .bool false, .int .i64 0] 31)).heap.size = w.heap.size + 1 + 1 + 1 by simp] at hS
  go_upto_region 1 with fail
  obtain ⟨xb, hxb⟩ : ∃ xb, w.heap.size = xb := ⟨_, rfl⟩
  rw [hxb] at hB hY hC hS ⊢
  generalize World.alloc _ _ = W at hB hY hC hS hE ⊢
  have HXB := Lib.hid (show w.heap.size ≤ xb by omega)
  clear hxb
  have HZ : Hid ((#[.slice none 0 0, .bool false, .bool false, .int .i64 0, .bool false, .bool false, .int .i64 0, .bool false, .bool false, .int .i64 0, .bool false, .bool false, .int .i64 0, .bool false, .bool false, .int .i64 0, .bool false, .bool false, .int .i64 0, .bool false, .bool false, .int .i64 0, .bool false, .bool false, .int .i64 0, .bool false, .bool false, .int .i64 0, .bool false, .bool false, .int .i64 0, .bool false, .bool false, .int .i64 0, .bool false, .bool false, .int .i64 0] : Array Value).size = 37) := Lib.hid rfl
  generalize (#[.slice none 0 0, .bool false, .bool false, .int .i64 0, .bool false, .bool false, .int .i64 0, .bool false, .bool false, .int .i64 0, .bool false, .bool false, .int .i64 0, .bool false, .bool false, .int .i64 0, .bool false, .bool false, .int .i64 0, .bool false, .bool false, .int .i64 0, .bool false, .bool false, .int .i64 0, .bool false, .bool false, .int .i64 0, .bool false, .bool false, .int .i64 0, .bool false, .bool false, .int .i64 0, .bool false, .bool false, .int .i64 0] : Array Value) = ZC at hC HZ
  have lS := hS.lt
  have lC := hC.lt
  have lY := hY.lt
  have lB := hB.lt
  have y0 := hY.cell 0
  simp at y0
  have HGD : Hid (x.good = true) := Lib.hid HK.out.1
  clear y0
  have HG := Lib.hid (rgood_any W x (.slice xA x.disks.length xc) (own_sl (own_keep HXO.out hE (fun _ _ hh => hh))) hd hnm)
  rw [HGD.out] at HG
  have HRY := Lib.hid hY.range
  go_wp2_with (refine wpList_load_mid rfl 75 _ rfl (xb + 1) 0 rfl _ _ HRY.out Tryz.underlying75 rfl cmd_infoR ?_)
  refine HG.out.mono ?_
  rintro e w1 ⟨rfl, hE1⟩
  have hB := hB.ext hE1
  have hY := hY.ext hE1
  have hC := hC.ext hE1
  have hS := hS.ext hE1
  have hE := hE.trans hE1
  have lS := hS.lt
  have lC := hC.lt
  have lY := hY.lt
  have lB := hB.lt
  clear HG HRY
  have y0 := hY.cell 0
  have y9 := hY.cell 9
  simp at y0 y9
  rw [HK.out.2.1] at y0
  rw [HK.out.2.2.1] at y9
  have hj12 := HK.out.2.2.2.1
  have HYV := Lib.hid (HVOL.out j y HK.out.2.2.2.2)
  have x0 := hB.cell (1 + j * 3)
  have x1 := hB.cell (1 + j * 3 + 1)
  have x2 := hB.cell (1 + j * 3 + 2)
  rw [HYV.out.1] at x0
  rw [HYV.out.2.1] at x1
  rw [HYV.out.2.2] at x2
  have hV := At.new w1 28 #[.bool y.closed, .bool y.erase, .int .i64 y.gen]
  have hEV := (Ext.refl w1).alloc (.cells #[.bool y.closed, .bool y.erase, .int .i64 y.gen] 28)
  go_upto_region 6 with fail
  clear x0 x1 x2
  have HVB := Lib.hid (show w.heap.size ≤ w1.heap.size from hE.size)
  generalize w1.heap.size = vb at hV HVB ⊢
  generalize w1.alloc (.cells #[.bool y.closed, .bool y.erase, .int .i64 y.gen] 28) = W2 at hV hEV ⊢
  have hB := hB.ext hEV
  have hY := hY.ext hEV
  have hC := hC.ext hEV
  have hS := hS.ext hEV
  have hE := hE.trans hEV
  have lS := hS.lt
  have lC := hC.lt
  have lY := hY.lt
  have lB := hB.lt
  have y0 := hY.cell 0
  simp at y0
  rw [HK.out.2.1] at y0
  have v0 := hV.cell 0
  have vf0 := hV.frozen 0
  have v1 := hV.cell 1
  have vf1 := hV.frozen 1
  simp at v0 v1
  have HAP := Lib.hid (show P.app x = rs1 (P.volume x) from by unfold Pm.app; rw [if_neg (by rw [HK.out.1]; decide), if_neg (by rw [HK.out.2.1]; decide), if_neg (by rw [HK.out.2.1]; decide), if_neg (by rw [HK.out.2.1]; decide), if_pos (by rw [HK.out.2.1]; decide)])
  have HPV : Hid (P.vol x.vol.toNat = y) := Lib.hid (by unfold Pm.vol; rw [HK.out.2.2.1, Int.toNat_natCast, List.getD_eq_getElem?_getD, HK.out.2.2.2.2]; rfl)
  rcases Bool.eq_false_or_eq_true y.erase with her | her
  rotate_left
  · rw [her] at v1
    have HER := Lib.hid her
    have hTO := two_out (X := X) (R := #[.int .i64 16, .int .u64 0, .int .i64 0, .int .u32 0, .slice none 0 0]) hC hS (by rw [HZ.out, H37.out]) rfl H37.out rfl (by omega)
    have HTO := Lib.hid hTO
    have HRG := Lib.hid hB.range
    have HEF := Lib.hid (hTO.ext w hE (by have := HXB.out; omega) (by have := HXB.out; omega))
    clear hB hY hC hS hE hTO
    go_wp2_with (first | (refine wpList_load_mid rfl 31 _ rfl xb 0 rfl _ _ HRG.out Tryz.underlying31 rfl HI1.out ?_) | (refine wpList_store_mid rfl 31 _ _ rfl (xb + 1 + 1) 0 X rfl rfl HTO.out.t1 HI2.out HONE.out ?_) | (refine wpList_store_mid rfl 72 _ _ rfl (xb + 1 + 1 + 1) 0 #[.int .i64 16, .int .u64 0, .int .i64 0, .int .u32 0, .slice none 0 0] rfl rfl HTO.out.t2 res_info (by simp [Value.oneCell']) ?_))
    refine bodyPost_ret (v := .tuple #[.agg X, .agg #[.int .i64 16, .int .u64 0, .int .i64 0, .int .u32 0, .slice none 0 0]]) (results_two Tryz.results20 _ rfl rfl HTO.out.l1 HTO.out.l2) rfl ?_
    rw [show P.app x = (P, Rs.er 16) from by rw [HAP.out]; unfold Pm.volume rs1; rw [if_neg (by rw [HK.out.2.1]; decide), if_neg (by rw [HK.out.2.1]; decide), HPV.out, if_neg (by rw [HER.out]; decide)]]
    exact ⟨.agg X, .slice none 0 0, rfl, HRF.out.ext HEF.out, own_nil _ _ _, HEF.out⟩
  · rw [her] at v1
    have HER := Lib.hid her
    clear her
    have v2 := hV.cell 2
    simp at v2
    have hgw : IntKind.i64.wrap (y.gen + 1) = y.gen + 1 := IntWalk.i64_in _ (by have := HI.out.gen y (List.mem_of_getElem? HK.out.2.2.2.2); omega)
    have HTV := Lib.hid hV.there
    go_upto_region 19 with (refine wpList_store_mid rfl 28 _ _ rfl vb 0 #[.bool false, .bool false, .int .i64 (y.gen + 1)] rfl rfl HTV.out vl_infoR (by simp [Value.oneCell']) ?_)
    clear v0 vf0 v1 vf1 v2 y0 y9 hgw HTV
    have hne : xb ≠ vb := At.ne hB hV (by decide)
    have hne2 : xb + 1 + 1 ≠ vb := At.ne hC hV (by decide)
    have hne3 : xb + 1 + 1 + 1 ≠ vb := At.ne hS hV (by decide)
    have hne4 : xb + 1 ≠ vb := At.ne hY hV (by decide)
    have kV : At (W2.setCells vb 0 (#[.bool false, .bool false, .int .i64 (y.gen + 1)] : Array Value).toList) vb 28 #[.bool false, .bool false, .int .i64 (y.gen + 1)] := ((hV.set 0 (.bool false)).set 1 (.bool false)).set 2 (.int .i64 (y.gen + 1))
    have hch : Chg (· = vb) W2 (W2.setCells vb 0 (#[.bool false, .bool false, .int .i64 (y.gen + 1)] : Array Value).toList) := chg_setCells _ _
    have hE3 : Ext w (W2.setCells vb 0 (#[.bool false, .bool false, .int .i64 (y.gen + 1)] : Array Value).toList) := hE.chg_trans hch |>.mono (fun k hk e => by have := HVB.out; have e' : k = vb := e; omega)
    have kB := hB.chg hch hne
    have kC := hC.chg hch hne2
    have kS := hS.chg hch hne3
    have kY := hY.chg hch hne4
    clear hB hC hS hY hV hE hch hne hne2 hne3 hne4 lC lS lY lB
    generalize (W2.setCells vb 0 (#[.bool false, .bool false, .int .i64 (y.gen + 1)] : Array Value).toList) = W3 at kB kC kS kY kV hE3 ⊢
    have hB := kB
    have hC := kC
    have hS := kS
    have hY := kY
    have hV := kV
    have hE := hE3
    clear kB kC kS kY kV hE3
    have y0 := hY.cell 0
    have y9 := hY.cell 9
    simp at y0 y9
    rw [HK.out.2.1] at y0
    rw [HK.out.2.2.1] at y9
    have v0 := hV.cell 0
    have v1 := hV.cell 1
    have v2 := hV.cell 2
    simp at v0 v1 v2
    have HTX : Hid (W3.there xb (1 + j * 3) 3) := Lib.hid (fun i hi3 => by have h := hB.there (1 + j * 3 + i) (by rw [H37.out]; omega); simpa using h)
    have hB0 : At W3 xb 31 (rfArr (.slice A DV.length c) P.vols) := by have h := hB; rw [HX.out] at h; exact h
    have hB4 : At (W3.setCells xb (1 + j * 3) (#[.bool false, .bool false, .int .i64 (y.gen + 1)] : Array Value).toList) xb 31 (rfArr (.slice A DV.length c) (P.vols.set j ⟨false, false, y.gen + 1⟩)) := vol_store ⟨false, false, y.gen + 1⟩ hB0 HK.out.2.2.2.2
    have hch : Chg (· = xb) W3 (W3.setCells xb (1 + j * 3) (#[.bool false, .bool false, .int .i64 (y.gen + 1)] : Array Value).toList) := chg_setCells _ _
    have hC4 := hC.chg hch (by omega)
    have hS4 := hS.chg hch (by omega)
    have hE4 : Ext w (W3.setCells xb (1 + j * 3) (#[.bool false, .bool false, .int .i64 (y.gen + 1)] : Array Value).toList) := hE.chg_trans hch |>.mono (fun k hk e => by have := HXB.out; have e' : k = xb := e; omega)
    have hVL : (P.vols.set j ⟨false, false, y.gen + 1⟩).length = 12 := by rw [List.length_set]; exact HI.out.vlen
    have h37' := rfArr_size (.slice A DV.length c) hVL
    have hone' := rfArr_one A DV.length c (P.vols.set j ⟨false, false, y.gen + 1⟩)
    have hrf : RfIn (W3.setCells xb (1 + j * 3) (#[.bool false, .bool false, .int .i64 (y.gen + 1)] : Array Value).toList) (.agg (rfArr (.slice A DV.length c) (P.vols.set j ⟨false, false, y.gen + 1⟩))) (P.setVol j ⟨false, false, y.gen + 1⟩) := ⟨_, DV, rfl, HDV.out, HR.out.ext hE4⟩
    generalize rfArr (.slice A DV.length c) (P.vols.set j ⟨false, false, y.gen + 1⟩) = X2 at hB4 h37' hone' hrf
    have hTO := two_out (X := X2) (R := #[.int .i64 0, .int .u64 0, .int .i64 0, .int .u32 0, .slice none 0 0]) hC4 hS4 (by rw [HZ.out, h37']) rfl h37' rfl (by omega)
    have HTO := Lib.hid hTO
    have hroC : Chg (fun k => k = xb + 1 + 1 ∨ k = xb + 1 + 1 + 1) (W3.setCells xb (1 + j * 3) (#[.bool false, .bool false, .int .i64 (y.gen + 1)] : Array Value).toList) (((W3.setCells xb (1 + j * 3) (#[.bool false, .bool false, .int .i64 (y.gen + 1)] : Array Value).toList).setCells (xb + 1 + 1) 0 X2.toList).setCells (xb + 1 + 1 + 1) 0 (#[.int .i64 0, .int .u64 0, .int .i64 0, .int .u32 0, .slice none 0 0] : Array Value).toList) := Chg.setCells (Chg.setCells (Ext.refl (W3.setCells xb (1 + j * 3) (#[.bool false, .bool false, .int .i64 (y.gen + 1)] : Array Value).toList)).chg (.inl rfl) _ _) (.inr rfl) _ _
    have HRO := Lib.hid (RfIn.two hrf ⟨_, hC4⟩ ⟨_, hS4⟩ hroC)
    have HEF := Lib.hid (hTO.ext w hE4 (by have := HXB.out; omega) (by have := HXB.out; omega))
    have HRX := Lib.hid hB4.range
    clear hB hY hC hS hE hV hTO hrf hroC hB0 hB4 hC4 hS4 hE4 hch hVL
    go_upto_region 21 with (refine wpList_store_mid rfl 28 _ _ rfl xb (1 + j * 3) #[.bool false, .bool false, .int .i64 (y.gen + 1)] rfl rfl HTX.out vl_infoR (by simp [Value.oneCell']) ?_)
    clear y0 y9 v0 v1 v2 HTX
    generalize (W3.setCells xb (1 + j * 3) (#[.bool false, .bool false, .int .i64 (y.gen + 1)] : Array Value).toList) = W4 at HTO HRO HEF HRX ⊢
    go_wp2_with (first | (refine wpList_load_mid rfl 31 _ rfl xb 0 rfl _ _ HRX.out Tryz.underlying31 rfl (by rw [Array.length_toList, h37']; exact rf_cinfo) ?_) | (refine wpList_store_mid rfl 31 _ _ rfl (xb + 1 + 1) 0 X2 rfl rfl HTO.out.t1 (by rw [h37']; exact rf_cinfo) hone' ?_) | (refine wpList_store_mid rfl 72 _ _ rfl (xb + 1 + 1 + 1) 0 #[.int .i64 0, .int .u64 0, .int .i64 0, .int .u32 0, .slice none 0 0] rfl rfl HTO.out.t2 res_info (by simp [Value.oneCell']) ?_))
    refine bodyPost_ret (v := .tuple #[.agg X2, .agg #[.int .i64 0, .int .u64 0, .int .i64 0, .int .u32 0, .slice none 0 0]]) (results_two Tryz.results20 _ rfl rfl HTO.out.l1 HTO.out.l2) rfl ?_
    rw [show P.app x = (P.setVol j ⟨false, false, y.gen + 1⟩, Rs.er 0) from by rw [HAP.out]; unfold Pm.volume rs1; rw [if_neg (by rw [HK.out.2.1]; decide), if_neg (by rw [HK.out.2.1]; decide), HPV.out, if_pos HER.out, HK.out.2.2.1, Int.toNat_natCast]]
    exact ⟨.agg X2, .slice none 0 0, rfl, HRO.out, own_nil _ _ _, HEF.out⟩
end Go.Proofs.YtchnejfdompfpaaGreat
