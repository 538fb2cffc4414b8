/-
  The document's client: all kinds.
  The document's Apply: a command that isn't good; a client's.
-/
import Derived.Test.YtchnejfdompfpaaGreatRfC1
namespace Go.Proofs.YtchnejfdompfpaaGreat
open Go.RowKit
set_option maxHeartbeats 400000 in
theorem rclient_any (w : World) (v : Value) (P : Pm) (n : Nat) (h : RfIn w v P) (hi : PInv n P) (hn : n ≤ 1000000) (x : Cmd) (dx : Value) (hx : w.ownsRow 0 3 1 dx x.disks.length (x.disks.map (Value.int .i64))) (hk : 1 ≤ x.kind) (hk6 : x.kind < 6) (hg : x.good = true) (hd : x.disks.length ≤ 17592186043904) :
    Calls Tryz.prog 63 #[v, cmdVal x dx] w (RcOut w (P.app x)) := by
  have g : ¬ x.good = false := by rw [hg]; decide
  unfold Pm.app
  rw [if_neg g]
  by_cases h1 : x.kind = 1
  · rw [if_pos h1]; exact rclient_1 w v P n h hi hn x dx hx h1 hd
  · rw [if_neg h1]
    by_cases h4 : x.kind = 4
    · rw [if_pos h4]; exact rclient_4 w v P n h hi hn x dx hx h4
    · rw [if_neg h4, if_pos hk6]
      by_cases h2 : x.kind = 2
      · exact rclient_2 w v P n h hi hn x dx hx h2
      · by_cases h3 : x.kind = 3
        · exact rclient_3 w v P n h hi hn x dx hx h3
        · exact rclient_5 w v P n h hi hn x dx hx (by omega)
end Go.Proofs.YtchnejfdompfpaaGreat
namespace Go.Proofs.YtchnejfdompfpaaGreat
open Go.RowKit Go.Sort

theorem cmd_infoR : (Tryz.prog.info? 75).map (·.size) = some 11 := by kernel_rfl
set_option maxRecDepth 100000 in
set_option maxHeartbeats 8000000 in
theorem rapply_bad (w : World) (v : Value) (P : Pm) (n : Nat) (h : RfIn w v P) (hi : PInv n P) (hn : n ≤ 1000000) (x : Cmd) (dx : Value) (hx : w.ownsRow 0 3 1 dx x.disks.length (x.disks.map (Value.int .i64))) (hd : x.disks.length ≤ 17592186043904) (hnm : x.name.size ≤ 9223372036854775807) (hw : x.Wf) (hk : x.good = false) :
    Calls Tryz.prog 20 #[v, cmdVal x dx] w (RcOut w (P.app x)) := by
  obtain ⟨lv, DV, rfl, hDV, hR⟩ := h
  have hlen : DV.length = P.L.length := by rw [← hDV, List.length_map]
  obtain ⟨A, c, rfl⟩ := own_slc hR.own
  obtain ⟨xA, xc, rfl⟩ := own_slc hx
  have HRF : Hid (RfIn w (.agg (rfArr (.slice A DV.length c) P.vols)) P) := Lib.hid ⟨_, DV, rfl, hDV, hR⟩
  have HX : Hid (rfArr (.slice A DV.length c) P.vols = (.slice A DV.length c :: (P.vols.map vlRow).flatten).toArray) := Lib.hid rfl
  have h37 := rfArr_size (.slice A DV.length c) hi.vlen
  have hone := rfArr_one A DV.length c P.vols
  have HVOL : Hid (∀ v y, P.vols[v]? = some y → (rfArr (.slice A DV.length c) P.vols)[1 + v * 3]? = some (.bool y.closed) ∧ (rfArr (.slice A DV.length c) P.vols)[1 + v * 3 + 1]? = some (.bool y.erase) ∧ (rfArr (.slice A DV.length c) P.vols)[1 + v * 3 + 2]? = some (.int .i64 y.gen)) := Lib.hid (fun v y h => rf_vol h)
  generalize hX : rfArr (.slice A DV.length c) P.vols = X at HX HRF HVOL h37 hone ⊢
  clear hX
  have H37 := Lib.hid h37
  have HONE := Lib.hid hone
  have HI1 : Hid ((Tryz.prog.info? 31).map (·.size) = some X.toList.length) := Lib.hid (by rw [Array.length_toList, h37]; exact rf_cinfo)
  have HI2 : Hid ((Tryz.prog.info? 31).map (·.size) = some X.size) := Lib.hid (by rw [h37]; exact rf_cinfo)
  have hX0 : X[0]? = some (.slice A DV.length c) := by rw [HX.out]; rfl
  have HX0 := Lib.hid hX0
  have HDV := Lib.hid hDV
  have HR := Lib.hid hR
  have HI := Lib.hid hi
  have HXO := Lib.hid hx
  have HK := Lib.hid hk
  clear hDV hlen hR hi hx hk hX0 h37 hone
  unfold cmdVal
  go_enter Tryz.func20, Tryz.ntmps20
  have hB := (((At.new w 31 X).alloc (.cells #[.int .i64 x.kind, .int .i64 x.client, .int .i64 x.seq, .string x.name, .int .u64 (x.blob : Int), .int .i64 x.size, .int .u32 (x.sum : Int), .slice xA x.disks.length xc, .int .i64 x.pool, .int .i64 x.vol, .int .i64 x.at_] 75)).alloc (.cells #[.slice none 0 0, .bool false, .bool false, .int .i64 0, .bool false, .bool false, .int .i64 0, .bool false, .bool false, .int .i64 0, .bool false, .bool false, .int .i64 0, .bool false, .bool false, .int .i64 0, .bool false, .bool false, .int .i64 0, .bool false, .bool false, .int .i64 0, .bool false, .bool false, .int .i64 0, .bool false, .bool false, .int .i64 0, .bool false, .bool false, .int .i64 0, .bool false, .bool false, .int .i64 0, .bool false, .bool false, .int .i64 0] 31)).alloc (.cells #[.int .i64 0, .int .u64 0, .int .i64 0, .int .u32 0, .slice none 0 0] 72)
  have hY := ((At.new (w.alloc (.cells X 31)) 75 #[.int .i64 x.kind, .int .i64 x.client, .int .i64 x.seq, .string x.name, .int .u64 (x.blob : Int), .int .i64 x.size, .int .u32 (x.sum : Int), .slice xA x.disks.length xc, .int .i64 x.pool, .int .i64 x.vol, .int .i64 x.at_]).alloc (.cells #[.slice none 0 0, .bool false, .bool false, .int .i64 0, .bool false, .bool false, .int .i64 0, .bool false, .bool false, .int .i64 0, .bool false, .bool false, .int .i64 0, .bool false, .bool false, .int .i64 0, .bool false, .bool false, .int .i64 0, .bool false, .bool false, .int .i64 0, .bool false, .bool false, .int .i64 0, .bool false, .bool false, .int .i64 0, .bool false, .bool false, .int .i64 0, .bool false, .bool false, .int .i64 0, .bool false, .bool false, .int .i64 0] 31)).alloc (.cells #[.int .i64 0, .int .u64 0, .int .i64 0, .int .u32 0, .slice none 0 0] 72)
  have hC := (At.new ((w.alloc (.cells X 31)).alloc (.cells #[.int .i64 x.kind, .int .i64 x.client, .int .i64 x.seq, .string x.name, .int .u64 (x.blob : Int), .int .i64 x.size, .int .u32 (x.sum : Int), .slice xA x.disks.length xc, .int .i64 x.pool, .int .i64 x.vol, .int .i64 x.at_] 75)) 31 #[.slice none 0 0, .bool false, .bool false, .int .i64 0, .bool false, .bool false, .int .i64 0, .bool false, .bool false, .int .i64 0, .bool false, .bool false, .int .i64 0, .bool false, .bool false, .int .i64 0, .bool false, .bool false, .int .i64 0, .bool false, .bool false, .int .i64 0, .bool false, .bool false, .int .i64 0, .bool false, .bool false, .int .i64 0, .bool false, .bool false, .int .i64 0, .bool false, .bool false, .int .i64 0, .bool false, .bool false, .int .i64 0]).alloc (.cells #[.int .i64 0, .int .u64 0, .int .i64 0, .int .u32 0, .slice none 0 0] 72)
  have hS := At.new (((w.alloc (.cells X 31)).alloc (.cells #[.int .i64 x.kind, .int .i64 x.client, .int .i64 x.seq, .string x.name, .int .u64 (x.blob : Int), .int .i64 x.size, .int .u32 (x.sum : Int), .slice xA x.disks.length xc, .int .i64 x.pool, .int .i64 x.vol, .int .i64 x.at_] 75)).alloc (.cells #[.slice none 0 0, .bool false, .bool false, .int .i64 0, .bool false, .bool false, .int .i64 0, .bool false, .bool false, .int .i64 0, .bool false, .bool false, .int .i64 0, .bool false, .bool false, .int .i64 0, .bool false, .bool false, .int .i64 0, .bool false, .bool false, .int .i64 0, .bool false, .bool false, .int .i64 0, .bool false, .bool false, .int .i64 0, .bool false, .bool false, .int .i64 0, .bool false, .bool false, .int .i64 0, .bool false, .bool false, .int .i64 0] 31)) 72 #[.int .i64 0, .int .u64 0, .int .i64 0, .int .u32 0, .slice none 0 0]
  have hE := ((((Ext.refl w).alloc (.cells X 31)).alloc (.cells #[.int .i64 x.kind, .int .i64 x.client, .int .i64 x.seq, .string x.name, .int .u64 (x.blob : Int), .int .i64 x.size, .int .u32 (x.sum : Int), .slice xA x.disks.length xc, .int .i64 x.pool, .int .i64 x.vol, .int .i64 x.at_] 75)).alloc (.cells #[.slice none 0 0, .bool false, .bool false, .int .i64 0, .bool false, .bool false, .int .i64 0, .bool false, .bool false, .int .i64 0, .bool false, .bool false, .int .i64 0, .bool false, .bool false, .int .i64 0, .bool false, .bool false, .int .i64 0, .bool false, .bool false, .int .i64 0, .bool false, .bool false, .int .i64 0, .bool false, .bool false, .int .i64 0, .bool false, .bool false, .int .i64 0, .bool false, .bool false, .int .i64 0, .bool false, .bool false, .int .i64 0] 31)).alloc (.cells #[.int .i64 0, .int .u64 0, .int .i64 0, .int .u32 0, .slice none 0 0] 72)
  rw [show (w.alloc (.cells X 31)).heap.size = w.heap.size + 1 by simp] at hY
  rw [show ((w.alloc (.cells X 31)).alloc (.cells #[.int .i64 x.kind, .int .i64 x.client, .int .i64 x.seq, .string x.name, .int .u64 (x.blob : Int), .int .i64 x.size, .int .u32 (x.sum : Int), .slice xA x.disks.length xc, .int .i64 x.pool, .int .i64 x.vol, .int .i64 x.at_] 75)).heap.size = w.heap.size + 1 + 1 by simp] at hC
  rw [show (((w.alloc (.cells X 31)).alloc (.cells #[.int .i64 x.kind, .int .i64 x.client, .int .i64 x.seq, .string x.name, .int .u64 (x.blob : Int), .int .i64 x.size, .int .u32 (x.sum : Int), .slice xA x.disks.length xc, .int .i64 x.pool, .int .i64 x.vol, .int .i64 x.at_] 75)).alloc (.cells #[.slice none 0 0, .bool false, .bool false, .int .i64 0, .bool false, .bool false, .int .i64 0, .bool false, .bool false, .int .i64 0, .bool false, .bool false, .int .i64 0, .bool false, .bool false, .int .i64 0, .bool false, .bool false, .int .i64 0, .bool false, .bool false, .int .i64 0, .bool false, .bool false, .int .i64 0, .bool false, .bool false, .int .i64 0, .bool false, .bool false, .int .i64 0, .bool false, .bool false, .int .i64 0, .bool false, .bool false, .int .i64 0] 31)).heap.size = w.heap.size + 1 + 1 + 1 by simp] at hS
  go_upto_region 1 with fail
  obtain ⟨xb, hxb⟩ : ∃ xb, w.heap.size = xb := ⟨_, rfl⟩
  rw [hxb] at hB hY hC hS ⊢
  generalize World.alloc _ _ = W at hB hY hC hS hE ⊢
  have HXB := Lib.hid (show w.heap.size ≤ xb by omega)
  clear hxb
  have HZ : Hid ((#[.slice none 0 0, .bool false, .bool false, .int .i64 0, .bool false, .bool false, .int .i64 0, .bool false, .bool false, .int .i64 0, .bool false, .bool false, .int .i64 0, .bool false, .bool false, .int .i64 0, .bool false, .bool false, .int .i64 0, .bool false, .bool false, .int .i64 0, .bool false, .bool false, .int .i64 0, .bool false, .bool false, .int .i64 0, .bool false, .bool false, .int .i64 0, .bool false, .bool false, .int .i64 0, .bool false, .bool false, .int .i64 0] : Array Value).size = 37) := Lib.hid rfl
  generalize (#[.slice none 0 0, .bool false, .bool false, .int .i64 0, .bool false, .bool false, .int .i64 0, .bool false, .bool false, .int .i64 0, .bool false, .bool false, .int .i64 0, .bool false, .bool false, .int .i64 0, .bool false, .bool false, .int .i64 0, .bool false, .bool false, .int .i64 0, .bool false, .bool false, .int .i64 0, .bool false, .bool false, .int .i64 0, .bool false, .bool false, .int .i64 0, .bool false, .bool false, .int .i64 0, .bool false, .bool false, .int .i64 0] : Array Value) = ZC at hC HZ
  have lS := hS.lt
  have lC := hC.lt
  have lY := hY.lt
  have lB := hB.lt
  have y0 := hY.cell 0
  simp at y0
  have HGD := HK
  clear y0
  have HG := Lib.hid (rgood_any W x (.slice xA x.disks.length xc) (own_sl (own_keep HXO.out hE (fun _ _ hh => hh))) hd hnm)
  rw [HGD.out] at HG
  have HRY := Lib.hid hY.range
  go_wp2_with (refine wpList_load_mid rfl 75 _ rfl (xb + 1) 0 rfl _ _ HRY.out Tryz.underlying75 rfl cmd_infoR ?_)
  refine HG.out.mono ?_
  rintro e w1 ⟨rfl, hE1⟩
  have hB := hB.ext hE1
  have hY := hY.ext hE1
  have hC := hC.ext hE1
  have hS := hS.ext hE1
  have hE := hE.trans hE1
  have lS := hS.lt
  have lC := hC.lt
  have lY := hY.lt
  have lB := hB.lt
  clear HG HRY
  have hTO := two_out (X := X) (R := #[.int .i64 3, .int .u64 0, .int .i64 0, .int .u32 0, .slice none 0 0]) hC hS (by rw [HZ.out, H37.out]) rfl H37.out rfl (by omega)
  have HTO := Lib.hid hTO
  have HRG := Lib.hid hB.range
  have HEF := Lib.hid (hTO.ext w hE (by have := HXB.out; omega) (by have := HXB.out; omega))
  clear hB hY hC hS hE hTO
  go_wp2_with (first | (refine wpList_load_mid rfl 31 _ rfl xb 0 rfl _ _ HRG.out Tryz.underlying31 rfl HI1.out ?_) | (refine wpList_store_mid rfl 31 _ _ rfl (xb + 1 + 1) 0 X rfl rfl HTO.out.t1 HI2.out HONE.out ?_) | (refine wpList_store_mid rfl 72 _ _ rfl (xb + 1 + 1 + 1) 0 #[.int .i64 3, .int .u64 0, .int .i64 0, .int .u32 0, .slice none 0 0] rfl rfl HTO.out.t2 res_info (by simp [Value.oneCell']) ?_))
  refine bodyPost_ret (v := .tuple #[.agg X, .agg #[.int .i64 3, .int .u64 0, .int .i64 0, .int .u32 0, .slice none 0 0]]) (results_two Tryz.results20 _ rfl rfl HTO.out.l1 HTO.out.l2) rfl ?_
  rw [show P.app x = (P, Rs.er 3) from by unfold Pm.app; rw [if_pos HK.out]]
  exact ⟨.agg X, .slice none 0 0, rfl, HRF.out.ext HEF.out, own_nil _ _ _, HEF.out⟩
set_option maxRecDepth 100000 in
set_option maxHeartbeats 8000000 in
theorem rapply_client (w : World) (v : Value) (P : Pm) (n : Nat) (h : RfIn w v P) (hi : PInv n P) (hn : n ≤ 1000000) (x : Cmd) (dx : Value) (hx : w.ownsRow 0 3 1 dx x.disks.length (x.disks.map (Value.int .i64))) (hd : x.disks.length ≤ 17592186043904) (hnm : x.name.size ≤ 9223372036854775807) (hw : x.Wf) (hk : x.good = true ∧ 1 ≤ x.kind ∧ x.kind < 6) :
    Calls Tryz.prog 20 #[v, cmdVal x dx] w (RcOut w (P.app x)) := by
  obtain ⟨lv, DV, rfl, hDV, hR⟩ := h
  have hlen : DV.length = P.L.length := by rw [← hDV, List.length_map]
  obtain ⟨A, c, rfl⟩ := own_slc hR.own
  obtain ⟨xA, xc, rfl⟩ := own_slc hx
  have HRF : Hid (RfIn w (.agg (rfArr (.slice A DV.length c) P.vols)) P) := Lib.hid ⟨_, DV, rfl, hDV, hR⟩
  have HX : Hid (rfArr (.slice A DV.length c) P.vols = (.slice A DV.length c :: (P.vols.map vlRow).flatten).toArray) := Lib.hid rfl
  have h37 := rfArr_size (.slice A DV.length c) hi.vlen
  have hone := rfArr_one A DV.length c P.vols
  have HVOL : Hid (∀ v y, P.vols[v]? = some y → (rfArr (.slice A DV.length c) P.vols)[1 + v * 3]? = some (.bool y.closed) ∧ (rfArr (.slice A DV.length c) P.vols)[1 + v * 3 + 1]? = some (.bool y.erase) ∧ (rfArr (.slice A DV.length c) P.vols)[1 + v * 3 + 2]? = some (.int .i64 y.gen)) := Lib.hid (fun v y h => rf_vol h)
  generalize hX : rfArr (.slice A DV.length c) P.vols = X at HX HRF HVOL h37 hone ⊢
  clear hX
  have H37 := Lib.hid h37
  have HONE := Lib.hid hone
  have HI1 : Hid ((Tryz.prog.info? 31).map (·.size) = some X.toList.length) := Lib.hid (by rw [Array.length_toList, h37]; exact rf_cinfo)
  have HI2 : Hid ((Tryz.prog.info? 31).map (·.size) = some X.size) := Lib.hid (by rw [h37]; exact rf_cinfo)
  have hX0 : X[0]? = some (.slice A DV.length c) := by rw [HX.out]; rfl
  have HX0 := Lib.hid hX0
  have HDV := Lib.hid hDV
  have HR := Lib.hid hR
  have HI := Lib.hid hi
  have HXO := Lib.hid hx
  have HK := Lib.hid hk
  clear hDV hlen hR hi hx hk hX0 h37 hone
  unfold cmdVal
  go_enter Tryz.func20, Tryz.ntmps20
  have hB := (((At.new w 31 X).alloc (.cells #[.int .i64 x.kind, .int .i64 x.client, .int .i64 x.seq, .string x.name, .int .u64 (x.blob : Int), .int .i64 x.size, .int .u32 (x.sum : Int), .slice xA x.disks.length xc, .int .i64 x.pool, .int .i64 x.vol, .int .i64 x.at_] 75)).alloc (.cells #[.slice none 0 0, .bool false, .bool false, .int .i64 0, .bool false, .bool false, .int .i64 0, .bool false, .bool false, .int .i64 0, .bool false, .bool false, .int .i64 0, .bool false, .bool false, .int .i64 0, .bool false, .bool false, .int .i64 0, .bool false, .bool false, .int .i64 0, .bool false, .bool false, .int .i64 0, .bool false, .bool false, .int .i64 0, .bool false, .bool false, .int .i64 0, .bool false, .bool false, .int .i64 0, .bool false, .bool false, .int .i64 0] 31)).alloc (.cells #[.int .i64 0, .int .u64 0, .int .i64 0, .int .u32 0, .slice none 0 0] 72)
  have hY := ((At.new (w.alloc (.cells X 31)) 75 #[.int .i64 x.kind, .int .i64 x.client, .int .i64 x.seq, .string x.name, .int .u64 (x.blob : Int), .int .i64 x.size, .int .u32 (x.sum : Int), .slice xA x.disks.length xc, .int .i64 x.pool, .int .i64 x.vol, .int .i64 x.at_]).alloc (.cells #[.slice none 0 0, .bool false, .bool false, .int .i64 0, .bool false, .bool false, .int .i64 0, .bool false, .bool false, .int .i64 0, .bool false, .bool false, .int .i64 0, .bool false, .bool false, .int .i64 0, .bool false, .bool false, .int .i64 0, .bool false, .bool false, .int .i64 0, .bool false, .bool false, .int .i64 0, .bool false, .bool false, .int .i64 0, .bool false, .bool false, .int .i64 0, .bool false, .bool false, .int .i64 0, .bool false, .bool false, .int .i64 0] 31)).alloc (.cells #[.int .i64 0, .int .u64 0, .int .i64 0, .int .u32 0, .slice none 0 0] 72)
  have hC := (At.new ((w.alloc (.cells X 31)).alloc (.cells #[.int .i64 x.kind, .int .i64 x.client, .int .i64 x.seq, .string x.name, .int .u64 (x.blob : Int), .int .i64 x.size, .int .u32 (x.sum : Int), .slice xA x.disks.length xc, .int .i64 x.pool, .int .i64 x.vol, .int .i64 x.at_] 75)) 31 #[.slice none 0 0, .bool false, .bool false, .int .i64 0, .bool false, .bool false, .int .i64 0, .bool false, .bool false, .int .i64 0, .bool false, .bool false, .int .i64 0, .bool false, .bool false, .int .i64 0, .bool false, .bool false, .int .i64 0, .bool false, .bool false, .int .i64 0, .bool false, .bool false, .int .i64 0, .bool false, .bool false, .int .i64 0, .bool false, .bool false, .int .i64 0, .bool false, .bool false, .int .i64 0, .bool false, .bool false, .int .i64 0]).alloc (.cells #[.int .i64 0, .int .u64 0, .int .i64 0, .int .u32 0, .slice none 0 0] 72)
  have hS := At.new (((w.alloc (.cells X 31)).alloc (.cells #[.int .i64 x.kind, .int .i64 x.client, .int .i64 x.seq, .string x.name, .int .u64 (x.blob : Int), .int .i64 x.size, .int .u32 (x.sum : Int), .slice xA x.disks.length xc, .int .i64 x.pool, .int .i64 x.vol, .int .i64 x.at_] 75)).alloc (.cells #[.slice none 0 0, .bool false, .bool false, .int .i64 0, .bool false, .bool false, .int .i64 0, .bool false, .bool false, .int .i64 0, .bool false, .bool false, .int .i64 0, .bool false, .bool false, .int .i64 0, .bool false, .bool false, .int .i64 0, .bool false, .bool false, .int .i64 0, .bool false, .bool false, .int .i64 0, .bool false, .bool false, .int .i64 0, .bool false, .bool false, .int .i64 0, .bool false, .bool false, .int .i64 0, .bool false, .bool false, .int .i64 0] 31)) 72 #[.int .i64 0, .int .u64 0, .int .i64 0, .int .u32 0, .slice none 0 0]
  have hE := ((((Ext.refl w).alloc (.cells X 31)).alloc (.cells #[.int .i64 x.kind, .int .i64 x.client, .int .i64 x.seq, .string x.name, .int .u64 (x.blob : Int), .int .i64 x.size, .int .u32 (x.sum : Int), .slice xA x.disks.length xc, .int .i64 x.pool, .int .i64 x.vol, .int .i64 x.at_] 75)).alloc (.cells #[.slice none 0 0, .bool false, .bool false, .int .i64 0, .bool false, .bool false, .int .i64 0, .bool false, .bool false, .int .i64 0, .bool false, .bool false, .int .i64 0, .bool false, .bool false, .int .i64 0, .bool false, .bool false, .int .i64 0, .bool false, .bool false, .int .i64 0, .bool false, .bool false, .int .i64 0, .bool false, .bool false, .int .i64 0, .bool false, .bool false, .int .i64 0, .bool false, .bool false, .int .i64 0, .bool false, .bool false, .int .i64 0] 31)).alloc (.cells #[.int .i64 0, .int .u64 0, .int .i64 0, .int .u32 0, .slice none 0 0] 72)
  rw [show (w.alloc (.cells X 31)).heap.size = w.heap.size + 1 by simp] at hY
  rw [show ((w.alloc (.cells X 31)).alloc (.cells #[.int .i64 x.kind, .int .i64 x.client, .int .i64 x.seq, .string x.name, .int .u64 (x.blob : Int), .int .i64 x.size, .int .u32 (x.sum : Int), .slice xA x.disks.length xc, .int .i64 x.pool, .int .i64 x.vol, .int .i64 x.at_] 75)).heap.size = w.heap.size + 1 + 1 by simp] at hC
  rw [show (((w.alloc (.cells X 31)).alloc (.cells #[.int .i64 x.kind, .int .i64 x.client, .int .i64 x.seq, .string x.name, .int .u64 (x.blob : Int), .int .i64 x.size, .int .u32 (x.sum : Int), .slice xA x.disks.length xc, .int .i64 x.pool, .int .i64 x.vol, .int .i64 x.at_] 75)).alloc (.cells #[.slice none 0 0, .bool false, .bool false, .int .i64 0, .bool false, .bool false, .int .i64 0, .bool false, .bool false, .int .i64 0, .bool false, .bool false, .int .i64 0, .bool false, .bool false, .int .i64 0, .bool false, .bool false, .int .i64 0, .bool false, .bool false, .int .i64 0, .bool false, .bool false, .int .i64 0, .bool false, .bool false, .int .i64 0, .bool false, .bool false, .int .i64 0, .bool false, .bool false, .int .i64 0, .bool false, .bool false, .int .i64 0] 31)).heap.size = w.heap.size + 1 + 1 + 1 by simp] at hS
  go_upto_region 1 with fail
  obtain ⟨xb, hxb⟩ : ∃ xb, w.heap.size = xb := ⟨_, rfl⟩
  rw [hxb] at hB hY hC hS ⊢
  generalize World.alloc _ _ = W at hB hY hC hS hE ⊢
  have HXB := Lib.hid (show w.heap.size ≤ xb by omega)
  clear hxb
  have HZ : Hid ((#[.slice none 0 0, .bool false, .bool false, .int .i64 0, .bool false, .bool false, .int .i64 0, .bool false, .bool false, .int .i64 0, .bool false, .bool false, .int .i64 0, .bool false, .bool false, .int .i64 0, .bool false, .bool false, .int .i64 0, .bool false, .bool false, .int .i64 0, .bool false, .bool false, .int .i64 0, .bool false, .bool false, .int .i64 0, .bool false, .bool false, .int .i64 0, .bool false, .bool false, .int .i64 0, .bool false, .bool false, .int .i64 0] : Array Value).size = 37) := Lib.hid rfl
  generalize (#[.slice none 0 0, .bool false, .bool false, .int .i64 0, .bool false, .bool false, .int .i64 0, .bool false, .bool false, .int .i64 0, .bool false, .bool false, .int .i64 0, .bool false, .bool false, .int .i64 0, .bool false, .bool false, .int .i64 0, .bool false, .bool false, .int .i64 0, .bool false, .bool false, .int .i64 0, .bool false, .bool false, .int .i64 0, .bool false, .bool false, .int .i64 0, .bool false, .bool false, .int .i64 0, .bool false, .bool false, .int .i64 0] : Array Value) = ZC at hC HZ
  have lS := hS.lt
  have lC := hC.lt
  have lY := hY.lt
  have lB := hB.lt
  have y0 := hY.cell 0
  simp at y0
  have HGD : Hid (x.good = true) := Lib.hid HK.out.1
  clear y0
  have HG := Lib.hid (rgood_any W x (.slice xA x.disks.length xc) (own_sl (own_keep HXO.out hE (fun _ _ hh => hh))) hd hnm)
  rw [HGD.out] at HG
  have HRY := Lib.hid hY.range
  go_wp2_with (refine wpList_load_mid rfl 75 _ rfl (xb + 1) 0 rfl _ _ HRY.out Tryz.underlying75 rfl cmd_infoR ?_)
  refine HG.out.mono ?_
  rintro e w1 ⟨rfl, hE1⟩
  have hB := hB.ext hE1
  have hY := hY.ext hE1
  have hC := hC.ext hE1
  have hS := hS.ext hE1
  have hE := hE.trans hE1
  have lS := hS.lt
  have lC := hC.lt
  have lY := hY.lt
  have lB := hB.lt
  clear HG HRY
  have y0 := hY.cell 0
  simp at y0
  have hlt : decide (x.kind < 6) = true := decide_eq_true HK.out.2.2
  go_upto_region 4 with fail
  have HC := Lib.hid (rclient_any w1 (.agg X) P n (HRF.out.ext hE) HI.out hn x (.slice xA x.disks.length xc) (own_keep HXO.out hE (fun _ _ hh => hh)) HK.out.2.1 HK.out.2.2 HK.out.1 hd)
  clear y0 hlt
  have HRY := Lib.hid hY.range
  have HRX := Lib.hid hB.range
  go_wp2_with (first | (refine wpList_load_mid rfl 31 _ rfl xb 0 rfl _ _ HRX.out Tryz.underlying31 rfl HI1.out ?_) | (refine wpList_load_mid rfl 75 _ rfl (xb + 1) 0 rfl _ _ HRY.out Tryz.underlying75 rfl cmd_infoR ?_))
  refine HC.out.mono ?_
  rintro e w2 ⟨v', nv, rfl, hrf, hno, hE2⟩
  have hB := hB.ext hE2
  have hY := hY.ext hE2
  have hC := hC.ext hE2
  have hS := hS.ext hE2
  have hE := hE.trans hE2
  have lS := hS.lt
  have lC := hC.lt
  have lY := hY.lt
  have lB := hB.lt
  clear HC HRY HRX
  obtain ⟨lv2, DV2, rfl, hd2, hr2⟩ := hrf
  obtain ⟨A2, c2, rfl⟩ := own_slc hr2.own
  obtain ⟨nA, nc, rfl⟩ := own_slc hno
  have hVL : (P.app x).1.vols.length = 12 := (HI.out.app hw).vlen
  have h37' := rfArr_size (.slice A2 DV2.length c2) hVL
  have hone' := rfArr_one A2 DV2.length c2 (P.app x).1.vols
  have hrf : RfIn w2 (.agg (rfArr (.slice A2 DV2.length c2) (P.app x).1.vols)) (P.app x).1 := ⟨_, DV2, rfl, hd2, hr2⟩
  clear hd2 hr2 hVL
  unfold resV
  generalize rfArr (.slice A2 DV2.length c2) (P.app x).1.vols = X2 at h37' hone' hrf ⊢
  have hrr : (#[.int .i64 (P.app x).2.err, .int .u64 ((P.app x).2.blob : Int), .int .i64 (P.app x).2.size, .int .u32 ((P.app x).2.sum : Int), .slice nA (P.app x).2.names.length nc] : Array Value).all (·.oneCell') = true := by simp [Value.oneCell']
  have hr5 : (#[.int .i64 (P.app x).2.err, .int .u64 ((P.app x).2.blob : Int), .int .i64 (P.app x).2.size, .int .u32 ((P.app x).2.sum : Int), .slice nA (P.app x).2.names.length nc] : Array Value).size = 5 := rfl
  generalize hYR : (#[.int .i64 (P.app x).2.err, .int .u64 ((P.app x).2.blob : Int), .int .i64 (P.app x).2.size, .int .u32 ((P.app x).2.sum : Int), .slice nA (P.app x).2.names.length nc] : Array Value) = YR at hrr hr5 ⊢
  have hTO := two_out (X := X2) (R := YR) hC hS (by rw [HZ.out, h37']) (by rw [hr5]; rfl) h37' hr5 (by omega)
  have HTO := Lib.hid hTO
  have hroC : Chg (fun k => k = xb + 1 + 1 ∨ k = xb + 1 + 1 + 1) w2 ((w2.setCells (xb + 1 + 1) 0 X2.toList).setCells (xb + 1 + 1 + 1) 0 YR.toList) := Chg.setCells (Chg.setCells (Ext.refl w2).chg (.inl rfl) _ _) (.inr rfl) _ _
  have HRO := Lib.hid (RfIn.two hrf ⟨_, hC⟩ ⟨_, hS⟩ hroC)
  have HNO := Lib.hid (own_keep hno hroC fun k hk e => e.elim (own_apart' hno hC (by decide) k hk) (own_apart' hno hS (by decide) k hk))
  have HEF := Lib.hid (hTO.ext w hE (by have := HXB.out; omega) (by have := HXB.out; omega))
  have HYR := Lib.hid hYR
  clear hB hY hC hS hE hTO hrf hroC hno hYR
  go_wp2_with (first | (refine wpList_store_mid rfl 31 _ _ rfl (xb + 1 + 1) 0 X2 rfl rfl HTO.out.t1 (by rw [h37']; exact rf_cinfo) hone' ?_) | (refine wpList_store_mid rfl 72 _ _ rfl (xb + 1 + 1 + 1) 0 YR rfl rfl HTO.out.t2 (by rw [hr5]; exact res_info) hrr ?_))
  refine bodyPost_ret (v := .tuple #[.agg X2, .agg YR]) (results_two Tryz.results20 _ rfl rfl HTO.out.l1 HTO.out.l2) rfl ?_
  exact ⟨.agg X2, .slice nA (P.app x).2.names.length nc, by rw [← HYR.out]; rfl, HRO.out, HNO.out, HEF.out⟩
end Go.Proofs.YtchnejfdompfpaaGreat
