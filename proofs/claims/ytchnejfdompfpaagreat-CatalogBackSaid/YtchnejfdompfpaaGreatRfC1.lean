/-
  The document's catalog: a client's command: Put.
-/
import Derived.Test.YtchnejfdompfpaaGreatRfC2
namespace Go.Proofs.YtchnejfdompfpaaGreat
open Go.RowKit Go.Sort

set_option maxRecDepth 100000 in
set_option maxHeartbeats 8000000 in
theorem rclient_1 (w : World) (v : Value) (P : Pm) (n : Nat) (h : RfIn w v P) (hi : PInv n P) (hn : n ≤ 1000000) (x : Cmd) (dx : Value) (hx : w.ownsRow 0 3 1 dx x.disks.length (x.disks.map (Value.int .i64))) (hk : x.kind = 1) (hdx : x.disks.length ≤ 17592186043904) :
    Calls Tryz.prog 63 #[v, cmdVal x dx] w (RcOut w (rs1 (P.put x))) := by
  obtain ⟨lv, DV, rfl, hDV, hR⟩ := h
  have hlen : DV.length = P.L.length := by rw [← hDV, List.length_map]
  obtain ⟨A, c, rfl⟩ := own_slc hR.own
  obtain ⟨xA, xc, rfl⟩ := own_slc hx
  have HRF : Hid (RfIn w (.agg (rfArr (.slice A DV.length c) P.vols)) P) := Lib.hid ⟨_, DV, rfl, hDV, hR⟩
  have HX : Hid (rfArr (.slice A DV.length c) P.vols = (.slice A DV.length c :: (P.vols.map vlRow).flatten).toArray) := Lib.hid rfl
  have h37 := rfArr_size (.slice A DV.length c) hi.vlen
  have hone := rfArr_one A DV.length c P.vols
  have HVOL : Hid (∀ v y, P.vols[v]? = some y → (rfArr (.slice A DV.length c) P.vols)[1 + v * 3]? = some (.bool y.closed) ∧ (rfArr (.slice A DV.length c) P.vols)[1 + v * 3 + 1]? = some (.bool y.erase) ∧ (rfArr (.slice A DV.length c) P.vols)[1 + v * 3 + 2]? = some (.int .i64 y.gen)) := Lib.hid (fun v y h => rf_vol h)
  generalize hX : rfArr (.slice A DV.length c) P.vols = X at HX HRF HVOL h37 hone ⊢
  clear hX
  have H37 := Lib.hid h37
  have HONE := Lib.hid hone
  have HI1 : Hid ((Tryz.prog.info? 31).map (·.size) = some X.toList.length) := Lib.hid (by rw [Array.length_toList, h37]; exact rf_cinfo)
  have HI2 : Hid ((Tryz.prog.info? 31).map (·.size) = some X.size) := Lib.hid (by rw [h37]; exact rf_cinfo)
  have hX0 : X[0]? = some (.slice A DV.length c) := by rw [HX.out]; rfl
  have HX0 := Lib.hid hX0
  have HDV := Lib.hid hDV
  have HR := Lib.hid hR
  have HI := Lib.hid hi
  have HXO := Lib.hid hx
  have HK := Lib.hid hk
  clear hDV hlen hR hi hx hk hX0 h37 hone
  unfold cmdVal
  go_enter Tryz.func63, Tryz.ntmps63
  have hB := (((At.new w 31 X).alloc (.cells #[.int .i64 x.kind, .int .i64 x.client, .int .i64 x.seq, .string x.name, .int .u64 (x.blob : Int), .int .i64 x.size, .int .u32 (x.sum : Int), .slice xA x.disks.length xc, .int .i64 x.pool, .int .i64 x.vol, .int .i64 x.at_] 75)).alloc (.cells #[.slice none 0 0, .bool false, .bool false, .int .i64 0, .bool false, .bool false, .int .i64 0, .bool false, .bool false, .int .i64 0, .bool false, .bool false, .int .i64 0, .bool false, .bool false, .int .i64 0, .bool false, .bool false, .int .i64 0, .bool false, .bool false, .int .i64 0, .bool false, .bool false, .int .i64 0, .bool false, .bool false, .int .i64 0, .bool false, .bool false, .int .i64 0, .bool false, .bool false, .int .i64 0, .bool false, .bool false, .int .i64 0] 31)).alloc (.cells #[.int .i64 0, .int .u64 0, .int .i64 0, .int .u32 0, .slice none 0 0] 72)
  have hY := ((At.new (w.alloc (.cells X 31)) 75 #[.int .i64 x.kind, .int .i64 x.client, .int .i64 x.seq, .string x.name, .int .u64 (x.blob : Int), .int .i64 x.size, .int .u32 (x.sum : Int), .slice xA x.disks.length xc, .int .i64 x.pool, .int .i64 x.vol, .int .i64 x.at_]).alloc (.cells #[.slice none 0 0, .bool false, .bool false, .int .i64 0, .bool false, .bool false, .int .i64 0, .bool false, .bool false, .int .i64 0, .bool false, .bool false, .int .i64 0, .bool false, .bool false, .int .i64 0, .bool false, .bool false, .int .i64 0, .bool false, .bool false, .int .i64 0, .bool false, .bool false, .int .i64 0, .bool false, .bool false, .int .i64 0, .bool false, .bool false, .int .i64 0, .bool false, .bool false, .int .i64 0, .bool false, .bool false, .int .i64 0] 31)).alloc (.cells #[.int .i64 0, .int .u64 0, .int .i64 0, .int .u32 0, .slice none 0 0] 72)
  have hC := (At.new ((w.alloc (.cells X 31)).alloc (.cells #[.int .i64 x.kind, .int .i64 x.client, .int .i64 x.seq, .string x.name, .int .u64 (x.blob : Int), .int .i64 x.size, .int .u32 (x.sum : Int), .slice xA x.disks.length xc, .int .i64 x.pool, .int .i64 x.vol, .int .i64 x.at_] 75)) 31 #[.slice none 0 0, .bool false, .bool false, .int .i64 0, .bool false, .bool false, .int .i64 0, .bool false, .bool false, .int .i64 0, .bool false, .bool false, .int .i64 0, .bool false, .bool false, .int .i64 0, .bool false, .bool false, .int .i64 0, .bool false, .bool false, .int .i64 0, .bool false, .bool false, .int .i64 0, .bool false, .bool false, .int .i64 0, .bool false, .bool false, .int .i64 0, .bool false, .bool false, .int .i64 0, .bool false, .bool false, .int .i64 0]).alloc (.cells #[.int .i64 0, .int .u64 0, .int .i64 0, .int .u32 0, .slice none 0 0] 72)
  have hS := At.new (((w.alloc (.cells X 31)).alloc (.cells #[.int .i64 x.kind, .int .i64 x.client, .int .i64 x.seq, .string x.name, .int .u64 (x.blob : Int), .int .i64 x.size, .int .u32 (x.sum : Int), .slice xA x.disks.length xc, .int .i64 x.pool, .int .i64 x.vol, .int .i64 x.at_] 75)).alloc (.cells #[.slice none 0 0, .bool false, .bool false, .int .i64 0, .bool false, .bool false, .int .i64 0, .bool false, .bool false, .int .i64 0, .bool false, .bool false, .int .i64 0, .bool false, .bool false, .int .i64 0, .bool false, .bool false, .int .i64 0, .bool false, .bool false, .int .i64 0, .bool false, .bool false, .int .i64 0, .bool false, .bool false, .int .i64 0, .bool false, .bool false, .int .i64 0, .bool false, .bool false, .int .i64 0, .bool false, .bool false, .int .i64 0] 31)) 72 #[.int .i64 0, .int .u64 0, .int .i64 0, .int .u32 0, .slice none 0 0]
  have hE := ((((Ext.refl w).alloc (.cells X 31)).alloc (.cells #[.int .i64 x.kind, .int .i64 x.client, .int .i64 x.seq, .string x.name, .int .u64 (x.blob : Int), .int .i64 x.size, .int .u32 (x.sum : Int), .slice xA x.disks.length xc, .int .i64 x.pool, .int .i64 x.vol, .int .i64 x.at_] 75)).alloc (.cells #[.slice none 0 0, .bool false, .bool false, .int .i64 0, .bool false, .bool false, .int .i64 0, .bool false, .bool false, .int .i64 0, .bool false, .bool false, .int .i64 0, .bool false, .bool false, .int .i64 0, .bool false, .bool false, .int .i64 0, .bool false, .bool false, .int .i64 0, .bool false, .bool false, .int .i64 0, .bool false, .bool false, .int .i64 0, .bool false, .bool false, .int .i64 0, .bool false, .bool false, .int .i64 0, .bool false, .bool false, .int .i64 0] 31)).alloc (.cells #[.int .i64 0, .int .u64 0, .int .i64 0, .int .u32 0, .slice none 0 0] 72)
  rw [show (w.alloc (.cells X 31)).heap.size = w.heap.size + 1 by simp] at hY
  rw [show ((w.alloc (.cells X 31)).alloc (.cells #[.int .i64 x.kind, .int .i64 x.client, .int .i64 x.seq, .string x.name, .int .u64 (x.blob : Int), .int .i64 x.size, .int .u32 (x.sum : Int), .slice xA x.disks.length xc, .int .i64 x.pool, .int .i64 x.vol, .int .i64 x.at_] 75)).heap.size = w.heap.size + 1 + 1 by simp] at hC
  rw [show (((w.alloc (.cells X 31)).alloc (.cells #[.int .i64 x.kind, .int .i64 x.client, .int .i64 x.seq, .string x.name, .int .u64 (x.blob : Int), .int .i64 x.size, .int .u32 (x.sum : Int), .slice xA x.disks.length xc, .int .i64 x.pool, .int .i64 x.vol, .int .i64 x.at_] 75)).alloc (.cells #[.slice none 0 0, .bool false, .bool false, .int .i64 0, .bool false, .bool false, .int .i64 0, .bool false, .bool false, .int .i64 0, .bool false, .bool false, .int .i64 0, .bool false, .bool false, .int .i64 0, .bool false, .bool false, .int .i64 0, .bool false, .bool false, .int .i64 0, .bool false, .bool false, .int .i64 0, .bool false, .bool false, .int .i64 0, .bool false, .bool false, .int .i64 0, .bool false, .bool false, .int .i64 0, .bool false, .bool false, .int .i64 0] 31)).heap.size = w.heap.size + 1 + 1 + 1 by simp] at hS
  go_upto_region 1 with fail
  obtain ⟨xb, hxb⟩ : ∃ xb, w.heap.size = xb := ⟨_, rfl⟩
  rw [hxb] at hB hY hC hS ⊢
  generalize World.alloc _ _ = W at hB hY hC hS hE ⊢
  have HXB := Lib.hid (show w.heap.size ≤ xb by omega)
  clear hxb
  have HZ : Hid ((#[.slice none 0 0, .bool false, .bool false, .int .i64 0, .bool false, .bool false, .int .i64 0, .bool false, .bool false, .int .i64 0, .bool false, .bool false, .int .i64 0, .bool false, .bool false, .int .i64 0, .bool false, .bool false, .int .i64 0, .bool false, .bool false, .int .i64 0, .bool false, .bool false, .int .i64 0, .bool false, .bool false, .int .i64 0, .bool false, .bool false, .int .i64 0, .bool false, .bool false, .int .i64 0, .bool false, .bool false, .int .i64 0] : Array Value).size = 37) := Lib.hid rfl
  generalize (#[.slice none 0 0, .bool false, .bool false, .int .i64 0, .bool false, .bool false, .int .i64 0, .bool false, .bool false, .int .i64 0, .bool false, .bool false, .int .i64 0, .bool false, .bool false, .int .i64 0, .bool false, .bool false, .int .i64 0, .bool false, .bool false, .int .i64 0, .bool false, .bool false, .int .i64 0, .bool false, .bool false, .int .i64 0, .bool false, .bool false, .int .i64 0, .bool false, .bool false, .int .i64 0, .bool false, .bool false, .int .i64 0] : Array Value) = ZC at hC HZ
  have lS := hS.lt
  have lC := hC.lt
  have lY := hY.lt
  have lB := hB.lt
  have y0 := hY.cell 0
  simp at y0
  rw [HK.out] at y0
  have y3 := hY.cell 3
  simp at y3
  have hdl : DV.length ≤ 1000000 := by
    have h1 : DV.length = P.L.length := by rw [← HDV.out, List.length_map]
    have := HI.out.len
    omega
  have HNM := Lib.hid (rnamed_any W (.agg X) P (HRF.out.ext hE) x.name (by have := HI.out.len; omega))
  have HRG0 := Lib.hid hB.range
  go_wp2_with (refine wpList_load_mid rfl 31 _ rfl xb 0 rfl _ _ HRG0.out Tryz.underlying31 rfl HI1.out ?_)
  refine HNM.out.mono ?_
  rintro e w1 ⟨rfl, hE1⟩
  have hB := hB.ext hE1
  have hY := hY.ext hE1
  have hC := hC.ext hE1
  have hS := hS.ext hE1
  have hE := hE.trans hE1
  have lS := hS.lt
  have lC := hC.lt
  have lY := hY.lt
  have lB := hB.lt
  have y0 := hY.cell 0
  have y3 := hY.cell 3
  have y4 := hY.cell 4
  have y7 := hY.cell 7
  simp at y0 y3 y4 y7
  rw [HK.out] at y0
  clear HNM HRG0
  by_cases h1 : x.name = ByteArray.empty
  · have he : x.name.toList.isEmpty = true := by rw [h1, Lib.toList_data]; rfl
    have H1 := Lib.hid h1
    clear h1
    have hTO := two_out (X := X) (R := #[.int .i64 1, .int .u64 0, .int .i64 0, .int .u32 0, .slice none 0 0]) hC hS (by rw [HZ.out, H37.out]) rfl H37.out rfl (by omega)
    have HTO := Lib.hid hTO
    have HRG := Lib.hid hB.range
    have HEF := Lib.hid (hTO.ext w hE (by have := HXB.out; omega) (by have := HXB.out; omega))
    clear hB hY hC hS hE hTO
    go_wp2_with (first | (refine wpList_load_mid rfl 31 _ rfl xb 0 rfl _ _ HRG.out Tryz.underlying31 rfl HI1.out ?_) | (refine wpList_store_mid rfl 31 _ _ rfl (xb + 1 + 1) 0 X rfl rfl HTO.out.t1 HI2.out HONE.out ?_) | (refine wpList_store_mid rfl 72 _ _ rfl (xb + 1 + 1 + 1) 0 #[.int .i64 1, .int .u64 0, .int .i64 0, .int .u32 0, .slice none 0 0] rfl rfl HTO.out.t2 res_info (by simp [Value.oneCell']) ?_))
    refine bodyPost_ret (v := .tuple #[.agg X, .agg #[.int .i64 1, .int .u64 0, .int .i64 0, .int .u32 0, .slice none 0 0]]) (results_two Tryz.results63 _ rfl rfl HTO.out.l1 HTO.out.l2) rfl ?_
    have hq : rs1 (P.put x) = (P, Rs.er 1) := by unfold Pm.put rs1; rw [if_pos (.inl H1.out)]
    rw [hq]
    exact ⟨.agg X, .slice none 0 0, rfl, HRF.out.ext HEF.out, own_nil _ _ _, HEF.out⟩
  · have he : x.name.toList.isEmpty = false := by
      cases e : x.name.toList.isEmpty
      · rfl
      · exact absurd (toList_inj.1 (by rw [List.isEmpty_iff.1 e, Lib.toList_data]; rfl)) h1
    have H1 := Lib.hid h1
    clear h1
    by_cases h2 : x.blob = 0
    · have H2 := Lib.hid h2
      have hTO := two_out (X := X) (R := #[.int .i64 1, .int .u64 0, .int .i64 0, .int .u32 0, .slice none 0 0]) hC hS (by rw [HZ.out, H37.out]) rfl H37.out rfl (by omega)
      have HTO := Lib.hid hTO
      have HRG := Lib.hid hB.range
      have HEF := Lib.hid (hTO.ext w hE (by have := HXB.out; omega) (by have := HXB.out; omega))
      clear hB hY hC hS hE hTO
      go_wp2_with (first | (refine wpList_load_mid rfl 31 _ rfl xb 0 rfl _ _ HRG.out Tryz.underlying31 rfl HI1.out ?_) | (refine wpList_store_mid rfl 31 _ _ rfl (xb + 1 + 1) 0 X rfl rfl HTO.out.t1 HI2.out HONE.out ?_) | (refine wpList_store_mid rfl 72 _ _ rfl (xb + 1 + 1 + 1) 0 #[.int .i64 1, .int .u64 0, .int .i64 0, .int .u32 0, .slice none 0 0] rfl rfl HTO.out.t2 res_info (by simp [Value.oneCell']) ?_))
      refine bodyPost_ret (v := .tuple #[.agg X, .agg #[.int .i64 1, .int .u64 0, .int .i64 0, .int .u32 0, .slice none 0 0]]) (results_two Tryz.results63 _ rfl rfl HTO.out.l1 HTO.out.l2) rfl ?_
      have hq : rs1 (P.put x) = (P, Rs.er 1) := by unfold Pm.put rs1; rw [if_pos (.inr (.inl H2.out))]
      rw [hq]
      exact ⟨.agg X, .slice none 0 0, rfl, HRF.out.ext HEF.out, own_nil _ _ _, HEF.out⟩
    · have H2 := Lib.hid h2
      by_cases h3 : x.disks = []
      · have hl : x.disks.length = 0 := by rw [h3]; rfl
        have H3 := Lib.hid h3
        clear h3
        have hTO := two_out (X := X) (R := #[.int .i64 1, .int .u64 0, .int .i64 0, .int .u32 0, .slice none 0 0]) hC hS (by rw [HZ.out, H37.out]) rfl H37.out rfl (by omega)
        have HTO := Lib.hid hTO
        have HRG := Lib.hid hB.range
        have HEF := Lib.hid (hTO.ext w hE (by have := HXB.out; omega) (by have := HXB.out; omega))
        clear hB hY hC hS hE hTO
        go_wp2_with (first | (refine wpList_load_mid rfl 31 _ rfl xb 0 rfl _ _ HRG.out Tryz.underlying31 rfl HI1.out ?_) | (refine wpList_store_mid rfl 31 _ _ rfl (xb + 1 + 1) 0 X rfl rfl HTO.out.t1 HI2.out HONE.out ?_) | (refine wpList_store_mid rfl 72 _ _ rfl (xb + 1 + 1 + 1) 0 #[.int .i64 1, .int .u64 0, .int .i64 0, .int .u32 0, .slice none 0 0] rfl rfl HTO.out.t2 res_info (by simp [Value.oneCell']) ?_))
        refine bodyPost_ret (v := .tuple #[.agg X, .agg #[.int .i64 1, .int .u64 0, .int .i64 0, .int .u32 0, .slice none 0 0]]) (results_two Tryz.results63 _ rfl rfl HTO.out.l1 HTO.out.l2) rfl ?_
        have hq : rs1 (P.put x) = (P, Rs.er 1) := by unfold Pm.put rs1; rw [if_pos (.inr (.inr H3.out))]
        rw [hq]
        exact ⟨.agg X, .slice none 0 0, rfl, HRF.out.ext HEF.out, own_nil _ _ _, HEF.out⟩
      · have hl : ¬ x.disks.length = 0 := fun e => h3 (List.length_eq_zero_iff.1 e)
        have H3 := Lib.hid h3
        clear h3
        have hbb : ((x.blob : Int) == 0) = false := by rw [beq_eq_false_iff_ne]; omega
        have hll : ((x.disks.length : Int) == 0) = false := by rw [beq_eq_false_iff_ne]; omega
        have HFD := Lib.hid (rfind_any w1 (.agg X) P (HRF.out.ext hE) x.blob (by have := HI.out.len; omega))
        have HRG1 := Lib.hid hB.range
        go_wp2_with (refine wpList_load_mid rfl 31 _ rfl xb 0 rfl _ _ HRG1.out Tryz.underlying31 rfl HI1.out ?_)
        refine HFD.out.mono ?_
        rintro e w2 ⟨rfl, hE2⟩
        have hB := hB.ext hE2
        have hY := hY.ext hE2
        have hC := hC.ext hE2
        have hS := hS.ext hE2
        have hE := hE.trans hE2
        have lS := hS.lt
        have lC := hC.lt
        have lY := hY.lt
        have lB := hB.lt
        clear HFD HRG1
        rcases find_at (P := P) (id := x.blob) with ⟨hf, hfn⟩ | ⟨j, bj, hj, hjd, hf⟩
        rotate_left
        · rw [hf]
          have HFS : Hid ((P.find x.blob).isSome = true) := Lib.hid (by rw [(pfind_some HI.out.asc).2 ⟨List.mem_of_getElem? hj, hjd⟩]; rfl)
          clear hf hj hjd
          have hTO := two_out (X := X) (R := #[.int .i64 6, .int .u64 0, .int .i64 0, .int .u32 0, .slice none 0 0]) hC hS (by rw [HZ.out, H37.out]) rfl H37.out rfl (by omega)
          have HTO := Lib.hid hTO
          have HRG := Lib.hid hB.range
          have HEF := Lib.hid (hTO.ext w hE (by have := HXB.out; omega) (by have := HXB.out; omega))
          clear hB hY hC hS hE hTO
          go_wp2_with (first | (refine wpList_load_mid rfl 31 _ rfl xb 0 rfl _ _ HRG.out Tryz.underlying31 rfl HI1.out ?_) | (refine wpList_store_mid rfl 31 _ _ rfl (xb + 1 + 1) 0 X rfl rfl HTO.out.t1 HI2.out HONE.out ?_) | (refine wpList_store_mid rfl 72 _ _ rfl (xb + 1 + 1 + 1) 0 #[.int .i64 6, .int .u64 0, .int .i64 0, .int .u32 0, .slice none 0 0] rfl rfl HTO.out.t2 res_info (by simp [Value.oneCell']) ?_))
          refine bodyPost_ret (v := .tuple #[.agg X, .agg #[.int .i64 6, .int .u64 0, .int .i64 0, .int .u32 0, .slice none 0 0]]) (results_two Tryz.results63 _ rfl rfl HTO.out.l1 HTO.out.l2) rfl ?_
          have hq : rs1 (P.put x) = (P, Rs.er 6) := by unfold Pm.put rs1; rw [if_neg (fun e => e.elim H1.out (fun e => e.elim H2.out H3.out)), if_pos HFS.out]
          rw [hq]
          exact ⟨.agg X, .slice none 0 0, rfl, HRF.out.ext HEF.out, own_nil _ _ _, HEF.out⟩
        · rw [hf]
          have HFN := Lib.hid hfn
          clear hf hfn
          rcases name_at (P := P) (n := x.name) with ⟨hnm, hnn⟩ | ⟨i, b, hib, hnn, hnm⟩
          · have hneg : rfName x.name P.L 0 < 0 := by rw [hnm]; decide
            have HPUT : Hid (rs1 (P.put x) = (P.set (newB x), Rs.er 0)) := Lib.hid (by
              unfold Pm.put rs1
              rw [if_neg (fun e => e.elim H1.out (fun e => e.elim H2.out H3.out)), if_neg (by rw [HFN.out]; simp), hnn])
            rw [hnm]
            clear hnm hnn hneg
            have y3 := hY.cell 3
            have y4 := hY.cell 4
            have y5 := hY.cell 5
            have y6 := hY.cell 6
            have y7 := hY.cell 7
            simp at y3 y4 y5 y6 y7
            have HST := Lib.hid (rset_any w2 (.agg X) P (HRF.out.ext hE) (newB x) (.slice xA x.disks.length xc) (own_keep HXO.out hE (fun _ _ hh => hh)) HI.out.asc (by have := HI.out.len; omega) HI.out.vlen)
            have HRG2 := Lib.hid hB.range
            go_wp2_with (refine wpList_load_mid rfl 31 _ rfl xb 0 rfl _ _ HRG2.out Tryz.underlying31 rfl HI1.out ?_)
            refine HST.out.mono ?_
            rintro e w3 ⟨nv, rfl, hO, hE3⟩
            obtain ⟨lv2, DV2, rfl, hd2, hr2⟩ := hO
            obtain ⟨A2, c2, rfl⟩ := own_slc hr2.own
            have hB := hB.ext hE3
            have hY := hY.ext hE3
            have hC := hC.ext hE3
            have hS := hS.ext hE3
            have hE := hE.trans hE3
            have lS := hS.lt
            have lC := hC.lt
            have lY := hY.lt
            have lB := hB.lt
            have h37' := rfArr_size (.slice A2 DV2.length c2) (V := (P.set (newB x)).vols) HI.out.vlen
            have hone' := rfArr_one A2 DV2.length c2 (P.set (newB x)).vols
            have hrf : RfIn w3 (.agg (rfArr (.slice A2 DV2.length c2) (P.set (newB x)).vols)) (P.set (newB x)) := ⟨_, DV2, rfl, hd2, hr2⟩
            generalize rfArr (.slice A2 DV2.length c2) (P.set (newB x)).vols = X2 at h37' hone' hrf ⊢
            have hTO := two_out (X := X2) (R := #[.int .i64 0, .int .u64 0, .int .i64 0, .int .u32 0, .slice none 0 0]) hC hS (by rw [HZ.out, h37']) rfl h37' rfl (by omega)
            have HTO := Lib.hid hTO
            have hroC : Chg (fun k => k = xb + 1 + 1 ∨ k = xb + 1 + 1 + 1) w3 ((w3.setCells (xb + 1 + 1) 0 X2.toList).setCells (xb + 1 + 1 + 1) 0 (#[.int .i64 0, .int .u64 0, .int .i64 0, .int .u32 0, .slice none 0 0] : Array Value).toList) := Chg.setCells (Chg.setCells (Ext.refl w3).chg (.inl rfl) _ _) (.inr rfl) _ _
            have HRO := Lib.hid (RfIn.two hrf ⟨_, hC⟩ ⟨_, hS⟩ hroC)
            have HEF := Lib.hid (hTO.ext w hE (by have := HXB.out; omega) (by have := HXB.out; omega))
            clear hB hY hC hS hE hTO hr2 hd2 hrf hroC
            go_wp2_with (first | (refine wpList_store_mid rfl 31 _ _ rfl (xb + 1 + 1) 0 X2 rfl rfl HTO.out.t1 (by rw [h37']; exact rf_cinfo) hone' ?_) | (refine wpList_store_mid rfl 72 _ _ rfl (xb + 1 + 1 + 1) 0 #[.int .i64 0, .int .u64 0, .int .i64 0, .int .u32 0, .slice none 0 0] rfl rfl HTO.out.t2 res_info (by simp [Value.oneCell']) ?_))
            refine bodyPost_ret (v := .tuple #[.agg X2, .agg #[.int .i64 0, .int .u64 0, .int .i64 0, .int .u32 0, .slice none 0 0]]) (results_two Tryz.results63 _ rfl rfl HTO.out.l1 HTO.out.l2) rfl ?_
            rw [HPUT.out]
            exact ⟨.agg X2, .slice none 0 0, rfl, HRO.out, own_nil _ _ _, HEF.out⟩
          · rw [hnm]
            obtain ⟨⟨b', dv⟩, hb⟩ : ∃ q, DV[i]? = some q := by
              have h1 : i < DV.length := by
                have h2 := (List.getElem?_eq_some_iff.1 hib).1
                rw [← HDV.out, List.length_map] at h2
                exact h2
              exact ⟨_, List.getElem?_eq_getElem h1⟩
            obtain rfl : b' = b := by
              rw [← HDV.out, List.getElem?_map, hb] at hib
              injection hib
            have hil : i < DV.length := (List.getElem?_eq_some_iff.1 hb).1
            obtain ⟨dA, dc, rfl⟩ : ∃ A c, dv = .slice A b'.disks.length c := own_slc (HR.out.dks _ (List.mem_of_getElem? hb))
            have hSl := HR.out.sln.ext hE
            obtain ⟨rb, ro, rfl⟩ := cmds_some hSl (fun e => by
              have h0 := List.map_eq_nil_iff.1 e
              rw [h0] at hb; simp at hb)
            obtain ⟨r0, r1, r2, r3, r4, r5, r6, r7, r8, r9, r10, r11, r12⟩ := bl_cells hSl hb
            have hbL := List.mem_of_getElem? hib
            have HBI := Lib.hid (And.intro (HI.out.bl _ hbL) (And.intro hbL hnn))
            have HOD := Lib.hid (HR.out.dks _ (List.mem_of_getElem? hb))
            have c0 := hB.cell 0
            rw [HX0.out] at c0
            have hYb := At.new w2 80 (blCells b' (.slice dA b'.disks.length dc))
            have hEb := (Ext.refl w2).alloc (.cells (blCells b' (.slice dA b'.disks.length dc)) 80)
            clear hb hib hbL hnn hSl
            go_upto_region 11 with fail
            clear r0 r1 r2 r3 r4 r5 r6 r7 r8 r9 r10 r11 r12 c0
            have HYB := Lib.hid (show w.heap.size ≤ w2.heap.size from hE.size)
            generalize w2.heap.size = yb at hYb HYB ⊢
            generalize w2.alloc (.cells (blCells b' (.slice dA b'.disks.length dc)) 80) = WB at hYb hEb ⊢
            have hB := hB.ext hEb
            have hY := hY.ext hEb
            have hC := hC.ext hEb
            have hS := hS.ext hEb
            have hE := hE.trans hEb
            have lS := hS.lt
            have lC := hC.lt
            have lY := hY.lt
            have lB := hB.lt
            have d12 := hYb.cell 12
            have f12 := hYb.frozen 12
            simp at d12
            go_upto_region 12 with fail
            clear d12 f12
            have hne : xb ≠ yb := At.ne hB hYb (by decide)
            have hne1 : xb + 1 ≠ yb := At.ne hY hYb (by decide)
            have hne2 : xb + 1 + 1 ≠ yb := At.ne hC hYb (by decide)
            have hne3 : xb + 1 + 1 + 1 ≠ yb := At.ne hS hYb (by decide)
            have kYb : At (WB.setCell ⟨yb, 12, none⟩ (.bool true)) yb 80 (blCells { b' with dead := true } (.slice dA b'.disks.length dc)) := hYb.set 12 (.bool true)
            have kB0 := hB.far (p := ⟨yb, 12, none⟩) hne (.bool true)
            have kY0 := hY.far (p := ⟨yb, 12, none⟩) hne1 (.bool true)
            have kC0 := hC.far (p := ⟨yb, 12, none⟩) hne2 (.bool true)
            have kS0 := hS.far (p := ⟨yb, 12, none⟩) hne3 (.bool true)
            have kE0 : Ext w (WB.setCell ⟨yb, 12, none⟩ (.bool true)) := Chg.setCell (p := ⟨yb, 12, none⟩) hE (.inr (by have := HYB.out; have := hE2.size; omega)) _
            clear hB hY hC hS hYb hE hE1 hEb hne hne1 hne2 hne3 lC lY lB lS
            generalize (WB.setCell ⟨yb, 12, none⟩ (.bool true)) = W2s at kYb kB0 kY0 kC0 kS0 kE0 ⊢
            have hB := kB0
            have hY := kY0
            have hC := kC0
            have hS := kS0
            have hYb := kYb
            have hE := kE0
            clear kYb kB0 kY0 kC0 kS0 kE0
            have HST1 := Lib.hid (rset_any W2s (.agg X) P (HRF.out.ext hE) { b' with dead := true } (.slice dA b'.disks.length dc) (own_keep HOD.out hE (fun _ _ hh => hh)) HI.out.asc (by have := HI.out.len; omega) HI.out.vlen)
            have HRGb := Lib.hid hB.range
            have HRGy := Lib.hid hYb.range
            go_wp2_with (first | (refine wpList_load_mid rfl 31 _ rfl xb 0 rfl _ _ HRGb.out Tryz.underlying31 rfl HI1.out ?_) | (refine wpList_load_mid rfl 80 _ rfl yb 0 rfl _ _ HRGy.out Tryz.underlying80 rfl blC_info ?_))
            refine HST1.out.mono ?_
            rintro e w3 ⟨nv, rfl, hO1, hE3⟩
            obtain ⟨lv1, DV1, rfl, hd1, hr1⟩ := hO1
            obtain ⟨A1, c1, rfl⟩ := own_slc hr1.own
            have hB := hB.ext hE3
            have hY := hY.ext hE3
            have hC := hC.ext hE3
            have hS := hS.ext hE3
            have hE := hE.trans hE3
            have h37a := rfArr_size (.slice A1 DV1.length c1) (V := (P.set { b' with dead := true }).vols) HI.out.vlen
            have honea := rfArr_one A1 DV1.length c1 (P.set { b' with dead := true }).vols
            have hrf1 : RfIn w3 (.agg (rfArr (.slice A1 DV1.length c1) (P.set { b' with dead := true }).vols)) (P.set { b' with dead := true }) := ⟨_, DV1, rfl, hd1, hr1⟩
            generalize rfArr (.slice A1 DV1.length c1) (P.set { b' with dead := true }).vols = X1 at h37a honea hrf1 ⊢
            have HT1 : Hid (w3.there xb 0 X1.size) := Lib.hid (by have h := hB.there; rw [H37.out] at h; rw [h37a]; exact h)
            have hone4 : xb ≠ xb + 1 := by omega
            have qY := hY.chg (chg_setCells (b := xb) X1.toList 0) (fun e => hone4 e.symm)
            have qC := hC.chg (chg_setCells (b := xb) X1.toList 0) (fun (e : xb + 1 + 1 = xb) => by omega)
            have qS := hS.chg (chg_setCells (b := xb) X1.toList 0) (fun (e : xb + 1 + 1 + 1 = xb) => by omega)
            have qE : Ext w (w3.setCells xb 0 X1.toList) := hE.setCells HXB.out _ _
            have HRG4 := Lib.hid (World.rangeAt_setCells_same w3 xb 0 X1.toList (by rw [Array.length_toList]; exact HT1.out))
            have HRF1 : Hid (RfIn (w3.setCells xb 0 X1.toList) (.agg X1) (P.set { b' with dead := true })) := Lib.hid (RfIn.two hrf1 ⟨_, hB⟩ ⟨_, hS⟩ (Chg.setCells (Ext.refl w3).chg (.inl rfl) _ _))
            have HIa : Hid ((Tryz.prog.info? 31).map (·.size) = some X1.toList.length) := Lib.hid (by rw [Array.length_toList, h37a]; exact rf_cinfo)
            have HIb : Hid ((Tryz.prog.info? 31).map (·.size) = some X1.size) := Lib.hid (by rw [h37a]; exact rf_cinfo)
            have HOa := Lib.hid honea
            clear hB hY hC hS hE hrf1 hr1 hd1 honea hone4
            have y3 := qY.cell 3
            have y4 := qY.cell 4
            have y5 := qY.cell 5
            have y6 := qY.cell 6
            have y7 := qY.cell 7
            simp at y3 y4 y5 y6 y7
            have HST := Lib.hid (rset_any (w3.setCells xb 0 X1.toList) (.agg X1) (P.set { b' with dead := true }) HRF1.out (newB x) (.slice xA x.disks.length xc) (own_keep HXO.out qE (fun _ _ hh => hh)) (pset_asc HI.out.asc _) (Nat.le_trans (pset_len_in HI.out.asc HBI.out.2.1 rfl) (by have := HI.out.len; omega)) HI.out.vlen)
            have HPUT : Hid (rs1 (P.put x) = ((P.set { b' with dead := true }).set (newB x), Rs.er 0)) := Lib.hid (by
              unfold Pm.put rs1
              rw [if_neg (fun e => e.elim H1.out (fun e => e.elim H2.out H3.out)), if_neg (by rw [HFN.out]; simp), HBI.out.2.2])
            go_wp2_with (first | (refine wpList_store_mid rfl 31 _ _ rfl xb 0 X1 rfl rfl HT1.out HIb.out HOa.out ?_) | (refine wpList_load_mid rfl 31 _ rfl xb 0 rfl _ _ HRG4.out Tryz.underlying31 rfl HIa.out ?_))
            refine HST.out.mono ?_
            rintro e w4 ⟨nv, rfl, hO, hE4⟩
            obtain ⟨lv2, DV2, rfl, hd2, hr2⟩ := hO
            obtain ⟨A2, c2, rfl⟩ := own_slc hr2.own
            have hC := qC.ext hE4
            have hS := qS.ext hE4
            have hE := qE.trans hE4
            have h37' := rfArr_size (.slice A2 DV2.length c2) (V := ((P.set { b' with dead := true }).set (newB x)).vols) HI.out.vlen
            have hone' := rfArr_one A2 DV2.length c2 ((P.set { b' with dead := true }).set (newB x)).vols
            have hrf : RfIn w4 (.agg (rfArr (.slice A2 DV2.length c2) ((P.set { b' with dead := true }).set (newB x)).vols)) ((P.set { b' with dead := true }).set (newB x)) := ⟨_, DV2, rfl, hd2, hr2⟩
            generalize rfArr (.slice A2 DV2.length c2) ((P.set { b' with dead := true }).set (newB x)).vols = X2 at h37' hone' hrf ⊢
            have hTO := two_out (X := X2) (R := #[.int .i64 0, .int .u64 0, .int .i64 0, .int .u32 0, .slice none 0 0]) hC hS (by rw [HZ.out, h37']) rfl h37' rfl (by omega)
            have HTO := Lib.hid hTO
            have hroC : Chg (fun k => k = xb + 1 + 1 ∨ k = xb + 1 + 1 + 1) w4 ((w4.setCells (xb + 1 + 1) 0 X2.toList).setCells (xb + 1 + 1 + 1) 0 (#[.int .i64 0, .int .u64 0, .int .i64 0, .int .u32 0, .slice none 0 0] : Array Value).toList) := Chg.setCells (Chg.setCells (Ext.refl w4).chg (.inl rfl) _ _) (.inr rfl) _ _
            have HRO := Lib.hid (RfIn.two hrf ⟨_, hC⟩ ⟨_, hS⟩ hroC)
            have HEF := Lib.hid (hTO.ext w hE (by have := HXB.out; omega) (by have := HXB.out; omega))
            clear hC hS hE hTO hr2 hd2 hrf hroC
            go_wp2_with (first | (refine wpList_store_mid rfl 31 _ _ rfl (xb + 1 + 1) 0 X2 rfl rfl HTO.out.t1 (by rw [h37']; exact rf_cinfo) hone' ?_) | (refine wpList_store_mid rfl 72 _ _ rfl (xb + 1 + 1 + 1) 0 #[.int .i64 0, .int .u64 0, .int .i64 0, .int .u32 0, .slice none 0 0] rfl rfl HTO.out.t2 res_info (by simp [Value.oneCell']) ?_))
            refine bodyPost_ret (v := .tuple #[.agg X2, .agg #[.int .i64 0, .int .u64 0, .int .i64 0, .int .u32 0, .slice none 0 0]]) (results_two Tryz.results63 _ rfl rfl HTO.out.l1 HTO.out.l2) rfl ?_
            rw [HPUT.out]
            exact ⟨.agg X2, .slice none 0 0, rfl, HRO.out, own_nil _ _ _, HEF.out⟩
end Go.Proofs.YtchnejfdompfpaaGreat
