/-
  The document's catalog: a command about a blob.
-/
import Derived.Test.YtchnejfdompfpaaGreatRf5
namespace Go.Proofs.YtchnejfdompfpaaGreat
open Go.RowKit Go.Sort

theorem results_three {P : Program} {fn : Func} {p q r : Tmp} {ty : TypeId} (h : fn.results = #[.cell p ty, .tmp q, .tmp r]) (tmps : Array Value) {b o : Nat} (ha : tmps.getD p undef = .pointer (some ⟨b, o, none⟩)) {v : Value} {w : World}
    (hl : (loadVar ty ⟨b, o, none⟩).run P w = .ok v w) : (results fn tmps).run P w = .ok (.tuple #[v, tmps.getD q undef, tmps.getD r undef]) w := by
  unfold results
  rw [h]
  simp at ha
  simp [ha, asAddr, hl]
theorem blC_info : (Tryz.prog.info? 80).map (·.size) = some 13 := by kernel_rfl
theorem blC_one (b : Bl) (A : Option Addr) (n c : Nat) : (blCells b (.slice A n c)).toList.toArray.all (·.oneCell') = true := all_oneCell_toArray fun v hv => by
  simp only [List.mem_cons, List.not_mem_nil, or_false] at hv
  rcases hv with rfl | rfl | rfl | rfl | rfl | rfl | rfl | rfl | rfl | rfl | rfl | rfl | rfl <;> rfl
/-- what comes of a command about a blob -/
def blobR (closed : Bool) (b : Bl) (x : Cmd) : Bl × Bool × Int :=
  if x.kind = 10 then (if !b.dead || decide (0 < b.pins) then (b, true, 16) else (b, false, 0)) else ((chgB closed b x).1, true, (chgB closed b x).2)
def RbOut (w : World) (r : Bl × Bool × Int) (e : Ending) (w' : World) : Prop :=
  ∃ dv', e = .returned (.tuple #[.agg (blCells r.1 dv'), .bool r.2.1, .int .i64 r.2.2]) ∧ w'.ownsRow 0 3 1 dv' r.1.disks.length (r.1.disks.map (Value.int .i64)) ∧ Ext w w'
theorem rf_vol {lv : Value} {V : List Vl} {v : Nat} {y : Vl} (h : V[v]? = some y) : (rfArr lv V)[1 + v * 3]? = some (.bool y.closed) ∧ (rfArr lv V)[1 + v * 3 + 1]? = some (.bool y.erase) ∧ (rfArr lv V)[1 + v * 3 + 2]? = some (.int .i64 y.gen) := by
  have key : ∀ j, j < 3 → (rfArr lv V)[1 + v * 3 + j]? = (vlRow y)[j]? := fun j hj => by
    unfold rfArr
    rw [List.getElem?_toArray, show 1 + v * 3 + j = (3 * v + j) + 1 by omega, List.getElem?_cons_succ, vol_flat _ _ _ hj, h]
    rfl
  exact ⟨key 0 (by omega), key 1 (by omega), key 2 (by omega)⟩
section blob
variable (w : World) (X : Array Value) (b : Bl) (dv : Value) (x : Cmd) (dx : Value) (y : Vl) (hb : w.ownsRow 0 3 1 dv b.disks.length (b.disks.map (Value.int .i64))) (hx : w.ownsRow 0 3 1 dx x.disks.length (x.disks.map (Value.int .i64)))
  (hbl : b.disks.length ≤ 17592186043904) (hxl : x.disks.length ≤ 17592186043904)
include hb hx hbl hxl
set_option maxRecDepth 100000 in
set_option maxHeartbeats 8000000 in
theorem rblob_6 (hk : x.kind = 6) (hpn : 0 ≤ b.pins ∧ b.pins ≤ 2147483648) : Calls Tryz.prog 64 #[.agg X, .agg (blCells b dv), cmdVal x dx] w (RbOut w (blobR y.closed b x)) := by
  have _hh := And.intro hbl hxl
  obtain ⟨dA, dc, rfl⟩ := own_slc hb
  obtain ⟨xA, xc, rfl⟩ := own_slc hx
  unfold cmdVal
  have HK := Lib.hid hk
  clear hk
  go_enter Tryz.func64, Tryz.ntmps64
  have hC := (((At.new w 31 X).alloc (.cells (blCells b (.slice dA b.disks.length dc)) 80)).alloc (.cells #[.int .i64 x.kind, .int .i64 x.client, .int .i64 x.seq, .string x.name, .int .u64 (x.blob : Int), .int .i64 x.size, .int .u32 (x.sum : Int), .slice xA x.disks.length xc, .int .i64 x.pool, .int .i64 x.vol, .int .i64 x.at_] 75)).alloc (.cells #[.int .u64 0, .string ⟨#[]⟩, .int .i64 0, .int .u32 0, .slice none 0 0, .bool false, .int .i64 0, .int .i64 0, .bool false, .int .i64 0, .int .i64 0, .int .i64 0, .bool false] 80)
  have hQ := ((At.new (w.alloc (.cells X 31)) 80 (blCells b (.slice dA b.disks.length dc))).alloc (.cells #[.int .i64 x.kind, .int .i64 x.client, .int .i64 x.seq, .string x.name, .int .u64 (x.blob : Int), .int .i64 x.size, .int .u32 (x.sum : Int), .slice xA x.disks.length xc, .int .i64 x.pool, .int .i64 x.vol, .int .i64 x.at_] 75)).alloc (.cells #[.int .u64 0, .string ⟨#[]⟩, .int .i64 0, .int .u32 0, .slice none 0 0, .bool false, .int .i64 0, .int .i64 0, .bool false, .int .i64 0, .int .i64 0, .int .i64 0, .bool false] 80)
  have hY := (At.new ((w.alloc (.cells X 31)).alloc (.cells (blCells b (.slice dA b.disks.length dc)) 80)) 75 #[.int .i64 x.kind, .int .i64 x.client, .int .i64 x.seq, .string x.name, .int .u64 (x.blob : Int), .int .i64 x.size, .int .u32 (x.sum : Int), .slice xA x.disks.length xc, .int .i64 x.pool, .int .i64 x.vol, .int .i64 x.at_]).alloc (.cells #[.int .u64 0, .string ⟨#[]⟩, .int .i64 0, .int .u32 0, .slice none 0 0, .bool false, .int .i64 0, .int .i64 0, .bool false, .int .i64 0, .int .i64 0, .int .i64 0, .bool false] 80)
  have hZ := At.new (((w.alloc (.cells X 31)).alloc (.cells (blCells b (.slice dA b.disks.length dc)) 80)).alloc (.cells #[.int .i64 x.kind, .int .i64 x.client, .int .i64 x.seq, .string x.name, .int .u64 (x.blob : Int), .int .i64 x.size, .int .u32 (x.sum : Int), .slice xA x.disks.length xc, .int .i64 x.pool, .int .i64 x.vol, .int .i64 x.at_] 75)) 80 #[.int .u64 0, .string ⟨#[]⟩, .int .i64 0, .int .u32 0, .slice none 0 0, .bool false, .int .i64 0, .int .i64 0, .bool false, .int .i64 0, .int .i64 0, .int .i64 0, .bool false]
  have hE := ((((Ext.refl w).alloc (.cells X 31)).alloc (.cells (blCells b (.slice dA b.disks.length dc)) 80)).alloc (.cells #[.int .i64 x.kind, .int .i64 x.client, .int .i64 x.seq, .string x.name, .int .u64 (x.blob : Int), .int .i64 x.size, .int .u32 (x.sum : Int), .slice xA x.disks.length xc, .int .i64 x.pool, .int .i64 x.vol, .int .i64 x.at_] 75)).alloc (.cells #[.int .u64 0, .string ⟨#[]⟩, .int .i64 0, .int .u32 0, .slice none 0 0, .bool false, .int .i64 0, .int .i64 0, .bool false, .int .i64 0, .int .i64 0, .int .i64 0, .bool false] 80)
  rw [show (w.alloc (.cells X 31)).heap.size = w.heap.size + 1 by simp] at hQ
  rw [show ((w.alloc (.cells X 31)).alloc (.cells (blCells b (.slice dA b.disks.length dc)) 80)).heap.size = w.heap.size + 1 + 1 by simp] at hY
  rw [show (((w.alloc (.cells X 31)).alloc (.cells (blCells b (.slice dA b.disks.length dc)) 80)).alloc (.cells #[.int .i64 x.kind, .int .i64 x.client, .int .i64 x.seq, .string x.name, .int .u64 (x.blob : Int), .int .i64 x.size, .int .u32 (x.sum : Int), .slice xA x.disks.length xc, .int .i64 x.pool, .int .i64 x.vol, .int .i64 x.at_] 75)).heap.size = w.heap.size + 1 + 1 + 1 by simp] at hZ
  go_upto_region 1 with fail
  obtain ⟨xb, hxb⟩ : ∃ xb, w.heap.size = xb := ⟨_, rfl⟩
  rw [hxb] at hC hQ hY hZ ⊢
  generalize World.alloc _ _ = W at hC hQ hY hZ hE ⊢
  have HXB := Lib.hid (show w.heap.size ≤ xb by omega)
  have hxb2 := hZ.lt
  have lC := hC.lt
  have lQ := hQ.lt
  have lY := hY.lt
  clear hxb
  have HBO := Lib.hid hb
  have HXO := Lib.hid hx
  clear hb hx
  have y0 := hY.cell 0
  simp at y0
  rw [HK.out] at y0
  have q11 := hQ.cell 11
  have f11 := hQ.frozen 11
  simp at q11
  by_cases hp : b.pins = 0
  · rw [hp] at q11
    have HP := Lib.hid hp
    clear hp
    go_upto_region 4 with fail
    clear q11 f11 y0
    have HEQ : Hid (blobR y.closed b x = (b, true, 16)) := Lib.hid (by unfold blobR chgB; rw [if_neg (by rw [HK.out]; decide), if_pos HK.out, if_pos HP.out])
    have HRG := Lib.hid hQ.range
    have HTH : Hid (W.there (xb + 1 + 1 + 1) 0 (blCells b (.slice dA b.disks.length dc)).toList.toArray.size) := Lib.hid hZ.there
    have hEF : Ext w (W.setCells (xb + 1 + 1 + 1) 0 (blCells b (.slice dA b.disks.length dc)).toList) := hE.setCells (by have := HXB.out; omega) _ _
    have hld : (loadVar 80 ⟨xb + 1 + 1 + 1, 0, none⟩).run Tryz.prog (W.setCells (xb + 1 + 1 + 1) 0 (blCells b (.slice dA b.disks.length dc)).toList) = .ok (.agg (blCells b (.slice dA b.disks.length dc))) (W.setCells (xb + 1 + 1 + 1) 0 (blCells b (.slice dA b.disks.length dc)).toList) :=
      run_loadVar_mid (P := Tryz.prog) (W.setCells (xb + 1 + 1 + 1) 0 (blCells b (.slice dA b.disks.length dc)).toList) (xb + 1 + 1 + 1) 0 80 (blCells b (.slice dA b.disks.length dc)).toList _ (World.rangeAt_setCells_same W (xb + 1 + 1 + 1) 0 (blCells b (.slice dA b.disks.length dc)).toList HTH.out) Tryz.underlying80 rfl blC_info
    have HEF := Lib.hid hEF
    have HLD := Lib.hid hld
    clear hC hQ hY hZ hE hEF hld
    go_wp2_with (first | (refine wpList_load_mid rfl 80 _ rfl (xb + 1) 0 rfl _ _ HRG.out Tryz.underlying80 rfl blC_info ?_) | (refine wpList_store_mid rfl 80 _ _ rfl (xb + 1 + 1 + 1) 0 (blCells b (.slice dA b.disks.length dc)).toList.toArray rfl rfl HTH.out blC_info (blC_one _ _ _ _) ?_))
    refine bodyPost_ret (v := .tuple #[.agg (blCells b (.slice dA b.disks.length dc)), .bool true, .int .i64 16]) (results_three Tryz.results64 _ rfl HLD.out) rfl ?_
    rw [HEQ.out]
    exact ⟨(.slice dA b.disks.length dc), rfl, own_keep (HBO.out) HEF.out (fun _ _ hh => hh), HEF.out⟩
  · have HP := Lib.hid hp
    have hpe : (b.pins == 0) = false := by rw [beq_eq_false_iff_ne]; exact hp
    have hw : IntKind.i64.wrap (b.pins - 1) = b.pins - 1 := IntWalk.i64_in _ (by omega)
    clear hp
    go_upto_region 41 with fail
    clear q11 f11 y0 hpe hw
    have hQ2 : At (W.setCell ⟨xb + 1, 11, none⟩ (.int .i64 (b.pins - 1))) (xb + 1) 80 (blCells { b with pins := b.pins - 1 } (.slice dA b.disks.length dc)) := hQ.set 11 (.int .i64 (b.pins - 1))
    have hZ2 := hZ.far (p := ⟨xb + 1, 11, none⟩) (show xb + 1 + 1 + 1 ≠ xb + 1 by omega) (.int .i64 (b.pins - 1))
    have hE2 : Ext w (W.setCell ⟨xb + 1, 11, none⟩ (.int .i64 (b.pins - 1))) := Chg.setCell (p := ⟨xb + 1, 11, none⟩) hE (.inr (by have := HXB.out; show _ ≤ xb + 1; omega)) _
    clear hC hQ hY hZ hE
    generalize W.setCell ⟨xb + 1, 11, none⟩ (.int .i64 (b.pins - 1)) = W2 at hQ2 hZ2 hE2 ⊢
    have hC := hQ2
    have hQ := hQ2
    have hZ := hZ2
    have hE := hE2
    have hY := hQ2
    clear hQ2 hZ2 hE2
    have HEQ : Hid (blobR y.closed b x = ({ b with pins := b.pins - 1 }, true, 0)) := Lib.hid (by unfold blobR chgB; rw [if_neg (by rw [HK.out]; decide), if_pos HK.out, if_neg HP.out])
    have HRG := Lib.hid hQ.range
    have HTH : Hid (W2.there (xb + 1 + 1 + 1) 0 (blCells { b with pins := b.pins - 1 } (.slice dA b.disks.length dc)).toList.toArray.size) := Lib.hid hZ.there
    have hEF : Ext w (W2.setCells (xb + 1 + 1 + 1) 0 (blCells { b with pins := b.pins - 1 } (.slice dA b.disks.length dc)).toList) := hE.setCells (by have := HXB.out; omega) _ _
    have hld : (loadVar 80 ⟨xb + 1 + 1 + 1, 0, none⟩).run Tryz.prog (W2.setCells (xb + 1 + 1 + 1) 0 (blCells { b with pins := b.pins - 1 } (.slice dA b.disks.length dc)).toList) = .ok (.agg (blCells { b with pins := b.pins - 1 } (.slice dA b.disks.length dc))) (W2.setCells (xb + 1 + 1 + 1) 0 (blCells { b with pins := b.pins - 1 } (.slice dA b.disks.length dc)).toList) :=
      run_loadVar_mid (P := Tryz.prog) (W2.setCells (xb + 1 + 1 + 1) 0 (blCells { b with pins := b.pins - 1 } (.slice dA b.disks.length dc)).toList) (xb + 1 + 1 + 1) 0 80 (blCells { b with pins := b.pins - 1 } (.slice dA b.disks.length dc)).toList _ (World.rangeAt_setCells_same W2 (xb + 1 + 1 + 1) 0 (blCells { b with pins := b.pins - 1 } (.slice dA b.disks.length dc)).toList HTH.out) Tryz.underlying80 rfl blC_info
    have HEF := Lib.hid hEF
    have HLD := Lib.hid hld
    clear hC hQ hY hZ hE hEF hld
    go_wp2_with (first | (refine wpList_load_mid rfl 80 _ rfl (xb + 1) 0 rfl _ _ HRG.out Tryz.underlying80 rfl blC_info ?_) | (refine wpList_store_mid rfl 80 _ _ rfl (xb + 1 + 1 + 1) 0 (blCells { b with pins := b.pins - 1 } (.slice dA b.disks.length dc)).toList.toArray rfl rfl HTH.out blC_info (blC_one _ _ _ _) ?_))
    refine bodyPost_ret (v := .tuple #[.agg (blCells { b with pins := b.pins - 1 } (.slice dA b.disks.length dc)), .bool true, .int .i64 0]) (results_three Tryz.results64 _ rfl HLD.out) rfl ?_
    rw [HEQ.out]
    exact ⟨(.slice dA b.disks.length dc), rfl, own_keep (HBO.out) HEF.out (fun _ _ hh => hh), HEF.out⟩
set_option maxRecDepth 100000 in
set_option maxHeartbeats 8000000 in
theorem rblob_7 (hk : x.kind = 7) : Calls Tryz.prog 64 #[.agg X, .agg (blCells b dv), cmdVal x dx] w (RbOut w (blobR y.closed b x)) := by
  have _hh := And.intro hbl hxl
  obtain ⟨dA, dc, rfl⟩ := own_slc hb
  obtain ⟨xA, xc, rfl⟩ := own_slc hx
  unfold cmdVal
  have HK := Lib.hid hk
  clear hk
  go_enter Tryz.func64, Tryz.ntmps64
  have hC := (((At.new w 31 X).alloc (.cells (blCells b (.slice dA b.disks.length dc)) 80)).alloc (.cells #[.int .i64 x.kind, .int .i64 x.client, .int .i64 x.seq, .string x.name, .int .u64 (x.blob : Int), .int .i64 x.size, .int .u32 (x.sum : Int), .slice xA x.disks.length xc, .int .i64 x.pool, .int .i64 x.vol, .int .i64 x.at_] 75)).alloc (.cells #[.int .u64 0, .string ⟨#[]⟩, .int .i64 0, .int .u32 0, .slice none 0 0, .bool false, .int .i64 0, .int .i64 0, .bool false, .int .i64 0, .int .i64 0, .int .i64 0, .bool false] 80)
  have hQ := ((At.new (w.alloc (.cells X 31)) 80 (blCells b (.slice dA b.disks.length dc))).alloc (.cells #[.int .i64 x.kind, .int .i64 x.client, .int .i64 x.seq, .string x.name, .int .u64 (x.blob : Int), .int .i64 x.size, .int .u32 (x.sum : Int), .slice xA x.disks.length xc, .int .i64 x.pool, .int .i64 x.vol, .int .i64 x.at_] 75)).alloc (.cells #[.int .u64 0, .string ⟨#[]⟩, .int .i64 0, .int .u32 0, .slice none 0 0, .bool false, .int .i64 0, .int .i64 0, .bool false, .int .i64 0, .int .i64 0, .int .i64 0, .bool false] 80)
  have hY := (At.new ((w.alloc (.cells X 31)).alloc (.cells (blCells b (.slice dA b.disks.length dc)) 80)) 75 #[.int .i64 x.kind, .int .i64 x.client, .int .i64 x.seq, .string x.name, .int .u64 (x.blob : Int), .int .i64 x.size, .int .u32 (x.sum : Int), .slice xA x.disks.length xc, .int .i64 x.pool, .int .i64 x.vol, .int .i64 x.at_]).alloc (.cells #[.int .u64 0, .string ⟨#[]⟩, .int .i64 0, .int .u32 0, .slice none 0 0, .bool false, .int .i64 0, .int .i64 0, .bool false, .int .i64 0, .int .i64 0, .int .i64 0, .bool false] 80)
  have hZ := At.new (((w.alloc (.cells X 31)).alloc (.cells (blCells b (.slice dA b.disks.length dc)) 80)).alloc (.cells #[.int .i64 x.kind, .int .i64 x.client, .int .i64 x.seq, .string x.name, .int .u64 (x.blob : Int), .int .i64 x.size, .int .u32 (x.sum : Int), .slice xA x.disks.length xc, .int .i64 x.pool, .int .i64 x.vol, .int .i64 x.at_] 75)) 80 #[.int .u64 0, .string ⟨#[]⟩, .int .i64 0, .int .u32 0, .slice none 0 0, .bool false, .int .i64 0, .int .i64 0, .bool false, .int .i64 0, .int .i64 0, .int .i64 0, .bool false]
  have hE := ((((Ext.refl w).alloc (.cells X 31)).alloc (.cells (blCells b (.slice dA b.disks.length dc)) 80)).alloc (.cells #[.int .i64 x.kind, .int .i64 x.client, .int .i64 x.seq, .string x.name, .int .u64 (x.blob : Int), .int .i64 x.size, .int .u32 (x.sum : Int), .slice xA x.disks.length xc, .int .i64 x.pool, .int .i64 x.vol, .int .i64 x.at_] 75)).alloc (.cells #[.int .u64 0, .string ⟨#[]⟩, .int .i64 0, .int .u32 0, .slice none 0 0, .bool false, .int .i64 0, .int .i64 0, .bool false, .int .i64 0, .int .i64 0, .int .i64 0, .bool false] 80)
  rw [show (w.alloc (.cells X 31)).heap.size = w.heap.size + 1 by simp] at hQ
  rw [show ((w.alloc (.cells X 31)).alloc (.cells (blCells b (.slice dA b.disks.length dc)) 80)).heap.size = w.heap.size + 1 + 1 by simp] at hY
  rw [show (((w.alloc (.cells X 31)).alloc (.cells (blCells b (.slice dA b.disks.length dc)) 80)).alloc (.cells #[.int .i64 x.kind, .int .i64 x.client, .int .i64 x.seq, .string x.name, .int .u64 (x.blob : Int), .int .i64 x.size, .int .u32 (x.sum : Int), .slice xA x.disks.length xc, .int .i64 x.pool, .int .i64 x.vol, .int .i64 x.at_] 75)).heap.size = w.heap.size + 1 + 1 + 1 by simp] at hZ
  go_upto_region 1 with fail
  obtain ⟨xb, hxb⟩ : ∃ xb, w.heap.size = xb := ⟨_, rfl⟩
  rw [hxb] at hC hQ hY hZ ⊢
  generalize World.alloc _ _ = W at hC hQ hY hZ hE ⊢
  have HXB := Lib.hid (show w.heap.size ≤ xb by omega)
  have hxb2 := hZ.lt
  have lC := hC.lt
  have lQ := hQ.lt
  have lY := hY.lt
  clear hxb
  have HBO := Lib.hid hb
  have HXO := Lib.hid hx
  clear hb hx
  have y0 := hY.cell 0
  simp at y0
  rw [HK.out] at y0
  have y7 := hY.cell 7
  have q4 := hQ.cell 4
  have f4 := hQ.frozen 4
  simp at y7 q4
  by_cases h1 : x.disks = []
  · have hl : (x.disks.length : Int) = 0 := by rw [h1]; rfl
    have H1 := Lib.hid h1
    clear h1
    go_upto_region 8 with fail
    clear q4 f4 y0 y7 hl
    have HEQ : Hid (blobR y.closed b x = (b, true, 1)) := Lib.hid (by unfold blobR chgB; rw [if_neg (by rw [HK.out]; decide), if_neg (by rw [HK.out]; decide), if_pos HK.out, if_pos H1.out])
    have HRG := Lib.hid hQ.range
    have HTH : Hid (W.there (xb + 1 + 1 + 1) 0 (blCells b (.slice dA b.disks.length dc)).toList.toArray.size) := Lib.hid hZ.there
    have hEF : Ext w (W.setCells (xb + 1 + 1 + 1) 0 (blCells b (.slice dA b.disks.length dc)).toList) := hE.setCells (by have := HXB.out; omega) _ _
    have hld : (loadVar 80 ⟨xb + 1 + 1 + 1, 0, none⟩).run Tryz.prog (W.setCells (xb + 1 + 1 + 1) 0 (blCells b (.slice dA b.disks.length dc)).toList) = .ok (.agg (blCells b (.slice dA b.disks.length dc))) (W.setCells (xb + 1 + 1 + 1) 0 (blCells b (.slice dA b.disks.length dc)).toList) :=
      run_loadVar_mid (P := Tryz.prog) (W.setCells (xb + 1 + 1 + 1) 0 (blCells b (.slice dA b.disks.length dc)).toList) (xb + 1 + 1 + 1) 0 80 (blCells b (.slice dA b.disks.length dc)).toList _ (World.rangeAt_setCells_same W (xb + 1 + 1 + 1) 0 (blCells b (.slice dA b.disks.length dc)).toList HTH.out) Tryz.underlying80 rfl blC_info
    have HEF := Lib.hid hEF
    have HLD := Lib.hid hld
    clear hC hQ hY hZ hE hEF hld
    go_wp2_with (first | (refine wpList_load_mid rfl 80 _ rfl (xb + 1) 0 rfl _ _ HRG.out Tryz.underlying80 rfl blC_info ?_) | (refine wpList_store_mid rfl 80 _ _ rfl (xb + 1 + 1 + 1) 0 (blCells b (.slice dA b.disks.length dc)).toList.toArray rfl rfl HTH.out blC_info (blC_one _ _ _ _) ?_))
    refine bodyPost_ret (v := .tuple #[.agg (blCells b (.slice dA b.disks.length dc)), .bool true, .int .i64 1]) (results_three Tryz.results64 _ rfl HLD.out) rfl ?_
    rw [HEQ.out]
    exact ⟨(.slice dA b.disks.length dc), rfl, own_keep (HBO.out) HEF.out (fun _ _ hh => hh), HEF.out⟩
  · have hl : ¬ x.disks.length = 0 := fun e => h1 (List.length_eq_zero_iff.1 e)
    have H1 := Lib.hid h1
    clear h1
    by_cases h2 : b.disks = []
    · have hl2 : (b.disks.length : Int) = 0 := by rw [h2]; rfl
      have H2 := Lib.hid h2
      clear h2
      go_upto_region 10 with fail
      clear q4 f4 y0 y7 hl hl2
      have HEQ : Hid (blobR y.closed b x = (b, true, 16)) := Lib.hid (by unfold blobR chgB; rw [if_neg (by rw [HK.out]; decide), if_neg (by rw [HK.out]; decide), if_pos HK.out, if_neg H1.out, if_pos H2.out])
      have HRG := Lib.hid hQ.range
      have HTH : Hid (W.there (xb + 1 + 1 + 1) 0 (blCells b (.slice dA b.disks.length dc)).toList.toArray.size) := Lib.hid hZ.there
      have hEF : Ext w (W.setCells (xb + 1 + 1 + 1) 0 (blCells b (.slice dA b.disks.length dc)).toList) := hE.setCells (by have := HXB.out; omega) _ _
      have hld : (loadVar 80 ⟨xb + 1 + 1 + 1, 0, none⟩).run Tryz.prog (W.setCells (xb + 1 + 1 + 1) 0 (blCells b (.slice dA b.disks.length dc)).toList) = .ok (.agg (blCells b (.slice dA b.disks.length dc))) (W.setCells (xb + 1 + 1 + 1) 0 (blCells b (.slice dA b.disks.length dc)).toList) :=
        run_loadVar_mid (P := Tryz.prog) (W.setCells (xb + 1 + 1 + 1) 0 (blCells b (.slice dA b.disks.length dc)).toList) (xb + 1 + 1 + 1) 0 80 (blCells b (.slice dA b.disks.length dc)).toList _ (World.rangeAt_setCells_same W (xb + 1 + 1 + 1) 0 (blCells b (.slice dA b.disks.length dc)).toList HTH.out) Tryz.underlying80 rfl blC_info
      have HEF := Lib.hid hEF
      have HLD := Lib.hid hld
      clear hC hQ hY hZ hE hEF hld
      go_wp2_with (first | (refine wpList_load_mid rfl 80 _ rfl (xb + 1) 0 rfl _ _ HRG.out Tryz.underlying80 rfl blC_info ?_) | (refine wpList_store_mid rfl 80 _ _ rfl (xb + 1 + 1 + 1) 0 (blCells b (.slice dA b.disks.length dc)).toList.toArray rfl rfl HTH.out blC_info (blC_one _ _ _ _) ?_))
      refine bodyPost_ret (v := .tuple #[.agg (blCells b (.slice dA b.disks.length dc)), .bool true, .int .i64 16]) (results_three Tryz.results64 _ rfl HLD.out) rfl ?_
      rw [HEQ.out]
      exact ⟨(.slice dA b.disks.length dc), rfl, own_keep (HBO.out) HEF.out (fun _ _ hh => hh), HEF.out⟩
    · have hl2 : ¬ b.disks.length = 0 := fun e => h2 (List.length_eq_zero_iff.1 e)
      have H2 := Lib.hid h2
      clear h2
      go_upto_region 41 with fail
      clear q4 f4 y0 y7 hl hl2
      have hQ2 : At (W.setCell ⟨xb + 1, 4, none⟩ (.slice xA x.disks.length xc)) (xb + 1) 80 (blCells { b with disks := x.disks } (.slice xA x.disks.length xc)) := hQ.set 4 (.slice xA x.disks.length xc)
      have hZ2 := hZ.far (p := ⟨xb + 1, 4, none⟩) (show xb + 1 + 1 + 1 ≠ xb + 1 by omega) (.slice xA x.disks.length xc)
      have hE2 : Ext w (W.setCell ⟨xb + 1, 4, none⟩ (.slice xA x.disks.length xc)) := Chg.setCell (p := ⟨xb + 1, 4, none⟩) hE (.inr (by have := HXB.out; show _ ≤ xb + 1; omega)) _
      clear hC hQ hY hZ hE
      generalize W.setCell ⟨xb + 1, 4, none⟩ (.slice xA x.disks.length xc) = W2 at hQ2 hZ2 hE2 ⊢
      have hC := hQ2
      have hQ := hQ2
      have hZ := hZ2
      have hE := hE2
      have hY := hQ2
      clear hQ2 hZ2 hE2
      have HEQ : Hid (blobR y.closed b x = ({ b with disks := x.disks }, true, 0)) := Lib.hid (by unfold blobR chgB; rw [if_neg (by rw [HK.out]; decide), if_neg (by rw [HK.out]; decide), if_pos HK.out, if_neg H1.out, if_neg H2.out])
      have HRG := Lib.hid hQ.range
      have HTH : Hid (W2.there (xb + 1 + 1 + 1) 0 (blCells { b with disks := x.disks } (.slice xA x.disks.length xc)).toList.toArray.size) := Lib.hid hZ.there
      have hEF : Ext w (W2.setCells (xb + 1 + 1 + 1) 0 (blCells { b with disks := x.disks } (.slice xA x.disks.length xc)).toList) := hE.setCells (by have := HXB.out; omega) _ _
      have hld : (loadVar 80 ⟨xb + 1 + 1 + 1, 0, none⟩).run Tryz.prog (W2.setCells (xb + 1 + 1 + 1) 0 (blCells { b with disks := x.disks } (.slice xA x.disks.length xc)).toList) = .ok (.agg (blCells { b with disks := x.disks } (.slice xA x.disks.length xc))) (W2.setCells (xb + 1 + 1 + 1) 0 (blCells { b with disks := x.disks } (.slice xA x.disks.length xc)).toList) :=
        run_loadVar_mid (P := Tryz.prog) (W2.setCells (xb + 1 + 1 + 1) 0 (blCells { b with disks := x.disks } (.slice xA x.disks.length xc)).toList) (xb + 1 + 1 + 1) 0 80 (blCells { b with disks := x.disks } (.slice xA x.disks.length xc)).toList _ (World.rangeAt_setCells_same W2 (xb + 1 + 1 + 1) 0 (blCells { b with disks := x.disks } (.slice xA x.disks.length xc)).toList HTH.out) Tryz.underlying80 rfl blC_info
      have HEF := Lib.hid hEF
      have HLD := Lib.hid hld
      clear hC hQ hY hZ hE hEF hld
      go_wp2_with (first | (refine wpList_load_mid rfl 80 _ rfl (xb + 1) 0 rfl _ _ HRG.out Tryz.underlying80 rfl blC_info ?_) | (refine wpList_store_mid rfl 80 _ _ rfl (xb + 1 + 1 + 1) 0 (blCells { b with disks := x.disks } (.slice xA x.disks.length xc)).toList.toArray rfl rfl HTH.out blC_info (blC_one _ _ _ _) ?_))
      refine bodyPost_ret (v := .tuple #[.agg (blCells { b with disks := x.disks } (.slice xA x.disks.length xc)), .bool true, .int .i64 0]) (results_three Tryz.results64 _ rfl HLD.out) rfl ?_
      rw [HEQ.out]
      exact ⟨(.slice xA x.disks.length xc), rfl, own_keep (HXO.out) HEF.out (fun _ _ hh => hh), HEF.out⟩
set_option maxRecDepth 100000 in
set_option maxHeartbeats 8000000 in
theorem rblob_10 (hk : x.kind = 10) : Calls Tryz.prog 64 #[.agg X, .agg (blCells b dv), cmdVal x dx] w (RbOut w (blobR y.closed b x)) := by
  have _hh := And.intro hbl hxl
  obtain ⟨dA, dc, rfl⟩ := own_slc hb
  obtain ⟨xA, xc, rfl⟩ := own_slc hx
  unfold cmdVal
  have HK := Lib.hid hk
  clear hk
  go_enter Tryz.func64, Tryz.ntmps64
  have hC := (((At.new w 31 X).alloc (.cells (blCells b (.slice dA b.disks.length dc)) 80)).alloc (.cells #[.int .i64 x.kind, .int .i64 x.client, .int .i64 x.seq, .string x.name, .int .u64 (x.blob : Int), .int .i64 x.size, .int .u32 (x.sum : Int), .slice xA x.disks.length xc, .int .i64 x.pool, .int .i64 x.vol, .int .i64 x.at_] 75)).alloc (.cells #[.int .u64 0, .string ⟨#[]⟩, .int .i64 0, .int .u32 0, .slice none 0 0, .bool false, .int .i64 0, .int .i64 0, .bool false, .int .i64 0, .int .i64 0, .int .i64 0, .bool false] 80)
  have hQ := ((At.new (w.alloc (.cells X 31)) 80 (blCells b (.slice dA b.disks.length dc))).alloc (.cells #[.int .i64 x.kind, .int .i64 x.client, .int .i64 x.seq, .string x.name, .int .u64 (x.blob : Int), .int .i64 x.size, .int .u32 (x.sum : Int), .slice xA x.disks.length xc, .int .i64 x.pool, .int .i64 x.vol, .int .i64 x.at_] 75)).alloc (.cells #[.int .u64 0, .string ⟨#[]⟩, .int .i64 0, .int .u32 0, .slice none 0 0, .bool false, .int .i64 0, .int .i64 0, .bool false, .int .i64 0, .int .i64 0, .int .i64 0, .bool false] 80)
  have hY := (At.new ((w.alloc (.cells X 31)).alloc (.cells (blCells b (.slice dA b.disks.length dc)) 80)) 75 #[.int .i64 x.kind, .int .i64 x.client, .int .i64 x.seq, .string x.name, .int .u64 (x.blob : Int), .int .i64 x.size, .int .u32 (x.sum : Int), .slice xA x.disks.length xc, .int .i64 x.pool, .int .i64 x.vol, .int .i64 x.at_]).alloc (.cells #[.int .u64 0, .string ⟨#[]⟩, .int .i64 0, .int .u32 0, .slice none 0 0, .bool false, .int .i64 0, .int .i64 0, .bool false, .int .i64 0, .int .i64 0, .int .i64 0, .bool false] 80)
  have hZ := At.new (((w.alloc (.cells X 31)).alloc (.cells (blCells b (.slice dA b.disks.length dc)) 80)).alloc (.cells #[.int .i64 x.kind, .int .i64 x.client, .int .i64 x.seq, .string x.name, .int .u64 (x.blob : Int), .int .i64 x.size, .int .u32 (x.sum : Int), .slice xA x.disks.length xc, .int .i64 x.pool, .int .i64 x.vol, .int .i64 x.at_] 75)) 80 #[.int .u64 0, .string ⟨#[]⟩, .int .i64 0, .int .u32 0, .slice none 0 0, .bool false, .int .i64 0, .int .i64 0, .bool false, .int .i64 0, .int .i64 0, .int .i64 0, .bool false]
  have hE := ((((Ext.refl w).alloc (.cells X 31)).alloc (.cells (blCells b (.slice dA b.disks.length dc)) 80)).alloc (.cells #[.int .i64 x.kind, .int .i64 x.client, .int .i64 x.seq, .string x.name, .int .u64 (x.blob : Int), .int .i64 x.size, .int .u32 (x.sum : Int), .slice xA x.disks.length xc, .int .i64 x.pool, .int .i64 x.vol, .int .i64 x.at_] 75)).alloc (.cells #[.int .u64 0, .string ⟨#[]⟩, .int .i64 0, .int .u32 0, .slice none 0 0, .bool false, .int .i64 0, .int .i64 0, .bool false, .int .i64 0, .int .i64 0, .int .i64 0, .bool false] 80)
  rw [show (w.alloc (.cells X 31)).heap.size = w.heap.size + 1 by simp] at hQ
  rw [show ((w.alloc (.cells X 31)).alloc (.cells (blCells b (.slice dA b.disks.length dc)) 80)).heap.size = w.heap.size + 1 + 1 by simp] at hY
  rw [show (((w.alloc (.cells X 31)).alloc (.cells (blCells b (.slice dA b.disks.length dc)) 80)).alloc (.cells #[.int .i64 x.kind, .int .i64 x.client, .int .i64 x.seq, .string x.name, .int .u64 (x.blob : Int), .int .i64 x.size, .int .u32 (x.sum : Int), .slice xA x.disks.length xc, .int .i64 x.pool, .int .i64 x.vol, .int .i64 x.at_] 75)).heap.size = w.heap.size + 1 + 1 + 1 by simp] at hZ
  go_upto_region 1 with fail
  obtain ⟨xb, hxb⟩ : ∃ xb, w.heap.size = xb := ⟨_, rfl⟩
  rw [hxb] at hC hQ hY hZ ⊢
  generalize World.alloc _ _ = W at hC hQ hY hZ hE ⊢
  have HXB := Lib.hid (show w.heap.size ≤ xb by omega)
  have hxb2 := hZ.lt
  have lC := hC.lt
  have lQ := hQ.lt
  have lY := hY.lt
  clear hxb
  have HBO := Lib.hid hb
  have HXO := Lib.hid hx
  clear hb hx
  have y0 := hY.cell 0
  simp at y0
  rw [HK.out] at y0
  have q11 := hQ.cell 11
  have q12 := hQ.cell 12
  simp at q11 q12
  rcases Bool.eq_false_or_eq_true b.dead with hd | hd
  · rw [hd] at q12
    have HD := Lib.hid hd
    clear hd
    by_cases hp : 0 < b.pins
    · have HP := Lib.hid hp
      go_upto_region 29 with fail
      clear q11 q12 y0 hp
      have HEQ : Hid (blobR y.closed b x = (b, true, 16)) := Lib.hid (by unfold blobR; rw [if_pos HK.out, if_pos (by simp [HP.out])])
      have HRG := Lib.hid hQ.range
      have HTH : Hid (W.there (xb + 1 + 1 + 1) 0 (blCells b (.slice dA b.disks.length dc)).toList.toArray.size) := Lib.hid hZ.there
      have hEF : Ext w (W.setCells (xb + 1 + 1 + 1) 0 (blCells b (.slice dA b.disks.length dc)).toList) := hE.setCells (by have := HXB.out; omega) _ _
      have hld : (loadVar 80 ⟨xb + 1 + 1 + 1, 0, none⟩).run Tryz.prog (W.setCells (xb + 1 + 1 + 1) 0 (blCells b (.slice dA b.disks.length dc)).toList) = .ok (.agg (blCells b (.slice dA b.disks.length dc))) (W.setCells (xb + 1 + 1 + 1) 0 (blCells b (.slice dA b.disks.length dc)).toList) :=
        run_loadVar_mid (P := Tryz.prog) (W.setCells (xb + 1 + 1 + 1) 0 (blCells b (.slice dA b.disks.length dc)).toList) (xb + 1 + 1 + 1) 0 80 (blCells b (.slice dA b.disks.length dc)).toList _ (World.rangeAt_setCells_same W (xb + 1 + 1 + 1) 0 (blCells b (.slice dA b.disks.length dc)).toList HTH.out) Tryz.underlying80 rfl blC_info
      have HEF := Lib.hid hEF
      have HLD := Lib.hid hld
      clear hC hQ hY hZ hE hEF hld
      go_wp2_with (first | (refine wpList_load_mid rfl 80 _ rfl (xb + 1) 0 rfl _ _ HRG.out Tryz.underlying80 rfl blC_info ?_) | (refine wpList_store_mid rfl 80 _ _ rfl (xb + 1 + 1 + 1) 0 (blCells b (.slice dA b.disks.length dc)).toList.toArray rfl rfl HTH.out blC_info (blC_one _ _ _ _) ?_))
      refine bodyPost_ret (v := .tuple #[.agg (blCells b (.slice dA b.disks.length dc)), .bool true, .int .i64 16]) (results_three Tryz.results64 _ rfl HLD.out) rfl ?_
      rw [HEQ.out]
      exact ⟨(.slice dA b.disks.length dc), rfl, own_keep (HBO.out) HEF.out (fun _ _ hh => hh), HEF.out⟩
    · have HP := Lib.hid hp
      go_upto_region 30 with fail
      clear q11 q12 y0 hp
      have HEQ : Hid (blobR y.closed b x = (b, false, 0)) := Lib.hid (by unfold blobR; rw [if_pos HK.out, if_neg (by simp [HP.out, HD.out])])
      have HRG := Lib.hid hQ.range
      have HTH : Hid (W.there (xb + 1 + 1 + 1) 0 (blCells b (.slice dA b.disks.length dc)).toList.toArray.size) := Lib.hid hZ.there
      have hEF : Ext w (W.setCells (xb + 1 + 1 + 1) 0 (blCells b (.slice dA b.disks.length dc)).toList) := hE.setCells (by have := HXB.out; omega) _ _
      have hld : (loadVar 80 ⟨xb + 1 + 1 + 1, 0, none⟩).run Tryz.prog (W.setCells (xb + 1 + 1 + 1) 0 (blCells b (.slice dA b.disks.length dc)).toList) = .ok (.agg (blCells b (.slice dA b.disks.length dc))) (W.setCells (xb + 1 + 1 + 1) 0 (blCells b (.slice dA b.disks.length dc)).toList) :=
        run_loadVar_mid (P := Tryz.prog) (W.setCells (xb + 1 + 1 + 1) 0 (blCells b (.slice dA b.disks.length dc)).toList) (xb + 1 + 1 + 1) 0 80 (blCells b (.slice dA b.disks.length dc)).toList _ (World.rangeAt_setCells_same W (xb + 1 + 1 + 1) 0 (blCells b (.slice dA b.disks.length dc)).toList HTH.out) Tryz.underlying80 rfl blC_info
      have HEF := Lib.hid hEF
      have HLD := Lib.hid hld
      clear hC hQ hY hZ hE hEF hld
      go_wp2_with (first | (refine wpList_load_mid rfl 80 _ rfl (xb + 1) 0 rfl _ _ HRG.out Tryz.underlying80 rfl blC_info ?_) | (refine wpList_store_mid rfl 80 _ _ rfl (xb + 1 + 1 + 1) 0 (blCells b (.slice dA b.disks.length dc)).toList.toArray rfl rfl HTH.out blC_info (blC_one _ _ _ _) ?_))
      refine bodyPost_ret (v := .tuple #[.agg (blCells b (.slice dA b.disks.length dc)), .bool false, .int .i64 0]) (results_three Tryz.results64 _ rfl HLD.out) rfl ?_
      rw [HEQ.out]
      exact ⟨(.slice dA b.disks.length dc), rfl, own_keep (HBO.out) HEF.out (fun _ _ hh => hh), HEF.out⟩
  · rw [hd] at q12
    have HD := Lib.hid hd
    clear hd
    go_upto_region 29 with fail
    clear q11 q12 y0
    have HEQ : Hid (blobR y.closed b x = (b, true, 16)) := Lib.hid (by unfold blobR; rw [if_pos HK.out, if_pos (by simp [HD.out])])
    have HRG := Lib.hid hQ.range
    have HTH : Hid (W.there (xb + 1 + 1 + 1) 0 (blCells b (.slice dA b.disks.length dc)).toList.toArray.size) := Lib.hid hZ.there
    have hEF : Ext w (W.setCells (xb + 1 + 1 + 1) 0 (blCells b (.slice dA b.disks.length dc)).toList) := hE.setCells (by have := HXB.out; omega) _ _
    have hld : (loadVar 80 ⟨xb + 1 + 1 + 1, 0, none⟩).run Tryz.prog (W.setCells (xb + 1 + 1 + 1) 0 (blCells b (.slice dA b.disks.length dc)).toList) = .ok (.agg (blCells b (.slice dA b.disks.length dc))) (W.setCells (xb + 1 + 1 + 1) 0 (blCells b (.slice dA b.disks.length dc)).toList) :=
      run_loadVar_mid (P := Tryz.prog) (W.setCells (xb + 1 + 1 + 1) 0 (blCells b (.slice dA b.disks.length dc)).toList) (xb + 1 + 1 + 1) 0 80 (blCells b (.slice dA b.disks.length dc)).toList _ (World.rangeAt_setCells_same W (xb + 1 + 1 + 1) 0 (blCells b (.slice dA b.disks.length dc)).toList HTH.out) Tryz.underlying80 rfl blC_info
    have HEF := Lib.hid hEF
    have HLD := Lib.hid hld
    clear hC hQ hY hZ hE hEF hld
    go_wp2_with (first | (refine wpList_load_mid rfl 80 _ rfl (xb + 1) 0 rfl _ _ HRG.out Tryz.underlying80 rfl blC_info ?_) | (refine wpList_store_mid rfl 80 _ _ rfl (xb + 1 + 1 + 1) 0 (blCells b (.slice dA b.disks.length dc)).toList.toArray rfl rfl HTH.out blC_info (blC_one _ _ _ _) ?_))
    refine bodyPost_ret (v := .tuple #[.agg (blCells b (.slice dA b.disks.length dc)), .bool true, .int .i64 16]) (results_three Tryz.results64 _ rfl HLD.out) rfl ?_
    rw [HEQ.out]
    exact ⟨(.slice dA b.disks.length dc), rfl, own_keep (HBO.out) HEF.out (fun _ _ hh => hh), HEF.out⟩
set_option maxRecDepth 100000 in
set_option maxHeartbeats 8000000 in
theorem rblob_9 (hk : x.kind = 9) : Calls Tryz.prog 64 #[.agg X, .agg (blCells b dv), cmdVal x dx] w (RbOut w (blobR y.closed b x)) := by
  have _hh := And.intro hbl hxl
  obtain ⟨dA, dc, rfl⟩ := own_slc hb
  obtain ⟨xA, xc, rfl⟩ := own_slc hx
  unfold cmdVal
  have HK := Lib.hid hk
  clear hk
  go_enter Tryz.func64, Tryz.ntmps64
  have hC := (((At.new w 31 X).alloc (.cells (blCells b (.slice dA b.disks.length dc)) 80)).alloc (.cells #[.int .i64 x.kind, .int .i64 x.client, .int .i64 x.seq, .string x.name, .int .u64 (x.blob : Int), .int .i64 x.size, .int .u32 (x.sum : Int), .slice xA x.disks.length xc, .int .i64 x.pool, .int .i64 x.vol, .int .i64 x.at_] 75)).alloc (.cells #[.int .u64 0, .string ⟨#[]⟩, .int .i64 0, .int .u32 0, .slice none 0 0, .bool false, .int .i64 0, .int .i64 0, .bool false, .int .i64 0, .int .i64 0, .int .i64 0, .bool false] 80)
  have hQ := ((At.new (w.alloc (.cells X 31)) 80 (blCells b (.slice dA b.disks.length dc))).alloc (.cells #[.int .i64 x.kind, .int .i64 x.client, .int .i64 x.seq, .string x.name, .int .u64 (x.blob : Int), .int .i64 x.size, .int .u32 (x.sum : Int), .slice xA x.disks.length xc, .int .i64 x.pool, .int .i64 x.vol, .int .i64 x.at_] 75)).alloc (.cells #[.int .u64 0, .string ⟨#[]⟩, .int .i64 0, .int .u32 0, .slice none 0 0, .bool false, .int .i64 0, .int .i64 0, .bool false, .int .i64 0, .int .i64 0, .int .i64 0, .bool false] 80)
  have hY := (At.new ((w.alloc (.cells X 31)).alloc (.cells (blCells b (.slice dA b.disks.length dc)) 80)) 75 #[.int .i64 x.kind, .int .i64 x.client, .int .i64 x.seq, .string x.name, .int .u64 (x.blob : Int), .int .i64 x.size, .int .u32 (x.sum : Int), .slice xA x.disks.length xc, .int .i64 x.pool, .int .i64 x.vol, .int .i64 x.at_]).alloc (.cells #[.int .u64 0, .string ⟨#[]⟩, .int .i64 0, .int .u32 0, .slice none 0 0, .bool false, .int .i64 0, .int .i64 0, .bool false, .int .i64 0, .int .i64 0, .int .i64 0, .bool false] 80)
  have hZ := At.new (((w.alloc (.cells X 31)).alloc (.cells (blCells b (.slice dA b.disks.length dc)) 80)).alloc (.cells #[.int .i64 x.kind, .int .i64 x.client, .int .i64 x.seq, .string x.name, .int .u64 (x.blob : Int), .int .i64 x.size, .int .u32 (x.sum : Int), .slice xA x.disks.length xc, .int .i64 x.pool, .int .i64 x.vol, .int .i64 x.at_] 75)) 80 #[.int .u64 0, .string ⟨#[]⟩, .int .i64 0, .int .u32 0, .slice none 0 0, .bool false, .int .i64 0, .int .i64 0, .bool false, .int .i64 0, .int .i64 0, .int .i64 0, .bool false]
  have hE := ((((Ext.refl w).alloc (.cells X 31)).alloc (.cells (blCells b (.slice dA b.disks.length dc)) 80)).alloc (.cells #[.int .i64 x.kind, .int .i64 x.client, .int .i64 x.seq, .string x.name, .int .u64 (x.blob : Int), .int .i64 x.size, .int .u32 (x.sum : Int), .slice xA x.disks.length xc, .int .i64 x.pool, .int .i64 x.vol, .int .i64 x.at_] 75)).alloc (.cells #[.int .u64 0, .string ⟨#[]⟩, .int .i64 0, .int .u32 0, .slice none 0 0, .bool false, .int .i64 0, .int .i64 0, .bool false, .int .i64 0, .int .i64 0, .int .i64 0, .bool false] 80)
  rw [show (w.alloc (.cells X 31)).heap.size = w.heap.size + 1 by simp] at hQ
  rw [show ((w.alloc (.cells X 31)).alloc (.cells (blCells b (.slice dA b.disks.length dc)) 80)).heap.size = w.heap.size + 1 + 1 by simp] at hY
  rw [show (((w.alloc (.cells X 31)).alloc (.cells (blCells b (.slice dA b.disks.length dc)) 80)).alloc (.cells #[.int .i64 x.kind, .int .i64 x.client, .int .i64 x.seq, .string x.name, .int .u64 (x.blob : Int), .int .i64 x.size, .int .u32 (x.sum : Int), .slice xA x.disks.length xc, .int .i64 x.pool, .int .i64 x.vol, .int .i64 x.at_] 75)).heap.size = w.heap.size + 1 + 1 + 1 by simp] at hZ
  go_upto_region 1 with fail
  obtain ⟨xb, hxb⟩ : ∃ xb, w.heap.size = xb := ⟨_, rfl⟩
  rw [hxb] at hC hQ hY hZ ⊢
  generalize World.alloc _ _ = W at hC hQ hY hZ hE ⊢
  have HXB := Lib.hid (show w.heap.size ≤ xb by omega)
  have hxb2 := hZ.lt
  have lC := hC.lt
  have lQ := hQ.lt
  have lY := hY.lt
  clear hxb
  have HBO := Lib.hid hb
  have HXO := Lib.hid hx
  clear hb hx
  have y0 := hY.cell 0
  simp at y0
  rw [HK.out] at y0
  have q5 := hQ.cell 5
  have q8 := hQ.cell 8
  have q4 := hQ.cell 4
  have f4 := hQ.frozen 4
  simp at q5 q8 q4
  rcases Bool.eq_false_or_eq_true b.a.there with ha | ha
  · rw [ha] at q5
    have HA := Lib.hid ha
    clear ha
    rcases Bool.eq_false_or_eq_true b.b.there with hb2 | hb2
    · rw [hb2] at q8
      have HB := Lib.hid hb2
      clear hb2
      by_cases hd : b.disks = []
      · have hl : (b.disks.length : Int) = 0 := by rw [hd]; rfl
        have HD := Lib.hid hd
        clear hd
        go_upto_region 25 with fail
        clear q4 f4 q5 q8 y0 hl
        have HEQ : Hid (blobR y.closed b x = (b, true, 16)) := Lib.hid (by unfold blobR chgB; rw [if_neg (by rw [HK.out]; decide)]; rw [if_neg (by rw [HK.out]; decide)]; rw [if_neg (by rw [HK.out]; decide)]; rw [if_neg (by rw [HK.out]; decide)]; rw [if_pos HK.out, if_pos (by simp [HA.out, HB.out, HD.out])])
        have HRG := Lib.hid hQ.range
        have HTH : Hid (W.there (xb + 1 + 1 + 1) 0 (blCells b (.slice dA b.disks.length dc)).toList.toArray.size) := Lib.hid hZ.there
        have hEF : Ext w (W.setCells (xb + 1 + 1 + 1) 0 (blCells b (.slice dA b.disks.length dc)).toList) := hE.setCells (by have := HXB.out; omega) _ _
        have hld : (loadVar 80 ⟨xb + 1 + 1 + 1, 0, none⟩).run Tryz.prog (W.setCells (xb + 1 + 1 + 1) 0 (blCells b (.slice dA b.disks.length dc)).toList) = .ok (.agg (blCells b (.slice dA b.disks.length dc))) (W.setCells (xb + 1 + 1 + 1) 0 (blCells b (.slice dA b.disks.length dc)).toList) :=
          run_loadVar_mid (P := Tryz.prog) (W.setCells (xb + 1 + 1 + 1) 0 (blCells b (.slice dA b.disks.length dc)).toList) (xb + 1 + 1 + 1) 0 80 (blCells b (.slice dA b.disks.length dc)).toList _ (World.rangeAt_setCells_same W (xb + 1 + 1 + 1) 0 (blCells b (.slice dA b.disks.length dc)).toList HTH.out) Tryz.underlying80 rfl blC_info
        have HEF := Lib.hid hEF
        have HLD := Lib.hid hld
        clear hC hQ hY hZ hE hEF hld
        go_wp2_with (first | (refine wpList_load_mid rfl 80 _ rfl (xb + 1) 0 rfl _ _ HRG.out Tryz.underlying80 rfl blC_info ?_) | (refine wpList_store_mid rfl 80 _ _ rfl (xb + 1 + 1 + 1) 0 (blCells b (.slice dA b.disks.length dc)).toList.toArray rfl rfl HTH.out blC_info (blC_one _ _ _ _) ?_))
        refine bodyPost_ret (v := .tuple #[.agg (blCells b (.slice dA b.disks.length dc)), .bool true, .int .i64 16]) (results_three Tryz.results64 _ rfl HLD.out) rfl ?_
        rw [HEQ.out]
        exact ⟨(.slice dA b.disks.length dc), rfl, own_keep (HBO.out) HEF.out (fun _ _ hh => hh), HEF.out⟩
      · have hl : ¬ b.disks.length = 0 := fun e => hd (List.length_eq_zero_iff.1 e)
        have HD := Lib.hid hd
        clear hd
        go_upto_region 41 with fail
        clear q4 f4 q5 q8 y0 hl
        have hQ2 : At (W.setCell ⟨xb + 1, 4, none⟩ (.slice none 0 0)) (xb + 1) 80 (blCells { b with disks := [] } (.slice none 0 0)) := hQ.set 4 (.slice none 0 0)
        have hZ2 := hZ.far (p := ⟨xb + 1, 4, none⟩) (show xb + 1 + 1 + 1 ≠ xb + 1 by omega) (.slice none 0 0)
        have hE2 : Ext w (W.setCell ⟨xb + 1, 4, none⟩ (.slice none 0 0)) := Chg.setCell (p := ⟨xb + 1, 4, none⟩) hE (.inr (by have := HXB.out; show _ ≤ xb + 1; omega)) _
        clear hC hQ hY hZ hE
        generalize W.setCell ⟨xb + 1, 4, none⟩ (.slice none 0 0) = W2 at hQ2 hZ2 hE2 ⊢
        have hC := hQ2
        have hQ := hQ2
        have hZ := hZ2
        have hE := hE2
        have hY := hQ2
        clear hQ2 hZ2 hE2
        have HEQ : Hid (blobR y.closed b x = ({ b with disks := [] }, true, 0)) := Lib.hid (by unfold blobR chgB; rw [if_neg (by rw [HK.out]; decide)]; rw [if_neg (by rw [HK.out]; decide)]; rw [if_neg (by rw [HK.out]; decide)]; rw [if_neg (by rw [HK.out]; decide)]; rw [if_pos HK.out, if_neg (by simp [HA.out, HB.out, HD.out])])
        have HRG := Lib.hid hQ.range
        have HTH : Hid (W2.there (xb + 1 + 1 + 1) 0 (blCells { b with disks := [] } (.slice none 0 0)).toList.toArray.size) := Lib.hid hZ.there
        have hEF : Ext w (W2.setCells (xb + 1 + 1 + 1) 0 (blCells { b with disks := [] } (.slice none 0 0)).toList) := hE.setCells (by have := HXB.out; omega) _ _
        have hld : (loadVar 80 ⟨xb + 1 + 1 + 1, 0, none⟩).run Tryz.prog (W2.setCells (xb + 1 + 1 + 1) 0 (blCells { b with disks := [] } (.slice none 0 0)).toList) = .ok (.agg (blCells { b with disks := [] } (.slice none 0 0))) (W2.setCells (xb + 1 + 1 + 1) 0 (blCells { b with disks := [] } (.slice none 0 0)).toList) :=
          run_loadVar_mid (P := Tryz.prog) (W2.setCells (xb + 1 + 1 + 1) 0 (blCells { b with disks := [] } (.slice none 0 0)).toList) (xb + 1 + 1 + 1) 0 80 (blCells { b with disks := [] } (.slice none 0 0)).toList _ (World.rangeAt_setCells_same W2 (xb + 1 + 1 + 1) 0 (blCells { b with disks := [] } (.slice none 0 0)).toList HTH.out) Tryz.underlying80 rfl blC_info
        have HEF := Lib.hid hEF
        have HLD := Lib.hid hld
        clear hC hQ hY hZ hE hEF hld
        go_wp2_with (first | (refine wpList_load_mid rfl 80 _ rfl (xb + 1) 0 rfl _ _ HRG.out Tryz.underlying80 rfl blC_info ?_) | (refine wpList_store_mid rfl 80 _ _ rfl (xb + 1 + 1 + 1) 0 (blCells { b with disks := [] } (.slice none 0 0)).toList.toArray rfl rfl HTH.out blC_info (blC_one _ _ _ _) ?_))
        refine bodyPost_ret (v := .tuple #[.agg (blCells { b with disks := [] } (.slice none 0 0)), .bool true, .int .i64 0]) (results_three Tryz.results64 _ rfl HLD.out) rfl ?_
        rw [HEQ.out]
        exact ⟨(.slice none 0 0), rfl, own_keep (own_nil w 0 _) HEF.out (fun _ _ hh => hh), HEF.out⟩
    · rw [hb2] at q8
      have HB := Lib.hid hb2
      clear hb2
      go_upto_region 25 with fail
      clear q4 f4 q5 q8 y0
      have HEQ : Hid (blobR y.closed b x = (b, true, 16)) := Lib.hid (by unfold blobR chgB; rw [if_neg (by rw [HK.out]; decide)]; rw [if_neg (by rw [HK.out]; decide)]; rw [if_neg (by rw [HK.out]; decide)]; rw [if_neg (by rw [HK.out]; decide)]; rw [if_pos HK.out, if_pos (by simp [HB.out])])
      have HRG := Lib.hid hQ.range
      have HTH : Hid (W.there (xb + 1 + 1 + 1) 0 (blCells b (.slice dA b.disks.length dc)).toList.toArray.size) := Lib.hid hZ.there
      have hEF : Ext w (W.setCells (xb + 1 + 1 + 1) 0 (blCells b (.slice dA b.disks.length dc)).toList) := hE.setCells (by have := HXB.out; omega) _ _
      have hld : (loadVar 80 ⟨xb + 1 + 1 + 1, 0, none⟩).run Tryz.prog (W.setCells (xb + 1 + 1 + 1) 0 (blCells b (.slice dA b.disks.length dc)).toList) = .ok (.agg (blCells b (.slice dA b.disks.length dc))) (W.setCells (xb + 1 + 1 + 1) 0 (blCells b (.slice dA b.disks.length dc)).toList) :=
        run_loadVar_mid (P := Tryz.prog) (W.setCells (xb + 1 + 1 + 1) 0 (blCells b (.slice dA b.disks.length dc)).toList) (xb + 1 + 1 + 1) 0 80 (blCells b (.slice dA b.disks.length dc)).toList _ (World.rangeAt_setCells_same W (xb + 1 + 1 + 1) 0 (blCells b (.slice dA b.disks.length dc)).toList HTH.out) Tryz.underlying80 rfl blC_info
      have HEF := Lib.hid hEF
      have HLD := Lib.hid hld
      clear hC hQ hY hZ hE hEF hld
      go_wp2_with (first | (refine wpList_load_mid rfl 80 _ rfl (xb + 1) 0 rfl _ _ HRG.out Tryz.underlying80 rfl blC_info ?_) | (refine wpList_store_mid rfl 80 _ _ rfl (xb + 1 + 1 + 1) 0 (blCells b (.slice dA b.disks.length dc)).toList.toArray rfl rfl HTH.out blC_info (blC_one _ _ _ _) ?_))
      refine bodyPost_ret (v := .tuple #[.agg (blCells b (.slice dA b.disks.length dc)), .bool true, .int .i64 16]) (results_three Tryz.results64 _ rfl HLD.out) rfl ?_
      rw [HEQ.out]
      exact ⟨(.slice dA b.disks.length dc), rfl, own_keep (HBO.out) HEF.out (fun _ _ hh => hh), HEF.out⟩
  · rw [ha] at q5
    have HA := Lib.hid ha
    clear ha
    go_upto_region 25 with fail
    clear q4 f4 q5 q8 y0
    have HEQ : Hid (blobR y.closed b x = (b, true, 16)) := Lib.hid (by unfold blobR chgB; rw [if_neg (by rw [HK.out]; decide)]; rw [if_neg (by rw [HK.out]; decide)]; rw [if_neg (by rw [HK.out]; decide)]; rw [if_neg (by rw [HK.out]; decide)]; rw [if_pos HK.out, if_pos (by simp [HA.out])])
    have HRG := Lib.hid hQ.range
    have HTH : Hid (W.there (xb + 1 + 1 + 1) 0 (blCells b (.slice dA b.disks.length dc)).toList.toArray.size) := Lib.hid hZ.there
    have hEF : Ext w (W.setCells (xb + 1 + 1 + 1) 0 (blCells b (.slice dA b.disks.length dc)).toList) := hE.setCells (by have := HXB.out; omega) _ _
    have hld : (loadVar 80 ⟨xb + 1 + 1 + 1, 0, none⟩).run Tryz.prog (W.setCells (xb + 1 + 1 + 1) 0 (blCells b (.slice dA b.disks.length dc)).toList) = .ok (.agg (blCells b (.slice dA b.disks.length dc))) (W.setCells (xb + 1 + 1 + 1) 0 (blCells b (.slice dA b.disks.length dc)).toList) :=
      run_loadVar_mid (P := Tryz.prog) (W.setCells (xb + 1 + 1 + 1) 0 (blCells b (.slice dA b.disks.length dc)).toList) (xb + 1 + 1 + 1) 0 80 (blCells b (.slice dA b.disks.length dc)).toList _ (World.rangeAt_setCells_same W (xb + 1 + 1 + 1) 0 (blCells b (.slice dA b.disks.length dc)).toList HTH.out) Tryz.underlying80 rfl blC_info
    have HEF := Lib.hid hEF
    have HLD := Lib.hid hld
    clear hC hQ hY hZ hE hEF hld
    go_wp2_with (first | (refine wpList_load_mid rfl 80 _ rfl (xb + 1) 0 rfl _ _ HRG.out Tryz.underlying80 rfl blC_info ?_) | (refine wpList_store_mid rfl 80 _ _ rfl (xb + 1 + 1 + 1) 0 (blCells b (.slice dA b.disks.length dc)).toList.toArray rfl rfl HTH.out blC_info (blC_one _ _ _ _) ?_))
    refine bodyPost_ret (v := .tuple #[.agg (blCells b (.slice dA b.disks.length dc)), .bool true, .int .i64 16]) (results_three Tryz.results64 _ rfl HLD.out) rfl ?_
    rw [HEQ.out]
    exact ⟨(.slice dA b.disks.length dc), rfl, own_keep (HBO.out) HEF.out (fun _ _ hh => hh), HEF.out⟩
end blob
end Go.Proofs.YtchnejfdompfpaaGreat
