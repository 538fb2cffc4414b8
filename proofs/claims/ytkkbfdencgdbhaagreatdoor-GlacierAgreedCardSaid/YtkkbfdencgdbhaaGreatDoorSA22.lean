/-
  Part 22 of what the law leans on.
-/
import Derived.Test.YtkkbfdencgdbhaaGreatDoorSA18
import Derived.Test.YtkkbfdencgdbhaaGreatDoorSA19
import Derived.Test.YtkkbfdencgdbhaaGreatDoorSA21
set_option linter.unusedVariables false
set_option linter.unusedSimpArgs false
set_option linter.unusedSectionVars false
namespace Go.Proofs.YtkkbfdencgdbhaaGreatDoor
open Go.RowKit
section apply
variable(w:World)(B:Nat→Prop)(c mb mn:Nat)(C:Ct)(h:CtAt w B c mb mn C)(x:Cmd)(dv:Value)(hS:w.ownsRow 0 3 1 dv x.disks.length (x.disks.map (Value.int .i64)))(hdl:x.disks.length≤17592186043904)(hnl:x.name.size≤9223372036854775807)
include h hS hdl hnl
set_option maxRecDepth 100000 in
set_option maxHeartbeats 2000000 in
theorem apply_put(hg:x.good=true)(hk:x.kind=1)(PC:Ct→Prop)(err:Int)
 (hput:∀W,Ext w W→Calls Tryz.prog 71 #[.pointer (some ⟨c,0,none⟩),cmdVal x dv] W fun e w'=>e=.returned (.int .i64 err)∧∃C',PC C'∧CtAt w' B c mb mn C'∧Chg (C.S c mb mn) W w') :
 Calls Tryz.prog 32 #[.pointer (some ⟨c,0,none⟩),cmdVal x dv] w fun e w'=>e=.returned (resV err 0 0 0 (.slice none 0 0))∧∃C',PC C'∧CtAt w' B c mb mn C'∧Chg (C.S c mb mn) w w':=by
 have HK:=Lib.hid hk
 have HPUT:=Lib.hid hput
 clear hk hput
 unfold cmdVal at HPUT⊢
 go_enter Tryz.func32,Tryz.ntmps32
 have hX:=(At.new w 39 (cmdCells x dv)).alloc (.cells resCells 34)
 have hE:=((Ext.refl w).alloc (.cells (cmdCells x dv) 39)).alloc (.cells resCells 34)
 have hR:=At.new (w.alloc (.cells (cmdCells x dv) 39)) 34 resCells
 rw[show(w.alloc (.cells (cmdCells x dv) 39)).heap.size=w.heap.size+1 by simp]at hR
 go_upto_region 1 with fail
 generalize hxb:w.heap.size=xb at *
 generalize World.alloc _ _=W at *
 have x0:=hX.cell 0
 have x1:=hX.cell 1
 have x2:=hX.cell 2
 have x3:=hX.cell 3
 have x4:=hX.cell 4
 have x5:=hX.cell 5
 have x6:=hX.cell 6
 have x7:=hX.cell 7
 have x8:=hX.cell 8
 have x9:=hX.cell 9
 have x10:=hX.cell 10
 simp at x0 x1 x2 x3 x4 x5 x6 x7 x8 x9 x10
 have HG:=Lib.hid (good_any W x dv (Sl.of_own (own_keep hS hE (fun _ _ hh=>hh))) (by omega) hnl)
 unfold cmdVal at HG
 rw[hg]at HG
 go_wp2_with fail
 refine HG.out.mono ?_
 rintro e W1 ⟨rfl,hE1⟩
 have hX1:=hX.ext hE1
 have hR1:=hR.ext hE1
 have hE2:=hE.trans hE1
 clear x0 x1 x2 x3 x4 x5 x6 x7 x8 x9 x10 hX hR hE hE1 HG
 have x0:=hX1.cell 0
 have x1:=hX1.cell 1
 have x2:=hX1.cell 2
 have x3:=hX1.cell 3
 have x4:=hX1.cell 4
 have x5:=hX1.cell 5
 have x6:=hX1.cell 6
 have x7:=hX1.cell 7
 have x8:=hX1.cell 8
 have x9:=hX1.cell 9
 have x10:=hX1.cell 10
 simp at x0 x1 x2 x3 x4 x5 x6 x7 x8 x9 x10
 have hk1:(x.kind == 1)=true:=by rw[HK.out];rfl
 go_wp2_with fail
 refine(HPUT.out W1 hE2).mono ?_
 rintro e W2 ⟨rfl,C',hPC,hC',hCh⟩
 have hR2:=hR1.chg hCh (S_not (h.ext hE2) hR1 (by decide) (by decide))
 have f0:=hR2.frozen 0
 have f1:=hR2.frozen 1
 have f2:=hR2.frozen 2
 have f3:=hR2.frozen 3
 have f4:=hR2.frozen 4
 have r0:=hR2.cell 0
 have r1:=hR2.cell 1
 have r2:=hR2.cell 2
 have r3:=hR2.cell 3
 have r4:=hR2.cell 4
 simp at r0 r1 r2 r3 r4
 clear x0 x1 x2 x3 x4 x5 x6 x7 x8 x9 x10
 go_wp2_with fail
 obtain⟨hZ,hCz⟩:=res_out0 hR2 (.int .i64 err) (.int .u64 0) (.int .i64 0) (.int .u32 0) (.slice none 0 0)
 generalize World.setCell _ _ _=WZ at hZ hCz⊢
 have g0:=hZ.cell 0
 have g1:=hZ.cell 1
 have g2:=hZ.cell 2
 have g3:=hZ.cell 3
 have g4:=hZ.cell 4
 simp at g0 g1 g2 g3 g4
 have hCf:=hC'.far hCz hR2 (by decide) (by decide) (by decide)
 have hwl:w.heap.size≤xb+1:=by omega
 have hCh2:Chg (C.S c mb mn) w W2:=Chg.trans (Chg.mono hE2 (fun _ _ hh=>hh.elim)) hCh (fun _ _ hh=>hh)
 refine bodyPost_ret (v:=resV err 0 0 0 (.slice none 0 0)) (by simp[results,Tryz.results32,go_sem,g0,g1,g2,g3,g4,resV]) rfl ⟨rfl,C',hPC,hCf,Chg.trans hCh2 hCz fun j hj h'=>by have e:j=xb+1:=h';omega⟩
set_option maxRecDepth 100000 in
set_option maxHeartbeats 2000000 in
theorem apply_named(hg:x.good=true)(hk:x.kind=2∨x.kind=3∨x.kind=5)(PC:Ct→Prop)(err:Int)(bid:Nat)(sz:Int)(sm:Nat)
 (hput:∀W,Ext w W→Calls Tryz.prog 72 #[.pointer (some ⟨c,0,none⟩),cmdVal x dv] W fun e w'=>e=.returned (resV err bid sz sm (.slice none 0 0))∧∃C',PC C'∧CtAt w' B c mb mn C'∧Chg (C.S c mb mn) W w') :
 Calls Tryz.prog 32 #[.pointer (some ⟨c,0,none⟩),cmdVal x dv] w fun e w'=>e=.returned (resV err bid sz sm (.slice none 0 0))∧∃C',PC C'∧CtAt w' B c mb mn C'∧Chg (C.S c mb mn) w w':=by
 have HK:=Lib.hid hk
 have HPUT:=Lib.hid hput
 clear hk hput
 unfold cmdVal at HPUT⊢
 go_enter Tryz.func32,Tryz.ntmps32
 have hX:=(At.new w 39 (cmdCells x dv)).alloc (.cells resCells 34)
 have hE:=((Ext.refl w).alloc (.cells (cmdCells x dv) 39)).alloc (.cells resCells 34)
 have hR:=At.new (w.alloc (.cells (cmdCells x dv) 39)) 34 resCells
 rw[show(w.alloc (.cells (cmdCells x dv) 39)).heap.size=w.heap.size+1 by simp]at hR
 go_upto_region 1 with fail
 generalize hxb:w.heap.size=xb at *
 generalize World.alloc _ _=W at *
 have x0:=hX.cell 0
 have x1:=hX.cell 1
 have x2:=hX.cell 2
 have x3:=hX.cell 3
 have x4:=hX.cell 4
 have x5:=hX.cell 5
 have x6:=hX.cell 6
 have x7:=hX.cell 7
 have x8:=hX.cell 8
 have x9:=hX.cell 9
 have x10:=hX.cell 10
 simp at x0 x1 x2 x3 x4 x5 x6 x7 x8 x9 x10
 have HG:=Lib.hid (good_any W x dv (Sl.of_own (own_keep hS hE (fun _ _ hh=>hh))) (by omega) hnl)
 unfold cmdVal at HG
 rw[hg]at HG
 go_wp2_with fail
 refine HG.out.mono ?_
 rintro e W1 ⟨rfl,hE1⟩
 have hX1:=hX.ext hE1
 have hR1:=hR.ext hE1
 have hE2:=hE.trans hE1
 clear x0 x1 x2 x3 x4 x5 x6 x7 x8 x9 x10 hX hR hE hE1 HG
 have x0:=hX1.cell 0
 have x1:=hX1.cell 1
 have x2:=hX1.cell 2
 have x3:=hX1.cell 3
 have x4:=hX1.cell 4
 have x5:=hX1.cell 5
 have x6:=hX1.cell 6
 have x7:=hX1.cell 7
 have x8:=hX1.cell 8
 have x9:=hX1.cell 9
 have x10:=hX1.cell 10
 simp at x0 x1 x2 x3 x4 x5 x6 x7 x8 x9 x10
 have hkk:(x.kind == 1)=false∧((x.kind == 2)=true∨(x.kind == 2)=false∧((x.kind == 3)=true∨(x.kind == 3)=false∧(x.kind == 5)=true)):=by
  rcases HK.out with e|e|e <;> rw[e] <;> decide
 obtain⟨hk1,hkk⟩:=hkk
 unfold resV at HPUT
 rcases hkk with k2|⟨k2,k3|⟨k3,k5⟩⟩
 all_goals
  go_wp2_with fail
  refine(HPUT.out W1 hE2).mono ?_
  rintro e W2 ⟨rfl,C',hPC,hC',hCh⟩
  have hR2:=hR1.chg hCh (S_not (h.ext hE2) hR1 (by decide) (by decide))
  have f0:=hR2.frozen 0
  have f1:=hR2.frozen 1
  have f2:=hR2.frozen 2
  have f3:=hR2.frozen 3
  have f4:=hR2.frozen 4
  have r0:=hR2.cell 0
  have r1:=hR2.cell 1
  have r2:=hR2.cell 2
  have r3:=hR2.cell 3
  have r4:=hR2.cell 4
  simp at r0 r1 r2 r3 r4
  clear x0 x1 x2 x3 x4 x5 x6 x7 x8 x9 x10
  go_wp2_with fail
  obtain⟨hZ,hCz⟩:=res_out0 hR2 (.int .i64 err) (.int .u64 (bid:Int)) (.int .i64 sz) (.int .u32 (sm:Int)) (.slice none 0 0)
  generalize World.setCell _ _ _=WZ at hZ hCz⊢
  have g0:=hZ.cell 0
  have g1:=hZ.cell 1
  have g2:=hZ.cell 2
  have g3:=hZ.cell 3
  have g4:=hZ.cell 4
  simp at g0 g1 g2 g3 g4
  have hCf:=hC'.far hCz hR2 (by decide) (by decide) (by decide)
  have hwl:w.heap.size≤xb+1:=by omega
  have hCh2:Chg (C.S c mb mn) w W2:=Chg.trans (Chg.mono hE2 (fun _ _ hh=>hh.elim)) hCh (fun _ _ hh=>hh)
  refine bodyPost_ret (v:=resV err bid sz sm (.slice none 0 0)) (by simp[results,Tryz.results32,go_sem,g0,g1,g2,g3,g4,resV]) rfl ⟨rfl,C',hPC,hCf,Chg.trans hCh2 hCz fun j hj h'=>by have e:j=xb+1:=h';omega⟩
set_option maxRecDepth 100000 in
set_option maxHeartbeats 2000000 in
theorem apply_forget(hg:x.good=true)(hk:x.kind=10)(PC:Ct→Prop)(err:Int){r:BR}(hf:C.find x.blob=some r)
 (hput:∀W,Ext w W→Calls Tryz.prog 76 #[.pointer (some ⟨c,0,none⟩),.pointer (some ⟨r.g,0,none⟩)] W fun e w'=>e=.returned (.int .i64 err)∧∃C',PC C'∧CtAt w' B c mb mn C'∧Chg (C.S c mb mn) W w') :
 Calls Tryz.prog 32 #[.pointer (some ⟨c,0,none⟩),cmdVal x dv] w fun e w'=>e=.returned (resV err 0 0 0 (.slice none 0 0))∧∃C',PC C'∧CtAt w' B c mb mn C'∧Chg (C.S c mb mn) w w':=by
 have HK:=Lib.hid hk
 have HPUT:=Lib.hid hput
 clear hk hput
 unfold cmdVal
 go_enter Tryz.func32,Tryz.ntmps32
 have hX:=(At.new w 39 (cmdCells x dv)).alloc (.cells resCells 34)
 have hE:=((Ext.refl w).alloc (.cells (cmdCells x dv) 39)).alloc (.cells resCells 34)
 have hR:=At.new (w.alloc (.cells (cmdCells x dv) 39)) 34 resCells
 rw[show(w.alloc (.cells (cmdCells x dv) 39)).heap.size=w.heap.size+1 by simp]at hR
 go_upto_region 1 with fail
 generalize hxb:w.heap.size=xb at *
 generalize World.alloc _ _=W at *
 have x0:=hX.cell 0
 have x1:=hX.cell 1
 have x2:=hX.cell 2
 have x3:=hX.cell 3
 have x4:=hX.cell 4
 have x5:=hX.cell 5
 have x6:=hX.cell 6
 have x7:=hX.cell 7
 have x8:=hX.cell 8
 have x9:=hX.cell 9
 have x10:=hX.cell 10
 simp at x0 x1 x2 x3 x4 x5 x6 x7 x8 x9 x10
 have HG:=Lib.hid (good_any W x dv (Sl.of_own (own_keep hS hE (fun _ _ hh=>hh))) (by omega) hnl)
 unfold cmdVal at HG
 rw[hg]at HG
 go_wp2_with fail
 refine HG.out.mono ?_
 rintro e W1 ⟨rfl,hE1⟩
 have hX1:=hX.ext hE1
 have hR1:=hR.ext hE1
 have hE2:=hE.trans hE1
 clear x0 x1 x2 x3 x4 x5 x6 x7 x8 x9 x10 hX hR hE hE1 HG
 have x0:=hX1.cell 0
 have x1:=hX1.cell 1
 have x2:=hX1.cell 2
 have x3:=hX1.cell 3
 have x4:=hX1.cell 4
 have x5:=hX1.cell 5
 have x6:=hX1.cell 6
 have x7:=hX1.cell 7
 have x8:=hX1.cell 8
 have x9:=hX1.cell 9
 have x10:=hX1.cell 10
 simp at x0 x1 x2 x3 x4 x5 x6 x7 x8 x9 x10
 have k1:(x.kind == 1)=false:=by rw[HK.out];rfl
 have k2:(x.kind == 2)=false:=by rw[HK.out];rfl
 have k3:(x.kind == 3)=false:=by rw[HK.out];rfl
 have k5:(x.kind == 5)=false:=by rw[HK.out];rfl
 have k4:(x.kind == 4)=false:=by rw[HK.out];rfl
 have k11:(x.kind == 11)=false:=by rw[HK.out];rfl
 have k12:(x.kind == 12)=false:=by rw[HK.out];rfl
 have k13:(x.kind == 13)=false:=by rw[HK.out];rfl
 obtain⟨c0,c1⟩:=(h.ext hE2).c0
 have hlk:=((h.ext hE2).ext ((Ext.refl W1).drew)).look x.blob
 rw[hf]at hlk
 simp only[ptrO]at hlk
 go_upto_region 16 with fail
 go_region
 clear hlk c0 c1 x0 x1 x2 x3 x4 x5 x6 x7 x8 x9 x10
 replace hX1:=hX1.drew
 replace hR1:=hR1.drew
 replace hE2:=hE2.drew
 generalize World.drew _=W1 at *
 have x0:=hX1.cell 0
 have x1:=hX1.cell 1
 have x2:=hX1.cell 2
 have x3:=hX1.cell 3
 have x4:=hX1.cell 4
 have x5:=hX1.cell 5
 have x6:=hX1.cell 6
 have x7:=hX1.cell 7
 have x8:=hX1.cell 8
 have x9:=hX1.cell 9
 have x10:=hX1.cell 10
 simp at x0 x1 x2 x3 x4 x5 x6 x7 x8 x9 x10
 have k10:(x.kind == 10)=true:=by rw[HK.out];rfl
 go_wp2_with fail
 refine(HPUT.out W1 hE2).mono ?_
 rintro e W2 ⟨rfl,C',hPC,hC',hCh⟩
 have hR2:=hR1.chg hCh (S_not (h.ext hE2) hR1 (by decide) (by decide))
 have f0:=hR2.frozen 0
 have f1:=hR2.frozen 1
 have f2:=hR2.frozen 2
 have f3:=hR2.frozen 3
 have f4:=hR2.frozen 4
 have r0:=hR2.cell 0
 have r1:=hR2.cell 1
 have r2:=hR2.cell 2
 have r3:=hR2.cell 3
 have r4:=hR2.cell 4
 simp at r0 r1 r2 r3 r4
 clear x0 x1 x2 x3 x4 x5 x6 x7 x8 x9 x10
 go_wp2_with fail
 obtain⟨hZ,hCz⟩:=res_out0 hR2 (.int .i64 err) (.int .u64 0) (.int .i64 0) (.int .u32 0) (.slice none 0 0)
 generalize World.setCell _ _ _=WZ at hZ hCz⊢
 have g0:=hZ.cell 0
 have g1:=hZ.cell 1
 have g2:=hZ.cell 2
 have g3:=hZ.cell 3
 have g4:=hZ.cell 4
 simp at g0 g1 g2 g3 g4
 have hCf:=hC'.far hCz hR2 (by decide) (by decide) (by decide)
 have hwl:w.heap.size≤xb+1:=by omega
 have hCh2:Chg (C.S c mb mn) w W2:=Chg.trans (Chg.mono hE2 (fun _ _ hh=>hh.elim)) hCh (fun _ _ hh=>hh)
 refine bodyPost_ret (v:=resV err 0 0 0 (.slice none 0 0)) (by simp[results,Tryz.results32,go_sem,g0,g1,g2,g3,g4,resV]) rfl ⟨rfl,C',hPC,hCf,Chg.trans hCh2 hCz fun j hj h'=>by have e:j=xb+1:=h';omega⟩
set_option maxRecDepth 100000 in
set_option maxHeartbeats 2000000 in
theorem apply_change(hg:x.good=true)(hk:x.kind=6∨x.kind=7∨x.kind=8∨x.kind=9∨x.kind=14)(PC:Ct→Prop)(err:Int){r:BR}(hf:C.find x.blob=some r)
 (hput:∀W,Ext w W→Calls Tryz.prog 77 #[.pointer (some ⟨c,0,none⟩),.pointer (some ⟨r.g,0,none⟩),cmdVal x dv] W fun e w'=>e=.returned (.int .i64 err)∧∃C',PC C'∧CtAt w' B c mb mn C'∧Chg (C.S c mb mn) W w') :
 Calls Tryz.prog 32 #[.pointer (some ⟨c,0,none⟩),cmdVal x dv] w fun e w'=>e=.returned (resV err 0 0 0 (.slice none 0 0))∧∃C',PC C'∧CtAt w' B c mb mn C'∧Chg (C.S c mb mn) w w':=by
 have HK:=Lib.hid hk
 have HPUT:=Lib.hid hput
 clear hk hput
 unfold cmdVal at HPUT⊢
 go_enter Tryz.func32,Tryz.ntmps32
 have hX:=(At.new w 39 (cmdCells x dv)).alloc (.cells resCells 34)
 have hE:=((Ext.refl w).alloc (.cells (cmdCells x dv) 39)).alloc (.cells resCells 34)
 have hR:=At.new (w.alloc (.cells (cmdCells x dv) 39)) 34 resCells
 rw[show(w.alloc (.cells (cmdCells x dv) 39)).heap.size=w.heap.size+1 by simp]at hR
 go_upto_region 1 with fail
 generalize hxb:w.heap.size=xb at *
 generalize World.alloc _ _=W at *
 have x0:=hX.cell 0
 have x1:=hX.cell 1
 have x2:=hX.cell 2
 have x3:=hX.cell 3
 have x4:=hX.cell 4
 have x5:=hX.cell 5
 have x6:=hX.cell 6
 have x7:=hX.cell 7
 have x8:=hX.cell 8
 have x9:=hX.cell 9
 have x10:=hX.cell 10
 simp at x0 x1 x2 x3 x4 x5 x6 x7 x8 x9 x10
 have HG:=Lib.hid (good_any W x dv (Sl.of_own (own_keep hS hE (fun _ _ hh=>hh))) (by omega) hnl)
 unfold cmdVal at HG
 rw[hg]at HG
 go_wp2_with fail
 refine HG.out.mono ?_
 rintro e W1 ⟨rfl,hE1⟩
 have hX1:=hX.ext hE1
 have hR1:=hR.ext hE1
 have hE2:=hE.trans hE1
 clear x0 x1 x2 x3 x4 x5 x6 x7 x8 x9 x10 hX hR hE hE1 HG
 have x0:=hX1.cell 0
 have x1:=hX1.cell 1
 have x2:=hX1.cell 2
 have x3:=hX1.cell 3
 have x4:=hX1.cell 4
 have x5:=hX1.cell 5
 have x6:=hX1.cell 6
 have x7:=hX1.cell 7
 have x8:=hX1.cell 8
 have x9:=hX1.cell 9
 have x10:=hX1.cell 10
 simp at x0 x1 x2 x3 x4 x5 x6 x7 x8 x9 x10
 have k1:(x.kind == 1)=false:=by rcases HK.out with e|e|e|e|e <;> rw[e] <;> rfl
 have k2:(x.kind == 2)=false:=by rcases HK.out with e|e|e|e|e <;> rw[e] <;> rfl
 have k3:(x.kind == 3)=false:=by rcases HK.out with e|e|e|e|e <;> rw[e] <;> rfl
 have k5:(x.kind == 5)=false:=by rcases HK.out with e|e|e|e|e <;> rw[e] <;> rfl
 have k4:(x.kind == 4)=false:=by rcases HK.out with e|e|e|e|e <;> rw[e] <;> rfl
 have k11:(x.kind == 11)=false:=by rcases HK.out with e|e|e|e|e <;> rw[e] <;> rfl
 have k12:(x.kind == 12)=false:=by rcases HK.out with e|e|e|e|e <;> rw[e] <;> rfl
 have k13:(x.kind == 13)=false:=by rcases HK.out with e|e|e|e|e <;> rw[e] <;> rfl
 have k10:(x.kind == 10)=false:=by rcases HK.out with e|e|e|e|e <;> rw[e] <;> rfl
 obtain⟨c0,c1⟩:=(h.ext hE2).c0
 have hlk:=((h.ext hE2).ext ((Ext.refl W1).drew)).look x.blob
 rw[hf]at hlk
 simp only[ptrO]at hlk
 go_upto_region 16 with fail
 go_region
 clear hlk c0 c1 x0 x1 x2 x3 x4 x5 x6 x7 x8 x9 x10
 replace hX1:=hX1.drew
 replace hR1:=hR1.drew
 replace hE2:=hE2.drew
 generalize World.drew _=W1 at *
 have x0:=hX1.cell 0
 have x1:=hX1.cell 1
 have x2:=hX1.cell 2
 have x3:=hX1.cell 3
 have x4:=hX1.cell 4
 have x5:=hX1.cell 5
 have x6:=hX1.cell 6
 have x7:=hX1.cell 7
 have x8:=hX1.cell 8
 have x9:=hX1.cell 9
 have x10:=hX1.cell 10
 simp at x0 x1 x2 x3 x4 x5 x6 x7 x8 x9 x10
 go_wp2_with fail
 refine(HPUT.out W1 hE2).mono ?_
 rintro e W2 ⟨rfl,C',hPC,hC',hCh⟩
 have hR2:=hR1.chg hCh (S_not (h.ext hE2) hR1 (by decide) (by decide))
 have f0:=hR2.frozen 0
 have f1:=hR2.frozen 1
 have f2:=hR2.frozen 2
 have f3:=hR2.frozen 3
 have f4:=hR2.frozen 4
 have r0:=hR2.cell 0
 have r1:=hR2.cell 1
 have r2:=hR2.cell 2
 have r3:=hR2.cell 3
 have r4:=hR2.cell 4
 simp at r0 r1 r2 r3 r4
 clear x0 x1 x2 x3 x4 x5 x6 x7 x8 x9 x10
 go_wp2_with fail
 obtain⟨hZ,hCz⟩:=res_out0 hR2 (.int .i64 err) (.int .u64 0) (.int .i64 0) (.int .u32 0) (.slice none 0 0)
 generalize World.setCell _ _ _=WZ at hZ hCz⊢
 have g0:=hZ.cell 0
 have g1:=hZ.cell 1
 have g2:=hZ.cell 2
 have g3:=hZ.cell 3
 have g4:=hZ.cell 4
 simp at g0 g1 g2 g3 g4
 have hCf:=hC'.far hCz hR2 (by decide) (by decide) (by decide)
 have hwl:w.heap.size≤xb+1:=by omega
 have hCh2:Chg (C.S c mb mn) w W2:=Chg.trans (Chg.mono hE2 (fun _ _ hh=>hh.elim)) hCh (fun _ _ hh=>hh)
 refine bodyPost_ret (v:=resV err 0 0 0 (.slice none 0 0)) (by simp[results,Tryz.results32,go_sem,g0,g1,g2,g3,g4,resV]) rfl ⟨rfl,C',hPC,hCf,Chg.trans hCh2 hCz fun j hj h'=>by have e:j=xb+1:=h';omega⟩
set_option maxRecDepth 100000 in
set_option maxHeartbeats 2000000 in
theorem apply_gone(hg:x.good=true)(hk:x.kind=6∨x.kind=7∨x.kind=8∨x.kind=9∨x.kind=14∨x.kind=10)(hf:C.find x.blob=none) :
 Calls Tryz.prog 32 #[.pointer (some ⟨c,0,none⟩),cmdVal x dv] w fun e w'=>e=.returned (resV 5 0 0 0 (.slice none 0 0))∧Ext w w':=by
 have HK:=Lib.hid hk
 clear hk
 unfold cmdVal
 go_enter Tryz.func32,Tryz.ntmps32
 have hX:=(At.new w 39 (cmdCells x dv)).alloc (.cells resCells 34)
 have hE:=((Ext.refl w).alloc (.cells (cmdCells x dv) 39)).alloc (.cells resCells 34)
 have hR:=At.new (w.alloc (.cells (cmdCells x dv) 39)) 34 resCells
 rw[show(w.alloc (.cells (cmdCells x dv) 39)).heap.size=w.heap.size+1 by simp]at hR
 go_upto_region 1 with fail
 generalize hxb:w.heap.size=xb at *
 generalize World.alloc _ _=W at *
 have x0:=hX.cell 0
 have x1:=hX.cell 1
 have x2:=hX.cell 2
 have x3:=hX.cell 3
 have x4:=hX.cell 4
 have x5:=hX.cell 5
 have x6:=hX.cell 6
 have x7:=hX.cell 7
 have x8:=hX.cell 8
 have x9:=hX.cell 9
 have x10:=hX.cell 10
 simp at x0 x1 x2 x3 x4 x5 x6 x7 x8 x9 x10
 have HG:=Lib.hid (good_any W x dv (Sl.of_own (own_keep hS hE (fun _ _ hh=>hh))) (by omega) hnl)
 unfold cmdVal at HG
 rw[hg]at HG
 go_wp2_with fail
 refine HG.out.mono ?_
 rintro e W1 ⟨rfl,hE1⟩
 have hX1:=hX.ext hE1
 have hR1:=hR.ext hE1
 have hE2:=hE.trans hE1
 clear x0 x1 x2 x3 x4 x5 x6 x7 x8 x9 x10 hX hR hE hE1 HG
 have x0:=hX1.cell 0
 have x1:=hX1.cell 1
 have x2:=hX1.cell 2
 have x3:=hX1.cell 3
 have x4:=hX1.cell 4
 have x5:=hX1.cell 5
 have x6:=hX1.cell 6
 have x7:=hX1.cell 7
 have x8:=hX1.cell 8
 have x9:=hX1.cell 9
 have x10:=hX1.cell 10
 simp at x0 x1 x2 x3 x4 x5 x6 x7 x8 x9 x10
 have k1:(x.kind == 1)=false:=by rcases HK.out with e|e|e|e|e|e <;> rw[e] <;> rfl
 have k2:(x.kind == 2)=false:=by rcases HK.out with e|e|e|e|e|e <;> rw[e] <;> rfl
 have k3:(x.kind == 3)=false:=by rcases HK.out with e|e|e|e|e|e <;> rw[e] <;> rfl
 have k5:(x.kind == 5)=false:=by rcases HK.out with e|e|e|e|e|e <;> rw[e] <;> rfl
 have k4:(x.kind == 4)=false:=by rcases HK.out with e|e|e|e|e|e <;> rw[e] <;> rfl
 have k11:(x.kind == 11)=false:=by rcases HK.out with e|e|e|e|e|e <;> rw[e] <;> rfl
 have k12:(x.kind == 12)=false:=by rcases HK.out with e|e|e|e|e|e <;> rw[e] <;> rfl
 have k13:(x.kind == 13)=false:=by rcases HK.out with e|e|e|e|e|e <;> rw[e] <;> rfl
 obtain⟨c0,c1⟩:=(h.ext hE2).c0
 have hlk:=((h.ext hE2).ext ((Ext.refl W1).drew)).look x.blob
 rw[hf]at hlk
 simp only[ptrO]at hlk
 go_upto_region 16 with fail
 go_region
 clear hlk c0 c1 x0 x1 x2 x3 x4 x5 x6 x7 x8 x9 x10
 replace hX1:=hX1.drew
 replace hR1:=hR1.drew
 replace hE2:=hE2.drew
 generalize World.drew _=W1 at *
 have f0:=hR1.frozen 0
 have f1:=hR1.frozen 1
 have f2:=hR1.frozen 2
 have f3:=hR1.frozen 3
 have f4:=hR1.frozen 4
 have r0:=hR1.cell 0
 have r1:=hR1.cell 1
 have r2:=hR1.cell 2
 have r3:=hR1.cell 3
 have r4:=hR1.cell 4
 simp at r0 r1 r2 r3 r4
 go_wp2_with fail
 obtain⟨hZ,hCz⟩:=res_out0 hR1 (.int .i64 5) (.int .u64 0) (.int .i64 0) (.int .u32 0) (.slice none 0 0)
 generalize World.setCell _ _ _=WZ at hZ hCz⊢
 have g0:=hZ.cell 0
 have g1:=hZ.cell 1
 have g2:=hZ.cell 2
 have g3:=hZ.cell 3
 have g4:=hZ.cell 4
 simp at g0 g1 g2 g3 g4
 have hwl:w.heap.size≤xb+1:=by omega
 refine bodyPost_ret (v:=resV 5 0 0 0 (.slice none 0 0)) (by simp[results,Tryz.results32,go_sem,g0,g1,g2,g3,g4,resV]) rfl ⟨rfl,Chg.mono (hE2.chg_trans hCz) fun j hj h'=>by have e:j=xb+1:=h';omega⟩
end apply
end Go.Proofs.YtkkbfdencgdbhaaGreatDoor
namespace Go.Proofs.YtkkbfdencgdbhaaGreatDoor
open Go.RowKit
theorem own_base0'{w:World}{b1 b2:Nat}{e:TypeId}{s:Nat}{v:Value}{n:Nat}{xs:List Value}(h:w.ownsRow b1 e s v n xs)(hb:b2≤b1):w.ownsRow b2 e s v n xs:=by
 refine⟨h.1,?_⟩
 rcases h.2 with hn|⟨g,cap,cur,hv,hbg,rest⟩
 ·exact .inl hn
 ·exact .inr ⟨g,cap,cur,hv,Nat.le_trans hb hbg,rest⟩
section apply
variable(w:World)(B:Nat→Prop)(c mb mn:Nat)(C:Ct)(h:CtAt w B c mb mn C)(x:Cmd)(dv:Value)(hS:w.ownsRow 0 3 1 dv x.disks.length (x.disks.map (Value.int .i64)))(hdl:x.disks.length≤17592186043904)(hnl:x.name.size≤9223372036854775807)
include h hS hdl hnl
set_option maxRecDepth 100000 in
set_option maxHeartbeats 2000000 in
theorem apply_volume(hg:x.good=true)(hk:x.kind=11∨x.kind=12∨x.kind=13)(PC:Ct→Prop)(err:Int)
 (hput:∀W,Ext w W→Calls Tryz.prog 75 #[.pointer (some ⟨c,0,none⟩),cmdVal x dv] W fun e w'=>e=.returned (.int .i64 err)∧∃C',PC C'∧CtAt w' B c mb mn C'∧Chg (C.S c mb mn) W w') :
 Calls Tryz.prog 32 #[.pointer (some ⟨c,0,none⟩),cmdVal x dv] w fun e w'=>e=.returned (resV err 0 0 0 (.slice none 0 0))∧∃C',PC C'∧CtAt w' B c mb mn C'∧Chg (C.S c mb mn) w w':=by
 have HK:=Lib.hid hk
 have HPUT:=Lib.hid hput
 clear hk hput
 unfold cmdVal at HPUT⊢
 go_enter Tryz.func32,Tryz.ntmps32
 have hX:=(At.new w 39 (cmdCells x dv)).alloc (.cells resCells 34)
 have hE:=((Ext.refl w).alloc (.cells (cmdCells x dv) 39)).alloc (.cells resCells 34)
 have hR:=At.new (w.alloc (.cells (cmdCells x dv) 39)) 34 resCells
 rw[show(w.alloc (.cells (cmdCells x dv) 39)).heap.size=w.heap.size+1 by simp]at hR
 go_upto_region 1 with fail
 generalize hxb:w.heap.size=xb at *
 generalize World.alloc _ _=W at *
 have x0:=hX.cell 0
 have x1:=hX.cell 1
 have x2:=hX.cell 2
 have x3:=hX.cell 3
 have x4:=hX.cell 4
 have x5:=hX.cell 5
 have x6:=hX.cell 6
 have x7:=hX.cell 7
 have x8:=hX.cell 8
 have x9:=hX.cell 9
 have x10:=hX.cell 10
 simp at x0 x1 x2 x3 x4 x5 x6 x7 x8 x9 x10
 have HG:=Lib.hid (good_any W x dv (Sl.of_own (own_keep hS hE (fun _ _ hh=>hh))) (by omega) hnl)
 unfold cmdVal at HG
 rw[hg]at HG
 go_wp2_with fail
 refine HG.out.mono ?_
 rintro e W1 ⟨rfl,hE1⟩
 have hX1:=hX.ext hE1
 have hR1:=hR.ext hE1
 have hE2:=hE.trans hE1
 clear x0 x1 x2 x3 x4 x5 x6 x7 x8 x9 x10 hX hR hE hE1 HG
 have x0:=hX1.cell 0
 have x1:=hX1.cell 1
 have x2:=hX1.cell 2
 have x3:=hX1.cell 3
 have x4:=hX1.cell 4
 have x5:=hX1.cell 5
 have x6:=hX1.cell 6
 have x7:=hX1.cell 7
 have x8:=hX1.cell 8
 have x9:=hX1.cell 9
 have x10:=hX1.cell 10
 simp at x0 x1 x2 x3 x4 x5 x6 x7 x8 x9 x10
 have k1:(x.kind == 1)=false:=by rcases HK.out with e|e|e <;> rw[e] <;> rfl
 have k2:(x.kind == 2)=false:=by rcases HK.out with e|e|e <;> rw[e] <;> rfl
 have k3:(x.kind == 3)=false:=by rcases HK.out with e|e|e <;> rw[e] <;> rfl
 have k5:(x.kind == 5)=false:=by rcases HK.out with e|e|e <;> rw[e] <;> rfl
 have k4:(x.kind == 4)=false:=by rcases HK.out with e|e|e <;> rw[e] <;> rfl
 have hkk:(x.kind == 11)=true∨(x.kind == 11)=false∧((x.kind == 12)=true∨(x.kind == 12)=false∧(x.kind == 13)=true):=by
  rcases HK.out with e|e|e <;> rw[e] <;> decide
 rcases hkk with k2|⟨k2,k3|⟨k3,k5⟩⟩
 all_goals
  go_wp2_with fail
  refine(HPUT.out W1 hE2).mono ?_
  rintro e W2 ⟨rfl,C',hPC,hC',hCh⟩
  have hR2:=hR1.chg hCh (S_not (h.ext hE2) hR1 (by decide) (by decide))
  have f0:=hR2.frozen 0
  have f1:=hR2.frozen 1
  have f2:=hR2.frozen 2
  have f3:=hR2.frozen 3
  have f4:=hR2.frozen 4
  have r0:=hR2.cell 0
  have r1:=hR2.cell 1
  have r2:=hR2.cell 2
  have r3:=hR2.cell 3
  have r4:=hR2.cell 4
  simp at r0 r1 r2 r3 r4
  clear x0 x1 x2 x3 x4 x5 x6 x7 x8 x9 x10
  go_wp2_with fail
  obtain⟨hZ,hCz⟩:=res_out0 hR2 (.int .i64 err) (.int .u64 0) (.int .i64 0) (.int .u32 0) (.slice none 0 0)
  generalize World.setCell _ _ _=WZ at hZ hCz⊢
  have g0:=hZ.cell 0
  have g1:=hZ.cell 1
  have g2:=hZ.cell 2
  have g3:=hZ.cell 3
  have g4:=hZ.cell 4
  simp at g0 g1 g2 g3 g4
  have hCf:=hC'.far hCz hR2 (by decide) (by decide) (by decide)
  have hwl:w.heap.size≤xb+1:=by omega
  have hCh2:Chg (C.S c mb mn) w W2:=Chg.trans (Chg.mono hE2 (fun _ _ hh=>hh.elim)) hCh (fun _ _ hh=>hh)
  refine bodyPost_ret (v:=resV err 0 0 0 (.slice none 0 0)) (by simp[results,Tryz.results32,go_sem,g0,g1,g2,g3,g4,resV]) rfl ⟨rfl,C',hPC,hCf,Chg.trans hCh2 hCz fun j hj h'=>by have e:j=xb+1:=h';omega⟩
set_option maxRecDepth 100000 in
set_option maxHeartbeats 2000000 in
theorem apply_list(hg:x.good=true)(hk:x.kind=4)(hkn:∀p∈C.names,p.1.size≤maxLen)(hln:C.names.length≤1048576) :
 Calls Tryz.prog 32 #[.pointer (some ⟨c,0,none⟩),cmdVal x dv] w fun e w'=>∃nv,e=.returned (resV 0 0 0 0 nv)∧w'.ownsRow w.heap.size 9 1 nv C.names.length (((C.names.map (·.1)).mergeSort leN).map Value.string)∧Ext w w':=by
 have HK:=Lib.hid hk
 have HKN:=Lib.hid (show _∧_ from⟨hkn,hln⟩)
 clear hk hkn hln
 unfold cmdVal
 go_enter Tryz.func32,Tryz.ntmps32
 have hX:=(At.new w 39 (cmdCells x dv)).alloc (.cells resCells 34)
 have hE:=((Ext.refl w).alloc (.cells (cmdCells x dv) 39)).alloc (.cells resCells 34)
 have hR:=At.new (w.alloc (.cells (cmdCells x dv) 39)) 34 resCells
 rw[show(w.alloc (.cells (cmdCells x dv) 39)).heap.size=w.heap.size+1 by simp]at hR
 go_upto_region 1 with fail
 generalize hxb:w.heap.size=xb at *
 generalize World.alloc _ _=W at *
 have x0:=hX.cell 0
 have x1:=hX.cell 1
 have x2:=hX.cell 2
 have x3:=hX.cell 3
 have x4:=hX.cell 4
 have x5:=hX.cell 5
 have x6:=hX.cell 6
 have x7:=hX.cell 7
 have x8:=hX.cell 8
 have x9:=hX.cell 9
 have x10:=hX.cell 10
 simp at x0 x1 x2 x3 x4 x5 x6 x7 x8 x9 x10
 have HG:=Lib.hid (good_any W x dv (Sl.of_own (own_keep hS hE (fun _ _ hh=>hh))) (by omega) hnl)
 unfold cmdVal at HG
 rw[hg]at HG
 go_wp2_with fail
 refine HG.out.mono ?_
 rintro e W1 ⟨rfl,hE1⟩
 have hX1:=hX.ext hE1
 have hR1:=hR.ext hE1
 have hE2:=hE.trans hE1
 clear x0 x1 x2 x3 x4 x5 x6 x7 x8 x9 x10 hX hR hE hE1 HG
 have x0:=hX1.cell 0
 have x1:=hX1.cell 1
 have x2:=hX1.cell 2
 have x3:=hX1.cell 3
 have x4:=hX1.cell 4
 have x5:=hX1.cell 5
 have x6:=hX1.cell 6
 have x7:=hX1.cell 7
 have x8:=hX1.cell 8
 have x9:=hX1.cell 9
 have x10:=hX1.cell 10
 simp at x0 x1 x2 x3 x4 x5 x6 x7 x8 x9 x10
 have k1:(x.kind == 1)=false:=by rw[HK.out];rfl
 have k2:(x.kind == 2)=false:=by rw[HK.out];rfl
 have k3:(x.kind == 3)=false:=by rw[HK.out];rfl
 have k5:(x.kind == 5)=false:=by rw[HK.out];rfl
 have k4:(x.kind == 4)=true:=by rw[HK.out];rfl
 clear x0 x1 x2 x3 x4 x5 x6 x7 x8 x9 x10
 have x0:=hX1.cell 0
 simp at x0
 obtain⟨c0,c1⟩:=(h.ext hE2).c0
 have HKY:=Lib.hid (nkeys_any (some mn) W1)
 have HSO:=Lib.hid (nsorted_any W1 mn (h.ext hE2).nm HKN.out.1 HKN.out.2)
 go_wp2_with fail
 refine HKY.out.mono ?_
 rintro e W2 ⟨rfl,rfl⟩
 go_wp2_with fail
 refine HSO.out.mono ?_
 rintro e W2 ⟨nv,rfl,hON,hE3⟩
 have hR2:=hR1.ext hE3
 have hE4:=hE2.trans hE3
 have HB:=Lib.hid hE2.size
 obtain⟨nA,nc,rfl⟩:=own_slc hON
 have HON:=Lib.hid hON
 clear x0 c0 c1 HKY HSO hON hR1 hE2 hE3 hX1
 have f0:=hR2.frozen 0
 have f1:=hR2.frozen 1
 have f2:=hR2.frozen 2
 have f3:=hR2.frozen 3
 have f4:=hR2.frozen 4
 have r0:=hR2.cell 0
 have r1:=hR2.cell 1
 have r2:=hR2.cell 2
 have r3:=hR2.cell 3
 have r4:=hR2.cell 4
 simp at r0 r1 r2 r3 r4
 go_wp2_with fail
 obtain⟨hZ,hCz⟩:=res_out0 hR2 (.int .i64 0) (.int .u64 0) (.int .i64 0) (.int .u32 0) (.slice nA C.names.length nc)
 generalize World.setCell _ _ _=WZ at hZ hCz⊢
 have g0:=hZ.cell 0
 have g1:=hZ.cell 1
 have g2:=hZ.cell 2
 have g3:=hZ.cell 3
 have g4:=hZ.cell 4
 simp at g0 g1 g2 g3 g4
 have hwl:w.heap.size≤xb+1:=by omega
 have hON2:=own_keep (own_base0' HON.out (Nat.le_trans (show w.heap.size≤W1.heap.size from HB.out) (Nat.le_refl _))) hCz (fun k hk e=>own_apart' HON.out hR2 (by decide) k hk e)
 refine bodyPost_ret (v:=resV 0 0 0 0 (.slice nA C.names.length nc)) (by simp[results,Tryz.results32,go_sem,g0,g1,g2,g3,g4,resV]) rfl ⟨_,rfl,hON2,Chg.mono (hE4.chg_trans hCz) fun j hj h'=>by have e:j=xb+1:=h';omega⟩
omit h in
set_option maxRecDepth 100000 in
set_option maxHeartbeats 2000000 in
theorem apply_bad(hg:x.good=false) :
 Calls Tryz.prog 32 #[.pointer (some ⟨c,0,none⟩),cmdVal x dv] w fun e w'=>e=.returned (resV 3 0 0 0 (.slice none 0 0))∧Ext w w':=by
 unfold cmdVal
 go_enter Tryz.func32,Tryz.ntmps32
 have hX:=(At.new w 39 (cmdCells x dv)).alloc (.cells resCells 34)
 have hE:=((Ext.refl w).alloc (.cells (cmdCells x dv) 39)).alloc (.cells resCells 34)
 have hR:=At.new (w.alloc (.cells (cmdCells x dv) 39)) 34 resCells
 rw[show(w.alloc (.cells (cmdCells x dv) 39)).heap.size=w.heap.size+1 by simp]at hR
 go_upto_region 1 with fail
 generalize hxb:w.heap.size=xb at *
 generalize World.alloc _ _=W at *
 have x0:=hX.cell 0
 have x1:=hX.cell 1
 have x2:=hX.cell 2
 have x3:=hX.cell 3
 have x4:=hX.cell 4
 have x5:=hX.cell 5
 have x6:=hX.cell 6
 have x7:=hX.cell 7
 have x8:=hX.cell 8
 have x9:=hX.cell 9
 have x10:=hX.cell 10
 simp at x0 x1 x2 x3 x4 x5 x6 x7 x8 x9 x10
 have HG:=Lib.hid (good_any W x dv (Sl.of_own (own_keep hS hE (fun _ _ hh=>hh))) (by omega) hnl)
 unfold cmdVal at HG
 rw[hg]at HG
 go_wp2_with fail
 refine HG.out.mono ?_
 rintro e W1 ⟨rfl,hE1⟩
 have hX1:=hX.ext hE1
 have hR1:=hR.ext hE1
 have hE2:=hE.trans hE1
 clear x0 x1 x2 x3 x4 x5 x6 x7 x8 x9 x10 hX hR hE hE1 HG hX1
 have f0:=hR1.frozen 0
 have f1:=hR1.frozen 1
 have f2:=hR1.frozen 2
 have f3:=hR1.frozen 3
 have f4:=hR1.frozen 4
 have r0:=hR1.cell 0
 have r1:=hR1.cell 1
 have r2:=hR1.cell 2
 have r3:=hR1.cell 3
 have r4:=hR1.cell 4
 simp at r0 r1 r2 r3 r4
 go_wp2_with fail
 obtain⟨hZ,hCz⟩:=res_out0 hR1 (.int .i64 3) (.int .u64 0) (.int .i64 0) (.int .u32 0) (.slice none 0 0)
 generalize World.setCell _ _ _=WZ at hZ hCz⊢
 have g0:=hZ.cell 0
 have g1:=hZ.cell 1
 have g2:=hZ.cell 2
 have g3:=hZ.cell 3
 have g4:=hZ.cell 4
 simp at g0 g1 g2 g3 g4
 have hwl:w.heap.size≤xb+1:=by omega
 refine bodyPost_ret (v:=resV 3 0 0 0 (.slice none 0 0)) (by simp[results,Tryz.results32,go_sem,g0,g1,g2,g3,g4,resV]) rfl ⟨rfl,Chg.mono (hE2.chg_trans hCz) fun j hj h'=>by have e:j=xb+1:=h';omega⟩
end apply
end Go.Proofs.YtkkbfdencgdbhaaGreatDoor
