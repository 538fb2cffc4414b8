/-
  Part 9 of what the law leans on.
-/
import Derived.Test.YtiojjokfeknhcaaGreatSC6
import Derived.Test.YtiojjokfeknhcaaGreatSC8
namespace Go.Proofs.YtiojjokfeknhcaaGreat
set_option maxRecDepth 100000
set_option maxHeartbeats 8000000
set_option linter.unusedVariables false
set_option linter.unusedSimpArgs false
set_option linter.unusedSectionVars false
open _root_.Go.Proofs.Tryz
open Go.RowKit Go.Sort
section blob
variable(w:World)(X:Array Value)(b:Bl)(dv:Value)(x:Cmd)(dx:Value)(y:Vl)(hb:w.ownsRow 0 3 1 dv b.disks.length (b.disks.map (Value.int .i64)))(hx:w.ownsRow 0 3 1 dx x.disks.length (x.disks.map (Value.int .i64)))
 (hbl:b.disks.length≤17592186043904) (hxl:x.disks.length≤17592186043904)
include hb hx hbl hxl
theorem rblob_8(hk:x.kind=8)(v:Nat)(hv:x.vol=(v:Int))(hv12:v<12)(hXv:X[1+v * 3]? = some (.bool y.closed)):Calls prog 82 #[.agg X,.agg (blCells b dv),qQd x dx] w (RbOut w (qQG y.closed b x)):=by
 have _hh:=And.intro hbl hxl;obtain⟨dA,dc,rfl⟩:=qQa hb;obtain⟨xA,xc,rfl⟩:=qQa hx;unfold qQd;have HK:=Hh hk;clear hk;have HV:=Hh hv;clear hv
 go_enter func82,ntmps82
 have hC:=(((At.new w 35 X).alloc (.cells (blCells b (.slice dA b.disks.length dc)) 89)).alloc (.cells (zZX x xA xc) 117)).alloc (.cells #[.int .u64 0,.string ⟨#[]⟩,.int .i64 0,.int .u32 0,.slice none 0 0,.bool false,.int .i64 0,.int .i64 0,.bool false,.int .i64 0,.int .i64 0,.int .i64 0,.bool false] 89);have hQ:=((At.new (w.alloc (.cells X 35)) 89 (blCells b (.slice dA b.disks.length dc))).alloc (.cells (zZX x xA xc) 117)).alloc (.cells #[.int .u64 0,.string ⟨#[]⟩,.int .i64 0,.int .u32 0,.slice none 0 0,.bool false,.int .i64 0,.int .i64 0,.bool false,.int .i64 0,.int .i64 0,.int .i64 0,.bool false] 89);have hY:=(At.new ((w.alloc (.cells X 35)).alloc (.cells (blCells b (.slice dA b.disks.length dc)) 89)) 117 (zZX x xA xc)).alloc (.cells #[.int .u64 0,.string ⟨#[]⟩,.int .i64 0,.int .u32 0,.slice none 0 0,.bool false,.int .i64 0,.int .i64 0,.bool false,.int .i64 0,.int .i64 0,.int .i64 0,.bool false] 89);have hZ:=At.new (((w.alloc (.cells X 35)).alloc (.cells (blCells b (.slice dA b.disks.length dc)) 89)).alloc (.cells (zZX x xA xc) 117)) 89 #[.int .u64 0,.string ⟨#[]⟩,.int .i64 0,.int .u32 0,.slice none 0 0,.bool false,.int .i64 0,.int .i64 0,.bool false,.int .i64 0,.int .i64 0,.int .i64 0,.bool false];have hE:=((((Er w).alloc (.cells X 35)).alloc (.cells (blCells b (.slice dA b.disks.length dc)) 89)).alloc (.cells (zZX x xA xc) 117)).alloc (.cells #[.int .u64 0,.string ⟨#[]⟩,.int .i64 0,.int .u32 0,.slice none 0 0,.bool false,.int .i64 0,.int .i64 0,.bool false,.int .i64 0,.int .i64 0,.int .i64 0,.bool false] 89);rw[show(w.alloc (.cells X 35)).heap.size=w.heap.size+1 by simp]at hQ;rw[show((w.alloc (.cells X 35)).alloc (.cells (blCells b (.slice dA b.disks.length dc)) 89)).heap.size=w.heap.size+1+1 by simp]at hY;rw[show(((w.alloc (.cells X 35)).alloc (.cells (blCells b (.slice dA b.disks.length dc)) 89)).alloc (.cells (zZX x xA xc) 117)).heap.size=w.heap.size+1+1+1 by simp]at hZ
 go_upto_region 1 with fail
 obtain⟨xb,hxb⟩:∃xb,w.heap.size=xb:=⟨_,rfl⟩;rw[hxb]at hC hQ hY hZ⊢;generalize World.alloc _ _=W at hC hQ hY hZ hE⊢;have HXB:=Hh (show w.heap.size≤xb by omega);have hxb2:=hZ.lt;have lC:=hC.lt;have lQ:=hQ.lt;have lY:=hY.lt;clear hxb;have HBO:=Hh hb;have HXO:=Hh hx;clear hb hx;have y0:=hY.cell 0;simp at y0;rw[HK.out]at y0;have y9:=hY.cell 9;have y10:=hY.cell 10;simp at y9 y10;rw[HV.out]at y9;have x0:=hC.cell (1+v * 3);rw[hXv]at x0;clear hXv;have q5:=hQ.cell 5;have f5:=hQ.frozen 5;have q6:=hQ.cell 6;have f6:=hQ.frozen 6;have q7:=hQ.cell 7;have f7:=hQ.frozen 7;have q8:=hQ.cell 8;have f8:=hQ.frozen 8;have q9:=hQ.cell 9;have f9:=hQ.frozen 9;have q10:=hQ.cell 10;have f10:=hQ.frozen 10;simp at q5 q6 q7 q8 q9 q10;have hpar:v % 2=0∨v % 2=1:=by omega
 rcases hpar with hp|hp
 ·have HP:Hid (x.vol % 2=0):=Hh (by rw[HV.out];omega);have hq:((v:Int) % 2 == 1)=false:=by rw[beq_eq_false_iff_ne];omega
  have HCP:Hid (qJp b (x.vol % 2)=b.a):=Hh (by unfold qJp;rw[HP.out];rfl);rcases Bool.eq_false_or_eq_true y.closed with hc|hc
  ·rw[hc]at x0;have HC:=Hh hc;clear hc
   go_upto_region 17 with fail
   clear q5 q6 q7 q8 q9 q10 f5 f6 f7 f8 f9 f10 y0 y9 y10 x0 hq;have hQa:=hQ.alloc (.cells #[.bool b.a.there,.int .i64 b.a.vol,.int .i64 b.a.at_] 87);have hZa:=hZ.alloc (.cells #[.bool b.a.there,.int .i64 b.a.vol,.int .i64 b.a.at_] 87);have hEa:=hE.alloc (.cells #[.bool b.a.there,.int .i64 b.a.vol,.int .i64 b.a.at_] 87);clear hC hQ hY hZ hE;generalize W.alloc (.cells #[.bool b.a.there,.int .i64 b.a.vol,.int .i64 b.a.at_] 87)=WA at hQa hZa hEa⊢;have hC:=hQa;have hQ:=hQa;have hZ:=hZa;have hE:=hEa;have hY:=hQa;clear hQa hZa hEa;have HEQ:Hid (qQG y.closed b x=(b,true,16)):=Hh (by unfold qQG qZr;rw[if_neg (by rw[HK.out];decide)];rw[if_neg (by rw[HK.out];decide)];rw[if_neg (by rw[HK.out];decide)];rw[if_pos HK.out,if_pos HC.out]);have HRG:=Hh hQ.range;have HTH:Hid (WA.there (xb+1+1+1) 0 (blCells b (.slice dA b.disks.length dc)).toList.toArray.size):=Hh hZ.there;have hEF:Ext w (WA.setCells (xb+1+1+1) 0 (blCells b (.slice dA b.disks.length dc)).toList):=hE.setCells (by have:=HXB.out;omega) _ _
   have hld:(loadVar 89 ⟨xb+1+1+1,0,none⟩).run prog (WA.setCells (xb+1+1+1) 0 (blCells b (.slice dA b.disks.length dc)).toList)=.ok (.agg (blCells b (.slice dA b.disks.length dc))) (WA.setCells (xb+1+1+1) 0 (blCells b (.slice dA b.disks.length dc)).toList) :=
    run_loadVar_mid (P:=prog) (WA.setCells (xb+1+1+1) 0 (blCells b (.slice dA b.disks.length dc)).toList) (xb+1+1+1) 0 89 (blCells b (.slice dA b.disks.length dc)).toList _ (World.rangeAt_setCells_same WA (xb+1+1+1) 0 (blCells b (.slice dA b.disks.length dc)).toList HTH.out) underlying89 rfl qQe
   have HEF:=Hh hEF;have HLD:=Hh hld;clear hC hQ hY hZ hE hEF hld
   go_wp2_with (first|(refine wpList_load_mid rfl 89 _ rfl (xb+1) 0 rfl _ _ HRG.out underlying89 rfl qQe ?_)|(refine wpList_store_mid rfl 89 _ _ rfl (xb+1+1+1) 0 (blCells b (.slice dA b.disks.length dc)).toList.toArray rfl rfl HTH.out qQe (qQO _ _ _ _) ?_))
   refine bodyPost_ret (v:=.tuple #[.agg (blCells b (.slice dA b.disks.length dc)),.bool true,.int .i64 16]) (qQl results82 _ rfl HLD.out) rfl ?_;rw[HEQ.out];exact⟨(.slice dA b.disks.length dc),rfl,own_kx (HBO.out) HEF.out,HEF.out⟩
  ·rw[hc]at x0;have HC:=Hh hc;clear hc;rcases Bool.eq_false_or_eq_true b.a.there with ht|ht
   ·rw[ht]at q5;have HT:=Hh ht;clear ht
    by_cases hvv:b.a.vol=(v:Int)
    ·rw[hvv]at q6;have HW:=Hh hvv;clear hvv
     go_upto_region 19 with fail
     clear q5 q6 q7 q8 q9 q10 f5 f6 f7 f8 f9 f10 y0 y9 y10 x0 hq;have hQa:=hQ.alloc (.cells #[.bool true,.int .i64 (v:Int),.int .i64 b.a.at_] 87);have hZa:=hZ.alloc (.cells #[.bool true,.int .i64 (v:Int),.int .i64 b.a.at_] 87);have hEa:=hE.alloc (.cells #[.bool true,.int .i64 (v:Int),.int .i64 b.a.at_] 87);clear hC hQ hY hZ hE;generalize W.alloc (.cells #[.bool true,.int .i64 (v:Int),.int .i64 b.a.at_] 87)=WA at hQa hZa hEa⊢;have hC:=hQa;have hQ:=hQa;have hZ:=hZa;have hE:=hEa;have hY:=hQa;clear hQa hZa hEa;have HEQ:Hid (qQG y.closed b x=(b,true,6)):=Hh (by unfold qQG qZr;rw[if_neg (by rw[HK.out];decide)];rw[if_neg (by rw[HK.out];decide)];rw[if_neg (by rw[HK.out];decide)];rw[if_pos HK.out,if_neg (by rw[HC.out];decide),if_pos (by rw[HCP.out,HT.out,HW.out,HV.out];simp)]);have HRG:=Hh hQ.range;have HTH:Hid (WA.there (xb+1+1+1) 0 (blCells b (.slice dA b.disks.length dc)).toList.toArray.size):=Hh hZ.there;have hEF:Ext w (WA.setCells (xb+1+1+1) 0 (blCells b (.slice dA b.disks.length dc)).toList):=hE.setCells (by have:=HXB.out;omega) _ _
     have hld:(loadVar 89 ⟨xb+1+1+1,0,none⟩).run prog (WA.setCells (xb+1+1+1) 0 (blCells b (.slice dA b.disks.length dc)).toList)=.ok (.agg (blCells b (.slice dA b.disks.length dc))) (WA.setCells (xb+1+1+1) 0 (blCells b (.slice dA b.disks.length dc)).toList) :=
      run_loadVar_mid (P:=prog) (WA.setCells (xb+1+1+1) 0 (blCells b (.slice dA b.disks.length dc)).toList) (xb+1+1+1) 0 89 (blCells b (.slice dA b.disks.length dc)).toList _ (World.rangeAt_setCells_same WA (xb+1+1+1) 0 (blCells b (.slice dA b.disks.length dc)).toList HTH.out) underlying89 rfl qQe
     have HEF:=Hh hEF;have HLD:=Hh hld;clear hC hQ hY hZ hE hEF hld
     go_wp2_with (first|(refine wpList_load_mid rfl 89 _ rfl (xb+1) 0 rfl _ _ HRG.out underlying89 rfl qQe ?_)|(refine wpList_store_mid rfl 89 _ _ rfl (xb+1+1+1) 0 (blCells b (.slice dA b.disks.length dc)).toList.toArray rfl rfl HTH.out qQe (qQO _ _ _ _) ?_))
     refine bodyPost_ret (v:=.tuple #[.agg (blCells b (.slice dA b.disks.length dc)),.bool true,.int .i64 6]) (qQl results82 _ rfl HLD.out) rfl ?_;rw[HEQ.out];exact⟨(.slice dA b.disks.length dc),rfl,own_kx (HBO.out) HEF.out,HEF.out⟩
    ·have hne:(b.a.vol == (v:Int))=false:=by rw[beq_eq_false_iff_ne];exact hvv
     have HW:=Hh hvv;clear hvv
     go_upto_region 41 with fail
     clear hne;clear q5 q6 q7 q8 q9 q10 f5 f6 f7 f8 f9 f10 y0 y9 y10 x0 hq;have hQ2:At (((W.setCell ⟨xb+1,5,none⟩ (.bool true)).setCell ⟨xb+1,6,none⟩ (.int .i64 (v:Int))).setCell ⟨xb+1,7,none⟩ (.int .i64 x.at_)) (xb+1) 89 (blCells { b with a:=⟨true,(v:Int),x.at_⟩ } (.slice dA b.disks.length dc)):=((hQ.set 5 (.bool true)).set 6 (.int .i64 (v:Int))).set 7 (.int .i64 x.at_);have hne:xb+1+1+1≠xb+1:=by omega
     have hZ2:=((hZ.far (p:=⟨xb+1,5,none⟩) hne (.bool true)).far (p:=⟨xb+1,6,none⟩) hne (.int .i64 (v:Int))).far (p:=⟨xb+1,7,none⟩) hne (.int .i64 x.at_);have hle:w.heap.size≤xb+1:=by have:=HXB.out;omega
     have hE2:Ext w (((W.setCell ⟨xb+1,5,none⟩ (.bool true)).setCell ⟨xb+1,6,none⟩ (.int .i64 (v:Int))).setCell ⟨xb+1,7,none⟩ (.int .i64 x.at_)):=Chg.setCell (p:=⟨xb+1,7,none⟩) (Chg.setCell (p:=⟨xb+1,6,none⟩) (Chg.setCell (p:=⟨xb+1,5,none⟩) hE (.inr hle) _) (.inr hle) _) (.inr hle) _;clear hC hQ hY hZ hE hne hle;generalize (((W.setCell ⟨xb+1,5,none⟩ (.bool true)).setCell ⟨xb+1,6,none⟩ (.int .i64 (v:Int))).setCell ⟨xb+1,7,none⟩ (.int .i64 x.at_))=W2 at hQ2 hZ2 hE2⊢;have hC:=hQ2;have hQ:=hQ2;have hZ:=hZ2;have hE:=hE2;have hY:=hQ2;clear hQ2 hZ2 hE2;have hQa:=hQ.alloc (.cells #[.bool true,.int .i64 b.a.vol,.int .i64 b.a.at_] 87);have hZa:=hZ.alloc (.cells #[.bool true,.int .i64 b.a.vol,.int .i64 b.a.at_] 87);have hEa:=hE.alloc (.cells #[.bool true,.int .i64 b.a.vol,.int .i64 b.a.at_] 87);clear hC hQ hY hZ hE;generalize W2.alloc (.cells #[.bool true,.int .i64 b.a.vol,.int .i64 b.a.at_] 87)=WA at hQa hZa hEa⊢;have hC:=hQa;have hQ:=hQa;have hZ:=hZa;have hE:=hEa;have hY:=hQa;clear hQa hZa hEa;have HEQ:Hid (qQG y.closed b x=({ b with a:=⟨true,(v:Int),x.at_⟩ },true,0)):=Hh (by unfold qQG qZr;rw[if_neg (by rw[HK.out];decide)];rw[if_neg (by rw[HK.out];decide)];rw[if_neg (by rw[HK.out];decide)];rw[if_pos HK.out,if_neg (by rw[HC.out];decide),if_neg (by rw[HCP.out,HV.out];simp[HW.out])];unfold qXj;rw[HP.out,HV.out];rfl);have HRG:=Hh hQ.range;have HTH:Hid (WA.there (xb+1+1+1) 0 (blCells { b with a:=⟨true,(v:Int),x.at_⟩ } (.slice dA b.disks.length dc)).toList.toArray.size):=Hh hZ.there;have hEF:Ext w (WA.setCells (xb+1+1+1) 0 (blCells { b with a:=⟨true,(v:Int),x.at_⟩ } (.slice dA b.disks.length dc)).toList):=hE.setCells (by have:=HXB.out;omega) _ _
     have hld:(loadVar 89 ⟨xb+1+1+1,0,none⟩).run prog (WA.setCells (xb+1+1+1) 0 (blCells { b with a:=⟨true,(v:Int),x.at_⟩ } (.slice dA b.disks.length dc)).toList)=.ok (.agg (blCells { b with a:=⟨true,(v:Int),x.at_⟩ } (.slice dA b.disks.length dc))) (WA.setCells (xb+1+1+1) 0 (blCells { b with a:=⟨true,(v:Int),x.at_⟩ } (.slice dA b.disks.length dc)).toList) :=
      run_loadVar_mid (P:=prog) (WA.setCells (xb+1+1+1) 0 (blCells { b with a:=⟨true,(v:Int),x.at_⟩ } (.slice dA b.disks.length dc)).toList) (xb+1+1+1) 0 89 (blCells { b with a:=⟨true,(v:Int),x.at_⟩ } (.slice dA b.disks.length dc)).toList _ (World.rangeAt_setCells_same WA (xb+1+1+1) 0 (blCells { b with a:=⟨true,(v:Int),x.at_⟩ } (.slice dA b.disks.length dc)).toList HTH.out) underlying89 rfl qQe
     have HEF:=Hh hEF;have HLD:=Hh hld;clear hC hQ hY hZ hE hEF hld
     go_wp2_with (first|(refine wpList_load_mid rfl 89 _ rfl (xb+1) 0 rfl _ _ HRG.out underlying89 rfl qQe ?_)|(refine wpList_store_mid rfl 89 _ _ rfl (xb+1+1+1) 0 (blCells { b with a:=⟨true,(v:Int),x.at_⟩ } (.slice dA b.disks.length dc)).toList.toArray rfl rfl HTH.out qQe (qQO _ _ _ _) ?_))
     refine bodyPost_ret (v:=.tuple #[.agg (blCells { b with a:=⟨true,(v:Int),x.at_⟩ } (.slice dA b.disks.length dc)),.bool true,.int .i64 0]) (qQl results82 _ rfl HLD.out) rfl ?_;rw[HEQ.out];exact⟨(.slice dA b.disks.length dc),rfl,own_kx (HBO.out) HEF.out,HEF.out⟩
   ·rw[ht]at q5;have HT:=Hh ht;clear ht
    go_upto_region 41 with fail
    clear q5 q6 q7 q8 q9 q10 f5 f6 f7 f8 f9 f10 y0 y9 y10 x0 hq;have hQ2:At (((W.setCell ⟨xb+1,5,none⟩ (.bool true)).setCell ⟨xb+1,6,none⟩ (.int .i64 (v:Int))).setCell ⟨xb+1,7,none⟩ (.int .i64 x.at_)) (xb+1) 89 (blCells { b with a:=⟨true,(v:Int),x.at_⟩ } (.slice dA b.disks.length dc)):=((hQ.set 5 (.bool true)).set 6 (.int .i64 (v:Int))).set 7 (.int .i64 x.at_);have hne:xb+1+1+1≠xb+1:=by omega
    have hZ2:=((hZ.far (p:=⟨xb+1,5,none⟩) hne (.bool true)).far (p:=⟨xb+1,6,none⟩) hne (.int .i64 (v:Int))).far (p:=⟨xb+1,7,none⟩) hne (.int .i64 x.at_);have hle:w.heap.size≤xb+1:=by have:=HXB.out;omega
    have hE2:Ext w (((W.setCell ⟨xb+1,5,none⟩ (.bool true)).setCell ⟨xb+1,6,none⟩ (.int .i64 (v:Int))).setCell ⟨xb+1,7,none⟩ (.int .i64 x.at_)):=Chg.setCell (p:=⟨xb+1,7,none⟩) (Chg.setCell (p:=⟨xb+1,6,none⟩) (Chg.setCell (p:=⟨xb+1,5,none⟩) hE (.inr hle) _) (.inr hle) _) (.inr hle) _;clear hC hQ hY hZ hE hne hle;generalize (((W.setCell ⟨xb+1,5,none⟩ (.bool true)).setCell ⟨xb+1,6,none⟩ (.int .i64 (v:Int))).setCell ⟨xb+1,7,none⟩ (.int .i64 x.at_))=W2 at hQ2 hZ2 hE2⊢;have hC:=hQ2;have hQ:=hQ2;have hZ:=hZ2;have hE:=hE2;have hY:=hQ2;clear hQ2 hZ2 hE2;have hQa:=hQ.alloc (.cells #[.bool false,.int .i64 b.a.vol,.int .i64 b.a.at_] 87);have hZa:=hZ.alloc (.cells #[.bool false,.int .i64 b.a.vol,.int .i64 b.a.at_] 87);have hEa:=hE.alloc (.cells #[.bool false,.int .i64 b.a.vol,.int .i64 b.a.at_] 87);clear hC hQ hY hZ hE;generalize W2.alloc (.cells #[.bool false,.int .i64 b.a.vol,.int .i64 b.a.at_] 87)=WA at hQa hZa hEa⊢;have hC:=hQa;have hQ:=hQa;have hZ:=hZa;have hE:=hEa;have hY:=hQa;clear hQa hZa hEa;have HEQ:Hid (qQG y.closed b x=({ b with a:=⟨true,(v:Int),x.at_⟩ },true,0)):=Hh (by unfold qQG qZr;rw[if_neg (by rw[HK.out];decide)];rw[if_neg (by rw[HK.out];decide)];rw[if_neg (by rw[HK.out];decide)];rw[if_pos HK.out,if_neg (by rw[HC.out];decide),if_neg (by rw[HCP.out,HT.out];simp)];unfold qXj;rw[HP.out,HV.out];rfl);have HRG:=Hh hQ.range;have HTH:Hid (WA.there (xb+1+1+1) 0 (blCells { b with a:=⟨true,(v:Int),x.at_⟩ } (.slice dA b.disks.length dc)).toList.toArray.size):=Hh hZ.there;have hEF:Ext w (WA.setCells (xb+1+1+1) 0 (blCells { b with a:=⟨true,(v:Int),x.at_⟩ } (.slice dA b.disks.length dc)).toList):=hE.setCells (by have:=HXB.out;omega) _ _
    have hld:(loadVar 89 ⟨xb+1+1+1,0,none⟩).run prog (WA.setCells (xb+1+1+1) 0 (blCells { b with a:=⟨true,(v:Int),x.at_⟩ } (.slice dA b.disks.length dc)).toList)=.ok (.agg (blCells { b with a:=⟨true,(v:Int),x.at_⟩ } (.slice dA b.disks.length dc))) (WA.setCells (xb+1+1+1) 0 (blCells { b with a:=⟨true,(v:Int),x.at_⟩ } (.slice dA b.disks.length dc)).toList) :=
     run_loadVar_mid (P:=prog) (WA.setCells (xb+1+1+1) 0 (blCells { b with a:=⟨true,(v:Int),x.at_⟩ } (.slice dA b.disks.length dc)).toList) (xb+1+1+1) 0 89 (blCells { b with a:=⟨true,(v:Int),x.at_⟩ } (.slice dA b.disks.length dc)).toList _ (World.rangeAt_setCells_same WA (xb+1+1+1) 0 (blCells { b with a:=⟨true,(v:Int),x.at_⟩ } (.slice dA b.disks.length dc)).toList HTH.out) underlying89 rfl qQe
    have HEF:=Hh hEF;have HLD:=Hh hld;clear hC hQ hY hZ hE hEF hld
    go_wp2_with (first|(refine wpList_load_mid rfl 89 _ rfl (xb+1) 0 rfl _ _ HRG.out underlying89 rfl qQe ?_)|(refine wpList_store_mid rfl 89 _ _ rfl (xb+1+1+1) 0 (blCells { b with a:=⟨true,(v:Int),x.at_⟩ } (.slice dA b.disks.length dc)).toList.toArray rfl rfl HTH.out qQe (qQO _ _ _ _) ?_))
    refine bodyPost_ret (v:=.tuple #[.agg (blCells { b with a:=⟨true,(v:Int),x.at_⟩ } (.slice dA b.disks.length dc)),.bool true,.int .i64 0]) (qQl results82 _ rfl HLD.out) rfl ?_;rw[HEQ.out];exact⟨(.slice dA b.disks.length dc),rfl,own_kx (HBO.out) HEF.out,HEF.out⟩
 ·have HP:Hid (x.vol % 2=1):=Hh (by rw[HV.out];omega);have hq:((v:Int) % 2 == 1)=true:=by rw[beq_iff_eq];omega
  have HCP:Hid (qJp b (x.vol % 2)=b.b):=Hh (by unfold qJp;rw[HP.out];rfl);rcases Bool.eq_false_or_eq_true y.closed with hc|hc
  ·rw[hc]at x0;have HC:=Hh hc;clear hc
   go_upto_region 17 with fail
   clear q5 q6 q7 q8 q9 q10 f5 f6 f7 f8 f9 f10 y0 y9 y10 x0 hq;have hQa:=hQ.alloc (.cells #[.bool b.b.there,.int .i64 b.b.vol,.int .i64 b.b.at_] 87);have hZa:=hZ.alloc (.cells #[.bool b.b.there,.int .i64 b.b.vol,.int .i64 b.b.at_] 87);have hEa:=hE.alloc (.cells #[.bool b.b.there,.int .i64 b.b.vol,.int .i64 b.b.at_] 87);clear hC hQ hY hZ hE;generalize W.alloc (.cells #[.bool b.b.there,.int .i64 b.b.vol,.int .i64 b.b.at_] 87)=WA at hQa hZa hEa⊢;have hC:=hQa;have hQ:=hQa;have hZ:=hZa;have hE:=hEa;have hY:=hQa;clear hQa hZa hEa;have HEQ:Hid (qQG y.closed b x=(b,true,16)):=Hh (by unfold qQG qZr;rw[if_neg (by rw[HK.out];decide)];rw[if_neg (by rw[HK.out];decide)];rw[if_neg (by rw[HK.out];decide)];rw[if_pos HK.out,if_pos HC.out]);have HRG:=Hh hQ.range;have HTH:Hid (WA.there (xb+1+1+1) 0 (blCells b (.slice dA b.disks.length dc)).toList.toArray.size):=Hh hZ.there;have hEF:Ext w (WA.setCells (xb+1+1+1) 0 (blCells b (.slice dA b.disks.length dc)).toList):=hE.setCells (by have:=HXB.out;omega) _ _
   have hld:(loadVar 89 ⟨xb+1+1+1,0,none⟩).run prog (WA.setCells (xb+1+1+1) 0 (blCells b (.slice dA b.disks.length dc)).toList)=.ok (.agg (blCells b (.slice dA b.disks.length dc))) (WA.setCells (xb+1+1+1) 0 (blCells b (.slice dA b.disks.length dc)).toList) :=
    run_loadVar_mid (P:=prog) (WA.setCells (xb+1+1+1) 0 (blCells b (.slice dA b.disks.length dc)).toList) (xb+1+1+1) 0 89 (blCells b (.slice dA b.disks.length dc)).toList _ (World.rangeAt_setCells_same WA (xb+1+1+1) 0 (blCells b (.slice dA b.disks.length dc)).toList HTH.out) underlying89 rfl qQe
   have HEF:=Hh hEF;have HLD:=Hh hld;clear hC hQ hY hZ hE hEF hld
   go_wp2_with (first|(refine wpList_load_mid rfl 89 _ rfl (xb+1) 0 rfl _ _ HRG.out underlying89 rfl qQe ?_)|(refine wpList_store_mid rfl 89 _ _ rfl (xb+1+1+1) 0 (blCells b (.slice dA b.disks.length dc)).toList.toArray rfl rfl HTH.out qQe (qQO _ _ _ _) ?_))
   refine bodyPost_ret (v:=.tuple #[.agg (blCells b (.slice dA b.disks.length dc)),.bool true,.int .i64 16]) (qQl results82 _ rfl HLD.out) rfl ?_;rw[HEQ.out];exact⟨(.slice dA b.disks.length dc),rfl,own_kx (HBO.out) HEF.out,HEF.out⟩
  ·rw[hc]at x0;have HC:=Hh hc;clear hc;rcases Bool.eq_false_or_eq_true b.b.there with ht|ht
   ·rw[ht]at q8;have HT:=Hh ht;clear ht
    by_cases hvv:b.b.vol=(v:Int)
    ·rw[hvv]at q9;have HW:=Hh hvv;clear hvv
     go_upto_region 19 with fail
     clear q5 q6 q7 q8 q9 q10 f5 f6 f7 f8 f9 f10 y0 y9 y10 x0 hq;have hQa:=hQ.alloc (.cells #[.bool true,.int .i64 (v:Int),.int .i64 b.b.at_] 87);have hZa:=hZ.alloc (.cells #[.bool true,.int .i64 (v:Int),.int .i64 b.b.at_] 87);have hEa:=hE.alloc (.cells #[.bool true,.int .i64 (v:Int),.int .i64 b.b.at_] 87);clear hC hQ hY hZ hE;generalize W.alloc (.cells #[.bool true,.int .i64 (v:Int),.int .i64 b.b.at_] 87)=WA at hQa hZa hEa⊢;have hC:=hQa;have hQ:=hQa;have hZ:=hZa;have hE:=hEa;have hY:=hQa;clear hQa hZa hEa;have HEQ:Hid (qQG y.closed b x=(b,true,6)):=Hh (by unfold qQG qZr;rw[if_neg (by rw[HK.out];decide)];rw[if_neg (by rw[HK.out];decide)];rw[if_neg (by rw[HK.out];decide)];rw[if_pos HK.out,if_neg (by rw[HC.out];decide),if_pos (by rw[HCP.out,HT.out,HW.out,HV.out];simp)]);have HRG:=Hh hQ.range;have HTH:Hid (WA.there (xb+1+1+1) 0 (blCells b (.slice dA b.disks.length dc)).toList.toArray.size):=Hh hZ.there;have hEF:Ext w (WA.setCells (xb+1+1+1) 0 (blCells b (.slice dA b.disks.length dc)).toList):=hE.setCells (by have:=HXB.out;omega) _ _
     have hld:(loadVar 89 ⟨xb+1+1+1,0,none⟩).run prog (WA.setCells (xb+1+1+1) 0 (blCells b (.slice dA b.disks.length dc)).toList)=.ok (.agg (blCells b (.slice dA b.disks.length dc))) (WA.setCells (xb+1+1+1) 0 (blCells b (.slice dA b.disks.length dc)).toList) :=
      run_loadVar_mid (P:=prog) (WA.setCells (xb+1+1+1) 0 (blCells b (.slice dA b.disks.length dc)).toList) (xb+1+1+1) 0 89 (blCells b (.slice dA b.disks.length dc)).toList _ (World.rangeAt_setCells_same WA (xb+1+1+1) 0 (blCells b (.slice dA b.disks.length dc)).toList HTH.out) underlying89 rfl qQe
     have HEF:=Hh hEF;have HLD:=Hh hld;clear hC hQ hY hZ hE hEF hld
     go_wp2_with (first|(refine wpList_load_mid rfl 89 _ rfl (xb+1) 0 rfl _ _ HRG.out underlying89 rfl qQe ?_)|(refine wpList_store_mid rfl 89 _ _ rfl (xb+1+1+1) 0 (blCells b (.slice dA b.disks.length dc)).toList.toArray rfl rfl HTH.out qQe (qQO _ _ _ _) ?_))
     refine bodyPost_ret (v:=.tuple #[.agg (blCells b (.slice dA b.disks.length dc)),.bool true,.int .i64 6]) (qQl results82 _ rfl HLD.out) rfl ?_;rw[HEQ.out];exact⟨(.slice dA b.disks.length dc),rfl,own_kx (HBO.out) HEF.out,HEF.out⟩
    ·have hne:(b.b.vol == (v:Int))=false:=by rw[beq_eq_false_iff_ne];exact hvv
     have HW:=Hh hvv;clear hvv
     go_upto_region 41 with fail
     clear hne;clear q5 q6 q7 q8 q9 q10 f5 f6 f7 f8 f9 f10 y0 y9 y10 x0 hq;have hQ2:At (((W.setCell ⟨xb+1,8,none⟩ (.bool true)).setCell ⟨xb+1,9,none⟩ (.int .i64 (v:Int))).setCell ⟨xb+1,10,none⟩ (.int .i64 x.at_)) (xb+1) 89 (blCells { b with b:=⟨true,(v:Int),x.at_⟩ } (.slice dA b.disks.length dc)):=((hQ.set 8 (.bool true)).set 9 (.int .i64 (v:Int))).set 10 (.int .i64 x.at_);have hne:xb+1+1+1≠xb+1:=by omega
     have hZ2:=((hZ.far (p:=⟨xb+1,8,none⟩) hne (.bool true)).far (p:=⟨xb+1,9,none⟩) hne (.int .i64 (v:Int))).far (p:=⟨xb+1,10,none⟩) hne (.int .i64 x.at_);have hle:w.heap.size≤xb+1:=by have:=HXB.out;omega
     have hE2:Ext w (((W.setCell ⟨xb+1,8,none⟩ (.bool true)).setCell ⟨xb+1,9,none⟩ (.int .i64 (v:Int))).setCell ⟨xb+1,10,none⟩ (.int .i64 x.at_)):=Chg.setCell (p:=⟨xb+1,10,none⟩) (Chg.setCell (p:=⟨xb+1,9,none⟩) (Chg.setCell (p:=⟨xb+1,8,none⟩) hE (.inr hle) _) (.inr hle) _) (.inr hle) _;clear hC hQ hY hZ hE hne hle;generalize (((W.setCell ⟨xb+1,8,none⟩ (.bool true)).setCell ⟨xb+1,9,none⟩ (.int .i64 (v:Int))).setCell ⟨xb+1,10,none⟩ (.int .i64 x.at_))=W2 at hQ2 hZ2 hE2⊢;have hC:=hQ2;have hQ:=hQ2;have hZ:=hZ2;have hE:=hE2;have hY:=hQ2;clear hQ2 hZ2 hE2;have hQa:=hQ.alloc (.cells #[.bool true,.int .i64 b.b.vol,.int .i64 b.b.at_] 87);have hZa:=hZ.alloc (.cells #[.bool true,.int .i64 b.b.vol,.int .i64 b.b.at_] 87);have hEa:=hE.alloc (.cells #[.bool true,.int .i64 b.b.vol,.int .i64 b.b.at_] 87);clear hC hQ hY hZ hE;generalize W2.alloc (.cells #[.bool true,.int .i64 b.b.vol,.int .i64 b.b.at_] 87)=WA at hQa hZa hEa⊢;have hC:=hQa;have hQ:=hQa;have hZ:=hZa;have hE:=hEa;have hY:=hQa;clear hQa hZa hEa;have HEQ:Hid (qQG y.closed b x=({ b with b:=⟨true,(v:Int),x.at_⟩ },true,0)):=Hh (by unfold qQG qZr;rw[if_neg (by rw[HK.out];decide)];rw[if_neg (by rw[HK.out];decide)];rw[if_neg (by rw[HK.out];decide)];rw[if_pos HK.out,if_neg (by rw[HC.out];decide),if_neg (by rw[HCP.out,HV.out];simp[HW.out])];unfold qXj;rw[HP.out,HV.out];rfl);have HRG:=Hh hQ.range;have HTH:Hid (WA.there (xb+1+1+1) 0 (blCells { b with b:=⟨true,(v:Int),x.at_⟩ } (.slice dA b.disks.length dc)).toList.toArray.size):=Hh hZ.there;have hEF:Ext w (WA.setCells (xb+1+1+1) 0 (blCells { b with b:=⟨true,(v:Int),x.at_⟩ } (.slice dA b.disks.length dc)).toList):=hE.setCells (by have:=HXB.out;omega) _ _
     have hld:(loadVar 89 ⟨xb+1+1+1,0,none⟩).run prog (WA.setCells (xb+1+1+1) 0 (blCells { b with b:=⟨true,(v:Int),x.at_⟩ } (.slice dA b.disks.length dc)).toList)=.ok (.agg (blCells { b with b:=⟨true,(v:Int),x.at_⟩ } (.slice dA b.disks.length dc))) (WA.setCells (xb+1+1+1) 0 (blCells { b with b:=⟨true,(v:Int),x.at_⟩ } (.slice dA b.disks.length dc)).toList) :=
      run_loadVar_mid (P:=prog) (WA.setCells (xb+1+1+1) 0 (blCells { b with b:=⟨true,(v:Int),x.at_⟩ } (.slice dA b.disks.length dc)).toList) (xb+1+1+1) 0 89 (blCells { b with b:=⟨true,(v:Int),x.at_⟩ } (.slice dA b.disks.length dc)).toList _ (World.rangeAt_setCells_same WA (xb+1+1+1) 0 (blCells { b with b:=⟨true,(v:Int),x.at_⟩ } (.slice dA b.disks.length dc)).toList HTH.out) underlying89 rfl qQe
     have HEF:=Hh hEF;have HLD:=Hh hld;clear hC hQ hY hZ hE hEF hld
     go_wp2_with (first|(refine wpList_load_mid rfl 89 _ rfl (xb+1) 0 rfl _ _ HRG.out underlying89 rfl qQe ?_)|(refine wpList_store_mid rfl 89 _ _ rfl (xb+1+1+1) 0 (blCells { b with b:=⟨true,(v:Int),x.at_⟩ } (.slice dA b.disks.length dc)).toList.toArray rfl rfl HTH.out qQe (qQO _ _ _ _) ?_))
     refine bodyPost_ret (v:=.tuple #[.agg (blCells { b with b:=⟨true,(v:Int),x.at_⟩ } (.slice dA b.disks.length dc)),.bool true,.int .i64 0]) (qQl results82 _ rfl HLD.out) rfl ?_;rw[HEQ.out];exact⟨(.slice dA b.disks.length dc),rfl,own_kx (HBO.out) HEF.out,HEF.out⟩
   ·rw[ht]at q8;have HT:=Hh ht;clear ht
    go_upto_region 41 with fail
    clear q5 q6 q7 q8 q9 q10 f5 f6 f7 f8 f9 f10 y0 y9 y10 x0 hq;have hQ2:At (((W.setCell ⟨xb+1,8,none⟩ (.bool true)).setCell ⟨xb+1,9,none⟩ (.int .i64 (v:Int))).setCell ⟨xb+1,10,none⟩ (.int .i64 x.at_)) (xb+1) 89 (blCells { b with b:=⟨true,(v:Int),x.at_⟩ } (.slice dA b.disks.length dc)):=((hQ.set 8 (.bool true)).set 9 (.int .i64 (v:Int))).set 10 (.int .i64 x.at_);have hne:xb+1+1+1≠xb+1:=by omega
    have hZ2:=((hZ.far (p:=⟨xb+1,8,none⟩) hne (.bool true)).far (p:=⟨xb+1,9,none⟩) hne (.int .i64 (v:Int))).far (p:=⟨xb+1,10,none⟩) hne (.int .i64 x.at_);have hle:w.heap.size≤xb+1:=by have:=HXB.out;omega
    have hE2:Ext w (((W.setCell ⟨xb+1,8,none⟩ (.bool true)).setCell ⟨xb+1,9,none⟩ (.int .i64 (v:Int))).setCell ⟨xb+1,10,none⟩ (.int .i64 x.at_)):=Chg.setCell (p:=⟨xb+1,10,none⟩) (Chg.setCell (p:=⟨xb+1,9,none⟩) (Chg.setCell (p:=⟨xb+1,8,none⟩) hE (.inr hle) _) (.inr hle) _) (.inr hle) _;clear hC hQ hY hZ hE hne hle;generalize (((W.setCell ⟨xb+1,8,none⟩ (.bool true)).setCell ⟨xb+1,9,none⟩ (.int .i64 (v:Int))).setCell ⟨xb+1,10,none⟩ (.int .i64 x.at_))=W2 at hQ2 hZ2 hE2⊢;have hC:=hQ2;have hQ:=hQ2;have hZ:=hZ2;have hE:=hE2;have hY:=hQ2;clear hQ2 hZ2 hE2;have hQa:=hQ.alloc (.cells #[.bool false,.int .i64 b.b.vol,.int .i64 b.b.at_] 87);have hZa:=hZ.alloc (.cells #[.bool false,.int .i64 b.b.vol,.int .i64 b.b.at_] 87);have hEa:=hE.alloc (.cells #[.bool false,.int .i64 b.b.vol,.int .i64 b.b.at_] 87);clear hC hQ hY hZ hE;generalize W2.alloc (.cells #[.bool false,.int .i64 b.b.vol,.int .i64 b.b.at_] 87)=WA at hQa hZa hEa⊢;have hC:=hQa;have hQ:=hQa;have hZ:=hZa;have hE:=hEa;have hY:=hQa;clear hQa hZa hEa;have HEQ:Hid (qQG y.closed b x=({ b with b:=⟨true,(v:Int),x.at_⟩ },true,0)):=Hh (by unfold qQG qZr;rw[if_neg (by rw[HK.out];decide)];rw[if_neg (by rw[HK.out];decide)];rw[if_neg (by rw[HK.out];decide)];rw[if_pos HK.out,if_neg (by rw[HC.out];decide),if_neg (by rw[HCP.out,HT.out];simp)];unfold qXj;rw[HP.out,HV.out];rfl);have HRG:=Hh hQ.range;have HTH:Hid (WA.there (xb+1+1+1) 0 (blCells { b with b:=⟨true,(v:Int),x.at_⟩ } (.slice dA b.disks.length dc)).toList.toArray.size):=Hh hZ.there;have hEF:Ext w (WA.setCells (xb+1+1+1) 0 (blCells { b with b:=⟨true,(v:Int),x.at_⟩ } (.slice dA b.disks.length dc)).toList):=hE.setCells (by have:=HXB.out;omega) _ _
    have hld:(loadVar 89 ⟨xb+1+1+1,0,none⟩).run prog (WA.setCells (xb+1+1+1) 0 (blCells { b with b:=⟨true,(v:Int),x.at_⟩ } (.slice dA b.disks.length dc)).toList)=.ok (.agg (blCells { b with b:=⟨true,(v:Int),x.at_⟩ } (.slice dA b.disks.length dc))) (WA.setCells (xb+1+1+1) 0 (blCells { b with b:=⟨true,(v:Int),x.at_⟩ } (.slice dA b.disks.length dc)).toList) :=
     run_loadVar_mid (P:=prog) (WA.setCells (xb+1+1+1) 0 (blCells { b with b:=⟨true,(v:Int),x.at_⟩ } (.slice dA b.disks.length dc)).toList) (xb+1+1+1) 0 89 (blCells { b with b:=⟨true,(v:Int),x.at_⟩ } (.slice dA b.disks.length dc)).toList _ (World.rangeAt_setCells_same WA (xb+1+1+1) 0 (blCells { b with b:=⟨true,(v:Int),x.at_⟩ } (.slice dA b.disks.length dc)).toList HTH.out) underlying89 rfl qQe
    have HEF:=Hh hEF;have HLD:=Hh hld;clear hC hQ hY hZ hE hEF hld
    go_wp2_with (first|(refine wpList_load_mid rfl 89 _ rfl (xb+1) 0 rfl _ _ HRG.out underlying89 rfl qQe ?_)|(refine wpList_store_mid rfl 89 _ _ rfl (xb+1+1+1) 0 (blCells { b with b:=⟨true,(v:Int),x.at_⟩ } (.slice dA b.disks.length dc)).toList.toArray rfl rfl HTH.out qQe (qQO _ _ _ _) ?_))
    refine bodyPost_ret (v:=.tuple #[.agg (blCells { b with b:=⟨true,(v:Int),x.at_⟩ } (.slice dA b.disks.length dc)),.bool true,.int .i64 0]) (qQl results82 _ rfl HLD.out) rfl ?_;rw[HEQ.out];exact⟨(.slice dA b.disks.length dc),rfl,own_kx (HBO.out) HEF.out,HEF.out⟩
end blob
open Go.RowKit Go.Sort
section blob
variable(w:World)(X:Array Value)(b:Bl)(dv:Value)(x:Cmd)(dx:Value)(y:Vl)(hb:w.ownsRow 0 3 1 dv b.disks.length (b.disks.map (Value.int .i64)))(hx:w.ownsRow 0 3 1 dx x.disks.length (x.disks.map (Value.int .i64)))
 (hbl:b.disks.length≤17592186043904) (hxl:x.disks.length≤17592186043904)
include hb hx hbl hxl
theorem rblob_14(hk:x.kind=14)(hpl:x.pool=0∨x.pool=1):Calls prog 82 #[.agg X,.agg (blCells b dv),qQd x dx] w (RbOut w (qQG y.closed b x)):=by
 have _hh:=And.intro hbl hxl;obtain⟨dA,dc,rfl⟩:=qQa hb;obtain⟨xA,xc,rfl⟩:=qQa hx;unfold qQd;have HK:=Hh hk;clear hk;have HPP:=Hh hpl;clear hpl
 go_enter func82,ntmps82
 have hC:=(((At.new w 35 X).alloc (.cells (blCells b (.slice dA b.disks.length dc)) 89)).alloc (.cells (zZX x xA xc) 117)).alloc (.cells #[.int .u64 0,.string ⟨#[]⟩,.int .i64 0,.int .u32 0,.slice none 0 0,.bool false,.int .i64 0,.int .i64 0,.bool false,.int .i64 0,.int .i64 0,.int .i64 0,.bool false] 89);have hQ:=((At.new (w.alloc (.cells X 35)) 89 (blCells b (.slice dA b.disks.length dc))).alloc (.cells (zZX x xA xc) 117)).alloc (.cells #[.int .u64 0,.string ⟨#[]⟩,.int .i64 0,.int .u32 0,.slice none 0 0,.bool false,.int .i64 0,.int .i64 0,.bool false,.int .i64 0,.int .i64 0,.int .i64 0,.bool false] 89);have hY:=(At.new ((w.alloc (.cells X 35)).alloc (.cells (blCells b (.slice dA b.disks.length dc)) 89)) 117 (zZX x xA xc)).alloc (.cells #[.int .u64 0,.string ⟨#[]⟩,.int .i64 0,.int .u32 0,.slice none 0 0,.bool false,.int .i64 0,.int .i64 0,.bool false,.int .i64 0,.int .i64 0,.int .i64 0,.bool false] 89);have hZ:=At.new (((w.alloc (.cells X 35)).alloc (.cells (blCells b (.slice dA b.disks.length dc)) 89)).alloc (.cells (zZX x xA xc) 117)) 89 #[.int .u64 0,.string ⟨#[]⟩,.int .i64 0,.int .u32 0,.slice none 0 0,.bool false,.int .i64 0,.int .i64 0,.bool false,.int .i64 0,.int .i64 0,.int .i64 0,.bool false];have hE:=((((Er w).alloc (.cells X 35)).alloc (.cells (blCells b (.slice dA b.disks.length dc)) 89)).alloc (.cells (zZX x xA xc) 117)).alloc (.cells #[.int .u64 0,.string ⟨#[]⟩,.int .i64 0,.int .u32 0,.slice none 0 0,.bool false,.int .i64 0,.int .i64 0,.bool false,.int .i64 0,.int .i64 0,.int .i64 0,.bool false] 89);rw[show(w.alloc (.cells X 35)).heap.size=w.heap.size+1 by simp]at hQ;rw[show((w.alloc (.cells X 35)).alloc (.cells (blCells b (.slice dA b.disks.length dc)) 89)).heap.size=w.heap.size+1+1 by simp]at hY;rw[show(((w.alloc (.cells X 35)).alloc (.cells (blCells b (.slice dA b.disks.length dc)) 89)).alloc (.cells (zZX x xA xc) 117)).heap.size=w.heap.size+1+1+1 by simp]at hZ
 go_upto_region 1 with fail
 obtain⟨xb,hxb⟩:∃xb,w.heap.size=xb:=⟨_,rfl⟩;rw[hxb]at hC hQ hY hZ⊢;generalize World.alloc _ _=W at hC hQ hY hZ hE⊢;have HXB:=Hh (show w.heap.size≤xb by omega);have hxb2:=hZ.lt;have lC:=hC.lt;have lQ:=hQ.lt;have lY:=hY.lt;clear hxb;have HBO:=Hh hb;have HXO:=Hh hx;clear hb hx;have y0:=hY.cell 0;simp at y0;rw[HK.out]at y0;have y8:=hY.cell 8;simp at y8;have q4:=hQ.cell 4;have q5:=hQ.cell 5;have f5:=hQ.frozen 5;have q6:=hQ.cell 6;have f6:=hQ.frozen 6;have q7:=hQ.cell 7;have f7:=hQ.frozen 7;have q8:=hQ.cell 8;have f8:=hQ.frozen 8;have q9:=hQ.cell 9;have f9:=hQ.frozen 9;have q10:=hQ.cell 10;have f10:=hQ.frozen 10;simp at q4 q5 q6 q7 q8 q9 q10;rcases HPP.out with hp|hp
 ·have HPO:=Hh hp;rw[hp]at y8;clear hp;rcases Bool.eq_false_or_eq_true b.a.there with hm|hm
  ·rw[hm]at q5;have HM:=Hh hm;clear hm
   by_cases hd:b.disks=[]
   ·have hl:(b.disks.length:Int)=0:=by rw[hd];rfl
    have HD:=Hh hd;clear hd;rcases Bool.eq_false_or_eq_true b.b.there with ho|ho
    ·rw[ho]at q8;have HO:=Hh ho;clear ho
     go_upto_region 32 with fail
     go_region
     go_upto_region 41 with fail
     clear q4 q5 q8 q6 q7 q9 q10 f5 f6 f7 f8 f9 f10 y0 y8;have hQ2:At (((W.setCell ⟨xb+1,5,none⟩ (.bool false)).setCell ⟨xb+1,6,none⟩ (.int .i64 0)).setCell ⟨xb+1,7,none⟩ (.int .i64 0)) (xb+1) 89 (blCells { b with a:=Cp.none } (.slice dA b.disks.length dc)):=((hQ.set 5 (.bool false)).set 6 (.int .i64 0)).set 7 (.int .i64 0);have hne:xb+1+1+1≠xb+1:=by omega
     have hZ2:=((hZ.far (p:=⟨xb+1,5,none⟩) hne (.bool false)).far (p:=⟨xb+1,6,none⟩) hne (.int .i64 0)).far (p:=⟨xb+1,7,none⟩) hne (.int .i64 0);have hle:w.heap.size≤xb+1:=by have:=HXB.out;omega
     have hE2:Ext w (((W.setCell ⟨xb+1,5,none⟩ (.bool false)).setCell ⟨xb+1,6,none⟩ (.int .i64 0)).setCell ⟨xb+1,7,none⟩ (.int .i64 0)):=Chg.setCell (p:=⟨xb+1,7,none⟩) (Chg.setCell (p:=⟨xb+1,6,none⟩) (Chg.setCell (p:=⟨xb+1,5,none⟩) hE (.inr hle) _) (.inr hle) _) (.inr hle) _;clear hC hQ hY hZ hE hne hle;generalize (((W.setCell ⟨xb+1,5,none⟩ (.bool false)).setCell ⟨xb+1,6,none⟩ (.int .i64 0)).setCell ⟨xb+1,7,none⟩ (.int .i64 0))=W2 at hQ2 hZ2 hE2⊢;have hC:=hQ2;have hQ:=hQ2;have hZ:=hZ2;have hE:=hE2;have hY:=hQ2;clear hQ2 hZ2 hE2;have hQa:=hQ.drew;have hZa:=hZ.drew;have hEa:=hE.drew;clear hC hQ hY hZ hE;generalize W2.drew=WA at hQa hZa hEa⊢;have hC:=hQa;have hQ:=hQa;have hZ:=hZa;have hE:=hEa;have hY:=hQa;clear hQa hZa hEa;have HEQ:Hid (qQG y.closed b x=({ b with a:=Cp.none },true,0)):=Hh (by unfold qQG qZr;rw[if_neg (by rw[HK.out];decide)];rw[if_neg (by rw[HK.out];decide)];rw[if_neg (by rw[HK.out];decide)];rw[if_neg (by rw[HK.out];decide)];rw[if_neg (by rw[HK.out];decide)];rw[if_neg (by unfold qJp;rw[HPO.out];simp[HM.out,HD.out,HO.out])];unfold qXj;rw[HPO.out];rfl);have HRG:=Hh hQ.range;have HTH:Hid (WA.there (xb+1+1+1) 0 (blCells { b with a:=Cp.none } (.slice dA b.disks.length dc)).toList.toArray.size):=Hh hZ.there;have hEF:Ext w (WA.setCells (xb+1+1+1) 0 (blCells { b with a:=Cp.none } (.slice dA b.disks.length dc)).toList):=hE.setCells (by have:=HXB.out;omega) _ _
     have hld:(loadVar 89 ⟨xb+1+1+1,0,none⟩).run prog (WA.setCells (xb+1+1+1) 0 (blCells { b with a:=Cp.none } (.slice dA b.disks.length dc)).toList)=.ok (.agg (blCells { b with a:=Cp.none } (.slice dA b.disks.length dc))) (WA.setCells (xb+1+1+1) 0 (blCells { b with a:=Cp.none } (.slice dA b.disks.length dc)).toList) :=
      run_loadVar_mid (P:=prog) (WA.setCells (xb+1+1+1) 0 (blCells { b with a:=Cp.none } (.slice dA b.disks.length dc)).toList) (xb+1+1+1) 0 89 (blCells { b with a:=Cp.none } (.slice dA b.disks.length dc)).toList _ (World.rangeAt_setCells_same WA (xb+1+1+1) 0 (blCells { b with a:=Cp.none } (.slice dA b.disks.length dc)).toList HTH.out) underlying89 rfl qQe
     have HEF:=Hh hEF;have HLD:=Hh hld;clear hC hQ hY hZ hE hEF hld
     go_wp2_with (first|(refine wpList_load_mid rfl 89 _ rfl (xb+1) 0 rfl _ _ HRG.out underlying89 rfl qQe ?_)|(refine wpList_store_mid rfl 89 _ _ rfl (xb+1+1+1) 0 (blCells { b with a:=Cp.none } (.slice dA b.disks.length dc)).toList.toArray rfl rfl HTH.out qQe (qQO _ _ _ _) ?_))
     refine bodyPost_ret (v:=.tuple #[.agg (blCells { b with a:=Cp.none } (.slice dA b.disks.length dc)),.bool true,.int .i64 0]) (qQl results82 _ rfl HLD.out) rfl ?_;rw[HEQ.out];exact⟨(.slice dA b.disks.length dc),rfl,own_kx (HBO.out) HEF.out,HEF.out⟩
    ·rw[ho]at q8;have HO:=Hh ho;clear ho
     go_upto_region 32 with fail
     go_region
     go_upto_region 37 with fail
     clear q4 q5 q8 q6 q7 q9 q10 f5 f6 f7 f8 f9 f10 y0 y8;have hQa:=hQ.drew;have hZa:=hZ.drew;have hEa:=hE.drew;clear hC hQ hY hZ hE;generalize W.drew=WA at hQa hZa hEa⊢;have hC:=hQa;have hQ:=hQa;have hZ:=hZa;have hE:=hEa;have hY:=hQa;clear hQa hZa hEa;have HEQ:Hid (qQG y.closed b x=(b,true,16)):=Hh (by unfold qQG qZr;rw[if_neg (by rw[HK.out];decide)];rw[if_neg (by rw[HK.out];decide)];rw[if_neg (by rw[HK.out];decide)];rw[if_neg (by rw[HK.out];decide)];rw[if_neg (by rw[HK.out];decide)];rw[if_pos (by unfold qJp;rw[HPO.out];simp[HM.out,HD.out,HO.out])]);have HRG:=Hh hQ.range;have HTH:Hid (WA.there (xb+1+1+1) 0 (blCells b (.slice dA b.disks.length dc)).toList.toArray.size):=Hh hZ.there;have hEF:Ext w (WA.setCells (xb+1+1+1) 0 (blCells b (.slice dA b.disks.length dc)).toList):=hE.setCells (by have:=HXB.out;omega) _ _
     have hld:(loadVar 89 ⟨xb+1+1+1,0,none⟩).run prog (WA.setCells (xb+1+1+1) 0 (blCells b (.slice dA b.disks.length dc)).toList)=.ok (.agg (blCells b (.slice dA b.disks.length dc))) (WA.setCells (xb+1+1+1) 0 (blCells b (.slice dA b.disks.length dc)).toList) :=
      run_loadVar_mid (P:=prog) (WA.setCells (xb+1+1+1) 0 (blCells b (.slice dA b.disks.length dc)).toList) (xb+1+1+1) 0 89 (blCells b (.slice dA b.disks.length dc)).toList _ (World.rangeAt_setCells_same WA (xb+1+1+1) 0 (blCells b (.slice dA b.disks.length dc)).toList HTH.out) underlying89 rfl qQe
     have HEF:=Hh hEF;have HLD:=Hh hld;clear hC hQ hY hZ hE hEF hld
     go_wp2_with (first|(refine wpList_load_mid rfl 89 _ rfl (xb+1) 0 rfl _ _ HRG.out underlying89 rfl qQe ?_)|(refine wpList_store_mid rfl 89 _ _ rfl (xb+1+1+1) 0 (blCells b (.slice dA b.disks.length dc)).toList.toArray rfl rfl HTH.out qQe (qQO _ _ _ _) ?_))
     refine bodyPost_ret (v:=.tuple #[.agg (blCells b (.slice dA b.disks.length dc)),.bool true,.int .i64 16]) (qQl results82 _ rfl HLD.out) rfl ?_;rw[HEQ.out];exact⟨(.slice dA b.disks.length dc),rfl,own_kx (HBO.out) HEF.out,HEF.out⟩
   ·have hl:¬ b.disks.length=0:=fun e=>hd (List.length_eq_zero_iff.1 e)
    have HD:=Hh hd;clear hd
    go_upto_region 32 with fail
    go_region
    go_upto_region 41 with fail
    clear q4 q5 q8 q6 q7 q9 q10 f5 f6 f7 f8 f9 f10 y0 y8;have hQ2:At (((W.setCell ⟨xb+1,5,none⟩ (.bool false)).setCell ⟨xb+1,6,none⟩ (.int .i64 0)).setCell ⟨xb+1,7,none⟩ (.int .i64 0)) (xb+1) 89 (blCells { b with a:=Cp.none } (.slice dA b.disks.length dc)):=((hQ.set 5 (.bool false)).set 6 (.int .i64 0)).set 7 (.int .i64 0);have hne:xb+1+1+1≠xb+1:=by omega
    have hZ2:=((hZ.far (p:=⟨xb+1,5,none⟩) hne (.bool false)).far (p:=⟨xb+1,6,none⟩) hne (.int .i64 0)).far (p:=⟨xb+1,7,none⟩) hne (.int .i64 0);have hle:w.heap.size≤xb+1:=by have:=HXB.out;omega
    have hE2:Ext w (((W.setCell ⟨xb+1,5,none⟩ (.bool false)).setCell ⟨xb+1,6,none⟩ (.int .i64 0)).setCell ⟨xb+1,7,none⟩ (.int .i64 0)):=Chg.setCell (p:=⟨xb+1,7,none⟩) (Chg.setCell (p:=⟨xb+1,6,none⟩) (Chg.setCell (p:=⟨xb+1,5,none⟩) hE (.inr hle) _) (.inr hle) _) (.inr hle) _;clear hC hQ hY hZ hE hne hle;generalize (((W.setCell ⟨xb+1,5,none⟩ (.bool false)).setCell ⟨xb+1,6,none⟩ (.int .i64 0)).setCell ⟨xb+1,7,none⟩ (.int .i64 0))=W2 at hQ2 hZ2 hE2⊢;have hC:=hQ2;have hQ:=hQ2;have hZ:=hZ2;have hE:=hE2;have hY:=hQ2;clear hQ2 hZ2 hE2;have hQa:=hQ.drew;have hZa:=hZ.drew;have hEa:=hE.drew;clear hC hQ hY hZ hE;generalize W2.drew=WA at hQa hZa hEa⊢;have hC:=hQa;have hQ:=hQa;have hZ:=hZa;have hE:=hEa;have hY:=hQa;clear hQa hZa hEa;have HEQ:Hid (qQG y.closed b x=({ b with a:=Cp.none },true,0)):=Hh (by unfold qQG qZr;rw[if_neg (by rw[HK.out];decide)];rw[if_neg (by rw[HK.out];decide)];rw[if_neg (by rw[HK.out];decide)];rw[if_neg (by rw[HK.out];decide)];rw[if_neg (by rw[HK.out];decide)];rw[if_neg (by unfold qJp;rw[HPO.out];simp[HM.out,HD.out])];unfold qXj;rw[HPO.out];rfl);have HRG:=Hh hQ.range;have HTH:Hid (WA.there (xb+1+1+1) 0 (blCells { b with a:=Cp.none } (.slice dA b.disks.length dc)).toList.toArray.size):=Hh hZ.there;have hEF:Ext w (WA.setCells (xb+1+1+1) 0 (blCells { b with a:=Cp.none } (.slice dA b.disks.length dc)).toList):=hE.setCells (by have:=HXB.out;omega) _ _
    have hld:(loadVar 89 ⟨xb+1+1+1,0,none⟩).run prog (WA.setCells (xb+1+1+1) 0 (blCells { b with a:=Cp.none } (.slice dA b.disks.length dc)).toList)=.ok (.agg (blCells { b with a:=Cp.none } (.slice dA b.disks.length dc))) (WA.setCells (xb+1+1+1) 0 (blCells { b with a:=Cp.none } (.slice dA b.disks.length dc)).toList) :=
     run_loadVar_mid (P:=prog) (WA.setCells (xb+1+1+1) 0 (blCells { b with a:=Cp.none } (.slice dA b.disks.length dc)).toList) (xb+1+1+1) 0 89 (blCells { b with a:=Cp.none } (.slice dA b.disks.length dc)).toList _ (World.rangeAt_setCells_same WA (xb+1+1+1) 0 (blCells { b with a:=Cp.none } (.slice dA b.disks.length dc)).toList HTH.out) underlying89 rfl qQe
    have HEF:=Hh hEF;have HLD:=Hh hld;clear hC hQ hY hZ hE hEF hld
    go_wp2_with (first|(refine wpList_load_mid rfl 89 _ rfl (xb+1) 0 rfl _ _ HRG.out underlying89 rfl qQe ?_)|(refine wpList_store_mid rfl 89 _ _ rfl (xb+1+1+1) 0 (blCells { b with a:=Cp.none } (.slice dA b.disks.length dc)).toList.toArray rfl rfl HTH.out qQe (qQO _ _ _ _) ?_))
    refine bodyPost_ret (v:=.tuple #[.agg (blCells { b with a:=Cp.none } (.slice dA b.disks.length dc)),.bool true,.int .i64 0]) (qQl results82 _ rfl HLD.out) rfl ?_;rw[HEQ.out];exact⟨(.slice dA b.disks.length dc),rfl,own_kx (HBO.out) HEF.out,HEF.out⟩
  ·rw[hm]at q5;have HM:=Hh hm;clear hm
   go_upto_region 32 with fail
   go_region
   go_upto_region 37 with fail
   clear q4 q5 q8 q6 q7 q9 q10 f5 f6 f7 f8 f9 f10 y0 y8;have hQa:=hQ.drew;have hZa:=hZ.drew;have hEa:=hE.drew;clear hC hQ hY hZ hE;generalize W.drew=WA at hQa hZa hEa⊢;have hC:=hQa;have hQ:=hQa;have hZ:=hZa;have hE:=hEa;have hY:=hQa;clear hQa hZa hEa;have HEQ:Hid (qQG y.closed b x=(b,true,16)):=Hh (by unfold qQG qZr;rw[if_neg (by rw[HK.out];decide)];rw[if_neg (by rw[HK.out];decide)];rw[if_neg (by rw[HK.out];decide)];rw[if_neg (by rw[HK.out];decide)];rw[if_neg (by rw[HK.out];decide)];rw[if_pos (by unfold qJp;rw[HPO.out];simp[HM.out])]);have HRG:=Hh hQ.range;have HTH:Hid (WA.there (xb+1+1+1) 0 (blCells b (.slice dA b.disks.length dc)).toList.toArray.size):=Hh hZ.there;have hEF:Ext w (WA.setCells (xb+1+1+1) 0 (blCells b (.slice dA b.disks.length dc)).toList):=hE.setCells (by have:=HXB.out;omega) _ _
   have hld:(loadVar 89 ⟨xb+1+1+1,0,none⟩).run prog (WA.setCells (xb+1+1+1) 0 (blCells b (.slice dA b.disks.length dc)).toList)=.ok (.agg (blCells b (.slice dA b.disks.length dc))) (WA.setCells (xb+1+1+1) 0 (blCells b (.slice dA b.disks.length dc)).toList) :=
    run_loadVar_mid (P:=prog) (WA.setCells (xb+1+1+1) 0 (blCells b (.slice dA b.disks.length dc)).toList) (xb+1+1+1) 0 89 (blCells b (.slice dA b.disks.length dc)).toList _ (World.rangeAt_setCells_same WA (xb+1+1+1) 0 (blCells b (.slice dA b.disks.length dc)).toList HTH.out) underlying89 rfl qQe
   have HEF:=Hh hEF;have HLD:=Hh hld;clear hC hQ hY hZ hE hEF hld
   go_wp2_with (first|(refine wpList_load_mid rfl 89 _ rfl (xb+1) 0 rfl _ _ HRG.out underlying89 rfl qQe ?_)|(refine wpList_store_mid rfl 89 _ _ rfl (xb+1+1+1) 0 (blCells b (.slice dA b.disks.length dc)).toList.toArray rfl rfl HTH.out qQe (qQO _ _ _ _) ?_))
   refine bodyPost_ret (v:=.tuple #[.agg (blCells b (.slice dA b.disks.length dc)),.bool true,.int .i64 16]) (qQl results82 _ rfl HLD.out) rfl ?_;rw[HEQ.out];exact⟨(.slice dA b.disks.length dc),rfl,own_kx (HBO.out) HEF.out,HEF.out⟩
 ·have HPO:=Hh hp;rw[hp]at y8;clear hp;rcases Bool.eq_false_or_eq_true b.b.there with hm|hm
  ·rw[hm]at q8;have HM:=Hh hm;clear hm
   by_cases hd:b.disks=[]
   ·have hl:(b.disks.length:Int)=0:=by rw[hd];rfl
    have HD:=Hh hd;clear hd;rcases Bool.eq_false_or_eq_true b.a.there with ho|ho
    ·rw[ho]at q5;have HO:=Hh ho;clear ho
     go_upto_region 32 with fail
     go_region
     go_upto_region 41 with fail
     clear q4 q5 q8 q6 q7 q9 q10 f5 f6 f7 f8 f9 f10 y0 y8;have hQ2:At (((W.setCell ⟨xb+1,8,none⟩ (.bool false)).setCell ⟨xb+1,9,none⟩ (.int .i64 0)).setCell ⟨xb+1,10,none⟩ (.int .i64 0)) (xb+1) 89 (blCells { b with b:=Cp.none } (.slice dA b.disks.length dc)):=((hQ.set 8 (.bool false)).set 9 (.int .i64 0)).set 10 (.int .i64 0);have hne:xb+1+1+1≠xb+1:=by omega
     have hZ2:=((hZ.far (p:=⟨xb+1,8,none⟩) hne (.bool false)).far (p:=⟨xb+1,9,none⟩) hne (.int .i64 0)).far (p:=⟨xb+1,10,none⟩) hne (.int .i64 0);have hle:w.heap.size≤xb+1:=by have:=HXB.out;omega
     have hE2:Ext w (((W.setCell ⟨xb+1,8,none⟩ (.bool false)).setCell ⟨xb+1,9,none⟩ (.int .i64 0)).setCell ⟨xb+1,10,none⟩ (.int .i64 0)):=Chg.setCell (p:=⟨xb+1,10,none⟩) (Chg.setCell (p:=⟨xb+1,9,none⟩) (Chg.setCell (p:=⟨xb+1,8,none⟩) hE (.inr hle) _) (.inr hle) _) (.inr hle) _;clear hC hQ hY hZ hE hne hle;generalize (((W.setCell ⟨xb+1,8,none⟩ (.bool false)).setCell ⟨xb+1,9,none⟩ (.int .i64 0)).setCell ⟨xb+1,10,none⟩ (.int .i64 0))=W2 at hQ2 hZ2 hE2⊢;have hC:=hQ2;have hQ:=hQ2;have hZ:=hZ2;have hE:=hE2;have hY:=hQ2;clear hQ2 hZ2 hE2;have hQa:=hQ.drew;have hZa:=hZ.drew;have hEa:=hE.drew;clear hC hQ hY hZ hE;generalize W2.drew=WA at hQa hZa hEa⊢;have hC:=hQa;have hQ:=hQa;have hZ:=hZa;have hE:=hEa;have hY:=hQa;clear hQa hZa hEa;have HEQ:Hid (qQG y.closed b x=({ b with b:=Cp.none },true,0)):=Hh (by unfold qQG qZr;rw[if_neg (by rw[HK.out];decide)];rw[if_neg (by rw[HK.out];decide)];rw[if_neg (by rw[HK.out];decide)];rw[if_neg (by rw[HK.out];decide)];rw[if_neg (by rw[HK.out];decide)];rw[if_neg (by unfold qJp;rw[HPO.out];simp[HM.out,HD.out,HO.out])];unfold qXj;rw[HPO.out];rfl);have HRG:=Hh hQ.range;have HTH:Hid (WA.there (xb+1+1+1) 0 (blCells { b with b:=Cp.none } (.slice dA b.disks.length dc)).toList.toArray.size):=Hh hZ.there;have hEF:Ext w (WA.setCells (xb+1+1+1) 0 (blCells { b with b:=Cp.none } (.slice dA b.disks.length dc)).toList):=hE.setCells (by have:=HXB.out;omega) _ _
     have hld:(loadVar 89 ⟨xb+1+1+1,0,none⟩).run prog (WA.setCells (xb+1+1+1) 0 (blCells { b with b:=Cp.none } (.slice dA b.disks.length dc)).toList)=.ok (.agg (blCells { b with b:=Cp.none } (.slice dA b.disks.length dc))) (WA.setCells (xb+1+1+1) 0 (blCells { b with b:=Cp.none } (.slice dA b.disks.length dc)).toList) :=
      run_loadVar_mid (P:=prog) (WA.setCells (xb+1+1+1) 0 (blCells { b with b:=Cp.none } (.slice dA b.disks.length dc)).toList) (xb+1+1+1) 0 89 (blCells { b with b:=Cp.none } (.slice dA b.disks.length dc)).toList _ (World.rangeAt_setCells_same WA (xb+1+1+1) 0 (blCells { b with b:=Cp.none } (.slice dA b.disks.length dc)).toList HTH.out) underlying89 rfl qQe
     have HEF:=Hh hEF;have HLD:=Hh hld;clear hC hQ hY hZ hE hEF hld
     go_wp2_with (first|(refine wpList_load_mid rfl 89 _ rfl (xb+1) 0 rfl _ _ HRG.out underlying89 rfl qQe ?_)|(refine wpList_store_mid rfl 89 _ _ rfl (xb+1+1+1) 0 (blCells { b with b:=Cp.none } (.slice dA b.disks.length dc)).toList.toArray rfl rfl HTH.out qQe (qQO _ _ _ _) ?_))
     refine bodyPost_ret (v:=.tuple #[.agg (blCells { b with b:=Cp.none } (.slice dA b.disks.length dc)),.bool true,.int .i64 0]) (qQl results82 _ rfl HLD.out) rfl ?_;rw[HEQ.out];exact⟨(.slice dA b.disks.length dc),rfl,own_kx (HBO.out) HEF.out,HEF.out⟩
    ·rw[ho]at q5;have HO:=Hh ho;clear ho
     go_upto_region 32 with fail
     go_region
     go_upto_region 37 with fail
     clear q4 q5 q8 q6 q7 q9 q10 f5 f6 f7 f8 f9 f10 y0 y8;have hQa:=hQ.drew;have hZa:=hZ.drew;have hEa:=hE.drew;clear hC hQ hY hZ hE;generalize W.drew=WA at hQa hZa hEa⊢;have hC:=hQa;have hQ:=hQa;have hZ:=hZa;have hE:=hEa;have hY:=hQa;clear hQa hZa hEa;have HEQ:Hid (qQG y.closed b x=(b,true,16)):=Hh (by unfold qQG qZr;rw[if_neg (by rw[HK.out];decide)];rw[if_neg (by rw[HK.out];decide)];rw[if_neg (by rw[HK.out];decide)];rw[if_neg (by rw[HK.out];decide)];rw[if_neg (by rw[HK.out];decide)];rw[if_pos (by unfold qJp;rw[HPO.out];simp[HM.out,HD.out,HO.out])]);have HRG:=Hh hQ.range;have HTH:Hid (WA.there (xb+1+1+1) 0 (blCells b (.slice dA b.disks.length dc)).toList.toArray.size):=Hh hZ.there;have hEF:Ext w (WA.setCells (xb+1+1+1) 0 (blCells b (.slice dA b.disks.length dc)).toList):=hE.setCells (by have:=HXB.out;omega) _ _
     have hld:(loadVar 89 ⟨xb+1+1+1,0,none⟩).run prog (WA.setCells (xb+1+1+1) 0 (blCells b (.slice dA b.disks.length dc)).toList)=.ok (.agg (blCells b (.slice dA b.disks.length dc))) (WA.setCells (xb+1+1+1) 0 (blCells b (.slice dA b.disks.length dc)).toList) :=
      run_loadVar_mid (P:=prog) (WA.setCells (xb+1+1+1) 0 (blCells b (.slice dA b.disks.length dc)).toList) (xb+1+1+1) 0 89 (blCells b (.slice dA b.disks.length dc)).toList _ (World.rangeAt_setCells_same WA (xb+1+1+1) 0 (blCells b (.slice dA b.disks.length dc)).toList HTH.out) underlying89 rfl qQe
     have HEF:=Hh hEF;have HLD:=Hh hld;clear hC hQ hY hZ hE hEF hld
     go_wp2_with (first|(refine wpList_load_mid rfl 89 _ rfl (xb+1) 0 rfl _ _ HRG.out underlying89 rfl qQe ?_)|(refine wpList_store_mid rfl 89 _ _ rfl (xb+1+1+1) 0 (blCells b (.slice dA b.disks.length dc)).toList.toArray rfl rfl HTH.out qQe (qQO _ _ _ _) ?_))
     refine bodyPost_ret (v:=.tuple #[.agg (blCells b (.slice dA b.disks.length dc)),.bool true,.int .i64 16]) (qQl results82 _ rfl HLD.out) rfl ?_;rw[HEQ.out];exact⟨(.slice dA b.disks.length dc),rfl,own_kx (HBO.out) HEF.out,HEF.out⟩
   ·have hl:¬ b.disks.length=0:=fun e=>hd (List.length_eq_zero_iff.1 e)
    have HD:=Hh hd;clear hd
    go_upto_region 32 with fail
    go_region
    go_upto_region 41 with fail
    clear q4 q5 q8 q6 q7 q9 q10 f5 f6 f7 f8 f9 f10 y0 y8;have hQ2:At (((W.setCell ⟨xb+1,8,none⟩ (.bool false)).setCell ⟨xb+1,9,none⟩ (.int .i64 0)).setCell ⟨xb+1,10,none⟩ (.int .i64 0)) (xb+1) 89 (blCells { b with b:=Cp.none } (.slice dA b.disks.length dc)):=((hQ.set 8 (.bool false)).set 9 (.int .i64 0)).set 10 (.int .i64 0);have hne:xb+1+1+1≠xb+1:=by omega
    have hZ2:=((hZ.far (p:=⟨xb+1,8,none⟩) hne (.bool false)).far (p:=⟨xb+1,9,none⟩) hne (.int .i64 0)).far (p:=⟨xb+1,10,none⟩) hne (.int .i64 0);have hle:w.heap.size≤xb+1:=by have:=HXB.out;omega
    have hE2:Ext w (((W.setCell ⟨xb+1,8,none⟩ (.bool false)).setCell ⟨xb+1,9,none⟩ (.int .i64 0)).setCell ⟨xb+1,10,none⟩ (.int .i64 0)):=Chg.setCell (p:=⟨xb+1,10,none⟩) (Chg.setCell (p:=⟨xb+1,9,none⟩) (Chg.setCell (p:=⟨xb+1,8,none⟩) hE (.inr hle) _) (.inr hle) _) (.inr hle) _;clear hC hQ hY hZ hE hne hle;generalize (((W.setCell ⟨xb+1,8,none⟩ (.bool false)).setCell ⟨xb+1,9,none⟩ (.int .i64 0)).setCell ⟨xb+1,10,none⟩ (.int .i64 0))=W2 at hQ2 hZ2 hE2⊢;have hC:=hQ2;have hQ:=hQ2;have hZ:=hZ2;have hE:=hE2;have hY:=hQ2;clear hQ2 hZ2 hE2;have hQa:=hQ.drew;have hZa:=hZ.drew;have hEa:=hE.drew;clear hC hQ hY hZ hE;generalize W2.drew=WA at hQa hZa hEa⊢;have hC:=hQa;have hQ:=hQa;have hZ:=hZa;have hE:=hEa;have hY:=hQa;clear hQa hZa hEa;have HEQ:Hid (qQG y.closed b x=({ b with b:=Cp.none },true,0)):=Hh (by unfold qQG qZr;rw[if_neg (by rw[HK.out];decide)];rw[if_neg (by rw[HK.out];decide)];rw[if_neg (by rw[HK.out];decide)];rw[if_neg (by rw[HK.out];decide)];rw[if_neg (by rw[HK.out];decide)];rw[if_neg (by unfold qJp;rw[HPO.out];simp[HM.out,HD.out])];unfold qXj;rw[HPO.out];rfl);have HRG:=Hh hQ.range;have HTH:Hid (WA.there (xb+1+1+1) 0 (blCells { b with b:=Cp.none } (.slice dA b.disks.length dc)).toList.toArray.size):=Hh hZ.there;have hEF:Ext w (WA.setCells (xb+1+1+1) 0 (blCells { b with b:=Cp.none } (.slice dA b.disks.length dc)).toList):=hE.setCells (by have:=HXB.out;omega) _ _
    have hld:(loadVar 89 ⟨xb+1+1+1,0,none⟩).run prog (WA.setCells (xb+1+1+1) 0 (blCells { b with b:=Cp.none } (.slice dA b.disks.length dc)).toList)=.ok (.agg (blCells { b with b:=Cp.none } (.slice dA b.disks.length dc))) (WA.setCells (xb+1+1+1) 0 (blCells { b with b:=Cp.none } (.slice dA b.disks.length dc)).toList) :=
     run_loadVar_mid (P:=prog) (WA.setCells (xb+1+1+1) 0 (blCells { b with b:=Cp.none } (.slice dA b.disks.length dc)).toList) (xb+1+1+1) 0 89 (blCells { b with b:=Cp.none } (.slice dA b.disks.length dc)).toList _ (World.rangeAt_setCells_same WA (xb+1+1+1) 0 (blCells { b with b:=Cp.none } (.slice dA b.disks.length dc)).toList HTH.out) underlying89 rfl qQe
    have HEF:=Hh hEF;have HLD:=Hh hld;clear hC hQ hY hZ hE hEF hld
    go_wp2_with (first|(refine wpList_load_mid rfl 89 _ rfl (xb+1) 0 rfl _ _ HRG.out underlying89 rfl qQe ?_)|(refine wpList_store_mid rfl 89 _ _ rfl (xb+1+1+1) 0 (blCells { b with b:=Cp.none } (.slice dA b.disks.length dc)).toList.toArray rfl rfl HTH.out qQe (qQO _ _ _ _) ?_))
    refine bodyPost_ret (v:=.tuple #[.agg (blCells { b with b:=Cp.none } (.slice dA b.disks.length dc)),.bool true,.int .i64 0]) (qQl results82 _ rfl HLD.out) rfl ?_;rw[HEQ.out];exact⟨(.slice dA b.disks.length dc),rfl,own_kx (HBO.out) HEF.out,HEF.out⟩
  ·rw[hm]at q8;have HM:=Hh hm;clear hm
   go_upto_region 32 with fail
   go_region
   go_upto_region 37 with fail
   clear q4 q5 q8 q6 q7 q9 q10 f5 f6 f7 f8 f9 f10 y0 y8;have hQa:=hQ.drew;have hZa:=hZ.drew;have hEa:=hE.drew;clear hC hQ hY hZ hE;generalize W.drew=WA at hQa hZa hEa⊢;have hC:=hQa;have hQ:=hQa;have hZ:=hZa;have hE:=hEa;have hY:=hQa;clear hQa hZa hEa;have HEQ:Hid (qQG y.closed b x=(b,true,16)):=Hh (by unfold qQG qZr;rw[if_neg (by rw[HK.out];decide)];rw[if_neg (by rw[HK.out];decide)];rw[if_neg (by rw[HK.out];decide)];rw[if_neg (by rw[HK.out];decide)];rw[if_neg (by rw[HK.out];decide)];rw[if_pos (by unfold qJp;rw[HPO.out];simp[HM.out])]);have HRG:=Hh hQ.range;have HTH:Hid (WA.there (xb+1+1+1) 0 (blCells b (.slice dA b.disks.length dc)).toList.toArray.size):=Hh hZ.there;have hEF:Ext w (WA.setCells (xb+1+1+1) 0 (blCells b (.slice dA b.disks.length dc)).toList):=hE.setCells (by have:=HXB.out;omega) _ _
   have hld:(loadVar 89 ⟨xb+1+1+1,0,none⟩).run prog (WA.setCells (xb+1+1+1) 0 (blCells b (.slice dA b.disks.length dc)).toList)=.ok (.agg (blCells b (.slice dA b.disks.length dc))) (WA.setCells (xb+1+1+1) 0 (blCells b (.slice dA b.disks.length dc)).toList) :=
    run_loadVar_mid (P:=prog) (WA.setCells (xb+1+1+1) 0 (blCells b (.slice dA b.disks.length dc)).toList) (xb+1+1+1) 0 89 (blCells b (.slice dA b.disks.length dc)).toList _ (World.rangeAt_setCells_same WA (xb+1+1+1) 0 (blCells b (.slice dA b.disks.length dc)).toList HTH.out) underlying89 rfl qQe
   have HEF:=Hh hEF;have HLD:=Hh hld;clear hC hQ hY hZ hE hEF hld
   go_wp2_with (first|(refine wpList_load_mid rfl 89 _ rfl (xb+1) 0 rfl _ _ HRG.out underlying89 rfl qQe ?_)|(refine wpList_store_mid rfl 89 _ _ rfl (xb+1+1+1) 0 (blCells b (.slice dA b.disks.length dc)).toList.toArray rfl rfl HTH.out qQe (qQO _ _ _ _) ?_))
   refine bodyPost_ret (v:=.tuple #[.agg (blCells b (.slice dA b.disks.length dc)),.bool true,.int .i64 16]) (qQl results82 _ rfl HLD.out) rfl ?_;rw[HEQ.out];exact⟨(.slice dA b.disks.length dc),rfl,own_kx (HBO.out) HEF.out,HEF.out⟩
end blob
open Go.RowKit Go.Sort
theorem rblob_any(w:World)(X:Array Value)(b:Bl)(dv:Value)(x:Cmd)(dx:Value)(y:Vl)(hb:w.ownsRow 0 3 1 dv b.disks.length (b.disks.map (Value.int .i64)))(hx:w.ownsRow 0 3 1 dx x.disks.length (x.disks.map (Value.int .i64)))
 (hbl:b.disks.length≤17592186043904) (hxl:x.disks.length≤17592186043904) (hpn:0≤b.pins∧b.pins≤2147483648) (v:Nat) (hv:x.vol=(v:Int)) (hv12:v<12) (hXv:X[1+v * 3]? = some (.bool y.closed)) (hpl:x.pool=0∨x.pool=1)
 (hk:x.kind=6∨x.kind=7∨x.kind=8∨x.kind=9∨x.kind=10∨x.kind=14) :
 Calls prog 82 #[.agg X,.agg (blCells b dv),qQd x dx] w (RbOut w (qQG y.closed b x)):=by
 rcases hk with hk|hk|hk|hk|hk|hk
 ·exact rblob_6 w X b dv x dx y hb hx hbl hxl hk hpn
 ·exact rblob_7 w X b dv x dx y hb hx hbl hxl hk
 ·exact rblob_8 w X b dv x dx y hb hx hbl hxl hk v hv hv12 hXv
 ·exact rblob_9 w X b dv x dx y hb hx hbl hxl hk
 ·exact rblob_10 w X b dv x dx y hb hx hbl hxl hk
 ·exact rblob_14 w X b dv x dx y hb hx hbl hxl hk hpl
theorem pset_same{L:List Bl}(h:L.Pairwise fun a b=>a.id<b.id){b:Bl}(hb:b∈L):pset L b=L:=by
 unfold pset
 induction L with
 | nil=>cases hb
 | cons a r ih =>
  obtain⟨h1,h2⟩:=List.pairwise_cons.1 h;rcases List.mem_cons.1 hb with rfl|hb
  ·rw[List.filter_cons,if_neg (by simp),List.filter_cons,if_neg (by simp)];have e1:r.filter (fun c=>decide (c.id<b.id))=[]:=List.filter_eq_nil_iff.2 fun c hc=>by have:=h1 c hc;simp;omega
   have e2:r.filter (fun c=>decide (b.id<c.id))=r:=List.filter_eq_self.2 fun c hc=>by have:=h1 c hc;simpa using this
   rw[e1,e2];rfl
  ·have:=h1 b hb
   rw[List.filter_cons,if_pos (by simpa using this),List.filter_cons,if_neg (by simp;omega),List.cons_append,ih h2 hb]
theorem rfFind_spec(id:Nat):∀(L:List Bl) (k:Nat),(qXA id L k = -1∧∀b∈L,b.id≠id)∨∃i b,L[i]? = some b∧b.id=id∧qXA id L k=((k+i:Nat):Int)
 | [],k=>.inl ⟨rfl,fun b hb=>by cases hb⟩
 | a::r,k=>by
  rw[rfFind_cons]
  by_cases e:a.id=id
  ·rw[if_pos e];exact .inr ⟨0,a,rfl,e,rfl⟩
  ·rw[if_neg e];rcases rfFind_spec id r (k+1)with⟨h1,h2⟩|⟨i,b,h1,h2,h3⟩
   ·refine .inl ⟨h1,fun b hb=>?_⟩;rcases List.mem_cons.1 hb with rfl|hb
    ·exact e
    ·exact h2 b hb
   ·exact .inr ⟨i+1,b,by simpa using h1,h2,by rw[h3];congr 1;omega⟩
theorem rfName_spec(n:ByteArray):∀(L:List Bl) (k:Nat),(qXr n L k = -1∧L.find? (liveB n)=none)∨∃i b,L[i]? = some b∧L.find? (liveB n)=some b∧qXr n L k=((k+i:Nat):Int)
 | [],k=>.inl ⟨rfl,rfl⟩
 | a::r,k=>by
  rw[rfName_cons]
  by_cases e:liveB n a=true
  ·rw[if_pos e];exact .inr ⟨0,a,rfl,by rw[List.find?_cons_of_pos e],rfl⟩
  ·rw[if_neg e];rcases rfName_spec n r (k+1)with⟨h1,h2⟩|⟨i,b,h1,h2,h3⟩
   ·exact .inl ⟨h1,by rw[List.find?_cons_of_neg e];exact h2⟩
   ·exact .inr ⟨i+1,b,by simpa using h1,by rw[List.find?_cons_of_neg e];exact h2,by rw[h3];congr 1;omega⟩
theorem find_at{P:Pm}{id:Nat} : (qXA id P.L 0 = -1∧P.find id=none)∨∃(i:Nat) (b:Bl),P.L[i]? = some b∧b.id=id∧qXA id P.L 0=(i:Int):=by
 rcases rfFind_spec id P.L 0 with⟨h1,h2⟩|⟨i,b,h1,h2,h3⟩
 ·exact .inl ⟨h1,qXF.2 h2⟩
 ·exact .inr ⟨i,b,h1,h2,by rw[h3];congr 1;omega⟩
theorem name_at{P:Pm}{n:ByteArray} : (qXr n P.L 0 = -1∧P.named n=none)∨∃(i:Nat) (b:Bl),P.L[i]? = some b∧P.named n=some b∧qXr n P.L 0=(i:Int):=by
 rcases rfName_spec n P.L 0 with⟨h1,h2⟩|⟨i,b,h1,h2,h3⟩
 ·exact .inl ⟨h1,h2⟩
 ·exact .inr ⟨i,b,h1,h2,by rw[h3];congr 1;omega⟩
structure TwoOut (W:World) (c r:Nat) (X R:Array Value):Prop where
 t1:W.there c 0 X.size
 t2:(W.setCells c 0 X.toList).there r 0 R.size
 l1:(loadVar 35 ⟨c,0,none⟩).run prog ((W.setCells c 0 X.toList).setCells r 0 R.toList)=.ok (.agg X) ((W.setCells c 0 X.toList).setCells r 0 R.toList)
 l2:(loadVar 114 ⟨r,0,none⟩).run prog ((W.setCells c 0 X.toList).setCells r 0 R.toList)=.ok (.agg R) ((W.setCells c 0 X.toList).setCells r 0 R.toList)
 ext:∀w,Ext w W→w.heap.size≤c→w.heap.size≤r→Ext w ((W.setCells c 0 X.toList).setCells r 0 R.toList)
theorem qQz:(prog.info? 114).map (·.size)=some 5:=by kernel_rfl
theorem qZe{W:World}{c r:Nat}{X R ZC ZR:Array Value}(hC:At W c 35 ZC)(hR:At W r 114 ZR)(h1:ZC.size=X.size)(h2:ZR.size=R.size)(hX:X.size=37)(hR5:R.size=5)(hcr:c≠r):TwoOut W c r X R:=by
 have t1:W.there c 0 X.size:=by rw[←h1];exact hC.there
 have t2':W.there r 0 R.size:=by rw[←h2];exact hR.there
 have t2:(W.setCells c 0 X.toList).there r 0 R.size:=World.there_setCells t2' c 0 X.toList;refine⟨t1,t2,?_,?_,fun w hE h3 h4=>(hE.setCells h3 _ _).setCells h4 _ _⟩
 ·have hr:=World.rangeAt_setCells_apart (World.rangeAt_setCells_same W c 0 X.toList (by rw[Array.length_toList];exact t1)) r 0 R.toList (.inl hcr)
  have:=run_loadVar_mid (P:=prog) _ c 0 35 X.toList _ hr underlying35 rfl (by rw[Array.length_toList,hX];exact qQg)
  exact this
 ·have hr:=World.rangeAt_setCells_same (W.setCells c 0 X.toList) r 0 R.toList (by rw[Array.length_toList];exact t2)
  have:=run_loadVar_mid (P:=prog) _ r 0 114 R.toList _ hr underlying114 rfl (by rw[Array.length_toList,hR5];exact qQz)
  exact this
open Go.RowKit Go.Sort
theorem At.cells_same{w:World}{g:Nat}{t:TypeId} : ∀(vs:List Value) (o:Nat) (w:World),(∃Z,At w g t Z)→∃Z,At (w.setCells g o vs) g t Z
 | [],_,_,h=>h
 | v::r,o,w,⟨Z,h⟩=>by
  rw[World.setCells];exact At.cells_same (w:=w) r (o+1) _ ⟨_,h.set o v⟩
theorem At.cells_far{w:World}{g b:Nat}{t:TypeId}(hne:g≠b):∀(vs:List Value) (o:Nat) (w:World),(∃Z,At w g t Z)→∃Z,At (w.setCells b o vs) g t Z
 | [],_,_,h=>h
 | v::r,o,w,⟨Z,h⟩=>by
  rw[World.setCells];exact At.cells_far (w:=w) hne r (o+1) _ ⟨_,h.far (p:=⟨b,o,none⟩) hne v⟩
structure GTwo (W0:World) (c r:Nat) (jc jb js jr:Nat) (CA:Value→World→Prop) (BC BR:Value→Array Value) (γ : Nat→Value) (L:Nat→Bool) (w:World):Prop where
 chg:Chg (fun k=>k=c∨k=r) W0 w
 call:L jc=true→CA (γ 0) w
 bld:L jb=true → γ 1=.agg (BR (γ 0))
 tc:w.there c 0 37
 tr:w.there r 0 5
 ac:∃Z,At w c 35 Z
 ar:∃Z,At w r 114 Z
 rc:L js=true→w.rangeAt c 0 (BC (γ 0)).toList
 rr:L jr=true→w.rangeAt r 0 (BR (γ 0)).toList
section
variable{W0 w w':World}{c r:Nat}{jc jb js jr:Nat}{CA:Value→World→Prop}{BC BR:Value→Array Value}{γ : Nat→Value}{L:Nat→Bool}
theorem GTwo.keep{j:Nat}(h1:jc≠j)(h2:jb≠j)(h3:js≠j)(h4:jr≠j):∀γ L w,GTwo W0 c r jc jb js jr CA BC BR γ L w→L j=false→GTwo W0 c r jc jb js jr CA BC BR γ (fun i=>i == j||L i) w:=by
 intro γ L w h _;have e1:(jc == j)=false:=by simp[h1]
 have e2:(jb == j)=false:=by simp[h2]
 have e3:(js == j)=false:=by simp[h3]
 have e4:(jr == j)=false:=by simp[h4]
 exact⟨h.chg,fun hh=>h.call (by simpa[e1]using hh),fun hh=>h.bld (by simpa[e2]using hh),h.tc,h.tr,h.ac,h.ar,fun hh=>h.rc (by simpa[e3]using hh),fun hh=>h.rr (by simpa[e4]using hh)⟩
theorem there_ext{b n:Nat}(ht:w.there b 0 n)(hE:Ext w w'):w'.there b 0 n:=fun j hj=>by
 obtain⟨h1,h2⟩:=ht j hj;obtain⟨u,hu⟩:=Option.isSome_iff_exists.1 h1;have hlt:=qQv hu;have e:=Ext.block hE hlt;refine⟨by rw[hE.cell (p:=⟨b,0+j,none⟩) hlt];exact h1,?_⟩
 unfold World.frozen? at h2⊢;rw[e];exact h2
theorem range_ext{b:Nat}{cs:List Value}(h:w.rangeAt b 0 cs)(hE:Ext w w'):w'.rangeAt b 0 cs:=fun j v hv=>by
 have:=h j v hv
 rw[hE.cell (p:=⟨b,0+j,none⟩) (qQv this)];exact this
theorem GTwo.called(h:GTwo W0 c r jc jb js jr CA BC BR γ L w){x:Value}(hE:Ext w w')(hb:L jb=true→BR (γ 0)=BR x)(hr:L jr=true→BR (γ 0)=BR x)(hs:L js=true→BC (γ 0)=BC x)(hcb:jc≠jb)(hcs:jc≠js)(hcr:jc≠jr)(hx:CA x w') :
 GTwo W0 c r jc jb js jr CA BC BR (upd γ 0 x) (fun i=>i == jc||L i) w':=by
 have eb:(jb == jc)=false:=by simpa using Ne.symm hcb
 have es:(js == jc)=false:=by simpa using Ne.symm hcs
 have er:(jr == jc)=false:=by simpa using Ne.symm hcr
 have u0:upd γ 0 x 0=x:=by simp[upd]
 refine⟨Chg.trans h.chg hE (fun _ _ e=>e.elim),fun _=>by rw[u0];exact hx,fun hh=>?_,there_ext h.tc hE,there_ext h.tr hE,h.ac.imp fun _ h=>h.ext hE,h.ar.imp fun _ h=>h.ext hE,fun hh=>?_,fun hh=>?_⟩
 ·rw[eb,Bool.false_or]at hh;rw[u0,←hb hh];simpa[upd]using h.bld hh
 ·rw[es,Bool.false_or]at hh;rw[u0,←hs hh];exact range_ext (h.rc hh) hE
 ·rw[er,Bool.false_or]at hh;rw[u0,←hr hh];exact range_ext (h.rr hh) hE
theorem GTwo.built(h:GTwo W0 c r jc jb js jr CA BC BR γ L w)(hbc:jb≠jc)(hbs:jb≠js)(hbr:jb≠jr):GTwo W0 c r jc jb js jr CA BC BR (upd γ 1 (.agg (BR (γ 0)))) (fun i=>i == jb||L i) w:=by
 have ec:(jc == jb)=false:=by simpa using Ne.symm hbc
 have es:(js == jb)=false:=by simpa using Ne.symm hbs
 have er:(jr == jb)=false:=by simpa using Ne.symm hbr
 have u0:upd γ 1 (.agg (BR (γ 0))) 0 = γ 0:=by simp[upd]
 exact⟨h.chg,fun hh=>by rw[u0];exact h.call (by simpa[ec]using hh),fun _=>by rw[u0];simp[upd],h.tc,h.tr,h.ac,h.ar,fun hh=>by rw[u0];exact h.rc (by simpa[es]using hh),fun hh=>by rw[u0];exact h.rr (by simpa[er]using hh)⟩
theorem GTwo.storeC(h:GTwo W0 c r jc jb js jr CA BC BR γ L w)(hcr:c≠r)(hCA:∀v w w',CA v w→(∃Z,At w c 35 Z)→(∃Z,At w r 114 Z)→Chg (fun k=>k=c∨k=r) w w'→CA v w')(hX:(BC (γ 0)).size=37)(hsc:js≠jc)(hsb:js≠jb)(hsr:js≠jr) :
 GTwo W0 c r jc jb js jr CA BC BR γ (fun i=>i == js||L i) (w.setCells c 0 (BC (γ 0)).toList):=by
 have ec:(jc == js)=false:=by simpa using Ne.symm hsc
 have eb:(jb == js)=false:=by simpa using Ne.symm hsb
 have er:(jr == js)=false:=by simpa using Ne.symm hsr
 have hch:Chg (fun k=>k=c∨k=r) w (w.setCells c 0 (BC (γ 0)).toList):=Chg.setCells (Chg.refl _ w) (.inl rfl) _ _;refine⟨h.chg.setCells (.inl rfl) _ _,fun hh=>hCA _ _ _ (h.call (by simpa[ec]using hh)) h.ac h.ar hch,fun hh=>h.bld (by simpa[eb]using hh),World.there_setCells h.tc c 0 _,World.there_setCells h.tr c 0 _,At.cells_same (w:=w) _ _ _ h.ac,At.cells_far (w:=w) (Ne.symm hcr) _ _ _ h.ar,fun _=>?_,fun hh=>?_⟩
 ·exact World.rangeAt_setCells_same w c 0 _ (by rw[Array.length_toList,hX];exact h.tc)
 ·exact World.rangeAt_setCells_apart (h.rr (by simpa[er]using hh)) c 0 _ (.inl (Ne.symm hcr))
theorem GTwo.storeR(h:GTwo W0 c r jc jb js jr CA BC BR γ L w)(hcr:c≠r)(hCA:∀v w w',CA v w→(∃Z,At w c 35 Z)→(∃Z,At w r 114 Z)→Chg (fun k=>k=c∨k=r) w w'→CA v w')(hX:(BR (γ 0)).size=5)(hrc:jr≠jc)(hrb:jr≠jb)(hrs:jr≠js) :
 GTwo W0 c r jc jb js jr CA BC BR γ (fun i=>i == jr||L i) (w.setCells r 0 (BR (γ 0)).toList):=by
 have ec:(jc == jr)=false:=by simpa using Ne.symm hrc
 have eb:(jb == jr)=false:=by simpa using Ne.symm hrb
 have es:(js == jr)=false:=by simpa using Ne.symm hrs
 have hch:Chg (fun k=>k=c∨k=r) w (w.setCells r 0 (BR (γ 0)).toList):=Chg.setCells (Chg.refl _ w) (.inr rfl) _ _;refine⟨h.chg.setCells (.inr rfl) _ _,fun hh=>hCA _ _ _ (h.call (by simpa[ec]using hh)) h.ac h.ar hch,fun hh=>h.bld (by simpa[eb]using hh),World.there_setCells h.tc r 0 _,World.there_setCells h.tr r 0 _,At.cells_far (w:=w) hcr _ _ _ h.ac,At.cells_same (w:=w) _ _ _ h.ar,fun hh=>?_,fun _=>?_⟩
 ·exact World.rangeAt_setCells_apart (h.rc (by simpa[es]using hh)) r 0 _ (.inl hcr)
 ·exact World.rangeAt_setCells_same w r 0 _ (by rw[Array.length_toList,hX];exact h.tr)
end
open Go.RowKit Go.Sort
def qXD(w:World)(R:Pm×Rs)(e:Ending)(w':World):Prop :=
 ∃v nv,e=.returned (.tuple #[v,qXq R.2.err R.2.blob R.2.size R.2.sum nv])∧qQZ w' v R.1∧w'.ownsRow 0 9 1 nv R.2.names.length (R.2.names.map Value.string)∧Ext w w'
def rArr(v:Value):Array Value:=#[.int .i64 0,.int .u64 0,.int .i64 0,.int .u32 0,v]
theorem rArr_one(A:Option Addr)(n c:Nat):(rArr (.slice A n c)).all (·.oneCell')=true:=by simp[rArr,Value.oneCell']
theorem rclient_4(w:World)(v:Value)(P:Pm)(n:Nat)(h:qQZ w v P)(hi:PInv n P)(hn:n≤1000000)(x:Cmd)(dx:Value)(hx:w.ownsRow 0 3 1 dx x.disks.length (x.disks.map (Value.int .i64)))(hk:x.kind=4) :
 Calls prog 80 #[v,qQd x dx] w (qXD w (P,⟨0,0,0,0,qZz P.L⟩)):=by
 obtain⟨lv,DV,rfl,hDV,hR⟩:=h;have hlen:DV.length=P.L.length:=by rw[←hDV,List.length_map]
 obtain⟨A,c,rfl⟩:=qQa hR.own;obtain⟨xA,xc,rfl⟩:=qQa hx;have HRF:Hid (qQZ w (.agg (qQj (.slice A DV.length c) P.vols)) P):=Hh ⟨_,DV,rfl,hDV,hR⟩;have HX:Hid (qQj (.slice A DV.length c) P.vols=(.slice A DV.length c::(P.vols.map qQK).flatten).toArray):=Hh rfl;have h37:=qQt (.slice A DV.length c) hi.vlen;have hone:=qQA A DV.length c P.vols;have HVOL:Hid (∀v y,P.vols[v]? = some y→(qQj (.slice A DV.length c) P.vols)[1+v * 3]? = some (.bool y.closed)∧(qQj (.slice A DV.length c) P.vols)[1+v * 3+1]? = some (.bool y.erase)∧(qQj (.slice A DV.length c) P.vols)[1+v * 3+2]? = some (.int .i64 y.gen)):=Hh (fun v y h=>qXs h);generalize hX:qQj (.slice A DV.length c) P.vols=X at HX HRF HVOL h37 hone⊢;clear hX;have H37:=Hh h37;have HONE:=Hh hone;have HI1:Hid ((prog.info? 35).map (·.size)=some X.toList.length):=Hh (by rw[Array.length_toList,h37];exact qQg);have HI2:Hid ((prog.info? 35).map (·.size)=some X.size):=Hh (by rw[h37];exact qQg);have hX0:X[0]? = some (.slice A DV.length c):=by rw[HX.out];rfl
 have HX0:=Hh hX0;have HDV:=Hh hDV;have HR:=Hh hR;have HI:=Hh hi;have HXO:=Hh hx;have HK:=Hh hk;clear hDV hlen hR hi hx hk hX0 h37 hone;unfold qQd
 go_enter func80,ntmps80
 have hB:=(((At.new w 35 X).alloc (.cells (zZX x xA xc) 117)).alloc (.cells zZC 35)).alloc (.cells zZR 114);have hY:=((At.new (w.alloc (.cells X 35)) 117 (zZX x xA xc)).alloc (.cells zZC 35)).alloc (.cells zZR 114);have hC:=(At.new ((w.alloc (.cells X 35)).alloc (.cells (zZX x xA xc) 117)) 35 zZC).alloc (.cells zZR 114);have hS:=At.new (((w.alloc (.cells X 35)).alloc (.cells (zZX x xA xc) 117)).alloc (.cells zZC 35)) 114 zZR;have hE:=((((Er w).alloc (.cells X 35)).alloc (.cells (zZX x xA xc) 117)).alloc (.cells zZC 35)).alloc (.cells zZR 114);rw[show(w.alloc (.cells X 35)).heap.size=w.heap.size+1 by simp]at hY;rw[show((w.alloc (.cells X 35)).alloc (.cells (zZX x xA xc) 117)).heap.size=w.heap.size+1+1 by simp]at hC;rw[show(((w.alloc (.cells X 35)).alloc (.cells (zZX x xA xc) 117)).alloc (.cells zZC 35)).heap.size=w.heap.size+1+1+1 by simp]at hS
 go_upto_region 1 with fail
 obtain⟨xb,hxb⟩:∃xb,w.heap.size=xb:=⟨_,rfl⟩;rw[hxb]at hB hY hC hS⊢;generalize World.alloc _ _=W at hB hY hC hS hE⊢;have HXB:=Hh (show w.heap.size≤xb by omega);clear hxb;have HZ:Hid (zZC.size=37):=Hh rfl;generalize zZC=ZC at hC HZ;have lS:=hS.lt;have lC:=hC.lt;have lY:=hY.lt;have lB:=hB.lt;have y0:=hY.cell 0;simp at y0;rw[HK.out]at y0
 go_upto_region 2 with fail
 have hCA:∀v w1 w2,(W.heap.size≤w1.heap.size∧w1.ownsRow W.heap.size 9 1 v (qZz P.L).length ((qZz P.L).map Value.string))→(∃Z,At w1 (xb+1+1) 35 Z)→(∃Z,At w1 (xb+1+1+1) 114 Z)→Chg (fun k=>k=xb+1+1∨k=xb+1+1+1) w1 w2→(W.heap.size≤w2.heap.size∧w2.ownsRow W.heap.size 9 1 v (qZz P.L).length ((qZz P.L).map Value.string)):=fun v w1 w2 h1 _ _ hc=>by
  refine⟨Nat.le_trans h1.1 hc.size,qQb h1.2 hc fun k hk e=>?_⟩
  rcases h1.2.2 with⟨e1,_⟩|⟨g,cap,cur,e1,hb1,_⟩
  ·rw[e1]at hk;cases hk
  ·rw[e1]at hk;have e2:k=g:=by injection hk
   rcases e with e|e <;> omega
 have hrg:∀w1,Chg (fun k=>k=xb+1+1∨k=xb+1+1+1) W w1→w1.rangeAt xb 0 X.toList:=fun w1 hc=>(hB.chg hc (fun e=>by rcases e with e|e <;> omega)).range
 have hEw:∀w1,Chg (fun k=>k=xb+1+1∨k=xb+1+1+1) W w1→Ext w w1:=fun w1 hc=>Chg.mono (hE.chg_trans hc) (fun k hk e=>by have:=HXB.out;rcases e with e|e <;> omega)
 refine qQx (Γ := Nat→Value) (sgφ [.val (.agg X),.val (.agg X),.g 0,.g 1,.any,.any])
  (GTwo W (xb+1+1) (xb+1+1+1) 2 3 4 5 (fun v w1=>W.heap.size≤w1.heap.size∧w1.ownsRow W.heap.size 9 1 v (qZz P.L).length ((qZz P.L).map Value.string)) (fun _=>X) rArr) (by kernel_rfl) (by kernel_rfl) (by kernel_rfl) (fun _=>undef) ?inv ?steps ?fin
 case inv =>
  exact⟨(Er W).drew.chg,fun hh=>(by cases hh),fun hh=>(by cases hh),(World.there_drew W _ 0 37).2 (by have h:=hC.there;rw[HZ.out]at h;exact h),(World.there_drew W _ 0 5).2 hS.there,⟨_,hC.drew⟩,⟨_,hS.drew⟩,fun hh=>(by cases hh),fun hh=>(by cases hh)⟩
 case steps =>
  show qQ2 _ _ _ _ _ _ 6
  refine⟨⟨⟨⟨⟨⟨trivial,?s0⟩,?s1⟩,?s2⟩,?s3⟩,?s4⟩,?s5⟩
  case s0 =>
   refine qQh (x:=.agg X) rfl rfl rfl (GTwo.keep (j:=0) (by decide) (by decide) (by decide) (by decide)) fun γ L v a w1 st=>?_
   have e2:=st.far 2 (by kernel_rfl);simp at e2;exact qQi rfl (b:=xb) (off:=0) (by simp[Act.eval,e2]) (hrg w1 st.inv.chg) underlying35 rfl HI1.out
  case s1 =>
   refine qQh (x:=.agg X) rfl rfl rfl (GTwo.keep (j:=1) (by decide) (by decide) (by decide) (by decide)) fun γ L v a w1 st=>?_
   have e2:=st.far 2 (by kernel_rfl);simp at e2;exact qQi rfl (b:=xb) (off:=0) (by simp[Act.eval,e2]) (hrg w1 st.inv.chg) underlying35 rfl HI1.out
  case s2 =>
   refine qZW (k:=0) (f:=108) rfl rfl rfl (by kernel_rfl) fun γ L v a w1 st=>?_
   have e14:=st.val 1 14 rfl (by kernel_rfl);rw[(st.φ 1 (by kernel_rfl):v 1=_)]at e14;simp at e14
   have h3:L 3=false:=by
    cases hq:L 3 with
    | false=>rfl
    | true =>
     have q2:=st.down 3 2 hq (by kernel_rfl);have q99:=st.off;rw[q2]at q99;cases q99
   have h5:L 5=false:=by
    cases hq:L 5 with
    | false=>rfl
    | true =>
     have q2:=st.down 5 3 hq (by kernel_rfl);rw[h3]at q2;cases q2
   refine⟨#[.agg X],by go_simp,?_⟩
   have hsz:=st.inv.chg.size;refine(rnames_any w1 (.agg X) P (HRF.out.ext (hEw w1 st.inv.chg)) (by have:=HI.out.len;omega)).mono ?_
   rintro e w2 ⟨nv,rfl,hO,hE2⟩;exact⟨nv,rfl,GTwo.called st.inv hE2 (fun hh=>by rw[h3]at hh;cases hh) (fun hh=>by rw[h5]at hh;cases hh) (fun _=>rfl) (by decide) (by decide) (by decide) ⟨Nat.le_trans hsz hE2.size,own_lowR hO hsz⟩⟩
  case s3 =>
   refine qZq (k:=1) rfl rfl rfl (by kernel_rfl) fun γ L v a w1 st=>?_
   have e15:=st.val 2 15 rfl (by kernel_rfl);rw[(st.φ 2 (by kernel_rfl):v 2=_)]at e15;simp at e15;obtain⟨gA,gc,hγ⟩:=qQa (st.inv.call (st.dep 2 (by kernel_rfl))).2;refine⟨.agg (rArr (γ 0)),w1,by rw[hγ]at e15⊢;unfold rArr;go_simp;try exact⟨rfl,rfl,rfl,rfl,rfl⟩,GTwo.built st.inv (by decide) (by decide) (by decide)⟩
  case s4 =>
   refine qQ7 rfl rfl rfl fun γ L v a w1 st=>?_
   have e4:=st.far 4 (by kernel_rfl);simp at e4;have e13:=st.val 0 13 rfl (by kernel_rfl);rw[(st.φ 0 (by kernel_rfl):v 0=_)]at e13;simp at e13;refine⟨_,qQr rfl (b:=xb+1+1) (off:=0) (cells:=X) (by simp[Act.eval,e4]) (by simp[Act.eval,e13]) (by rw[H37.out];exact st.inv.tc) HI2.out HONE.out,?_⟩
   exact GTwo.storeC st.inv (by omega) hCA H37.out (by decide) (by decide) (by decide)
  case s5 =>
   refine qQ7 rfl rfl rfl fun γ L v a w1 st=>?_
   have e5:=st.far 5 (by kernel_rfl);simp at e5;have hb:=st.inv.bld (st.dep 3 (by kernel_rfl));have e16:=st.val 3 16 rfl (by kernel_rfl);rw[(st.φ 3 (by kernel_rfl):v 3=_),hb]at e16;simp at e16;have hdep:L 2=true:=st.down 3 2 (st.dep 3 (by kernel_rfl)) (by kernel_rfl);obtain⟨gA,gc,hγ⟩:=qQa (st.inv.call hdep).2;refine⟨_,qQr rfl (b:=xb+1+1+1) (off:=0) (cells:=rArr (γ 0)) (by simp[Act.eval,e5]) (by simp[Act.eval,e16]) st.inv.tr qQz (by rw[hγ];exact rArr_one _ _ _),?_⟩
   exact GTwo.storeR st.inv (by omega) hCA rfl (by decide) (by decide) (by decide)
 case fin =>
  intro γ L v wx hall hG hφ;have hc:=hG.call (hall 2 (by decide));have hrc:=hG.rc (hall 4 (by decide));have hrr:=hG.rr (hall 5 (by decide));have hEx:=hEw wx hG.chg;have l1:(loadVar 35 ⟨xb+1+1,0,none⟩).run prog wx=.ok (.agg X) wx:=run_loadVar_mid (P:=prog) wx (xb+1+1) 0 35 X.toList _ hrc underlying35 rfl HI1.out;have l2:(loadVar 114 ⟨xb+1+1+1,0,none⟩).run prog wx=.ok (.agg (rArr (γ 0))) wx:=run_loadVar_mid (P:=prog) wx (xb+1+1+1) 0 114 (rArr (γ 0)).toList _ hrr underlying114 rfl qQz;have HF:Hid (qXD w (P,⟨0,0,0,0,qZz P.L⟩) (.returned (.tuple #[.agg X,.agg (rArr (γ 0))])) wx):=Hh ⟨.agg X, γ 0,rfl,HRF.out.ext hEx,qQ8 hc.2,hEx⟩;have HL:=Hh (And.intro l1 l2);clear hc hrc hrr hEx l1 l2 hφ hall hCA hrg hEw;generalize rArr (γ 0)=RA at HF HL
  change Exit.then _ _ _ (qQM _ v _ 6) wx
  simp only[qQM,qQH,Act.put];simp only[List.getElem?_toArray,List.getElem?_cons_zero,List.getElem?_cons_succ,Option.bind_some,List.setIfInBounds_toArray,List.set_cons_zero,List.set_cons_succ];go_wp2_with fail
  refine bodyPost_ret (v:=.tuple #[.agg X,.agg RA]) (qQs results80 _ rfl rfl HL.out.1 HL.out.2) rfl ?_;exact HF.out
end Go.Proofs.YtiojjokfeknhcaaGreat
