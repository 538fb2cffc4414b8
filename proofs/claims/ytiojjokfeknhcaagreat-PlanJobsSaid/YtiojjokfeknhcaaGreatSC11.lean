/-
  Part 11 of what the law leans on.
-/
import Derived.Test.YtiojjokfeknhcaaGreatSC6
import Derived.Test.YtiojjokfeknhcaaGreatSC10
namespace Go.Proofs.YtiojjokfeknhcaaGreat
set_option maxRecDepth 100000
set_option maxHeartbeats 8000000
set_option linter.unusedVariables false
set_option linter.unusedSimpArgs false
set_option linter.unusedSectionVars false
open _root_.Go.Proofs.Tryz
open Go.RowKit
theorem rclient_any(w:World)(v:Value)(P:Pm)(n:Nat)(h:qQZ w v P)(hi:PInv n P)(hn:n≤1000000)(x:Cmd)(dx:Value)(hx:w.ownsRow 0 3 1 dx x.disks.length (x.disks.map (Value.int .i64)))(hk:1≤x.kind)(hk6:x.kind<6)(hg:x.good=true)(hd:x.disks.length≤17592186043904) :
 Calls prog 80 #[v,qQd x dx] w (qXD w (P.app x)):=by
 have g:¬ x.good=false:=by rw[hg];decide
 unfold Pm.app;rw[if_neg g]
 by_cases h1:x.kind=1
 ·rw[if_pos h1];exact rclient_1 w v P n h hi hn x dx hx h1 hd
 ·rw[if_neg h1]
  by_cases h4:x.kind=4
  ·rw[if_pos h4];exact rclient_4 w v P n h hi hn x dx hx h4
  ·rw[if_neg h4,if_pos hk6]
   by_cases h2:x.kind=2
   ·exact rclient_2 w v P n h hi hn x dx hx h2
   ·by_cases h3:x.kind=3
    ·exact rclient_3 w v P n h hi hn x dx hx h3
    ·exact rclient_5 w v P n h hi hn x dx hx (by omega)
open Go.RowKit Go.Sort
theorem qZO:(prog.info? 117).map (·.size)=some 11:=by kernel_rfl
theorem rapply_bad(w:World)(v:Value)(P:Pm)(n:Nat)(h:qQZ w v P)(hi:PInv n P)(hn:n≤1000000)(x:Cmd)(dx:Value)(hx:w.ownsRow 0 3 1 dx x.disks.length (x.disks.map (Value.int .i64)))(hd:x.disks.length≤17592186043904)(hnm:x.name.size≤9223372036854775807)(hw:x.Wf)(hk:x.good=false) :
 Calls prog 49 #[v,qQd x dx] w (qXD w (P.app x)):=by
 obtain⟨lv,DV,rfl,hDV,hR⟩:=h;have hlen:DV.length=P.L.length:=by rw[←hDV,List.length_map]
 obtain⟨A,c,rfl⟩:=qQa hR.own;obtain⟨xA,xc,rfl⟩:=qQa hx;have HRF:Hid (qQZ w (.agg (qQj (.slice A DV.length c) P.vols)) P):=Hh ⟨_,DV,rfl,hDV,hR⟩;have HX:Hid (qQj (.slice A DV.length c) P.vols=(.slice A DV.length c::(P.vols.map qQK).flatten).toArray):=Hh rfl;have h37:=qQt (.slice A DV.length c) hi.vlen;have hone:=qQA A DV.length c P.vols;have HVOL:Hid (∀v y,P.vols[v]? = some y→(qQj (.slice A DV.length c) P.vols)[1+v * 3]? = some (.bool y.closed)∧(qQj (.slice A DV.length c) P.vols)[1+v * 3+1]? = some (.bool y.erase)∧(qQj (.slice A DV.length c) P.vols)[1+v * 3+2]? = some (.int .i64 y.gen)):=Hh (fun v y h=>qXs h);generalize hX:qQj (.slice A DV.length c) P.vols=X at HX HRF HVOL h37 hone⊢;clear hX;have H37:=Hh h37;have HONE:=Hh hone;have HI1:Hid ((prog.info? 35).map (·.size)=some X.toList.length):=Hh (by rw[Array.length_toList,h37];exact qQg);have HI2:Hid ((prog.info? 35).map (·.size)=some X.size):=Hh (by rw[h37];exact qQg);have hX0:X[0]? = some (.slice A DV.length c):=by rw[HX.out];rfl
 have HX0:=Hh hX0;have HDV:=Hh hDV;have HR:=Hh hR;have HI:=Hh hi;have HXO:=Hh hx;have HK:=Hh hk;clear hDV hlen hR hi hx hk hX0 h37 hone;unfold qQd
 go_enter func49,ntmps49
 have hB:=(((At.new w 35 X).alloc (.cells (zZX x xA xc) 117)).alloc (.cells zZC 35)).alloc (.cells zZR 114);have hY:=((At.new (w.alloc (.cells X 35)) 117 (zZX x xA xc)).alloc (.cells zZC 35)).alloc (.cells zZR 114);have hC:=(At.new ((w.alloc (.cells X 35)).alloc (.cells (zZX x xA xc) 117)) 35 zZC).alloc (.cells zZR 114);have hS:=At.new (((w.alloc (.cells X 35)).alloc (.cells (zZX x xA xc) 117)).alloc (.cells zZC 35)) 114 zZR;have hE:=((((Er w).alloc (.cells X 35)).alloc (.cells (zZX x xA xc) 117)).alloc (.cells zZC 35)).alloc (.cells zZR 114);rw[show(w.alloc (.cells X 35)).heap.size=w.heap.size+1 by simp]at hY;rw[show((w.alloc (.cells X 35)).alloc (.cells (zZX x xA xc) 117)).heap.size=w.heap.size+1+1 by simp]at hC;rw[show(((w.alloc (.cells X 35)).alloc (.cells (zZX x xA xc) 117)).alloc (.cells zZC 35)).heap.size=w.heap.size+1+1+1 by simp]at hS
 go_upto_region 1 with fail
 obtain⟨xb,hxb⟩:∃xb,w.heap.size=xb:=⟨_,rfl⟩;rw[hxb]at hB hY hC hS⊢;generalize World.alloc _ _=W at hB hY hC hS hE⊢;have HXB:=Hh (show w.heap.size≤xb by omega);clear hxb;have HZ:Hid (zZC.size=37):=Hh rfl;generalize zZC=ZC at hC HZ;have lS:=hS.lt;have lC:=hC.lt;have lY:=hY.lt;have lB:=hB.lt;have y0:=hY.cell 0;simp at y0;have HGD:=HK;clear y0;have HG:=Hh (qXf W x (.slice xA x.disks.length xc) (qJt (own_kx HXO.out hE)) hd hnm);rw[HGD.out]at HG;have HRY:=Hh hY.range
 go_wp2_with (refine wpList_load_mid rfl 117 _ rfl (xb+1) 0 rfl _ _ HRY.out underlying117 rfl qZO ?_)
 refine HG.out.mono ?_;rintro e w1 ⟨rfl,hE1⟩;have hB:=hB.ext hE1;have hY:=hY.ext hE1;have hC:=hC.ext hE1;have hS:=hS.ext hE1;have hE:=hE.trans hE1;have lS:=hS.lt;have lC:=hC.lt;have lY:=hY.lt;have lB:=hB.lt;clear HG HRY;have hTO:=qZe (X:=X) (R:=#[.int .i64 3,.int .u64 0,.int .i64 0,.int .u32 0,.slice none 0 0]) hC hS (by rw[HZ.out,H37.out]) rfl H37.out rfl (by omega);have HTO:=Hh hTO;have HRG:=Hh hB.range;have HEF:=Hh (hTO.ext w hE (by have:=HXB.out;omega) (by have:=HXB.out;omega));clear hB hY hC hS hE hTO
 go_wp2_with (first|(refine wpList_load_mid rfl 35 _ rfl xb 0 rfl _ _ HRG.out underlying35 rfl HI1.out ?_)|(refine wpList_store_mid rfl 35 _ _ rfl (xb+1+1) 0 X rfl rfl HTO.out.t1 HI2.out HONE.out ?_)|(refine wpList_store_mid rfl 114 _ _ rfl (xb+1+1+1) 0 #[.int .i64 3,.int .u64 0,.int .i64 0,.int .u32 0,.slice none 0 0] rfl rfl HTO.out.t2 qQz (by simp[Value.oneCell']) ?_))
 refine bodyPost_ret (v:=.tuple #[.agg X,.agg #[.int .i64 3,.int .u64 0,.int .i64 0,.int .u32 0,.slice none 0 0]]) (qQs results49 _ rfl rfl HTO.out.l1 HTO.out.l2) rfl ?_;rw[show P.app x=(P,Rs.er 3)from by unfold Pm.app;rw[if_pos HK.out]];exact⟨.agg X,.slice none 0 0,rfl,HRF.out.ext HEF.out,qQR _ _ _,HEF.out⟩
theorem rapply_client(w:World)(v:Value)(P:Pm)(n:Nat)(h:qQZ w v P)(hi:PInv n P)(hn:n≤1000000)(x:Cmd)(dx:Value)(hx:w.ownsRow 0 3 1 dx x.disks.length (x.disks.map (Value.int .i64)))(hd:x.disks.length≤17592186043904)(hnm:x.name.size≤9223372036854775807)(hw:x.Wf)(hk:x.good=true∧1≤x.kind∧x.kind<6) :
 Calls prog 49 #[v,qQd x dx] w (qXD w (P.app x)):=by
 obtain⟨lv,DV,rfl,hDV,hR⟩:=h;have hlen:DV.length=P.L.length:=by rw[←hDV,List.length_map]
 obtain⟨A,c,rfl⟩:=qQa hR.own;obtain⟨xA,xc,rfl⟩:=qQa hx;have HRF:Hid (qQZ w (.agg (qQj (.slice A DV.length c) P.vols)) P):=Hh ⟨_,DV,rfl,hDV,hR⟩;have HX:Hid (qQj (.slice A DV.length c) P.vols=(.slice A DV.length c::(P.vols.map qQK).flatten).toArray):=Hh rfl;have h37:=qQt (.slice A DV.length c) hi.vlen;have hone:=qQA A DV.length c P.vols;have HVOL:Hid (∀v y,P.vols[v]? = some y→(qQj (.slice A DV.length c) P.vols)[1+v * 3]? = some (.bool y.closed)∧(qQj (.slice A DV.length c) P.vols)[1+v * 3+1]? = some (.bool y.erase)∧(qQj (.slice A DV.length c) P.vols)[1+v * 3+2]? = some (.int .i64 y.gen)):=Hh (fun v y h=>qXs h);generalize hX:qQj (.slice A DV.length c) P.vols=X at HX HRF HVOL h37 hone⊢;clear hX;have H37:=Hh h37;have HONE:=Hh hone;have HI1:Hid ((prog.info? 35).map (·.size)=some X.toList.length):=Hh (by rw[Array.length_toList,h37];exact qQg);have HI2:Hid ((prog.info? 35).map (·.size)=some X.size):=Hh (by rw[h37];exact qQg);have hX0:X[0]? = some (.slice A DV.length c):=by rw[HX.out];rfl
 have HX0:=Hh hX0;have HDV:=Hh hDV;have HR:=Hh hR;have HI:=Hh hi;have HXO:=Hh hx;have HK:=Hh hk;clear hDV hlen hR hi hx hk hX0 h37 hone;unfold qQd
 go_enter func49,ntmps49
 have hB:=(((At.new w 35 X).alloc (.cells (zZX x xA xc) 117)).alloc (.cells zZC 35)).alloc (.cells zZR 114);have hY:=((At.new (w.alloc (.cells X 35)) 117 (zZX x xA xc)).alloc (.cells zZC 35)).alloc (.cells zZR 114);have hC:=(At.new ((w.alloc (.cells X 35)).alloc (.cells (zZX x xA xc) 117)) 35 zZC).alloc (.cells zZR 114);have hS:=At.new (((w.alloc (.cells X 35)).alloc (.cells (zZX x xA xc) 117)).alloc (.cells zZC 35)) 114 zZR;have hE:=((((Er w).alloc (.cells X 35)).alloc (.cells (zZX x xA xc) 117)).alloc (.cells zZC 35)).alloc (.cells zZR 114);rw[show(w.alloc (.cells X 35)).heap.size=w.heap.size+1 by simp]at hY;rw[show((w.alloc (.cells X 35)).alloc (.cells (zZX x xA xc) 117)).heap.size=w.heap.size+1+1 by simp]at hC;rw[show(((w.alloc (.cells X 35)).alloc (.cells (zZX x xA xc) 117)).alloc (.cells zZC 35)).heap.size=w.heap.size+1+1+1 by simp]at hS
 go_upto_region 1 with fail
 obtain⟨xb,hxb⟩:∃xb,w.heap.size=xb:=⟨_,rfl⟩;rw[hxb]at hB hY hC hS⊢;generalize World.alloc _ _=W at hB hY hC hS hE⊢;have HXB:=Hh (show w.heap.size≤xb by omega);clear hxb;have HZ:Hid (zZC.size=37):=Hh rfl;generalize zZC=ZC at hC HZ;have lS:=hS.lt;have lC:=hC.lt;have lY:=hY.lt;have lB:=hB.lt;have y0:=hY.cell 0;simp at y0;have HGD:Hid (x.good=true):=Hh HK.out.1;clear y0;have HG:=Hh (qXf W x (.slice xA x.disks.length xc) (qJt (own_kx HXO.out hE)) hd hnm);rw[HGD.out]at HG;have HRY:=Hh hY.range
 go_wp2_with (refine wpList_load_mid rfl 117 _ rfl (xb+1) 0 rfl _ _ HRY.out underlying117 rfl qZO ?_)
 refine HG.out.mono ?_;rintro e w1 ⟨rfl,hE1⟩;have hB:=hB.ext hE1;have hY:=hY.ext hE1;have hC:=hC.ext hE1;have hS:=hS.ext hE1;have hE:=hE.trans hE1;have lS:=hS.lt;have lC:=hC.lt;have lY:=hY.lt;have lB:=hB.lt;clear HG HRY;have y0:=hY.cell 0;simp at y0;have hlt:decide (x.kind<6)=true:=decide_eq_true HK.out.2.2
 go_upto_region 4 with fail
 have HC:=Hh (rclient_any w1 (.agg X) P n (HRF.out.ext hE) HI.out hn x (.slice xA x.disks.length xc) (own_kx HXO.out hE) HK.out.2.1 HK.out.2.2 HK.out.1 hd);clear y0 hlt;have HRY:=Hh hY.range;have HRX:=Hh hB.range
 go_wp2_with (first|(refine wpList_load_mid rfl 35 _ rfl xb 0 rfl _ _ HRX.out underlying35 rfl HI1.out ?_)|(refine wpList_load_mid rfl 117 _ rfl (xb+1) 0 rfl _ _ HRY.out underlying117 rfl qZO ?_))
 refine HC.out.mono ?_;rintro e w2 ⟨v',nv,rfl,hrf,hno,hE2⟩;have hB:=hB.ext hE2;have hY:=hY.ext hE2;have hC:=hC.ext hE2;have hS:=hS.ext hE2;have hE:=hE.trans hE2;have lS:=hS.lt;have lC:=hC.lt;have lY:=hY.lt;have lB:=hB.lt;clear HC HRY HRX;obtain⟨lv2,DV2,rfl,hd2,hr2⟩:=hrf;obtain⟨A2,c2,rfl⟩:=qQa hr2.own;obtain⟨nA,nc,rfl⟩:=qQa hno;have hVL:(P.app x).1.vols.length=12:=(HI.out.app hw).vlen;have h37':=qQt (.slice A2 DV2.length c2) hVL;have hone':=qQA A2 DV2.length c2 (P.app x).1.vols;have hrf:qQZ w2 (.agg (qQj (.slice A2 DV2.length c2) (P.app x).1.vols)) (P.app x).1:=⟨_,DV2,rfl,hd2,hr2⟩;clear hd2 hr2 hVL;unfold qXq;generalize qQj (.slice A2 DV2.length c2) (P.app x).1.vols=X2 at h37' hone' hrf⊢;have hrr:(#[.int .i64 (P.app x).2.err,.int .u64 ((P.app x).2.blob:Int),.int .i64 (P.app x).2.size,.int .u32 ((P.app x).2.sum:Int),.slice nA (P.app x).2.names.length nc]:Array Value).all (·.oneCell')=true:=by simp[Value.oneCell']
 have hr5:(#[.int .i64 (P.app x).2.err,.int .u64 ((P.app x).2.blob:Int),.int .i64 (P.app x).2.size,.int .u32 ((P.app x).2.sum:Int),.slice nA (P.app x).2.names.length nc]:Array Value).size=5:=rfl;generalize hYR:(#[.int .i64 (P.app x).2.err,.int .u64 ((P.app x).2.blob:Int),.int .i64 (P.app x).2.size,.int .u32 ((P.app x).2.sum:Int),.slice nA (P.app x).2.names.length nc]:Array Value)=YR at hrr hr5⊢;have hTO:=qZe (X:=X2) (R:=YR) hC hS (by rw[HZ.out,h37']) (by rw[hr5];rfl) h37' hr5 (by omega);have HTO:=Hh hTO;have hroC:Chg (fun k=>k=xb+1+1∨k=xb+1+1+1) w2 ((w2.setCells (xb+1+1) 0 X2.toList).setCells (xb+1+1+1) 0 YR.toList):=Chg.setCells (Chg.setCells (Er w2).chg (.inl rfl) _ _) (.inr rfl) _ _;have HRO:=Hh (qQZ.two hrf ⟨_,hC⟩ ⟨_,hS⟩ hroC);have HNO:=Hh (qQb hno hroC fun k hk e=>e.elim (qQf hno hC (by decide) k hk) (qQf hno hS (by decide) k hk));have HEF:=Hh (hTO.ext w hE (by have:=HXB.out;omega) (by have:=HXB.out;omega));have HYR:=Hh hYR;clear hB hY hC hS hE hTO hrf hroC hno hYR
 go_wp2_with (first|(refine wpList_store_mid rfl 35 _ _ rfl (xb+1+1) 0 X2 rfl rfl HTO.out.t1 (by rw[h37'];exact qQg) hone' ?_)|(refine wpList_store_mid rfl 114 _ _ rfl (xb+1+1+1) 0 YR rfl rfl HTO.out.t2 (by rw[hr5];exact qQz) hrr ?_))
 refine bodyPost_ret (v:=.tuple #[.agg X2,.agg YR]) (qQs results49 _ rfl rfl HTO.out.l1 HTO.out.l2) rfl ?_;exact⟨.agg X2,.slice nA (P.app x).2.names.length nc,by rw[←HYR.out];rfl,HRO.out,HNO.out,HEF.out⟩
open Go.RowKit Go.Sort
def qJk:Value→Array Value
 | .tuple vs=>match (vs[0]? : Option Value)with
  | some (Value.agg a)=>a
  | _=>#[]
 | _=>#[]
structure GBl (W0:World) (r:Bl×Bool×Int) (jc jm jx ja js:Nat) (γ : Nat→Value) (L:Nat→Bool) (w:World):Prop where
 ext:Ext W0 w
 call:L jc=true→∃A c, γ 0=.tuple #[.agg (blCells r.1 (.slice A r.1.disks.length c)),.bool r.2.1,.int .i64 r.2.2]∧w.ownsRow 0 3 1 (.slice A r.1.disks.length c) r.1.disks.length (r.1.disks.map (Value.int .i64))
 mv:L jm=true → γ 3 = γ 0
 ex:L jx=true → γ 2=.agg (qJk (γ 0))
 new:L ja=true→∃g, γ 1=.pointer (some ⟨g,0,none⟩)∧W0.heap.size≤g∧(∃Z:Array Value,At w g 89 Z∧Z.size=13)∧(L js=true→w.rangeAt g 0 (qJk (γ 0)).toList)
section
variable{W0 w w':World}{r:Bl×Bool×Int}{jc jm jx ja js:Nat}{γ : Nat→Value}{L:Nat→Bool}
theorem GBl.keep{j:Nat}(h1:jc≠j)(h0:jm≠j)(h2:jx≠j)(h3:ja≠j)(h4:js≠j):∀γ L w,GBl W0 r jc jm jx ja js γ L w→L j=false→GBl W0 r jc jm jx ja js γ (fun i=>i == j||L i) w:=by
 intro γ L w h _;have e1:(jc == j)=false:=by simp[h1]
 have e0:(jm == j)=false:=by simp[h0]
 have e2:(jx == j)=false:=by simp[h2]
 have e3:(ja == j)=false:=by simp[h3]
 have e4:(js == j)=false:=by simp[h4]
 refine⟨h.ext,fun hh=>h.call (by simpa[e1]using hh),fun hh=>h.mv (by simpa[e0]using hh),fun hh=>h.ex (by simpa[e2]using hh),fun hh=>?_⟩
 obtain⟨g,a1,a2,a3,a4⟩:=h.new (by simpa[e3]using hh);exact⟨g,a1,a2,a3,fun hh=>a4 (by simpa[e4]using hh)⟩
theorem GBl.called(h:GBl W0 r jc jm jx ja js γ L w){A:Option Addr}{c:Nat}(hE:Ext w w')(hm:L jm=false)(hx:L jx=false)(hs:L js=false)(h0:jm≠jc)(h1:jx≠jc)(h2:js≠jc)(h3:ja≠jc)
 (hO:w'.ownsRow 0 3 1 (.slice A r.1.disks.length c) r.1.disks.length (r.1.disks.map (Value.int .i64))) :
 GBl W0 r jc jm jx ja js (upd γ 0 (.tuple #[.agg (blCells r.1 (.slice A r.1.disks.length c)),.bool r.2.1,.int .i64 r.2.2])) (fun i=>i == jc||L i) w':=by
 have e0:(jm == jc)=false:=by simp[h0]
 have e1:(jx == jc)=false:=by simp[h1]
 have e2:(js == jc)=false:=by simp[h2]
 have e3:(ja == jc)=false:=by simp[h3]
 refine⟨h.ext.trans hE,fun _=>⟨A,c,by simp[upd],hO⟩,fun hh=>?_,fun hh=>?_,fun hh=>?_⟩
 ·rw[e0,Bool.false_or,hm]at hh;cases hh
 ·rw[e1,Bool.false_or,hx]at hh;cases hh
 ·rw[e3,Bool.false_or]at hh;obtain⟨g,a1,a2,⟨Z,a3,a5⟩,_⟩:=h.new hh;refine⟨g,by simpa[upd]using a1,a2,⟨Z,a3.ext hE,a5⟩,fun hh=>?_⟩
  rw[e2,Bool.false_or,hs]at hh;cases hh
theorem GBl.moved(h:GBl W0 r jc jm jx ja js γ L w)(h1:jc≠jm)(h0:jx≠jm)(h2:js≠jm)(h3:ja≠jm):GBl W0 r jc jm jx ja js (upd γ 3 (γ 0)) (fun i=>i == jm||L i) w:=by
 have e1:(jc == jm)=false:=by simp[h1]
 have e0:(jx == jm)=false:=by simp[h0]
 have e2:(js == jm)=false:=by simp[h2]
 have e3:(ja == jm)=false:=by simp[h3]
 have u0:upd γ 3 (γ 0) 0 = γ 0:=by simp[upd]
 have u1:upd γ 3 (γ 0) 1 = γ 1:=by simp[upd]
 have u2:upd γ 3 (γ 0) 2 = γ 2:=by simp[upd]
 refine⟨h.ext,fun hh=>by rw[u0];exact h.call (by simpa[e1]using hh),fun _=>by rw[u0];simp[upd],fun hh=>by rw[u0,u2];exact h.ex (by simpa[e0]using hh),fun hh=>?_⟩
 rw[u0,u1];obtain⟨g,a1,a2,a3,a4⟩:=h.new (by simpa[e3]using hh);exact⟨g,a1,a2,a3,fun hh=>a4 (by simpa[e2]using hh)⟩
theorem GBl.got(h:GBl W0 r jc jm jx ja js γ L w)(h1:jc≠jx)(h0:jm≠jx)(h2:js≠jx)(h3:ja≠jx):GBl W0 r jc jm jx ja js (upd γ 2 (.agg (qJk (γ 0)))) (fun i=>i == jx||L i) w:=by
 have e1:(jc == jx)=false:=by simp[h1]
 have e0:(jm == jx)=false:=by simp[h0]
 have e2:(js == jx)=false:=by simp[h2]
 have e3:(ja == jx)=false:=by simp[h3]
 have u0:upd γ 2 (.agg (qJk (γ 0))) 0 = γ 0:=by simp[upd]
 have u1:upd γ 2 (.agg (qJk (γ 0))) 1 = γ 1:=by simp[upd]
 have u3:upd γ 2 (.agg (qJk (γ 0))) 3 = γ 3:=by simp[upd]
 refine⟨h.ext,fun hh=>by rw[u0];exact h.call (by simpa[e1]using hh),fun hh=>by rw[u0,u3];exact h.mv (by simpa[e0]using hh),fun _=>by rw[u0];simp[upd],fun hh=>?_⟩
 rw[u0,u1];obtain⟨g,a1,a2,a3,a4⟩:=h.new (by simpa[e3]using hh);exact⟨g,a1,a2,a3,fun hh=>a4 (by simpa[e2]using hh)⟩
theorem GBl.made(h:GBl W0 r jc jm jx ja js γ L w){Z:Array Value}(hz:Z.size=13)(hs:L js=false)(h1:jc≠ja)(h0:jm≠ja)(h2:jx≠ja)(h3:js≠ja):GBl W0 r jc jm jx ja js (upd γ 1 (.pointer (some ⟨w.heap.size,0,none⟩))) (fun i=>i == ja||L i) (w.alloc (.cells Z 89)):=by
 have e1:(jc == ja)=false:=by simp[h1]
 have e0:(jm == ja)=false:=by simp[h0]
 have e2:(jx == ja)=false:=by simp[h2]
 have e3:(js == ja)=false:=by simp[h3]
 have u0:upd γ 1 (.pointer (some ⟨w.heap.size,0,none⟩)) 0 = γ 0:=by simp[upd]
 have u2:upd γ 1 (.pointer (some ⟨w.heap.size,0,none⟩)) 2 = γ 2:=by simp[upd]
 have u3:upd γ 1 (.pointer (some ⟨w.heap.size,0,none⟩)) 3 = γ 3:=by simp[upd]
 have hE:Ext w (w.alloc (.cells Z 89)):=(Er w).alloc _;refine⟨h.ext.trans hE,fun hh=>?_,fun hh=>by rw[u0,u3];exact h.mv (by simpa[e0]using hh),fun hh=>by rw[u0,u2];exact h.ex (by simpa[e2]using hh),fun _=>⟨w.heap.size,by simp[upd],h.ext.size,⟨Z,At.new _ _ _,hz⟩,fun hh=>?_⟩⟩
 ·rw[u0];obtain⟨A,c,a1,a2⟩:=h.call (by simpa[e1]using hh);exact⟨A,c,a1,own_kx a2 hE⟩
 ·rw[e3,Bool.false_or,hs]at hh;cases hh
theorem GBl.stored(h:GBl W0 r jc jm jx ja js γ L w)(hc:L jc=true)(ha:L ja=true)(h0:jm≠js)(h1:jx≠js){g:Nat}(hg : γ 1=.pointer (some ⟨g,0,none⟩)):GBl W0 r jc jm jx ja js γ (fun i=>i == js||L i) (w.setCells g 0 (qJk (γ 0)).toList):=by
 have e0:(jm == js)=false:=by simp[h0]
 have e1:(jx == js)=false:=by simp[h1]
 obtain⟨A,c,a1,a2⟩:=h.call hc;obtain⟨g',b1,b2,b3,_⟩:=h.new ha;rw[hg]at b1;obtain rfl:g=g':=by injection b1 with b1;injection b1 with b1;injection b1
 obtain⟨Z,hz,hz13⟩:=b3;have hE:Chg (· = g) w (w.setCells g 0 (qJk (γ 0)).toList):=qQq _ _;have hb:(qJk (γ 0)).size=13:=by rw[a1];rfl
 refine⟨h.ext.setCells b2 _ _,fun _=>⟨A,c,a1,qQb a2 hE fun k hk e=>qQf a2 hz (by decide) k hk e⟩,fun hh=>h.mv (by simpa[e0]using hh),fun hh=>h.ex (by simpa[e1]using hh),fun _=>⟨g,hg,b2,At.cells_sz _ _ _ ⟨Z,hz,hz13⟩,fun _=>?_⟩⟩
 exact World.rangeAt_setCells_same w g 0 _ (by rw[Array.length_toList,hb,←hz13];exact hz.there)
end
theorem byBlob_R{P:Pm}{x:Cmd}{b:Bl}{y:Vl}(hf:P.find x.blob=some b)(hy:P.vol x.vol.toNat=y) :
 P.byBlob x=if(qQG y.closed b x).2.2≠0 then(P,(qQG y.closed b x).2.2)else if(qQG y.closed b x).2.1=true then(P.set (qQG y.closed b x).1,0)else(P.drop (qQG y.closed b x).1.id,0):=by
 unfold Pm.byBlob qQG;rw[hf];simp only[hy]
 by_cases h:x.kind=10
 ·rw[if_pos h,if_pos h]
  by_cases h2:(!b.dead||decide (0<b.pins))=true
  ·rw[if_pos h2,if_pos h2];rfl
  ·rw[if_neg h2,if_neg h2];rfl
 ·rw[if_neg h,if_neg h]
  by_cases h2:(qZr y.closed b x).2=0
  ·simp[h2]
  ·simp[h2]
theorem qJl{P:Pm}{x:Cmd}(hg:x.good=true)(hk:6≤x.kind)(hk2:x.kind≤10∨x.kind=14):P.app x=rs1 (P.byBlob x):=by
 unfold Pm.app;rw[if_neg (by rw[hg];decide),if_neg (by omega),if_neg (by omega),if_neg (by omega),if_neg (by omega)]
end Go.Proofs.YtiojjokfeknhcaaGreat
