/-
  Part 10 of what the law leans on.
-/
import Derived.Test.YtimjipcplmnpbaaGreatS3
import Derived.Test.YtimjipcplmnpbaaGreatS6
import Derived.Test.YtimjipcplmnpbaaGreatS9
namespace Go.Proofs.YtimjipcplmnpbaaGreat
set_option maxRecDepth 100000
set_option maxHeartbeats 8000000
set_option linter.unusedVariables false
set_option linter.unusedSimpArgs false
set_option linter.unusedSectionVars false
open _root_.Go.Proofs.Tryz
open Go.RowKit Go.Sort
theorem qJW:(prog.info? 56).map (·.size)=some 3:=by kernel_rfl
theorem rfArr_put(lv:Value)(V:List Vl){v j:Nat}{y y':Vl}{u:Value}(hj:j<3)(hy:V[v]? = some y)(hr:qQY y'=(qQY y).set j u):(qQj lv V).setIfInBounds (1+v * 3+j) u=qQj lv (V.set v y'):=by
 unfold qQj;rw[List.setIfInBounds_toArray,show 1+v * 3+j=(3 * v+j)+1 by omega,List.set_cons_succ,vol_set V v j y y' u hj hy hr]
theorem vol_store{w:World}{xb v:Nat}{lv:Value}{V:List Vl}{y:Vl}(y':Vl)(h:At w xb 59 (qQj lv V))(hy:V[v]? = some y):At (w.setCells xb (1+v * 3) (qQY y')) xb 59 (qQj lv (V.set v y')):=by
 have hv:v<V.length:=(List.getElem?_eq_some_iff.1 hy).1;have h1:=((h.set (1+v * 3) (.bool y'.closed)).set (1+v * 3+1) (.bool y'.erase)).set (1+v * 3+2) (.int .i64 y'.gen);have e1:(qQj lv V).setIfInBounds (1+v * 3) (.bool y'.closed)=qQj lv (V.set v ⟨y'.closed,y.erase,y.gen⟩):=rfArr_put lv V (j:=0) (by omega) hy rfl;have g1:(V.set v ⟨y'.closed,y.erase,y.gen⟩)[v]? = some ⟨y'.closed,y.erase,y.gen⟩:=by simp[hv]
 have e2:(qQj lv (V.set v ⟨y'.closed,y.erase,y.gen⟩)).setIfInBounds (1+v * 3+1) (.bool y'.erase)=qQj lv ((V.set v ⟨y'.closed,y.erase,y.gen⟩).set v ⟨y'.closed,y'.erase,y.gen⟩):=rfArr_put lv _ (j:=1) (by omega) g1 rfl;rw[List.set_set]at e2;have g2:(V.set v ⟨y'.closed,y'.erase,y.gen⟩)[v]? = some ⟨y'.closed,y'.erase,y.gen⟩:=by simp[hv]
 have e3:(qQj lv (V.set v ⟨y'.closed,y'.erase,y.gen⟩)).setIfInBounds (1+v * 3+2) (.int .i64 y'.gen)=qQj lv ((V.set v ⟨y'.closed,y'.erase,y.gen⟩).set v y'):=rfArr_put lv _ (j:=2) (by omega) g2 rfl;rw[List.set_set]at e3;rw[e1,e2,e3]at h1;exact h1
theorem rapply_11(w:World)(v:Value)(P:Pm)(n:Nat)(h:qZj w v P)(hi:PInv n P)(hn:n≤1000000)(x:Cmd)(dx:Value)(hx:w.ownsRow 0 3 1 dx x.disks.length (x.disks.map (Value.int .i64)))(hd:x.disks.length≤17592186043904)(hnm:x.name.size≤9223372036854775807)(hw:x.Wf)(j:Nat)(y:Vl)(hk:x.good=true∧x.kind=11∧x.vol=(j:Int)∧j<12∧P.vols[j]? = some y) :
 Calls prog 54 #[v,qQd x dx] w (qXN w (P.app x)):=by
 obtain⟨lv,DV,rfl,hDV,hR⟩:=h;have hlen:DV.length=P.L.length:=by rw[←hDV,List.length_map]
 obtain⟨A,c,rfl⟩:=qQc hR.own;obtain⟨xA,xc,rfl⟩:=qQc hx;have HRF:Hid (qZj w (.agg (qQj (.slice A DV.length c) P.vols)) P):=Hh ⟨_,DV,rfl,hDV,hR⟩;have HX:Hid (qQj (.slice A DV.length c) P.vols=(.slice A DV.length c::(P.vols.map qQY).flatten).toArray):=Hh rfl;have h37:=qQr (.slice A DV.length c) hi.vlen;have hone:=qQy A DV.length c P.vols;have HVOL:Hid (∀v y,P.vols[v]? = some y→(qQj (.slice A DV.length c) P.vols)[1+v * 3]? = some (.bool y.closed)∧(qQj (.slice A DV.length c) P.vols)[1+v * 3+1]? = some (.bool y.erase)∧(qQj (.slice A DV.length c) P.vols)[1+v * 3+2]? = some (.int .i64 y.gen)):=Hh (fun v y h=>qXM h);generalize hX:qQj (.slice A DV.length c) P.vols=X at HX HRF HVOL h37 hone⊢;clear hX;have H37:=Hh h37;have HONE:=Hh hone;have HI1:Hid ((prog.info? 59).map (·.size)=some X.toList.length):=Hh (by rw[Array.length_toList,h37];exact qQm);have HI2:Hid ((prog.info? 59).map (·.size)=some X.size):=Hh (by rw[h37];exact qQm);have hX0:X[0]? = some (.slice A DV.length c):=by rw[HX.out];rfl
 have HX0:=Hh hX0;have HDV:=Hh hDV;have HR:=Hh hR;have HI:=Hh hi;have HXO:=Hh hx;have HK:=Hh hk;clear hDV hlen hR hi hx hk hX0 h37 hone;unfold qQd
 go_enter func54,ntmps54
 have hB:=(((At.new w 59 X).alloc (.cells (zZX x xA xc) 117)).alloc (.cells zZC 59)).alloc (.cells zZR 64);have hY:=((At.new (w.alloc (.cells X 59)) 117 (zZX x xA xc)).alloc (.cells zZC 59)).alloc (.cells zZR 64);have hC:=(At.new ((w.alloc (.cells X 59)).alloc (.cells (zZX x xA xc) 117)) 59 zZC).alloc (.cells zZR 64);have hS:=At.new (((w.alloc (.cells X 59)).alloc (.cells (zZX x xA xc) 117)).alloc (.cells zZC 59)) 64 zZR;have hE:=((((Er w).alloc (.cells X 59)).alloc (.cells (zZX x xA xc) 117)).alloc (.cells zZC 59)).alloc (.cells zZR 64);rw[show(w.alloc (.cells X 59)).heap.size=w.heap.size+1 by simp]at hY;rw[show((w.alloc (.cells X 59)).alloc (.cells (zZX x xA xc) 117)).heap.size=w.heap.size+1+1 by simp]at hC;rw[show(((w.alloc (.cells X 59)).alloc (.cells (zZX x xA xc) 117)).alloc (.cells zZC 59)).heap.size=w.heap.size+1+1+1 by simp]at hS
 go_upto_region 1 with fail
 obtain⟨xb,hxb⟩:∃xb,w.heap.size=xb:=⟨_,rfl⟩;rw[hxb]at hB hY hC hS⊢;generalize World.alloc _ _=W at hB hY hC hS hE⊢;have HXB:=Hh (show w.heap.size≤xb by omega);clear hxb;have HZ:Hid (zZC.size=37):=Hh rfl;generalize zZC=ZC at hC HZ;have lS:=hS.lt;have lC:=hC.lt;have lY:=hY.lt;have lB:=hB.lt;have y0:=hY.cell 0;simp at y0;have HGD:Hid (x.good=true):=Hh HK.out.1;clear y0;have HG:=Hh (qZ0 W x (.slice xA x.disks.length xc) (qX1 (own_kx HXO.out hE)) hd hnm);rw[HGD.out]at HG;have HRY:=Hh hY.range
 go_wp2_with (refine wpList_load_mid rfl 117 _ rfl (xb+1) 0 rfl _ _ HRY.out underlying117 rfl qZR ?_)
 refine HG.out.mono ?_;rintro e w1 ⟨rfl,hE1⟩;have hB:=hB.ext hE1;have hY:=hY.ext hE1;have hC:=hC.ext hE1;have hS:=hS.ext hE1;have hE:=hE.trans hE1;have lS:=hS.lt;have lC:=hC.lt;have lY:=hY.lt;have lB:=hB.lt;clear HG HRY;have y0:=hY.cell 0;have y9:=hY.cell 9;simp at y0 y9;rw[HK.out.2.1]at y0;rw[HK.out.2.2.1]at y9;have hj12:=HK.out.2.2.2.1;have HYV:=Hh (HVOL.out j y HK.out.2.2.2.2);have x0:=hB.cell (1+j * 3);have x1:=hB.cell (1+j * 3+1);have x2:=hB.cell (1+j * 3+2);rw[HYV.out.1]at x0;rw[HYV.out.2.1]at x1;rw[HYV.out.2.2]at x2;have hV:=At.new w1 56 #[.bool y.closed,.bool y.erase,.int .i64 y.gen];have hEV:=(Er w1).alloc (.cells #[.bool y.closed,.bool y.erase,.int .i64 y.gen] 56)
 go_upto_region 6 with fail
 clear x0 x1 x2;have HVB:=Hh (show w.heap.size≤w1.heap.size from hE.size);generalize w1.heap.size=vb at hV HVB⊢;generalize w1.alloc (.cells #[.bool y.closed,.bool y.erase,.int .i64 y.gen] 56)=W2 at hV hEV⊢;have hB:=hB.ext hEV;have hY:=hY.ext hEV;have hC:=hC.ext hEV;have hS:=hS.ext hEV;have hE:=hE.trans hEV;have lS:=hS.lt;have lC:=hC.lt;have lY:=hY.lt;have lB:=hB.lt;have y0:=hY.cell 0;simp at y0;rw[HK.out.2.1]at y0;have v0:=hV.cell 0;have vf0:=hV.frozen 0;have v1:=hV.cell 1;have vf1:=hV.frozen 1;simp at v0 v1;have HAP:=Hh (show P.app x=rs1 (P.volume x)from by unfold Pm.app;rw[if_neg (by rw[HK.out.1];decide),if_neg (by rw[HK.out.2.1];decide),if_neg (by rw[HK.out.2.1];decide),if_neg (by rw[HK.out.2.1];decide),if_pos (by rw[HK.out.2.1];decide)]);have HPV:Hid (P.vol x.vol.toNat=y):=Hh (by unfold Pm.vol;rw[HK.out.2.2.1,Int.toNat_natCast,List.getD_eq_getElem?_getD,HK.out.2.2.2.2];rfl)
 go_upto_region 19 with fail
 clear v0 vf0 v1 vf1 y0 y9;have hne:xb≠vb:=At.ne hB hV (by decide);have hne2:xb+1+1≠vb:=At.ne hC hV (by decide);have hne3:xb+1+1+1≠vb:=At.ne hS hV (by decide);have hne4:xb+1≠vb:=At.ne hY hV (by decide);have kV:At (W2.setCell ⟨vb,0,none⟩ (.bool true)) vb 56 #[.bool true,.bool y.erase,.int .i64 y.gen]:=hV.set 0 (.bool true);have hch:Chg (· = vb) W2 (W2.setCell ⟨vb,0,none⟩ (.bool true)):=Chg.setCell (S:=(· = vb)) (p:=⟨vb,0,none⟩) (Er W2).chg (.inl rfl) _;have hE3:Ext w (W2.setCell ⟨vb,0,none⟩ (.bool true)):=hE.chg_trans hch |>.mono (fun k hk e=>by have:=HVB.out;have e':k=vb:=e;omega)
 have kB:=hB.chg hch hne;have kC:=hC.chg hch hne2;have kS:=hS.chg hch hne3;have kY:=hY.chg hch hne4;clear hB hC hS hY hV hE hch hne hne2 hne3 hne4 lC lS lY lB;generalize (W2.setCell ⟨vb,0,none⟩ (.bool true))=W3 at kB kC kS kY kV hE3⊢;have hB:=kB;have hC:=kC;have hS:=kS;have hY:=kY;have hV:=kV;have hE:=hE3;clear kB kC kS kY kV hE3;have y0:=hY.cell 0;have y9:=hY.cell 9;simp at y0 y9;rw[HK.out.2.1]at y0;rw[HK.out.2.2.1]at y9;have v0:=hV.cell 0;have v1:=hV.cell 1;have v2:=hV.cell 2;simp at v0 v1 v2;have HTX:Hid (W3.there xb (1+j * 3) 3):=Hh (fun i hi3=>by have h:=hB.there (1+j * 3+i) (by rw[H37.out];omega);simpa using h);have hB0:At W3 xb 59 (qQj (.slice A DV.length c) P.vols):=by have h:=hB;rw[HX.out]at h;exact h
 have hB4:At (W3.setCells xb (1+j * 3) (#[.bool true,.bool y.erase,.int .i64 y.gen]:Array Value).toList) xb 59 (qQj (.slice A DV.length c) (P.vols.set j { y with closed:=true })):=vol_store { y with closed:=true } hB0 HK.out.2.2.2.2;have hch:Chg (· = xb) W3 (W3.setCells xb (1+j * 3) (#[.bool true,.bool y.erase,.int .i64 y.gen]:Array Value).toList):=qQg _ _;have hC4:=hC.chg hch (by omega);have hS4:=hS.chg hch (by omega);have hE4:Ext w (W3.setCells xb (1+j * 3) (#[.bool true,.bool y.erase,.int .i64 y.gen]:Array Value).toList):=hE.chg_trans hch |>.mono (fun k hk e=>by have:=HXB.out;have e':k=xb:=e;omega)
 have hVL:(P.vols.set j { y with closed:=true }).length=12:=by rw[List.length_set];exact HI.out.vlen
 have h37':=qQr (.slice A DV.length c) hVL;have hone':=qQy A DV.length c (P.vols.set j { y with closed:=true });have hrf:qZj (W3.setCells xb (1+j * 3) (#[.bool true,.bool y.erase,.int .i64 y.gen]:Array Value).toList) (.agg (qQj (.slice A DV.length c) (P.vols.set j { y with closed:=true }))) (P.setVol j { y with closed:=true }):=⟨_,DV,rfl,HDV.out,HR.out.ext hE4⟩;generalize qQj (.slice A DV.length c) (P.vols.set j { y with closed:=true })=X2 at hB4 h37' hone' hrf;have hTO:=qZe (X:=X2) (R:=zZR) hC4 hS4 (by rw[HZ.out,h37']) rfl h37' rfl (by omega);have HTO:=Hh hTO;have hroC:Chg (fun k=>k=xb+1+1∨k=xb+1+1+1) (W3.setCells xb (1+j * 3) (#[.bool true,.bool y.erase,.int .i64 y.gen]:Array Value).toList) (((W3.setCells xb (1+j * 3) (#[.bool true,.bool y.erase,.int .i64 y.gen]:Array Value).toList).setCells (xb+1+1) 0 X2.toList).setCells (xb+1+1+1) 0 zZR.toList):=Chg.setCells (Chg.setCells (Er (W3.setCells xb (1+j * 3) (#[.bool true,.bool y.erase,.int .i64 y.gen]:Array Value).toList)).chg (.inl rfl) _ _) (.inr rfl) _ _;have HRO:=Hh (qZj.two hrf ⟨_,hC4⟩ ⟨_,hS4⟩ hroC);have HEF:=Hh (hTO.ext w hE4 (by have:=HXB.out;omega) (by have:=HXB.out;omega));have HRX:=Hh hB4.range;clear hB hY hC hS hE hV hTO hrf hroC hB0 hB4 hC4 hS4 hE4 hch hVL
 go_upto_region 21 with(refine wpList_store_mid rfl 56 _ _ rfl xb (1+j * 3) #[.bool true,.bool y.erase,.int .i64 y.gen] rfl rfl HTX.out qJW (by simp[Value.oneCell']) ?_)
 clear y0 y9 v0 v1 v2 HTX;generalize (W3.setCells xb (1+j * 3) (#[.bool true,.bool y.erase,.int .i64 y.gen]:Array Value).toList)=W4 at HTO HRO HEF HRX⊢
 go_wp2_with (first|(refine wpList_load_mid rfl 59 _ rfl xb 0 rfl _ _ HRX.out underlying59 rfl (by rw[Array.length_toList,h37'];exact qQm) ?_)|(refine wpList_store_mid rfl 59 _ _ rfl (xb+1+1) 0 X2 rfl rfl HTO.out.t1 (by rw[h37'];exact qQm) hone' ?_)|(refine wpList_store_mid rfl 64 _ _ rfl (xb+1+1+1) 0 #[.int .i64 0,.int .u64 0,.int .i64 0,.int .u32 0,.slice none 0 0] rfl rfl HTO.out.t2 qQo (by simp[Value.oneCell']) ?_))
 refine bodyPost_ret (v:=.tuple #[.agg X2,.agg zZR]) (qQp results54 _ rfl rfl HTO.out.l1 HTO.out.l2) rfl ?_;rw[show P.app x=(P.setVol j { y with closed:=true },Rs.er 0)from by rw[HAP.out];unfold Pm.volume rs1;rw[if_pos HK.out.2.1,HPV.out,HK.out.2.2.1,Int.toNat_natCast]];exact⟨.agg X2,.slice none 0 0,rfl,HRO.out,qQx _ _ _,HEF.out⟩
theorem rapply_12(w:World)(v:Value)(P:Pm)(n:Nat)(h:qZj w v P)(hi:PInv n P)(hn:n≤1000000)(x:Cmd)(dx:Value)(hx:w.ownsRow 0 3 1 dx x.disks.length (x.disks.map (Value.int .i64)))(hd:x.disks.length≤17592186043904)(hnm:x.name.size≤9223372036854775807)(hw:x.Wf)(j:Nat)(y:Vl)(hk:x.good=true∧x.kind=12∧x.vol=(j:Int)∧j<12∧P.vols[j]? = some y) :
 Calls prog 54 #[v,qQd x dx] w (qXN w (P.app x)):=by
 obtain⟨lv,DV,rfl,hDV,hR⟩:=h;have hlen:DV.length=P.L.length:=by rw[←hDV,List.length_map]
 obtain⟨A,c,rfl⟩:=qQc hR.own;obtain⟨xA,xc,rfl⟩:=qQc hx;have HRF:Hid (qZj w (.agg (qQj (.slice A DV.length c) P.vols)) P):=Hh ⟨_,DV,rfl,hDV,hR⟩;have HX:Hid (qQj (.slice A DV.length c) P.vols=(.slice A DV.length c::(P.vols.map qQY).flatten).toArray):=Hh rfl;have h37:=qQr (.slice A DV.length c) hi.vlen;have hone:=qQy A DV.length c P.vols;have HVOL:Hid (∀v y,P.vols[v]? = some y→(qQj (.slice A DV.length c) P.vols)[1+v * 3]? = some (.bool y.closed)∧(qQj (.slice A DV.length c) P.vols)[1+v * 3+1]? = some (.bool y.erase)∧(qQj (.slice A DV.length c) P.vols)[1+v * 3+2]? = some (.int .i64 y.gen)):=Hh (fun v y h=>qXM h);generalize hX:qQj (.slice A DV.length c) P.vols=X at HX HRF HVOL h37 hone⊢;clear hX;have H37:=Hh h37;have HONE:=Hh hone;have HI1:Hid ((prog.info? 59).map (·.size)=some X.toList.length):=Hh (by rw[Array.length_toList,h37];exact qQm);have HI2:Hid ((prog.info? 59).map (·.size)=some X.size):=Hh (by rw[h37];exact qQm);have hX0:X[0]? = some (.slice A DV.length c):=by rw[HX.out];rfl
 have HX0:=Hh hX0;have HDV:=Hh hDV;have HR:=Hh hR;have HI:=Hh hi;have HXO:=Hh hx;have HK:=Hh hk;clear hDV hlen hR hi hx hk hX0 h37 hone;unfold qQd
 go_enter func54,ntmps54
 have hB:=(((At.new w 59 X).alloc (.cells (zZX x xA xc) 117)).alloc (.cells zZC 59)).alloc (.cells zZR 64);have hY:=((At.new (w.alloc (.cells X 59)) 117 (zZX x xA xc)).alloc (.cells zZC 59)).alloc (.cells zZR 64);have hC:=(At.new ((w.alloc (.cells X 59)).alloc (.cells (zZX x xA xc) 117)) 59 zZC).alloc (.cells zZR 64);have hS:=At.new (((w.alloc (.cells X 59)).alloc (.cells (zZX x xA xc) 117)).alloc (.cells zZC 59)) 64 zZR;have hE:=((((Er w).alloc (.cells X 59)).alloc (.cells (zZX x xA xc) 117)).alloc (.cells zZC 59)).alloc (.cells zZR 64);rw[show(w.alloc (.cells X 59)).heap.size=w.heap.size+1 by simp]at hY;rw[show((w.alloc (.cells X 59)).alloc (.cells (zZX x xA xc) 117)).heap.size=w.heap.size+1+1 by simp]at hC;rw[show(((w.alloc (.cells X 59)).alloc (.cells (zZX x xA xc) 117)).alloc (.cells zZC 59)).heap.size=w.heap.size+1+1+1 by simp]at hS
 go_upto_region 1 with fail
 obtain⟨xb,hxb⟩:∃xb,w.heap.size=xb:=⟨_,rfl⟩;rw[hxb]at hB hY hC hS⊢;generalize World.alloc _ _=W at hB hY hC hS hE⊢;have HXB:=Hh (show w.heap.size≤xb by omega);clear hxb;have HZ:Hid (zZC.size=37):=Hh rfl;generalize zZC=ZC at hC HZ;have lS:=hS.lt;have lC:=hC.lt;have lY:=hY.lt;have lB:=hB.lt;have y0:=hY.cell 0;simp at y0;have HGD:Hid (x.good=true):=Hh HK.out.1;clear y0;have HG:=Hh (qZ0 W x (.slice xA x.disks.length xc) (qX1 (own_kx HXO.out hE)) hd hnm);rw[HGD.out]at HG;have HRY:=Hh hY.range
 go_wp2_with (refine wpList_load_mid rfl 117 _ rfl (xb+1) 0 rfl _ _ HRY.out underlying117 rfl qZR ?_)
 refine HG.out.mono ?_;rintro e w1 ⟨rfl,hE1⟩;have hB:=hB.ext hE1;have hY:=hY.ext hE1;have hC:=hC.ext hE1;have hS:=hS.ext hE1;have hE:=hE.trans hE1;have lS:=hS.lt;have lC:=hC.lt;have lY:=hY.lt;have lB:=hB.lt;clear HG HRY;have y0:=hY.cell 0;have y9:=hY.cell 9;simp at y0 y9;rw[HK.out.2.1]at y0;rw[HK.out.2.2.1]at y9;have hj12:=HK.out.2.2.2.1;have HYV:=Hh (HVOL.out j y HK.out.2.2.2.2);have x0:=hB.cell (1+j * 3);have x1:=hB.cell (1+j * 3+1);have x2:=hB.cell (1+j * 3+2);rw[HYV.out.1]at x0;rw[HYV.out.2.1]at x1;rw[HYV.out.2.2]at x2;have hV:=At.new w1 56 #[.bool y.closed,.bool y.erase,.int .i64 y.gen];have hEV:=(Er w1).alloc (.cells #[.bool y.closed,.bool y.erase,.int .i64 y.gen] 56)
 go_upto_region 6 with fail
 clear x0 x1 x2;have HVB:=Hh (show w.heap.size≤w1.heap.size from hE.size);generalize w1.heap.size=vb at hV HVB⊢;generalize w1.alloc (.cells #[.bool y.closed,.bool y.erase,.int .i64 y.gen] 56)=W2 at hV hEV⊢;have hB:=hB.ext hEV;have hY:=hY.ext hEV;have hC:=hC.ext hEV;have hS:=hS.ext hEV;have hE:=hE.trans hEV;have lS:=hS.lt;have lC:=hC.lt;have lY:=hY.lt;have lB:=hB.lt;have y0:=hY.cell 0;simp at y0;rw[HK.out.2.1]at y0;have v0:=hV.cell 0;have vf0:=hV.frozen 0;have v1:=hV.cell 1;have vf1:=hV.frozen 1;simp at v0 v1;have HAP:=Hh (show P.app x=rs1 (P.volume x)from by unfold Pm.app;rw[if_neg (by rw[HK.out.1];decide),if_neg (by rw[HK.out.2.1];decide),if_neg (by rw[HK.out.2.1];decide),if_neg (by rw[HK.out.2.1];decide),if_pos (by rw[HK.out.2.1];decide)]);have HPV:Hid (P.vol x.vol.toNat=y):=Hh (by unfold Pm.vol;rw[HK.out.2.2.1,Int.toNat_natCast,List.getD_eq_getElem?_getD,HK.out.2.2.2.2];rfl);have HLV:=Hh (rlive_any W2 (.agg X) P n (HRF.out.ext hE) HI.out hn j hj12);have y9:=hY.cell 9;simp at y9;rw[HK.out.2.2.1]at y9;have HRX:=Hh hB.range
 go_wp2_with (refine wpList_load_mid rfl 59 _ rfl xb 0 rfl _ _ HRX.out underlying59 rfl HI1.out ?_)
 refine HLV.out.mono ?_;rintro e w3 ⟨rfl,hE3⟩;have hB:=hB.ext hE3;have hY:=hY.ext hE3;have hC:=hC.ext hE3;have hS:=hS.ext hE3;have hE:=hE.trans hE3;have lS:=hS.lt;have lC:=hC.lt;have lY:=hY.lt;have lB:=hB.lt;have hV:=hV.ext hE3;have HVL:Hid (W2.heap.size≤w3.heap.size):=Hh hE3.size;clear HLV HRX y0 y9 v0 vf0 v1 vf1;have y0:=hY.cell 0;have y9:=hY.cell 9;simp at y0 y9;rw[HK.out.2.1]at y0;rw[HK.out.2.2.1]at y9
 by_cases hlv:P.onVol (j:Int)=[]
 ·have hlen:(P.onVol (j:Int)).length=0:=by rw[hlv];rfl
  have HLN:=Hh hlv;have v0:=hV.cell 0;have vf0:=hV.frozen 0;have v1:=hV.cell 1;have vf1:=hV.frozen 1;simp at v0 v1;generalize hpo:P.onVol (j:Int)=PO at hlen⊢;clear hpo hlv;rw[hlen]
  go_upto_region 19 with fail
  clear v0 vf0 v1 vf1 y0 y9 hlen;have hne:xb≠vb:=At.ne hB hV (by decide);have hne2:xb+1+1≠vb:=At.ne hC hV (by decide);have hne3:xb+1+1+1≠vb:=At.ne hS hV (by decide);have hne4:xb+1≠vb:=At.ne hY hV (by decide);have kV:At ((w3.setCell ⟨vb,0,none⟩ (.bool true)).setCell ⟨vb,1,none⟩ (.bool true)) vb 56 #[.bool true,.bool true,.int .i64 y.gen]:=(hV.set 0 (.bool true)).set 1 (.bool true);have hch:Chg (· = vb) w3 ((w3.setCell ⟨vb,0,none⟩ (.bool true)).setCell ⟨vb,1,none⟩ (.bool true)):=Chg.setCell (S:=(· = vb)) (p:=⟨vb,1,none⟩) (Chg.setCell (S:=(· = vb)) (p:=⟨vb,0,none⟩) (Er w3).chg (.inl rfl) _) (.inl rfl) _;have hE3:Ext w ((w3.setCell ⟨vb,0,none⟩ (.bool true)).setCell ⟨vb,1,none⟩ (.bool true)):=hE.chg_trans hch |>.mono (fun k hk e=>by have:=HVB.out;have e':k=vb:=e;omega)
  have kB:=hB.chg hch hne;have kC:=hC.chg hch hne2;have kS:=hS.chg hch hne3;have kY:=hY.chg hch hne4;clear hB hC hS hY hV hE hch hne hne2 hne3 hne4 lC lS lY lB;generalize ((w3.setCell ⟨vb,0,none⟩ (.bool true)).setCell ⟨vb,1,none⟩ (.bool true))=W3 at kB kC kS kY kV hE3⊢;have hB:=kB;have hC:=kC;have hS:=kS;have hY:=kY;have hV:=kV;have hE:=hE3;clear kB kC kS kY kV hE3;have y0:=hY.cell 0;have y9:=hY.cell 9;simp at y0 y9;rw[HK.out.2.1]at y0;rw[HK.out.2.2.1]at y9;have v0:=hV.cell 0;have v1:=hV.cell 1;have v2:=hV.cell 2;simp at v0 v1 v2;have HTX:Hid (W3.there xb (1+j * 3) 3):=Hh (fun i hi3=>by have h:=hB.there (1+j * 3+i) (by rw[H37.out];omega);simpa using h);have hB0:At W3 xb 59 (qQj (.slice A DV.length c) P.vols):=by have h:=hB;rw[HX.out]at h;exact h
  have hB4:At (W3.setCells xb (1+j * 3) (#[.bool true,.bool true,.int .i64 y.gen]:Array Value).toList) xb 59 (qQj (.slice A DV.length c) (P.vols.set j { y with closed:=true,erase:=true })):=vol_store { y with closed:=true,erase:=true } hB0 HK.out.2.2.2.2;have hch:Chg (· = xb) W3 (W3.setCells xb (1+j * 3) (#[.bool true,.bool true,.int .i64 y.gen]:Array Value).toList):=qQg _ _;have hC4:=hC.chg hch (by omega);have hS4:=hS.chg hch (by omega);have hE4:Ext w (W3.setCells xb (1+j * 3) (#[.bool true,.bool true,.int .i64 y.gen]:Array Value).toList):=hE.chg_trans hch |>.mono (fun k hk e=>by have:=HXB.out;have e':k=xb:=e;omega)
  have hVL:(P.vols.set j { y with closed:=true,erase:=true }).length=12:=by rw[List.length_set];exact HI.out.vlen
  have h37':=qQr (.slice A DV.length c) hVL;have hone':=qQy A DV.length c (P.vols.set j { y with closed:=true,erase:=true });have hrf:qZj (W3.setCells xb (1+j * 3) (#[.bool true,.bool true,.int .i64 y.gen]:Array Value).toList) (.agg (qQj (.slice A DV.length c) (P.vols.set j { y with closed:=true,erase:=true }))) (P.setVol j { y with closed:=true,erase:=true }):=⟨_,DV,rfl,HDV.out,HR.out.ext hE4⟩;generalize qQj (.slice A DV.length c) (P.vols.set j { y with closed:=true,erase:=true })=X2 at hB4 h37' hone' hrf;have hTO:=qZe (X:=X2) (R:=zZR) hC4 hS4 (by rw[HZ.out,h37']) rfl h37' rfl (by omega);have HTO:=Hh hTO;have hroC:Chg (fun k=>k=xb+1+1∨k=xb+1+1+1) (W3.setCells xb (1+j * 3) (#[.bool true,.bool true,.int .i64 y.gen]:Array Value).toList) (((W3.setCells xb (1+j * 3) (#[.bool true,.bool true,.int .i64 y.gen]:Array Value).toList).setCells (xb+1+1) 0 X2.toList).setCells (xb+1+1+1) 0 zZR.toList):=Chg.setCells (Chg.setCells (Er (W3.setCells xb (1+j * 3) (#[.bool true,.bool true,.int .i64 y.gen]:Array Value).toList)).chg (.inl rfl) _ _) (.inr rfl) _ _;have HRO:=Hh (qZj.two hrf ⟨_,hC4⟩ ⟨_,hS4⟩ hroC);have HEF:=Hh (hTO.ext w hE4 (by have:=HXB.out;omega) (by have:=HXB.out;omega));have HRX:=Hh hB4.range;clear hB hY hC hS hE hV hTO hrf hroC hB0 hB4 hC4 hS4 hE4 hch hVL
  go_upto_region 21 with(refine wpList_store_mid rfl 56 _ _ rfl xb (1+j * 3) #[.bool true,.bool true,.int .i64 y.gen] rfl rfl HTX.out qJW (by simp[Value.oneCell']) ?_)
  clear y0 y9 v0 v1 v2 HTX;generalize (W3.setCells xb (1+j * 3) (#[.bool true,.bool true,.int .i64 y.gen]:Array Value).toList)=W4 at HTO HRO HEF HRX⊢
  go_wp2_with (first|(refine wpList_load_mid rfl 59 _ rfl xb 0 rfl _ _ HRX.out underlying59 rfl (by rw[Array.length_toList,h37'];exact qQm) ?_)|(refine wpList_store_mid rfl 59 _ _ rfl (xb+1+1) 0 X2 rfl rfl HTO.out.t1 (by rw[h37'];exact qQm) hone' ?_)|(refine wpList_store_mid rfl 64 _ _ rfl (xb+1+1+1) 0 #[.int .i64 0,.int .u64 0,.int .i64 0,.int .u32 0,.slice none 0 0] rfl rfl HTO.out.t2 qQo (by simp[Value.oneCell']) ?_))
  refine bodyPost_ret (v:=.tuple #[.agg X2,.agg zZR]) (qQp results54 _ rfl rfl HTO.out.l1 HTO.out.l2) rfl ?_;rw[show P.app x=(P.setVol j { y with closed:=true,erase:=true },Rs.er 0)from by rw[HAP.out];unfold Pm.volume rs1;rw[if_neg (by rw[HK.out.2.1];decide),if_pos HK.out.2.1,HPV.out,HK.out.2.2.1,if_pos HLN.out,Int.toNat_natCast]];exact⟨.agg X2,.slice none 0 0,rfl,HRO.out,qQx _ _ _,HEF.out⟩
 ·have hlen:((0:Int)<(P.onVol (j:Int)).length):=by
   have:=List.length_pos_iff.2 hlv
   omega
  have HLN:=Hh hlv;generalize hpo:P.onVol (j:Int)=PO at hlen⊢;clear hpo hlv;have hTO:=qZe (X:=X) (R:=#[.int .i64 10,.int .u64 0,.int .i64 0,.int .u32 0,.slice none 0 0]) hC hS (by rw[HZ.out,H37.out]) rfl H37.out rfl (by omega);have HTO:=Hh hTO;have HRG:=Hh hB.range;have HEF:=Hh (hTO.ext w hE (by have:=HXB.out;omega) (by have:=HXB.out;omega));clear hB hY hC hS hE hTO
  go_wp2_with (first|(refine wpList_load_mid rfl 59 _ rfl xb 0 rfl _ _ HRG.out underlying59 rfl HI1.out ?_)|(refine wpList_store_mid rfl 59 _ _ rfl (xb+1+1) 0 X rfl rfl HTO.out.t1 HI2.out HONE.out ?_)|(refine wpList_store_mid rfl 64 _ _ rfl (xb+1+1+1) 0 #[.int .i64 10,.int .u64 0,.int .i64 0,.int .u32 0,.slice none 0 0] rfl rfl HTO.out.t2 qQo (by simp[Value.oneCell']) ?_))
  refine bodyPost_ret (v:=.tuple #[.agg X,.agg #[.int .i64 10,.int .u64 0,.int .i64 0,.int .u32 0,.slice none 0 0]]) (qQp results54 _ rfl rfl HTO.out.l1 HTO.out.l2) rfl ?_;rw[show P.app x=(P,Rs.er 10)from by rw[HAP.out];unfold Pm.volume rs1;rw[if_neg (by rw[HK.out.2.1];decide),if_pos HK.out.2.1,HK.out.2.2.1,if_neg HLN.out]];exact⟨.agg X,.slice none 0 0,rfl,HRF.out.ext HEF.out,qQx _ _ _,HEF.out⟩
theorem rapply_13(w:World)(v:Value)(P:Pm)(n:Nat)(h:qZj w v P)(hi:PInv n P)(hn:n≤1000000)(x:Cmd)(dx:Value)(hx:w.ownsRow 0 3 1 dx x.disks.length (x.disks.map (Value.int .i64)))(hd:x.disks.length≤17592186043904)(hnm:x.name.size≤9223372036854775807)(hw:x.Wf)(j:Nat)(y:Vl)(hk:x.good=true∧x.kind=13∧x.vol=(j:Int)∧j<12∧P.vols[j]? = some y) :
 Calls prog 54 #[v,qQd x dx] w (qXN w (P.app x)):=by
 obtain⟨lv,DV,rfl,hDV,hR⟩:=h;have hlen:DV.length=P.L.length:=by rw[←hDV,List.length_map]
 obtain⟨A,c,rfl⟩:=qQc hR.own;obtain⟨xA,xc,rfl⟩:=qQc hx;have HRF:Hid (qZj w (.agg (qQj (.slice A DV.length c) P.vols)) P):=Hh ⟨_,DV,rfl,hDV,hR⟩;have HX:Hid (qQj (.slice A DV.length c) P.vols=(.slice A DV.length c::(P.vols.map qQY).flatten).toArray):=Hh rfl;have h37:=qQr (.slice A DV.length c) hi.vlen;have hone:=qQy A DV.length c P.vols;have HVOL:Hid (∀v y,P.vols[v]? = some y→(qQj (.slice A DV.length c) P.vols)[1+v * 3]? = some (.bool y.closed)∧(qQj (.slice A DV.length c) P.vols)[1+v * 3+1]? = some (.bool y.erase)∧(qQj (.slice A DV.length c) P.vols)[1+v * 3+2]? = some (.int .i64 y.gen)):=Hh (fun v y h=>qXM h);generalize hX:qQj (.slice A DV.length c) P.vols=X at HX HRF HVOL h37 hone⊢;clear hX;have H37:=Hh h37;have HONE:=Hh hone;have HI1:Hid ((prog.info? 59).map (·.size)=some X.toList.length):=Hh (by rw[Array.length_toList,h37];exact qQm);have HI2:Hid ((prog.info? 59).map (·.size)=some X.size):=Hh (by rw[h37];exact qQm);have hX0:X[0]? = some (.slice A DV.length c):=by rw[HX.out];rfl
 have HX0:=Hh hX0;have HDV:=Hh hDV;have HR:=Hh hR;have HI:=Hh hi;have HXO:=Hh hx;have HK:=Hh hk;clear hDV hlen hR hi hx hk hX0 h37 hone;unfold qQd
 go_enter func54,ntmps54
 have hB:=(((At.new w 59 X).alloc (.cells (zZX x xA xc) 117)).alloc (.cells zZC 59)).alloc (.cells zZR 64);have hY:=((At.new (w.alloc (.cells X 59)) 117 (zZX x xA xc)).alloc (.cells zZC 59)).alloc (.cells zZR 64);have hC:=(At.new ((w.alloc (.cells X 59)).alloc (.cells (zZX x xA xc) 117)) 59 zZC).alloc (.cells zZR 64);have hS:=At.new (((w.alloc (.cells X 59)).alloc (.cells (zZX x xA xc) 117)).alloc (.cells zZC 59)) 64 zZR;have hE:=((((Er w).alloc (.cells X 59)).alloc (.cells (zZX x xA xc) 117)).alloc (.cells zZC 59)).alloc (.cells zZR 64);rw[show(w.alloc (.cells X 59)).heap.size=w.heap.size+1 by simp]at hY;rw[show((w.alloc (.cells X 59)).alloc (.cells (zZX x xA xc) 117)).heap.size=w.heap.size+1+1 by simp]at hC;rw[show(((w.alloc (.cells X 59)).alloc (.cells (zZX x xA xc) 117)).alloc (.cells zZC 59)).heap.size=w.heap.size+1+1+1 by simp]at hS
 go_upto_region 1 with fail
 obtain⟨xb,hxb⟩:∃xb,w.heap.size=xb:=⟨_,rfl⟩;rw[hxb]at hB hY hC hS⊢;generalize World.alloc _ _=W at hB hY hC hS hE⊢;have HXB:=Hh (show w.heap.size≤xb by omega);clear hxb;have HZ:Hid (zZC.size=37):=Hh rfl;generalize zZC=ZC at hC HZ;have lS:=hS.lt;have lC:=hC.lt;have lY:=hY.lt;have lB:=hB.lt;have y0:=hY.cell 0;simp at y0;have HGD:Hid (x.good=true):=Hh HK.out.1;clear y0;have HG:=Hh (qZ0 W x (.slice xA x.disks.length xc) (qX1 (own_kx HXO.out hE)) hd hnm);rw[HGD.out]at HG;have HRY:=Hh hY.range
 go_wp2_with (refine wpList_load_mid rfl 117 _ rfl (xb+1) 0 rfl _ _ HRY.out underlying117 rfl qZR ?_)
 refine HG.out.mono ?_;rintro e w1 ⟨rfl,hE1⟩;have hB:=hB.ext hE1;have hY:=hY.ext hE1;have hC:=hC.ext hE1;have hS:=hS.ext hE1;have hE:=hE.trans hE1;have lS:=hS.lt;have lC:=hC.lt;have lY:=hY.lt;have lB:=hB.lt;clear HG HRY;have y0:=hY.cell 0;have y9:=hY.cell 9;simp at y0 y9;rw[HK.out.2.1]at y0;rw[HK.out.2.2.1]at y9;have hj12:=HK.out.2.2.2.1;have HYV:=Hh (HVOL.out j y HK.out.2.2.2.2);have x0:=hB.cell (1+j * 3);have x1:=hB.cell (1+j * 3+1);have x2:=hB.cell (1+j * 3+2);rw[HYV.out.1]at x0;rw[HYV.out.2.1]at x1;rw[HYV.out.2.2]at x2;have hV:=At.new w1 56 #[.bool y.closed,.bool y.erase,.int .i64 y.gen];have hEV:=(Er w1).alloc (.cells #[.bool y.closed,.bool y.erase,.int .i64 y.gen] 56)
 go_upto_region 6 with fail
 clear x0 x1 x2;have HVB:=Hh (show w.heap.size≤w1.heap.size from hE.size);generalize w1.heap.size=vb at hV HVB⊢;generalize w1.alloc (.cells #[.bool y.closed,.bool y.erase,.int .i64 y.gen] 56)=W2 at hV hEV⊢;have hB:=hB.ext hEV;have hY:=hY.ext hEV;have hC:=hC.ext hEV;have hS:=hS.ext hEV;have hE:=hE.trans hEV;have lS:=hS.lt;have lC:=hC.lt;have lY:=hY.lt;have lB:=hB.lt;have y0:=hY.cell 0;simp at y0;rw[HK.out.2.1]at y0;have v0:=hV.cell 0;have vf0:=hV.frozen 0;have v1:=hV.cell 1;have vf1:=hV.frozen 1;simp at v0 v1;have HAP:=Hh (show P.app x=rs1 (P.volume x)from by unfold Pm.app;rw[if_neg (by rw[HK.out.1];decide),if_neg (by rw[HK.out.2.1];decide),if_neg (by rw[HK.out.2.1];decide),if_neg (by rw[HK.out.2.1];decide),if_pos (by rw[HK.out.2.1];decide)]);have HPV:Hid (P.vol x.vol.toNat=y):=Hh (by unfold Pm.vol;rw[HK.out.2.2.1,Int.toNat_natCast,List.getD_eq_getElem?_getD,HK.out.2.2.2.2];rfl);rcases Bool.eq_false_or_eq_true y.erase with her|her
 rotate_left
 ·rw[her]at v1;have HER:=Hh her;have hTO:=qZe (X:=X) (R:=zZ6) hC hS (by rw[HZ.out,H37.out]) rfl H37.out rfl (by omega);have HTO:=Hh hTO;have HRG:=Hh hB.range;have HEF:=Hh (hTO.ext w hE (by have:=HXB.out;omega) (by have:=HXB.out;omega));clear hB hY hC hS hE hTO
  go_wp2_with (first|(refine wpList_load_mid rfl 59 _ rfl xb 0 rfl _ _ HRG.out underlying59 rfl HI1.out ?_)|(refine wpList_store_mid rfl 59 _ _ rfl (xb+1+1) 0 X rfl rfl HTO.out.t1 HI2.out HONE.out ?_)|(refine wpList_store_mid rfl 64 _ _ rfl (xb+1+1+1) 0 #[.int .i64 16,.int .u64 0,.int .i64 0,.int .u32 0,.slice none 0 0] rfl rfl HTO.out.t2 qQo (by simp[Value.oneCell']) ?_))
  refine bodyPost_ret (v:=.tuple #[.agg X,.agg zZ6]) (qQp results54 _ rfl rfl HTO.out.l1 HTO.out.l2) rfl ?_;rw[show P.app x=(P,Rs.er 16)from by rw[HAP.out];unfold Pm.volume rs1;rw[if_neg (by rw[HK.out.2.1];decide),if_neg (by rw[HK.out.2.1];decide),HPV.out,if_neg (by rw[HER.out];decide)]];exact⟨.agg X,.slice none 0 0,rfl,HRF.out.ext HEF.out,qQx _ _ _,HEF.out⟩
 ·rw[her]at v1;have HER:=Hh her;clear her;have v2:=hV.cell 2;simp at v2;have hgw:IntKind.i64.wrap (y.gen+1)=y.gen+1:=IntWalk.i64_in _ (by have:=HI.out.gen y (List.mem_of_getElem? HK.out.2.2.2.2);omega);have HTV:=Hh hV.there
  go_upto_region 19 with(refine wpList_store_mid rfl 56 _ _ rfl vb 0 #[.bool false,.bool false,.int .i64 (y.gen+1)] rfl rfl HTV.out qJW (by simp[Value.oneCell']) ?_)
  clear v0 vf0 v1 vf1 v2 y0 y9 hgw HTV;have hne:xb≠vb:=At.ne hB hV (by decide);have hne2:xb+1+1≠vb:=At.ne hC hV (by decide);have hne3:xb+1+1+1≠vb:=At.ne hS hV (by decide);have hne4:xb+1≠vb:=At.ne hY hV (by decide);have kV:At (W2.setCells vb 0 (#[.bool false,.bool false,.int .i64 (y.gen+1)]:Array Value).toList) vb 56 #[.bool false,.bool false,.int .i64 (y.gen+1)]:=((hV.set 0 (.bool false)).set 1 (.bool false)).set 2 (.int .i64 (y.gen+1));have hch:Chg (· = vb) W2 (W2.setCells vb 0 (#[.bool false,.bool false,.int .i64 (y.gen+1)]:Array Value).toList):=qQg _ _;have hE3:Ext w (W2.setCells vb 0 (#[.bool false,.bool false,.int .i64 (y.gen+1)]:Array Value).toList):=hE.chg_trans hch |>.mono (fun k hk e=>by have:=HVB.out;have e':k=vb:=e;omega)
  have kB:=hB.chg hch hne;have kC:=hC.chg hch hne2;have kS:=hS.chg hch hne3;have kY:=hY.chg hch hne4;clear hB hC hS hY hV hE hch hne hne2 hne3 hne4 lC lS lY lB;generalize (W2.setCells vb 0 (#[.bool false,.bool false,.int .i64 (y.gen+1)]:Array Value).toList)=W3 at kB kC kS kY kV hE3⊢;have hB:=kB;have hC:=kC;have hS:=kS;have hY:=kY;have hV:=kV;have hE:=hE3;clear kB kC kS kY kV hE3;have y0:=hY.cell 0;have y9:=hY.cell 9;simp at y0 y9;rw[HK.out.2.1]at y0;rw[HK.out.2.2.1]at y9;have v0:=hV.cell 0;have v1:=hV.cell 1;have v2:=hV.cell 2;simp at v0 v1 v2;have HTX:Hid (W3.there xb (1+j * 3) 3):=Hh (fun i hi3=>by have h:=hB.there (1+j * 3+i) (by rw[H37.out];omega);simpa using h);have hB0:At W3 xb 59 (qQj (.slice A DV.length c) P.vols):=by have h:=hB;rw[HX.out]at h;exact h
  have hB4:At (W3.setCells xb (1+j * 3) (#[.bool false,.bool false,.int .i64 (y.gen+1)]:Array Value).toList) xb 59 (qQj (.slice A DV.length c) (P.vols.set j ⟨false,false,y.gen+1⟩)):=vol_store ⟨false,false,y.gen+1⟩ hB0 HK.out.2.2.2.2;have hch:Chg (· = xb) W3 (W3.setCells xb (1+j * 3) (#[.bool false,.bool false,.int .i64 (y.gen+1)]:Array Value).toList):=qQg _ _;have hC4:=hC.chg hch (by omega);have hS4:=hS.chg hch (by omega);have hE4:Ext w (W3.setCells xb (1+j * 3) (#[.bool false,.bool false,.int .i64 (y.gen+1)]:Array Value).toList):=hE.chg_trans hch |>.mono (fun k hk e=>by have:=HXB.out;have e':k=xb:=e;omega)
  have hVL:(P.vols.set j ⟨false,false,y.gen+1⟩).length=12:=by rw[List.length_set];exact HI.out.vlen
  have h37':=qQr (.slice A DV.length c) hVL;have hone':=qQy A DV.length c (P.vols.set j ⟨false,false,y.gen+1⟩);have hrf:qZj (W3.setCells xb (1+j * 3) (#[.bool false,.bool false,.int .i64 (y.gen+1)]:Array Value).toList) (.agg (qQj (.slice A DV.length c) (P.vols.set j ⟨false,false,y.gen+1⟩))) (P.setVol j ⟨false,false,y.gen+1⟩):=⟨_,DV,rfl,HDV.out,HR.out.ext hE4⟩;generalize qQj (.slice A DV.length c) (P.vols.set j ⟨false,false,y.gen+1⟩)=X2 at hB4 h37' hone' hrf;have hTO:=qZe (X:=X2) (R:=zZR) hC4 hS4 (by rw[HZ.out,h37']) rfl h37' rfl (by omega);have HTO:=Hh hTO;have hroC:Chg (fun k=>k=xb+1+1∨k=xb+1+1+1) (W3.setCells xb (1+j * 3) (#[.bool false,.bool false,.int .i64 (y.gen+1)]:Array Value).toList) (((W3.setCells xb (1+j * 3) (#[.bool false,.bool false,.int .i64 (y.gen+1)]:Array Value).toList).setCells (xb+1+1) 0 X2.toList).setCells (xb+1+1+1) 0 zZR.toList):=Chg.setCells (Chg.setCells (Er (W3.setCells xb (1+j * 3) (#[.bool false,.bool false,.int .i64 (y.gen+1)]:Array Value).toList)).chg (.inl rfl) _ _) (.inr rfl) _ _;have HRO:=Hh (qZj.two hrf ⟨_,hC4⟩ ⟨_,hS4⟩ hroC);have HEF:=Hh (hTO.ext w hE4 (by have:=HXB.out;omega) (by have:=HXB.out;omega));have HRX:=Hh hB4.range;clear hB hY hC hS hE hV hTO hrf hroC hB0 hB4 hC4 hS4 hE4 hch hVL
  go_upto_region 21 with(refine wpList_store_mid rfl 56 _ _ rfl xb (1+j * 3) #[.bool false,.bool false,.int .i64 (y.gen+1)] rfl rfl HTX.out qJW (by simp[Value.oneCell']) ?_)
  clear y0 y9 v0 v1 v2 HTX;generalize (W3.setCells xb (1+j * 3) (#[.bool false,.bool false,.int .i64 (y.gen+1)]:Array Value).toList)=W4 at HTO HRO HEF HRX⊢
  go_wp2_with (first|(refine wpList_load_mid rfl 59 _ rfl xb 0 rfl _ _ HRX.out underlying59 rfl (by rw[Array.length_toList,h37'];exact qQm) ?_)|(refine wpList_store_mid rfl 59 _ _ rfl (xb+1+1) 0 X2 rfl rfl HTO.out.t1 (by rw[h37'];exact qQm) hone' ?_)|(refine wpList_store_mid rfl 64 _ _ rfl (xb+1+1+1) 0 #[.int .i64 0,.int .u64 0,.int .i64 0,.int .u32 0,.slice none 0 0] rfl rfl HTO.out.t2 qQo (by simp[Value.oneCell']) ?_))
  refine bodyPost_ret (v:=.tuple #[.agg X2,.agg zZR]) (qQp results54 _ rfl rfl HTO.out.l1 HTO.out.l2) rfl ?_;rw[show P.app x=(P.setVol j ⟨false,false,y.gen+1⟩,Rs.er 0)from by rw[HAP.out];unfold Pm.volume rs1;rw[if_neg (by rw[HK.out.2.1];decide),if_neg (by rw[HK.out.2.1];decide),HPV.out,if_pos HER.out,HK.out.2.2.1,Int.toNat_natCast]];exact⟨.agg X2,.slice none 0 0,rfl,HRO.out,qQx _ _ _,HEF.out⟩
open Go.RowKit Go.Sort
theorem good_pool{x:Cmd}(h:x.good=true):x.pool=0∨x.pool=1:=by
 have:=(Cmd.good_iff.1 h).2.2.2.2.2.2.2.1
 omega
theorem rapply_b(w:World)(v:Value)(P:Pm)(n:Nat)(h:qZj w v P)(hi:PInv n P)(hn:n≤1000000)(x:Cmd)(dx:Value)(hx:w.ownsRow 0 3 1 dx x.disks.length (x.disks.map (Value.int .i64)))(hd:x.disks.length≤17592186043904)(hnm:x.name.size≤9223372036854775807)(hw:x.Wf)(j:Nat)(y:Vl)(hk:x.good=true∧((6≤x.kind∧x.kind≤10)∨x.kind=14)∧x.vol=(j:Int)∧j<12∧P.vols[j]? = some y) :
 Calls prog 54 #[v,qQd x dx] w (qXN w (P.app x)):=by
 obtain⟨lv,DV,rfl,hDV,hR⟩:=h;have hlen:DV.length=P.L.length:=by rw[←hDV,List.length_map]
 obtain⟨A,c,rfl⟩:=qQc hR.own;obtain⟨xA,xc,rfl⟩:=qQc hx;have HRF:Hid (qZj w (.agg (qQj (.slice A DV.length c) P.vols)) P):=Hh ⟨_,DV,rfl,hDV,hR⟩;have HX:Hid (qQj (.slice A DV.length c) P.vols=(.slice A DV.length c::(P.vols.map qQY).flatten).toArray):=Hh rfl;have h37:=qQr (.slice A DV.length c) hi.vlen;have hone:=qQy A DV.length c P.vols;have HVOL:Hid (∀v y,P.vols[v]? = some y→(qQj (.slice A DV.length c) P.vols)[1+v * 3]? = some (.bool y.closed)∧(qQj (.slice A DV.length c) P.vols)[1+v * 3+1]? = some (.bool y.erase)∧(qQj (.slice A DV.length c) P.vols)[1+v * 3+2]? = some (.int .i64 y.gen)):=Hh (fun v y h=>qXM h);generalize hX:qQj (.slice A DV.length c) P.vols=X at HX HRF HVOL h37 hone⊢;clear hX;have H37:=Hh h37;have HONE:=Hh hone;have HI1:Hid ((prog.info? 59).map (·.size)=some X.toList.length):=Hh (by rw[Array.length_toList,h37];exact qQm);have HI2:Hid ((prog.info? 59).map (·.size)=some X.size):=Hh (by rw[h37];exact qQm);have hX0:X[0]? = some (.slice A DV.length c):=by rw[HX.out];rfl
 have HX0:=Hh hX0;have HDV:=Hh hDV;have HR:=Hh hR;have HI:=Hh hi;have HXO:=Hh hx;have HK:=Hh hk;clear hDV hlen hR hi hx hk hX0 h37 hone;unfold qQd
 go_enter func54,ntmps54
 have hB:=(((At.new w 59 X).alloc (.cells (zZX x xA xc) 117)).alloc (.cells zZC 59)).alloc (.cells zZR 64);have hY:=((At.new (w.alloc (.cells X 59)) 117 (zZX x xA xc)).alloc (.cells zZC 59)).alloc (.cells zZR 64);have hC:=(At.new ((w.alloc (.cells X 59)).alloc (.cells (zZX x xA xc) 117)) 59 zZC).alloc (.cells zZR 64);have hS:=At.new (((w.alloc (.cells X 59)).alloc (.cells (zZX x xA xc) 117)).alloc (.cells zZC 59)) 64 zZR;have hE:=((((Er w).alloc (.cells X 59)).alloc (.cells (zZX x xA xc) 117)).alloc (.cells zZC 59)).alloc (.cells zZR 64);rw[show(w.alloc (.cells X 59)).heap.size=w.heap.size+1 by simp]at hY;rw[show((w.alloc (.cells X 59)).alloc (.cells (zZX x xA xc) 117)).heap.size=w.heap.size+1+1 by simp]at hC;rw[show(((w.alloc (.cells X 59)).alloc (.cells (zZX x xA xc) 117)).alloc (.cells zZC 59)).heap.size=w.heap.size+1+1+1 by simp]at hS
 go_upto_region 1 with fail
 obtain⟨xb,hxb⟩:∃xb,w.heap.size=xb:=⟨_,rfl⟩;rw[hxb]at hB hY hC hS⊢;generalize World.alloc _ _=W at hB hY hC hS hE⊢;have HXB:=Hh (show w.heap.size≤xb by omega);clear hxb;have HZ:Hid (zZC.size=37):=Hh rfl;generalize zZC=ZC at hC HZ;have lS:=hS.lt;have lC:=hC.lt;have lY:=hY.lt;have lB:=hB.lt;have y0:=hY.cell 0;simp at y0;have HGD:Hid (x.good=true):=Hh HK.out.1;clear y0;have HG:=Hh (qZ0 W x (.slice xA x.disks.length xc) (qX1 (own_kx HXO.out hE)) hd hnm);rw[HGD.out]at HG;have HRY:=Hh hY.range
 go_wp2_with (refine wpList_load_mid rfl 117 _ rfl (xb+1) 0 rfl _ _ HRY.out underlying117 rfl qZR ?_)
 refine HG.out.mono ?_;rintro e w1 ⟨rfl,hE1⟩;have hB:=hB.ext hE1;have hY:=hY.ext hE1;have hC:=hC.ext hE1;have hS:=hS.ext hE1;have hE:=hE.trans hE1;have lS:=hS.lt;have lC:=hC.lt;have lY:=hY.lt;have lB:=hB.lt;clear HG HRY;have y0:=hY.cell 0;have y9:=hY.cell 9;simp at y0 y9;rw[HK.out.2.2.1]at y9;have HKD:Hid (6≤x.kind∧(x.kind≤10∨x.kind=14)):=Hh (by have:=HK.out.2.1;omega);have g6:decide (x.kind<6)=false:=decide_eq_false (by have:=HKD.out;omega);have g11:(x.kind == 11)=false:=by rw[beq_eq_false_iff_ne];have:=HKD.out;omega
 have g12:(x.kind == 12)=false:=by rw[beq_eq_false_iff_ne];have:=HKD.out;omega
 have g13:(x.kind == 13)=false:=by rw[beq_eq_false_iff_ne];have:=HKD.out;omega
 have hj12:=HK.out.2.2.2.1;have HPV:Hid (P.vol x.vol.toNat=y):=Hh (by unfold Pm.vol;rw[HK.out.2.2.1,Int.toNat_natCast,List.getD_eq_getElem?_getD,HK.out.2.2.2.2];rfl);have HYV:=Hh (HVOL.out j y HK.out.2.2.2.2);have x0:=hB.cell (1+j * 3);have x1:=hB.cell (1+j * 3+1);have x2:=hB.cell (1+j * 3+2);rw[HYV.out.1]at x0;rw[HYV.out.2.1]at x1;rw[HYV.out.2.2]at x2;have hEV:=(Er w1).alloc (.cells #[.bool y.closed,.bool y.erase,.int .i64 y.gen] 56)
 go_upto_region 6 with fail
 clear x0 x1 x2 y9;generalize w1.alloc (.cells #[.bool y.closed,.bool y.erase,.int .i64 y.gen] 56)=W2 at hEV⊢;have hB:=hB.ext hEV;have hY:=hY.ext hEV;have hC:=hC.ext hEV;have hS:=hS.ext hEV;have hE:=hE.trans hEV;have lS:=hS.lt;have lC:=hC.lt;have lY:=hY.lt;have lB:=hB.lt;have y0:=hY.cell 0;have y4:=hY.cell 4;simp at y0 y4
 go_upto_region 19 with fail
 obtain⟨wo,hwo⟩:∃wo:World,wo=W2:=⟨_,rfl⟩
 go_cut [69]from 62 to 69 (fun tv wx=>tv=.bool false∧wx=wo)
 case first =>
  by_cases h14:x.kind=14
  ·rw[h14]at y0;go_wp2_with fail
   go_meet
   case rel=>exact⟨rfl,hwo.symm⟩
  ·have g10:decide (10<x.kind)=false:=decide_eq_false (by have:=HKD.out;omega);go_wp2_with fail
   go_meet
   case rel=>exact⟨rfl,hwo.symm⟩
 obtain⟨rfl,hwc⟩:=hcut;subst hwc;subst hwo;have HFD:=Hh (rfind_any wc (.agg X) P (HRF.out.ext hE) x.blob (by have:=HI.out.len;omega));have HRX:=Hh hB.range
 go_wp2_with (refine wpList_load_mid rfl 59 _ rfl xb 0 rfl _ _ HRX.out underlying59 rfl HI1.out ?_)
 refine HFD.out.mono ?_;rintro e w3 ⟨rfl,hE3⟩;have hB:=hB.ext hE3;have hY:=hY.ext hE3;have hC:=hC.ext hE3;have hS:=hS.ext hE3;have hE:=hE.trans hE3;have lS:=hS.lt;have lC:=hC.lt;have lY:=hY.lt;have lB:=hB.lt;clear HFD HRX y0 y4;rcases find_at (P:=P) (id:=x.blob)with⟨hf,hfn⟩|⟨i,b,hib,hid,hf⟩
 ·rw[hf];have HFN:=Hh hfn;clear hf hfn;have hTO:=qZe (X:=X) (R:=#[.int .i64 5,.int .u64 0,.int .i64 0,.int .u32 0,.slice none 0 0]) hC hS (by rw[HZ.out,H37.out]) rfl H37.out rfl (by omega);have HTO:=Hh hTO;have HRG:=Hh hB.range;have HEF:=Hh (hTO.ext w hE (by have:=HXB.out;omega) (by have:=HXB.out;omega));clear hB hY hC hS hE hTO
  go_wp2_with (first|(refine wpList_load_mid rfl 59 _ rfl xb 0 rfl _ _ HRG.out underlying59 rfl HI1.out ?_)|(refine wpList_store_mid rfl 59 _ _ rfl (xb+1+1) 0 X rfl rfl HTO.out.t1 HI2.out HONE.out ?_)|(refine wpList_store_mid rfl 64 _ _ rfl (xb+1+1+1) 0 #[.int .i64 5,.int .u64 0,.int .i64 0,.int .u32 0,.slice none 0 0] rfl rfl HTO.out.t2 qQo (by simp[Value.oneCell']) ?_))
  refine bodyPost_ret (v:=.tuple #[.agg X,.agg #[.int .i64 5,.int .u64 0,.int .i64 0,.int .u32 0,.slice none 0 0]]) (qQp results54 _ rfl rfl HTO.out.l1 HTO.out.l2) rfl ?_;rw[show P.app x=(P,Rs.er 5)from by rw[qJy HK.out.1 HKD.out.1 HKD.out.2];unfold Pm.byBlob rs1;rw[HFN.out]];exact⟨.agg X,.slice none 0 0,rfl,HRF.out.ext HEF.out,qQx _ _ _,HEF.out⟩
 ·rw[hf]
  obtain⟨⟨b',dv⟩,hb⟩:∃q,DV[i]? = some q:=by
   have h1:i<DV.length:=by
    have h2:=(List.getElem?_eq_some_iff.1 hib).1;rw[←HDV.out,List.length_map]at h2;exact h2
   exact⟨_,List.getElem?_eq_getElem h1⟩
  obtain rfl:b'=b:=by
   rw[←HDV.out,List.getElem?_map,hb]at hib;injection hib
  have hil:i<DV.length:=(List.getElem?_eq_some_iff.1 hb).1;obtain⟨dA,dc,rfl⟩:∃A c,dv=.slice A b'.disks.length c:=qQc (HR.out.dks _ (List.mem_of_getElem? hb));have hSl:=HR.out.sln.ext hE
  obtain⟨rb,ro,rfl⟩:=qQW hSl (fun e=>by
   have h0:=List.map_eq_nil_iff.1 e;rw[h0]at hb;simp at hb)
  have hbL:=List.mem_of_getElem? hib;have HFS:Hid (P.find x.blob=some b'):=Hh ((qZr HI.out.asc).2 ⟨hbL,hid⟩);have HBI:=Hh (HI.out.bl _ hbL);have HOD:=Hh (HR.out.dks _ (List.mem_of_getElem? hb));have hrw:∀w1,Ext w3 w1→w1.rangeAt rb (ro+i * 13) (blCells b' (.slice dA b'.disks.length dc)).toList:=fun w1 hc k u hk=>sln_get (HR.out.sln.ext (hE.trans hc)) (by rw[List.getElem?_map,hb];rfl) k u hk
  have hrx:∀w1,Ext w3 w1→w1.rangeAt xb 0 X.toList:=fun w1 hc=>(hB.ext hc).range
  have hry:∀w1,Ext w3 w1→w1.rangeAt (xb+1) 0 (zZX x xA xc).toList:=fun w1 hc=>(hY.ext hc).range
  have hr0:∀w1,Ext w3 w1→w1.cell? ⟨xb,0,none⟩=some (.slice (some ⟨rb,ro,none⟩) DV.length c):=fun w1 hc=>by rw[(hB.ext hc).cell 0];exact HX0.out
  clear hb hib hbL hid hSl hf
  go_upto_region 25 with fail
  obtain⟨r,hR⟩:∃r,qQH y.closed b' x=r:=⟨_,rfl⟩
  have HBC:∀w1,Ext w3 w1→Calls prog 89 #[.agg X,.agg (blCells b' (.slice dA b'.disks.length dc)),qQd x (.slice xA x.disks.length xc)] w1 (RbOut w1 r):=fun w1 hc=>by
   rw[←hR];exact rblob_any w1 X b' _ x _ y (own_kx HOD.out (hE.trans hc)) (own_kx HXO.out (hE.trans hc)) (Nat.le_trans (qQ8 HBI.out.rises) (by decide)) hd (by have:=HBI.out.pins;omega) j HK.out.2.2.1 HK.out.2.2.2.1 (HVOL.out j y HK.out.2.2.2.2).1 (good_pool HK.out.1) (by have:=HKD.out;omega)
  refine qQq (Γ := Nat→Value) (sgφ [.val (.agg X),.val (.pointer (some ⟨xb,0,none⟩)),.val (.slice (some ⟨rb,ro,none⟩) DV.length c),.val (.int .i64 (i:Int)),.val (.pointer (some ⟨rb,ro+i * 13,none⟩)),.val (.agg (blCells b' (.slice dA b'.disks.length dc))),.val (qQd x (.slice xA x.disks.length xc)),.g 0,.g 3,.g 2,.val (.bool r.2.1),.val (.int .i64 r.2.2),.g 1,.any,.val (.bool r.2.1),.val (.int .i64 r.2.2)])
   (GBl w3 r 7 8 9 12 13) (by kernel_rfl) (by kernel_rfl) (by kernel_rfl) (fun _=>undef) ?inv ?steps ?fin
  case inv=>exact⟨(Er w3).drew,fun hh=>(by cases hh),fun hh=>(by cases hh),fun hh=>(by cases hh),fun hh=>(by cases hh)⟩
  case steps =>
   show qQV _ _ _ _ _ _ 16
   refine⟨⟨⟨⟨⟨⟨⟨⟨⟨⟨⟨⟨⟨⟨⟨⟨trivial,?s0⟩,?s1⟩,?s2⟩,?s3⟩,?s4⟩,?s5⟩,?s6⟩,?s7⟩,?s8⟩,?s9⟩,?s10⟩,?s11⟩,?s12⟩,?s13⟩,?s14⟩,?s15⟩
   case s0 =>
    refine qQi (x:=.agg X) rfl rfl rfl (GBl.keep (j:=0) (by decide) (by decide) (by decide) (by decide) (by decide)) fun γ L v a w1 st=>?_
    have e2:=st.far 2 (by kernel_rfl);simp at e2;exact qQk rfl (b:=xb) (off:=0) (by simp[Act.eval,e2]) (hrx w1 st.inv.ext) underlying59 rfl HI1.out
   case s1 =>
    refine qQi (x:=.pointer (some ⟨xb,0,none⟩)) rfl rfl rfl (GBl.keep (j:=1) (by decide) (by decide) (by decide) (by decide) (by decide)) fun γ L v a w1 st=>?_
    have e2:=st.far 2 (by kernel_rfl);simp at e2;go_simp
   case s2 =>
    refine qQi (x:=.slice (some ⟨rb,ro,none⟩) DV.length c) rfl rfl rfl (GBl.keep (j:=2) (by decide) (by decide) (by decide) (by decide) (by decide)) fun γ L v a w1 st=>?_
    have e1:=st.val 1 87 rfl (by kernel_rfl);rw[(st.φ 1 (by kernel_rfl):v 1=_)]at e1;simp at e1;have q:=hr0 w1 st.inv.ext;go_simp
   case s3 =>
    refine qQi (x:=.int .i64 (i:Int)) rfl rfl rfl (GBl.keep (j:=3) (by decide) (by decide) (by decide) (by decide) (by decide)) fun γ L v a w1 st=>?_
    have e9:=st.far 9 (by kernel_rfl);simp at e9;go_simp
   case s4 =>
    refine qQi (x:=.pointer (some ⟨rb,ro+i * 13,none⟩)) rfl rfl rfl (GBl.keep (j:=4) (by decide) (by decide) (by decide) (by decide) (by decide)) fun γ L v a w1 st=>?_
    have e2:=st.val 2 88 rfl (by kernel_rfl);rw[(st.φ 2 (by kernel_rfl):v 2=_)]at e2;simp at e2;have e3:=st.val 3 89 rfl (by kernel_rfl);rw[(st.φ 3 (by kernel_rfl):v 3=_)]at e3;simp at e3;go_simp
   case s5 =>
    refine qQi (x:=.agg (blCells b' (.slice dA b'.disks.length dc))) rfl rfl rfl (GBl.keep (j:=5) (by decide) (by decide) (by decide) (by decide) (by decide)) fun γ L v a w1 st=>?_
    have e4:=st.val 4 90 rfl (by kernel_rfl);rw[(st.φ 4 (by kernel_rfl):v 4=_)]at e4;simp at e4;exact qQk rfl (b:=rb) (off:=ro+i * 13) (by simp[Act.eval,e4]) (hrw w1 st.inv.ext) underlying173 rfl qQf
   case s6 =>
    refine qQi (x:=qQd x (.slice xA x.disks.length xc)) rfl rfl rfl (GBl.keep (j:=6) (by decide) (by decide) (by decide) (by decide) (by decide)) fun γ L v a w1 st=>?_
    have e3:=st.far 3 (by kernel_rfl);simp at e3;exact qQk rfl (b:=xb+1) (off:=0) (by simp[Act.eval,e3]) (hry w1 st.inv.ext) underlying117 rfl qZR
   case s7 =>
    refine qXe (k:=0) (f:=89) rfl rfl rfl (by kernel_rfl) fun γ L v a w1 st=>?_
    have e0:=st.val 0 86 rfl (by kernel_rfl);rw[(st.φ 0 (by kernel_rfl):v 0=_)]at e0;simp at e0;have e5:=st.val 5 91 rfl (by kernel_rfl);rw[(st.φ 5 (by kernel_rfl):v 5=_)]at e5;simp at e5;have e6:=st.val 6 92 rfl (by kernel_rfl);rw[(st.φ 6 (by kernel_rfl):v 6=_)]at e6;simp at e6
    have h8:L 8=false:=by
     cases hq:L 8 with
     | false=>rfl
     | true =>
      have q7:=st.down 8 7 hq (by kernel_rfl);have q99:=st.off;rw[q7]at q99;cases q99
    have h9:L 9=false:=by
     cases hq:L 9 with
     | false=>rfl
     | true =>
      have q8:=st.down 9 8 hq (by kernel_rfl);have q7:=st.down 8 7 q8 (by kernel_rfl);have q99:=st.off;rw[q7]at q99;cases q99
    have h13:L 13=false:=by
     cases hq:L 13 with
     | false=>rfl
     | true =>
      have q9:=st.down 13 9 hq (by kernel_rfl);have q8:=st.down 9 8 q9 (by kernel_rfl);have q7:=st.down 8 7 q8 (by kernel_rfl);have q99:=st.off;rw[q7]at q99;cases q99
    refine⟨#[.agg X,.agg (blCells b' (.slice dA b'.disks.length dc)),qQd x (.slice xA x.disks.length xc)],by go_simp,?_⟩
    refine(HBC w1 st.inv.ext).mono ?_
    rintro e w2 ⟨dv',rfl,hO,hE2⟩;obtain⟨A',c',rfl⟩:=qQc hO;exact⟨_,rfl,GBl.called st.inv hE2 h8 h9 h13 (by decide) (by decide) (by decide) (by decide) hO⟩
   case s8 =>
    refine qJh (k:=3) rfl rfl rfl (by kernel_rfl) fun γ L v a w1 st=>?_
    have e7:=st.val 7 93 rfl (by kernel_rfl);rw[(st.φ 7 (by kernel_rfl):v 7=_)]at e7;simp at e7;exact⟨γ 0,w1,by go_simp,GBl.moved st.inv (by decide) (by decide) (by decide) (by decide)⟩
   case s9 =>
    refine qJh (k:=2) rfl rfl rfl (by kernel_rfl) fun γ L v a w1 st=>?_
    have e8:=st.val 8 85 rfl (by kernel_rfl);rw[(st.φ 8 (by kernel_rfl):v 8=_)]at e8;simp at e8;obtain⟨A',c',hγ,_⟩:=st.inv.call (st.down 8 7 (st.dep 8 (by kernel_rfl)) (by kernel_rfl));refine⟨.agg (qJx (γ 0)),w1,?_,GBl.got st.inv (by decide) (by decide) (by decide) (by decide)⟩
    rw[st.inv.mv (st.dep 8 (by kernel_rfl)),hγ]at e8;rw[hγ];go_simp
    rfl
   case s10 =>
    refine qQi (x:=.bool r.2.1) rfl rfl rfl (GBl.keep (j:=10) (by decide) (by decide) (by decide) (by decide) (by decide)) fun γ L v a w1 st=>?_
    have e8:=st.val 8 85 rfl (by kernel_rfl);rw[(st.φ 8 (by kernel_rfl):v 8=_)]at e8;simp at e8;obtain⟨A',c',hγ,_⟩:=st.inv.call (st.down 8 7 (st.dep 8 (by kernel_rfl)) (by kernel_rfl));rw[st.inv.mv (st.dep 8 (by kernel_rfl)),hγ]at e8;go_simp
   case s11 =>
    refine qQi (x:=.int .i64 r.2.2) rfl rfl rfl (GBl.keep (j:=11) (by decide) (by decide) (by decide) (by decide) (by decide)) fun γ L v a w1 st=>?_
    have e8:=st.val 8 85 rfl (by kernel_rfl);rw[(st.φ 8 (by kernel_rfl):v 8=_)]at e8;simp at e8;obtain⟨A',c',hγ,_⟩:=st.inv.call (st.down 8 7 (st.dep 8 (by kernel_rfl)) (by kernel_rfl));rw[st.inv.mv (st.dep 8 (by kernel_rfl)),hγ]at e8;go_simp
   case s12 =>
    refine qJh (k:=1) rfl rfl rfl (by kernel_rfl) fun γ L v a w1 st=>?_
    have h13:L 13=false:=by
     cases hq:L 13 with
     | false=>rfl
     | true =>
      have q12:=st.down 13 12 hq (by kernel_rfl);have q99:=st.off;rw[q12]at q99;cases q99
    exact⟨.pointer (some ⟨w1.heap.size,0,none⟩),w1.alloc (.cells #[.int .u64 0,.string ⟨#[]⟩,.int .i64 0,.int .u32 0,.slice none 0 0,.bool false,.int .i64 0,.int .i64 0,.bool false,.int .i64 0,.int .i64 0,.int .i64 0,.bool false] 173),by go_simp,GBl.made st.inv rfl h13 (by decide) (by decide) (by decide) (by decide)⟩
   case s13 =>
    refine qZa rfl rfl rfl fun γ L v a w1 st=>?_
    have hc9:=st.dep 9 (by kernel_rfl);have hc8:=st.down 9 8 hc9 (by kernel_rfl);have hc7:=st.down 8 7 hc8 (by kernel_rfl);have hc12:=st.dep 12 (by kernel_rfl);obtain⟨A',c',hγ,_⟩:=st.inv.call hc7;obtain⟨g,g1,g2,⟨Z,g3,g4⟩,_⟩:=st.inv.new hc12;have e9:=st.val 9 94 rfl (by kernel_rfl);rw[(st.φ 9 (by kernel_rfl):v 9=_),st.inv.ex hc9]at e9;simp at e9;have e12:=st.val 12 10 rfl (by kernel_rfl);rw[(st.φ 12 (by kernel_rfl):v 12=_),g1]at e12;simp at e12;have hb13:(qJx (γ 0)).size=13:=by rw[hγ];rfl
    refine⟨_,qQv rfl (b:=g) (off:=0) (cells:=qJx (γ 0)) (by simp[Act.eval,e12]) (by simp[Act.eval,e9]) (by rw[hb13,←g4];exact g3.there) (by rw[hb13];exact qQf) (by rw[hγ];exact qQQ _ _ _ _),?_⟩
    exact GBl.stored st.inv hc7 hc12 (by decide) (by decide) g1
   case s14 =>
    refine qQi (x:=.bool r.2.1) rfl rfl rfl (GBl.keep (j:=14) (by decide) (by decide) (by decide) (by decide) (by decide)) fun γ L v a w1 st=>?_
    have e10:=st.val 10 95 rfl (by kernel_rfl);rw[(st.φ 10 (by kernel_rfl):v 10=_)]at e10;simp at e10;go_simp
   case s15 =>
    refine qQi (x:=.int .i64 r.2.2) rfl rfl rfl (GBl.keep (j:=15) (by decide) (by decide) (by decide) (by decide) (by decide)) fun γ L v a w1 st=>?_
    have e11:=st.val 11 96 rfl (by kernel_rfl);rw[(st.φ 11 (by kernel_rfl):v 11=_)]at e11;simp at e11;go_simp
  case fin =>
   intro γ L v wx hall hG hφ;have h11:v 14=.bool r.2.1:=hφ 14 (by decide);have h12:v 15=.int .i64 r.2.2:=hφ 15 (by decide);have h10:v 12 = γ 1:=hφ 12 (by decide);obtain⟨A',c',hγ,hO⟩:=hG.call (hall 7 (by decide));obtain⟨q,q1,q2,⟨Z,q3,q4⟩,q5⟩:=hG.new (hall 12 (by decide))
   have hQ:At wx q 173 (blCells r.1 (.slice A' r.1.disks.length c')):=by
    have:=At.of_range q3 (cs:=qJx (γ 0)) (by rw[q4,hγ];rfl) (q5 (hall 13 (by decide)))
    rw[hγ]at this;exact this
   rw[q1]at h10;have hEx:=hG.ext;have HAB:=Hh (byBlob_R HFS.out HPV.out);rw[hR]at HAB;have HRO2:=Hh hO;clear q1 q5 q3 hγ hG hφ hall hrw hrx hry hr0 HBC hR hO;have hB:=hB.ext hEx;have hY:=hY.ext hEx;have hC:=hC.ext hEx;have hS:=hS.ext hEx;have hE:=hE.trans hEx;have lS:=hS.lt;have lC:=hC.lt;have lY:=hY.lt;have lB:=hB.lt
   change Exit.then _ _ _ (qQC _ v _ 16) wx
   simp only[qQC,qQD,Act.put];simp only[List.getElem?_toArray,List.getElem?_cons_zero,List.getElem?_cons_succ,Option.bind_some,List.setIfInBounds_toArray,List.set_cons_zero,List.set_cons_succ];rw[h10,h11,h12]
   by_cases he:r.2.2=0
   ·rw[he];have HAB2:Hid (P.app x=rs1 (if r.2.1=true then(P.set r.1,0)else(P.drop r.1.id,0))):=Hh (by rw[qJy HK.out.1 HKD.out.1 HKD.out.2,HAB.out,if_neg (by simp[he])]);clear HAB he;have q0:=hQ.cell 0;simp[blCells]at q0;have HRQ:=Hh hQ.range;have HRX:=Hh hB.range;rcases Bool.eq_false_or_eq_true r.2.1 with ht|ht
    ·rw[ht];have HAP:Hid (P.app x=(P.set r.1,Rs.er 0)):=Hh (by rw[HAB2.out,if_pos ht];rfl);clear HAB2 ht;have HST:=Hh (qXv wx (.agg X) P (HRF.out.ext hE) r.1 (.slice A' r.1.disks.length c') HRO2.out HI.out.asc (by have:=HI.out.len;omega) HI.out.vlen)
     go_wp2_with (first|(refine wpList_load_mid rfl 59 _ rfl xb 0 rfl _ _ HRX.out underlying59 rfl HI1.out ?_)|(refine wpList_load_mid rfl 173 _ rfl q 0 rfl _ _ HRQ.out underlying173 rfl qQf ?_))
     refine HST.out.mono ?_;rintro e w4 ⟨nv,rfl,hO,hE4⟩;obtain⟨lv2,DV2,rfl,hd2,hr2⟩:=hO;obtain⟨A2,c2,rfl⟩:=qQc hr2.own;have hC:=hC.ext hE4;have hS:=hS.ext hE4;have hE:=hE.trans hE4;have h37':=qQr (.slice A2 DV2.length c2) (V:=(P.set r.1).vols) HI.out.vlen;have hone':=qQy A2 DV2.length c2 (P.set r.1).vols;have hrf:qZj w4 (.agg (qQj (.slice A2 DV2.length c2) (P.set r.1).vols)) (P.set r.1):=⟨_,DV2,rfl,hd2,hr2⟩;generalize qQj (.slice A2 DV2.length c2) (P.set r.1).vols=X2 at h37' hone' hrf⊢;have hTO:=qZe (X:=X2) (R:=zZR) hC hS (by rw[HZ.out,h37']) rfl h37' rfl (by omega);have HTO:=Hh hTO;have hroC:Chg (fun k=>k=xb+1+1∨k=xb+1+1+1) w4 ((w4.setCells (xb+1+1) 0 X2.toList).setCells (xb+1+1+1) 0 zZR.toList):=Chg.setCells (Chg.setCells (Er w4).chg (.inl rfl) _ _) (.inr rfl) _ _;have HRO:=Hh (qZj.two hrf ⟨_,hC⟩ ⟨_,hS⟩ hroC);have HEF:=Hh (hTO.ext w hE (by have:=HXB.out;omega) (by have:=HXB.out;omega));clear hB hY hC hS hE hTO hr2 hd2 hrf hroC
     go_wp2_with (first|(refine wpList_store_mid rfl 59 _ _ rfl (xb+1+1) 0 X2 rfl rfl HTO.out.t1 (by rw[h37'];exact qQm) hone' ?_)|(refine wpList_store_mid rfl 64 _ _ rfl (xb+1+1+1) 0 #[.int .i64 0,.int .u64 0,.int .i64 0,.int .u32 0,.slice none 0 0] rfl rfl HTO.out.t2 qQo (by simp[Value.oneCell']) ?_))
     refine bodyPost_ret (v:=.tuple #[.agg X2,.agg zZR]) (qQp results54 _ rfl rfl HTO.out.l1 HTO.out.l2) rfl ?_;rw[HAP.out];exact⟨.agg X2,.slice none 0 0,rfl,HRO.out,qQx _ _ _,HEF.out⟩
    ·rw[ht];have HAP:Hid (P.app x=(P.drop r.1.id,Rs.er 0)):=Hh (by rw[HAB2.out,if_neg (by rw[ht];decide)];rfl);clear HAB2 ht;have HST:=Hh (rdrop_any wx (.agg X) P (HRF.out.ext hE) r.1.id (by have:=HI.out.len;omega) HI.out.vlen)
     go_wp2_with (refine wpList_load_mid rfl 59 _ rfl xb 0 rfl _ _ HRX.out underlying59 rfl HI1.out ?_)
     refine HST.out.mono ?_;rintro e w4 ⟨nv,rfl,hO,hE4⟩;obtain⟨lv2,DV2,rfl,hd2,hr2⟩:=hO;obtain⟨A2,c2,rfl⟩:=qQc hr2.own;have hC:=hC.ext hE4;have hS:=hS.ext hE4;have hE:=hE.trans hE4;have h37':=qQr (.slice A2 DV2.length c2) (V:=(P.drop r.1.id).vols) HI.out.vlen;have hone':=qQy A2 DV2.length c2 (P.drop r.1.id).vols;have hrf:qZj w4 (.agg (qQj (.slice A2 DV2.length c2) (P.drop r.1.id).vols)) (P.drop r.1.id):=⟨_,DV2,rfl,hd2,hr2⟩;generalize qQj (.slice A2 DV2.length c2) (P.drop r.1.id).vols=X2 at h37' hone' hrf⊢;have hTO:=qZe (X:=X2) (R:=zZR) hC hS (by rw[HZ.out,h37']) rfl h37' rfl (by omega);have HTO:=Hh hTO;have hroC:Chg (fun k=>k=xb+1+1∨k=xb+1+1+1) w4 ((w4.setCells (xb+1+1) 0 X2.toList).setCells (xb+1+1+1) 0 zZR.toList):=Chg.setCells (Chg.setCells (Er w4).chg (.inl rfl) _ _) (.inr rfl) _ _;have HRO:=Hh (qZj.two hrf ⟨_,hC⟩ ⟨_,hS⟩ hroC);have HEF:=Hh (hTO.ext w hE (by have:=HXB.out;omega) (by have:=HXB.out;omega));clear hB hY hC hS hE hTO hr2 hd2 hrf hroC
     go_wp2_with (first|(refine wpList_store_mid rfl 59 _ _ rfl (xb+1+1) 0 X2 rfl rfl HTO.out.t1 (by rw[h37'];exact qQm) hone' ?_)|(refine wpList_store_mid rfl 64 _ _ rfl (xb+1+1+1) 0 #[.int .i64 0,.int .u64 0,.int .i64 0,.int .u32 0,.slice none 0 0] rfl rfl HTO.out.t2 qQo (by simp[Value.oneCell']) ?_))
     refine bodyPost_ret (v:=.tuple #[.agg X2,.agg zZR]) (qQp results54 _ rfl rfl HTO.out.l1 HTO.out.l2) rfl ?_;rw[HAP.out];exact⟨.agg X2,.slice none 0 0,rfl,HRO.out,qQx _ _ _,HEF.out⟩
   ·have hne:(r.2.2 == 0)=false:=by rw[beq_eq_false_iff_ne];exact he
    have HAP:Hid (P.app x=(P,Rs.er r.2.2)):=Hh (by rw[qJy HK.out.1 HKD.out.1 HKD.out.2,HAB.out,if_pos he];rfl);clear HAB;have hTO:=qZe (X:=X) (R:=#[.int .i64 r.2.2,.int .u64 0,.int .i64 0,.int .u32 0,.slice none 0 0]) hC hS (by rw[HZ.out,H37.out]) rfl H37.out rfl (by omega);have HTO:=Hh hTO;have HRG:=Hh hB.range;have HEF:=Hh (hTO.ext w hE (by have:=HXB.out;omega) (by have:=HXB.out;omega));clear hB hY hC hS hE hTO
    go_wp2_with (first|(refine wpList_load_mid rfl 59 _ rfl xb 0 rfl _ _ HRG.out underlying59 rfl HI1.out ?_)|(refine wpList_store_mid rfl 59 _ _ rfl (xb+1+1) 0 X rfl rfl HTO.out.t1 HI2.out HONE.out ?_)|(refine wpList_store_mid rfl 64 _ _ rfl (xb+1+1+1) 0 #[.int .i64 r.2.2,.int .u64 0,.int .i64 0,.int .u32 0,.slice none 0 0] rfl rfl HTO.out.t2 qQo (by simp[Value.oneCell']) ?_))
    refine bodyPost_ret (v:=.tuple #[.agg X,.agg #[.int .i64 r.2.2,.int .u64 0,.int .i64 0,.int .u32 0,.slice none 0 0]]) (qQp results54 _ rfl rfl HTO.out.l1 HTO.out.l2) rfl ?_;rw[show P.app x=(P,Rs.er r.2.2)from HAP.out];exact⟨.agg X,.slice none 0 0,rfl,HRF.out.ext HEF.out,qQx _ _ _,HEF.out⟩
open Go.RowKit Go.Sort
theorem rapply_any(w:World)(v:Value)(P:Pm)(n:Nat)(h:qZj w v P)(hi:PInv n P)(hn:n≤1000000)(x:Cmd)(dx:Value)(hx:w.ownsRow 0 3 1 dx x.disks.length (x.disks.map (Value.int .i64)))(hd:x.disks.length≤17592186043904)(hnm:x.name.size≤9223372036854775807)(hw:x.Wf) :
 Calls prog 54 #[v,qQd x dx] w (qXN w (P.app x)):=by
 cases hg:x.good with
 | false=>exact rapply_bad w v P n h hi hn x dx hx hd hnm hw hg
 | true =>
  obtain⟨hk,hk0,_,_,_,_,_,_,hv,_⟩:=Cmd.good_iff.1 hg
  by_cases h6:x.kind<6
  ·exact rapply_client w v P n h hi hn x dx hx hd hnm hw ⟨hg,by omega,h6⟩
  obtain⟨j,hj⟩:∃j:Nat,x.vol=(j:Int):=⟨x.vol.toNat,by omega⟩;have hj12:j<12:=by omega
  obtain⟨y,hy⟩:∃y,P.vols[j]? = some y:=⟨_,List.getElem?_eq_getElem (by rw[hi.vlen];exact hj12)⟩
  by_cases h11:x.kind=11
  ·exact rapply_11 w v P n h hi hn x dx hx hd hnm hw j y ⟨hg,h11,hj,hj12,hy⟩
  by_cases h12:x.kind=12
  ·exact rapply_12 w v P n h hi hn x dx hx hd hnm hw j y ⟨hg,h12,hj,hj12,hy⟩
  by_cases h13:x.kind=13
  ·exact rapply_13 w v P n h hi hn x dx hx hd hnm hw j y ⟨hg,h13,hj,hj12,hy⟩
  exact rapply_b w v P n h hi hn x dx hx hd hnm hw j y ⟨hg,by omega,hj,hj12,hy⟩
open Go.RowKit Go.Sort
theorem same02_any(w:World)(av bv:Value)(l:List ByteArray)(hS:Sl w av (l.map Value.string))(hT:Sl w bv (l.map Value.string))(hl:l.length≤1000000000000) :
 Calls prog 58 #[av,bv] w fun e w'=>e=.returned (.int .i64 0)∧Ext w w':=by
 obtain⟨A,c,rfl,hx⟩:=hS;obtain⟨B,d,rfl,hy⟩:=hT;rw[List.length_map]
 go_enter func58,ntmps58
 have HS:Hid (Sl w (.slice A l.length c) (l.map Value.string)):=Hh ⟨A,c,by rw[List.length_map],hx⟩;have HT:Hid (Sl w (.slice B l.length d) (l.map Value.string)):=Hh ⟨B,d,by rw[List.length_map],hy⟩;clear hx hy;go_wp2_with fail
 go_loopw [13] (fun iv wr=>∃k:Nat,k≤l.length∧iv=.int .i64 (k:Int)∧Ext w wr) (fun iv _=>l.length - (intOf iv).toNat)
 case atStart=>exact⟨0,by omega,rfl,Er _⟩
 case round =>
  obtain⟨k,hk,rfl,hE⟩:=hrel
  by_cases hlt:k<l.length
  ·obtain⟨s,hs⟩:∃s,l[k]? = some s:=⟨_,List.getElem?_eq_getElem hlt⟩;obtain⟨A',c',ha,hc⟩:=HS.out.ext hE;obtain⟨B',d',hb,hd⟩:=HT.out.ext hE;have hne:l.map Value.string≠[]:=fun e=>by rw[List.map_eq_nil_iff.1 e]at hlt;simp at hlt
   obtain⟨b,o,rfl,hcc⟩:=hc hne;obtain⟨b2,o2,rfl,hdd⟩:=hd hne;injection ha with ha q1 q2;injection hb with hb q3 q4;clear q1 q2 q3 q4;subst ha hb;have c1:=hcc k (.string s) (by rw[List.getElem?_map,hs];rfl);have d1:=hdd k (.string s) (by rw[List.getElem?_map,hs];rfl);clear hc hd hcc hdd hs hne;have rg:∀ {p:Addr} {u:Value},wr.cell? p=some u→∀d os,(grow (redrawn wr d) os).cell? p=some u:=fun h d os=>(Ext.cell (qZi wr d os) (qZl h)).trans h
   have r1:=rg c1;have r2:=rg d1;clear rg;go_wp2_with fail
   refine qQ3 (by kernel_rfl) (by kernel_rfl) ?_
   repeat (go_big_quiet_step (fail))
   refine wpQuiet_nil ?_;intro W8 hE8;go_wp2_with fail
   exact⟨⟨k+1,by omega,by simp,hE.trans hE8⟩,by simp only[intOf,Int.toNat_natCast];omega⟩
  ·obtain rfl:k=l.length:=by omega
   go_wp2_with fail
   go_ret
   exact⟨rfl,hE⟩
open Go.RowKit Go.Sort
theorem qZj.chgT{w w':World}{v:Value}{P:Pm}{g:Nat}{t:TypeId}{Z:Array Value}(h:qZj w v P)(ha:At w g t Z)(h1:173≠t)(h2:3≠t)(hc:Chg (· = g) w w'):qZj w' v P:=by
 obtain⟨lv,DV,e1,e2,h3⟩:=h;exact⟨lv,DV,e1,e2,⟨qQa h3.own hc fun k hk e=>qQb h3.own ha h1 k hk e,fun p hp=>qQa (h3.dks p hp) hc fun k hk e=>qQb (h3.dks p hp) ha h2 k hk e⟩⟩
section
variable{W0 w w':World}{c:Nat}{T:TypeId}{js:Nat}{X:Array Value}{γ : Nat→Value}{L:Nat→Bool}
end
section
variable{W0 w w':World}{R:Pm×Rs}{γ : Nat→Value}{L:Nat→Bool}
end
open Go.RowKit
def seCmd(x:Cmd):Cmd := { x with name:=cut x.name 32,disks:=qZP x.disks }
def qXw(x:Cmd)(o:ByteArray):List UInt8:=if(seCmd x).good=true then(seCmd x).enc else(cut o 60).data.toList
theorem seCmd_wf{x:Cmd}(h:x.Wf):(seCmd x).Wf:=by
 obtain⟨h1,h2,h3,h4,h5,h6,h7,h8,h9,_⟩:=h;refine⟨h1,h2,h3,h4,h5,h6,h7,h8,h9,fun d hd=>?_⟩
 have:=qJf (qJg x.disks) d hd
 omega
theorem enc_len{c:Cmd}(h:c.good=true):c.enc.length≤300:=by
 obtain⟨_,_,h3,_,_,h6,_⟩:=Cmd.good_iff.1 h;have h7:=qQ8 h3
 have e:c.enc=qQw c.kind++(qQw c.client++(qQw c.seq++(qZh c.name++(qQ1 c.blob++(qQw c.size++(qQ1 c.sum++(qXD c.disks++(qQw c.pool++(qQw c.vol++qQw c.at_))))))))):=by
  simp[Cmd.enc,Cmd.enc1,List.append_assoc]
 rw[e];simp only[List.length_append];have a1:=qQe c.kind;have a2:=qQe c.client;have a3:=qQe c.seq;have a4:=qZJ c.name;have a5:=qQF c.blob;have a6:=qQe c.size;have a7:=qQF c.sum;have a8:=qX7 c.disks;have a9:=qQe c.pool;have a10:=qQe c.vol;have a11:=qQe c.at_;omega
theorem seBytes_len(x:Cmd)(o:ByteArray):(qXw x o).length≤300:=by
 unfold qXw;split
 ·rename_i h;exact enc_len h
 ·have:=cut_size o 60
  have e:(cut o 60).data.toList.length=(cut o 60).size:=by simp
  omega
open Go.RowKit
structure Last where
 seq:Int
 r:Rs
structure Mach where
 P:Pm
 cl:List (Int×Last)
 n:Int
def Mach.empty:Mach:=⟨Pm.empty,[],0⟩
def Mach.seq(M:Mach)(k:Int):Int:=((qZC k M.cl).map Last.seq).getD 0
def Mach.told(M:Mach)(k s:Int):Option Rs:=match qZC k M.cl with
 | some l=>if l.seq=s then some l.r else none
 | none=>none
def Mach.inc(M:Mach):Mach := { M with n:=M.n+1 }
def Cmd.isCl(c:Cmd):Bool:=decide (1≤c.kind)&&decide (c.kind≤5)
def Mach.cmd(M:Mach)(x:Cmd):Mach×Rs :=
 if x.isCl=false then({ M with P:=(M.P.app x).1 },(M.P.app x).2)
 else if x.client=0∨x.seq=0∨x.seq<M.seq x.client then(M,Rs.er 16)
 else match M.told x.client x.seq with
  | some r=>(M,r)
  | none=>({ M with P:=(M.P.app x).1,cl:=(x.client,⟨x.seq,(M.P.app x).2⟩)::qZy x.client M.cl },(M.P.app x).2)
def Mach.app(M:Mach)(s:List UInt8):Mach×Rs :=
 if s=[]then(M.inc,Rs.er 0)
 else if(qQ2 s).2=0 then((M.cmd (qQ2 s).1).1.inc,(M.cmd (qQ2 s).1).2)
 else(M.inc,Rs.er (qQ2 s).2)
structure RsOk (n:Nat) (r:Rs):Prop where
 err:0≤r.err∧r.err≤17
 blob:r.blob<18446744073709551616
 size:0≤r.size∧r.size≤4000
 sum:r.sum<4294967296
 len:r.names.length≤n
 nm:∀m∈r.names,m.size≤32
theorem RsOk.er{n:Nat}(e:Int)(h:0≤e∧e≤17):RsOk n (Rs.er e):=⟨h,by show 0<_;omega,by show(0:Int)≤0∧(0:Int)≤4000;omega,by show 0<_;omega,Nat.zero_le _,fun m hm=>by cases hm⟩
theorem RsOk.le{n m:Nat}{r:Rs}(h:RsOk n r)(hm:n≤m):RsOk m r:=⟨h.err,h.blob,h.size,h.sum,Nat.le_trans h.len hm,h.nm⟩
theorem qQz(e:Int)(h:0≤e:=by decide)(h2:e≤17:=by decide):0≤e∧e≤17:=⟨h,h2⟩
theorem put_errR{P:Pm}{x:Cmd} : 0≤(P.put x).2∧(P.put x).2≤17:=by
 unfold Pm.put;split
 ·first|exact qQz 0|exact qQz 1|exact qQz 5|exact qQz 6|exact qQz 10|exact qQz 16
 ·split
  ·first|exact qQz 0|exact qQz 1|exact qQz 5|exact qQz 6|exact qQz 10|exact qQz 16
  ·first|exact qQz 0|exact qQz 1|exact qQz 5|exact qQz 6|exact qQz 10|exact qQz 16
theorem volume_errR{P:Pm}{x:Cmd} : 0≤(P.volume x).2∧(P.volume x).2≤17:=by
 unfold Pm.volume;split
 ·first|exact qQz 0|exact qQz 1|exact qQz 5|exact qQz 6|exact qQz 10|exact qQz 16
 ·split
  ·split
   ·first|exact qQz 0|exact qQz 1|exact qQz 5|exact qQz 6|exact qQz 10|exact qQz 16
   ·first|exact qQz 0|exact qQz 1|exact qQz 5|exact qQz 6|exact qQz 10|exact qQz 16
  ·split
   ·first|exact qQz 0|exact qQz 1|exact qQz 5|exact qQz 6|exact qQz 10|exact qQz 16
   ·first|exact qQz 0|exact qQz 1|exact qQz 5|exact qQz 6|exact qQz 10|exact qQz 16
theorem chgB_err{c:Bool}{b:Bl}{x:Cmd} : 0≤(qZt c b x).2∧(qZt c b x).2≤17:=by
 unfold qZt
 repeat' split
 all_goals first|exact qQz 0|exact qQz 1|exact qQz 5|exact qQz 6|exact qQz 10|exact qQz 16
theorem byBlob_errR{P:Pm}{x:Cmd} : 0≤(P.byBlob x).2∧(P.byBlob x).2≤17:=by
 unfold Pm.byBlob;split
 ·first|exact qQz 0|exact qQz 1|exact qQz 5|exact qQz 6|exact qQz 10|exact qQz 16
 ·split
  ·split
   ·first|exact qQz 0|exact qQz 1|exact qQz 5|exact qQz 6|exact qQz 10|exact qQz 16
   ·first|exact qQz 0|exact qQz 1|exact qQz 5|exact qQz 6|exact qQz 10|exact qQz 16
  ·split
   ·first|exact qQz 0|exact qQz 1|exact qQz 5|exact qQz 6|exact qQz 10|exact qQz 16
   ·exact chgB_err
theorem app_ok{n:Nat}{P:Pm}(h:PInv n P)(x:Cmd):RsOk n (P.app x).2:=by
 unfold Pm.app;split
 ·exact RsOk.er 3 ⟨by decide,by decide⟩
 ·split
  ·exact RsOk.er _ put_errR
  ·split
   ·refine⟨qQz 0,by show 0<_;omega,⟨Int.le_refl 0,by show(0:Int)≤4000;decide⟩,by show 0<_;omega,?_,fun m hm=>?_⟩
    ·show(qZu P.L).length≤n
     unfold qZu;rw[List.length_mergeSort,List.length_map];exact Nat.le_trans (List.length_filter_le _ _) h.len
    ·have hm2:m∈qZu P.L:=hm;unfold qZu at hm2;rw[List.mem_mergeSort]at hm2;obtain⟨b,hb,rfl⟩:=List.mem_map.1 hm2;exact(h.bl b (List.mem_filter.1 hb).1).name.2
   ·split
    ·unfold Pm.byName;cases hq:P.named x.name with
     | none=>exact RsOk.er 5 ⟨by decide,by decide⟩
     | some b =>
      have hb:=h.bl b ((qX4 h).1 hq).1;exact⟨⟨Int.le_refl 0,by show(0:Int)≤17;decide⟩,hb.id.2,hb.size,hb.sum,Nat.zero_le _,fun m hm=>by cases hm⟩
    ·split
     ·exact RsOk.er _ volume_errR
     ·exact RsOk.er _ byBlob_errR
structure MInv (n:Nat) (M:Mach):Prop where
 cat:PInv n M.P
 num:M.n=(n:Int)
 cl:∀p∈M.cl,(1≤p.1∧p.1≤1073741824)∧(1≤p.2.seq∧p.2.seq≤1073741824)∧RsOk n p.2.r
 len:M.cl.length≤n
 nd:(M.cl.map (·.1)).Nodup
theorem MInv.empty:MInv 0 Mach.empty:=⟨PInv.empty 0,rfl,(fun p hp=>by cases hp),Nat.le_refl _,List.nodup_nil⟩
theorem qXW{κ ν : Type}[DecidableEq κ]{k : κ}{L:List (κ × ν)}{v : ν}(h:qZC k L=some v):(k,v)∈L:=by
 unfold qZC at h;rw[Option.map_eq_some_iff]at h;obtain⟨p,hp,rfl⟩:=h;have h1:=List.find?_some hp;have h2:=List.mem_of_find?_eq_some hp;have h3:p.1=k:=by simpa using h1
 subst h3;exact h2
theorem cread_nil:(qQ2 []).2≠0:=by decide
theorem qJz{s:List UInt8}(h:(qQ2 s).2=0):(qQ2 s).1.good=true∧(0≤(qQ2 s).1.client∧(qQ2 s).1.client≤1073741824)∧(0≤(qQ2 s).1.seq∧(qQ2 s).1.seq≤1073741824):=by
 have hi:=cread_inv (s:=s) (c:=(qQ2 s).1) (by rw[←h]);obtain⟨_,_,_,h4,h5,_⟩:=Cmd.good_iff.1 hi.1;exact⟨hi.1,h4,h5⟩
theorem MInv.cmd{n:Nat}{M:Mach}(h:MInv n M){x:Cmd}(hw:x.Wf)(hc:0≤x.client∧x.client≤1073741824)(hs:0≤x.seq∧x.seq≤1073741824) :
 PInv (n+1) (M.cmd x).1.P∧(M.cmd x).1.n=M.n∧(∀p∈(M.cmd x).1.cl,(1≤p.1∧p.1≤1073741824)∧(1≤p.2.seq∧p.2.seq≤1073741824)∧RsOk (n+1) p.2.r)∧(M.cmd x).1.cl.length≤n+1∧((M.cmd x).1.cl.map (·.1)).Nodup∧RsOk (n+1) (M.cmd x).2:=by
 have h0:PInv (n+1) M.P:=h.cat.mono (Nat.le_succ n);have hcl:∀p∈M.cl,(1≤p.1∧p.1≤1073741824)∧(1≤p.2.seq∧p.2.seq≤1073741824)∧RsOk (n+1) p.2.r:=fun p hp=>⟨(h.cl p hp).1,(h.cl p hp).2.1,(h.cl p hp).2.2.le (Nat.le_succ n)⟩
 have hlen:M.cl.length≤n+1:=Nat.le_succ_of_le h.len;have hr:=(app_ok h.cat x).le (Nat.le_succ n);unfold Mach.cmd
 by_cases h1:x.isCl=false
 ·rw[if_pos h1];exact⟨h.cat.app hw,rfl,hcl,hlen,h.nd,hr⟩
 rw[if_neg h1]
 by_cases h2:x.client=0∨x.seq=0∨x.seq<M.seq x.client
 ·rw[if_pos h2];exact⟨h0,rfl,hcl,hlen,h.nd,RsOk.er 16 (qQz 16)⟩
 rw[if_neg h2];cases ht:M.told x.client x.seq with
 | some r =>
  refine⟨h0,rfl,hcl,hlen,h.nd,?_⟩
  unfold Mach.told at ht;cases hl:qZC x.client M.cl with
  | none=>rw[hl]at ht;cases ht
  | some l =>
   rw[hl]at ht;simp only at ht
   split at ht
   ·injection ht with ht;rw[←ht];exact(hcl _ (qXW hl)).2.2
   ·cases ht
 | none =>
  refine⟨h.cat.app hw,rfl,fun p hp=>?_,?_,?_,hr⟩
  ·rcases List.mem_cons.1 hp with rfl|hp
   ·exact⟨⟨by show 1≤x.client;omega,hc.2⟩,⟨by show 1≤x.seq;omega,hs.2⟩,hr⟩
   ·exact hcl p (List.mem_filter.1 hp).1
  ·show(qZy x.client M.cl).length+1≤n+1
   have:=List.length_filter_le (fun p:Int×Last=>decide (p.1≠x.client)) M.cl
   have:=h.len
   unfold qZy;omega
  ·show(x.client::(qZy x.client M.cl).map (·.1)).Nodup
   rw[List.nodup_cons];refine⟨fun hm=>?_,h.nd.sublist ((List.filter_sublist).map _)⟩
   obtain⟨p,hp,e⟩:=List.mem_map.1 hm
   have:=(List.mem_filter.1 hp).2
   simp only[decide_eq_true_eq]at this;exact this e
theorem MInv.app{n:Nat}{M:Mach}(h:MInv n M)(s:List UInt8):MInv (n+1) (M.app s).1:=by
 have h0:MInv (n+1) M.inc:=⟨h.cat.mono (Nat.le_succ n),by show M.n+1=_;rw[h.num];simp,fun p hp=>⟨(h.cl p hp).1,(h.cl p hp).2.1,(h.cl p hp).2.2.le (Nat.le_succ n)⟩,Nat.le_succ_of_le h.len,h.nd⟩;unfold Mach.app
 by_cases h1:s=[]
 ·rw[if_pos h1];exact h0
 rw[if_neg h1];have hg:=qJz (s:=s);have hw:=fun h=>cread_wf (s:=s) (c:=(qQ2 s).1) h
 generalize qQ2 s=q at hg hw⊢
 by_cases h2:q.2=0
 ·rw[if_pos h2];obtain⟨_,h3,h4⟩:=hg h2;obtain⟨a,b,c,d,e,_⟩:=h.cmd (hw (by rw[←h2])) h3 h4;exact⟨a,by show(M.cmd q.1).1.n+1=_;rw[b,h.num];simp,c,d,e⟩
 ·rw[if_neg h2];exact h0
open Go.RowKit
def lastA(k:Int)(l:Last):List UInt8:=[k,l.seq,l.r.err].flatMap qQw++[l.r.blob].flatMap qQ1++[l.r.size].flatMap qQw++[l.r.sum].flatMap qQ1++[(l.r.names.length:Int)].flatMap qQw
def qQX(p:Int×Last):List UInt8:=lastA p.1 p.2++p.2.r.names.flatMap qZh
def Mach.scl(M:Mach):List (Int×Last):=M.cl.mergeSort fun a b=>decide (a.1≤b.1)
def Mach.head(M:Mach):List UInt8:=[M.n].flatMap qQw++[(⟨M.P.enc.toArray⟩:ByteArray)].flatMap qZh++[(M.cl.length:Int)].flatMap qQw
def Mach.enc(M:Mach):List UInt8:=M.head++M.scl.flatMap qQX
theorem Mach.scl_perm(M:Mach):M.scl.Perm M.cl:=List.mergeSort_perm _ _
theorem Mach.scl_asc{M:Mach}(h:(M.cl.map (·.1)).Nodup):(M.scl.map (·.1)).Pairwise (· < ·):=by
 have h1:M.scl.Pairwise fun a b=>a.1≤b.1:=by
  have:=List.pairwise_mergeSort (le:=fun a b:Int×Last=>decide (a.1≤b.1)) (fun a b c h h'=>by simp at *;omega) (fun a b=>by simp;omega) M.cl
  exact this.imp fun h=>by simpa using h
 have h2:(M.scl.map (·.1)).Nodup:=(M.scl_perm.map (·.1)).nodup_iff.2 h;rw[List.pairwise_map]
 have h3:M.scl.Pairwise fun a b=>a.1≠b.1:=by
  have:=h2
  unfold List.Nodup at this
  rwa[List.pairwise_map]at this
 exact(h1.and h3).imp fun hh=>by omega
structure MW (n:Nat) (M:Mach):Prop where
 cat:PInv n M.P
 n2:n≤2147483648
 L:M.P.L.length<50
 num:0≤M.n∧M.n≤1099511627776
 cl:∀p∈M.cl,(1≤p.1∧p.1≤1073741824)∧(1≤p.2.seq∧p.2.seq≤1073741824)∧RsOk 1000 p.2.r
 len:M.cl.length≤100
 nd:(M.cl.map (·.1)).Nodup
theorem MInv.w{n:Nat}{M:Mach}(h:MInv n M)(hn:n<50):MW n M :=
 ⟨h.cat,by omega,by have:=h.cat.len;omega,by have:=h.num;omega,fun p hp=>⟨(h.cl p hp).1,(h.cl p hp).2.1,(h.cl p hp).2.2.le (by omega)⟩,by have:=h.len;omega,h.nd⟩
theorem penc_len{n:Nat}{P:Pm}(hi:PInv n P)(hn:P.L.length<50):P.enc.length≤15200:=by
 have:=enc_pre2 hi hn 12
 rw[List.take_of_length_le (by have:=hi.vlen;omega)]at this;exact this
theorem lastA_length(k:Int)(l:Last):(lastA k l).length≤70:=by
 have:=qQe k
 have:=qQe l.seq
 have:=qQe l.r.err
 have:=qQF l.r.blob
 have:=qQe l.r.size
 have:=qQF l.r.sum
 have:=qQe l.r.names.length
 unfold lastA;simp;omega
theorem nms_length{l:List ByteArray}(h:∀m∈l,m.size≤32):(l.flatMap qZh).length≤l.length * 42 :=
 flatLe qZh 42 l fun m hm=>by have:=qZJ m;have:=h m hm;omega
theorem lastEnc_length{p:Int×Last}(h:RsOk 1000 p.2.r):(qQX p).length≤42070:=by
 have h1:=lastA_length p.1 p.2;have h2:=nms_length h.nm;have h3:=h.len;unfold qQX;rw[List.length_append];omega
theorem head_length{n:Nat}{M:Mach}(h:MW n M):M.head.length≤15300:=by
 have h1:=penc_len h.cat h.L;have h2:=qQe M.n;have h3:=qZJ (⟨M.P.enc.toArray⟩:ByteArray);have h4:(⟨M.P.enc.toArray⟩:ByteArray).size=M.P.enc.length:=by show M.P.enc.toArray.size=_;simp
 have h5:=qQe M.cl.length;unfold Mach.head;simp;omega
theorem menc_pre{n:Nat}{M:Mach}(h:MW n M)(k:Nat):(M.head++(M.scl.take k).flatMap qQX).length≤4300000:=by
 have h1:=head_length h;have h2:=flatLe qQX 42070 (M.scl.take k) fun p hp=>lastEnc_length (h.cl p (M.scl_perm.mem_iff.1 (List.mem_of_mem_take hp))).2.2
 have h3:(M.scl.take k).length≤M.scl.length:=List.length_take_le' _ _;have h4:=M.scl_perm.length_eq;have h5:=h.len;have h6:(M.scl.take k).length * 42070≤100 * 42070:=Nat.mul_le_mul_right _ (by omega);rw[List.length_append];omega
theorem scl_get{n:Nat}{M:Mach}(h:MW n M){k:Nat}{p:Int×Last}(hp:M.scl[k]? = some p):qZC p.1 M.cl=some p.2∧p∈M.cl:=by
 have hm:=M.scl_perm.mem_iff.1 (List.mem_of_getElem? hp);refine⟨?_,hm⟩
 have hnd:=h.nd;generalize M.cl=L at hm hnd
 induction L with
 | nil=>cases hm
 | cons q r ih =>
  unfold qZC;rw[List.find?_cons]
  by_cases hq:q.1=p.1
  ·have e:decide (q.1=p.1)=true:=by simpa using hq
   rw[e];rcases List.mem_cons.1 hm with rfl|hm
   ·rfl
   ·exfalso
    rw[List.map_cons,List.nodup_cons]at hnd;exact hnd.1 (hq ▸ List.mem_map.2 ⟨p,hm,rfl⟩)
  ·have e:decide (q.1=p.1)=false:=by simpa using hq
   rw[e]
   have hm2:p∈r:=by
    rcases List.mem_cons.1 hm with rfl|hm
    ·exact absurd rfl hq
    ·exact hm
   rw[List.map_cons,List.nodup_cons]at hnd;exact ih hm2 hnd.2
open Go.RowKit Go.Sort
def qXo(l:Last×Value):Value:=.agg #[.int .i64 l.1.seq,.int .i64 l.1.r.err,.int .u64 (l.1.r.blob:Int),.int .i64 l.1.r.size,.int .u32 (l.1.r.sum:Int),l.2]
def qJl:Value:=.agg #[.int .i64 0,.int .i64 0,.int .u64 0,.int .i64 0,.int .u32 0,.slice none 0 0]
theorem qXp:prog.underlying 69=some (.map 3 76):=underlying69
theorem zero_last(w:World):(zeroValue 76).run prog w=.ok qJl w:=by kernel_rfl
theorem capply_S{w:World}{B:Nat→Prop}{c mb mn:Nat}{P:Pm}{n:Nat}(h:qZz w B c mb mn P)(hi:PInv n P)(hn:n≤1000000)(x:Cmd)(dv:Value)(hS:w.ownsRow 0 3 1 dv x.disks.length (x.disks.map (Value.int .i64)))(hdl:x.disks.length≤17592186043904)(hnl:x.name.size≤9223372036854775807)(hx:x.Wf) :
 Calls prog 32 #[.pointer (some ⟨c,0,none⟩),qQd x dv] w fun e w'=>Came B c mb mn (P.app x) w e w'∧∀b es clk,b≠mb→b≠mn→w.heap[b]? = some (.map es clk)→w'.heap[b]? = some (.map es clk):=by
 obtain⟨C,hC,hR⟩:=h;refine(app_any w B c mb mn C P n hC hR hi hn x dv hS hdl hnl hx).mono ?_
 rintro e w' ⟨nv,rfl,hON,C',h1,h2,h3⟩;obtain⟨A,cp,rfl⟩:=qQc hON;refine⟨⟨A,cp,rfl,hON,⟨C',h1,h2⟩,Kp.of_S hC h3⟩,fun b es clk hb1 hb2 hb=>(h3.block b (qQI hb) ?_).trans hb⟩
 rintro(rfl|rfl|rfl|⟨r,hr,rfl⟩)
 ·have:=hC.blk;unfold At at this;rw[this]at hb;cases hb
 ·exact hb1 rfl
 ·exact hb2 rfl
 ·have:=(hC.bl r hr).1;unfold At at this;rw[this]at hb;cases hb
abbrev Rows14:=List (Int×(Last×Value))
structure MAt (w:World) (B:Nat→Prop) (m c mb mn mc:Nat) (M:Mach) (rows:Rows14):Prop where
 blk:At w m 71 #[.pointer (some ⟨c,0,none⟩),.map (some mc),.int .i64 M.n]
 cat:qZz w B c mb mn M.P
 cl:rows.map (fun p=>(p.1,p.2.1))=M.cl
 map:qQE qZM qXo w mc rows
 nms:∀p∈rows,w.ownsRow 0 9 1 p.2.2 p.2.1.r.names.length (p.2.1.r.names.map Value.string)
 ne:mc≠mb∧mc≠mn
 lo:B m∧B mc
 nb:∀p∈rows,∀k,some k=p.2.2.ownBlock→B k
def qZo(w:World)(B:Nat→Prop)(m:Nat)(M:Mach):Prop:=∃c mb mn mc rows,MAt w B m c mb mn mc M rows
structure Km (B:Nat→Prop) (w w':World):Prop where
 chg:Chg (fun k=>B k) w w'
 at_:∀g t cs,t≠100→t≠108→t≠71→At w g t cs→At w' g t cs
section
variable{w w' w'':World}{B:Nat→Prop}{m c mb mn mc:Nat}{M:Mach}{rows:Rows14}
theorem Km.of_ext(h:Ext w w'):Km B w w':=⟨h.chg,fun _ _ _ _ _ _ hA=>hA.ext h⟩
theorem Km.trans(h:Km B w w')(h':Km B w' w''):Km B w w'':=⟨h.chg.trans h'.chg (fun _ _ e=>e),fun g t cs h1 h2 h3 hA=>h'.at_ g t cs h1 h2 h3 (h.at_ g t cs h1 h2 h3 hA)⟩
theorem Km.own{base:Nat}{e:TypeId}{size:Nat}{v:Value}{n:Nat}{xs:List Value}(h:Km B w w')(ho:w.ownsRow base e size v n xs)(h1:e≠100)(h2:e≠108)(h3:e≠71):w'.ownsRow base e size v n xs:=by
 refine⟨ho.1,?_⟩
 rcases ho.2 with hn|⟨g,cap,cur,hv,hb,hg,rest⟩
 ·exact .inl hn
 ·exact .inr ⟨g,cap,cur,hv,hb,h.at_ g e cur h1 h2 h3 hg,rest⟩
theorem Km.ext{w0:World}(h0:Ext w0 w)(h:Km B w w')(hB:∀k,B k→w0.heap.size≤k):Ext w0 w':=h0.chg_trans h.chg |>.mono (fun k hk e=>by have e':B k:=e;have:=hB k e';omega)
theorem MAt.ext(h:MAt w B m c mb mn mc M rows)(he:Ext w w'):MAt w' B m c mb mn mc M rows :=
 ⟨h.blk.ext he,h.cat.ext he,h.cl,h.map.ext he,fun p hp=>own_kx (h.nms p hp) he,h.ne,h.lo,h.nb⟩
theorem qZo.ext(h:qZo w B m M)(he:Ext w w'):qZo w' B m M:=by
 obtain⟨c,mb,mn,mc,rows,h⟩:=h;exact⟨c,mb,mn,mc,rows,h.ext he⟩
theorem rows_get(h:rows.map (fun p=>(p.1,p.2.1))=M.cl)(k:Int):(qZC k rows).map (·.1)=qZC k M.cl:=by
 rw[←h];unfold qZC;rw[List.find?_map,Option.map_map,Option.map_map];rfl
theorem MAt.look(h:MAt w B m c mb mn mc M rows)(k:Int) :
 (Instr.lookup 69 (.map (some mc)) (.int .i64 k) true).run prog w=.ok (.tuple #[(qZC k rows).elim qJl qXo,.bool (qZC k rows).isSome]) w :=
 h.map.lookup_ok (K:=qZM) qXp underlying3 zero_last k
theorem MAt.look0(h:MAt w B m c mb mn mc M rows)(k:Int) :
 (Instr.lookup 69 (.map (some mc)) (.int .i64 k) false).run prog w=.ok ((qZC k rows).elim qJl qXo) w :=
 h.map.lookup (K:=qZM) qXp underlying3 zero_last k
theorem qZz.up{P:Pm}(h:qZz w B c mb mn P):∀k,w.heap.size≤k→B k:=by
 obtain⟨C,hC,_⟩:=h;exact hC.up
theorem MAt.cells(h:MAt w B m c mb mn mc M rows):w.cell? ⟨m,0,none⟩=some (.pointer (some ⟨c,0,none⟩))∧w.cell? ⟨m,1,none⟩=some (.map (some mc))∧w.cell? ⟨m,2,none⟩=some (.int .i64 M.n)∧w.frozen? ⟨m,2,none⟩=false :=
 ⟨h.blk.cell 0,h.blk.cell 1,h.blk.cell 2,h.blk.frozen 2⟩
end
open Go.RowKit Go.Sort
theorem qQs:(prog.info? 36).map (·.size)=some 5:=by kernel_rfl
theorem last_info:(prog.info? 76).map (·.size)=some 6:=by kernel_rfl
theorem sclone_any(w:World)(v:Value)(hl:List ByteArray)(hH:Sl w v (hl.map Value.string))(hb:hl.length≤1000000000) :
 Calls prog 70 #[v] w fun e w'=>∃v',e=.returned v'∧w'.ownsRow w.heap.size 9 1 v' hl.length (hl.map Value.string)∧Ext w w':=by
 obtain⟨A,c,rfl,hx⟩:=hH;rw[List.length_map]
 by_cases hne:hl=[]
 ·subst hne;cases A with
  | none =>
   refine(Tryz.slices_Clone_string_nil _ _ _).mono ?_
   rintro e w' ⟨rfl,rfl⟩;exact⟨_,rfl,⟨rfl,.inl ⟨rfl,rfl⟩⟩,Er _⟩
  | some a =>
   refine(Tryz.slices_Clone_string_zero a c w).mono ?_
   rintro e w' ⟨v',rfl,h1,_,h2⟩;exact⟨_,rfl,h1,Ext.of_below h2⟩
 ·obtain⟨b,o,rfl,hc⟩:=hx (by simpa using hne);refine(Tryz.slices_Clone_string b o hl.length c hl w (Nat.le_refl _) (by omega) (fun j hj=>?_)).mono ?_
  ·exact hc j _ (by rw[List.getElem?_map,List.getElem?_eq_getElem hj,List.getD_eq_getElem?_getD,List.getElem?_eq_getElem hj];rfl)
  ·rintro e w' ⟨v',rfl,h1,_,h2⟩;rw[List.take_length]at h1;exact⟨_,rfl,h1,Ext.of_below h2⟩
theorem sown_any(w:World)(er:Int)(bl:Nat)(sz:Int)(sm:Nat)(nv:Value)(ns:List ByteArray)(hn:w.ownsRow 0 9 1 nv ns.length (ns.map Value.string))(hl:ns.length≤1000000000) :
 Calls prog 33 #[qZB er bl sz sm nv] w fun e w'=>∃A c,e=.returned (qZB er bl sz sm (.slice A ns.length c))∧w'.ownsRow w.heap.size 9 1 (.slice A ns.length c) ns.length (ns.map Value.string)∧Ext w w':=by
 obtain⟨nA,nc,rfl⟩:=qQc hn;unfold qZB;have HN:=Hh hn;clear hn
 go_enter func33,ntmps33
 have hB:=(At.new w 36 #[.int .i64 er,.int .u64 (bl:Int),.int .i64 sz,.int .u32 (sm:Int),.slice nA ns.length nc]).alloc (.cells zZR 36);have hQ:=At.new (w.alloc (.cells #[.int .i64 er,.int .u64 (bl:Int),.int .i64 sz,.int .u32 (sm:Int),.slice nA ns.length nc] 36)) 36 zZR;have hE:=((Er w).alloc (.cells #[.int .i64 er,.int .u64 (bl:Int),.int .i64 sz,.int .u32 (sm:Int),.slice nA ns.length nc] 36)).alloc (.cells zZR 36);rw[show(w.alloc (.cells #[.int .i64 er,.int .u64 (bl:Int),.int .i64 sz,.int .u32 (sm:Int),.slice nA ns.length nc] 36)).heap.size=w.heap.size+1 by simp]at hQ
 go_upto_region 1 with fail
 obtain⟨xb,hxb⟩:∃xb,w.heap.size=xb:=⟨_,rfl⟩;rw[hxb]at hB hQ⊢;generalize World.alloc _ _=W at hB hQ hE⊢;have HXB:=Hh (show w.heap.size≤xb by omega);clear hxb;have b4:=hB.cell 4;simp at b4;have HC:=Hh (sclone_any W (.slice nA ns.length nc) ns (Sl.of_own (own_kx HN.out hE)) hl);go_wp2_with fail
 refine HC.out.mono ?_;rintro e w1 ⟨v',rfl,hO,hE1⟩;obtain⟨A,c,rfl⟩:=qQc hO;have hB:=hB.ext hE1;have hQ:=hQ.ext hE1;replace hO:=own_baseU hO hE.size;have hE:=hE.trans hE1;clear HC b4 hE1;have b4:=hB.cell 4;have bf4:=hB.frozen 4;simp at b4
 go_upto_region 2 with fail
 clear b4 bf4;have hB2:At (w1.setCell ⟨xb,4,none⟩ (.slice A ns.length c)) xb 36 #[.int .i64 er,.int .u64 (bl:Int),.int .i64 sz,.int .u32 (sm:Int),.slice A ns.length c]:=hB.set 4 _;have hch:Chg (· = xb) w1 (w1.setCell ⟨xb,4,none⟩ (.slice A ns.length c)):=Chg.setCell (S:=(· = xb)) (p:=⟨xb,4,none⟩) (Er w1).chg (.inl rfl) _;have hQ2:=hQ.chg hch (by omega);have hO2:=qQa hO hch fun k hk e=>qQb hO hB (by decide) k hk e
 have hE2:Ext w (w1.setCell ⟨xb,4,none⟩ (.slice A ns.length c)):=hE.chg_trans hch |>.mono (fun k hk e=>by have:=HXB.out;have e':k=xb:=e;omega)
 clear hB hQ hO hE hch;generalize w1.setCell ⟨xb,4,none⟩ (.slice A ns.length c)=W2 at hB2 hQ2 hO2 hE2⊢;have HRB:=Hh hB2.range;have HTQ:=Hh hQ2.there;have hch:Chg (· = xb+1) W2 (W2.setCells (xb+1) 0 (#[.int .i64 er,.int .u64 (bl:Int),.int .i64 sz,.int .u32 (sm:Int),.slice A ns.length c]:Array Value).toList):=qQg _ _;have hQ3:At (W2.setCells (xb+1) 0 (#[.int .i64 er,.int .u64 (bl:Int),.int .i64 sz,.int .u32 (sm:Int),.slice A ns.length c]:Array Value).toList) (xb+1) 36 #[.int .i64 er,.int .u64 (bl:Int),.int .i64 sz,.int .u32 (sm:Int),.slice A ns.length c]:=At.cells_all hQ2 rfl;have HO3:=Hh (qQa hO2 hch fun k hk e=>qQb hO2 hQ2 (by decide) k hk e);have HE3:=Hh (hE2.setCells (show w.heap.size≤xb+1 by have:=HXB.out;omega) (#[.int .i64 er,.int .u64 (bl:Int),.int .i64 sz,.int .u32 (sm:Int),.slice A ns.length c]:Array Value).toList 0);have HL:=Hh (run_loadVar_mid (P:=prog) _ (xb+1) 0 36 (#[.int .i64 er,.int .u64 (bl:Int),.int .i64 sz,.int .u32 (sm:Int),.slice A ns.length c]:Array Value).toList _ hQ3.range underlying36 rfl qQs);clear hB2 hQ2 hO2 hE2 hch hQ3
 go_wp2_with (first|(refine wpList_load_mid rfl 36 _ rfl xb 0 rfl _ _ HRB.out underlying36 rfl qQs ?_)|(refine wpList_store_mid rfl 36 _ _ rfl (xb+1) 0 #[.int .i64 er,.int .u64 (bl:Int),.int .i64 sz,.int .u32 (sm:Int),.slice A ns.length c] rfl rfl HTQ.out qQs (by simp[Value.oneCell']) ?_))
 refine bodyPost_ret (v:=.agg #[.int .i64 er,.int .u64 (bl:Int),.int .i64 sz,.int .u32 (sm:Int),.slice A ns.length c]) (qQJ results33 _ rfl HL.out) rfl ?_;exact⟨A,c,rfl,HO3.out,HE3.out⟩
theorem fld_seq(a0 a1 a2 a3 a4 a5:Value)(w:World):(Instr.field 76 (.agg #[a0,a1,a2,a3,a4,a5]) 0).run prog w=.ok a0 w:=by first|kernel_rfl|rfl
section
variable{w:World}{B:Nat→Prop}{m:Nat}{M:Mach}
theorem snew_any(w:World):Calls prog 9 #[] w fun e w'=>∃m,e=.returned (.pointer (some ⟨m,0,none⟩))∧qZo w' (Hi w.heap.size) m Mach.empty∧Ext w w':=by
 have hmm := @run_makeMap prog;have HN:=Hh (cnew_any w)
 go_enter func9,ntmps9
 go_wp2_with fail
 refine HN.out.mono ?_;rintro e w1 ⟨c,mb,mn,rfl,hC,hE⟩;have hMp:=qQE.new qZM qXo w1;have hE2:=(Er w1).alloc (.map #[] 0);have hm:=At.new (w1.alloc (.map #[] 0)) 71 #[.pointer (some ⟨c,0,none⟩),.map (some w1.heap.size),.int .i64 0];have hE3:=(Er (w1.alloc (.map #[] 0))).alloc (.cells #[.pointer (some ⟨c,0,none⟩),.map (some w1.heap.size),.int .i64 0] 71);clear HN;go_wp2_with fail
 go_ret
 obtain⟨C,hCC,hRR⟩:=hC;have hlb:=hCC.bm.lt;have hln:=hCC.nm.lt;have hsz:=hE.size;refine⟨(w1.alloc (.map #[] 0)).heap.size,by simp,⟨c,mb,mn,w1.heap.size,[],hm,⟨C,(hCC.ext hE2).ext hE3,hRR⟩,rfl,hMp.ext hE3,(fun p hp=>by cases hp),⟨by omega,by omega⟩,⟨(by show w.heap.size≤_;simp;omega),hsz⟩,(fun p hp=>by cases hp)⟩,(hE.trans hE2).trans hE3⟩
theorem sseq_any(h:qZo w B m M)(k:Int):Calls prog 11 #[.pointer (some ⟨m,0,none⟩),.int .i64 k] w fun e w'=>e=.returned (.int .i64 (M.seq k))∧Ext w w':=by
 obtain⟨c,mb,mn,mc,rows,hM⟩:=h;obtain⟨c0,c1,c2,_⟩:=hM.cells;have hlk:=hM.look0 k;have hg:=rows_get hM.cl k;have HS:Hid (M.seq k=((qZC k rows).map fun l=>l.1.seq).getD 0):=Hh (by unfold Mach.seq;rw[←hg,Option.map_map];rfl)
 go_enter func11,ntmps11
 clear hg hM;cases hr:qZC k rows with
 | none =>
  rw[hr]at hlk HS;simp only[Option.elim,qJl]at hlk;have hfd:=fld_seq (.int .i64 0) (.int .i64 0) (.int .u64 0) (.int .i64 0) (.int .u32 0) (.slice none 0 0);go_wp2_with fail
  go_ret
  exact⟨by rw[HS.out];rfl,Er _⟩
 | some l =>
  rw[hr]at hlk HS;simp only[Option.elim,qXo]at hlk;have hfd:=fld_seq (.int .i64 l.1.seq) (.int .i64 l.1.r.err) (.int .u64 (l.1.r.blob:Int)) (.int .i64 l.1.r.size) (.int .u32 (l.1.r.sum:Int)) l.2;go_wp2_with fail
  go_ret
  exact⟨by rw[HS.out];rfl,Er _⟩
theorem scount_any(h:qZo w B m M):Calls prog 16 #[.pointer (some ⟨m,0,none⟩)] w fun e w'=>e=.returned (.int .i64 M.n)∧Ext w w':=by
 obtain⟨c,mb,mn,mc,rows,hM⟩:=h;obtain⟨c0,c1,c2,_⟩:=hM.cells
 go_enter func16,ntmps16
 go_wp2_with fail
 go_ret
 exact⟨rfl,Er _⟩
theorem scat_any{c mb mn mc:Nat}{rows:Rows14}(hM:MAt w B m c mb mn mc M rows):Calls prog 19 #[.pointer (some ⟨m,0,none⟩)] w fun e w'=>e=.returned (.pointer (some ⟨c,0,none⟩))∧Ext w w':=by
 obtain⟨c0,c1,c2,_⟩:=hM.cells
 go_enter func19,ntmps19
 go_wp2_with fail
 go_ret
 exact⟨rfl,Er _⟩
end
open Go.RowKit Go.Sort
section
variable{α : Type}(key : α → Int)
def ist(xr : α)(s:List α × Bool)(p : α):List α × Bool :=
 if key p=key xr then s else if(!s.2&&decide (key xr<key p))=true then(s.1++[xr,p],true)else(s.1++[p],s.2)
def ifin(xr : α)(s:List α × Bool):List α := if s.2 then s.1 else s.1++[xr]
def iput(xr : α)(L:List α):List α := L.filter (fun p=>decide (key p<key xr))++xr::L.filter (fun p=>decide (key xr<key p))
theorem ist_on(xr : α):∀(D O:List α),(∀p∈D,key xr<key p)→D.foldl (ist key xr) (O,true)=(O++D,true)
 | [],O,_=>by simp
 | p::r,O,h=>by
  have h1:=h p (List.mem_cons_self ..)
  have e:ist key xr (O,true) p=(O++[p],true):=by
   unfold ist;rw[if_neg (by omega)];simp
  rw[List.foldl_cons,e,ist_on xr r _ fun q hq=>h q (List.mem_cons_of_mem _ hq)];simp
theorem ist_all(xr : α):∀(D O:List α),D.Pairwise (fun a b=>key a<key b)→ifin xr (D.foldl (ist key xr) (O,false))=O++iput key xr D
 | [],O,_=>by simp[ifin,iput]
 | p::r,O,h=>by
  obtain⟨h1,h2⟩:=List.pairwise_cons.1 h;rw[List.foldl_cons];unfold iput;rcases Int.lt_trichotomy (key p) (key xr)with hlt|heq|hgt
  ·have e:ist key xr (O,false) p=(O++[p],false):=by
    unfold ist;rw[if_neg (by omega),if_neg (by simp;omega)]
   rw[e,ist_all xr r _ h2,List.filter_cons,if_pos (by simpa using hlt),List.filter_cons (p:=fun p=>decide (key xr<key p)),if_neg (by simp;omega)];simp[iput]
  ·have e:ist key xr (O,false) p=(O,false):=by
    unfold ist;rw[if_pos heq]
   rw[e,ist_all xr r _ h2,List.filter_cons,if_neg (by simp;omega),List.filter_cons (p:=fun p=>decide (key xr<key p)),if_neg (by simp;omega)];rfl
  ·have e:ist key xr (O,false) p=(O++[xr,p],true):=by
    unfold ist;rw[if_neg (by omega),if_pos (by simp;omega)]
   have hr:∀q∈r,key xr<key q:=fun q hq=>by have:=h1 q hq;omega
   have f1:r.filter (fun p=>decide (key p<key xr))=[]:=List.filter_eq_nil_iff.2 fun q hq=>by have:=hr q hq;simp;omega
   have f2:r.filter (fun p=>decide (key xr<key p))=r:=List.filter_eq_self.2 fun q hq=>by have:=hr q hq;simpa using this
   rw[e,ist_on key xr r _ hr,List.filter_cons,if_neg (by simp;omega),List.filter_cons (p:=fun p=>decide (key xr<key p)),if_pos (by simpa using hgt),f1,f2];simp[ifin]
theorem iput_mem(xr : α)(L:List α):∀q∈iput key xr L,q∈L∨q=xr:=fun q hq=>by
 unfold iput at hq;rcases List.mem_append.1 hq with h|h
 ·exact .inl (List.mem_filter.1 h).1
 ·rcases List.mem_cons.1 h with h|h
  ·exact .inr h
  ·exact .inl (List.mem_filter.1 h).1
theorem iput_asc(xr : α){L:List α}(h:L.Pairwise fun a b=>key a<key b):(iput key xr L).Pairwise fun a b=>key a<key b:=by
 unfold iput;refine List.pairwise_append.2 ⟨h.filter _,List.pairwise_cons.2 ⟨fun q hq=>by simpa using(List.mem_filter.1 hq).2,h.filter _⟩,fun a ha b hb=>?_⟩;have h1:key a<key xr:=by simpa using(List.mem_filter.1 ha).2
 rcases List.mem_cons.1 hb with rfl|hb
 ·exact h1
 ·have h2:key xr<key b:=by simpa using(List.mem_filter.1 hb).2
  omega
theorem split_perm(k:Int):∀L:List α,(L.filter (fun p=>decide (key p<k))++L.filter (fun p=>decide (k<key p))).Perm (L.filter fun p=>decide (¬ key p=k))
 | []=>.nil
 | p::r=>by
  have ih:=split_perm k r;rcases Int.lt_trichotomy (key p) k with h|h|h
  ·rw[List.filter_cons,if_pos (by simpa using h),List.filter_cons (p:=fun p=>decide (k<key p)),if_neg (by simp;omega),List.filter_cons (p:=fun p=>decide (¬ key p=k)),if_pos (by simp;omega)];exact ih.cons p
  ·rw[List.filter_cons,if_neg (by simp;omega),List.filter_cons (p:=fun p=>decide (k<key p)),if_neg (by simp;omega),List.filter_cons (p:=fun p=>decide (¬ key p=k)),if_neg (by simp;omega)];exact ih
  ·rw[List.filter_cons,if_neg (by simp;omega),List.filter_cons (p:=fun p=>decide (k<key p)),if_pos (by simpa using h),List.filter_cons (p:=fun p=>decide (¬ key p=k)),if_pos (by simp;omega)];exact List.perm_middle.trans (ih.cons p)
theorem iput_perm(xr : α)(L:List α):(iput key xr L).Perm (xr::L.filter fun p=>decide (¬ key p=key xr)):=List.perm_middle.trans ((split_perm key (key xr) L).cons xr)
end
abbrev Memo:=(Int×Last)×Value
def qJN(p:Memo):Int:=p.1.1
def qJR(p:Memo):List Value:=[.int .i64 p.1.1,.int .i64 p.1.2.seq,.int .i64 p.1.2.r.err,.int .u64 (p.1.2.r.blob:Int),.int .i64 p.1.2.r.size,.int .u32 (p.1.2.r.sum:Int),p.2]
def mmCells(p:Memo):Array Value:=#[.int .i64 p.1.1,.int .i64 p.1.2.seq,.int .i64 p.1.2.r.err,.int .u64 (p.1.2.r.blob:Int),.int .i64 p.1.2.r.size,.int .u32 (p.1.2.r.sum:Int),p.2]
structure MmRows (w:World) (mv:Value) (DM:List Memo):Prop where
 own:w.ownsRow 0 123 7 mv DM.length ((DM.map qJR).flatten)
 nms:∀p∈DM,w.ownsRow 0 9 1 p.2 p.1.2.r.names.length (p.1.2.r.names.map Value.string)
def qZx(C:Array Value)(mv:Value)(n:Int):Array Value:=C++#[mv,.int .i64 n]
def qXY(w:World)(v:Value)(M:Mach):Prop:=∃C mv DM,v=.agg (qZx C mv M.n)∧C.size=37∧C.all (·.oneCell')=true∧qZj w (.agg C) M.P∧MmRows w mv DM∧(DM.map (·.1)).Perm M.cl∧DM.Pairwise (fun a b=>qJN a<qJN b)
section
variable{w w':World}{mv v:Value}{DM:List Memo}{M:Mach}
theorem MmRows.ext(h:MmRows w mv DM)(hE:Ext w w'):MmRows w' mv DM:=⟨own_kx h.own hE,fun p hp=>own_kx (h.nms p hp) hE⟩
theorem qXY.ext(h:qXY w v M)(hE:Ext w w'):qXY w' v M:=by
 obtain⟨C,mv,DM,h1,h2,h3,h4,h5,h6⟩:=h;exact⟨C,mv,DM,h1,h2,h3,h4.ext hE,h5.ext hE,h6⟩
theorem MmRows.sln(h:MmRows w mv DM):Sln w mv 7 (DM.map qJR):=Sln.of_own h.own (fun r hr=>by obtain⟨p,_,rfl⟩:=List.mem_map.1 hr;rfl) (by simp)
end
theorem qXO:(prog.info? 123).map (fun i=>(i.zero,i.size,i.bytes))=some (some (.agg #[.int .i64 0,.int .i64 0,.int .i64 0,.int .u64 0,.int .i64 0,.int .u32 0,.slice none 0 0]),7,72):=by kernel_rfl
theorem qXX:(prog.info? 123).map (·.size)=some 7:=by kernel_rfl
theorem qQU:(prog.info? 62).map (·.size)=some 39:=by kernel_rfl
theorem qQ6{C:Array Value}(h:C.size=37)(mv:Value)(n:Int):(qZx C mv n).size=39:=by unfold qZx;simp[h]
theorem mArr_37{C:Array Value}(h:C.size=37)(mv:Value)(n:Int):(qZx C mv n)[37]? = some mv:=by unfold qZx;rw[Array.getElem?_append_right (by omega)];simp[h]
theorem mArr_38{C:Array Value}(h:C.size=37)(mv:Value)(n:Int):(qZx C mv n)[38]? = some (.int .i64 n):=by unfold qZx;rw[Array.getElem?_append_right (by omega)];simp[h]
theorem mArr_set37{C:Array Value}(h:C.size=37)(mv mv':Value)(n:Int):(qZx C mv n).setIfInBounds 37 mv'=qZx C mv' n:=by
 unfold qZx;rw[Array.setIfInBounds_append_right (by omega),h];rfl
theorem mArr_set38{C:Array Value}(h:C.size=37)(mv:Value)(n n':Int):(qZx C mv n).setIfInBounds 38 (.int .i64 n')=qZx C mv n':=by
 unfold qZx;rw[Array.setIfInBounds_append_right (by omega),h];rfl
theorem qXx{C:Array Value}(h:C.all (·.oneCell')=true)(A:Option Addr)(k c:Nat)(n:Int):(qZx C (.slice A k c) n).all (·.oneCell')=true:=by
 unfold qZx;rw[Array.all_append,h];simp[Value.oneCell']
end Go.Proofs.YtimjipcplmnpbaaGreat
