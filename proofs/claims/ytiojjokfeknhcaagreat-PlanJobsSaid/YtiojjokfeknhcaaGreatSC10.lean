/-
  Part 10 of what the law leans on.
-/
import Derived.Test.YtiojjokfeknhcaaGreatSC9
namespace Go.Proofs.YtiojjokfeknhcaaGreat
set_option maxRecDepth 100000
set_option maxHeartbeats 8000000
set_option linter.unusedVariables false
set_option linter.unusedSimpArgs false
set_option linter.unusedSectionVars false
open _root_.Go.Proofs.Tryz
open Go.RowKit Go.Sort
theorem qQZ.two{w w':World}{v:Value}{P:Pm}{c r:Nat}(h:qQZ w v P)(ac:∃Z,At w c 35 Z)(ar:∃Z,At w r 114 Z)(hc:Chg (fun k=>k=c∨k=r) w w'):qQZ w' v P:=by
 obtain⟨lv,DV,h1,h2,h3⟩:=h;obtain⟨Z1,a1⟩:=ac;obtain⟨Z2,a2⟩:=ar
 have key:∀ {base size n:Nat} {e:TypeId} {v:Value} {xs:List Value},w.ownsRow base e size v n xs→e≠35→e≠114→w'.ownsRow base e size v n xs:=fun ho e1 e2 =>
  qQb ho hc fun k hk e=>e.elim (qQf ho a1 e1 k hk) (qQf ho a2 e2 k hk)
 exact⟨lv,DV,h1,h2,⟨key h3.own (by decide) (by decide),fun p hp=>key (h3.dks p hp) (by decide) (by decide)⟩⟩
def qQB:Value→Array Value
 | .agg a=>a
 | _=>#[]
theorem rclient_5(w:World)(v:Value)(P:Pm)(n:Nat)(h:qQZ w v P)(hi:PInv n P)(hn:n≤1000000)(x:Cmd)(dx:Value)(hx:w.ownsRow 0 3 1 dx x.disks.length (x.disks.map (Value.int .i64)))(hk:x.kind=5) :
 Calls prog 80 #[v,qQd x dx] w (qXD w (P.byName x)):=by
 obtain⟨lv,DV,rfl,hDV,hR⟩:=h;have hlen:DV.length=P.L.length:=by rw[←hDV,List.length_map]
 obtain⟨A,c,rfl⟩:=qQa hR.own;obtain⟨xA,xc,rfl⟩:=qQa hx;have HRF:Hid (qQZ w (.agg (qQj (.slice A DV.length c) P.vols)) P):=Hh ⟨_,DV,rfl,hDV,hR⟩;have HX:Hid (qQj (.slice A DV.length c) P.vols=(.slice A DV.length c::(P.vols.map qQK).flatten).toArray):=Hh rfl;have h37:=qQt (.slice A DV.length c) hi.vlen;have hone:=qQA A DV.length c P.vols;have HVOL:Hid (∀v y,P.vols[v]? = some y→(qQj (.slice A DV.length c) P.vols)[1+v * 3]? = some (.bool y.closed)∧(qQj (.slice A DV.length c) P.vols)[1+v * 3+1]? = some (.bool y.erase)∧(qQj (.slice A DV.length c) P.vols)[1+v * 3+2]? = some (.int .i64 y.gen)):=Hh (fun v y h=>qXs h);generalize hX:qQj (.slice A DV.length c) P.vols=X at HX HRF HVOL h37 hone⊢;clear hX;have H37:=Hh h37;have HONE:=Hh hone;have HI1:Hid ((prog.info? 35).map (·.size)=some X.toList.length):=Hh (by rw[Array.length_toList,h37];exact qQg);have HI2:Hid ((prog.info? 35).map (·.size)=some X.size):=Hh (by rw[h37];exact qQg);have hX0:X[0]? = some (.slice A DV.length c):=by rw[HX.out];rfl
 have HX0:=Hh hX0;have HDV:=Hh hDV;have HR:=Hh hR;have HI:=Hh hi;have HXO:=Hh hx;have HK:=Hh hk;clear hDV hlen hR hi hx hk hX0 h37 hone;unfold qQd
 go_enter func80,ntmps80
 have hB:=(((At.new w 35 X).alloc (.cells (zZX x xA xc) 117)).alloc (.cells zZC 35)).alloc (.cells zZR 114);have hY:=((At.new (w.alloc (.cells X 35)) 117 (zZX x xA xc)).alloc (.cells zZC 35)).alloc (.cells zZR 114);have hC:=(At.new ((w.alloc (.cells X 35)).alloc (.cells (zZX x xA xc) 117)) 35 zZC).alloc (.cells zZR 114);have hS:=At.new (((w.alloc (.cells X 35)).alloc (.cells (zZX x xA xc) 117)).alloc (.cells zZC 35)) 114 zZR;have hE:=((((Er w).alloc (.cells X 35)).alloc (.cells (zZX x xA xc) 117)).alloc (.cells zZC 35)).alloc (.cells zZR 114);rw[show(w.alloc (.cells X 35)).heap.size=w.heap.size+1 by simp]at hY;rw[show((w.alloc (.cells X 35)).alloc (.cells (zZX x xA xc) 117)).heap.size=w.heap.size+1+1 by simp]at hC;rw[show(((w.alloc (.cells X 35)).alloc (.cells (zZX x xA xc) 117)).alloc (.cells zZC 35)).heap.size=w.heap.size+1+1+1 by simp]at hS
 go_upto_region 1 with fail
 obtain⟨xb,hxb⟩:∃xb,w.heap.size=xb:=⟨_,rfl⟩;rw[hxb]at hB hY hC hS⊢;generalize World.alloc _ _=W at hB hY hC hS hE⊢;have HXB:=Hh (show w.heap.size≤xb by omega);clear hxb;have HZ:Hid (zZC.size=37):=Hh rfl;generalize zZC=ZC at hC HZ;have lS:=hS.lt;have lC:=hC.lt;have lY:=hY.lt;have lB:=hB.lt;have y0:=hY.cell 0;simp at y0;rw[HK.out]at y0;have y3:=hY.cell 3;simp at y3
 have hdl:DV.length≤1000000:=by
  have h1:DV.length=P.L.length:=by rw[←HDV.out,List.length_map]
  have:=HI.out.len
  omega
 have HNM:=Hh (qXH W (.agg X) P (HRF.out.ext hE) x.name (by have:=HI.out.len;omega));have HRG0:=Hh hB.range
 go_wp2_with (refine wpList_load_mid rfl 35 _ rfl xb 0 rfl _ _ HRG0.out underlying35 rfl HI1.out ?_)
 refine HNM.out.mono ?_;rintro e w1 ⟨rfl,hE1⟩;have hB:=hB.ext hE1;have hY:=hY.ext hE1;have hC:=hC.ext hE1;have hS:=hS.ext hE1;have hE:=hE.trans hE1;have lS:=hS.lt;have lC:=hC.lt;have lY:=hY.lt;have lB:=hB.lt;have y0:=hY.cell 0;simp at y0;rw[HK.out]at y0;clear HNM HRG0 y3;rcases name_at (P:=P) (n:=x.name)with⟨hnm,hnn⟩|⟨i,b,hib,hnn,hnm⟩
 ·rw[hnm];have HPN:Hid (P.byName x=(P,Rs.er 5)):=Hh (by unfold Pm.byName;rw[hnn]);clear hnm hnn;have hTO:=qZe (X:=X) (R:=#[.int .i64 5,.int .u64 0,.int .i64 0,.int .u32 0,.slice none 0 0]) hC hS (by rw[HZ.out,H37.out]) rfl H37.out rfl (by omega);have HTO:=Hh hTO;have HRG:=Hh hB.range;have HEF:=Hh (hTO.ext w hE (by have:=HXB.out;omega) (by have:=HXB.out;omega));clear hB hY hC hS hE hTO
  go_wp2_with (first|(refine wpList_load_mid rfl 35 _ rfl xb 0 rfl _ _ HRG.out underlying35 rfl HI1.out ?_)|(refine wpList_store_mid rfl 35 _ _ rfl (xb+1+1) 0 X rfl rfl HTO.out.t1 HI2.out HONE.out ?_)|(refine wpList_store_mid rfl 114 _ _ rfl (xb+1+1+1) 0 #[.int .i64 5,.int .u64 0,.int .i64 0,.int .u32 0,.slice none 0 0] rfl rfl HTO.out.t2 qQz (by simp[Value.oneCell']) ?_))
  refine bodyPost_ret (v:=.tuple #[.agg X,.agg #[.int .i64 5,.int .u64 0,.int .i64 0,.int .u32 0,.slice none 0 0]]) (qQs results80 _ rfl rfl HTO.out.l1 HTO.out.l2) rfl ?_;rw[HPN.out];exact⟨.agg X,.slice none 0 0,rfl,HRF.out.ext HEF.out,qQR _ _ _,HEF.out⟩
 ·rw[hnm]
  obtain⟨⟨b',dv⟩,hb⟩:∃q,DV[i]? = some q:=by
   have h1:i<DV.length:=by
    have h2:=(List.getElem?_eq_some_iff.1 hib).1;rw[←HDV.out,List.length_map]at h2;exact h2
   exact⟨_,List.getElem?_eq_getElem h1⟩
  obtain rfl:b'=b:=by
   rw[←HDV.out,List.getElem?_map,hb]at hib;injection hib
  have hil:i<DV.length:=(List.getElem?_eq_some_iff.1 hb).1;obtain⟨dA,dc,rfl⟩:∃A c,dv=.slice A b'.disks.length c:=qQa (HR.out.dks _ (List.mem_of_getElem? hb));have hSl:=HR.out.sln.ext hE
  obtain⟨rb,ro,rfl⟩:=qQQ hSl (fun e=>by
   have h0:=List.map_eq_nil_iff.1 e;rw[h0]at hb;simp at hb)
  obtain⟨r0,r1,r2,r3,r4,r5,r6,r7,r8,r9,r10,r11,r12⟩:=qQV hSl hb;have hbL:=List.mem_of_getElem? hib;have HBI:=Hh (And.intro (HI.out.bl _ hbL) (And.intro hbL hnn));have HOD:=Hh (HR.out.dks _ (List.mem_of_getElem? hb));have c0:=hB.cell 0;rw[HX0.out]at c0;have hYb:=At.new w1 89 (blCells b' (.slice dA b'.disks.length dc));have hEb:=(Er w1).alloc (.cells (blCells b' (.slice dA b'.disks.length dc)) 89);clear hb hib hbL hnn hSl
  go_upto_region 17 with fail
  clear r0 r1 r2 r3 r4 r5 r6 r7 r8 r9 r10 r11 r12 c0;have HYB:=Hh (show w.heap.size≤w1.heap.size from hE.size);generalize w1.heap.size=yb at hYb HYB⊢;generalize w1.alloc (.cells (blCells b' (.slice dA b'.disks.length dc)) 89)=W2 at hYb hEb⊢;have hB:=hB.ext hEb;have hY:=hY.ext hEb;have hC:=hC.ext hEb;have hS:=hS.ext hEb;have hE:=hE.trans hEb;have lS:=hS.lt;have lC:=hC.lt;have lY:=hY.lt;have lB:=hB.lt;have y0:=hY.cell 0;simp at y0;rw[HK.out]at y0;have lb:=hYb.lt;have d0:=hYb.cell 0;have d2:=hYb.cell 2;have d3:=hYb.cell 3;have d11:=hYb.cell 11;have f11:=hYb.frozen 11;have d12:=hYb.cell 12;have f12:=hYb.frozen 12;simp at d0 d2 d3 d11 d12;have hpn:IntKind.i64.wrap (b'.pins+1)=b'.pins+1:=IntWalk.i64_in _ (by have:=HBI.out.1.pins;omega)
  go_upto_region 22 with fail
  clear d0 d2 d3 d11 f11 d12 f12 hpn;have hRB:=At.new W2 114 #[.int .i64 0,.int .u64 (b'.id:Int),.int .i64 b'.size,.int .u32 (b'.sum:Int),.slice none 0 0];have hB:=hB.alloc (.cells #[.int .i64 0,.int .u64 (b'.id:Int),.int .i64 b'.size,.int .u32 (b'.sum:Int),.slice none 0 0] 114);have hC:=hC.alloc (.cells #[.int .i64 0,.int .u64 (b'.id:Int),.int .i64 b'.size,.int .u32 (b'.sum:Int),.slice none 0 0] 114);have hS:=hS.alloc (.cells #[.int .i64 0,.int .u64 (b'.id:Int),.int .i64 b'.size,.int .u32 (b'.sum:Int),.slice none 0 0] 114);have hYb:=hYb.alloc (.cells #[.int .i64 0,.int .u64 (b'.id:Int),.int .i64 b'.size,.int .u32 (b'.sum:Int),.slice none 0 0] 114);have hE:=hE.alloc (.cells #[.int .i64 0,.int .u64 (b'.id:Int),.int .i64 b'.size,.int .u32 (b'.sum:Int),.slice none 0 0] 114);have hqS:xb+1+1+1≠W2.heap.size:=by omega
  generalize hqb:W2.heap.size=qb at hRB hqS⊢;generalize W2.alloc (.cells #[.int .i64 0,.int .u64 (b'.id:Int),.int .i64 b'.size,.int .u32 (b'.sum:Int),.slice none 0 0] 114)=W3 at hRB hB hC hS hYb hE⊢;clear hqb;have hcr:xb+1+1≠xb+1+1+1:=by omega
  have nB:∀k,k=xb+1+1∨k=xb+1+1+1→xb≠k:=fun k e=>by rcases e with e|e <;> omega
  have nYc:yb≠xb+1+1:=At.ne hYb hC (by decide);have nYs:yb≠xb+1+1+1:=At.ne hYb hS (by decide);have nQc:qb≠xb+1+1:=At.ne hRB hC (by decide);have kB:∀w1,Chg (fun k=>k=xb+1+1∨k=xb+1+1+1) W3 w1→w1.rangeAt xb 0 X.toList:=fun w1 hc=>(hB.chg hc (fun e=>nB _ e rfl)).range
  have kY:∀w1,Chg (fun k=>k=xb+1+1∨k=xb+1+1+1) W3 w1→w1.rangeAt yb 0 (blCells b' (.slice dA b'.disks.length dc)).toList:=fun w1 hc=>(hYb.chg hc (fun e=>e.elim nYc nYs)).range
  have kR:∀w1,Chg (fun k=>k=xb+1+1∨k=xb+1+1+1) W3 w1→w1.rangeAt qb 0 (#[.int .i64 0,.int .u64 (b'.id:Int),.int .i64 b'.size,.int .u32 (b'.sum:Int),.slice none 0 0]:Array Value).toList:=fun w1 hc=>(hRB.chg hc (fun e=>e.elim nQc (fun e=>hqS e.symm))).range
  have hEw:∀w1,Chg (fun k=>k=xb+1+1∨k=xb+1+1+1) W3 w1→Ext w w1:=fun w1 hc=>Chg.mono (hE.chg_trans hc) (fun k hk e=>by have:=HXB.out;rcases e with e|e <;> omega)
  refine qQx (Γ := Nat→Value) (sgφ [.val (.agg X),.val (.agg (blCells b' (.slice dA b'.disks.length dc))),.g 0,.val (.agg #[.int .i64 0,.int .u64 (b'.id:Int),.int .i64 b'.size,.int .u32 (b'.sum:Int),.slice none 0 0]),.any,.any])
   (GTwo W3 (xb+1+1) (xb+1+1+1) 2 100 4 5 (fun v w1=>qQZ w1 v (P.set b')) qQB (fun _=>#[.int .i64 0,.int .u64 (b'.id:Int),.int .i64 b'.size,.int .u32 (b'.sum:Int),.slice none 0 0])) (by kernel_rfl) (by kernel_rfl) (by kernel_rfl) (fun _=>undef) ?inv ?steps ?fin
  case inv =>
   exact⟨(Er W3).drew.chg,fun hh=>(by cases hh),fun hh=>(by cases hh),(World.there_drew W3 _ 0 37).2 (by have h:=hC.there;rw[HZ.out]at h;exact h),(World.there_drew W3 _ 0 5).2 hS.there,⟨_,hC.drew⟩,⟨_,hS.drew⟩,fun hh=>(by cases hh),fun hh=>(by cases hh)⟩
  case steps =>
   show qQ2 _ _ _ _ _ _ 6
   refine⟨⟨⟨⟨⟨⟨trivial,?s0⟩,?s1⟩,?s2⟩,?s3⟩,?s4⟩,?s5⟩
   case s0 =>
    refine qQh (x:=.agg X) rfl rfl rfl (GTwo.keep (j:=0) (by decide) (by decide) (by decide) (by decide)) fun γ L v a w1 st=>?_
    have e2:=st.far 2 (by kernel_rfl);simp at e2;exact qQi rfl (b:=xb) (off:=0) (by simp[Act.eval,e2]) (kB w1 st.inv.chg) underlying35 rfl HI1.out
   case s1 =>
    refine qQh rfl rfl rfl (GTwo.keep (j:=1) (by decide) (by decide) (by decide) (by decide)) fun γ L v a w1 st=>?_
    have e8:=st.far 8 (by kernel_rfl);simp at e8;exact qQi rfl (b:=yb) (off:=0) (by simp[Act.eval,e8]) (kY w1 st.inv.chg) underlying89 rfl qQe
   case s3 =>
    refine qQh rfl rfl rfl (GTwo.keep (j:=3) (by decide) (by decide) (by decide) (by decide)) fun γ L v a w1 st=>?_
    have e9:=st.far 9 (by kernel_rfl);simp at e9;exact qQi rfl (b:=qb) (off:=0) (by simp[Act.eval,e9]) (kR w1 st.inv.chg) underlying114 rfl qQz
   case s2 =>
    refine qZW (k:=0) (f:=84) rfl rfl rfl (by kernel_rfl) fun γ L v a w1 st=>?_
    have e99:=st.val 0 99 rfl (by kernel_rfl);rw[(st.φ 0 (by kernel_rfl):v 0=_)]at e99;simp at e99;have e100:=st.val 1 100 rfl (by kernel_rfl);rw[(st.φ 1 (by kernel_rfl):v 1=_)]at e100;simp at e100
    have h4:L 4=false:=by
     cases hq:L 4 with
     | false=>rfl
     | true =>
      have q2:=st.down 4 2 hq (by kernel_rfl);have q99:=st.off;rw[q2]at q99;cases q99
    refine⟨#[.agg X,.agg (blCells b' (.slice dA b'.disks.length dc))],by go_simp,?_⟩
    have hEE:=hEw w1 st.inv.chg;refine(qXn w1 (.agg X) P (HRF.out.ext hEE) b' (.slice dA b'.disks.length dc) (own_kx HOD.out hEE) HI.out.asc (by have:=HI.out.len;omega) HI.out.vlen).mono ?_
    rintro e w2 ⟨nv,rfl,hO,hE2⟩;exact⟨nv,rfl,GTwo.called st.inv hE2 (fun _=>rfl) (fun _=>rfl) (fun hh=>by rw[h4]at hh;cases hh) (by decide) (by decide) (by decide) hO⟩
   case s4 =>
    refine qQ7 rfl rfl rfl fun γ L v a w1 st=>?_
    have e4:=st.far 4 (by kernel_rfl);simp at e4;have hcv:=st.inv.call (st.dep 2 (by kernel_rfl));obtain⟨lv2,DV2,hγ,hd2,hr2⟩:=hcv;obtain⟨A2,c2,rfl⟩:=qQa hr2.own;have e101:=st.val 2 101 rfl (by kernel_rfl);rw[(st.φ 2 (by kernel_rfl):v 2=_),hγ]at e101;simp at e101;have hg:qQB (γ 0)=qQj (.slice A2 DV2.length c2) P.vols:=by rw[hγ];rfl
    have h37':(qQB (γ 0)).size=37:=by rw[hg];exact qQt _ HI.out.vlen
    refine⟨_,qQr rfl (b:=xb+1+1) (off:=0) (cells:=qQB (γ 0)) (by simp[Act.eval,e4]) (by simp[Act.eval,e101,hg];rfl) (by rw[h37'];exact st.inv.tc) (by rw[h37'];exact qQg) (by rw[hg];exact qQA _ _ _ _),?_⟩
    exact GTwo.storeC st.inv hcr (fun v w1 w2 h ac ar hc=>qQZ.two h ac ar hc) h37' (by decide) (by decide) (by decide)
   case s5 =>
    refine qQ7 rfl rfl rfl fun γ L v a w1 st=>?_
    have e5:=st.far 5 (by kernel_rfl);simp at e5;have e102:=st.val 3 102 rfl (by kernel_rfl);rw[(st.φ 3 (by kernel_rfl):v 3=_)]at e102;simp at e102;refine⟨_,qQr rfl (b:=xb+1+1+1) (off:=0) (cells:=#[.int .i64 0,.int .u64 (b'.id:Int),.int .i64 b'.size,.int .u32 (b'.sum:Int),.slice none 0 0]) (by simp[Act.eval,e5]) (by simp[Act.eval,e102]) st.inv.tr qQz (by simp[Value.oneCell']),?_⟩
    exact GTwo.storeR st.inv hcr (fun v w1 w2 h ac ar hc=>qQZ.two h ac ar hc) rfl (by decide) (by decide) (by decide)
  case fin =>
   intro γ L v wx hall hG hφ;have hc:=hG.call (hall 2 (by decide));have hrc:=hG.rc (hall 4 (by decide));have hrr:=hG.rr (hall 5 (by decide));have hEx:=hEw wx hG.chg;obtain⟨lv2,DV2,hγ,hd2,hr2⟩:=hc;have hsz2:(qQB (γ 0)).size=37:=by rw[hγ];exact qQt _ HI.out.vlen
   have l1:(loadVar 35 ⟨xb+1+1,0,none⟩).run prog wx=.ok (.agg (qQB (γ 0))) wx:=run_loadVar_mid (P:=prog) wx (xb+1+1) 0 35 (qQB (γ 0)).toList _ hrc underlying35 rfl (by rw[Array.length_toList,hsz2];exact qQg);have l2:(loadVar 114 ⟨xb+1+1+1,0,none⟩).run prog wx=.ok (.agg #[.int .i64 0,.int .u64 (b'.id:Int),.int .i64 b'.size,.int .u32 (b'.sum:Int),.slice none 0 0]) wx:=run_loadVar_mid (P:=prog) wx (xb+1+1+1) 0 114 (#[.int .i64 0,.int .u64 (b'.id:Int),.int .i64 b'.size,.int .u32 (b'.sum:Int),.slice none 0 0]:Array Value).toList _ hrr underlying114 rfl qQz
   have HF:Hid (qXD w (P.byName x) (.returned (.tuple #[.agg (qQB (γ 0)),.agg #[.int .i64 0,.int .u64 (b'.id:Int),.int .i64 b'.size,.int .u32 (b'.sum:Int),.slice none 0 0]])) wx):=Hh (by
    have hby:P.byName x=(P.set b',⟨0,b'.id,b'.size,b'.sum,[]⟩):=by unfold Pm.byName;rw[HBI.out.2.2];show(if x.kind=2 then _ else if x.kind=3 then _ else _,_)=_;rw[if_neg (by rw[HK.out];decide),if_neg (by rw[HK.out];decide)];unfold Pm.set;rw[pset_same HI.out.asc HBI.out.2.1]
    rw[hby];exact⟨.agg (qQB (γ 0)),.slice none 0 0,rfl,⟨lv2,DV2,by rw[hγ];rfl,hd2,hr2⟩,qQR _ _ _,hEx⟩)
   have HL:=Hh (And.intro l1 l2);clear hrc hrr hEx l1 l2 hφ hall kB kY kR hEw hr2 hd2 hsz2;generalize qQB (γ 0)=CA at HF HL
   change Exit.then _ _ _ (qQM _ v _ 6) wx
   simp only[qQM,qQH,Act.put];simp only[List.getElem?_toArray,List.getElem?_cons_zero,List.getElem?_cons_succ,Option.bind_some,List.setIfInBounds_toArray,List.set_cons_zero,List.set_cons_succ];go_wp2_with fail
   refine bodyPost_ret (v:=.tuple #[.agg CA,.agg #[.int .i64 0,.int .u64 (b'.id:Int),.int .i64 b'.size,.int .u32 (b'.sum:Int),.slice none 0 0]]) (qQs results80 _ rfl rfl HL.out.1 HL.out.2) rfl ?_;exact HF.out
theorem rclient_2(w:World)(v:Value)(P:Pm)(n:Nat)(h:qQZ w v P)(hi:PInv n P)(hn:n≤1000000)(x:Cmd)(dx:Value)(hx:w.ownsRow 0 3 1 dx x.disks.length (x.disks.map (Value.int .i64)))(hk:x.kind=2) :
 Calls prog 80 #[v,qQd x dx] w (qXD w (P.byName x)):=by
 obtain⟨lv,DV,rfl,hDV,hR⟩:=h;have hlen:DV.length=P.L.length:=by rw[←hDV,List.length_map]
 obtain⟨A,c,rfl⟩:=qQa hR.own;obtain⟨xA,xc,rfl⟩:=qQa hx;have HRF:Hid (qQZ w (.agg (qQj (.slice A DV.length c) P.vols)) P):=Hh ⟨_,DV,rfl,hDV,hR⟩;have HX:Hid (qQj (.slice A DV.length c) P.vols=(.slice A DV.length c::(P.vols.map qQK).flatten).toArray):=Hh rfl;have h37:=qQt (.slice A DV.length c) hi.vlen;have hone:=qQA A DV.length c P.vols;have HVOL:Hid (∀v y,P.vols[v]? = some y→(qQj (.slice A DV.length c) P.vols)[1+v * 3]? = some (.bool y.closed)∧(qQj (.slice A DV.length c) P.vols)[1+v * 3+1]? = some (.bool y.erase)∧(qQj (.slice A DV.length c) P.vols)[1+v * 3+2]? = some (.int .i64 y.gen)):=Hh (fun v y h=>qXs h);generalize hX:qQj (.slice A DV.length c) P.vols=X at HX HRF HVOL h37 hone⊢;clear hX;have H37:=Hh h37;have HONE:=Hh hone;have HI1:Hid ((prog.info? 35).map (·.size)=some X.toList.length):=Hh (by rw[Array.length_toList,h37];exact qQg);have HI2:Hid ((prog.info? 35).map (·.size)=some X.size):=Hh (by rw[h37];exact qQg);have hX0:X[0]? = some (.slice A DV.length c):=by rw[HX.out];rfl
 have HX0:=Hh hX0;have HDV:=Hh hDV;have HR:=Hh hR;have HI:=Hh hi;have HXO:=Hh hx;have HK:=Hh hk;clear hDV hlen hR hi hx hk hX0 h37 hone;unfold qQd
 go_enter func80,ntmps80
 have hB:=(((At.new w 35 X).alloc (.cells (zZX x xA xc) 117)).alloc (.cells zZC 35)).alloc (.cells zZR 114);have hY:=((At.new (w.alloc (.cells X 35)) 117 (zZX x xA xc)).alloc (.cells zZC 35)).alloc (.cells zZR 114);have hC:=(At.new ((w.alloc (.cells X 35)).alloc (.cells (zZX x xA xc) 117)) 35 zZC).alloc (.cells zZR 114);have hS:=At.new (((w.alloc (.cells X 35)).alloc (.cells (zZX x xA xc) 117)).alloc (.cells zZC 35)) 114 zZR;have hE:=((((Er w).alloc (.cells X 35)).alloc (.cells (zZX x xA xc) 117)).alloc (.cells zZC 35)).alloc (.cells zZR 114);rw[show(w.alloc (.cells X 35)).heap.size=w.heap.size+1 by simp]at hY;rw[show((w.alloc (.cells X 35)).alloc (.cells (zZX x xA xc) 117)).heap.size=w.heap.size+1+1 by simp]at hC;rw[show(((w.alloc (.cells X 35)).alloc (.cells (zZX x xA xc) 117)).alloc (.cells zZC 35)).heap.size=w.heap.size+1+1+1 by simp]at hS
 go_upto_region 1 with fail
 obtain⟨xb,hxb⟩:∃xb,w.heap.size=xb:=⟨_,rfl⟩;rw[hxb]at hB hY hC hS⊢;generalize World.alloc _ _=W at hB hY hC hS hE⊢;have HXB:=Hh (show w.heap.size≤xb by omega);clear hxb;have HZ:Hid (zZC.size=37):=Hh rfl;generalize zZC=ZC at hC HZ;have lS:=hS.lt;have lC:=hC.lt;have lY:=hY.lt;have lB:=hB.lt;have y0:=hY.cell 0;simp at y0;rw[HK.out]at y0;have y3:=hY.cell 3;simp at y3
 have hdl:DV.length≤1000000:=by
  have h1:DV.length=P.L.length:=by rw[←HDV.out,List.length_map]
  have:=HI.out.len
  omega
 have HNM:=Hh (qXH W (.agg X) P (HRF.out.ext hE) x.name (by have:=HI.out.len;omega));have HRG0:=Hh hB.range
 go_wp2_with (refine wpList_load_mid rfl 35 _ rfl xb 0 rfl _ _ HRG0.out underlying35 rfl HI1.out ?_)
 refine HNM.out.mono ?_;rintro e w1 ⟨rfl,hE1⟩;have hB:=hB.ext hE1;have hY:=hY.ext hE1;have hC:=hC.ext hE1;have hS:=hS.ext hE1;have hE:=hE.trans hE1;have lS:=hS.lt;have lC:=hC.lt;have lY:=hY.lt;have lB:=hB.lt;have y0:=hY.cell 0;simp at y0;rw[HK.out]at y0;clear HNM HRG0 y3;rcases name_at (P:=P) (n:=x.name)with⟨hnm,hnn⟩|⟨i,b,hib,hnn,hnm⟩
 ·rw[hnm];have HPN:Hid (P.byName x=(P,Rs.er 5)):=Hh (by unfold Pm.byName;rw[hnn]);clear hnm hnn;have hTO:=qZe (X:=X) (R:=#[.int .i64 5,.int .u64 0,.int .i64 0,.int .u32 0,.slice none 0 0]) hC hS (by rw[HZ.out,H37.out]) rfl H37.out rfl (by omega);have HTO:=Hh hTO;have HRG:=Hh hB.range;have HEF:=Hh (hTO.ext w hE (by have:=HXB.out;omega) (by have:=HXB.out;omega));clear hB hY hC hS hE hTO
  go_wp2_with (first|(refine wpList_load_mid rfl 35 _ rfl xb 0 rfl _ _ HRG.out underlying35 rfl HI1.out ?_)|(refine wpList_store_mid rfl 35 _ _ rfl (xb+1+1) 0 X rfl rfl HTO.out.t1 HI2.out HONE.out ?_)|(refine wpList_store_mid rfl 114 _ _ rfl (xb+1+1+1) 0 #[.int .i64 5,.int .u64 0,.int .i64 0,.int .u32 0,.slice none 0 0] rfl rfl HTO.out.t2 qQz (by simp[Value.oneCell']) ?_))
  refine bodyPost_ret (v:=.tuple #[.agg X,.agg #[.int .i64 5,.int .u64 0,.int .i64 0,.int .u32 0,.slice none 0 0]]) (qQs results80 _ rfl rfl HTO.out.l1 HTO.out.l2) rfl ?_;rw[HPN.out];exact⟨.agg X,.slice none 0 0,rfl,HRF.out.ext HEF.out,qQR _ _ _,HEF.out⟩
 ·rw[hnm]
  obtain⟨⟨b',dv⟩,hb⟩:∃q,DV[i]? = some q:=by
   have h1:i<DV.length:=by
    have h2:=(List.getElem?_eq_some_iff.1 hib).1;rw[←HDV.out,List.length_map]at h2;exact h2
   exact⟨_,List.getElem?_eq_getElem h1⟩
  obtain rfl:b'=b:=by
   rw[←HDV.out,List.getElem?_map,hb]at hib;injection hib
  have hil:i<DV.length:=(List.getElem?_eq_some_iff.1 hb).1;obtain⟨dA,dc,rfl⟩:∃A c,dv=.slice A b'.disks.length c:=qQa (HR.out.dks _ (List.mem_of_getElem? hb));have hSl:=HR.out.sln.ext hE
  obtain⟨rb,ro,rfl⟩:=qQQ hSl (fun e=>by
   have h0:=List.map_eq_nil_iff.1 e;rw[h0]at hb;simp at hb)
  obtain⟨r0,r1,r2,r3,r4,r5,r6,r7,r8,r9,r10,r11,r12⟩:=qQV hSl hb;have hbL:=List.mem_of_getElem? hib;have HBI:=Hh (And.intro (HI.out.bl _ hbL) (And.intro hbL hnn));have HOD:=Hh (HR.out.dks _ (List.mem_of_getElem? hb));have c0:=hB.cell 0;rw[HX0.out]at c0;have hYb:=At.new w1 89 (blCells b' (.slice dA b'.disks.length dc));have hEb:=(Er w1).alloc (.cells (blCells b' (.slice dA b'.disks.length dc)) 89);clear hb hib hbL hnn hSl
  go_upto_region 17 with fail
  clear r0 r1 r2 r3 r4 r5 r6 r7 r8 r9 r10 r11 r12 c0;have HYB:=Hh (show w.heap.size≤w1.heap.size from hE.size);generalize w1.heap.size=yb at hYb HYB⊢;generalize w1.alloc (.cells (blCells b' (.slice dA b'.disks.length dc)) 89)=W2 at hYb hEb⊢;have hB:=hB.ext hEb;have hY:=hY.ext hEb;have hC:=hC.ext hEb;have hS:=hS.ext hEb;have hE:=hE.trans hEb;have lS:=hS.lt;have lC:=hC.lt;have lY:=hY.lt;have lB:=hB.lt;have y0:=hY.cell 0;simp at y0;rw[HK.out]at y0;have lb:=hYb.lt;have d0:=hYb.cell 0;have d2:=hYb.cell 2;have d3:=hYb.cell 3;have d11:=hYb.cell 11;have f11:=hYb.frozen 11;have d12:=hYb.cell 12;have f12:=hYb.frozen 12;simp at d0 d2 d3 d11 d12;have hpn:IntKind.i64.wrap (b'.pins+1)=b'.pins+1:=IntWalk.i64_in _ (by have:=HBI.out.1.pins;omega)
  go_upto_region 22 with fail
  clear d0 d2 d3 d11 f11 d12 f12 hpn;have hne:xb≠yb:=At.ne hB hYb (by decide);have hne2:xb+1+1≠yb:=At.ne hC hYb (by decide);have hne3:xb+1+1+1≠yb:=At.ne hS hYb (by decide);have kYb:At (W2.setCell ⟨yb,11,none⟩ (.int .i64 (b'.pins+1))) yb 89 (blCells { b' with pins:=b'.pins+1 } (.slice dA b'.disks.length dc)):=hYb.set 11 (.int .i64 (b'.pins+1));have kB0:=hB.far (p:=⟨yb,11,none⟩) hne (.int .i64 (b'.pins+1));have kC0:=hC.far (p:=⟨yb,11,none⟩) hne2 (.int .i64 (b'.pins+1));have kS0:=hS.far (p:=⟨yb,11,none⟩) hne3 (.int .i64 (b'.pins+1));have kE0:Ext w (W2.setCell ⟨yb,11,none⟩ (.int .i64 (b'.pins+1))):=Chg.setCell (p:=⟨yb,11,none⟩) hE (.inr HYB.out) _;have hszE:(W2.setCell ⟨yb,11,none⟩ (.int .i64 (b'.pins+1))).heap.size=W2.heap.size:=by simp
  rw[←hszE];rw[←hszE]at lS;clear hszE hB hY hC hS hYb hE hE1 hEb hne hne2 hne3 lC lY lB lb;generalize (W2.setCell ⟨yb,11,none⟩ (.int .i64 (b'.pins+1)))=W2s at kYb kB0 kC0 kS0 kE0 lS⊢;have hB:=kB0;have hC:=kC0;have hS:=kS0;have hYb:=kYb;have hE:=kE0;clear kYb kB0 kC0 kS0 kE0;have hRB:=At.new W2s 114 #[.int .i64 0,.int .u64 (b'.id:Int),.int .i64 b'.size,.int .u32 (b'.sum:Int),.slice none 0 0];have hB:=hB.alloc (.cells #[.int .i64 0,.int .u64 (b'.id:Int),.int .i64 b'.size,.int .u32 (b'.sum:Int),.slice none 0 0] 114);have hC:=hC.alloc (.cells #[.int .i64 0,.int .u64 (b'.id:Int),.int .i64 b'.size,.int .u32 (b'.sum:Int),.slice none 0 0] 114);have hS:=hS.alloc (.cells #[.int .i64 0,.int .u64 (b'.id:Int),.int .i64 b'.size,.int .u32 (b'.sum:Int),.slice none 0 0] 114);have hYb:=hYb.alloc (.cells #[.int .i64 0,.int .u64 (b'.id:Int),.int .i64 b'.size,.int .u32 (b'.sum:Int),.slice none 0 0] 114);have hE:=hE.alloc (.cells #[.int .i64 0,.int .u64 (b'.id:Int),.int .i64 b'.size,.int .u32 (b'.sum:Int),.slice none 0 0] 114);have hqS:xb+1+1+1≠W2s.heap.size:=by omega
  generalize hqb:W2s.heap.size=qb at hRB hqS⊢;generalize W2s.alloc (.cells #[.int .i64 0,.int .u64 (b'.id:Int),.int .i64 b'.size,.int .u32 (b'.sum:Int),.slice none 0 0] 114)=W3 at hRB hB hC hS hYb hE⊢;clear hqb;have hcr:xb+1+1≠xb+1+1+1:=by omega
  have nB:∀k,k=xb+1+1∨k=xb+1+1+1→xb≠k:=fun k e=>by rcases e with e|e <;> omega
  have nYc:yb≠xb+1+1:=At.ne hYb hC (by decide);have nYs:yb≠xb+1+1+1:=At.ne hYb hS (by decide);have nQc:qb≠xb+1+1:=At.ne hRB hC (by decide);have kB:∀w1,Chg (fun k=>k=xb+1+1∨k=xb+1+1+1) W3 w1→w1.rangeAt xb 0 X.toList:=fun w1 hc=>(hB.chg hc (fun e=>nB _ e rfl)).range
  have kY:∀w1,Chg (fun k=>k=xb+1+1∨k=xb+1+1+1) W3 w1→w1.rangeAt yb 0 (blCells { b' with pins:=b'.pins+1 } (.slice dA b'.disks.length dc)).toList:=fun w1 hc=>(hYb.chg hc (fun e=>e.elim nYc nYs)).range
  have kR:∀w1,Chg (fun k=>k=xb+1+1∨k=xb+1+1+1) W3 w1→w1.rangeAt qb 0 (#[.int .i64 0,.int .u64 (b'.id:Int),.int .i64 b'.size,.int .u32 (b'.sum:Int),.slice none 0 0]:Array Value).toList:=fun w1 hc=>(hRB.chg hc (fun e=>e.elim nQc (fun e=>hqS e.symm))).range
  have hEw:∀w1,Chg (fun k=>k=xb+1+1∨k=xb+1+1+1) W3 w1→Ext w w1:=fun w1 hc=>Chg.mono (hE.chg_trans hc) (fun k hk e=>by have:=HXB.out;rcases e with e|e <;> omega)
  refine qQx (Γ := Nat→Value) (sgφ [.val (.agg X),.val (.agg (blCells { b' with pins:=b'.pins+1 } (.slice dA b'.disks.length dc))),.g 0,.val (.agg #[.int .i64 0,.int .u64 (b'.id:Int),.int .i64 b'.size,.int .u32 (b'.sum:Int),.slice none 0 0]),.any,.any])
   (GTwo W3 (xb+1+1) (xb+1+1+1) 2 100 4 5 (fun v w1=>qQZ w1 v (P.set { b' with pins:=b'.pins+1 })) qQB (fun _=>#[.int .i64 0,.int .u64 (b'.id:Int),.int .i64 b'.size,.int .u32 (b'.sum:Int),.slice none 0 0])) (by kernel_rfl) (by kernel_rfl) (by kernel_rfl) (fun _=>undef) ?inv ?steps ?fin
  case inv =>
   exact⟨(Er W3).drew.chg,fun hh=>(by cases hh),fun hh=>(by cases hh),(World.there_drew W3 _ 0 37).2 (by have h:=hC.there;rw[HZ.out]at h;exact h),(World.there_drew W3 _ 0 5).2 hS.there,⟨_,hC.drew⟩,⟨_,hS.drew⟩,fun hh=>(by cases hh),fun hh=>(by cases hh)⟩
  case steps =>
   show qQ2 _ _ _ _ _ _ 6
   refine⟨⟨⟨⟨⟨⟨trivial,?s0⟩,?s1⟩,?s2⟩,?s3⟩,?s4⟩,?s5⟩
   case s0 =>
    refine qQh (x:=.agg X) rfl rfl rfl (GTwo.keep (j:=0) (by decide) (by decide) (by decide) (by decide)) fun γ L v a w1 st=>?_
    have e2:=st.far 2 (by kernel_rfl);simp at e2;exact qQi rfl (b:=xb) (off:=0) (by simp[Act.eval,e2]) (kB w1 st.inv.chg) underlying35 rfl HI1.out
   case s1 =>
    refine qQh rfl rfl rfl (GTwo.keep (j:=1) (by decide) (by decide) (by decide) (by decide)) fun γ L v a w1 st=>?_
    have e8:=st.far 8 (by kernel_rfl);simp at e8;exact qQi rfl (b:=yb) (off:=0) (by simp[Act.eval,e8]) (kY w1 st.inv.chg) underlying89 rfl qQe
   case s3 =>
    refine qQh rfl rfl rfl (GTwo.keep (j:=3) (by decide) (by decide) (by decide) (by decide)) fun γ L v a w1 st=>?_
    have e9:=st.far 9 (by kernel_rfl);simp at e9;exact qQi rfl (b:=qb) (off:=0) (by simp[Act.eval,e9]) (kR w1 st.inv.chg) underlying114 rfl qQz
   case s2 =>
    refine qZW (k:=0) (f:=84) rfl rfl rfl (by kernel_rfl) fun γ L v a w1 st=>?_
    have e99:=st.val 0 99 rfl (by kernel_rfl);rw[(st.φ 0 (by kernel_rfl):v 0=_)]at e99;simp at e99;have e100:=st.val 1 100 rfl (by kernel_rfl);rw[(st.φ 1 (by kernel_rfl):v 1=_)]at e100;simp at e100
    have h4:L 4=false:=by
     cases hq:L 4 with
     | false=>rfl
     | true =>
      have q2:=st.down 4 2 hq (by kernel_rfl);have q99:=st.off;rw[q2]at q99;cases q99
    refine⟨#[.agg X,.agg (blCells { b' with pins:=b'.pins+1 } (.slice dA b'.disks.length dc))],by go_simp,?_⟩
    have hEE:=hEw w1 st.inv.chg;refine(qXn w1 (.agg X) P (HRF.out.ext hEE) { b' with pins:=b'.pins+1 } (.slice dA b'.disks.length dc) (own_kx HOD.out hEE) HI.out.asc (by have:=HI.out.len;omega) HI.out.vlen).mono ?_
    rintro e w2 ⟨nv,rfl,hO,hE2⟩;exact⟨nv,rfl,GTwo.called st.inv hE2 (fun _=>rfl) (fun _=>rfl) (fun hh=>by rw[h4]at hh;cases hh) (by decide) (by decide) (by decide) hO⟩
   case s4 =>
    refine qQ7 rfl rfl rfl fun γ L v a w1 st=>?_
    have e4:=st.far 4 (by kernel_rfl);simp at e4;have hcv:=st.inv.call (st.dep 2 (by kernel_rfl));obtain⟨lv2,DV2,hγ,hd2,hr2⟩:=hcv;obtain⟨A2,c2,rfl⟩:=qQa hr2.own;have e101:=st.val 2 101 rfl (by kernel_rfl);rw[(st.φ 2 (by kernel_rfl):v 2=_),hγ]at e101;simp at e101;have hg:qQB (γ 0)=qQj (.slice A2 DV2.length c2) P.vols:=by rw[hγ];rfl
    have h37':(qQB (γ 0)).size=37:=by rw[hg];exact qQt _ HI.out.vlen
    refine⟨_,qQr rfl (b:=xb+1+1) (off:=0) (cells:=qQB (γ 0)) (by simp[Act.eval,e4]) (by simp[Act.eval,e101,hg];rfl) (by rw[h37'];exact st.inv.tc) (by rw[h37'];exact qQg) (by rw[hg];exact qQA _ _ _ _),?_⟩
    exact GTwo.storeC st.inv hcr (fun v w1 w2 h ac ar hc=>qQZ.two h ac ar hc) h37' (by decide) (by decide) (by decide)
   case s5 =>
    refine qQ7 rfl rfl rfl fun γ L v a w1 st=>?_
    have e5:=st.far 5 (by kernel_rfl);simp at e5;have e102:=st.val 3 102 rfl (by kernel_rfl);rw[(st.φ 3 (by kernel_rfl):v 3=_)]at e102;simp at e102;refine⟨_,qQr rfl (b:=xb+1+1+1) (off:=0) (cells:=#[.int .i64 0,.int .u64 (b'.id:Int),.int .i64 b'.size,.int .u32 (b'.sum:Int),.slice none 0 0]) (by simp[Act.eval,e5]) (by simp[Act.eval,e102]) st.inv.tr qQz (by simp[Value.oneCell']),?_⟩
    exact GTwo.storeR st.inv hcr (fun v w1 w2 h ac ar hc=>qQZ.two h ac ar hc) rfl (by decide) (by decide) (by decide)
  case fin =>
   intro γ L v wx hall hG hφ;have hc:=hG.call (hall 2 (by decide));have hrc:=hG.rc (hall 4 (by decide));have hrr:=hG.rr (hall 5 (by decide));have hEx:=hEw wx hG.chg;obtain⟨lv2,DV2,hγ,hd2,hr2⟩:=hc;have hsz2:(qQB (γ 0)).size=37:=by rw[hγ];exact qQt _ HI.out.vlen
   have l1:(loadVar 35 ⟨xb+1+1,0,none⟩).run prog wx=.ok (.agg (qQB (γ 0))) wx:=run_loadVar_mid (P:=prog) wx (xb+1+1) 0 35 (qQB (γ 0)).toList _ hrc underlying35 rfl (by rw[Array.length_toList,hsz2];exact qQg);have l2:(loadVar 114 ⟨xb+1+1+1,0,none⟩).run prog wx=.ok (.agg #[.int .i64 0,.int .u64 (b'.id:Int),.int .i64 b'.size,.int .u32 (b'.sum:Int),.slice none 0 0]) wx:=run_loadVar_mid (P:=prog) wx (xb+1+1+1) 0 114 (#[.int .i64 0,.int .u64 (b'.id:Int),.int .i64 b'.size,.int .u32 (b'.sum:Int),.slice none 0 0]:Array Value).toList _ hrr underlying114 rfl qQz
   have HF:Hid (qXD w (P.byName x) (.returned (.tuple #[.agg (qQB (γ 0)),.agg #[.int .i64 0,.int .u64 (b'.id:Int),.int .i64 b'.size,.int .u32 (b'.sum:Int),.slice none 0 0]])) wx):=Hh (by
    have hby:P.byName x=(P.set { b' with pins:=b'.pins+1 },⟨0,b'.id,b'.size,b'.sum,[]⟩):=by unfold Pm.byName;rw[HBI.out.2.2];show(if x.kind=2 then _ else _,_)=_;rw[if_pos HK.out]
    rw[hby];exact⟨.agg (qQB (γ 0)),.slice none 0 0,rfl,⟨lv2,DV2,by rw[hγ];rfl,hd2,hr2⟩,qQR _ _ _,hEx⟩)
   have HL:=Hh (And.intro l1 l2);clear hrc hrr hEx l1 l2 hφ hall kB kY kR hEw hr2 hd2 hsz2;generalize qQB (γ 0)=CA at HF HL
   change Exit.then _ _ _ (qQM _ v _ 6) wx
   simp only[qQM,qQH,Act.put];simp only[List.getElem?_toArray,List.getElem?_cons_zero,List.getElem?_cons_succ,Option.bind_some,List.setIfInBounds_toArray,List.set_cons_zero,List.set_cons_succ];go_wp2_with fail
   refine bodyPost_ret (v:=.tuple #[.agg CA,.agg #[.int .i64 0,.int .u64 (b'.id:Int),.int .i64 b'.size,.int .u32 (b'.sum:Int),.slice none 0 0]]) (qQs results80 _ rfl rfl HL.out.1 HL.out.2) rfl ?_;exact HF.out
theorem rclient_3(w:World)(v:Value)(P:Pm)(n:Nat)(h:qQZ w v P)(hi:PInv n P)(hn:n≤1000000)(x:Cmd)(dx:Value)(hx:w.ownsRow 0 3 1 dx x.disks.length (x.disks.map (Value.int .i64)))(hk:x.kind=3) :
 Calls prog 80 #[v,qQd x dx] w (qXD w (P.byName x)):=by
 obtain⟨lv,DV,rfl,hDV,hR⟩:=h;have hlen:DV.length=P.L.length:=by rw[←hDV,List.length_map]
 obtain⟨A,c,rfl⟩:=qQa hR.own;obtain⟨xA,xc,rfl⟩:=qQa hx;have HRF:Hid (qQZ w (.agg (qQj (.slice A DV.length c) P.vols)) P):=Hh ⟨_,DV,rfl,hDV,hR⟩;have HX:Hid (qQj (.slice A DV.length c) P.vols=(.slice A DV.length c::(P.vols.map qQK).flatten).toArray):=Hh rfl;have h37:=qQt (.slice A DV.length c) hi.vlen;have hone:=qQA A DV.length c P.vols;have HVOL:Hid (∀v y,P.vols[v]? = some y→(qQj (.slice A DV.length c) P.vols)[1+v * 3]? = some (.bool y.closed)∧(qQj (.slice A DV.length c) P.vols)[1+v * 3+1]? = some (.bool y.erase)∧(qQj (.slice A DV.length c) P.vols)[1+v * 3+2]? = some (.int .i64 y.gen)):=Hh (fun v y h=>qXs h);generalize hX:qQj (.slice A DV.length c) P.vols=X at HX HRF HVOL h37 hone⊢;clear hX;have H37:=Hh h37;have HONE:=Hh hone;have HI1:Hid ((prog.info? 35).map (·.size)=some X.toList.length):=Hh (by rw[Array.length_toList,h37];exact qQg);have HI2:Hid ((prog.info? 35).map (·.size)=some X.size):=Hh (by rw[h37];exact qQg);have hX0:X[0]? = some (.slice A DV.length c):=by rw[HX.out];rfl
 have HX0:=Hh hX0;have HDV:=Hh hDV;have HR:=Hh hR;have HI:=Hh hi;have HXO:=Hh hx;have HK:=Hh hk;clear hDV hlen hR hi hx hk hX0 h37 hone;unfold qQd
 go_enter func80,ntmps80
 have hB:=(((At.new w 35 X).alloc (.cells (zZX x xA xc) 117)).alloc (.cells zZC 35)).alloc (.cells zZR 114);have hY:=((At.new (w.alloc (.cells X 35)) 117 (zZX x xA xc)).alloc (.cells zZC 35)).alloc (.cells zZR 114);have hC:=(At.new ((w.alloc (.cells X 35)).alloc (.cells (zZX x xA xc) 117)) 35 zZC).alloc (.cells zZR 114);have hS:=At.new (((w.alloc (.cells X 35)).alloc (.cells (zZX x xA xc) 117)).alloc (.cells zZC 35)) 114 zZR;have hE:=((((Er w).alloc (.cells X 35)).alloc (.cells (zZX x xA xc) 117)).alloc (.cells zZC 35)).alloc (.cells zZR 114);rw[show(w.alloc (.cells X 35)).heap.size=w.heap.size+1 by simp]at hY;rw[show((w.alloc (.cells X 35)).alloc (.cells (zZX x xA xc) 117)).heap.size=w.heap.size+1+1 by simp]at hC;rw[show(((w.alloc (.cells X 35)).alloc (.cells (zZX x xA xc) 117)).alloc (.cells zZC 35)).heap.size=w.heap.size+1+1+1 by simp]at hS
 go_upto_region 1 with fail
 obtain⟨xb,hxb⟩:∃xb,w.heap.size=xb:=⟨_,rfl⟩;rw[hxb]at hB hY hC hS⊢;generalize World.alloc _ _=W at hB hY hC hS hE⊢;have HXB:=Hh (show w.heap.size≤xb by omega);clear hxb;have HZ:Hid (zZC.size=37):=Hh rfl;generalize zZC=ZC at hC HZ;have lS:=hS.lt;have lC:=hC.lt;have lY:=hY.lt;have lB:=hB.lt;have y0:=hY.cell 0;simp at y0;rw[HK.out]at y0;have y3:=hY.cell 3;simp at y3
 have hdl:DV.length≤1000000:=by
  have h1:DV.length=P.L.length:=by rw[←HDV.out,List.length_map]
  have:=HI.out.len
  omega
 have HNM:=Hh (qXH W (.agg X) P (HRF.out.ext hE) x.name (by have:=HI.out.len;omega));have HRG0:=Hh hB.range
 go_wp2_with (refine wpList_load_mid rfl 35 _ rfl xb 0 rfl _ _ HRG0.out underlying35 rfl HI1.out ?_)
 refine HNM.out.mono ?_;rintro e w1 ⟨rfl,hE1⟩;have hB:=hB.ext hE1;have hY:=hY.ext hE1;have hC:=hC.ext hE1;have hS:=hS.ext hE1;have hE:=hE.trans hE1;have lS:=hS.lt;have lC:=hC.lt;have lY:=hY.lt;have lB:=hB.lt;have y0:=hY.cell 0;simp at y0;rw[HK.out]at y0;clear HNM HRG0 y3;rcases name_at (P:=P) (n:=x.name)with⟨hnm,hnn⟩|⟨i,b,hib,hnn,hnm⟩
 ·rw[hnm];have HPN:Hid (P.byName x=(P,Rs.er 5)):=Hh (by unfold Pm.byName;rw[hnn]);clear hnm hnn;have hTO:=qZe (X:=X) (R:=#[.int .i64 5,.int .u64 0,.int .i64 0,.int .u32 0,.slice none 0 0]) hC hS (by rw[HZ.out,H37.out]) rfl H37.out rfl (by omega);have HTO:=Hh hTO;have HRG:=Hh hB.range;have HEF:=Hh (hTO.ext w hE (by have:=HXB.out;omega) (by have:=HXB.out;omega));clear hB hY hC hS hE hTO
  go_wp2_with (first|(refine wpList_load_mid rfl 35 _ rfl xb 0 rfl _ _ HRG.out underlying35 rfl HI1.out ?_)|(refine wpList_store_mid rfl 35 _ _ rfl (xb+1+1) 0 X rfl rfl HTO.out.t1 HI2.out HONE.out ?_)|(refine wpList_store_mid rfl 114 _ _ rfl (xb+1+1+1) 0 #[.int .i64 5,.int .u64 0,.int .i64 0,.int .u32 0,.slice none 0 0] rfl rfl HTO.out.t2 qQz (by simp[Value.oneCell']) ?_))
  refine bodyPost_ret (v:=.tuple #[.agg X,.agg #[.int .i64 5,.int .u64 0,.int .i64 0,.int .u32 0,.slice none 0 0]]) (qQs results80 _ rfl rfl HTO.out.l1 HTO.out.l2) rfl ?_;rw[HPN.out];exact⟨.agg X,.slice none 0 0,rfl,HRF.out.ext HEF.out,qQR _ _ _,HEF.out⟩
 ·rw[hnm]
  obtain⟨⟨b',dv⟩,hb⟩:∃q,DV[i]? = some q:=by
   have h1:i<DV.length:=by
    have h2:=(List.getElem?_eq_some_iff.1 hib).1;rw[←HDV.out,List.length_map]at h2;exact h2
   exact⟨_,List.getElem?_eq_getElem h1⟩
  obtain rfl:b'=b:=by
   rw[←HDV.out,List.getElem?_map,hb]at hib;injection hib
  have hil:i<DV.length:=(List.getElem?_eq_some_iff.1 hb).1;obtain⟨dA,dc,rfl⟩:∃A c,dv=.slice A b'.disks.length c:=qQa (HR.out.dks _ (List.mem_of_getElem? hb));have hSl:=HR.out.sln.ext hE
  obtain⟨rb,ro,rfl⟩:=qQQ hSl (fun e=>by
   have h0:=List.map_eq_nil_iff.1 e;rw[h0]at hb;simp at hb)
  obtain⟨r0,r1,r2,r3,r4,r5,r6,r7,r8,r9,r10,r11,r12⟩:=qQV hSl hb;have hbL:=List.mem_of_getElem? hib;have HBI:=Hh (And.intro (HI.out.bl _ hbL) (And.intro hbL hnn));have HOD:=Hh (HR.out.dks _ (List.mem_of_getElem? hb));have c0:=hB.cell 0;rw[HX0.out]at c0;have hYb:=At.new w1 89 (blCells b' (.slice dA b'.disks.length dc));have hEb:=(Er w1).alloc (.cells (blCells b' (.slice dA b'.disks.length dc)) 89);clear hb hib hbL hnn hSl
  go_upto_region 17 with fail
  clear r0 r1 r2 r3 r4 r5 r6 r7 r8 r9 r10 r11 r12 c0;have HYB:=Hh (show w.heap.size≤w1.heap.size from hE.size);generalize w1.heap.size=yb at hYb HYB⊢;generalize w1.alloc (.cells (blCells b' (.slice dA b'.disks.length dc)) 89)=W2 at hYb hEb⊢;have hB:=hB.ext hEb;have hY:=hY.ext hEb;have hC:=hC.ext hEb;have hS:=hS.ext hEb;have hE:=hE.trans hEb;have lS:=hS.lt;have lC:=hC.lt;have lY:=hY.lt;have lB:=hB.lt;have y0:=hY.cell 0;simp at y0;rw[HK.out]at y0;have lb:=hYb.lt;have d0:=hYb.cell 0;have d2:=hYb.cell 2;have d3:=hYb.cell 3;have d11:=hYb.cell 11;have f11:=hYb.frozen 11;have d12:=hYb.cell 12;have f12:=hYb.frozen 12;simp at d0 d2 d3 d11 d12;have hpn:IntKind.i64.wrap (b'.pins+1)=b'.pins+1:=IntWalk.i64_in _ (by have:=HBI.out.1.pins;omega)
  go_upto_region 22 with fail
  clear d0 d2 d3 d11 f11 d12 f12 hpn;have hne:xb≠yb:=At.ne hB hYb (by decide);have hne2:xb+1+1≠yb:=At.ne hC hYb (by decide);have hne3:xb+1+1+1≠yb:=At.ne hS hYb (by decide);have kYb:At (W2.setCell ⟨yb,12,none⟩ (.bool true)) yb 89 (blCells { b' with dead:=true } (.slice dA b'.disks.length dc)):=hYb.set 12 (.bool true);have kB0:=hB.far (p:=⟨yb,12,none⟩) hne (.bool true);have kC0:=hC.far (p:=⟨yb,12,none⟩) hne2 (.bool true);have kS0:=hS.far (p:=⟨yb,12,none⟩) hne3 (.bool true);have kE0:Ext w (W2.setCell ⟨yb,12,none⟩ (.bool true)):=Chg.setCell (p:=⟨yb,12,none⟩) hE (.inr HYB.out) _;have hszE:(W2.setCell ⟨yb,12,none⟩ (.bool true)).heap.size=W2.heap.size:=by simp
  rw[←hszE];rw[←hszE]at lS;clear hszE hB hY hC hS hYb hE hE1 hEb hne hne2 hne3 lC lY lB lb;generalize (W2.setCell ⟨yb,12,none⟩ (.bool true))=W2s at kYb kB0 kC0 kS0 kE0 lS⊢;have hB:=kB0;have hC:=kC0;have hS:=kS0;have hYb:=kYb;have hE:=kE0;clear kYb kB0 kC0 kS0 kE0;have hRB:=At.new W2s 114 #[.int .i64 0,.int .u64 (b'.id:Int),.int .i64 b'.size,.int .u32 (b'.sum:Int),.slice none 0 0];have hB:=hB.alloc (.cells #[.int .i64 0,.int .u64 (b'.id:Int),.int .i64 b'.size,.int .u32 (b'.sum:Int),.slice none 0 0] 114);have hC:=hC.alloc (.cells #[.int .i64 0,.int .u64 (b'.id:Int),.int .i64 b'.size,.int .u32 (b'.sum:Int),.slice none 0 0] 114);have hS:=hS.alloc (.cells #[.int .i64 0,.int .u64 (b'.id:Int),.int .i64 b'.size,.int .u32 (b'.sum:Int),.slice none 0 0] 114);have hYb:=hYb.alloc (.cells #[.int .i64 0,.int .u64 (b'.id:Int),.int .i64 b'.size,.int .u32 (b'.sum:Int),.slice none 0 0] 114);have hE:=hE.alloc (.cells #[.int .i64 0,.int .u64 (b'.id:Int),.int .i64 b'.size,.int .u32 (b'.sum:Int),.slice none 0 0] 114);have hqS:xb+1+1+1≠W2s.heap.size:=by omega
  generalize hqb:W2s.heap.size=qb at hRB hqS⊢;generalize W2s.alloc (.cells #[.int .i64 0,.int .u64 (b'.id:Int),.int .i64 b'.size,.int .u32 (b'.sum:Int),.slice none 0 0] 114)=W3 at hRB hB hC hS hYb hE⊢;clear hqb;have hcr:xb+1+1≠xb+1+1+1:=by omega
  have nB:∀k,k=xb+1+1∨k=xb+1+1+1→xb≠k:=fun k e=>by rcases e with e|e <;> omega
  have nYc:yb≠xb+1+1:=At.ne hYb hC (by decide);have nYs:yb≠xb+1+1+1:=At.ne hYb hS (by decide);have nQc:qb≠xb+1+1:=At.ne hRB hC (by decide);have kB:∀w1,Chg (fun k=>k=xb+1+1∨k=xb+1+1+1) W3 w1→w1.rangeAt xb 0 X.toList:=fun w1 hc=>(hB.chg hc (fun e=>nB _ e rfl)).range
  have kY:∀w1,Chg (fun k=>k=xb+1+1∨k=xb+1+1+1) W3 w1→w1.rangeAt yb 0 (blCells { b' with dead:=true } (.slice dA b'.disks.length dc)).toList:=fun w1 hc=>(hYb.chg hc (fun e=>e.elim nYc nYs)).range
  have kR:∀w1,Chg (fun k=>k=xb+1+1∨k=xb+1+1+1) W3 w1→w1.rangeAt qb 0 (#[.int .i64 0,.int .u64 (b'.id:Int),.int .i64 b'.size,.int .u32 (b'.sum:Int),.slice none 0 0]:Array Value).toList:=fun w1 hc=>(hRB.chg hc (fun e=>e.elim nQc (fun e=>hqS e.symm))).range
  have hEw:∀w1,Chg (fun k=>k=xb+1+1∨k=xb+1+1+1) W3 w1→Ext w w1:=fun w1 hc=>Chg.mono (hE.chg_trans hc) (fun k hk e=>by have:=HXB.out;rcases e with e|e <;> omega)
  refine qQx (Γ := Nat→Value) (sgφ [.val (.agg X),.val (.agg (blCells { b' with dead:=true } (.slice dA b'.disks.length dc))),.g 0,.val (.agg #[.int .i64 0,.int .u64 (b'.id:Int),.int .i64 b'.size,.int .u32 (b'.sum:Int),.slice none 0 0]),.any,.any])
   (GTwo W3 (xb+1+1) (xb+1+1+1) 2 100 4 5 (fun v w1=>qQZ w1 v (P.set { b' with dead:=true })) qQB (fun _=>#[.int .i64 0,.int .u64 (b'.id:Int),.int .i64 b'.size,.int .u32 (b'.sum:Int),.slice none 0 0])) (by kernel_rfl) (by kernel_rfl) (by kernel_rfl) (fun _=>undef) ?inv ?steps ?fin
  case inv =>
   exact⟨(Er W3).drew.chg,fun hh=>(by cases hh),fun hh=>(by cases hh),(World.there_drew W3 _ 0 37).2 (by have h:=hC.there;rw[HZ.out]at h;exact h),(World.there_drew W3 _ 0 5).2 hS.there,⟨_,hC.drew⟩,⟨_,hS.drew⟩,fun hh=>(by cases hh),fun hh=>(by cases hh)⟩
  case steps =>
   show qQ2 _ _ _ _ _ _ 6
   refine⟨⟨⟨⟨⟨⟨trivial,?s0⟩,?s1⟩,?s2⟩,?s3⟩,?s4⟩,?s5⟩
   case s0 =>
    refine qQh (x:=.agg X) rfl rfl rfl (GTwo.keep (j:=0) (by decide) (by decide) (by decide) (by decide)) fun γ L v a w1 st=>?_
    have e2:=st.far 2 (by kernel_rfl);simp at e2;exact qQi rfl (b:=xb) (off:=0) (by simp[Act.eval,e2]) (kB w1 st.inv.chg) underlying35 rfl HI1.out
   case s1 =>
    refine qQh rfl rfl rfl (GTwo.keep (j:=1) (by decide) (by decide) (by decide) (by decide)) fun γ L v a w1 st=>?_
    have e8:=st.far 8 (by kernel_rfl);simp at e8;exact qQi rfl (b:=yb) (off:=0) (by simp[Act.eval,e8]) (kY w1 st.inv.chg) underlying89 rfl qQe
   case s3 =>
    refine qQh rfl rfl rfl (GTwo.keep (j:=3) (by decide) (by decide) (by decide) (by decide)) fun γ L v a w1 st=>?_
    have e9:=st.far 9 (by kernel_rfl);simp at e9;exact qQi rfl (b:=qb) (off:=0) (by simp[Act.eval,e9]) (kR w1 st.inv.chg) underlying114 rfl qQz
   case s2 =>
    refine qZW (k:=0) (f:=84) rfl rfl rfl (by kernel_rfl) fun γ L v a w1 st=>?_
    have e99:=st.val 0 99 rfl (by kernel_rfl);rw[(st.φ 0 (by kernel_rfl):v 0=_)]at e99;simp at e99;have e100:=st.val 1 100 rfl (by kernel_rfl);rw[(st.φ 1 (by kernel_rfl):v 1=_)]at e100;simp at e100
    have h4:L 4=false:=by
     cases hq:L 4 with
     | false=>rfl
     | true =>
      have q2:=st.down 4 2 hq (by kernel_rfl);have q99:=st.off;rw[q2]at q99;cases q99
    refine⟨#[.agg X,.agg (blCells { b' with dead:=true } (.slice dA b'.disks.length dc))],by go_simp,?_⟩
    have hEE:=hEw w1 st.inv.chg;refine(qXn w1 (.agg X) P (HRF.out.ext hEE) { b' with dead:=true } (.slice dA b'.disks.length dc) (own_kx HOD.out hEE) HI.out.asc (by have:=HI.out.len;omega) HI.out.vlen).mono ?_
    rintro e w2 ⟨nv,rfl,hO,hE2⟩;exact⟨nv,rfl,GTwo.called st.inv hE2 (fun _=>rfl) (fun _=>rfl) (fun hh=>by rw[h4]at hh;cases hh) (by decide) (by decide) (by decide) hO⟩
   case s4 =>
    refine qQ7 rfl rfl rfl fun γ L v a w1 st=>?_
    have e4:=st.far 4 (by kernel_rfl);simp at e4;have hcv:=st.inv.call (st.dep 2 (by kernel_rfl));obtain⟨lv2,DV2,hγ,hd2,hr2⟩:=hcv;obtain⟨A2,c2,rfl⟩:=qQa hr2.own;have e101:=st.val 2 101 rfl (by kernel_rfl);rw[(st.φ 2 (by kernel_rfl):v 2=_),hγ]at e101;simp at e101;have hg:qQB (γ 0)=qQj (.slice A2 DV2.length c2) P.vols:=by rw[hγ];rfl
    have h37':(qQB (γ 0)).size=37:=by rw[hg];exact qQt _ HI.out.vlen
    refine⟨_,qQr rfl (b:=xb+1+1) (off:=0) (cells:=qQB (γ 0)) (by simp[Act.eval,e4]) (by simp[Act.eval,e101,hg];rfl) (by rw[h37'];exact st.inv.tc) (by rw[h37'];exact qQg) (by rw[hg];exact qQA _ _ _ _),?_⟩
    exact GTwo.storeC st.inv hcr (fun v w1 w2 h ac ar hc=>qQZ.two h ac ar hc) h37' (by decide) (by decide) (by decide)
   case s5 =>
    refine qQ7 rfl rfl rfl fun γ L v a w1 st=>?_
    have e5:=st.far 5 (by kernel_rfl);simp at e5;have e102:=st.val 3 102 rfl (by kernel_rfl);rw[(st.φ 3 (by kernel_rfl):v 3=_)]at e102;simp at e102;refine⟨_,qQr rfl (b:=xb+1+1+1) (off:=0) (cells:=#[.int .i64 0,.int .u64 (b'.id:Int),.int .i64 b'.size,.int .u32 (b'.sum:Int),.slice none 0 0]) (by simp[Act.eval,e5]) (by simp[Act.eval,e102]) st.inv.tr qQz (by simp[Value.oneCell']),?_⟩
    exact GTwo.storeR st.inv hcr (fun v w1 w2 h ac ar hc=>qQZ.two h ac ar hc) rfl (by decide) (by decide) (by decide)
  case fin =>
   intro γ L v wx hall hG hφ;have hc:=hG.call (hall 2 (by decide));have hrc:=hG.rc (hall 4 (by decide));have hrr:=hG.rr (hall 5 (by decide));have hEx:=hEw wx hG.chg;obtain⟨lv2,DV2,hγ,hd2,hr2⟩:=hc;have hsz2:(qQB (γ 0)).size=37:=by rw[hγ];exact qQt _ HI.out.vlen
   have l1:(loadVar 35 ⟨xb+1+1,0,none⟩).run prog wx=.ok (.agg (qQB (γ 0))) wx:=run_loadVar_mid (P:=prog) wx (xb+1+1) 0 35 (qQB (γ 0)).toList _ hrc underlying35 rfl (by rw[Array.length_toList,hsz2];exact qQg);have l2:(loadVar 114 ⟨xb+1+1+1,0,none⟩).run prog wx=.ok (.agg #[.int .i64 0,.int .u64 (b'.id:Int),.int .i64 b'.size,.int .u32 (b'.sum:Int),.slice none 0 0]) wx:=run_loadVar_mid (P:=prog) wx (xb+1+1+1) 0 114 (#[.int .i64 0,.int .u64 (b'.id:Int),.int .i64 b'.size,.int .u32 (b'.sum:Int),.slice none 0 0]:Array Value).toList _ hrr underlying114 rfl qQz
   have HF:Hid (qXD w (P.byName x) (.returned (.tuple #[.agg (qQB (γ 0)),.agg #[.int .i64 0,.int .u64 (b'.id:Int),.int .i64 b'.size,.int .u32 (b'.sum:Int),.slice none 0 0]])) wx):=Hh (by
    have hby:P.byName x=(P.set { b' with dead:=true },⟨0,b'.id,b'.size,b'.sum,[]⟩):=by unfold Pm.byName;rw[HBI.out.2.2];show(if x.kind=2 then _ else if x.kind=3 then _ else _,_)=_;rw[if_neg (by rw[HK.out];decide),if_pos HK.out]
    rw[hby];exact⟨.agg (qQB (γ 0)),.slice none 0 0,rfl,⟨lv2,DV2,by rw[hγ];rfl,hd2,hr2⟩,qQR _ _ _,hEx⟩)
   have HL:=Hh (And.intro l1 l2);clear hrc hrr hEx l1 l2 hφ hall kB kY kR hEw hr2 hd2 hsz2;generalize qQB (γ 0)=CA at HF HL
   change Exit.then _ _ _ (qQM _ v _ 6) wx
   simp only[qQM,qQH,Act.put];simp only[List.getElem?_toArray,List.getElem?_cons_zero,List.getElem?_cons_succ,Option.bind_some,List.setIfInBounds_toArray,List.set_cons_zero,List.set_cons_succ];go_wp2_with fail
   refine bodyPost_ret (v:=.tuple #[.agg CA,.agg #[.int .i64 0,.int .u64 (b'.id:Int),.int .i64 b'.size,.int .u32 (b'.sum:Int),.slice none 0 0]]) (qQs results80 _ rfl rfl HL.out.1 HL.out.2) rfl ?_;exact HF.out
open Go.RowKit Go.Sort
theorem rclient_1(w:World)(v:Value)(P:Pm)(n:Nat)(h:qQZ w v P)(hi:PInv n P)(hn:n≤1000000)(x:Cmd)(dx:Value)(hx:w.ownsRow 0 3 1 dx x.disks.length (x.disks.map (Value.int .i64)))(hk:x.kind=1)(hdx:x.disks.length≤17592186043904) :
 Calls prog 80 #[v,qQd x dx] w (qXD w (rs1 (P.put x))):=by
 obtain⟨lv,DV,rfl,hDV,hR⟩:=h;have hlen:DV.length=P.L.length:=by rw[←hDV,List.length_map]
 obtain⟨A,c,rfl⟩:=qQa hR.own;obtain⟨xA,xc,rfl⟩:=qQa hx;have HRF:Hid (qQZ w (.agg (qQj (.slice A DV.length c) P.vols)) P):=Hh ⟨_,DV,rfl,hDV,hR⟩;have HX:Hid (qQj (.slice A DV.length c) P.vols=(.slice A DV.length c::(P.vols.map qQK).flatten).toArray):=Hh rfl;have h37:=qQt (.slice A DV.length c) hi.vlen;have hone:=qQA A DV.length c P.vols;have HVOL:Hid (∀v y,P.vols[v]? = some y→(qQj (.slice A DV.length c) P.vols)[1+v * 3]? = some (.bool y.closed)∧(qQj (.slice A DV.length c) P.vols)[1+v * 3+1]? = some (.bool y.erase)∧(qQj (.slice A DV.length c) P.vols)[1+v * 3+2]? = some (.int .i64 y.gen)):=Hh (fun v y h=>qXs h);generalize hX:qQj (.slice A DV.length c) P.vols=X at HX HRF HVOL h37 hone⊢;clear hX;have H37:=Hh h37;have HONE:=Hh hone;have HI1:Hid ((prog.info? 35).map (·.size)=some X.toList.length):=Hh (by rw[Array.length_toList,h37];exact qQg);have HI2:Hid ((prog.info? 35).map (·.size)=some X.size):=Hh (by rw[h37];exact qQg);have hX0:X[0]? = some (.slice A DV.length c):=by rw[HX.out];rfl
 have HX0:=Hh hX0;have HDV:=Hh hDV;have HR:=Hh hR;have HI:=Hh hi;have HXO:=Hh hx;have HK:=Hh hk;clear hDV hlen hR hi hx hk hX0 h37 hone;unfold qQd
 go_enter func80,ntmps80
 have hB:=(((At.new w 35 X).alloc (.cells (zZX x xA xc) 117)).alloc (.cells zZC 35)).alloc (.cells zZR 114);have hY:=((At.new (w.alloc (.cells X 35)) 117 (zZX x xA xc)).alloc (.cells zZC 35)).alloc (.cells zZR 114);have hC:=(At.new ((w.alloc (.cells X 35)).alloc (.cells (zZX x xA xc) 117)) 35 zZC).alloc (.cells zZR 114);have hS:=At.new (((w.alloc (.cells X 35)).alloc (.cells (zZX x xA xc) 117)).alloc (.cells zZC 35)) 114 zZR;have hE:=((((Er w).alloc (.cells X 35)).alloc (.cells (zZX x xA xc) 117)).alloc (.cells zZC 35)).alloc (.cells zZR 114);rw[show(w.alloc (.cells X 35)).heap.size=w.heap.size+1 by simp]at hY;rw[show((w.alloc (.cells X 35)).alloc (.cells (zZX x xA xc) 117)).heap.size=w.heap.size+1+1 by simp]at hC;rw[show(((w.alloc (.cells X 35)).alloc (.cells (zZX x xA xc) 117)).alloc (.cells zZC 35)).heap.size=w.heap.size+1+1+1 by simp]at hS
 go_upto_region 1 with fail
 obtain⟨xb,hxb⟩:∃xb,w.heap.size=xb:=⟨_,rfl⟩;rw[hxb]at hB hY hC hS⊢;generalize World.alloc _ _=W at hB hY hC hS hE⊢;have HXB:=Hh (show w.heap.size≤xb by omega);clear hxb;have HZ:Hid (zZC.size=37):=Hh rfl;generalize zZC=ZC at hC HZ;have lS:=hS.lt;have lC:=hC.lt;have lY:=hY.lt;have lB:=hB.lt;have y0:=hY.cell 0;simp at y0;rw[HK.out]at y0;have y3:=hY.cell 3;simp at y3
 have hdl:DV.length≤1000000:=by
  have h1:DV.length=P.L.length:=by rw[←HDV.out,List.length_map]
  have:=HI.out.len
  omega
 have HNM:=Hh (qXH W (.agg X) P (HRF.out.ext hE) x.name (by have:=HI.out.len;omega));have HRG0:=Hh hB.range
 go_wp2_with (refine wpList_load_mid rfl 35 _ rfl xb 0 rfl _ _ HRG0.out underlying35 rfl HI1.out ?_)
 refine HNM.out.mono ?_;rintro e w1 ⟨rfl,hE1⟩;have hB:=hB.ext hE1;have hY:=hY.ext hE1;have hC:=hC.ext hE1;have hS:=hS.ext hE1;have hE:=hE.trans hE1;have lS:=hS.lt;have lC:=hC.lt;have lY:=hY.lt;have lB:=hB.lt;have y0:=hY.cell 0;have y3:=hY.cell 3;have y4:=hY.cell 4;have y7:=hY.cell 7;simp at y0 y3 y4 y7;rw[HK.out]at y0;clear HNM HRG0
 by_cases h1:x.name=ByteArray.empty
 ·have he:x.name.toList.isEmpty=true:=by rw[h1,Lib.toList_data];rfl
  have H1:=Hh h1;clear h1;have hTO:=qZe (X:=X) (R:=#[.int .i64 1,.int .u64 0,.int .i64 0,.int .u32 0,.slice none 0 0]) hC hS (by rw[HZ.out,H37.out]) rfl H37.out rfl (by omega);have HTO:=Hh hTO;have HRG:=Hh hB.range;have HEF:=Hh (hTO.ext w hE (by have:=HXB.out;omega) (by have:=HXB.out;omega));clear hB hY hC hS hE hTO
  go_wp2_with (first|(refine wpList_load_mid rfl 35 _ rfl xb 0 rfl _ _ HRG.out underlying35 rfl HI1.out ?_)|(refine wpList_store_mid rfl 35 _ _ rfl (xb+1+1) 0 X rfl rfl HTO.out.t1 HI2.out HONE.out ?_)|(refine wpList_store_mid rfl 114 _ _ rfl (xb+1+1+1) 0 #[.int .i64 1,.int .u64 0,.int .i64 0,.int .u32 0,.slice none 0 0] rfl rfl HTO.out.t2 qQz (by simp[Value.oneCell']) ?_))
  refine bodyPost_ret (v:=.tuple #[.agg X,.agg #[.int .i64 1,.int .u64 0,.int .i64 0,.int .u32 0,.slice none 0 0]]) (qQs results80 _ rfl rfl HTO.out.l1 HTO.out.l2) rfl ?_;have hq:rs1 (P.put x)=(P,Rs.er 1):=by unfold Pm.put rs1;rw[if_pos (.inl H1.out)]
  rw[hq];exact⟨.agg X,.slice none 0 0,rfl,HRF.out.ext HEF.out,qQR _ _ _,HEF.out⟩
 ·have he:x.name.toList.isEmpty=false:=by
   cases e:x.name.toList.isEmpty
   ·rfl
   ·exact absurd (qZS.1 (by rw[List.isEmpty_iff.1 e,Lib.toList_data];rfl)) h1
  have H1:=Hh h1;clear h1
  by_cases h2:x.blob=0
  ·have H2:=Hh h2;have hTO:=qZe (X:=X) (R:=#[.int .i64 1,.int .u64 0,.int .i64 0,.int .u32 0,.slice none 0 0]) hC hS (by rw[HZ.out,H37.out]) rfl H37.out rfl (by omega);have HTO:=Hh hTO;have HRG:=Hh hB.range;have HEF:=Hh (hTO.ext w hE (by have:=HXB.out;omega) (by have:=HXB.out;omega));clear hB hY hC hS hE hTO
   go_wp2_with (first|(refine wpList_load_mid rfl 35 _ rfl xb 0 rfl _ _ HRG.out underlying35 rfl HI1.out ?_)|(refine wpList_store_mid rfl 35 _ _ rfl (xb+1+1) 0 X rfl rfl HTO.out.t1 HI2.out HONE.out ?_)|(refine wpList_store_mid rfl 114 _ _ rfl (xb+1+1+1) 0 #[.int .i64 1,.int .u64 0,.int .i64 0,.int .u32 0,.slice none 0 0] rfl rfl HTO.out.t2 qQz (by simp[Value.oneCell']) ?_))
   refine bodyPost_ret (v:=.tuple #[.agg X,.agg #[.int .i64 1,.int .u64 0,.int .i64 0,.int .u32 0,.slice none 0 0]]) (qQs results80 _ rfl rfl HTO.out.l1 HTO.out.l2) rfl ?_;have hq:rs1 (P.put x)=(P,Rs.er 1):=by unfold Pm.put rs1;rw[if_pos (.inr (.inl H2.out))]
   rw[hq];exact⟨.agg X,.slice none 0 0,rfl,HRF.out.ext HEF.out,qQR _ _ _,HEF.out⟩
  ·have H2:=Hh h2
   by_cases h3:x.disks=[]
   ·have hl:x.disks.length=0:=by rw[h3];rfl
    have H3:=Hh h3;clear h3;have hTO:=qZe (X:=X) (R:=#[.int .i64 1,.int .u64 0,.int .i64 0,.int .u32 0,.slice none 0 0]) hC hS (by rw[HZ.out,H37.out]) rfl H37.out rfl (by omega);have HTO:=Hh hTO;have HRG:=Hh hB.range;have HEF:=Hh (hTO.ext w hE (by have:=HXB.out;omega) (by have:=HXB.out;omega));clear hB hY hC hS hE hTO
    go_wp2_with (first|(refine wpList_load_mid rfl 35 _ rfl xb 0 rfl _ _ HRG.out underlying35 rfl HI1.out ?_)|(refine wpList_store_mid rfl 35 _ _ rfl (xb+1+1) 0 X rfl rfl HTO.out.t1 HI2.out HONE.out ?_)|(refine wpList_store_mid rfl 114 _ _ rfl (xb+1+1+1) 0 #[.int .i64 1,.int .u64 0,.int .i64 0,.int .u32 0,.slice none 0 0] rfl rfl HTO.out.t2 qQz (by simp[Value.oneCell']) ?_))
    refine bodyPost_ret (v:=.tuple #[.agg X,.agg #[.int .i64 1,.int .u64 0,.int .i64 0,.int .u32 0,.slice none 0 0]]) (qQs results80 _ rfl rfl HTO.out.l1 HTO.out.l2) rfl ?_;have hq:rs1 (P.put x)=(P,Rs.er 1):=by unfold Pm.put rs1;rw[if_pos (.inr (.inr H3.out))]
    rw[hq];exact⟨.agg X,.slice none 0 0,rfl,HRF.out.ext HEF.out,qQR _ _ _,HEF.out⟩
   ·have hl:¬ x.disks.length=0:=fun e=>h3 (List.length_eq_zero_iff.1 e)
    have H3:=Hh h3;clear h3;have hbb:((x.blob:Int) == 0)=false:=by rw[beq_eq_false_iff_ne];omega
    have hll:((x.disks.length:Int) == 0)=false:=by rw[beq_eq_false_iff_ne];omega
    have HFD:=Hh (rfind_any w1 (.agg X) P (HRF.out.ext hE) x.blob (by have:=HI.out.len;omega));have HRG1:=Hh hB.range
    go_wp2_with (refine wpList_load_mid rfl 35 _ rfl xb 0 rfl _ _ HRG1.out underlying35 rfl HI1.out ?_)
    refine HFD.out.mono ?_;rintro e w2 ⟨rfl,hE2⟩;have hB:=hB.ext hE2;have hY:=hY.ext hE2;have hC:=hC.ext hE2;have hS:=hS.ext hE2;have hE:=hE.trans hE2;have lS:=hS.lt;have lC:=hC.lt;have lY:=hY.lt;have lB:=hB.lt;clear HFD HRG1;rcases find_at (P:=P) (id:=x.blob)with⟨hf,hfn⟩|⟨j,bj,hj,hjd,hf⟩
    rotate_left
    ·rw[hf];have HFS:Hid ((P.find x.blob).isSome=true):=Hh (by rw[(qZT HI.out.asc).2 ⟨List.mem_of_getElem? hj,hjd⟩];rfl);clear hf hj hjd;have hTO:=qZe (X:=X) (R:=#[.int .i64 6,.int .u64 0,.int .i64 0,.int .u32 0,.slice none 0 0]) hC hS (by rw[HZ.out,H37.out]) rfl H37.out rfl (by omega);have HTO:=Hh hTO;have HRG:=Hh hB.range;have HEF:=Hh (hTO.ext w hE (by have:=HXB.out;omega) (by have:=HXB.out;omega));clear hB hY hC hS hE hTO
     go_wp2_with (first|(refine wpList_load_mid rfl 35 _ rfl xb 0 rfl _ _ HRG.out underlying35 rfl HI1.out ?_)|(refine wpList_store_mid rfl 35 _ _ rfl (xb+1+1) 0 X rfl rfl HTO.out.t1 HI2.out HONE.out ?_)|(refine wpList_store_mid rfl 114 _ _ rfl (xb+1+1+1) 0 #[.int .i64 6,.int .u64 0,.int .i64 0,.int .u32 0,.slice none 0 0] rfl rfl HTO.out.t2 qQz (by simp[Value.oneCell']) ?_))
     refine bodyPost_ret (v:=.tuple #[.agg X,.agg #[.int .i64 6,.int .u64 0,.int .i64 0,.int .u32 0,.slice none 0 0]]) (qQs results80 _ rfl rfl HTO.out.l1 HTO.out.l2) rfl ?_;have hq:rs1 (P.put x)=(P,Rs.er 6):=by unfold Pm.put rs1;rw[if_neg (fun e=>e.elim H1.out (fun e=>e.elim H2.out H3.out)),if_pos HFS.out]
     rw[hq];exact⟨.agg X,.slice none 0 0,rfl,HRF.out.ext HEF.out,qQR _ _ _,HEF.out⟩
    ·rw[hf];have HFN:=Hh hfn;clear hf hfn;rcases name_at (P:=P) (n:=x.name)with⟨hnm,hnn⟩|⟨i,b,hib,hnn,hnm⟩
     ·have hneg:qXr x.name P.L 0<0:=by rw[hnm];decide
      have HPUT:Hid (rs1 (P.put x)=(P.set (qJo x),Rs.er 0)):=Hh (by
       unfold Pm.put rs1;rw[if_neg (fun e=>e.elim H1.out (fun e=>e.elim H2.out H3.out)),if_neg (by rw[HFN.out];simp),hnn])
      rw[hnm];clear hnm hnn hneg;have y3:=hY.cell 3;have y4:=hY.cell 4;have y5:=hY.cell 5;have y6:=hY.cell 6;have y7:=hY.cell 7;simp at y3 y4 y5 y6 y7;have HST:=Hh (qXn w2 (.agg X) P (HRF.out.ext hE) (qJo x) (.slice xA x.disks.length xc) (own_kx HXO.out hE) HI.out.asc (by have:=HI.out.len;omega) HI.out.vlen);have HRG2:=Hh hB.range
      go_wp2_with (refine wpList_load_mid rfl 35 _ rfl xb 0 rfl _ _ HRG2.out underlying35 rfl HI1.out ?_)
      refine HST.out.mono ?_;rintro e w3 ⟨nv,rfl,hO,hE3⟩;obtain⟨lv2,DV2,rfl,hd2,hr2⟩:=hO;obtain⟨A2,c2,rfl⟩:=qQa hr2.own;have hB:=hB.ext hE3;have hY:=hY.ext hE3;have hC:=hC.ext hE3;have hS:=hS.ext hE3;have hE:=hE.trans hE3;have lS:=hS.lt;have lC:=hC.lt;have lY:=hY.lt;have lB:=hB.lt;have h37':=qQt (.slice A2 DV2.length c2) (V:=(P.set (qJo x)).vols) HI.out.vlen;have hone':=qQA A2 DV2.length c2 (P.set (qJo x)).vols;have hrf:qQZ w3 (.agg (qQj (.slice A2 DV2.length c2) (P.set (qJo x)).vols)) (P.set (qJo x)):=⟨_,DV2,rfl,hd2,hr2⟩;generalize qQj (.slice A2 DV2.length c2) (P.set (qJo x)).vols=X2 at h37' hone' hrf⊢;have hTO:=qZe (X:=X2) (R:=zZR) hC hS (by rw[HZ.out,h37']) rfl h37' rfl (by omega);have HTO:=Hh hTO;have hroC:Chg (fun k=>k=xb+1+1∨k=xb+1+1+1) w3 ((w3.setCells (xb+1+1) 0 X2.toList).setCells (xb+1+1+1) 0 zZR.toList):=Chg.setCells (Chg.setCells (Er w3).chg (.inl rfl) _ _) (.inr rfl) _ _;have HRO:=Hh (qQZ.two hrf ⟨_,hC⟩ ⟨_,hS⟩ hroC);have HEF:=Hh (hTO.ext w hE (by have:=HXB.out;omega) (by have:=HXB.out;omega));clear hB hY hC hS hE hTO hr2 hd2 hrf hroC
      go_wp2_with (first|(refine wpList_store_mid rfl 35 _ _ rfl (xb+1+1) 0 X2 rfl rfl HTO.out.t1 (by rw[h37'];exact qQg) hone' ?_)|(refine wpList_store_mid rfl 114 _ _ rfl (xb+1+1+1) 0 #[.int .i64 0,.int .u64 0,.int .i64 0,.int .u32 0,.slice none 0 0] rfl rfl HTO.out.t2 qQz (by simp[Value.oneCell']) ?_))
      refine bodyPost_ret (v:=.tuple #[.agg X2,.agg zZR]) (qQs results80 _ rfl rfl HTO.out.l1 HTO.out.l2) rfl ?_;rw[HPUT.out];exact⟨.agg X2,.slice none 0 0,rfl,HRO.out,qQR _ _ _,HEF.out⟩
     ·rw[hnm]
      obtain⟨⟨b',dv⟩,hb⟩:∃q,DV[i]? = some q:=by
       have h1:i<DV.length:=by
        have h2:=(List.getElem?_eq_some_iff.1 hib).1;rw[←HDV.out,List.length_map]at h2;exact h2
       exact⟨_,List.getElem?_eq_getElem h1⟩
      obtain rfl:b'=b:=by
       rw[←HDV.out,List.getElem?_map,hb]at hib;injection hib
      have hil:i<DV.length:=(List.getElem?_eq_some_iff.1 hb).1;obtain⟨dA,dc,rfl⟩:∃A c,dv=.slice A b'.disks.length c:=qQa (HR.out.dks _ (List.mem_of_getElem? hb));have hSl:=HR.out.sln.ext hE
      obtain⟨rb,ro,rfl⟩:=qQQ hSl (fun e=>by
       have h0:=List.map_eq_nil_iff.1 e;rw[h0]at hb;simp at hb)
      obtain⟨r0,r1,r2,r3,r4,r5,r6,r7,r8,r9,r10,r11,r12⟩:=qQV hSl hb;have hbL:=List.mem_of_getElem? hib;have HBI:=Hh (And.intro (HI.out.bl _ hbL) (And.intro hbL hnn));have HOD:=Hh (HR.out.dks _ (List.mem_of_getElem? hb));have c0:=hB.cell 0;rw[HX0.out]at c0;have hYb:=At.new w2 89 (blCells b' (.slice dA b'.disks.length dc));have hEb:=(Er w2).alloc (.cells (blCells b' (.slice dA b'.disks.length dc)) 89);clear hb hib hbL hnn hSl
      go_upto_region 11 with fail
      clear r0 r1 r2 r3 r4 r5 r6 r7 r8 r9 r10 r11 r12 c0;have HYB:=Hh (show w.heap.size≤w2.heap.size from hE.size);generalize w2.heap.size=yb at hYb HYB⊢;generalize w2.alloc (.cells (blCells b' (.slice dA b'.disks.length dc)) 89)=WB at hYb hEb⊢;have hB:=hB.ext hEb;have hY:=hY.ext hEb;have hC:=hC.ext hEb;have hS:=hS.ext hEb;have hE:=hE.trans hEb;have lS:=hS.lt;have lC:=hC.lt;have lY:=hY.lt;have lB:=hB.lt;have d12:=hYb.cell 12;have f12:=hYb.frozen 12;simp at d12
      go_upto_region 12 with fail
      clear d12 f12;have hne:xb≠yb:=At.ne hB hYb (by decide);have hne1:xb+1≠yb:=At.ne hY hYb (by decide);have hne2:xb+1+1≠yb:=At.ne hC hYb (by decide);have hne3:xb+1+1+1≠yb:=At.ne hS hYb (by decide);have kYb:At (WB.setCell ⟨yb,12,none⟩ (.bool true)) yb 89 (blCells { b' with dead:=true } (.slice dA b'.disks.length dc)):=hYb.set 12 (.bool true);have kB0:=hB.far (p:=⟨yb,12,none⟩) hne (.bool true);have kY0:=hY.far (p:=⟨yb,12,none⟩) hne1 (.bool true);have kC0:=hC.far (p:=⟨yb,12,none⟩) hne2 (.bool true);have kS0:=hS.far (p:=⟨yb,12,none⟩) hne3 (.bool true);have kE0:Ext w (WB.setCell ⟨yb,12,none⟩ (.bool true)):=Chg.setCell (p:=⟨yb,12,none⟩) hE (.inr (by have:=HYB.out;have:=hE2.size;omega)) _;clear hB hY hC hS hYb hE hE1 hEb hne hne1 hne2 hne3 lC lY lB lS;generalize (WB.setCell ⟨yb,12,none⟩ (.bool true))=W2s at kYb kB0 kY0 kC0 kS0 kE0⊢;have hB:=kB0;have hY:=kY0;have hC:=kC0;have hS:=kS0;have hYb:=kYb;have hE:=kE0;clear kYb kB0 kY0 kC0 kS0 kE0;have HST1:=Hh (qXn W2s (.agg X) P (HRF.out.ext hE) { b' with dead:=true } (.slice dA b'.disks.length dc) (own_kx HOD.out hE) HI.out.asc (by have:=HI.out.len;omega) HI.out.vlen);have HRGb:=Hh hB.range;have HRGy:=Hh hYb.range
      go_wp2_with (first|(refine wpList_load_mid rfl 35 _ rfl xb 0 rfl _ _ HRGb.out underlying35 rfl HI1.out ?_)|(refine wpList_load_mid rfl 89 _ rfl yb 0 rfl _ _ HRGy.out underlying89 rfl qQe ?_))
      refine HST1.out.mono ?_;rintro e w3 ⟨nv,rfl,hO1,hE3⟩;obtain⟨lv1,DV1,rfl,hd1,hr1⟩:=hO1;obtain⟨A1,c1,rfl⟩:=qQa hr1.own;have hB:=hB.ext hE3;have hY:=hY.ext hE3;have hC:=hC.ext hE3;have hS:=hS.ext hE3;have hE:=hE.trans hE3;have h37a:=qQt (.slice A1 DV1.length c1) (V:=(P.set { b' with dead:=true }).vols) HI.out.vlen;have honea:=qQA A1 DV1.length c1 (P.set { b' with dead:=true }).vols;have hrf1:qQZ w3 (.agg (qQj (.slice A1 DV1.length c1) (P.set { b' with dead:=true }).vols)) (P.set { b' with dead:=true }):=⟨_,DV1,rfl,hd1,hr1⟩;generalize qQj (.slice A1 DV1.length c1) (P.set { b' with dead:=true }).vols=X1 at h37a honea hrf1⊢;have HT1:Hid (w3.there xb 0 X1.size):=Hh (by have h:=hB.there;rw[H37.out]at h;rw[h37a];exact h);have hone4:xb≠xb+1:=by omega
      have qY:=hY.chg (qQq (b:=xb) X1.toList 0) (fun e=>hone4 e.symm);have qC:=hC.chg (qQq (b:=xb) X1.toList 0) (fun(e:xb+1+1=xb)=>by omega);have qS:=hS.chg (qQq (b:=xb) X1.toList 0) (fun(e:xb+1+1+1=xb)=>by omega);have qE:Ext w (w3.setCells xb 0 X1.toList):=hE.setCells HXB.out _ _;have HRG4:=Hh (World.rangeAt_setCells_same w3 xb 0 X1.toList (by rw[Array.length_toList];exact HT1.out));have HRF1:Hid (qQZ (w3.setCells xb 0 X1.toList) (.agg X1) (P.set { b' with dead:=true })):=Hh (qQZ.two hrf1 ⟨_,hB⟩ ⟨_,hS⟩ (Chg.setCells (Er w3).chg (.inl rfl) _ _));have HIa:Hid ((prog.info? 35).map (·.size)=some X1.toList.length):=Hh (by rw[Array.length_toList,h37a];exact qQg);have HIb:Hid ((prog.info? 35).map (·.size)=some X1.size):=Hh (by rw[h37a];exact qQg);have HOa:=Hh honea;clear hB hY hC hS hE hrf1 hr1 hd1 honea hone4;have y3:=qY.cell 3;have y4:=qY.cell 4;have y5:=qY.cell 5;have y6:=qY.cell 6;have y7:=qY.cell 7;simp at y3 y4 y5 y6 y7;have HST:=Hh (qXn (w3.setCells xb 0 X1.toList) (.agg X1) (P.set { b' with dead:=true }) HRF1.out (qJo x) (.slice xA x.disks.length xc) (own_kx HXO.out qE) (qJz HI.out.asc _) (Nat.le_trans (qXM HI.out.asc HBI.out.2.1 rfl) (by have:=HI.out.len;omega)) HI.out.vlen)
      have HPUT:Hid (rs1 (P.put x)=((P.set { b' with dead:=true }).set (qJo x),Rs.er 0)):=Hh (by
       unfold Pm.put rs1;rw[if_neg (fun e=>e.elim H1.out (fun e=>e.elim H2.out H3.out)),if_neg (by rw[HFN.out];simp),HBI.out.2.2])
      go_wp2_with (first|(refine wpList_store_mid rfl 35 _ _ rfl xb 0 X1 rfl rfl HT1.out HIb.out HOa.out ?_)|(refine wpList_load_mid rfl 35 _ rfl xb 0 rfl _ _ HRG4.out underlying35 rfl HIa.out ?_))
      refine HST.out.mono ?_;rintro e w4 ⟨nv,rfl,hO,hE4⟩;obtain⟨lv2,DV2,rfl,hd2,hr2⟩:=hO;obtain⟨A2,c2,rfl⟩:=qQa hr2.own;have hC:=qC.ext hE4;have hS:=qS.ext hE4;have hE:=qE.trans hE4;have h37':=qQt (.slice A2 DV2.length c2) (V:=((P.set { b' with dead:=true }).set (qJo x)).vols) HI.out.vlen;have hone':=qQA A2 DV2.length c2 ((P.set { b' with dead:=true }).set (qJo x)).vols;have hrf:qQZ w4 (.agg (qQj (.slice A2 DV2.length c2) ((P.set { b' with dead:=true }).set (qJo x)).vols)) ((P.set { b' with dead:=true }).set (qJo x)):=⟨_,DV2,rfl,hd2,hr2⟩;generalize qQj (.slice A2 DV2.length c2) ((P.set { b' with dead:=true }).set (qJo x)).vols=X2 at h37' hone' hrf⊢;have hTO:=qZe (X:=X2) (R:=zZR) hC hS (by rw[HZ.out,h37']) rfl h37' rfl (by omega);have HTO:=Hh hTO;have hroC:Chg (fun k=>k=xb+1+1∨k=xb+1+1+1) w4 ((w4.setCells (xb+1+1) 0 X2.toList).setCells (xb+1+1+1) 0 zZR.toList):=Chg.setCells (Chg.setCells (Er w4).chg (.inl rfl) _ _) (.inr rfl) _ _;have HRO:=Hh (qQZ.two hrf ⟨_,hC⟩ ⟨_,hS⟩ hroC);have HEF:=Hh (hTO.ext w hE (by have:=HXB.out;omega) (by have:=HXB.out;omega));clear hC hS hE hTO hr2 hd2 hrf hroC
      go_wp2_with (first|(refine wpList_store_mid rfl 35 _ _ rfl (xb+1+1) 0 X2 rfl rfl HTO.out.t1 (by rw[h37'];exact qQg) hone' ?_)|(refine wpList_store_mid rfl 114 _ _ rfl (xb+1+1+1) 0 #[.int .i64 0,.int .u64 0,.int .i64 0,.int .u32 0,.slice none 0 0] rfl rfl HTO.out.t2 qQz (by simp[Value.oneCell']) ?_))
      refine bodyPost_ret (v:=.tuple #[.agg X2,.agg zZR]) (qQs results80 _ rfl rfl HTO.out.l1 HTO.out.l2) rfl ?_;rw[HPUT.out];exact⟨.agg X2,.slice none 0 0,rfl,HRO.out,qQR _ _ _,HEF.out⟩
end Go.Proofs.YtiojjokfeknhcaaGreat
