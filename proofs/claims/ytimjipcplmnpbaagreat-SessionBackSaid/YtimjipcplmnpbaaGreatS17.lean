/-
  Part 17 of what the law leans on.
-/
import Derived.Test.YtimjipcplmnpbaaGreatS9
import Derived.Test.YtimjipcplmnpbaaGreatS10
import Derived.Test.YtimjipcplmnpbaaGreatS11
import Derived.Test.YtimjipcplmnpbaaGreatS12
import Derived.Test.YtimjipcplmnpbaaGreatS13
import Derived.Test.YtimjipcplmnpbaaGreatS14
namespace Go.Proofs.YtimjipcplmnpbaaGreat
set_option maxRecDepth 100000
set_option maxHeartbeats 8000000
set_option linter.unusedVariables false
set_option linter.unusedSimpArgs false
set_option linter.unusedSectionVars false
open _root_.Go.Proofs.Tryz
open Go.RowKit Go.Sort
def qJP(r:Rs)(nv:Value):Array Value:=#[.int .i64 r.err,.int .u64 (r.blob:Int),.int .i64 r.size,.int .u32 (r.sum:Int),nv]
def MaOut(w:World)(R:Mach×Rs)(e:Ending)(w':World):Prop :=
 ∃v A c,e=.returned (.tuple #[v,.agg (qJP R.2 (.slice A R.2.names.length c))])∧qXY w' v R.1∧w'.ownsRow 0 9 1 (.slice A R.2.names.length c) R.2.names.length (R.2.names.map Value.string)∧Ext w w'
theorem qX9{w w':World}{c r:Nat}{X Y:Array Value}{T1 T2:TypeId}{base:Nat}{e:TypeId}{size:Nat}{v:Value}{n:Nat}{xs:List Value}(ho:w.ownsRow base e size v n xs)(ac:At w c T1 X)(ar:At w r T2 Y)(h1:e≠T1)(h2:e≠T2)(hc:Chg (fun k=>k=c∨k=r) w w'):w'.ownsRow base e size v n xs :=
 qQa ho hc fun k hk he=>he.elim (fun e1=>qQb ho ac h1 k hk e1) (fun e1=>qQb ho ar h2 k hk e1)
theorem qXY.two{w w':World}{v:Value}{M:Mach}{c r:Nat}{X Y:Array Value}(h:qXY w v M)(ac:At w c 62 X)(ar:At w r 64 Y)(hc:Chg (fun k=>k=c∨k=r) w w'):qXY w' v M:=by
 obtain⟨C,mv,DM,h1,h2,h3,⟨lv,DV,k1,k2,k3⟩,h5,h6⟩:=h;exact⟨C,mv,DM,h1,h2,h3,⟨lv,DV,k1,k2,⟨qX9 k3.own ac ar (by decide) (by decide) hc,fun p hp=>qX9 (k3.dks p hp) ac ar (by decide) (by decide) hc⟩⟩,⟨qX9 h5.own ac ar (by decide) (by decide) hc,fun p hp=>qX9 (h5.nms p hp) ac ar (by decide) (by decide) hc⟩,h6⟩
theorem qJn{w:World}{q:Nat}{cs:Array Value}(h:At w q 62 cs)(hs:cs.size=39):(loadVar 62 ⟨q,0,none⟩).run prog w=.ok (.agg cs) w:=by
 have:=run_loadVar_mid (P:=prog) w q 0 62 cs.toList _ h.range underlying62 rfl (by rw[Array.length_toList,hs];exact qQU)
 simpa using this
theorem qJY{w:World}{q:Nat}{cs:Array Value}(h:At w q 64 cs)(hs:cs.size=5):(loadVar 64 ⟨q,0,none⟩).run prog w=.ok (.agg cs) w:=by
 have:=run_loadVar_mid (P:=prog) w q 0 64 cs.toList _ h.range underlying64 rfl (by rw[Array.length_toList,hs];exact qQo)
 simpa using this
theorem mArr_store{w:World}{x:Nat}{C C':Array Value}{mv:Value}{n:Int}(h:At w x 62 (qZx C mv n))(h1:C.size=37)(h2:C'.size=37):At (w.setCells x 0 C'.toList) x 62 (qZx C' mv n):=by
 obtain⟨Z,hZ,hz⟩:=At.cells_sz (m:=39) C'.toList 0 w ⟨_,h,qQ6 h1 mv n⟩;refine At.of_range hZ (by rw[hz,qQ6 h2]) ?_
 have ht:w.there x 0 C'.toList.length:=by
  have:=h.there
  rw[qQ6 h1]at this;rw[Array.length_toList,h2];exact fun j hj=>this j (by omega)
 have r1:=World.rangeAt_setCells_same w x 0 C'.toList ht
 have r2:w.rangeAt x 37 [mv,.int .i64 n]:=fun j v hv=>by
  match j,hv with
  | 0,hv=>have:=h.cell 37;rw[mArr_37 h1]at this;rw[←hv];exact this
  | 1,hv=>have:=h.cell 38;rw[mArr_38 h1]at this;rw[←hv];exact this
  | j+2,hv=>cases hv
 have r3:=World.rangeAt_setCells_apart r2 x 0 C'.toList (.inr (.inr (by rw[Array.length_toList,h2];exact Nat.le_refl _)));intro j v hv;unfold qZx at hv;rw[Array.toList_append]at hv
 by_cases hj:j<37
 ·rw[List.getElem?_append_left (by rw[Array.length_toList,h2];exact hj)]at hv;exact r1 j v hv
 ·rw[List.getElem?_append_right (by rw[Array.length_toList,h2];omega),Array.length_toList,h2]at hv
  have:=r3 (j - 37) v hv
  rw[show 0+j=37+(j - 37)by omega];exact this
theorem range_at2{w:World}{g:Nat}{t:TypeId}{a b:Value}{cs:List Value}(h:At w g t (a::b::cs).toArray):w.rangeAt g 2 cs:=fun j v hv=>by
 have:=h.cell (j+2)
 rw[show 2+j=j+2 by omega,this,←hv];simp
structure ApSt (w0 w:World) (x:Nat) (C:Array Value) (mv:Value) (M:Mach) (ZC:Array Value) (DM:List Memo):Prop where
 a:At w x 62 (qZx C mv M.n)
 c:At w (x+1) 62 ZC
 s:At w (x+2) 64 zZR
 rf:qZj w (.agg C) M.P
 mm:MmRows w mv DM
 perm:(DM.map (·.1)).Perm M.cl
 asc:DM.Pairwise (fun a b=>qJN a<qJN b)
 c37:C.size=37
 one:C.all (·.oneCell')=true
 mvs:∃A k c,mv=.slice A k c
 ext:Ext w0 w
 new:w0.heap.size≤x
 z39:ZC.size=39
structure ApFin (w0 w:World) (x:Nat) (X R5:Array Value) (R:Mach×Rs):Prop where
 t1:w.there (x+1) 0 X.size
 t2:(w.setCells (x+1) 0 X.toList).there (x+2) 0 5
 l1:(loadVar 62 ⟨x+1,0,none⟩).run prog ((w.setCells (x+1) 0 X.toList).setCells (x+2) 0 R5.toList)=.ok (.agg X) ((w.setCells (x+1) 0 X.toList).setCells (x+2) 0 R5.toList)
 l2:(loadVar 64 ⟨x+2,0,none⟩).run prog ((w.setCells (x+1) 0 X.toList).setCells (x+2) 0 R5.toList)=.ok (.agg R5) ((w.setCells (x+1) 0 X.toList).setCells (x+2) 0 R5.toList)
 i1:(prog.info? 62).map (·.size)=some X.toList.length
 i2:(prog.info? 62).map (·.size)=some X.size
 o1:X.all (·.oneCell')=true
 out:MaOut w0 R (.returned (.tuple #[.agg X,.agg R5])) ((w.setCells (x+1) 0 X.toList).setCells (x+2) 0 R5.toList)
section
variable{w0 w w':World}{x:Nat}{C:Array Value}{mv:Value}{M:Mach}{ZC:Array Value}{DM:List Memo}
theorem ApSt.on(h:ApSt w0 w x C mv M ZC DM)(hE:Ext w w'):ApSt w0 w' x C mv M ZC DM:=⟨h.a.ext hE,h.c.ext hE,h.s.ext hE,h.rf.ext hE,h.mm.ext hE,h.perm,h.asc,h.c37,h.one,h.mvs,h.ext.trans hE,h.new,h.z39⟩
theorem ApSt.rm(h:ApSt w0 w x C mv M ZC DM):qXY w (.agg (qZx C mv M.n)) M:=⟨C,mv,DM,rfl,h.c37,h.one,h.rf,h.mm,h.perm,h.asc⟩
theorem ApSt.fin(h:ApSt w0 w x C mv M ZC DM)(r:Rs){A:Option Addr}{c:Nat}(ho:w.ownsRow 0 9 1 (.slice A r.names.length c) r.names.length (r.names.map Value.string)):ApFin w0 w x (qZx C mv M.n) (qJP r (.slice A r.names.length c)) (M,r):=by
 have hn:=h.new;have hs:=qQ6 h.c37 mv M.n;have hc1:=At.cells_all h.c (cs:=qZx C mv M.n) (by rw[hs,h.z39]);have ch1:Chg (· = x+1) w (w.setCells (x+1) 0 (qZx C mv M.n).toList):=qQg _ _;have hs1:=h.s.chg ch1 (by omega);have hs2:=At.cells_all hs1 (cs:=qJP r (.slice A r.names.length c)) rfl;have ch2:Chg (· = x+2) (w.setCells (x+1) 0 (qZx C mv M.n).toList) ((w.setCells (x+1) 0 (qZx C mv M.n).toList).setCells (x+2) 0 (qJP r (.slice A r.names.length c)).toList):=qQg _ _;have hc2:=hc1.chg ch2 (by omega);have hch:Chg (fun k=>k=x+1∨k=x+2) w ((w.setCells (x+1) 0 (qZx C mv M.n).toList).setCells (x+2) 0 (qJP r (.slice A r.names.length c)).toList):=(ch1.mono fun _ _ e=>.inl e).trans ch2 (fun _ _ e=>.inr e)
 have hone:(qZx C mv M.n).all (·.oneCell')=true:=by
  obtain⟨A',k',c',e⟩:=h.mvs;rw[e];exact qXx h.one A' k' c' M.n
 refine⟨by rw[hs,←h.z39];exact h.c.there,hs1.there,qJn hc2 hs,qJY hs2 rfl,by rw[Array.length_toList,hs];exact qQU,by rw[hs];exact qQU,hone,⟨_,A,c,rfl,h.rm.two h.c h.s hch,qX9 ho h.c h.s (by decide) (by decide) hch,(h.ext.setCells (by omega) _ _).setCells (by omega) _ _⟩⟩
theorem ApSt.fin2(h:ApSt w0 w x C mv M ZC DM)(hc:Chg (fun k=>k=x+1∨k=x+2) w w')(r:Rs){A:Option Addr}{c:Nat}(ho:w.ownsRow 0 9 1 (.slice A r.names.length c) r.names.length (r.names.map Value.string)):MaOut w0 (M,r) (.returned (.tuple #[.agg (qZx C mv M.n),.agg (qJP r (.slice A r.names.length c))])) w':=by
 have hn:=h.new;exact⟨_,A,c,rfl,h.rm.two h.c h.s hc,qX9 ho h.c h.s (by decide) (by decide) hc,h.ext.chg_trans hc |>.mono (fun k hk e=>by rcases e with e|e <;> omega)⟩
theorem ApSt.putC(h:ApSt w0 w x C mv M ZC DM){C':Array Value}{P:Pm}(hR:qZj w (.agg C') P)(h1:C'.size=37)(h2:C'.all (·.oneCell')=true):ApSt w0 (w.setCells x 0 C'.toList) x C' mv { M with P:=P } ZC DM:=by
 have hch:Chg (· = x) w (w.setCells x 0 C'.toList):=qQg _ _;have hn:=h.new;refine⟨mArr_store h.a h.c37 h1,h.c.chg hch (by omega),h.s.chg hch (by omega),hR.chgT h.a (by decide) (by decide) hch,⟨qQa h.mm.own hch fun k hk e=>qQb h.mm.own h.a (by decide) k hk e,fun p hp=>qQa (h.mm.nms p hp) hch fun k hk e=>qQb (h.mm.nms p hp) h.a (by decide) k hk e⟩,h.perm,h.asc,h1,h2,h.mvs,h.ext.setCells hn _ _,hn,h.z39⟩
theorem ApSt.preC(h:ApSt w0 w x C mv M ZC DM):w.rangeAt x 0 C.toList:=fun j v hv=>by
 have hj:j<C.toList.length:=(List.getElem?_eq_some_iff.1 hv).1;refine h.a.range j v ?_;unfold qZx;rw[Array.toList_append,List.getElem?_append_left hj];exact hv
end
theorem qZj.openX{w:World}{v:Value}{P:Pm}(h:qZj w v P)(hv:P.vols.length=12):∃X:Array Value,v=.agg X∧X.size=37∧X.all (·.oneCell')=true:=by
 obtain⟨lv,DV,rfl,_,hR⟩:=h;obtain⟨A,c,rfl⟩:=qQc hR.own;exact⟨_,rfl,qQr _ hv,qQy _ _ _ _⟩
structure GPr (W0:World) (c r:Nat) (jc js jr:Nat) (CA:Value→World→Prop) (BC:Value→Array Value) (R:Array Value) (γ : Nat→Value) (L:Nat→Bool) (w:World):Prop where
 chg:Chg (fun k=>k=c∨k=r) W0 w
 ac:∃Z:Array Value,At w c 62 Z∧Z.size=39
 ar:∃Z:Array Value,At w r 64 Z∧Z.size=5
 call:L jc=true→CA (γ 0) w
 sc:L js=true→At w c 62 (BC (γ 0))
 sr:L jr=true→At w r 64 R
section
variable{W0 w w':World}{c r:Nat}{jc js jr:Nat}{CA:Value→World→Prop}{BC:Value→Array Value}{R:Array Value}{γ : Nat→Value}{L:Nat→Bool}
theorem GPr.keep{j:Nat}(h1:jc≠j)(h2:js≠j)(h3:jr≠j):∀γ L w,GPr W0 c r jc js jr CA BC R γ L w→L j=false→GPr W0 c r jc js jr CA BC R γ (fun i=>i == j||L i) w:=by
 intro γ L w h _;have e1:(jc == j)=false:=by simp[h1]
 have e2:(js == j)=false:=by simp[h2]
 have e3:(jr == j)=false:=by simp[h3]
 exact⟨h.chg,h.ac,h.ar,fun hh=>h.call (by simpa[e1]using hh),fun hh=>h.sc (by simpa[e2]using hh),fun hh=>h.sr (by simpa[e3]using hh)⟩
theorem GPr.called(h:GPr W0 c r jc js jr CA BC R γ L w){x:Value}(hE:Ext w w')(hs:L js=false)(h1:jc≠js)(h2:jc≠jr)(hx:CA x w'):GPr W0 c r jc js jr CA BC R (upd γ 0 x) (fun i=>i == jc||L i) w':=by
 have e1:(js == jc)=false:=by simpa using Ne.symm h1
 have e2:(jr == jc)=false:=by simpa using Ne.symm h2
 refine⟨h.chg.trans hE (fun _ _ e=>e.elim),h.ac.imp fun _ q=>⟨q.1.ext hE,q.2⟩,h.ar.imp fun _ q=>⟨q.1.ext hE,q.2⟩,fun _=>by simpa[upd]using hx,fun hh=>?_,fun hh=>?_⟩
 ·rw[e1,Bool.false_or,hs]at hh;cases hh
 ·rw[e2,Bool.false_or]at hh;exact(h.sr hh).ext hE
theorem GPr.storeC(h:GPr W0 c r jc js jr CA BC R γ L w)(hcr:c≠r)(hCA:∀v w w' (X Y:Array Value),CA v w→At w c 62 X→At w r 64 Y→Chg (fun k=>k=c∨k=r) w w'→CA v w')(hX:(BC (γ 0)).size=39)(h1:js≠jc)(h2:js≠jr):GPr W0 c r jc js jr CA BC R γ (fun i=>i == js||L i) (w.setCells c 0 (BC (γ 0)).toList):=by
 have e1:(jc == js)=false:=by simpa using Ne.symm h1
 have e2:(jr == js)=false:=by simpa using Ne.symm h2
 obtain⟨Z,z1,z2⟩:=h.ac;obtain⟨Y,y1,y2⟩:=h.ar;have hch:Chg (· = c) w (w.setCells c 0 (BC (γ 0)).toList):=qQg _ _;have hch2:Chg (fun k=>k=c∨k=r) w (w.setCells c 0 (BC (γ 0)).toList):=hch.mono fun _ _ e=>.inl e
 have hA:=At.cells_all z1 (cs:=BC (γ 0)) (by rw[z2,hX]);refine⟨h.chg.trans hch2 (fun _ _ e=>e),⟨_,hA,hX⟩,⟨Y,y1.chg hch (fun e=>hcr e.symm),y2⟩,fun hh=>hCA _ _ _ _ _ (h.call (by simpa[e1]using hh)) z1 y1 hch2,fun _=>hA,fun hh=>(h.sr (by simpa[e2]using hh)).chg hch (fun e=>hcr e.symm)⟩
theorem GPr.storeR(h:GPr W0 c r jc js jr CA BC R γ L w)(hcr:c≠r)(hCA:∀v w w' (X Y:Array Value),CA v w→At w c 62 X→At w r 64 Y→Chg (fun k=>k=c∨k=r) w w'→CA v w')(hR:R.size=5)(h1:jr≠jc)(h2:jr≠js):GPr W0 c r jc js jr CA BC R γ (fun i=>i == jr||L i) (w.setCells r 0 R.toList):=by
 have e1:(jc == jr)=false:=by simpa using Ne.symm h1
 have e2:(js == jr)=false:=by simpa using Ne.symm h2
 obtain⟨Z,z1,z2⟩:=h.ac;obtain⟨Y,y1,y2⟩:=h.ar;have hch:Chg (· = r) w (w.setCells r 0 R.toList):=qQg _ _;have hch2:Chg (fun k=>k=c∨k=r) w (w.setCells r 0 R.toList):=hch.mono fun _ _ e=>.inr e
 have hA:=At.cells_all y1 (cs:=R) (by rw[y2,hR]);refine⟨h.chg.trans hch2 (fun _ _ e=>e),⟨Z,z1.chg hch hcr,z2⟩,⟨_,hA,hR⟩,fun hh=>hCA _ _ _ _ _ (h.call (by simpa[e1]using hh)) z1 y1 hch2,fun hh=>(h.sc (by simpa[e2]using hh)).chg hch hcr,fun _=>hA⟩
end
theorem rmapply_any(w:World)(v:Value)(M:Mach)(n:Nat)(h:qXY w v M)(hi:MInv n M)(hn:n≤100000)(s:ByteArray)(hs:s.size≤1000):Calls prog 24 #[v,.string s] w (MaOut w (M.app s.data.toList)):=by
 obtain⟨C,mv,DM,rfl,h37,hone,hRf,hMm,hperm,hasc⟩:=h;obtain⟨A,c,rfl⟩:=qQc hMm.own;obtain⟨mv,hmv⟩:∃mv,Value.slice A DM.length c=mv:=⟨_,rfl⟩;have HMV:Hid (∃A k c,mv=Value.slice A k c):=Hh ⟨A,DM.length,c,hmv.symm⟩;have hX38:=mArr_38 h37 (.slice A DM.length c) M.n;have HSET:=Hh (mArr_set38 h37 (.slice A DM.length c) M.n (M.n+1));rw[hmv]at hX38 HSET hMm⊢;obtain⟨X,hX⟩:∃X,qZx C mv M.n=X:=⟨_,rfl⟩;rw[hX]at hX38 HSET⊢;have H37:=Hh (And.intro h37 hone);have HMM:=Hh (And.intro hMm (And.intro hperm hasc));have HRF:=Hh hRf;have HI:=Hh hi;have hMn:M.n+1≤9223372036854775807 ∧ -9223372036854775808≤M.n+1:=by have:=hi.num;omega
 clear hmv hX hMm hperm hasc hRf hi h37 hone
 go_enter func24,ntmps24
 have hB:=((At.new w 62 X).alloc (.cells zZM 62)).alloc (.cells zZR 64);have hC:=(At.new (w.alloc (.cells X 62)) 62 zZM).alloc (.cells zZR 64);have hS:=At.new ((w.alloc (.cells X 62)).alloc (.cells zZM 62)) 64 zZR;rw[show(w.alloc (.cells X 62)).heap.size=w.heap.size+1 by simp]at hC;rw[show((w.alloc (.cells X 62)).alloc (.cells zZM 62)).heap.size=w.heap.size+2 by simp]at hS;have hE:=(((Er w).alloc (.cells X 62)).alloc (.cells zZM 62)).alloc (.cells zZR 64)
 go_upto_region 1 with fail
 obtain⟨x,hx⟩:∃x,w.heap.size=x:=⟨_,rfl⟩;rw[hx]at hB hC hS⊢;have hxw:w.heap.size≤x:=by omega
 clear hx;generalize ((w.alloc _).alloc _).alloc _=W at hB hC hS hE⊢;have HZ:Hid (zZM.size=39):=Hh rfl;generalize zZM=ZC at hC HZ;have c38:=hB.cell 38;have f38:=hB.frozen 38;rw[hX38]at c38;have hw1:IntKind.i64.wrap (M.n+1)=M.n+1:=Go.IntWalk.i64_in _ (by omega)
 go_upto_region 2 with fail
 have hB2:=hB.set 38 (.int .i64 (M.n+1));rw[HSET.out]at hB2;have hch:Chg (· = x) W (W.setCell ⟨x,38,none⟩ (.int .i64 (M.n+1))):=Chg.setCell (S:=(· = x)) (p:=⟨x,38,none⟩) (Er W).chg (.inl rfl) _;have hE2:=hE.setCell (p:=⟨x,38,none⟩) hxw (.int .i64 (M.n+1));have h0:ApSt w (W.setCell ⟨x,38,none⟩ (.int .i64 (M.n+1))) x C mv M.inc ZC DM:=⟨hB2,hC.chg hch (by omega),hS.chg hch (by omega),HRF.out.ext hE2,HMM.out.1.ext hE2,HMM.out.2.1,HMM.out.2.2,H37.out.1,H37.out.2,HMV.out,hE2,hxw,HZ.out⟩;generalize W.setCell _ _=W1 at h0⊢;clear hB hC hS hE hB2 hch hE2 c38 f38 hX38 hw1 hMn
 by_cases he:s.data.toList=[]
 ·have hsz:s=ByteArray.empty:=by
   apply ByteArray.ext
   apply Array.toList_inj.1
   exact he
  have hap:M.app s.data.toList=(M.inc,Rs.er 0):=by unfold Mach.app;rw[if_pos he]
  have HAP:=Hh hap;subst hsz;have hfn:=h0.fin (Rs.er 0) (A:=none) (c:=0) (qQx _ _ _);have HRG:=Hh h0.a.range;clear hap he;have hfn2:ApFin w W1 x (qZx C mv M.inc.n) zZR (M.inc,Rs.er 0):=hfn;have HFN0:=Hh hfn2;clear hfn hfn2;generalize qZx C mv M.inc.n=X2 at HRG HFN0;have HFN:=HFN0;clear HFN0;clear h0
  go_upto_region 3 with fail
  go_wp2_with (first|(refine wpList_load_mid rfl 62 _ rfl x 0 rfl _ _ HRG.out underlying62 rfl HFN.out.i1 ?_)|(refine wpList_store_mid rfl 62 _ _ rfl (x+1) 0 X2 rfl rfl HFN.out.t1 HFN.out.i2 HFN.out.o1 ?_)|(refine wpList_store_mid rfl 64 _ _ rfl (x+2) 0 #[.int .i64 0,.int .u64 0,.int .i64 0,.int .u32 0,.slice none 0 0] rfl rfl HFN.out.t2 qQo (by simp[Value.oneCell']) ?_))
  refine bodyPost_ret (v:=.tuple #[.agg X2,.agg zZR]) (qQp results24 _ rfl rfl HFN.out.l1 HFN.out.l2) rfl ?_;rw[HAP.out];exact HFN.out.out
 ·have hne:s.data.toList.isEmpty=false:=by cases h:s.data.toList with
   | nil=>exact absurd h he
   | cons=>rfl
  have hne2:s.toList.isEmpty=false:=by rw[Lib.toList_data];exact hne
  have HNE:=Hh he;have HC:=Hh (rread_any W1 s (by omega));clear he;go_wp2_with fail
  refine HC.out.mono ?_;rintro e w1 ⟨cA,cc,rfl,hOd,hE1⟩;have HCI:=Hh (fun h=>qJz (s:=s.data.toList) h);have HCW:=Hh (fun c h=>cread_wf (s:=s.data.toList) (c:=c) h);obtain⟨cr,hcr⟩:∃cr,qQ2 s.data.toList=cr:=⟨_,rfl⟩;rw[hcr]at hOd HCI HCW⊢;have HCR:=Hh hcr;obtain⟨q,er⟩:=cr;simp only at hOd HCI⊢;clear hcr HC;unfold qQd;have hY:=At.new w1 117 #[.int .i64 q.kind,.int .i64 q.client,.int .i64 q.seq,.string q.name,.int .u64 (q.blob:Int),.int .i64 q.size,.int .u32 (q.sum:Int),.slice cA q.disks.length cc,.int .i64 q.pool,.int .i64 q.vol,.int .i64 q.at_];have hEy:=(Er w1).alloc (.cells #[.int .i64 q.kind,.int .i64 q.client,.int .i64 q.seq,.string q.name,.int .u64 (q.blob:Int),.int .i64 q.size,.int .u32 (q.sum:Int),.slice cA q.disks.length cc,.int .i64 q.pool,.int .i64 q.vol,.int .i64 q.at_] 117)
  go_upto_region 5 with fail
  have h1:=h0.on (hE1.trans hEy);have hO1:=own_kx hOd hEy;generalize w1.alloc _=W2 at hY h1 hO1⊢;generalize w1.heap.size=y at hY⊢;clear h0 hE1 hEy hOd hne hne2
  by_cases her:er=0
  rotate_left
  ·have heb:(er != 0)=true:=by simp[her]
   have hap:M.app s.data.toList=(M.inc,Rs.er er):=by
    unfold Mach.app;rw[if_neg HNE.out,HCR.out,if_neg her]
   have HAP:=Hh hap;have hfn:ApFin w W2 x (qZx C mv M.inc.n) #[.int .i64 er,.int .u64 0,.int .i64 0,.int .u32 0,.slice none 0 0] (M.inc,Rs.er er):=h1.fin (Rs.er er) (A:=none) (c:=0) (qQx _ _ _);have HRG:=Hh h1.a.range;have HFN0:=Hh hfn;clear hap her hfn hY hO1;generalize qZx C mv M.inc.n=X2 at HRG HFN0;have HFN:=HFN0;clear HFN0;clear h1
   go_upto_region 6 with fail
   go_wp2_with (first|(refine wpList_load_mid rfl 62 _ rfl x 0 rfl _ _ HRG.out underlying62 rfl HFN.out.i1 ?_)|(refine wpList_store_mid rfl 62 _ _ rfl (x+1) 0 X2 rfl rfl HFN.out.t1 HFN.out.i2 HFN.out.o1 ?_)|(refine wpList_store_mid rfl 64 _ _ rfl (x+2) 0 #[.int .i64 er,.int .u64 0,.int .i64 0,.int .u32 0,.slice none 0 0] rfl rfl HFN.out.t2 qQo (by simp[Value.oneCell']) ?_))
   refine bodyPost_ret (v:=.tuple #[.agg X2,.agg #[.int .i64 er,.int .u64 0,.int .i64 0,.int .u32 0,.slice none 0 0]]) (qQp results24 _ rfl rfl HFN.out.l1 HFN.out.l2) rfl ?_;rw[HAP.out];exact HFN.out.out
  have heb:(er != 0)=false:=by simp[her]
  subst her;obtain⟨hgd,hcl,hsq⟩:=HCI.out rfl;have hkd:=(Cmd.good_iff.1 hgd).1;have hk0:=(Cmd.good_iff.1 hgd).2.1;have hdl:=qQ8 (Cmd.good_iff.1 hgd).2.2.1;have hns:=(Cmd.good_iff.1 hgd).2.2.2.2.2.1;have HCQ:=Hh (And.intro (HCW.out q rfl) (And.intro hdl hns));have y0:=hY.cell 0;have y1:=hY.cell 1;have y2:=hY.cell 2;simp at y0 y1 y2;have HYR:=Hh hY;have HO:=Hh hO1
  by_cases h5:5<q.kind
  ·have hap:M.app s.data.toList=({ M.inc with P:=(M.P.app q).1 },(M.P.app q).2):=by
    unfold Mach.app;rw[if_neg HNE.out,HCR.out,if_pos rfl];unfold Mach.cmd;rw[if_pos (by unfold Cmd.isCl;simp;omega)];rfl
   have HAP:=Hh hap;clear hap hY hO1 hgd hcl hsq hkd hk0 hdl hns;have HCALL:=Hh (rapply_any W2 (.agg C) M.inc.P n h1.rf HI.out.cat (by omega) q (.slice cA q.disks.length cc) HO.out (by have:=HCQ.out.2.1;omega) (by have:=HCQ.out.2.2;omega) HCQ.out.1);unfold qQd at HCALL;have HRC:=Hh h1.preC;have HRY:=Hh HYR.out.range;have HCI1:Hid ((prog.info? 59).map (·.size)=some C.toList.length):=Hh (by rw[Array.length_toList,H37.out.1];exact qQm)
   go_upto_region 8 with fail
   go_wp2_with (first|(refine wpList_load_mid rfl 59 _ rfl x 0 rfl _ _ HRC.out underlying59 rfl HCI1.out ?_)|(refine wpList_load_mid rfl 117 _ rfl y 0 rfl _ _ HRY.out underlying117 rfl qZ1 ?_))
   refine HCALL.out.mono ?_;rintro e w2 ⟨v2,nv2,rfl,hRf2,hO2,hE2⟩;clear HCALL HRC HRY HCI1;obtain⟨X',rfl,hx37,hxone⟩:=hRf2.openX (HI.out.cat.app HCQ.out.1).vlen;obtain⟨rA,rc,rfl⟩:=qQc hO2;obtain⟨r,hr⟩:∃r,(M.P.app q).2=r:=⟨_,rfl⟩;obtain⟨P',hP'⟩:∃P',(M.P.app q).1=P':=⟨_,rfl⟩;have hP2:(M.inc.P.app q).1=P':=hP';have hr2:(M.inc.P.app q).2=r:=hr;rw[hP2]at hRf2;rw[hr2]at hO2⊢;unfold qZB;have hz1:=(At.new w2 59 zZC).alloc (.cells zZR 64);have hz2:=At.new (w2.alloc (.cells zZC 59)) 64 zZR;rw[show(w2.alloc (.cells zZC 59)).heap.size=w2.heap.size+1 by simp]at hz2;have hEz:=((Er w2).alloc (.cells zZC 59)).alloc (.cells zZR 64);have HT1:Hid (((w2.alloc (.cells zZC 59)).alloc (.cells zZR 64)).there w2.heap.size 0 X'.size):=Hh (by rw[hx37];exact hz1.there);have HT2:Hid ((((w2.alloc (.cells zZC 59)).alloc (.cells zZR 64)).setCells w2.heap.size 0 X'.toList).there (w2.heap.size+1) 0 5):=Hh (World.there_setCells hz2.there _ 0 _);have HXI:Hid ((prog.info? 59).map (·.size)=some X'.size):=Hh (by rw[hx37];exact qQm);have HXO:=Hh hxone;have HX37:=Hh hx37;have hm1:=(At.cells_all hz1 (cs:=X') hx37.symm).chg (qQg (b:=w2.heap.size+1) (#[.int .i64 r.err,.int .u64 (r.blob:Int),.int .i64 r.size,.int .u32 (r.sum:Int),.slice rA r.names.length rc]:Array Value).toList 0) (by omega);have hm2:=At.cells_all (hz2.chg (qQg (b:=w2.heap.size) X'.toList 0) (by omega)) (cs:=(#[.int .i64 r.err,.int .u64 (r.blob:Int),.int .i64 r.size,.int .u32 (r.sum:Int),.slice rA r.names.length rc]:Array Value)) rfl;have hEm:Ext w2 ((((w2.alloc (.cells zZC 59)).alloc (.cells zZR 64)).setCells w2.heap.size 0 X'.toList).setCells (w2.heap.size+1) 0 (#[.int .i64 r.err,.int .u64 (r.blob:Int),.int .i64 r.size,.int .u32 (r.sum:Int),.slice rA r.names.length rc]:Array Value).toList):=(hEz.setCells (Nat.le_refl _) _ _).setCells (by omega) _ _;have hxy2:=h1.c.lt;have hsz2:=hE2.size;clear hz1 hz2 hEz hxone hx37
   go_upto_region 9 with(first|(refine wpList_store_mid rfl 59 _ _ rfl w2.heap.size 0 X' rfl rfl HT1.out HXI.out HXO.out ?_)|(refine wpList_store_mid rfl 64 _ _ rfl (w2.heap.size+1) 0 (#[.int .i64 r.err,.int .u64 (r.blob:Int),.int .i64 r.size,.int .u32 (r.sum:Int),.slice rA r.names.length rc]:Array Value) rfl rfl HT2.out qQo (by simp[Value.oneCell']) ?_))
   have h2:=h1.on (hE2.trans hEm);have hRf4:=hRf2.ext hEm;have hO4:=own_kx hO2 hEm;have hY4:=HYR.out.ext (hE2.trans hEm);have hzx:w2.heap.size≠x:=by omega
   have hzx1:w2.heap.size+1≠x:=by omega
   have hz2b:x+2<w2.heap.size:=by have:=h1.s.lt;omega
   generalize World.setCells (World.setCells _ _ _ _) _ _ _=W4 at hm1 hm2 h2 hRf4 hO4 hY4⊢;obtain⟨z,hz⟩:∃z,w2.heap.size=z:=⟨_,rfl⟩;rw[hz]at hm1 hm2 hzx hzx1 hz2b⊢;clear h1 hE2 hEm hRf2 hO2 HT1 HT2 hz hxy2 hsz2;rw[qXa];have HRZ:=Hh hm1.range;have HZI:Hid ((prog.info? 59).map (·.size)=some X'.toList.length):=Hh (by rw[Array.length_toList,HX37.out];exact qQm);have HTX:Hid (W4.there x 0 X'.size):=Hh (fun j hj=>h2.a.there j (by rw[qQ6 h2.c37];rw[HX37.out]at hj;omega));have h3:=h2.putC hRf4 HX37.out HXO.out;have hcx:Chg (· = x) W4 (W4.setCells x 0 X'.toList):=qQg _ _;have hm2b:=hm2.chg hcx hzx1;have hO5:=qQa hO4 hcx (fun b hb e=>qQb hO4 h2.a (by decide) b hb e);have hY5:=hY4.chg hcx (fun e=>At.ne hY4 h2.a (by decide) e)
   go_upto_region 10 with(first|(refine wpList_load_mid rfl 59 _ rfl z 0 rfl _ _ HRZ.out underlying59 rfl HZI.out ?_)|(refine wpList_store_mid rfl 59 _ _ rfl x 0 X' rfl rfl HTX.out HXI.out HXO.out ?_))
   generalize World.setCells _ _ _ _=W5 at h3 hm2b hO5 hY5⊢;rw[qXa];clear h2 hm1 hm2 hRf4 hO4 hY4 HRZ HZI HTX hcx;have hs2:=qQ6 h3.c37 mv ({ M.inc with P:=P' } : Mach).n
   have ho2:(qZx X' mv ({ M.inc with P:=P' } : Mach).n).all (·.oneCell')=true:=by
    obtain⟨A',k',c',e⟩:=HMV.out;rw[e];exact qXx h3.one A' k' c' _
   have hcr:x+1≠x+2:=by omega
   have hFN2:∀w1,Chg (fun k=>k=x+1∨k=x+2) W5 w1→MaOut w ({ M.inc with P:=P' },r) (.returned (.tuple #[.agg (qZx X' mv ({ M.inc with P:=P' } : Mach).n),.agg #[.int .i64 r.err,.int .u64 (r.blob:Int),.int .i64 r.size,.int .u32 (r.sum:Int),.slice rA r.names.length rc]])) w1:=fun w1 hc=>h3.fin2 hc r hO5
   have kA:∀w1,Chg (fun k=>k=x+1∨k=x+2) W5 w1→w1.rangeAt x 0 (qZx X' mv ({ M.inc with P:=P' } : Mach).n).toList:=fun w1 hc=>(h3.a.chg hc (fun e=>by rcases e with e|e <;> omega)).range
   generalize qZx X' mv ({ M.inc with P:=P' } : Mach).n=X2 at hs2 ho2 hFN2 kA;have HI39:Hid ((prog.info? 62).map (·.size)=some X2.toList.length):=Hh (by rw[Array.length_toList,hs2];exact qQU);have kR:∀w1,Chg (fun k=>k=x+1∨k=x+2) W5 w1→w1.rangeAt (z+1) 0 #[.int .i64 r.err,.int .u64 (r.blob:Int),.int .i64 r.size,.int .u32 (r.sum:Int),.slice rA r.names.length rc].toList:=fun w1 hc=>(hm2b.chg hc (fun e=>by rcases e with e|e <;> omega)).range
   refine qQq (Γ := Nat→Value) (sgφ [.val (.agg X2),.val (.agg #[.int .i64 r.err,.int .u64 (r.blob:Int),.int .i64 r.size,.int .u32 (r.sum:Int),.slice rA r.names.length rc]),.any,.any])
    (GPr W5 (x+1) (x+2) 100 2 3 (fun _ _=>True) (fun _=>X2) #[.int .i64 r.err,.int .u64 (r.blob:Int),.int .i64 r.size,.int .u32 (r.sum:Int),.slice rA r.names.length rc]) (by kernel_rfl) (by kernel_rfl) (by kernel_rfl) (fun _=>undef) ?inv ?steps ?fin
   case inv=>exact⟨(Er W5).drew.chg,⟨_,h3.c.drew,h3.z39⟩,⟨_,h3.s.drew,rfl⟩,fun hh=>(by cases hh),fun hh=>(by cases hh),fun hh=>(by cases hh)⟩
   case steps =>
    show qQV _ _ _ _ _ _ 4
    refine⟨⟨⟨⟨trivial,?s0⟩,?s1⟩,?s2⟩,?s3⟩
    case s0 =>
     refine qQi (x:=.agg X2) rfl rfl rfl (GPr.keep (j:=0) (by decide) (by decide) (by decide)) fun γ L v a w1 st=>?_
     have e2:=st.far 2 (by kernel_rfl);simp at e2;exact qQk rfl (b:=x) (off:=0) (by simp[Act.eval,e2]) (kA w1 st.inv.chg) underlying62 rfl HI39.out
    case s1 =>
     refine qQi (x:=.agg #[.int .i64 r.err,.int .u64 (r.blob:Int),.int .i64 r.size,.int .u32 (r.sum:Int),.slice rA r.names.length rc]) rfl rfl rfl (GPr.keep (j:=1) (by decide) (by decide) (by decide)) fun γ L v a w1 st=>?_
     have e9:=st.far 9 (by kernel_rfl);simp at e9;exact qQk rfl (b:=z+1) (off:=0) (by simp[Act.eval,e9]) (kR w1 st.inv.chg) underlying64 rfl qQo
    case s2 =>
     refine qZa rfl rfl rfl fun γ L v a w1 st=>?_
     have e4:=st.far 4 (by kernel_rfl);simp at e4;have e44:=st.val 0 44 rfl (by kernel_rfl);rw[(st.φ 0 (by kernel_rfl):v 0=_)]at e44;simp at e44;refine⟨_,qQv rfl (b:=x+1) (off:=0) (cells:=X2) (by simp[Act.eval,e4]) (by simp[Act.eval,e44]) (by rw[hs2];obtain⟨Z,z1,z2⟩:=st.inv.ac;rw[←z2];exact z1.there) (by rw[hs2];exact qQU) ho2,?_⟩
     exact GPr.storeC st.inv hcr (fun _ _ _ _ _ h _ _ _=>h) hs2 (by decide) (by decide)
    case s3 =>
     refine qZa rfl rfl rfl fun γ L v a w1 st=>?_
     have e5:=st.far 5 (by kernel_rfl);simp at e5;have e45:=st.val 1 45 rfl (by kernel_rfl);rw[(st.φ 1 (by kernel_rfl):v 1=_)]at e45;simp at e45;refine⟨_,qQv rfl (b:=x+2) (off:=0) (cells:=#[.int .i64 r.err,.int .u64 (r.blob:Int),.int .i64 r.size,.int .u32 (r.sum:Int),.slice rA r.names.length rc]) (by simp[Act.eval,e5]) (by simp[Act.eval,e45]) (by obtain⟨Z,z1,z2⟩:=st.inv.ar;have:=z1.there;rw[z2]at this;exact this) qQo (by simp[Value.oneCell']),?_⟩
     exact GPr.storeR st.inv hcr (fun _ _ _ _ _ h _ _ _=>h) rfl (by decide) (by decide)
   case fin =>
    intro γ L v wz hall hG hφ;have HL:=Hh (And.intro (qJn (hG.sc (hall 2 (by decide))) hs2) (qJY (hG.sr (hall 3 (by decide))) rfl));have HF:=Hh (hFN2 wz hG.chg);clear hφ hall hG kA kR hFN2
    change Exit.then _ _ _ (qQC _ v _ 4) wz
    simp only[qQC,qQD,Act.put];simp only[List.getElem?_toArray,List.getElem?_cons_zero,List.getElem?_cons_succ,Option.bind_some,List.setIfInBounds_toArray,List.set_cons_zero,List.set_cons_succ];go_wp2_with fail
    refine bodyPost_ret (v:=.tuple #[.agg X2,.agg #[.int .i64 r.err,.int .u64 (r.blob:Int),.int .i64 r.size,.int .u32 (r.sum:Int),.slice rA r.names.length rc]]) (qQp results24 _ rfl rfl HL.out.1 HL.out.2) rfl ?_;rw[HAP.out,hP',hr];exact HF.out
  ·have hic:q.isCl=true:=by unfold Cmd.isCl;simp;omega
   have happ:M.app s.data.toList=((M.cmd q).1.inc,(M.cmd q).2):=by
    unfold Mach.app;rw[if_neg HNE.out,HCR.out,if_pos rfl]
   have hcmd:M.cmd q=if q.client=0∨q.seq=0∨q.seq<M.seq q.client then(M,Rs.er 16)else match M.told q.client q.seq with
    | some r=>(M,r)
    | none=>({ M with P:=(M.P.app q).1,cl:=(q.client,⟨q.seq,(M.P.app q).2⟩)::qZy q.client M.cl },(M.P.app q).2):=by
    unfold Mach.cmd;rw[if_neg (by rw[hic];decide)];rfl
   have HAPP:=Hh happ;have HCMD:=Hh hcmd;have hlen:=HI.out.len;have HFD:=Hh (rmfind_any W2 (.agg (qZx C mv M.inc.n)) M.inc h1.rm q.client (by show M.cl.length≤_;omega));have HRG:=Hh h1.a.range;have HI39:Hid ((prog.info? 62).map (·.size)=some (qZx C mv M.inc.n).toList.length):=Hh (by rw[Array.length_toList,qQ6 h1.c37];exact qQU);clear happ hcmd hic hY hgd hcl hsq hkd hk0 hdl hns;generalize hX2:qZx C mv M.inc.n=X2 at HFD HRG HI39
   go_upto_region 11 with fail
   go_wp2_with (refine wpList_load_mid rfl 62 _ rfl x 0 rfl _ _ HRG.out underlying62 rfl HI39.out ?_)
   refine HFD.out.mono ?_;rintro e w2 ⟨k0,oA,oc,ok,rfl,hOo,hE2⟩;obtain⟨o,ho⟩:∃o,(qZC q.client M.inc.cl).getD Last.zero=o:=⟨_,rfl⟩;rw[ho]at hOo⊢;have HOL:Hid ((qZC q.client M.cl).getD Last.zero=o):=Hh ho;clear ho HFD HRG HI39 hX2;have hM:=At.new w2 123 #[.int .i64 k0,.int .i64 o.seq,.int .i64 o.r.err,.int .u64 (o.r.blob:Int),.int .i64 o.r.size,.int .u32 (o.r.sum:Int),.slice oA o.r.names.length oc];have hEm:=(Er w2).alloc (.cells #[.int .i64 k0,.int .i64 o.seq,.int .i64 o.r.err,.int .u64 (o.r.blob:Int),.int .i64 o.r.size,.int .u32 (o.r.sum:Int),.slice oA o.r.names.length oc] 123);have hmx:x+2<w2.heap.size:=by have:=(h1.s.ext hE2).lt;omega
   go_upto_region 12 with fail
   have h3:=h1.on (hE2.trans hEm);have hO3:=own_kx hOo hEm;have hY3:=HYR.out.ext (hE2.trans hEm);have HO3:=Hh (own_kx HO.out (hE2.trans hEm));generalize w2.alloc _=W3 at hM h3 hO3 hY3 HO3⊢;obtain⟨m,hm⟩:∃m,w2.heap.size=m:=⟨_,rfl⟩;rw[hm]at hM hmx⊢;clear h1 hE2 hEm hOo hm y0 y1 y2 HYR HO hO1;have m1:=hM.cell 1;have y1:=hY3.cell 1;have y2:=hY3.cell 2;simp at m1 y1 y2;obtain⟨fk,hfk⟩:∃fk:Bool,fk=(((q.client == 0)||(q.seq == 0))||decide (q.seq<o.seq)):=⟨_,rfl⟩;have HFK:=Hh hfk;obtain⟨wo,hwo⟩:∃wo:World,wo=W3:=⟨_,rfl⟩;have HJ:=Hh (And.intro hM (And.intro h3 (And.intro hO3 hY3)));clear hM h3 hO3 hY3
   go_cut [67]from 53 to 67 (fun tv wx=>tv=.bool fk∧wx=wo)
   case first =>
    clear HJ HFK HAPP HCMD HOL HO3 HI HMM
    by_cases b1:q.client=0
    ·obtain rfl:fk=true:=by rw[hfk];simp[b1]
     have b1b:(q.client == 0)=true:=by simp[b1]
     clear hfk b1;go_wp2_with fail
     go_meet
     case rel=>exact⟨rfl,hwo.symm⟩
    ·have b1b:(q.client == 0)=false:=by simp[b1]
     by_cases b2:q.seq=0
     ·obtain rfl:fk=true:=by rw[hfk];simp[b2]
      have b2b:(q.seq == 0)=true:=by simp[b2]
      clear hfk b2 b1;go_wp2_with fail
      go_meet
      case rel=>exact⟨rfl,hwo.symm⟩
     ·have b2b:(q.seq == 0)=false:=by simp[b2]
      obtain⟨b3,hb3⟩:∃b:Bool,decide (q.seq<o.seq)=b:=⟨_,rfl⟩;obtain rfl:fk=b3:=by rw[hfk,b1b,b2b,hb3];rfl
      clear hfk b2 b1;go_wp2_with fail
      go_meet
      case rel=>exact⟨by first|rfl|simp[hb3],hwo.symm⟩
   case rest =>
   obtain⟨rfl,hwc⟩:=hcut;subst hwc;subst hwo;obtain⟨hM,h3,hO3,hY3⟩:=HJ.out;clear HJ hfk
   have hsq:M.seq q.client=o.seq:=by
    rw[←HOL.out];unfold Mach.seq;cases qZC q.client M.cl <;> rfl
   cases fk
   ·have hnc:¬ (q.client=0∨q.seq=0∨q.seq<M.seq q.client):=by
     have:=HFK.out
     rw[hsq];simp at this;omega
    have HCM2:=HCMD.out;rw[if_neg hnc]at HCM2
    by_cases hse:q.seq=o.seq
    ·have hto:M.told q.client q.seq=some o.r:=by
      unfold Mach.told;have ho:=HOL.out;cases hl:qZC q.client M.cl with
      | none =>
       rw[hl]at ho
       exfalso
       apply hnc
       right;left
       rw[hse,←ho];rfl
      | some l =>
       rw[hl]at ho;have ho2:l=o:=ho;simp only;rw[ho2,if_pos hse.symm]
     rw[hto]at HCM2;have hap:M.app s.data.toList=(M.inc,o.r):=by rw[HAPP.out,HCM2]
     have HAP:=Hh hap;have hseb:(q.seq == o.seq)=true:=by simp[hse]
     clear hap hto HCM2 hse hnc hsq
     go_upto_region 15 with fail
     have hs2:=qQ6 h3.c37 mv (M.inc:Mach).n
     have ho2:(qZx C mv (M.inc:Mach).n).all (·.oneCell')=true:=by
      obtain⟨A',k',c',e⟩:=HMV.out;rw[e];exact qXx h3.one A' k' c' _
     have hcr:x+1≠x+2:=by omega
     have hFN2:∀w1,Chg (fun k=>k=x+1∨k=x+2) wc w1→MaOut w (M.inc,o.r) (.returned (.tuple #[.agg (qZx C mv (M.inc:Mach).n),.agg #[.int .i64 o.r.err,.int .u64 (o.r.blob:Int),.int .i64 o.r.size,.int .u32 (o.r.sum:Int),.slice oA o.r.names.length oc]])) w1:=fun w1 hc=>h3.fin2 hc o.r hO3
     have kA:∀w1,Chg (fun k=>k=x+1∨k=x+2) wc w1→w1.rangeAt x 0 (qZx C mv (M.inc:Mach).n).toList:=fun w1 hc=>(h3.a.chg hc (fun e=>by rcases e with e|e <;> omega)).range
     generalize qZx C mv (M.inc:Mach).n=X2 at hs2 ho2 hFN2 kA;have HI39:Hid ((prog.info? 62).map (·.size)=some X2.toList.length):=Hh (by rw[Array.length_toList,hs2];exact qQU);have kR:∀w1,Chg (fun k=>k=x+1∨k=x+2) wc w1→w1.rangeAt m 2 #[.int .i64 o.r.err,.int .u64 (o.r.blob:Int),.int .i64 o.r.size,.int .u32 (o.r.sum:Int),.slice oA o.r.names.length oc].toList:=fun w1 hc=>range_at2 (hM.chg hc (fun e=>by rcases e with e|e <;> omega))
     refine qQq (Γ := Nat→Value) (sgφ [.val (.agg X2),.val (.pointer (some ⟨m,2,none⟩)),.val (.agg #[.int .i64 o.r.err,.int .u64 (o.r.blob:Int),.int .i64 o.r.size,.int .u32 (o.r.sum:Int),.slice oA o.r.names.length oc]),.any,.any])
      (GPr wc (x+1) (x+2) 100 3 4 (fun _ _=>True) (fun _=>X2) #[.int .i64 o.r.err,.int .u64 (o.r.blob:Int),.int .i64 o.r.size,.int .u32 (o.r.sum:Int),.slice oA o.r.names.length oc]) (by kernel_rfl) (by kernel_rfl) (by kernel_rfl) (fun _=>undef) ?inv ?steps ?fin
     case inv=>exact⟨(Er wc).drew.chg,⟨_,h3.c.drew,h3.z39⟩,⟨_,h3.s.drew,rfl⟩,fun hh=>(by cases hh),fun hh=>(by cases hh),fun hh=>(by cases hh)⟩
     case steps =>
      show qQV _ _ _ _ _ _ 5
      refine⟨⟨⟨⟨⟨trivial,?s0⟩,?s1⟩,?s2⟩,?s3⟩,?s4⟩
      case s0 =>
       refine qQi (x:=.agg X2) rfl rfl rfl (GPr.keep (j:=0) (by decide) (by decide) (by decide)) fun γ L v a w1 st=>?_
       have e2:=st.far 2 (by kernel_rfl);simp at e2;exact qQk rfl (b:=x) (off:=0) (by simp[Act.eval,e2]) (kA w1 st.inv.chg) underlying62 rfl HI39.out
      case s1 =>
       refine qQi (x:=.pointer (some ⟨m,2,none⟩)) rfl rfl rfl (GPr.keep (j:=1) (by decide) (by decide) (by decide)) fun γ L v a w1 st=>?_
       have e10:=st.far 10 (by kernel_rfl);simp at e10;go_simp
      case s2 =>
       refine qQi (x:=.agg #[.int .i64 o.r.err,.int .u64 (o.r.blob:Int),.int .i64 o.r.size,.int .u32 (o.r.sum:Int),.slice oA o.r.names.length oc]) rfl rfl rfl (GPr.keep (j:=2) (by decide) (by decide) (by decide)) fun γ L v a w1 st=>?_
       have e76:=st.val 1 76 rfl (by kernel_rfl);rw[(st.φ 1 (by kernel_rfl):v 1=_)]at e76;simp at e76;exact qQk rfl (b:=m) (off:=2) (by simp[Act.eval,e76]) (kR w1 st.inv.chg) underlying64 rfl qQo
      case s3 =>
       refine qZa rfl rfl rfl fun γ L v a w1 st=>?_
       have e4:=st.far 4 (by kernel_rfl);simp at e4;have e75:=st.val 0 75 rfl (by kernel_rfl);rw[(st.φ 0 (by kernel_rfl):v 0=_)]at e75;simp at e75;refine⟨_,qQv rfl (b:=x+1) (off:=0) (cells:=X2) (by simp[Act.eval,e4]) (by simp[Act.eval,e75]) (by rw[hs2];obtain⟨Z,z1,z2⟩:=st.inv.ac;rw[←z2];exact z1.there) (by rw[hs2];exact qQU) ho2,?_⟩
       exact GPr.storeC st.inv hcr (fun _ _ _ _ _ h _ _ _=>h) hs2 (by decide) (by decide)
      case s4 =>
       refine qZa rfl rfl rfl fun γ L v a w1 st=>?_
       have e5:=st.far 5 (by kernel_rfl);simp at e5;have e77:=st.val 2 77 rfl (by kernel_rfl);rw[(st.φ 2 (by kernel_rfl):v 2=_)]at e77;simp at e77;refine⟨_,qQv rfl (b:=x+2) (off:=0) (cells:=#[.int .i64 o.r.err,.int .u64 (o.r.blob:Int),.int .i64 o.r.size,.int .u32 (o.r.sum:Int),.slice oA o.r.names.length oc]) (by simp[Act.eval,e5]) (by simp[Act.eval,e77]) (by obtain⟨Z,z1,z2⟩:=st.inv.ar;have:=z1.there;rw[z2]at this;exact this) qQo (by simp[Value.oneCell']),?_⟩
       exact GPr.storeR st.inv hcr (fun _ _ _ _ _ h _ _ _=>h) rfl (by decide) (by decide)
     case fin =>
      intro γ L v wz hall hG hφ;have HL:=Hh (And.intro (qJn (hG.sc (hall 3 (by decide))) hs2) (qJY (hG.sr (hall 4 (by decide))) rfl));have HF:=Hh (hFN2 wz hG.chg);clear hφ hall hG kA kR hFN2
      change Exit.then _ _ _ (qQC _ v _ 5) wz
      simp only[qQC,qQD,Act.put];simp only[List.getElem?_toArray,List.getElem?_cons_zero,List.getElem?_cons_succ,Option.bind_some,List.setIfInBounds_toArray,List.set_cons_zero,List.set_cons_succ];go_wp2_with fail
      refine bodyPost_ret (v:=.tuple #[.agg X2,.agg #[.int .i64 o.r.err,.int .u64 (o.r.blob:Int),.int .i64 o.r.size,.int .u32 (o.r.sum:Int),.slice oA o.r.names.length oc]]) (qQp results24 _ rfl rfl HL.out.1 HL.out.2) rfl ?_;rw[HAP.out];exact HF.out
    ·have hto:M.told q.client q.seq=none:=by
      unfold Mach.told;have ho:=HOL.out;cases hl:qZC q.client M.cl with
      | none=>rfl
      | some l =>
       rw[hl]at ho;have ho2:l=o:=ho;simp only;rw[ho2,if_neg (fun e=>hse e.symm)]
     rw[hto]at HCM2;have hap:M.app s.data.toList=(({ M with P:=(M.P.app q).1,cl:=(q.client,⟨q.seq,(M.P.app q).2⟩)::qZy q.client M.cl } : Mach).inc,(M.P.app q).2):=by rw[HAPP.out,HCM2]
     have HAP:=Hh hap;have hseb:(q.seq == o.seq)=false:=by simp[hse]
     have h1:=h3;have HYR:=Hh hY3;have HO:=HO3;clear hap hto HCM2 hse hnc hsq h3 hY3 hO3 hM HO3;have HCALL:=Hh (rapply_any wc (.agg C) M.inc.P n h1.rf HI.out.cat (by omega) q (.slice cA q.disks.length cc) HO.out (by have:=HCQ.out.2.1;omega) (by have:=HCQ.out.2.2;omega) HCQ.out.1);unfold qQd at HCALL;have HRC:=Hh h1.preC;have HRY:=Hh HYR.out.range;have HCI1:Hid ((prog.info? 59).map (·.size)=some C.toList.length):=Hh (by rw[Array.length_toList,H37.out.1];exact qQm)
     go_upto_region 16 with fail
     go_wp2_with (first|(refine wpList_load_mid rfl 59 _ rfl x 0 rfl _ _ HRC.out underlying59 rfl HCI1.out ?_)|(refine wpList_load_mid rfl 117 _ rfl y 0 rfl _ _ HRY.out underlying117 rfl qZ1 ?_))
     refine HCALL.out.mono ?_;rintro e w2 ⟨v2,nv2,rfl,hRf2,hO2,hE2⟩;clear HCALL HRC HRY HCI1;obtain⟨X',rfl,hx37,hxone⟩:=hRf2.openX (HI.out.cat.app HCQ.out.1).vlen;obtain⟨rA,rc,rfl⟩:=qQc hO2;obtain⟨r,hr⟩:∃r,(M.P.app q).2=r:=⟨_,rfl⟩;obtain⟨P',hP'⟩:∃P',(M.P.app q).1=P':=⟨_,rfl⟩;have hP2:(M.inc.P.app q).1=P':=hP';have hr2:(M.inc.P.app q).2=r:=hr;rw[hP2]at hRf2;rw[hr2]at hO2⊢;unfold qZB;have hz1:=(At.new w2 59 zZC).alloc (.cells zZR 64);have hz2:=At.new (w2.alloc (.cells zZC 59)) 64 zZR;rw[show(w2.alloc (.cells zZC 59)).heap.size=w2.heap.size+1 by simp]at hz2;have hEz:=((Er w2).alloc (.cells zZC 59)).alloc (.cells zZR 64);have HT1:Hid (((w2.alloc (.cells zZC 59)).alloc (.cells zZR 64)).there w2.heap.size 0 X'.size):=Hh (by rw[hx37];exact hz1.there);have HT2:Hid ((((w2.alloc (.cells zZC 59)).alloc (.cells zZR 64)).setCells w2.heap.size 0 X'.toList).there (w2.heap.size+1) 0 5):=Hh (World.there_setCells hz2.there _ 0 _);have HXI:Hid ((prog.info? 59).map (·.size)=some X'.size):=Hh (by rw[hx37];exact qQm);have HXO:=Hh hxone;have HX37:=Hh hx37;have hm1:=(At.cells_all hz1 (cs:=X') hx37.symm).chg (qQg (b:=w2.heap.size+1) (#[.int .i64 r.err,.int .u64 (r.blob:Int),.int .i64 r.size,.int .u32 (r.sum:Int),.slice rA r.names.length rc]:Array Value).toList 0) (by omega);have hm2:=At.cells_all (hz2.chg (qQg (b:=w2.heap.size) X'.toList 0) (by omega)) (cs:=(#[.int .i64 r.err,.int .u64 (r.blob:Int),.int .i64 r.size,.int .u32 (r.sum:Int),.slice rA r.names.length rc]:Array Value)) rfl;have hEm:Ext w2 ((((w2.alloc (.cells zZC 59)).alloc (.cells zZR 64)).setCells w2.heap.size 0 X'.toList).setCells (w2.heap.size+1) 0 (#[.int .i64 r.err,.int .u64 (r.blob:Int),.int .i64 r.size,.int .u32 (r.sum:Int),.slice rA r.names.length rc]:Array Value).toList):=(hEz.setCells (Nat.le_refl _) _ _).setCells (by omega) _ _;have hxy2:=h1.c.lt;have hsz2:=hE2.size;clear hz1 hz2 hEz hxone hx37
     go_upto_region 17 with(first|(refine wpList_store_mid rfl 59 _ _ rfl w2.heap.size 0 X' rfl rfl HT1.out HXI.out HXO.out ?_)|(refine wpList_store_mid rfl 64 _ _ rfl (w2.heap.size+1) 0 (#[.int .i64 r.err,.int .u64 (r.blob:Int),.int .i64 r.size,.int .u32 (r.sum:Int),.slice rA r.names.length rc]:Array Value) rfl rfl HT2.out qQo (by simp[Value.oneCell']) ?_))
     have h2:=h1.on (hE2.trans hEm);have hRf4:=hRf2.ext hEm;have hO4:=own_kx hO2 hEm;have hY4:=HYR.out.ext (hE2.trans hEm);have hzx:w2.heap.size≠x:=by omega
     have hzx1:w2.heap.size+1≠x:=by omega
     have hz2b:x+2<w2.heap.size:=by have:=h1.s.lt;omega
     generalize World.setCells (World.setCells _ _ _ _) _ _ _=W4 at hm1 hm2 h2 hRf4 hO4 hY4⊢;obtain⟨z,hz⟩:∃z,w2.heap.size=z:=⟨_,rfl⟩;rw[hz]at hm1 hm2 hzx hzx1 hz2b⊢;clear h1 hE2 hEm hRf2 hO2 HT1 HT2 hz hxy2 hsz2;rw[qXa];have HRZ:=Hh hm1.range;have HZI:Hid ((prog.info? 59).map (·.size)=some X'.toList.length):=Hh (by rw[Array.length_toList,HX37.out];exact qQm);have HTX:Hid (W4.there x 0 X'.size):=Hh (fun j hj=>h2.a.there j (by rw[qQ6 h2.c37];rw[HX37.out]at hj;omega));have h3:=h2.putC hRf4 HX37.out HXO.out;have hcx:Chg (· = x) W4 (W4.setCells x 0 X'.toList):=qQg _ _;have hm2b:=hm2.chg hcx hzx1;have hO5:=qQa hO4 hcx (fun b hb e=>qQb hO4 h2.a (by decide) b hb e);have hY5:=hY4.chg hcx (fun e=>At.ne hY4 h2.a (by decide) e)
     go_upto_region 18 with(first|(refine wpList_load_mid rfl 59 _ rfl z 0 rfl _ _ HRZ.out underlying59 rfl HZI.out ?_)|(refine wpList_store_mid rfl 59 _ _ rfl x 0 X' rfl rfl HTX.out HXI.out HXO.out ?_))
     generalize World.setCells _ _ _ _=W5 at h3 hm2b hO5 hY5⊢;rw[qXa];clear h2 hm1 hm2 hRf4 hO4 hY4 HRZ HZI HTX hcx;have hs2:=qQ6 h3.c37 mv ({ M.inc with P:=P' } : Mach).n
     have ho2:(qZx X' mv ({ M.inc with P:=P' } : Mach).n).all (·.oneCell')=true:=by
      obtain⟨A',k',c',e⟩:=HMV.out;rw[e];exact qXx h3.one A' k' c' _
     have hcr:x+1≠x+2:=by omega
     have hFN2:∀w1,Chg (fun k=>k=x+1∨k=x+2) W5 w1→MaOut w (({ M.inc with P:=P' } : Mach),r) (.returned (.tuple #[.agg (qZx X' mv ({ M.inc with P:=P' } : Mach).n),.agg #[.int .i64 r.err,.int .u64 (r.blob:Int),.int .i64 r.size,.int .u32 (r.sum:Int),.slice rA r.names.length rc]])) w1:=fun w1 hc=>h3.fin2 hc r hO5
     have kA:∀w1,Chg (fun k=>k=x+1∨k=x+2) W5 w1→w1.rangeAt x 0 (qZx X' mv ({ M.inc with P:=P' } : Mach).n).toList:=fun w1 hc=>(h3.a.chg hc (fun e=>by rcases e with e|e <;> omega)).range
     have kM:∀w1,Chg (fun k=>k=x+1∨k=x+2) W5 w1→qXY w1 (.agg (qZx X' mv ({ M.inc with P:=P' } : Mach).n)) ({ M.inc with P:=P' } : Mach):=fun w1 hc=>h3.rm.two h3.c h3.s hc
     generalize qZx X' mv ({ M.inc with P:=P' } : Mach).n=X2 at hs2 ho2 hFN2 kA kM;have HI39:Hid ((prog.info? 62).map (·.size)=some X2.toList.length):=Hh (by rw[Array.length_toList,hs2];exact qQU);have kR:∀w1,Chg (fun k=>k=x+1∨k=x+2) W5 w1→w1.rangeAt (z+1) 0 #[.int .i64 r.err,.int .u64 (r.blob:Int),.int .i64 r.size,.int .u32 (r.sum:Int),.slice rA r.names.length rc].toList:=fun w1 hc=>(hm2b.chg hc (fun e=>by rcases e with e|e <;> omega)).range
     have kY:∀w1,Chg (fun k=>k=x+1∨k=x+2) W5 w1→At w1 y 117 #[.int .i64 q.kind,.int .i64 q.client,.int .i64 q.seq,.string q.name,.int .u64 (q.blob:Int),.int .i64 q.size,.int .u32 (q.sum:Int),.slice cA q.disks.length cc,.int .i64 q.pool,.int .i64 q.vol,.int .i64 q.at_]:=fun w1 hc=>hY5.chg hc (fun e=>e.elim (fun e=>At.ne hY5 h3.c (by decide) e) (fun e=>At.ne hY5 h3.s (by decide) e))
     have kO:∀w1,Chg (fun k=>k=x+1∨k=x+2) W5 w1→w1.ownsRow 0 9 1 (.slice rA r.names.length rc) r.names.length (r.names.map Value.string):=fun w1 hc=>qX9 hO5 h3.c h3.s (by decide) (by decide) hc
     refine qQq (Γ := Nat→Value) (sgφ [.val (.agg X2),.val (.pointer (some ⟨y,1,none⟩)),.val (.int .i64 q.client),.val (.pointer (some ⟨y,2,none⟩)),.val (.int .i64 q.seq),.val (.agg #[.int .i64 r.err,.int .u64 (r.blob:Int),.int .i64 r.size,.int .u32 (r.sum:Int),.slice rA r.names.length rc]),.val (.agg #[.int .i64 q.client,.int .i64 q.seq,.int .i64 r.err,.int .u64 (r.blob:Int),.int .i64 r.size,.int .u32 (r.sum:Int),.slice rA r.names.length rc]),.g 0,.val (.agg #[.int .i64 r.err,.int .u64 (r.blob:Int),.int .i64 r.size,.int .u32 (r.sum:Int),.slice rA r.names.length rc]),.any,.any])
      (GPr W5 (x+1) (x+2) 7 9 10 (fun v w1=>qXY w1 v ({ M.inc with P:=P',cl:=(q.client,⟨q.seq,r⟩)::qZy q.client M.cl } : Mach)) qQT #[.int .i64 r.err,.int .u64 (r.blob:Int),.int .i64 r.size,.int .u32 (r.sum:Int),.slice rA r.names.length rc]) (by kernel_rfl) (by kernel_rfl) (by kernel_rfl) (fun _=>undef) ?inv ?steps ?fin
     case inv=>exact⟨(Er W5).drew.chg,⟨_,h3.c.drew,h3.z39⟩,⟨_,h3.s.drew,rfl⟩,fun hh=>(by cases hh),fun hh=>(by cases hh),fun hh=>(by cases hh)⟩
     case steps =>
      show qQV _ _ _ _ _ _ 11
      refine⟨⟨⟨⟨⟨⟨⟨⟨⟨⟨⟨trivial,?s0⟩,?s1⟩,?s2⟩,?s3⟩,?s4⟩,?s5⟩,?s6⟩,?s7⟩,?s8⟩,?s9⟩,?s10⟩
      case s0 =>
       refine qQi (x:=.agg X2) rfl rfl rfl (GPr.keep (j:=0) (by decide) (by decide) (by decide)) fun γ L v a w1 st=>?_
       have e2:=st.far 2 (by kernel_rfl);simp at e2;exact qQk rfl (b:=x) (off:=0) (by simp[Act.eval,e2]) (kA w1 st.inv.chg) underlying62 rfl HI39.out
      case s1 =>
       refine qQi (x:=.pointer (some ⟨y,1,none⟩)) rfl rfl rfl (GPr.keep (j:=1) (by decide) (by decide) (by decide)) fun γ L v a w1 st=>?_
       have e6:=st.far 6 (by kernel_rfl);simp at e6;go_simp
      case s2 =>
       refine qQi (x:=.int .i64 q.client) rfl rfl rfl (GPr.keep (j:=2) (by decide) (by decide) (by decide)) fun γ L v a w1 st=>?_
       have e88:=st.val 1 88 rfl (by kernel_rfl);rw[(st.φ 1 (by kernel_rfl):v 1=_)]at e88;simp at e88;have q1:=(kY w1 st.inv.chg).cell 1;simp at q1;go_simp
      case s3 =>
       refine qQi (x:=.pointer (some ⟨y,2,none⟩)) rfl rfl rfl (GPr.keep (j:=3) (by decide) (by decide) (by decide)) fun γ L v a w1 st=>?_
       have e6:=st.far 6 (by kernel_rfl);simp at e6;go_simp
      case s4 =>
       refine qQi (x:=.int .i64 q.seq) rfl rfl rfl (GPr.keep (j:=4) (by decide) (by decide) (by decide)) fun γ L v a w1 st=>?_
       have e90:=st.val 3 90 rfl (by kernel_rfl);rw[(st.φ 3 (by kernel_rfl):v 3=_)]at e90;simp at e90;have q1:=(kY w1 st.inv.chg).cell 2;simp at q1;go_simp
      case s5 =>
       refine qQi (x:=.agg #[.int .i64 r.err,.int .u64 (r.blob:Int),.int .i64 r.size,.int .u32 (r.sum:Int),.slice rA r.names.length rc]) rfl rfl rfl (GPr.keep (j:=5) (by decide) (by decide) (by decide)) fun γ L v a w1 st=>?_
       have e13:=st.far 13 (by kernel_rfl);simp at e13;exact qQk rfl (b:=z+1) (off:=0) (by simp[Act.eval,e13]) (kR w1 st.inv.chg) underlying64 rfl qQo
      case s6 =>
       refine qQi (x:=.agg #[.int .i64 q.client,.int .i64 q.seq,.int .i64 r.err,.int .u64 (r.blob:Int),.int .i64 r.size,.int .u32 (r.sum:Int),.slice rA r.names.length rc]) rfl rfl rfl (GPr.keep (j:=6) (by decide) (by decide) (by decide)) fun γ L v a w1 st=>?_
       have e89:=st.val 2 89 rfl (by kernel_rfl);rw[(st.φ 2 (by kernel_rfl):v 2=_)]at e89;simp at e89;have e91:=st.val 4 91 rfl (by kernel_rfl);rw[(st.φ 4 (by kernel_rfl):v 4=_)]at e91;simp at e91;have e92:=st.val 5 92 rfl (by kernel_rfl);rw[(st.φ 5 (by kernel_rfl):v 5=_)]at e92;simp at e92;go_simp
      case s7 =>
       refine qXe (k:=0) (f:=56) rfl rfl rfl (by kernel_rfl) fun γ L v a w1 st=>?_
       have e87:=st.val 0 87 rfl (by kernel_rfl);rw[(st.φ 0 (by kernel_rfl):v 0=_)]at e87;simp at e87;have e93:=st.val 6 93 rfl (by kernel_rfl);rw[(st.φ 6 (by kernel_rfl):v 6=_)]at e93;simp at e93
       have h9:L 9=false:=by
        cases hq:L 9 with
        | false=>rfl
        | true =>
         have q7:=st.down 9 7 hq (by kernel_rfl);have q99:=st.off;rw[q7]at q99;cases q99
       refine⟨#[.agg X2,.agg #[.int .i64 q.client,.int .i64 q.seq,.int .i64 r.err,.int .u64 (r.blob:Int),.int .i64 r.size,.int .u32 (r.sum:Int),.slice rA r.names.length rc]],by go_simp,?_⟩
       refine(rmset_any w1 (.agg X2) ({ M.inc with P:=P' } : Mach) (kM w1 st.inv.chg) q.client ⟨q.seq,r⟩ rA rc (kO w1 st.inv.chg) (by have:=HI.out.len;show M.cl.length≤_;omega)).mono ?_
       rintro e w2 ⟨nv,rfl,hnv,hE2⟩;exact⟨nv,rfl,GPr.called st.inv hE2 h9 (by decide) (by decide) hnv⟩
      case s8 =>
       refine qQi (x:=.agg #[.int .i64 r.err,.int .u64 (r.blob:Int),.int .i64 r.size,.int .u32 (r.sum:Int),.slice rA r.names.length rc]) rfl rfl rfl (GPr.keep (j:=8) (by decide) (by decide) (by decide)) fun γ L v a w1 st=>?_
       have e13:=st.far 13 (by kernel_rfl);simp at e13;exact qQk rfl (b:=z+1) (off:=0) (by simp[Act.eval,e13]) (kR w1 st.inv.chg) underlying64 rfl qQo
      case s9 =>
       refine qZa rfl rfl rfl fun γ L v a w1 st=>?_
       have e4:=st.far 4 (by kernel_rfl);simp at e4;have hcv:=st.inv.call (st.dep 7 (by kernel_rfl));obtain⟨C3,mv3,DM3,hγ,k1,k2,k3,k4,k5⟩:=hcv;obtain⟨A3,c3,rfl⟩:=qQc k4.own;have e94:=st.val 7 94 rfl (by kernel_rfl);rw[(st.φ 7 (by kernel_rfl):v 7=_),hγ]at e94;simp at e94;have hg:qQT (γ 0)=qZx C3 (.slice A3 DM3.length c3) M.inc.n:=by rw[hγ];rfl
       have h39':(qQT (γ 0)).size=39:=by rw[hg];exact qQ6 k1 _ _
       refine⟨_,qQv rfl (b:=x+1) (off:=0) (cells:=qQT (γ 0)) (by simp[Act.eval,e4]) (by simp[Act.eval,e94,hg]) (by rw[h39'];obtain⟨Z,z1,z2⟩:=st.inv.ac;rw[←z2];exact z1.there) (by rw[h39'];exact qQU) (by rw[hg];exact qXx k2 _ _ _ _),?_⟩
       exact GPr.storeC st.inv hcr (fun v w1 w2 X Y h ac ar hc=>qXY.two h ac ar hc) h39' (by decide) (by decide)
      case s10 =>
       refine qZa rfl rfl rfl fun γ L v a w1 st=>?_
       have e5:=st.far 5 (by kernel_rfl);simp at e5;have e95:=st.val 8 95 rfl (by kernel_rfl);rw[(st.φ 8 (by kernel_rfl):v 8=_)]at e95;simp at e95;refine⟨_,qQv rfl (b:=x+2) (off:=0) (cells:=#[.int .i64 r.err,.int .u64 (r.blob:Int),.int .i64 r.size,.int .u32 (r.sum:Int),.slice rA r.names.length rc]) (by simp[Act.eval,e5]) (by simp[Act.eval,e95]) (by obtain⟨Z,z1,z2⟩:=st.inv.ar;have:=z1.there;rw[z2]at this;exact this) qQo (by simp[Value.oneCell']),?_⟩
       exact GPr.storeR st.inv hcr (fun v w1 w2 X Y h ac ar hc=>qXY.two h ac ar hc) rfl (by decide) (by decide)
     case fin =>
      intro γ L v wz hall hG hφ;have hcv:=hG.call (hall 7 (by decide));have hA2:=hG.sc (hall 9 (by decide))
      have hγ2 : γ 0=.agg (qQT (γ 0))∧(qQT (γ 0)).size=39:=by
       obtain⟨C3,mv3,DM3,hγ,k1,k2,k3,k4,k5⟩:=hcv;rw[hγ];exact⟨rfl,qQ6 k1 _ _⟩
      have HL:=Hh (And.intro (qJn hA2 hγ2.2) (qJY (hG.sr (hall 10 (by decide))) rfl));have HF:Hid (MaOut w (({ M.inc with P:=P',cl:=(q.client,⟨q.seq,r⟩)::qZy q.client M.cl } : Mach),r) (.returned (.tuple #[.agg (qQT (γ 0)),.agg #[.int .i64 r.err,.int .u64 (r.blob:Int),.int .i64 r.size,.int .u32 (r.sum:Int),.slice rA r.names.length rc]])) wz):=Hh ⟨.agg (qQT (γ 0)),rA,rc,rfl,by rw[←hγ2.1];exact hcv,kO wz hG.chg,h3.ext.chg_trans hG.chg |>.mono (fun k hk e=>by rcases e with e|e <;> omega)⟩;clear hφ hall hG kA kR kY kM kO hFN2 hcv hA2 hγ2;generalize qQT (γ 0)=X3 at HL HF
      change Exit.then _ _ _ (qQC _ v _ 11) wz
      simp only[qQC,qQD,Act.put];simp only[List.getElem?_toArray,List.getElem?_cons_zero,List.getElem?_cons_succ,Option.bind_some,List.setIfInBounds_toArray,List.set_cons_zero,List.set_cons_succ];go_wp2_with fail
      refine bodyPost_ret (v:=.tuple #[.agg X3,.agg #[.int .i64 r.err,.int .u64 (r.blob:Int),.int .i64 r.size,.int .u32 (r.sum:Int),.slice rA r.names.length rc]]) (qQp results24 _ rfl rfl HL.out.1 HL.out.2) rfl ?_;rw[HAP.out,hP',hr];exact HF.out
   ·have hnc:q.client=0∨q.seq=0∨q.seq<M.seq q.client:=by
     have:=HFK.out
     rw[hsq];simp at this;omega
    have hap:M.app s.data.toList=(M.inc,Rs.er 16):=by rw[HAPP.out,HCMD.out,if_pos hnc]
    have HAP:=Hh hap;have hfn:ApFin w wc x (qZx C mv M.inc.n) zZ6 (M.inc,Rs.er 16):=h3.fin (Rs.er 16) (A:=none) (c:=0) (qQx _ _ _);have HRG:=Hh h3.a.range;have HFN0:=Hh hfn;clear hap hnc hfn hM hO3 hY3 m1 y1 y2 hsq;generalize qZx C mv M.inc.n=X2 at HRG HFN0;have HFN:=HFN0;clear HFN0;clear h3
    go_upto_region 13 with fail
    go_wp2_with (first|(refine wpList_load_mid rfl 62 _ rfl x 0 rfl _ _ HRG.out underlying62 rfl HFN.out.i1 ?_)|(refine wpList_store_mid rfl 62 _ _ rfl (x+1) 0 X2 rfl rfl HFN.out.t1 HFN.out.i2 HFN.out.o1 ?_)|(refine wpList_store_mid rfl 64 _ _ rfl (x+2) 0 #[.int .i64 16,.int .u64 0,.int .i64 0,.int .u32 0,.slice none 0 0] rfl rfl HFN.out.t2 qQo (by simp[Value.oneCell']) ?_))
    refine bodyPost_ret (v:=.tuple #[.agg X2,.agg zZ6]) (qQp results24 _ rfl rfl HFN.out.l1 HFN.out.l2) rfl ?_;rw[HAP.out];exact HFN.out.out
open Go.RowKit Go.Sort
theorem sis_any(w:World)(r:Rs)(A1 A2:Option Addr)(c1 c2:Nat)(h1:w.ownsRow 0 9 1 (.slice A1 r.names.length c1) r.names.length (r.names.map Value.string))(h2:w.ownsRow 0 9 1 (.slice A2 r.names.length c2) r.names.length (r.names.map Value.string))(hl:r.names.length≤1000000000) :
 Calls prog 26 #[.agg #[.int .i64 r.err,.int .u64 (r.blob:Int),.int .i64 r.size,.int .u32 (r.sum:Int),.slice A1 r.names.length c1],.agg #[.int .i64 r.err,.int .u64 (r.blob:Int),.int .i64 r.size,.int .u32 (r.sum:Int),.slice A2 r.names.length c2]] w fun e w'=>e=.returned (.bool true)∧Ext w w':=by
 have HS:=Hh (fun W (hE:Ext w W)=>same02_any W (.slice A1 r.names.length c1) (.slice A2 r.names.length c2) r.names (Sl.of_own (own_kx h1 hE)) (Sl.of_own (own_kx h2 hE)) (by omega));clear h1 h2
 go_enter func26,ntmps26
 go_wp2_with fail
 refine(HS.out _ (((Er w).alloc _).alloc _)).mono ?_
 rintro e w1 ⟨rfl,hE1⟩;go_wp2_with fail
 go_ret
 exact⟨rfl,(((Er w).alloc _).alloc _).trans hE1⟩
theorem told_in{M:Mach}{k:Int}{l:Last}(h:qZC k M.cl=some l):M.told k l.seq=some l.r∧M.told k (l.seq+1)=none∧M.seq k=l.seq:=by
 unfold Mach.told Mach.seq;rw[h];refine⟨by simp,?_,rfl⟩
 simp only;rw[if_neg (by omega)]
theorem sIs_any(w:World)(B:Nat→Prop)(mb:Nat)(M:Mach)(n:Nat)(v:Value)(h:qZo w B mb M)(hR:qXY w v M)(hi:MInv n M)(hn:n<50) :
 Calls prog 25 #[.pointer (some ⟨mb,0,none⟩),v] w fun e w'=>e=.returned (.int .i64 0)∧Ext w w':=by
 have HMI:=Hh h;obtain⟨c,cb,cn,mc,rows,hM⟩:=h;obtain⟨C,mv,DM,rfl,h37,hone,hRf,hMm,hperm,hasc⟩:=hR;obtain⟨A,cp,rfl⟩:=qQc hMm.own;have hX37:=mArr_37 h37 (.slice A DM.length cp) M.n;have hX38:=mArr_38 h37 (.slice A DM.length cp) M.n;have hlen:DM.length≤1000:=by have h1:=hperm.length_eq;have h2:=hi.len;rw[List.length_map]at h1;omega
 have HXC:Hid (∀W x,At W x 62 (qZx C (.slice A DM.length cp) M.n)→W.rangeAt x 0 C.toList):=Hh (fun W x hA j v hv=>by
  have hj:j<C.toList.length:=(List.getElem?_eq_some_iff.1 hv).1;refine hA.range j v ?_;unfold qZx;rw[Array.toList_append,List.getElem?_append_left hj];exact hv)
 generalize qZx C (.slice A DM.length cp) M.n=X at hX37 hX38 HXC⊢;have HMM:=Hh hMm
 have HLG:Hid (∀p∈DM,qZC p.1.1 M.cl=some p.1.2):=Hh (fun p hp=>by
  rw[←lget_perm hperm (asc_nodup hasc)];exact(qJX (asc_nodup hasc) _ _).2 (List.mem_map.2 ⟨p,hp,rfl⟩))
 have HI:=Hh hi;have HCI:Hid ((prog.info? 59).map (·.size)=some C.toList.length):=Hh (by rw[Array.length_toList,h37];exact qQm);have HCAT:=Hh (fun W (hE:Ext w W)=>scat_any (hM.ext hE));have HIS:=Hh (fun W (hE:Ext w W)=>is_any W B c cb cn M.P n (.agg C) (hM.cat.ext hE) (hRf.ext hE) hi.cat hn);have HCNT:=Hh (fun W (hE:Ext w W)=>scount_any (HMI.out.ext hE));clear hM h37 hone hRf hMm hperm hasc hi
 go_enter func25,ntmps25
 have hB:=At.new w 62 X;have hE:=(Er w).alloc (.cells X 62)
 go_upto_region 1 with fail
 generalize w.heap.size=x at hB⊢;generalize w.alloc _=W at hB hE⊢;have kB:∀w1,Ext W w1→At w1 x 62 X:=fun w1 hc=>hB.ext hc
 refine qQq (Γ := Nat→Value) (sgφ [(.val (.pointer (some ⟨mb,0,none⟩))),(.val (.pointer (some ⟨c,0,none⟩))),(.val (.pointer (some ⟨x,0,none⟩))),(.val (.agg C)),(.val (.int .i64 0)),(.val (.bool false)),(.val (.bool false)),(.val (.pointer (some ⟨mb,0,none⟩))),(.val (.int .i64 M.n)),(.val (.pointer (some ⟨x,38,none⟩))),(.val (.int .i64 M.n)),(.val (.bool false)),(.val (.bool false))])
  (fun _ _ w1=>Ext W w1) (by kernel_rfl) (by kernel_rfl) (by kernel_rfl) (fun _=>undef) ?inv ?steps ?fin
 case inv=>exact(Er W).drew
 case steps =>
  show qQV _ _ _ _ _ _ 13
  refine⟨⟨⟨⟨⟨⟨⟨⟨⟨⟨⟨⟨⟨trivial,?s0⟩,?s1⟩,?s2⟩,?s3⟩,?s4⟩,?s5⟩,?s6⟩,?s7⟩,?s8⟩,?s9⟩,?s10⟩,?s11⟩,?s12⟩
  case s0 =>
   refine qQi (x:=.pointer (some ⟨mb,0,none⟩)) rfl rfl rfl (fun _ _ _ h _=>h) fun γ L v a w1 st=>?_
   have e0:=st.far 0 (by kernel_rfl);simp at e0;go_simp
  case s1 =>
   refine sg_callv' (x:=.pointer (some ⟨c,0,none⟩)) (f:=19) rfl rfl rfl fun γ L v a w1 st=>?_
   have e11:=st.val 0 11 rfl (by kernel_rfl);rw[(st.φ 0 (by kernel_rfl):v 0=_)]at e11;simp at e11;refine⟨#[.pointer (some ⟨mb,0,none⟩)],by go_simp,?_⟩
   refine(HCAT.out w1 (hE.trans st.inv)).mono ?_
   rintro e w2 ⟨rfl,hE2⟩;exact⟨rfl,Ext.trans st.inv hE2⟩
  case s2 =>
   refine qQi (x:=.pointer (some ⟨x,0,none⟩)) rfl rfl rfl (fun _ _ _ h _=>h) fun γ L v a w1 st=>?_
   have e3:=st.far 3 (by kernel_rfl);simp at e3;go_simp
  case s3 =>
   refine qQi (x:=.agg C) rfl rfl rfl (fun _ _ _ h _=>h) fun γ L v a w1 st=>?_
   have e13:=st.val 2 13 rfl (by kernel_rfl);rw[(st.φ 2 (by kernel_rfl):v 2=_)]at e13;simp at e13;exact qQk rfl (b:=x) (off:=0) (by simp[Act.eval,e13]) (HXC.out _ _ (kB w1 st.inv)) underlying59 rfl HCI.out
  case s4 =>
   refine sg_callv' (x:=.int .i64 0) (f:=57) rfl rfl rfl fun γ L v a w1 st=>?_
   have e12:=st.val 1 12 rfl (by kernel_rfl);rw[(st.φ 1 (by kernel_rfl):v 1=_)]at e12;simp at e12;have e14:=st.val 3 14 rfl (by kernel_rfl);rw[(st.φ 3 (by kernel_rfl):v 3=_)]at e14;simp at e14;refine⟨#[.pointer (some ⟨c,0,none⟩),.agg C],by go_simp,?_⟩
   refine(HIS.out w1 (hE.trans st.inv)).mono ?_
   rintro e w2 ⟨rfl,hE2⟩;exact⟨rfl,Ext.trans st.inv hE2⟩
  case s5 =>
   refine qQi (x:=.bool false) rfl rfl rfl (fun _ _ _ h _=>h) fun γ L v a w1 st=>?_
   have e15:=st.val 4 15 rfl (by kernel_rfl);rw[(st.φ 4 (by kernel_rfl):v 4=_)]at e15;simp at e15;go_simp
  case s6 =>
   refine qQi (x:=.bool false) rfl rfl rfl (fun _ _ _ h _=>h) fun γ L v a w1 st=>?_
   have e16:=st.val 5 16 rfl (by kernel_rfl);rw[(st.φ 5 (by kernel_rfl):v 5=_)]at e16;simp at e16;go_simp
  case s7 =>
   refine qQ5 (x:=.pointer (some ⟨mb,0,none⟩)) (on:=6) (t:=17) (b:=false) rfl rfl (by kernel_rfl) rfl rfl rfl (fun _ _ _ h _=>h) fun γ L v a w1 st=>?_
   have e0:=st.far 0 (by kernel_rfl);simp at e0;go_simp
  case s8 =>
   refine qX8 (x:=.int .i64 M.n) (f:=16) (on:=6) (t:=17) (b:=false) rfl rfl (by kernel_rfl) rfl rfl rfl fun γ L v a w1 st=>?_
   have e18:=st.val 7 18 rfl (by kernel_rfl);rw[(st.φ 7 (by kernel_rfl):v 7=_)]at e18;simp at e18;refine⟨#[.pointer (some ⟨mb,0,none⟩)],by go_simp,?_⟩
   refine(HCNT.out w1 (hE.trans st.inv)).mono ?_
   rintro e w2 ⟨rfl,hE2⟩;exact⟨rfl,Ext.trans st.inv hE2⟩
  case s9 =>
   refine qQ5 (x:=.pointer (some ⟨x,38,none⟩)) (on:=6) (t:=17) (b:=false) rfl rfl (by kernel_rfl) rfl rfl rfl (fun _ _ _ h _=>h) fun γ L v a w1 st=>?_
   have e3:=st.far 3 (by kernel_rfl);simp at e3;go_simp
  case s10 =>
   refine qQ5 (x:=.int .i64 M.n) (on:=6) (t:=17) (b:=false) rfl rfl (by kernel_rfl) rfl rfl rfl (fun _ _ _ h _=>h) fun γ L v a w1 st=>?_
   have e20:=st.val 9 20 rfl (by kernel_rfl);rw[(st.φ 9 (by kernel_rfl):v 9=_)]at e20;simp at e20;have q:=(kB w1 st.inv).cell 38;rw[hX38]at q;go_simp
  case s11 =>
   refine qQ5 (x:=.bool false) (on:=6) (t:=17) (b:=false) rfl rfl (by kernel_rfl) rfl rfl rfl (fun _ _ _ h _=>h) fun γ L v a w1 st=>?_
   have e19:=st.val 8 19 rfl (by kernel_rfl);rw[(st.φ 8 (by kernel_rfl):v 8=_)]at e19;simp at e19;have e21:=st.val 10 21 rfl (by kernel_rfl);rw[(st.φ 10 (by kernel_rfl):v 10=_)]at e21;simp at e21;go_simp
  case s12 =>
   refine qQi (x:=.bool false) rfl rfl rfl (fun _ _ _ h _=>h) fun γ L v a w1 st=>?_
   have e17:=st.val 6 17 rfl (by kernel_rfl);rw[(st.φ 6 (by kernel_rfl):v 6=_)]at e17;simp at e17;have e22:=st.val 11 22 rfl (by kernel_rfl);rw[(st.φ 11 (by kernel_rfl):v 11=_)]at e22;simp at e22;go_simp
 case fin =>
  intro γ L v wz hall hEz hφ;have hlast:v 12=.bool false:=hφ 12 (by decide);clear hφ hall
  change Exit.then _ _ _ (qQC _ v _ 13) wz
  simp only[qQC,qQD,Act.put];simp only[List.getElem?_toArray,List.getElem?_cons_zero,List.getElem?_cons_succ,Option.bind_some,List.setIfInBounds_toArray,List.set_cons_zero,List.set_cons_succ];rw[hlast];clear hlast;have hBz:=kB wz hEz;have hEw:=hE.trans hEz;clear kB hB hE hEz HCAT HIS HCNT HXC HCI;have c37:=hBz.cell 37;rw[hX37]at c37;have hS:=HMM.out.sln.ext hEw;clear hBz hX37 hX38;go_wp2_with fail
  clear c37
  go_loopw [27] (fun kv wr=>∃j:Nat,kv=.int .i64 (j:Int)∧j≤DM.length∧Sln wr (.slice A DM.length cp) 7 (DM.map qJR)∧Ext w wr) (fun kv _=>DM.length - (intOf kv).toNat)
  case atStart=>exact⟨0,rfl,Nat.zero_le _,hS,hEw⟩
  case round =>
   clear hS hEw;obtain⟨j,rfl,hj,hS,hE⟩:=hrel
   by_cases hlt:j<DM.length
   ·obtain⟨p,hp⟩:∃p,DM[j]? = some p:=⟨_,List.getElem?_eq_getElem hlt⟩;have hno:=(HMM.out.ext hE).nms p (List.mem_of_getElem? hp);have hlg:=HLG.out p (List.mem_of_getElem? hp);have hmem:=List.mem_of_getElem? hp;obtain⟨⟨k,l⟩,pv⟩:=p;simp only at hno hlg;obtain⟨nA,nc,rfl⟩:=qQc hno
    obtain⟨rb,ro,rfl⟩:=qQW hS (fun e=>by
     have h0:=List.map_eq_nil_iff.1 e;rw[h0]at hp;simp at hp)
    obtain⟨r0,r1,r2,r3,r4,r5,r6⟩:=mm_cells hS hp;simp only at r0 r1 r2 r3 r4 r5 r6;have hY:=At.new wr 123 #[.int .i64 k,.int .i64 l.seq,.int .i64 l.r.err,.int .u64 (l.r.blob:Int),.int .i64 l.r.size,.int .u32 (l.r.sum:Int),.slice nA l.r.names.length nc];have hEy:=(Er wr).alloc (.cells #[.int .i64 k,.int .i64 l.seq,.int .i64 l.r.err,.int .u64 (l.r.blob:Int),.int .i64 l.r.size,.int .u32 (l.r.sum:Int),.slice nA l.r.names.length nc] 123);obtain⟨ht1,ht2,ht3⟩:=told_in hlg;have hcl:=HI.out.cl _ (qXW hlg);simp only at hcl;have HCL:=Hh hcl;have HT3:=Hh (And.intro ht1 (And.intro ht2 ht3));have hsw:l.seq+1≤9223372036854775807 ∧ -9223372036854775808≤l.seq+1:=by have:=hcl.2.1;omega
    clear hp hlg hmem hcl ht1 ht2 ht3
    go_upto_region 6 with fail
    clear r0 r1 r2 r3 r4 r5 r6;have hS1:=hS.ext hEy;have hE1:=hE.trans hEy;have hno1:=own_kx hno hEy;generalize wr.heap.size=y at hY⊢;generalize wr.alloc _=W1 at hY hS1 hE1 hno1⊢;clear hS hE hno hEy;have y0:=hY.cell 0;have y1:=hY.cell 1;simp at y0 y1;have HTD:=Hh (stold_any (HMI.out.ext hE1) HI.out (by omega) k l.seq);go_wp2_with fail
    refine HTD.out.mono ?_;rintro e w2 ⟨r,tA,tc,rfl,hr,hto,hE2⟩;rw[HT3.out.1]at hr⊢;have hr2:r=l.r:=hr;subst hr2;have hsome:(some l.r).isSome=true:=rfl;unfold qZB;have hY2:=hY.ext hE2;have hS2:=hS1.ext hE2;have hEx:=hE1.trans hE2;have hno2:=own_kx hno1 hE2;clear HTD hr hY hS1 hE1 hno1 hE2 y0 y1;have hT:=At.new w2 36 #[.int .i64 l.r.err,.int .u64 (l.r.blob:Int),.int .i64 l.r.size,.int .u32 (l.r.sum:Int),.slice tA l.r.names.length tc];have hEt:=(Er w2).alloc (.cells #[.int .i64 l.r.err,.int .u64 (l.r.blob:Int),.int .i64 l.r.size,.int .u32 (l.r.sum:Int),.slice tA l.r.names.length tc] 36)
    go_upto_region 7 with fail
    have hY:=hY2.ext hEt;have hS:=hS2.ext hEt;have hE:=hEx.trans hEt;have hno:=own_kx hno2 hEt;have hto2:=own_kx hto hEt;generalize w2.heap.size=t at hT⊢;generalize w2.alloc _=W2 at hT hY hS hE hno hto2⊢;clear hY2 hS2 hEx hno2 hto hEt;have y0:=hY.cell 0;have y1:=hY.cell 1;simp at y0 y1;have hw1:IntKind.i64.wrap (l.seq+1)=l.seq+1:=Go.IntWalk.i64_in _ (by omega);have HTD:=Hh (stold_any (HMI.out.ext hE) HI.out (by omega) k (l.seq+1));go_wp2_with fail
    refine HTD.out.mono ?_;rintro e w3 ⟨r,qA,qc,rfl,hr,hq,hE3⟩;rw[HT3.out.2.1]at⊢;unfold qZB;have hY3:=hY.ext hE3;have hT3:=hT.ext hE3;have hS3:=hS.ext hE3;have hEx:=hE.trans hE3;have hno3:=own_kx hno hE3;have hto3:=own_kx hto2 hE3;clear HTD hr hY hT hS hE hno hto2 hE3 y0 y1 hw1 hsw hq
    go_upto_region 8 with fail
    generalize hWW:World.alloc _ _=W4;have hEt:Ext w3 W4:=by rw[←hWW];exact(Er w3).alloc _
    have hY:=hY3.ext hEt;have hT:=hT3.ext hEt;have hS:=hS3.ext hEt;have hE:=hEx.trans hEt;have hno:=own_kx hno3 hEt;have hto:=own_kx hto3 hEt;have HSI:=Hh (fun W (hc:Ext W4 W)=>sis_any W l.r tA nA tc nc (own_kx hto hc) (own_kx hno hc) (by have:=HCL.out.2.2.len;omega));have HSQ:=Hh (fun W (hc:Ext W4 W)=>show Calls prog 11 #[.pointer (some ⟨mb,0,none⟩),.int .i64 k] W fun e w'=>e=.returned (.int .i64 l.seq)∧Ext W w' from by rw[←HT3.out.2.2];exact sseq_any (HMI.out.ext (hE.trans hc)) k);clear hWW hY3 hT3 hS3 hEx hno3 hto3 hEt hno hto
    refine qQq (Γ := Nat→Value) (sgφ [(.val (.bool true)),(.val (.bool false)),(.val (.bool false)),(.val (.bool false)),(.val (.bool false)),(.val (.bool false)),(.val (.agg #[.int .i64 l.r.err,.int .u64 (l.r.blob:Int),.int .i64 l.r.size,.int .u32 (l.r.sum:Int),.slice tA l.r.names.length tc])),(.val (.pointer (some ⟨y,2,none⟩))),(.val (.agg #[.int .i64 l.r.err,.int .u64 (l.r.blob:Int),.int .i64 l.r.size,.int .u32 (l.r.sum:Int),.slice nA l.r.names.length nc])),(.val (.bool true)),(.val (.bool false)),(.val (.bool false)),(.val (.bool false)),(.val (.pointer (some ⟨mb,0,none⟩))),(.val (.pointer (some ⟨y,0,none⟩))),(.val (.int .i64 k)),(.val (.int .i64 l.seq)),(.val (.pointer (some ⟨y,1,none⟩))),(.val (.int .i64 l.seq)),(.val (.bool false)),(.val (.bool false))])
     (fun _ _ w1=>Ext W4 w1) (by kernel_rfl) (by kernel_rfl) (by kernel_rfl) (fun _=>undef) ?inv ?steps ?fin
    case inv=>exact(Er W4).drew
    case steps =>
     show qQV _ _ _ _ _ _ 21
     refine⟨⟨⟨⟨⟨⟨⟨⟨⟨⟨⟨⟨⟨⟨⟨⟨⟨⟨⟨⟨⟨trivial,?s0⟩,?s1⟩,?s2⟩,?s3⟩,?s4⟩,?s5⟩,?s6⟩,?s7⟩,?s8⟩,?s9⟩,?s10⟩,?s11⟩,?s12⟩,?s13⟩,?s14⟩,?s15⟩,?s16⟩,?s17⟩,?s18⟩,?s19⟩,?s20⟩
     case s0 =>
      refine qQi (x:=.bool true) rfl rfl rfl (fun _ _ _ h _=>h) fun γ L v a w1 st=>?_
      have e8:=st.far 8 (by kernel_rfl);simp at e8;go_simp
     case s1 =>
      refine qQi (x:=.bool false) rfl rfl rfl (fun _ _ _ h _=>h) fun γ L v a w1 st=>?_
      have e50:=st.val 0 50 rfl (by kernel_rfl);rw[(st.φ 0 (by kernel_rfl):v 0=_)]at e50;simp at e50;go_simp
     case s2 =>
      refine qQi (x:=.bool false) rfl rfl rfl (fun _ _ _ h _=>h) fun γ L v a w1 st=>?_
      have e51:=st.val 1 51 rfl (by kernel_rfl);rw[(st.φ 1 (by kernel_rfl):v 1=_)]at e51;simp at e51;go_simp
     case s3 =>
      refine qQ5 (x:=.bool false) (on:=2) (t:=52) (b:=false) rfl rfl (by kernel_rfl) rfl rfl rfl (fun _ _ _ h _=>h) fun γ L v a w1 st=>?_
      have e10:=st.far 10 (by kernel_rfl);simp at e10;go_simp
     case s4 =>
      refine qQi (x:=.bool false) rfl rfl rfl (fun _ _ _ h _=>h) fun γ L v a w1 st=>?_
      have e52:=st.val 2 52 rfl (by kernel_rfl);rw[(st.φ 2 (by kernel_rfl):v 2=_)]at e52;simp at e52;have e53:=st.val 3 53 rfl (by kernel_rfl);rw[(st.φ 3 (by kernel_rfl):v 3=_)]at e53;simp at e53;go_simp
     case s5 =>
      refine qQi (x:=.bool false) rfl rfl rfl (fun _ _ _ h _=>h) fun γ L v a w1 st=>?_
      have e54:=st.val 4 54 rfl (by kernel_rfl);rw[(st.φ 4 (by kernel_rfl):v 4=_)]at e54;simp at e54;go_simp
     case s6 =>
      refine qQ5 (x:=.agg #[.int .i64 l.r.err,.int .u64 (l.r.blob:Int),.int .i64 l.r.size,.int .u32 (l.r.sum:Int),.slice tA l.r.names.length tc]) (on:=5) (t:=55) (b:=false) rfl rfl (by kernel_rfl) rfl rfl rfl (fun _ _ _ h _=>h) fun γ L v a w1 st=>?_
      have e7:=st.far 7 (by kernel_rfl);simp at e7;exact qQk rfl (b:=t) (off:=0) (by simp[Act.eval,e7]) (hT.ext st.inv).range underlying36 rfl qQs
     case s7 =>
      refine qQ5 (x:=.pointer (some ⟨y,2,none⟩)) (on:=5) (t:=55) (b:=false) rfl rfl (by kernel_rfl) rfl rfl rfl (fun _ _ _ h _=>h) fun γ L v a w1 st=>?_
      have e6:=st.far 6 (by kernel_rfl);simp at e6;go_simp
     case s8 =>
      refine qQ5 (x:=.agg #[.int .i64 l.r.err,.int .u64 (l.r.blob:Int),.int .i64 l.r.size,.int .u32 (l.r.sum:Int),.slice nA l.r.names.length nc]) (on:=5) (t:=55) (b:=false) rfl rfl (by kernel_rfl) rfl rfl rfl (fun _ _ _ h _=>h) fun γ L v a w1 st=>?_
      have e57:=st.val 7 57 rfl (by kernel_rfl);rw[(st.φ 7 (by kernel_rfl):v 7=_)]at e57;simp at e57;exact qQk rfl (b:=y) (off:=2) (by simp[Act.eval,e57]) (range_at2 (hY.ext st.inv)) underlying64 rfl qQo
     case s9 =>
      refine qX8 (x:=.bool true) (f:=26) (on:=5) (t:=55) (b:=false) rfl rfl (by kernel_rfl) rfl rfl rfl fun γ L v a w1 st=>?_
      have e56:=st.val 6 56 rfl (by kernel_rfl);rw[(st.φ 6 (by kernel_rfl):v 6=_)]at e56;simp at e56;have e58:=st.val 8 58 rfl (by kernel_rfl);rw[(st.φ 8 (by kernel_rfl):v 8=_)]at e58;simp at e58;refine⟨#[.agg #[.int .i64 l.r.err,.int .u64 (l.r.blob:Int),.int .i64 l.r.size,.int .u32 (l.r.sum:Int),.slice tA l.r.names.length tc],.agg #[.int .i64 l.r.err,.int .u64 (l.r.blob:Int),.int .i64 l.r.size,.int .u32 (l.r.sum:Int),.slice nA l.r.names.length nc]],by go_simp,?_⟩
      refine(HSI.out w1 st.inv).mono ?_
      rintro e w2 ⟨rfl,hE2⟩;exact⟨rfl,Ext.trans st.inv hE2⟩
     case s10 =>
      refine qQ5 (x:=.bool false) (on:=5) (t:=55) (b:=false) rfl rfl (by kernel_rfl) rfl rfl rfl (fun _ _ _ h _=>h) fun γ L v a w1 st=>?_
      have e59:=st.val 9 59 rfl (by kernel_rfl);rw[(st.φ 9 (by kernel_rfl):v 9=_)]at e59;simp at e59;go_simp
     case s11 =>
      refine qQi (x:=.bool false) rfl rfl rfl (fun _ _ _ h _=>h) fun γ L v a w1 st=>?_
      have e55:=st.val 5 55 rfl (by kernel_rfl);rw[(st.φ 5 (by kernel_rfl):v 5=_)]at e55;simp at e55;have e60:=st.val 10 60 rfl (by kernel_rfl);rw[(st.φ 10 (by kernel_rfl):v 10=_)]at e60;simp at e60;go_simp
     case s12 =>
      refine qQi (x:=.bool false) rfl rfl rfl (fun _ _ _ h _=>h) fun γ L v a w1 st=>?_
      have e61:=st.val 11 61 rfl (by kernel_rfl);rw[(st.φ 11 (by kernel_rfl):v 11=_)]at e61;simp at e61;go_simp
     case s13 =>
      refine qQ5 (x:=.pointer (some ⟨mb,0,none⟩)) (on:=12) (t:=62) (b:=false) rfl rfl (by kernel_rfl) rfl rfl rfl (fun _ _ _ h _=>h) fun γ L v a w1 st=>?_
      have e0:=st.far 0 (by kernel_rfl);simp at e0;go_simp
     case s14 =>
      refine qQ5 (x:=.pointer (some ⟨y,0,none⟩)) (on:=12) (t:=62) (b:=false) rfl rfl (by kernel_rfl) rfl rfl rfl (fun _ _ _ h _=>h) fun γ L v a w1 st=>?_
      have e6:=st.far 6 (by kernel_rfl);simp at e6;go_simp
     case s15 =>
      refine qQ5 (x:=.int .i64 k) (on:=12) (t:=62) (b:=false) rfl rfl (by kernel_rfl) rfl rfl rfl (fun _ _ _ h _=>h) fun γ L v a w1 st=>?_
      have e64:=st.val 14 64 rfl (by kernel_rfl);rw[(st.φ 14 (by kernel_rfl):v 14=_)]at e64;simp at e64;have q:=(hY.ext st.inv).cell 0;simp at q;go_simp
     case s16 =>
      refine qX8 (x:=.int .i64 l.seq) (f:=11) (on:=12) (t:=62) (b:=false) rfl rfl (by kernel_rfl) rfl rfl rfl fun γ L v a w1 st=>?_
      have e63:=st.val 13 63 rfl (by kernel_rfl);rw[(st.φ 13 (by kernel_rfl):v 13=_)]at e63;simp at e63;have e65:=st.val 15 65 rfl (by kernel_rfl);rw[(st.φ 15 (by kernel_rfl):v 15=_)]at e65;simp at e65;refine⟨#[.pointer (some ⟨mb,0,none⟩),.int .i64 k],by go_simp,?_⟩
      refine(HSQ.out w1 st.inv).mono ?_
      rintro e w2 ⟨rfl,hE2⟩;exact⟨rfl,Ext.trans st.inv hE2⟩
     case s17 =>
      refine qQ5 (x:=.pointer (some ⟨y,1,none⟩)) (on:=12) (t:=62) (b:=false) rfl rfl (by kernel_rfl) rfl rfl rfl (fun _ _ _ h _=>h) fun γ L v a w1 st=>?_
      have e6:=st.far 6 (by kernel_rfl);simp at e6;go_simp
     case s18 =>
      refine qQ5 (x:=.int .i64 l.seq) (on:=12) (t:=62) (b:=false) rfl rfl (by kernel_rfl) rfl rfl rfl (fun _ _ _ h _=>h) fun γ L v a w1 st=>?_
      have e67:=st.val 17 67 rfl (by kernel_rfl);rw[(st.φ 17 (by kernel_rfl):v 17=_)]at e67;simp at e67;have q:=(hY.ext st.inv).cell 1;simp at q;go_simp
     case s19 =>
      refine qQ5 (x:=.bool false) (on:=12) (t:=62) (b:=false) rfl rfl (by kernel_rfl) rfl rfl rfl (fun _ _ _ h _=>h) fun γ L v a w1 st=>?_
      have e66:=st.val 16 66 rfl (by kernel_rfl);rw[(st.φ 16 (by kernel_rfl):v 16=_)]at e66;simp at e66;have e68:=st.val 18 68 rfl (by kernel_rfl);rw[(st.φ 18 (by kernel_rfl):v 18=_)]at e68;simp at e68;go_simp
     case s20 =>
      refine qQi (x:=.bool false) rfl rfl rfl (fun _ _ _ h _=>h) fun γ L v a w1 st=>?_
      have e62:=st.val 12 62 rfl (by kernel_rfl);rw[(st.φ 12 (by kernel_rfl):v 12=_)]at e62;simp at e62;have e69:=st.val 19 69 rfl (by kernel_rfl);rw[(st.φ 19 (by kernel_rfl):v 19=_)]at e69;simp at e69;go_simp
    case fin =>
     intro γ L v wz hall hEz hφ;have hlast:v 20=.bool false:=hφ 20 (by decide);clear hφ hall
     change Exit.then _ _ _ (qQC _ v _ 21) wz
     simp only[qQC,qQD,Act.put];simp only[List.getElem?_toArray,List.getElem?_cons_zero,List.getElem?_cons_succ,Option.bind_some,List.setIfInBounds_toArray,List.set_cons_zero,List.set_cons_succ];rw[hlast];clear hlast;have hSz:=hS.ext hEz;have hEw:=hE.trans hEz;clear hS hE hEz hY hT HSI HSQ;go_wp2_with fail
     go_roundw
     case rel=>exact⟨j+1,by go_num,by omega,hSz,hEw⟩
     case measure=>simp[intOf];omega
   ·obtain rfl:j=DM.length:=by omega
    clear hS;go_wp2_with fail
    go_ret
    exact⟨rfl,hE⟩
end Go.Proofs.YtimjipcplmnpbaaGreat
