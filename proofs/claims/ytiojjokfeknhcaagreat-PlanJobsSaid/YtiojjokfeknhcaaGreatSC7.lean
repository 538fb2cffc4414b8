/-
  Part 7 of what the law leans on.
-/
import Derived.Test.YtiojjokfeknhcaaGreatSC6
namespace Go.Proofs.YtiojjokfeknhcaaGreat
set_option maxRecDepth 100000
set_option maxHeartbeats 8000000
set_option linter.unusedVariables false
set_option linter.unusedSimpArgs false
set_option linter.unusedSectionVars false
open _root_.Go.Proofs.Tryz
open Go.RowKit Go.Sort
theorem qQt(lv:Value){V:List Vl}(h:V.length=12):(qQj lv V).size=37:=by
 obtain⟨a0,a1,a2,a3,a4,a5,a6,a7,a8,a9,a10,a11,rfl⟩:=twelve h;rfl
theorem qQA(A:Option Addr)(n c:Nat)(V:List Vl):(qQj (.slice A n c) V).all (·.oneCell')=true:=by
 refine all_oneCell_toArray fun v hv=>?_
 rcases List.mem_cons.1 hv with rfl|hv
 ·rfl
 ·obtain⟨r,hr,hv⟩:=List.mem_flatten.1 hv;obtain⟨x,_,rfl⟩:=List.mem_map.1 hr;simp only[qQK,List.mem_cons,List.not_mem_nil,or_false]at hv;rcases hv with rfl|rfl|rfl <;> rfl
theorem rfArr_set(lv lv':Value)(V:List Vl):(qQj lv V).setIfInBounds 0 lv'=qQj lv' V:=by unfold qQj;simp
theorem qQg:(prog.info? 35).map (·.size)=some 37:=by kernel_rfl
theorem qJj:(prog.info? 89).map (fun i=>(i.zero,i.size,i.bytes))=some (some (.agg blZero),13,128):=by kernel_rfl
theorem qZt{w:World}{base:Nat}{e:TypeId}{size:Nat}(hb:base≤w.heap.size):(w.alloc (.cells #[] e)).ownsRow base e size (.slice (some ⟨w.heap.size,0,none⟩) 0 0) 0 []:=by
 have h:=At.new w e #[];exact⟨by simp,.inr ⟨w.heap.size,0,#[],rfl,hb,h,Nat.le_refl _,Nat.zero_le _,by simp,by simp⟩⟩
theorem rf_out{w w':World}{lv:Value}{n:Nat}{base:Nat}{DV DV':List (Bl×Value)}(h:RfRows w lv DV)(hE:Ext w w')(hs:∀p∈DV',p∈DV∨w'.ownsRow 0 3 1 p.2 p.1.disks.length (p.1.disks.map (Value.int .i64))){ov:Value}(hO:w'.ownsRow base 89 13 ov n ((DV'.map qZY).flatten))(hn:n=DV'.length):RfRows w' ov DV':=by
 subst hn;refine⟨qQ8 hO,fun p hp=>?_⟩
 rcases hs p hp with h1|h1
 ·exact(h.ext hE).dks p h1
 ·exact h1
def RfRet(w:World)(P:Pm)(e:Ending)(w':World):Prop:=∃v,e=.returned v∧qQZ w' v P∧Ext w w'
def rst(xr:Bl×Value)(s:List (Bl×Value)×Bool)(p:Bl×Value):List (Bl×Value)×Bool :=
 if p.1.id=xr.1.id then s else if(!s.2&&decide (xr.1.id<p.1.id))=true then(s.1++[xr,p],true)else(s.1++[p],s.2)
def rfin(xr:Bl×Value)(s:List (Bl×Value)×Bool):List (Bl×Value):=if s.2 then s.1 else s.1++[xr]
theorem rst_on(xr:Bl×Value):∀(DV O:List (Bl×Value)),(∀p∈DV,xr.1.id<p.1.id)→DV.foldl (rst xr) (O,true)=(O++DV,true)
 | [],O,_=>by simp
 | p::r,O,h=>by
  have h1:=h p (List.mem_cons_self ..)
  have e:rst xr (O,true) p=(O++[p],true):=by
   unfold rst;rw[if_neg (by omega)];simp
  rw[List.foldl_cons,e,rst_on xr r _ fun q hq=>h q (List.mem_cons_of_mem _ hq)];simp
theorem rst_all(xr:Bl×Value):∀(DV O:List (Bl×Value)),DV.Pairwise (fun a b=>a.1.id<b.1.id) →
 rfin xr (DV.foldl (rst xr) (O,false))=O++(DV.filter (fun p=>decide (p.1.id<xr.1.id))++xr::DV.filter (fun p=>decide (xr.1.id<p.1.id)))
 | [],O,_=>by simp[rfin]
 | p::r,O,h=>by
  obtain⟨h1,h2⟩:=List.pairwise_cons.1 h;rw[List.foldl_cons];rcases Nat.lt_trichotomy p.1.id xr.1.id with hlt|heq|hgt
  ·have e:rst xr (O,false) p=(O++[p],false):=by
    unfold rst;rw[if_neg (by omega),if_neg (by simp;omega)]
   rw[e,rst_all xr r _ h2,List.filter_cons,if_pos (by simpa using hlt),List.filter_cons (p:=fun p:Bl×Value=>decide (xr.1.id<p.1.id)),if_neg (by simp;omega)];simp
  ·have e:rst xr (O,false) p=(O,false):=by
    unfold rst;rw[if_pos heq]
   rw[e,rst_all xr r _ h2,List.filter_cons,if_neg (by simp;omega),List.filter_cons (p:=fun p:Bl×Value=>decide (xr.1.id<p.1.id)),if_neg (by simp;omega)]
  ·have e:rst xr (O,false) p=(O++[xr,p],true):=by
    unfold rst;rw[if_neg (by omega),if_pos (by simp;omega)]
   have hr:∀q∈r,xr.1.id<q.1.id:=fun q hq=>by have:=h1 q hq;omega
   have f1:r.filter (fun p=>decide (p.1.id<xr.1.id))=[]:=List.filter_eq_nil_iff.2 fun q hq=>by have:=hr q hq;simp;omega
   have f2:r.filter (fun p=>decide (xr.1.id<p.1.id))=r:=List.filter_eq_self.2 fun q hq=>by have:=hr q hq;simpa using this
   rw[e,rst_on xr r _ hr,List.filter_cons,if_neg (by simp;omega),List.filter_cons (p:=fun p:Bl×Value=>decide (xr.1.id<p.1.id)),if_pos (by simpa using hgt),f1,f2];simp[rfin]
theorem rst_mem(xr:Bl×Value):∀(DV:List (Bl×Value)) (s:List (Bl×Value)×Bool),∀q∈rfin xr (DV.foldl (rst xr) s),q∈s.1∨q∈DV∨q=xr
 | [],(O,false),q,hq=>by
  have hq':q∈O++[xr]:=hq;rcases List.mem_append.1 hq' with h|h
  ·exact .inl h
  ·exact .inr (.inr (List.mem_singleton.1 h))
 | [],(O,true),q,hq=>.inl hq
 | p::r,s,q,hq=>by
  rw[List.foldl_cons]at hq;rcases rst_mem xr r _ q hq with h|h|h
  ·unfold rst at h
   split at h
   ·exact .inl h
   ·split at h
    ·rcases List.mem_append.1 h with h|h
     ·exact .inl h
     ·rcases List.mem_cons.1 h with h|h
      ·exact .inr (.inr h)
      ·exact .inr (.inl (List.mem_cons.2 (.inl (List.mem_singleton.1 h))))
    ·rcases List.mem_append.1 h with h|h
     ·exact .inl h
     ·exact .inr (.inl (List.mem_cons.2 (.inl (List.mem_singleton.1 h))))
  ·exact .inr (.inl (List.mem_cons_of_mem _ h))
  ·exact .inr (.inr h)
theorem rst_pset{L:List Bl}{DV:List (Bl×Value)}(h:DV.map (·.1)=L)(ha:L.Pairwise fun a b=>a.id<b.id)(xr:Bl×Value):(rfin xr (DV.foldl (rst xr) ([],false))).map (·.1)=pset L xr.1:=by
 subst h
 have hp:DV.Pairwise fun a b=>a.1.id<b.1.id:=by
  rw[List.pairwise_map]at ha;exact ha
 rw[rst_all xr DV [] hp];unfold pset;rw[List.nil_append,List.map_append,List.map_cons,List.filter_map,List.filter_map];rfl
theorem fold_take{α β : Type}{l:List α}{k:Nat}{x : α}(h:l[k]? = some x)(f : β → α → β)(s : β):(l.take (k+1)).foldl f s=f ((l.take k).foldl f s) x:=by
 rw[List.take_add_one,h,List.foldl_append];rfl
theorem rdrop_any(w:World)(v:Value)(P:Pm)(h:qQZ w v P)(id:Nat)(hl:P.L.length≤1000000)(hV:P.vols.length=12) :
 Calls prog 83 #[v,.int .u64 (id:Int)] w (RfRet w (P.drop id)):=by
 obtain⟨lv,DV,rfl,hDV,hR⟩:=h;have hlen:DV.length=P.L.length:=by rw[←hDV,List.length_map]
 obtain⟨A,c,rfl⟩:=qQa hR.own;have HX:Hid (qQj (.slice A DV.length c) P.vols=(.slice A DV.length c::(P.vols.map qQK).flatten).toArray):=Hh rfl;have HSET:Hid (∀lv',(qQj (.slice A DV.length c) P.vols).setIfInBounds 0 lv'=qQj lv' P.vols):=Hh (rfArr_set _ · _);generalize hX:qQj (.slice A DV.length c) P.vols=X at HX HSET⊢;clear hX;have hX0:X[0]? = some (.slice A DV.length c):=by rw[HX.out];rfl
 have hl2:DV.length≤1000000:=by omega
 have HDV:=Hh hDV;have HR:=Hh hR;clear hDV hl hlen hR
 go_enter func83,ntmps83
 have hB:=(At.new w 35 X).alloc (.cells zZC 35);have hC:=At.new (w.alloc (.cells X 35)) 35 zZC;have hE:=((Er w).alloc (.cells X 35)).alloc (.cells zZC 35);rw[show(w.alloc (.cells X 35)).heap.size=w.heap.size+1 by simp]at hC
 go_upto_region 1 with fail
 obtain⟨xb,hxb⟩:∃xb,w.heap.size=xb:=⟨_,rfl⟩;rw[hxb]at hB hC⊢;generalize World.alloc _ _=W at hB hC hE⊢;have hW:xb+2≤W.heap.size:=by have:=hC.lt;omega
 have hOb:=qZt (w:=W) (base:=xb+2) (e:=89) (size:=13) hW;have hE1:=hE.alloc (.cells #[] 89);have hB1:=hB.alloc (.cells #[] 89);have hC1:=hC.alloc (.cells #[] 89)
 go_upto_region 2 with fail
 generalize W.heap.size=ob at hOb⊢;generalize World.alloc _ _=W1 at hOb hE1 hB1 hC1⊢;have XB:=Hh (show w.heap.size≤xb by omega);clear hE hB hC hW hxb;have c0:=hB1.cell 0;rw[hX0]at c0;go_wp2_with fail
 have HX0:=Hh hX0;clear c0 hX0
 go_loopw [5,12] (fun ov kv wr=>∃k:Nat,kv=.int .i64 (k:Int)∧k≤DV.length∧wr.ownsRow (xb+2) 89 13 ov ((DV.take k).filter fun p=>decide (p.1.id≠id)).length ((((DV.take k).filter fun p=>decide (p.1.id≠id)).map qZY).flatten)∧At wr xb 35 X∧At wr (xb+1) 35 zZC∧Ext w wr) (fun _ kv _=>DV.length - (intOf kv).toNat)
 case atStart=>exact⟨0,rfl,Nat.zero_le _,hOb,hB1,hC1,hE1⟩
 case round =>
  clear hOb hE1 hB1 hC1;obtain⟨k,rfl,hk,hO,hBr,hCr,hEr⟩:=hrel;obtain⟨oA,oc,rfl⟩:=qQa hO
  by_cases hlt:k<DV.length
  ·skip
   obtain⟨⟨b,dv⟩,hb⟩:∃q,DV[k]? = some q:=⟨_,List.getElem?_eq_getElem hlt⟩;obtain⟨dA,dc,rfl⟩:∃A c,dv=.slice A b.disks.length c:=qQa (HR.out.dks _ (List.mem_of_getElem? hb));have hS:=HR.out.sln.ext hEr
   obtain⟨rb,ro,rfl⟩:=qQQ hS (fun e=>by
    have h0:=List.map_eq_nil_iff.1 e;rw[h0]at hb;simp at hb)
   obtain⟨r0,r1,r2,r3,r4,r5,r6,r7,r8,r9,r10,r11,r12⟩:=qQV hS hb;have hYb:=At.new wr 89 (blCells b (.slice dA b.disks.length dc));have hEb:=(Er wr).alloc (.cells (blCells b (.slice dA b.disks.length dc)) 89);clear hS
   have htk:(DV.take (k+1)).filter (fun p=>decide (p.1.id≠id))=(DV.take k).filter (fun p=>decide (p.1.id≠id))++(if b.id≠id then [(b,.slice dA b.disks.length dc)]else []):=by
    rw[List.take_add_one,hb,List.filter_append]
    by_cases e:b.id=id <;> simp[e]
   have HTK:=Hh htk;have hol:((DV.take k).filter fun p=>decide (p.1.id≠id)).length≤DV.length:=Nat.le_trans (List.length_filter_le _ _) (by rw[List.length_take];omega);clear htk hb;generalize (DV.take k).filter (fun p=>decide (p.1.id≠id))=O at hO HTK hol⊢
   go_upto_region 5 with fail
   clear r0 r1 r2 r3 r4 r5 r6 r7 r8 r9 r10 r11 r12;have hOy:=own_kx hO hEb;have hBy:=hBr.ext hEb;have hCy:=hCr.ext hEb;have hEy:=hEr.trans hEb;clear hO hBr hCr hEr hEb;generalize wr.heap.size=yb at hYb⊢;generalize wr.alloc (.cells (blCells b (.slice dA b.disks.length dc)) 89)=W2 at *;have d0:=hYb.cell 0;have d1:=hYb.cell 1;have d2:=hYb.cell 2;have d3:=hYb.cell 3;have d4:=hYb.cell 4;have d5:=hYb.cell 5;have d6:=hYb.cell 6;have d7:=hYb.cell 7;have d8:=hYb.cell 8;have d9:=hYb.cell 9;have d10:=hYb.cell 10;have d11:=hYb.cell 11;have d12:=hYb.cell 12;simp at d0 d1 d2 d3 d4 d5 d6 d7 d8 d9 d10 d11 d12
   by_cases hx:b.id=id
   ·have hO2:=HTK.out;rw[if_neg (by simpa using hx),List.append_nil]at hO2;have HO2:=Hh hO2;clear hO2 hYb;go_wp2_with fail
    go_roundw
    case rel=>exact⟨k+1,by go_num,by omega,by rw[HO2.out];exact hOy,hBy,hCy,hEy⟩
    case measure=>simp[intOf];omega
   ·have hO2:=HTK.out;rw[if_pos hx]at hO2;have HO2:=Hh hO2;have hsz:=XB.out;have hsz2:=hEy.size;have hxs:xb+2≤W2.heap.size:=by have:=hCy.lt;omega
    clear hO2 hYb
    go_wp2_with (at_builtin;refine qQp _ hOy 30 underlying30 qJj rfl rfl (by decide) (by decide) rfl (by omega) hxs rfl _ _ rfl rfl rfl ?_)
    intro v1 w3 hO3 hC3;obtain⟨vA,vc,rfl⟩:=qQa hO3;have hE3:Ext w w3:=Chg.own_ext hEy hC3 hOy (by omega);have hB3:=hBy.chg hC3 (fun e=>qQf hOy hBy (by decide) _ e rfl);have hC3':=hCy.chg hC3 (fun e=>qQf hOy hCy (by decide) _ e rfl)
    have hO4:w3.ownsRow (xb+2) 89 13 (.slice vA (O.length+1) vc) (O++[(b,Value.slice dA b.disks.length dc)]).length (((O++[(b,Value.slice dA b.disks.length dc)]).map qZY).flatten):=by
     rw[List.length_append,List.map_append,List.flatten_append];simpa[qZY]using hO3
    clear hO3 hC3 hOy hBy hCy hEy hsz hsz2 hxs;go_wp2_with fail
    go_roundw
    case rel=>exact⟨k+1,by go_num,by omega,by rw[HO2.out];exact hO4,hB3,hC3',hE3⟩
    case measure=>simp[intOf];omega
  ·obtain rfl:k=DV.length:=by omega
   rw[List.take_length]at hO⊢;have c0:=hBr.cell 0;have f0:=hBr.frozen 0;rw[HX0.out]at c0
   have hD:(DV.filter fun p=>decide (p.1.id≠id)).map (·.1)=(P.drop id).L:=by
    show _=P.L.filter fun b=>decide (b.id≠id)
    rw[←HDV.out,List.filter_map];rfl
   have HD:=Hh hD;have HSUB:Hid (∀p∈DV.filter (fun p=>decide (p.1.id≠id)),p∈DV):=Hh (fun p hp=>(List.mem_filter.1 hp).1);clear hD;generalize DV.filter (fun p=>decide (p.1.id≠id))=O at hO HD HSUB⊢
   go_upto_region 9 with fail
   have hB2:=hBr.set 0 (.slice oA O.length oc);rw[HSET.out]at hB2;have hCb:xb+1≠xb:=by omega
   have hC2:=hCr.far (p:=⟨xb,0,none⟩) hCb (.slice oA O.length oc);have hO2:=qQb hO ((Chg.refl (· = xb) wr).setCell (p:=⟨xb,0,none⟩) (.inl rfl) (.slice oA O.length oc)) (fun k hk e=>qQf hO hBr (by decide) k hk e);have hE2:Ext w (wr.setCell ⟨xb,0,none⟩ (.slice oA O.length oc)):=Chg.setCell (p:=⟨xb,0,none⟩) hEr (.inr (by have:=XB.out;omega)) _;clear hBr hCr hO hEr c0 f0;generalize wr.setCell _ _=W2 at hB2 hC2 hO2 hE2⊢;have h37:=qQt (.slice oA O.length oc) hV;have HX2:Hid (qQj (.slice oA O.length oc) (P.drop id).vols=qQj (.slice oA O.length oc) P.vols):=Hh rfl;have hone:=qQA oA O.length oc P.vols;generalize qQj (.slice oA O.length oc) P.vols=X2 at hB2 h37 HX2 hone⊢;have HRG:=Hh hB2.range;have HI1:Hid ((prog.info? 35).map (·.size)=some X2.toList.length):=Hh (by rw[Array.length_toList,h37];exact qQg);have HI2:Hid ((prog.info? 35).map (·.size)=some X2.size):=Hh (by rw[h37];exact qQg);have HTH:Hid (W2.there (xb+1) 0 X2.size):=Hh (by rw[h37];exact hC2.there);have HONE:=Hh hone
   have HF:Hid (qQZ (W2.setCells (xb+1) 0 X2.toList) (.agg X2) (P.drop id)∧Ext w (W2.setCells (xb+1) 0 X2.toList)):=Hh (by
    have hE3:Ext W2 W2:=Er _;have hEF:Ext w (W2.setCells (xb+1) 0 X2.toList):=hE2.setCells (by have:=XB.out;omega) _ _;have hCF:Chg (· = xb+1) W2 (W2.setCells (xb+1) 0 X2.toList):=qQq _ _;have hOF:=qQb hO2 hCF (fun k hk e=>qQf hO2 hC2 (by decide) k hk e);exact⟨⟨_,O,by rw[←HX2.out],HD.out,rf_out HR.out hEF (fun p hp=>.inl (HSUB.out p hp)) hOF rfl⟩,hEF⟩)
   have hload:(loadVar 35 ⟨xb+1,0,none⟩).run prog (W2.setCells (xb+1) 0 X2.toList)=.ok (.agg X2) (W2.setCells (xb+1) 0 X2.toList):=by
    have:=run_loadVar_mid (P:=prog) (W2.setCells (xb+1) 0 X2.toList) (xb+1) 0 35 X2.toList _ (World.rangeAt_setCells_same W2 (xb+1) 0 X2.toList (by rw[Array.length_toList];exact HTH.out)) underlying35 rfl HI1.out
    exact this
   have HLD:=Hh hload;clear hB2 hC2 hO2 hE2 h37 hone hload
   go_wp2_with (first|(refine wpList_load_mid rfl 35 _ rfl xb 0 rfl _ _ HRG.out underlying35 rfl HI1.out ?_)|(refine wpList_store_mid rfl 35 _ _ rfl (xb+1) 0 X2 rfl rfl HTH.out HI2.out HONE.out ?_))
   have hld:=HLD.out;refine bodyPost_ret (v:=.agg X2) (qXS results83 _ rfl hld) rfl ?_;exact⟨_,rfl,HF.out.1,HF.out.2⟩
theorem qXn(w:World)(v:Value)(P:Pm)(h:qQZ w v P)(x:Bl)(dx:Value)(hx0:w.ownsRow 0 3 1 dx x.disks.length (x.disks.map (Value.int .i64)))(ha:P.L.Pairwise fun a b=>a.id<b.id)(hl:P.L.length≤1000000)(hV:P.vols.length=12) :
 Calls prog 84 #[v,.agg (blCells x dx)] w (RfRet w (P.set x)):=by
 obtain⟨lv,DV,rfl,hDV,hR⟩:=h;have hlen:DV.length=P.L.length:=by rw[←hDV,List.length_map]
 obtain⟨A,c,rfl⟩:=qQa hR.own;have HX:Hid (qQj (.slice A DV.length c) P.vols=(.slice A DV.length c::(P.vols.map qQK).flatten).toArray):=Hh rfl;have HSET:Hid (∀lv',(qQj (.slice A DV.length c) P.vols).setIfInBounds 0 lv'=qQj lv' P.vols):=Hh (rfArr_set _ · _);generalize hX:qQj (.slice A DV.length c) P.vols=X at HX HSET⊢;clear hX;have hX0:X[0]? = some (.slice A DV.length c):=by rw[HX.out];rfl
 have hl2:DV.length≤1000000:=by omega
 have HDV:=Hh hDV;have HR:=Hh hR;clear hDV hl hlen hR;obtain⟨xA,xc,rfl⟩:=qQa hx0;have HX9:=Hh hx0;have HA:=Hh ha;clear hx0 ha
 go_enter func84,ntmps84
 have hB:=((At.new w 35 X).alloc (.cells (blCells x (.slice xA x.disks.length xc)) 89)).alloc (.cells zZC 35);have hQ:=(At.new (w.alloc (.cells X 35)) 89 (blCells x (.slice xA x.disks.length xc))).alloc (.cells zZC 35);have hC:=At.new ((w.alloc (.cells X 35)).alloc (.cells (blCells x (.slice xA x.disks.length xc)) 89)) 35 zZC;have hE:=(((Er w).alloc (.cells X 35)).alloc (.cells (blCells x (.slice xA x.disks.length xc)) 89)).alloc (.cells zZC 35);rw[show(w.alloc (.cells X 35)).heap.size=w.heap.size+1 by simp]at hQ;rw[show((w.alloc (.cells X 35)).alloc (.cells (blCells x (.slice xA x.disks.length xc)) 89)).heap.size=w.heap.size+1+1 by simp]at hC
 go_upto_region 1 with fail
 obtain⟨xb,hxb⟩:∃xb,w.heap.size=xb:=⟨_,rfl⟩;rw[hxb]at hB hQ hC⊢;generalize World.alloc _ _=W at hB hQ hC hE⊢;have hW:xb+3≤W.heap.size:=by have:=hC.lt;omega
 have HZ:Hid ((zZC).size=37):=Hh rfl;generalize zZC=ZC at hC HZ;have hOb:=qZt (w:=W) (base:=xb+3) (e:=89) (size:=13) hW;have hE1:=hE.alloc (.cells #[] 89);have hB1:=hB.alloc (.cells #[] 89);have hC1:=hC.alloc (.cells #[] 89);have hQ1:=hQ.alloc (.cells #[] 89)
 go_upto_region 2 with fail
 generalize W.heap.size=ob at hOb⊢;generalize World.alloc _ _=W1 at hOb hE1 hB1 hC1 hQ1⊢;have XB:=Hh (show w.heap.size≤xb by omega);clear hE hB hC hQ hW hxb;have c0:=hB1.cell 0;rw[hX0]at c0;go_wp2_with fail
 have HX0:=Hh hX0;clear c0 hX0;obtain⟨xr,hxr⟩:∃xr:Bl×Value,xr=(x,.slice xA x.disks.length xc):=⟨_,rfl⟩;have HXR:=Hh hxr
 go_loopw [5,6,13] (fun ov bv kv wr=>∃(k:Nat) (O:List (Bl×Value)) (d:Bool),kv=.int .i64 (k:Int)∧bv=.bool d∧k≤DV.length∧O.length≤2 * k∧Hid ((DV.take k).foldl (rst xr) ([],false)=(O,d))∧wr.ownsRow (xb+3) 89 13 ov O.length ((O.map qZY).flatten)∧At wr xb 35 X∧At wr (xb+1) 89 (blCells x (.slice xA x.disks.length xc))∧At wr (xb+1+1) 35 ZC∧Ext w wr) (fun _ _ kv _=>DV.length - (intOf kv).toNat)
 case atStart=>exact⟨0,[],false,rfl,rfl,Nat.zero_le _,Nat.le_refl _,Hh rfl,hOb,hB1,hQ1,hC1,hE1⟩
 case round =>
  clear hOb hE1 hB1 hC1 hQ1 hxr;obtain⟨k,O,d,rfl,rfl,hk,hOl,HFD,hO,hBr,hQr,hCr,hEr⟩:=hrel;obtain⟨oA,oc,rfl⟩:=qQa hO
  by_cases hlt:k<DV.length
  ·skip
   obtain⟨⟨b,dv⟩,hb⟩:∃q,DV[k]? = some q:=⟨_,List.getElem?_eq_getElem hlt⟩;obtain⟨dA,dc,rfl⟩:∃A c,dv=.slice A b.disks.length c:=qQa (HR.out.dks _ (List.mem_of_getElem? hb));have hS:=HR.out.sln.ext hEr
   obtain⟨rb,ro,rfl⟩:=qQQ hS (fun e=>by
    have h0:=List.map_eq_nil_iff.1 e;rw[h0]at hb;simp at hb)
   obtain⟨r0,r1,r2,r3,r4,r5,r6,r7,r8,r9,r10,r11,r12⟩:=qQV hS hb;have hYb:=At.new wr 89 (blCells b (.slice dA b.disks.length dc));have hEb:=(Er wr).alloc (.cells (blCells b (.slice dA b.disks.length dc)) 89);clear hS;have hst:(DV.take (k+1)).foldl (rst xr) ([],false)=rst xr (O,d) (b,.slice dA b.disks.length dc):=by rw[fold_take hb,HFD.out]
   have HST:=Hh hst;clear hst hb HFD
   go_upto_region 6 with fail
   clear r0 r1 r2 r3 r4 r5 r6 r7 r8 r9 r10 r11 r12;have hOy:=own_kx hO hEb;have hBy:=hBr.ext hEb;have hCy:=hCr.ext hEb;have hQy:=hQr.ext hEb;have hEy:=hEr.trans hEb
   have hoy:∀k',some k'=(Value.slice oA O.length oc).ownBlock→k'≠wr.heap.size:=fun k' hk' e=>by
    rcases hO.2 with⟨e1,_⟩|⟨g,cap,cur,e1,hb1,hg1,_⟩
    ·rw[e1]at hk';cases hk'
    ·rw[e1]at hk';have e2:k'=g:=by injection hk'
     have:=(Array.getElem?_eq_some_iff.1 hg1).1
     omega
   have HOY:=Hh hoy;clear hoy;generalize wr.heap.size=yb at hYb HOY⊢;clear hO hBr hCr hQr hEr hEb;generalize wr.alloc (.cells (blCells b (.slice dA b.disks.length dc)) 89)=W2 at *;have d0:=hYb.cell 0;have d1:=hYb.cell 1;have d2:=hYb.cell 2;have d3:=hYb.cell 3;have d4:=hYb.cell 4;have d5:=hYb.cell 5;have d6:=hYb.cell 6;have d7:=hYb.cell 7;have d8:=hYb.cell 8;have d9:=hYb.cell 9;have d10:=hYb.cell 10;have d11:=hYb.cell 11;have d12:=hYb.cell 12;simp at d0 d1 d2 d3 d4 d5 d6 d7 d8 d9 d10 d11 d12;have qx:=hQy.cell 0;simp at qx;have hks:2 * DV.length≤2000000:=by omega
   have hxid:xr.1.id=x.id:=by rw[HXR.out]
   have HXID:=Hh hxid;have hsz:=XB.out;clear hxid
   have app:Hid (∀(W3:World) (O3:List (Bl×Value)) (q:Bl×Value) (qA:Option Addr) (qc:Nat),q.2=.slice qA q.1.disks.length qc→∀(oA oc) (v1:Value) (w3:World),W3.ownsRow (xb+3) 89 13 (.slice oA O3.length oc) O3.length ((O3.map qZY).flatten)→At W3 xb 35 X→At W3 (xb+1) 89 (blCells x (.slice xA x.disks.length xc))→At W3 (xb+1+1) 35 ZC→(∃yb,yb<xb+3+0∨True)→Ext w W3 →
    w3.ownsRow (xb+3) 89 13 v1 (O3.length+1) ((O3.map qZY).flatten++(blCells q.1 q.2).toList)→Chg (fun k=>some k=(Value.slice oA O3.length oc).ownBlock) W3 w3 →
    w3.ownsRow (xb+3) 89 13 v1 (O3++[q]).length (((O3++[q]).map qZY).flatten)∧At w3 xb 35 X∧At w3 (xb+1) 89 (blCells x (.slice xA x.disks.length xc))∧At w3 (xb+1+1) 35 ZC∧Ext w w3):=Hh (fun W3 O3 q qA qc _ oA oc v1 w3 h1 h2 h3 h4 _ h5 h6 h7=>by
    refine⟨?_,h2.chg h7 (fun e=>qQf h1 h2 (by decide) _ e rfl),h3.chg h7 (fun e=>?_),h4.chg h7 (fun e=>qQf h1 h4 (by decide) _ e rfl),Chg.own_ext h5 h7 h1 (by omega)⟩
    ·rw[List.length_append,List.map_append,List.flatten_append];simpa[qZY]using h6
    ·rcases h1.2 with⟨e1,_⟩|⟨g,cap,cur,e1,hb1,_⟩
     ·rw[e1]at e;cases e
     ·rw[e1]at e;have e2:xb+1=g:=by injection e
      omega)
   by_cases hx:b.id=x.id
   ·have e:rst xr (O,d) (b,.slice dA b.disks.length dc)=(O,d):=by
     unfold rst;rw[if_pos (by rw[HXID.out];exact hx)]
    have HN:Hid ((DV.take (k+1)).foldl (rst xr) ([],false)=(O,d)):=Hh (HST.out.trans e);have hxt:((b.id:Int) == (x.id:Int))=true:=by rw[beq_iff_eq];omega
    clear e hYb HST;go_wp2_with fail
    go_roundw
    case rel=>exact⟨k+1,O,d,by go_num,rfl,by omega,by omega,HN,hOy,hBy,hQy,hCy,hEy⟩
    case measure=>simp[intOf];omega
   ·cases d
    ·by_cases hlt2:x.id<b.id
     ·have e:rst xr (O,false) (b,.slice dA b.disks.length dc)=(O++[xr,(b,.slice dA b.disks.length dc)],true):=by
       unfold rst;rw[if_neg (by rw[HXID.out];exact hx),if_pos (by simp[HXID.out];exact hlt2)]
      have HN:Hid ((DV.take (k+1)).foldl (rst xr) ([],false)=(O++[xr,(b,.slice dA b.disks.length dc)],true)):=Hh (HST.out.trans e);clear e HST;have x0:=hQy.cell 0;have x1:=hQy.cell 1;have x2:=hQy.cell 2;have x3:=hQy.cell 3;have x4:=hQy.cell 4;have x5:=hQy.cell 5;have x6:=hQy.cell 6;have x7:=hQy.cell 7;have x8:=hQy.cell 8;have x9:=hQy.cell 9;have x10:=hQy.cell 10;have x11:=hQy.cell 11;have x12:=hQy.cell 12;simp at x0 x1 x2 x3 x4 x5 x6 x7 x8 x9 x10 x11 x12
      go_wp2_with (at_builtin;refine qQp _ hOy 30 underlying30 qJj rfl rfl (by decide) (by decide) rfl (by omega) (by have:=hCy.lt;omega) rfl _ _ rfl rfl rfl ?_)
      intro v1 w3 hO3 hC3;obtain⟨k1,k2,k3,k4,k5⟩:=app.out W2 O (x,.slice xA x.disks.length xc) xA xc rfl oA oc v1 w3 hOy hBy hQy hCy ⟨0,.inr trivial⟩ hEy hO3 hC3;have hY3:=hYb.chg hC3 (fun e=>HOY.out _ e rfl);clear hO3 hC3 hOy hBy hQy hCy hEy d0 d1 d2 d3 d4 d5 d6 d7 d8 d9 d10 d11 d12 x0 x1 x2 x3 x4 x5 x6 x7 x8 x9 x10 x11 x12 qx hYb;obtain⟨vA,vc,rfl⟩:=qQa k1;have y0:=hY3.cell 0;have y1:=hY3.cell 1;have y2:=hY3.cell 2;have y3:=hY3.cell 3;have y4:=hY3.cell 4;have y5:=hY3.cell 5;have y6:=hY3.cell 6;have y7:=hY3.cell 7;have y8:=hY3.cell 8;have y9:=hY3.cell 9;have y10:=hY3.cell 10;have y11:=hY3.cell 11;have y12:=hY3.cell 12;simp at y0 y1 y2 y3 y4 y5 y6 y7 y8 y9 y10 y11 y12;clear hY3
      go_wp2_with (at_builtin;refine qQp _ k1 30 underlying30 qJj rfl rfl (by decide) (by decide) rfl (by simp;omega) (by have:=k4.lt;omega) rfl _ _ rfl rfl rfl ?_)
      intro v2 w4 hO4 hC4;obtain⟨m1,m2,m3,m4,m5⟩:=app.out w3 (O++[(x,.slice xA x.disks.length xc)]) (b,.slice dA b.disks.length dc) dA dc rfl vA vc v2 w4 k1 k2 k3 k4 ⟨0,.inr trivial⟩ k5 (by simpa using hO4) (by simpa using hC4);clear hO4 hC4 k1 k2 k3 k4 k5 y0 y1 y2 y3 y4 y5 y6 y7 y8 y9 y10 y11 y12;obtain⟨uA,uc,rfl⟩:=qQa m1;rw[←HXR.out]at m1;go_wp2_with fail
      go_roundw
      case rel=>exact⟨k+1,O++[xr,(b,.slice dA b.disks.length dc)],true,by go_num,rfl,by omega,by simp;omega,HN,by simpa using m1,m2,m3,m4,m5⟩
      case measure=>simp[intOf];omega
     ·have e:rst xr (O,false) (b,.slice dA b.disks.length dc)=(O++[(b,.slice dA b.disks.length dc)],false):=by
       unfold rst;rw[if_neg (by rw[HXID.out];exact hx),if_neg (by simp[HXID.out];try omega)]
      have HN:Hid ((DV.take (k+1)).foldl (rst xr) ([],false)=(O++[(b,.slice dA b.disks.length dc)],false)):=Hh (HST.out.trans e);clear e hYb HST
      go_wp2_with (at_builtin;refine qQp _ hOy 30 underlying30 qJj rfl rfl (by decide) (by decide) rfl (by omega) (by have:=hCy.lt;omega) rfl _ _ rfl rfl rfl ?_)
      intro v1 w3 hO3 hC3;obtain⟨k1,k2,k3,k4,k5⟩:=app.out W2 O (b,.slice dA b.disks.length dc) dA dc rfl oA oc v1 w3 hOy hBy hQy hCy ⟨0,.inr trivial⟩ hEy hO3 hC3;clear hO3 hC3 hOy hBy hQy hCy hEy d0 d1 d2 d3 d4 d5 d6 d7 d8 d9 d10 d11 d12 qx;obtain⟨vA,vc,rfl⟩:=qQa k1;go_wp2_with fail
      go_roundw
      case rel=>exact⟨k+1,_,false,by go_num,rfl,by omega,by simp;omega,HN,k1,k2,k3,k4,k5⟩
      case measure=>simp[intOf];omega
    ·have e:rst xr (O,true) (b,.slice dA b.disks.length dc)=(O++[(b,.slice dA b.disks.length dc)],true):=by
      unfold rst;rw[if_neg (by rw[HXID.out];exact hx),if_neg (by simp[HXID.out];try omega)]
     have HN:Hid ((DV.take (k+1)).foldl (rst xr) ([],false)=(O++[(b,.slice dA b.disks.length dc)],true)):=Hh (HST.out.trans e);clear e hYb HST
     go_wp2_with (at_builtin;refine qQp _ hOy 30 underlying30 qJj rfl rfl (by decide) (by decide) rfl (by omega) (by have:=hCy.lt;omega) rfl _ _ rfl rfl rfl ?_)
     intro v1 w3 hO3 hC3;obtain⟨k1,k2,k3,k4,k5⟩:=app.out W2 O (b,.slice dA b.disks.length dc) dA dc rfl oA oc v1 w3 hOy hBy hQy hCy ⟨0,.inr trivial⟩ hEy hO3 hC3;clear hO3 hC3 hOy hBy hQy hCy hEy d0 d1 d2 d3 d4 d5 d6 d7 d8 d9 d10 d11 d12 qx;obtain⟨vA,vc,rfl⟩:=qQa k1;go_wp2_with fail
     go_roundw
     case rel=>exact⟨k+1,_,true,by go_num,rfl,by omega,by simp;omega,HN,k1,k2,k3,k4,k5⟩
     case measure=>simp[intOf];omega
  ·obtain rfl:k=DV.length:=by omega
   have hfd:=HFD.out;rw[List.take_length]at hfd
   have HR0:Hid ((rfin xr (O,d)).map (·.1)=(P.set x).L):=Hh (by
    rw[←hfd,rst_pset HDV.out HA.out xr,HXR.out];rfl)
   have HS0:Hid (∀p∈rfin xr (O,d),p∈DV∨p=xr):=Hh (fun p hp=>by
    rw[←hfd]at hp;rcases rst_mem xr DV _ p hp with h|h
    ·cases h
    ·exact h)
   have hks:2 * DV.length≤2000000:=by omega
   clear hfd HFD;have c0:=hBr.cell 0;have f0:=hBr.frozen 0;rw[HX0.out]at c0;cases d
   ·have HD:Hid ((O++[xr]).map (·.1)=(P.set x).L):=HR0;have HSUB:Hid (∀p∈O++[xr],p∈DV∨p=xr):=HS0;clear HR0 HS0;have x0:=hQr.cell 0;have x1:=hQr.cell 1;have x2:=hQr.cell 2;have x3:=hQr.cell 3;have x4:=hQr.cell 4;have x5:=hQr.cell 5;have x6:=hQr.cell 6;have x7:=hQr.cell 7;have x8:=hQr.cell 8;have x9:=hQr.cell 9;have x10:=hQr.cell 10;have x11:=hQr.cell 11;have x12:=hQr.cell 12;simp at x0 x1 x2 x3 x4 x5 x6 x7 x8 x9 x10 x11 x12
    go_wp2_with (at_builtin;refine qQp _ hO 30 underlying30 qJj rfl rfl (by decide) (by decide) rfl (by omega) (by have:=hCr.lt;omega) rfl _ _ rfl rfl rfl ?_)
    intro v1 w3 hO3 hC3;have hE3:Ext w w3:=Chg.own_ext hEr hC3 hO (by have:=XB.out;omega);have hB3:=hBr.chg hC3 (fun e=>qQf hO hBr (by decide) _ e rfl);have hC3':=hCr.chg hC3 (fun e=>qQf hO hCr (by decide) _ e rfl)
    have hO4:w3.ownsRow (xb+3) 89 13 v1 (O++[xr]).length (((O++[xr]).map qZY).flatten):=by
     rw[HXR.out,List.length_append,List.map_append,List.flatten_append];simpa[qZY]using hO3
    clear hO3 hC3 hO hBr hCr hEr hQr c0 f0 x0 x1 x2 x3 x4 x5 x6 x7 x8 x9 x10 x11 x12;generalize O++[xr]=RR at hO4 HD HSUB;obtain⟨oA,oc,rfl⟩:=qQa hO4;have hBr:=hB3;have hCr:=hC3';have hEr:=hE3;have hO:=hO4;clear hB3 hC3' hE3 hO4;have c0:=hBr.cell 0;have f0:=hBr.frozen 0;rw[HX0.out]at c0
    go_upto_region 15 with fail
    have hB2:=hBr.set 0 (.slice oA RR.length oc);rw[HSET.out]at hB2;have hCb:xb+1+1≠xb:=by omega
    have hC2:=hCr.far (p:=⟨xb,0,none⟩) hCb (.slice oA RR.length oc);have hO2:=qQb hO ((Chg.refl (· = xb) w3).setCell (p:=⟨xb,0,none⟩) (.inl rfl) (.slice oA RR.length oc)) (fun k hk e=>qQf hO hBr (by decide) k hk e);have hE2:Ext w (w3.setCell ⟨xb,0,none⟩ (.slice oA RR.length oc)):=Chg.setCell (p:=⟨xb,0,none⟩) hEr (.inr (by have:=XB.out;omega)) _;clear hBr hCr hO hEr c0 f0;generalize w3.setCell _ _=W2 at hB2 hC2 hO2 hE2⊢;have h37:=qQt (.slice oA RR.length oc) hV;have HX2:Hid (qQj (.slice oA RR.length oc) (P.set x).vols=qQj (.slice oA RR.length oc) P.vols):=Hh rfl;have hone:=qQA oA RR.length oc P.vols;generalize qQj (.slice oA RR.length oc) P.vols=X2 at hB2 h37 HX2 hone⊢;have HRG:=Hh hB2.range;have HI1:Hid ((prog.info? 35).map (·.size)=some X2.toList.length):=Hh (by rw[Array.length_toList,h37];exact qQg);have HI2:Hid ((prog.info? 35).map (·.size)=some X2.size):=Hh (by rw[h37];exact qQg);have HTH:Hid (W2.there (xb+1+1) 0 X2.size):=Hh (by rw[h37];have h:=hC2.there;rw[HZ.out]at h;exact h);have HONE:=Hh hone
    have HF:Hid (qQZ (W2.setCells (xb+1+1) 0 X2.toList) (.agg X2) (P.set x)∧Ext w (W2.setCells (xb+1+1) 0 X2.toList)):=Hh (by
     have hE3:Ext W2 W2:=Er _;have hEF:Ext w (W2.setCells (xb+1+1) 0 X2.toList):=hE2.setCells (by have:=XB.out;omega) _ _;have hCF:Chg (· = xb+1+1) W2 (W2.setCells (xb+1+1) 0 X2.toList):=qQq _ _;have hOF:=qQb hO2 hCF (fun k hk e=>qQf hO2 hC2 (by decide) k hk e);exact⟨⟨_,RR,by rw[←HX2.out],HD.out,rf_out HR.out hEF (fun p hp=>(HSUB.out p hp).elim .inl (fun e=>.inr (by rw[e,HXR.out];exact own_kx HX9.out hEF))) hOF rfl⟩,hEF⟩)
    have hload:(loadVar 35 ⟨xb+1+1,0,none⟩).run prog (W2.setCells (xb+1+1) 0 X2.toList)=.ok (.agg X2) (W2.setCells (xb+1+1) 0 X2.toList):=by
     have:=run_loadVar_mid (P:=prog) (W2.setCells (xb+1+1) 0 X2.toList) (xb+1+1) 0 35 X2.toList _ (World.rangeAt_setCells_same W2 (xb+1+1) 0 X2.toList (by rw[Array.length_toList];exact HTH.out)) underlying35 rfl HI1.out
     exact this
    have HLD:=Hh hload;clear hB2 hC2 hO2 hE2 h37 hone hload
    go_wp2_with (first|(refine wpList_load_mid rfl 35 _ rfl xb 0 rfl _ _ HRG.out underlying35 rfl HI1.out ?_)|(refine wpList_store_mid rfl 35 _ _ rfl (xb+1+1) 0 X2 rfl rfl HTH.out HI2.out HONE.out ?_))
    have hld:=HLD.out;refine bodyPost_ret (v:=.agg X2) (qXS results84 _ rfl hld) rfl ?_;exact⟨_,rfl,HF.out.1,HF.out.2⟩
   ·have HD:Hid (O.map (·.1)=(P.set x).L):=HR0;have HSUB:Hid (∀p∈O,p∈DV∨p=xr):=HS0;clear HR0 HS0 hQr
    go_upto_region 15 with fail
    have hB2:=hBr.set 0 (.slice oA O.length oc);rw[HSET.out]at hB2;have hCb:xb+1+1≠xb:=by omega
    have hC2:=hCr.far (p:=⟨xb,0,none⟩) hCb (.slice oA O.length oc);have hO2:=qQb hO ((Chg.refl (· = xb) wr).setCell (p:=⟨xb,0,none⟩) (.inl rfl) (.slice oA O.length oc)) (fun k hk e=>qQf hO hBr (by decide) k hk e);have hE2:Ext w (wr.setCell ⟨xb,0,none⟩ (.slice oA O.length oc)):=Chg.setCell (p:=⟨xb,0,none⟩) hEr (.inr (by have:=XB.out;omega)) _;clear hBr hCr hO hEr c0 f0;generalize wr.setCell _ _=W2 at hB2 hC2 hO2 hE2⊢;have h37:=qQt (.slice oA O.length oc) hV;have HX2:Hid (qQj (.slice oA O.length oc) (P.set x).vols=qQj (.slice oA O.length oc) P.vols):=Hh rfl;have hone:=qQA oA O.length oc P.vols;generalize qQj (.slice oA O.length oc) P.vols=X2 at hB2 h37 HX2 hone⊢;have HRG:=Hh hB2.range;have HI1:Hid ((prog.info? 35).map (·.size)=some X2.toList.length):=Hh (by rw[Array.length_toList,h37];exact qQg);have HI2:Hid ((prog.info? 35).map (·.size)=some X2.size):=Hh (by rw[h37];exact qQg);have HTH:Hid (W2.there (xb+1+1) 0 X2.size):=Hh (by rw[h37];have h:=hC2.there;rw[HZ.out]at h;exact h);have HONE:=Hh hone
    have HF:Hid (qQZ (W2.setCells (xb+1+1) 0 X2.toList) (.agg X2) (P.set x)∧Ext w (W2.setCells (xb+1+1) 0 X2.toList)):=Hh (by
     have hE3:Ext W2 W2:=Er _;have hEF:Ext w (W2.setCells (xb+1+1) 0 X2.toList):=hE2.setCells (by have:=XB.out;omega) _ _;have hCF:Chg (· = xb+1+1) W2 (W2.setCells (xb+1+1) 0 X2.toList):=qQq _ _;have hOF:=qQb hO2 hCF (fun k hk e=>qQf hO2 hC2 (by decide) k hk e);exact⟨⟨_,O,by rw[←HX2.out],HD.out,rf_out HR.out hEF (fun p hp=>(HSUB.out p hp).elim .inl (fun e=>.inr (by rw[e,HXR.out];exact own_kx HX9.out hEF))) hOF rfl⟩,hEF⟩)
    have hload:(loadVar 35 ⟨xb+1+1,0,none⟩).run prog (W2.setCells (xb+1+1) 0 X2.toList)=.ok (.agg X2) (W2.setCells (xb+1+1) 0 X2.toList):=by
     have:=run_loadVar_mid (P:=prog) (W2.setCells (xb+1+1) 0 X2.toList) (xb+1+1) 0 35 X2.toList _ (World.rangeAt_setCells_same W2 (xb+1+1) 0 X2.toList (by rw[Array.length_toList];exact HTH.out)) underlying35 rfl HI1.out
     exact this
    have HLD:=Hh hload;clear hB2 hC2 hO2 hE2 h37 hone hload
    go_wp2_with (first|(refine wpList_load_mid rfl 35 _ rfl xb 0 rfl _ _ HRG.out underlying35 rfl HI1.out ?_)|(refine wpList_store_mid rfl 35 _ _ rfl (xb+1+1) 0 X2 rfl rfl HTH.out HI2.out HONE.out ?_))
    have hld:=HLD.out;refine bodyPost_ret (v:=.agg X2) (qXS results84 _ rfl hld) rfl ?_;exact⟨_,rfl,HF.out.1,HF.out.2⟩
end Go.Proofs.YtiojjokfeknhcaaGreat
