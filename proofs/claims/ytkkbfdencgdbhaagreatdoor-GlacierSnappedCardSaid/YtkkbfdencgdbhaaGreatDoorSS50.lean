/-
  Part 50 of what the law leans on.
-/
import Derived.Test.YtkkbfdencgdbhaaGreatDoorSS5
import Derived.Test.YtkkbfdencgdbhaaGreatDoorSS9
import Derived.Test.YtkkbfdencgdbhaaGreatDoorSS49
set_option linter.unusedVariables false
set_option linter.unusedSimpArgs false
set_option linter.unusedSectionVars false
namespace Go.Proofs.YtkkbfdencgdbhaaGreatDoor
open Go.RowKit
def tupI:Value→Nat→Value
 | .tuple xs,i=>xs.getD i undef
 | _,_=>undef
inductive Sv
 | v (x:Value)
 | f (g:Value→Value)
 | any
def Sv.is:Sv→Value→Value→Prop
 | .v x,_,y=>y=x
 | .f g, γ,y=>y=g γ
 | .any,_,_=>True
def Sv.isF:Sv→Bool
 | .f _=>true
 | _=>false
def svφ(sp:List Sv)(γ : Value)(d:Nat)(y:Value)(_w:World):Prop:=(sp.getD d .any).is γ y
def svDep(ops:Array Oper)(F:List Bool)(jc:Nat):Bool:=(List.range ops.size).all fun d=>d == jc || !(F.getD d false)||(List.range d).any (fun e=>needs ops d e&&(e == jc||F.getD e false))
theorem svDep_down{ops:Array Oper}{F:List Bool}{jc:Nat}(h:svDep ops F jc=true){L:Nat→Bool}(hdown:∀i d,L i=true→needs ops i d=true→L d=true):∀d,F.getD d false=true→d<ops.size→L d=true→L jc=true:=by
 intro d
 induction d using Nat.strongRecOn with
 | _ d ih =>
  intro hF hd hL
  have h1:=List.all_eq_true.1 h d (List.mem_range.2 hd)
  rw[hF]at h1
  by_cases e:d=jc
  ·rw[←e];exact hL
  ·simp only[beq_iff_eq,e,Bool.not_true,Bool.or_false,Bool.or_eq_true,false_or]at h1
   obtain⟨x,hx,hq⟩:=List.any_eq_true.1 h1
   rw[Bool.and_eq_true,Bool.or_eq_true]at hq
   have hLx:=hdown d x hL hq.1
   rcases hq.2 with hq2|hq2
   ·have:x=jc:=by simpa using hq2
    rw[←this];exact hLx
   ·exact ih x (List.mem_range.1 hx) hq2 (by have:=List.mem_range.1 hx;omega) hLx
section
variable{P:Program}{ops:Array Oper}{Q:Exit→Act→World→Prop}{a0:Act}{sp:List Sv}{W:World}{jc:Nat}{Post:Value→World→Prop}{j:Nat}{o:Oper}
theorem dstOf_lt{d:Nat}{t:Tmp}(hd:dstOf ops d=some t):d<ops.size:=by
 rcases Nat.lt_or_ge d ops.size with h|h
 ·exact h
 ·unfold dstOf at hd;rw[Array.getElem?_eq_none h]at hd;cases hd
variable(hdep:svDep ops (sp.map Sv.isF) jc=true)(hP:∀γ w w',Post γ w→Ext w w'→Post γ w')
include hdep hP
end
end Go.Proofs.YtkkbfdencgdbhaaGreatDoor
namespace Go.Proofs.YtkkbfdencgdbhaaGreatDoor
open Go.RowKit
def upwB(ops:Array Oper)(jc:Nat):Nat→Nat→Bool
 | 0,_=>false
 | f+1,j=>needs ops jc j||(List.range ops.size).any fun k=>needs ops k j&&upwB ops jc f k
theorem upwB_up{ops:Array Oper}{jc:Nat}{L:Nat→Bool}(hdown:∀i d,L i=true→needs ops i d=true→L d=true)(hL:L jc=true):∀f j,upwB ops jc f j=true→L j=true
 | 0,_,h=>by cases h
 | f+1,j,h=>by
  unfold upwB at h
  rw[Bool.or_eq_true]at h
  rcases h with h|h
  ·exact hdown jc j hL h
  ·obtain⟨k,_,hk⟩:=List.any_eq_true.1 h
   rw[Bool.and_eq_true]at hk
   exact hdown k j (upwB_up hdown hL f k hk.2) hk.1
def swG(W:World)(jc:Nat)(Post:Value→World→Prop)(γ : Value)(L:Nat→Bool)(w:World):Prop:=(L jc=false→w=W)∧(L jc=true→Post γ w)
section
variable{P:Program}{ops:Array Oper}{Q:Exit→Act→World→Prop}{a0:Act}{sp:List Sv}{W:World}{jc:Nat}{Post:Value→World→Prop}{j:Nat}{o:Oper}
structure SwIn (ops:Array Oper) (a0:Act) (sp:List Sv) (W:World) (jc:Nat) (Post:Value→World→Prop) (j:Nat) (γ : Value) (a:Act) (w:World):Prop where
 same:(j == jc||upwB ops jc 30 j)=true→w=W
 post:(sp.map Sv.isF).getD j false=true→j≠jc→Post γ w
 v:∀d t x,dstOf ops d=some t→needs ops j d=true→sp.getD d .any=.v x→a.tmps.getD t undef=x
 f:∀d t g,dstOf ops d=some t→needs ops j d=true→sp.getD d .any=.f g→a.tmps.getD t undef=g γ
 far:∀t,((List.range ops.size).all fun d=>dstOf ops d != some t)=true→a.tmps.getD t undef=a0.tmps.getD t undef
 late:∀t,((List.range ops.size).all fun d=>dstOf ops d != some t||d == j||needs ops d j)=true→a.tmps.getD t undef=a0.tmps.getD t undef
theorem SwIn.mk'(hdep:svDep ops (sp.map Sv.isF) jc=true)(hj:j<ops.size){γ : Value}{L:Nat→Bool}{v:Nat→Value}{a:Act}{w:World}(hdown:∀i d,L i=true→needs ops i d=true→L d=true)(hLj:L j=false)(hneed:∀d,needs ops j d=true→L d=true)(hG:swG W jc Post γ L w)(hφ : ∀d,L d=true→svφ sp γ d (v d) w)
 (hval:∀d t,dstOf ops d=some t→L d=true→a.tmps.getD t undef=v d) (h0:∀t,(∀d,L d=true→dstOf ops d≠some t)→a.tmps.getD t undef=a0.tmps.getD t undef):SwIn ops a0 sp W jc Post j γ a w:=by
 refine⟨fun hs=>hG.1 ?_,fun hF hne=>?_,fun d t x hd hn hs=>?_,fun d t g hd hn hs=>?_,fun t ht=>h0 t fun d _ hd=>?_,fun t ht=>h0 t fun d hLd hd=>?_⟩
 ·rw[Bool.or_eq_true]at hs
  rcases hs with hs|hs
  ·have:j=jc:=by simpa using hs
   rw[←this];exact hLj
  ·by_cases hL:L jc=true
   ·rw[upwB_up hdown hL _ _ hs]at hLj;cases hLj
   ·simpa using hL
 ·have h1:=List.all_eq_true.1 hdep j (List.mem_range.2 hj)
  rw[hF]at h1
  simp only[show(j == jc)=false by simpa using hne,Bool.not_true,Bool.or_false,Bool.false_or]at h1
  obtain⟨x,hx,hq⟩:=List.any_eq_true.1 h1
  rw[Bool.and_eq_true,Bool.or_eq_true]at hq
  have hLx:=hneed x hq.1
  refine hG.2 ?_
  rcases hq.2 with hq2|hq2
  ·have:x=jc:=by simpa using hq2
   rw[←this];exact hLx
  ·exact svDep_down hdep hdown x hq2 (by have:=List.mem_range.1 hx;omega) hLx
 ·have h1:=hφ d (hneed d hn)
  unfold svφ at h1
  rw[hs]at h1
  exact(hval d t hd (hneed d hn)).trans h1
 ·have h1:=hφ d (hneed d hn)
  unfold svφ at h1
  rw[hs]at h1
  exact(hval d t hd (hneed d hn)).trans h1
 ·have:=List.all_eq_true.1 ht d (List.mem_range.2 (dstOf_lt hd))
  rw[hd]at this
  simp at this
 ·have:=List.all_eq_true.1 ht d (List.mem_range.2 (dstOf_lt hd))
  rw[hd]at this
  simp at this
  rcases this with rfl|this
  ·rw[hLj]at hLd;cases hLd
  ·rw[hdown d j hLd this]at hLj;cases hLj
variable(hdep:svDep ops (sp.map Sv.isF) jc=true)
include hdep
theorem sw_step{y:Value→Value}(ho:ops[j]? = some o)(hg:o.guard=none)(hne:j≠jc)(hs:∀γ,(sp.getD j .any).is γ (y γ))
 (h:∀γ a w,SwIn ops a0 sp W jc Post j γ a w→(execOp a.eval o).run P w=.ok (.value (y γ)) w):StepAt P ops Q a0 (svφ sp) (swG W jc Post) j:=by
 intro γ L v a w hdown hLj hneed hGw hφ hval h0
 have hj:j<ops.size:=(Array.getElem?_eq_some_iff.1 ho).1
 refine wpOp_value ho hg (h γ a w (SwIn.mk' hdep hj hdown hLj hneed hGw hφ hval h0)) ⟨y γ, γ,rfl,hs γ,fun d _ _ hh=>hh,fun hL=>hGw.1 ?_,fun hL=>hGw.2 ?_⟩
 ·simpa[Ne.symm hne]using hL
 ·simpa[Ne.symm hne]using hL
theorem sw_val{x:Value}(ho:ops[j]? = some o)(hg:o.guard=none)(hne:j≠jc)(hs:sp.getD j .any=.v x)
 (h:∀γ a w,SwIn ops a0 sp W jc Post j γ a w→(execOp a.eval o).run P w=.ok (.value x) w):StepAt P ops Q a0 (svφ sp) (swG W jc Post) j :=
 sw_step hdep (y:=fun _=>x) ho hg hne (fun γ => by rw[hs];exact rfl) h
theorem sw_fun{g:Value→Value}(ho:ops[j]? = some o)(hg:o.guard=none)(hne:j≠jc)(hs:sp.getD j .any=.f g)
 (h:∀γ a w,SwIn ops a0 sp W jc Post j γ a w→Post γ w→(execOp a.eval o).run P w=.ok (.value (g γ)) w):StepAt P ops Q a0 (svφ sp) (swG W jc Post) j :=
 sw_step hdep (y:=g) ho hg hne (fun γ => by rw[hs];exact rfl) fun γ a w st=>h γ a w st (st.post (by
  have hj:j<sp.length:=by
   rcases Nat.lt_or_ge j sp.length with h|h
   ·exact h
   ·rw[List.getD_eq_getElem?_getD,List.getElem?_eq_none h]at hs;cases hs
  rw[List.getD_eq_getElem?_getD,List.getElem?_eq_getElem hj]at hs
  rw[List.getD_eq_getElem?_getD,List.getElem?_map,List.getElem?_eq_getElem hj]
  simp only[Option.getD_some]at hs
  simp[hs,Sv.isF]) hne)
theorem sw_call{f:FuncId}(hlen:sp.length≤ops.size)(ho:ops[jc]? = some o)(hg:o.guard=none)(hs:sp.getD jc .any=.f id)
 (h:∀γ a,SwIn ops a0 sp W jc Post jc γ a W→∃args,(execOp a.eval o).run P W=.ok (.enter f args) W∧Calls P f args W fun r w'=>∃x,r=.returned x∧Post x w'):StepAt P ops Q a0 (svφ sp) (swG W jc Post) jc:=by
 intro γ L v a w hdown hLj hneed hGw hφ hval h0
 have hj:jc<ops.size:=(Array.getElem?_eq_some_iff.1 ho).1
 have hin:=SwIn.mk' hdep hj hdown hLj hneed hGw hφ hval h0
 have hw:=hin.same (by simp)
 subst hw
 obtain⟨args,hrun,hcall⟩:=h γ a hin
 refine wpOp_calls ho hg hrun (hcall.mono ?_)
 rintro r w' ⟨x,rfl,hp⟩
 refine⟨x,rfl,x,x,rfl,?_,fun d hd hL hh=>?_,fun hL=>?_,fun _=>hp⟩
 ·unfold svφ
  rw[hs]
  exact rfl
 ·unfold svφ at hh⊢
  cases hsd:sp.getD d .any with
  | v y=>rw[hsd]at hh;exact hh
  | any=>trivial
  | f g =>
   exfalso
   have hdl:d<sp.length:=by
    rcases Nat.lt_or_ge d sp.length with h|h
    ·exact h
    ·rw[List.getD_eq_getElem?_getD,List.getElem?_eq_none h]at hsd;cases hsd
   have hF:(sp.map Sv.isF).getD d false=true:=by
    rw[List.getD_eq_getElem?_getD,List.getElem?_eq_getElem hdl]at hsd
    rw[List.getD_eq_getElem?_getD,List.getElem?_map,List.getElem?_eq_getElem hdl]
    simp only[Option.getD_some]at hsd
    simp[hsd,Sv.isF]
   rw[svDep_down hdep hdown d hF (Nat.lt_of_lt_of_le hdl hlen) hL]at hLj;cases hLj
 ·simp at hL
omit hdep in
theorem wp_region_callw{id:Nat}{w:World}(hm:P.follows .mixedOrders=true)(hback:backB ops=true)(hd:dstB ops a0.tmps.size=true)(steps:StepsTo P ops Q a0 (svφ sp) (swG w.drew jc Post) ops.size)(hj:jc<ops.size)
 (fin:∀γ v w',Post γ w'→(∀d,d<ops.size→(sp.getD d .any).is γ (v d))→Q .normal (putAll ops v a0 ops.size) w'):(Code.region id ops true).wp P Q a0 w :=
 wp_region_phi (Γ := Value) (svφ sp) (swG w.drew jc Post) hm hback hd undef ⟨fun _=>rfl,fun h=>by cases h⟩ steps fun γ L v w' hall hG hφ => fin γ v w' (hG.2 (hall jc hj)) hφ
end
end Go.Proofs.YtkkbfdencgdbhaaGreatDoor
namespace Go.Proofs.YtkkbfdencgdbhaaGreatDoor
open Go.RowKit Go.Sort
section
variable{w:World}{Q:Qa}{K:Ka}{N:Nd}(h:NetUp w Q K N)
include h
set_option maxRecDepth 100000 in
theorem qcompact_any(N':Nd)(s:ByteArray)(hct:Calls Tryz.prog 49 #[.pointer (some ⟨K.r,0,none⟩),.string s] w fun e w'=>e=.returned (.int .i64 0)∧NdTo K w w' N'∧Chg K.core w w')(ho:N'.out=[]) :
 Calls Tryz.prog 16 #[.pointer (some ⟨Q.q,0,none⟩),.int .i64 0,.string s] w fun e w'=>e=.returned (.int .i64 0)∧NetTo Q K w w' N'∧Chg K.core w w':=by
 have cn:=qnode_any h.net
 have HH:=Lib.hid h
 clear h
 go_enter Tryz.func16,Tryz.ntmps16
 go_wp2_with fail
 refine cn.mono ?_
 rintro e w1 ⟨rfl,rfl⟩
 go_wp2_with fail
 refine hct.mono ?_
 rintro e w2 ⟨rfl,hT,hCo⟩
 obtain⟨K2,r1,r2,r3,hU,hC,hKK⟩:=NetUp.of_node HH.out hT
 have ca:=qafter_any hU ho
 have HC:=Lib.hid hC
 have HK:=Lib.hid hKK
 have HCO:=Lib.hid hCo
 clear hU hC hKK hT hCo
 go_wp2_with fail
 refine ca.mono ?_
 rintro e w3 ⟨rfl,hT3,hR3⟩
 go_wp2_with fail
 go_ret
 rw[r1]at hR3
 refine⟨rfl,?_,HCO.out.trans hR3 (fun k _ e=>.inl e)⟩
 obtain⟨K3,s1,s2,s3,hA3,hC3,hK3⟩:=hT3
 refine⟨K3,s1.trans r1,s2.trans r2,s3.trans r3,hA3,HC.out.trans hC3 fun k hk hs=>?_,fun k hk=>?_⟩
 ·rcases HK.out k hs with e|e
  ·exact e
  ·omega
 ·rcases hK3 k hk with e|e
  ·exact HK.out k e
  ·exact .inr (Nat.le_trans HC.out.size e)
set_option maxRecDepth 100000 in
theorem qcrash_any(hF:N.fs.tot≤900000):Calls Tryz.prog 17 #[.pointer (some ⟨Q.q,0,none⟩),.int .i64 0,.slice none 0 0] w fun e w'=>e=.returned (.int .i64 0)∧NetAt w' Q none K.d∧DkAt w' K.d K.m N.fs.dk∧Chg (fun k=>k=Q.nb∨k=K.d∨k=K.m) w w':=by
 have cn:=qnode_any h.net
 have c0:=h.net.nt.cell 0
 have c1:=h.net.nt.cell 1
 have n0:=h.net.ns.cell 0
 have f0:=h.net.ns.frozen 0
 have d0:=h.net.ds.cell 0
 simp at c0 c1 n0 d0
 have hlt:=h.net.ns.lt
 have hq:Q.q≠Q.nb:=h.net.nt.ne h.net.ns (by decide)
 have hd:Q.db≠Q.nb:=h.net.ds.ne h.net.ns (by decide)
 have e1:Q.q≠K.d:=h.net.nt.ne h.nd.dk.1 (by decide)
 have e2:Q.nb≠K.d:=h.net.ns.ne h.nd.dk.1 (by decide)
 have e3:Q.db≠K.d:=h.net.ds.ne h.nd.dk.1 (by decide)
 have e4:K.m≠Q.q:=h.nd.dk.2.ne_at h.net.nt
 have e5:K.m≠Q.nb:=h.nd.dk.2.ne_at h.net.ns
 have e6:K.m≠Q.db:=h.nd.dk.2.ne_at h.net.ds
 have hC1:Chg (fun k=>k=Q.nb) w (w.setCell ⟨Q.nb,0,none⟩ (.pointer none)):=(Chg.refl (fun k=>k=Q.nb) w).setCell (p:=⟨Q.nb,0,none⟩) (.inl rfl) _
 have hns:At (w.setCell ⟨Q.nb,0,none⟩ (.pointer none)) Q.nb 45 #[.pointer none]:=by simpa using h.net.ns.set 0 (.pointer none)
 have hN1:NetAt (w.setCell ⟨Q.nb,0,none⟩ (.pointer none)) Q none K.d:=⟨h.net.nt.chg hC1 hq,hns,h.net.ds.chg hC1 hd⟩
 have hD1:DkAt (w.setCell ⟨Q.nb,0,none⟩ (.pointer none)) K.d K.m N.fs.dk:=⟨h.nd.dk.1.chg hC1 e2.symm,h.nd.dk.2.chg hC1 e5⟩
 have cc:=crash_any _ K.d K.m N.fs.dk hD1 (N.fs.ok (by omega)) (fun n=>N.fs.small hF n) N.fs.files_len (.slice none 0 0) [] (Sl.nil _ _) (by simp) (by simp) (by intro b o n c hv;cases hv)
 rw[N.fs.crash]at cc
 have d1:=hN1.ds.cell 0
 have c2:=hN1.nt.cell 1
 simp at c2 d1
 have HC1:=Lib.hid hC1
 have HN1:=Lib.hid hN1
 clear h hN1 hD1 hns hC1
 go_enter Tryz.func17,Tryz.ntmps17
 go_wp2_with fail
 refine cn.mono ?_
 rintro e w1 ⟨rfl,rfl⟩
 go_wp2_with fail
 refine cc.mono ?_
 rintro e w2 ⟨rfl,hC2,hD2⟩
 go_wp2_with fail
 go_ret
 have hN:=HN1.out
 exact⟨rfl,⟨hN.nt.chg hC2 (by rintro(e|e);exact e1 e;exact e4 e.symm),hN.ns.chg hC2 (by rintro(e|e);exact e2 e;exact e5 e.symm),hN.ds.chg hC2 (by rintro(e|e);exact e3 e;exact e6 e.symm)⟩,hD2,(HC1.out.mono (fun k _ e=>.inl e)).trans hC2 (fun k _ e=>.inr e)⟩
end
set_option maxRecDepth 100000 in
theorem qfail_any(w:World)(d m:Nat)(D:Dk)(hD:DkAt w d m D)(ha:D.armed=0) :
 Calls Tryz.prog 51 #[.pointer (some ⟨d,2,none⟩),.int .i64 (-1)] w fun e w'=>e=.returned (.tuple #[])∧Chg (fun k=>k=d) w w'∧DkAt w' d m D:=by
 have c3:w.cell? ⟨d,3,none⟩=some (.int .i64 D.armed):=hD.1.cell 3
 have f3:w.frozen? ⟨d,3,none⟩=false:=hD.1.frozen 3
 have hd:=hD.chg_armed 0
 have e:({ D with armed:=0 } : Dk)=D:=by rw[←ha]
 rw[e]at hd
 go_enter Tryz.func51,Tryz.ntmps51
 go_wp2_with fail
 refine bodyPost_ret (results_none rfl _ _ _) rfl ?_
 exact⟨rfl,(Chg.refl (fun k=>k=d) w).setCell (p:=⟨d,3,none⟩) (.inl rfl) _,hd⟩
set_option maxRecDepth 100000 in
set_option maxHeartbeats 1000000 in
theorem qstart_any(w:World)(Q:Qa)(d m:Nat)(F:Fs)(S:Ts)(hA:NetAt w Q none d)(hD:DkAt w d m F.dk)(hF:F.tot≤4194304)(hS:fsSays F S)(hT:Tab w)(hTd:¬ 0=d) :
 Calls Tryz.prog 18 #[.pointer (some ⟨Q.q,0,none⟩),.int .i64 0] w fun e w'=>e=.returned (.int .i64 0)∧∃r,w.heap.size≤r∧NetUp w' Q (Ka.opened r d m) (Nd.opened 0 1 S F)∧Chg (fun k=>k=d∨k=Q.nb) w w':=by
 have ch:=qhas_any hA
 have b0:=hA.nt.cell 0
 have b1:=hA.nt.cell 1
 have n0:=hA.ns.cell 0
 have f0:=hA.ds.cell 0
 simp at b0 b1 n0 f0
 have cf:=qfail_any w d m F.dk hD rfl
 have e1:Q.q≠d:=hA.nt.ne hD.1 (by decide)
 have e2:Q.nb≠d:=hA.ns.ne hD.1 (by decide)
 have e3:Q.db≠d:=hA.ds.ne hD.1 (by decide)
 have HA:=Lib.hid hA
 clear hA
 go_enter Tryz.func18,Tryz.ntmps18
 go_wp2_with fail
 refine ch.mono ?_
 rintro e w1 ⟨rfl,rfl⟩
 go_wp2_with fail
 refine cf.mono ?_
 rintro e W ⟨rfl,hC1,hD1⟩
 have hA1:NetAt W Q none d:=HA.out.chg hC1 (by rintro k rfl (e|e|e);exact e1 e.symm;exact e2 e.symm;exact e3 e.symm)
 have c0:=hA1.nt.cell 0
 have c1:=hA1.nt.cell 1
 have d0:=hA1.ds.cell 0
 simp at c0 c1 d0
 have co:Calls Tryz.prog 52 #[.pointer (some ⟨d,0,none⟩),.int .i64 0,.int .i64 1] W.drew fun e w'=>∃r,e=.returned (.tuple #[.pointer (some ⟨r,0,none⟩),.int .i64 0])∧W.heap.size≤r∧NdAt w' (Ka.opened r d m) (Nd.opened 0 1 S F)∧Chg (fun k=>k=d) W w' :=
  (open_any W.drew d m F (hD1.ext ((Ext.refl W).drew)) hF S hS ((hT.chg hC1 hTd).ext ((Ext.refl W).drew)) hTd 0 1 (by decide) (by decide)).mono (by
    rintro e w' ⟨r,he,hr,hN,hC⟩
    exact⟨r,he,hr,hN,((Ext.refl W).drew).chg_trans hC⟩)
 have HA1:=Lib.hid hA1
 have HC1:=Lib.hid hC1
 clear hA1 hD1 hC1 hT hS HA hD
 go_wp2_with fail
 refine wp_region_callw (sp:=[.v (.pointer (some ⟨Q.q,0,none⟩)),.v (.pointer (some ⟨Q.q,0,none⟩)),.v (.pointer (some ⟨Q.q,1,none⟩)),.v (.slice (some ⟨Q.db,0,none⟩) 1 1),.v (.int .i64 0),.v (.pointer (some ⟨Q.db,0,none⟩)),.v (.pointer (some ⟨d,0,none⟩)),.v (.int .i64 0),.v (.pointer (some ⟨Q.q,0,none⟩)),.v (.pointer (some ⟨Q.q,0,none⟩)),.v (.pointer (some ⟨Q.q,0,none⟩)),.v (.slice (some ⟨Q.nb,0,none⟩) 1 1),.v (.int .i64 1),.f id,.f (id),.f (fun γ => tupI γ 0),.f (fun γ => tupI γ 1),.f (fun γ => tupI γ 0),.f (fun γ => tupI γ 1)]) (jc:=13) (Post:=fun γ w'=>∃r:Nat, γ=.tuple #[.pointer (some ⟨r,0,none⟩),.int .i64 0]∧W.heap.size≤r∧NdAt w' (Ka.opened r d m) (Nd.opened 0 1 S F)∧Chg (fun k=>k=d) W w') (by kernel_rfl) (by kernel_rfl) (by kernel_rfl) ?steps (by decide) ?fin
 case steps =>
  show StepsTo _ _ _ _ _ _ 19
  refine⟨⟨⟨⟨⟨⟨⟨⟨⟨⟨⟨⟨⟨⟨⟨⟨⟨⟨⟨trivial,?s0⟩,?s1⟩,?s2⟩,?s3⟩,?s4⟩,?s5⟩,?s6⟩,?s7⟩,?s8⟩,?s9⟩,?s10⟩,?s11⟩,?s12⟩,?s13⟩,?s14⟩,?s15⟩,?s16⟩,?s17⟩,?s18⟩
  case s0 =>
   refine sw_val (by kernel_rfl) (x:=.pointer (some ⟨Q.q,0,none⟩)) rfl rfl (by decide) rfl fun γ a w1 st=>?_
   have e0:=st.far 0 (by kernel_rfl)
   simp at e0
   go_simp
  case s1 =>
   refine sw_val (by kernel_rfl) (x:=.pointer (some ⟨Q.q,0,none⟩)) rfl rfl (by decide) rfl fun γ a w1 st=>?_
   have e30:=st.v 0 30 _ rfl (by kernel_rfl) rfl
   go_simp
  case s2 =>
   refine sw_val (by kernel_rfl) (x:=.pointer (some ⟨Q.q,1,none⟩)) rfl rfl (by decide) rfl fun γ a w1 st=>?_
   have e31:=st.v 1 31 _ rfl (by kernel_rfl) rfl
   go_simp
  case s3 =>
   refine sw_val (by kernel_rfl) (x:=.slice (some ⟨Q.db,0,none⟩) 1 1) rfl rfl (by decide) rfl fun γ a w1 st=>?_
   have e32:=st.v 2 32 _ rfl (by kernel_rfl) rfl
   have hsw:=st.same (by kernel_rfl)
   subst hsw
   have hcl:W.drew.cell? _=_:=c1
   go_simp
  case s4 =>
   refine sw_val (by kernel_rfl) (x:=.int .i64 0) rfl rfl (by decide) rfl fun γ a w1 st=>?_
   have e1:=st.far 1 (by kernel_rfl)
   simp at e1
   go_simp
  case s5 =>
   refine sw_val (by kernel_rfl) (x:=.pointer (some ⟨Q.db,0,none⟩)) rfl rfl (by decide) rfl fun γ a w1 st=>?_
   have e33:=st.v 3 33 _ rfl (by kernel_rfl) rfl
   have e34:=st.v 4 34 _ rfl (by kernel_rfl) rfl
   go_simp
  case s6 =>
   refine sw_val (by kernel_rfl) (x:=.pointer (some ⟨d,0,none⟩)) rfl rfl (by decide) rfl fun γ a w1 st=>?_
   have e35:=st.v 5 35 _ rfl (by kernel_rfl) rfl
   have hsw:=st.same (by kernel_rfl)
   subst hsw
   have hcl:W.drew.cell? _=_:=d0
   go_simp
  case s7 =>
   refine sw_val (by kernel_rfl) (x:=.int .i64 0) rfl rfl (by decide) rfl fun γ a w1 st=>?_
   have e1:=st.far 1 (by kernel_rfl)
   simp at e1
   go_simp
  case s8 =>
   refine sw_val (by kernel_rfl) (x:=.pointer (some ⟨Q.q,0,none⟩)) rfl rfl (by decide) rfl fun γ a w1 st=>?_
   have e0:=st.far 0 (by kernel_rfl)
   simp at e0
   go_simp
  case s9 =>
   refine sw_val (by kernel_rfl) (x:=.pointer (some ⟨Q.q,0,none⟩)) rfl rfl (by decide) rfl fun γ a w1 st=>?_
   have e38:=st.v 8 38 _ rfl (by kernel_rfl) rfl
   go_simp
  case s10 =>
   refine sw_val (by kernel_rfl) (x:=.pointer (some ⟨Q.q,0,none⟩)) rfl rfl (by decide) rfl fun γ a w1 st=>?_
   have e39:=st.v 9 39 _ rfl (by kernel_rfl) rfl
   go_simp
  case s11 =>
   refine sw_val (by kernel_rfl) (x:=.slice (some ⟨Q.nb,0,none⟩) 1 1) rfl rfl (by decide) rfl fun γ a w1 st=>?_
   have e40:=st.v 10 40 _ rfl (by kernel_rfl) rfl
   have hsw:=st.same (by kernel_rfl)
   subst hsw
   have hcl:W.drew.cell? _=_:=c0
   go_simp
  case s12 =>
   refine sw_val (by kernel_rfl) (x:=.int .i64 1) rfl rfl (by decide) rfl fun γ a w1 st=>?_
   have e41:=st.v 11 41 _ rfl (by kernel_rfl) rfl
   go_simp
  case s13 =>
   refine sw_call (by kernel_rfl) (f:=52) (Nat.le_refl _) rfl rfl rfl fun γ a st=>?_
   have e36:=st.v 6 36 _ rfl (by kernel_rfl) rfl
   have e37:=st.v 7 37 _ rfl (by kernel_rfl) rfl
   have e42:=st.v 12 42 _ rfl (by kernel_rfl) rfl
   refine⟨#[.pointer (some ⟨d,0,none⟩),.int .i64 0,.int .i64 1],by go_simp,?_⟩
   refine co.mono ?_
   rintro e w2 ⟨r,rfl,hr,hN,hC⟩
   exact⟨_,rfl,r,rfl,hr,hN,hC⟩
  case s14 =>
   refine sw_fun (by kernel_rfl) (g:=id) rfl rfl (by decide) rfl fun γ a w1 st hpost=>?_
   obtain⟨r,rfl,hr,hNd,hC⟩:=hpost
   have e43:=st.f 13 43 _ rfl (by kernel_rfl) rfl
   go_simp
  case s15 =>
   refine sw_fun (by kernel_rfl) (g:=fun γ => tupI γ 0) rfl rfl (by decide) rfl fun γ a w1 st hpost=>?_
   obtain⟨r,rfl,hr,hNd,hC⟩:=hpost
   have e29:=st.f 14 29 _ rfl (by kernel_rfl) rfl
   simp[tupI]at e29⊢
   go_simp
  case s16 =>
   refine sw_fun (by kernel_rfl) (g:=fun γ => tupI γ 1) rfl rfl (by decide) rfl fun γ a w1 st hpost=>?_
   obtain⟨r,rfl,hr,hNd,hC⟩:=hpost
   have e29:=st.f 14 29 _ rfl (by kernel_rfl) rfl
   simp[tupI]at e29⊢
   go_simp
  case s17 =>
   refine sw_fun (by kernel_rfl) (g:=fun γ => tupI γ 0) rfl rfl (by decide) rfl fun γ a w1 st hpost=>?_
   obtain⟨r,rfl,hr,hNd,hC⟩:=hpost
   have e44:=st.f 15 44 _ rfl (by kernel_rfl) rfl
   simp[tupI]at e44⊢
   go_simp
  case s18 =>
   refine sw_fun (by kernel_rfl) (g:=fun γ => tupI γ 1) rfl rfl (by decide) rfl fun γ a w1 st hpost=>?_
   obtain⟨r,rfl,hr,hNd,hC⟩:=hpost
   have e45:=st.f 16 45 _ rfl (by kernel_rfl) rfl
   simp[tupI]at e45⊢
   go_simp
 case fin =>
  intro γ v wz hpost hφ
  obtain⟨r,rfl,hr,hNd,hC⟩:=hpost
  have h17:v 17=.pointer (some ⟨r,0,none⟩):=hφ 17 (by decide)
  have h18:v 18=.int .i64 0:=hφ 18 (by decide)
  clear hφ
  change Exit.then _ _ _ (putAll _ v _ 19) wz
  simp only[putAll,dstOf,Act.put]
  simp only[List.getElem?_toArray,List.getElem?_cons_zero,List.getElem?_cons_succ,Option.bind_some,List.setIfInBounds_toArray,List.set_cons_zero,List.set_cons_succ]
  rw[h17]
  rw[h18]
  clear h17 h18
  have hnr:∀k,k=Q.nb→¬ (Ka.opened r d m).has k:=by
   rintro k rfl (e|e|e|e|e|e|e|e|⟨v,hv,e⟩)
   ·have:=HA1.out.ns.lt
    have e':Q.nb=r:=e
    omega
   ·exact e2 e
   ·exact hNd.dk.2.ne_at (HA1.out.ns.chg hC e2) e.symm
   ·cases e
   ·cases e
   ·cases e
   ·cases e
   ·cases e
   ·cases hv
  have hA2:NetAt wz Q none d:=HA1.out.chg hC (by rintro k rfl (e|e|e);exact e1 e.symm;exact e2 e.symm;exact e3 e.symm)
  have q0:=hA2.nt.cell 0
  have g0:=hA2.ns.cell 0
  have gf:=hA2.ns.frozen 0
  simp at q0 g0
  have hlt:=hA2.ns.lt
  have hrlt:=hNd.nd.lt
  have hq:Q.q≠Q.nb:=hA2.nt.ne hA2.ns (by decide)
  have hdb:Q.db≠Q.nb:=hA2.ds.ne hA2.ns (by decide)
  generalize v 0=z0
  generalize v 1=z1
  generalize v 2=z2
  generalize v 3=z3
  generalize v 4=z4
  generalize v 5=z5
  generalize v 6=z6
  generalize v 7=z7
  generalize v 8=z8
  generalize v 9=z9
  generalize v 10=z10
  generalize v 11=z11
  generalize v 12=z12
  generalize v 13=z13
  generalize v 14=z14
  generalize v 15=z15
  generalize v 16=z16
  clear co
  have HZ:=Lib.hid hA2
  have HN:=Lib.hid hNd
  have HC:=Lib.hid hC
  clear hA2 hNd hC
  go_wp2_with fail
  go_ret
  have hA3:=HZ.out
  have hC3:Chg (fun k=>k=Q.nb) wz (wz.setCell ⟨Q.nb,0,none⟩ (.pointer (some ⟨r,0,none⟩))):=(Chg.refl (fun k=>k=Q.nb) wz).setCell (p:=⟨Q.nb,0,none⟩) (.inl rfl) _
  have hns:At (wz.setCell ⟨Q.nb,0,none⟩ (.pointer (some ⟨r,0,none⟩))) Q.nb 45 #[.pointer (some ⟨r,0,none⟩)]:=by simpa using hA3.ns.set 0 (.pointer (some ⟨r,0,none⟩))
  have hs1:=HC1.out.size
  refine⟨rfl,r,by omega,⟨⟨hA3.nt.chg hC3 hq,hns,hA3.ds.chg hC3 hdb⟩,HN.out.chg hC3 hnr⟩,((HC1.out.mono (fun k _ e=>.inl e)).trans HC.out (fun k _ e=>.inl e)).trans hC3 (fun k _ e=>.inr e)⟩
end Go.Proofs.YtkkbfdencgdbhaaGreatDoor
namespace Go.Proofs.YtkkbfdencgdbhaaGreatDoor
open Go.RowKit Go.Sort
theorem qdisk_any(w:World):Calls Tryz.prog 26 #[.int .i64 4194304] w fun e w' =>
 ∃d m,e=.returned (.pointer (some ⟨d,0,none⟩))∧DkAt w' d m Fs.none.dk∧Ext w w'∧w.heap.size≤d∧w.heap.size≤m:=by
 have hmm := @run_makeMap Tryz.prog
 go_enter Tryz.func26,Tryz.ntmps26
 go_wp2_with fail
 refine(made_any _ _).mono ?_
 rintro e w1 ⟨rfl,hE⟩
 go_wp2_with fail
 go_ret
 refine⟨_,_,rfl,⟨At.new_eq (by simp) _ _,(MapAt.new strWay Fl.val w1).alloc _⟩,(hE.alloc _).alloc _,?_,hE.size⟩
 have:=hE.size
 omega
theorem nodep_info:(Tryz.prog.info? 45).map (fun i=>(i.zero,i.size,i.bytes))=some (some (.pointer none),1,8):=by kernel_rfl
theorem diskp_info:(Tryz.prog.info? 74).map (fun i=>(i.zero,i.size,i.bytes))=some (some (.pointer none),1,8):=by kernel_rfl
theorem none_says:fsSays Fs.none Ts.none:=⟨rfl,rfl,.inl ⟨rfl,rfl,rfl⟩,.inl ⟨rfl,rfl,rfl,rfl⟩⟩
structure NetB (w:World) (Q:Qa) (p:Option Addr):Prop where
 nt:At w Q.q 73 #[.slice (some ⟨Q.nb,0,none⟩) 1 1,.slice (some ⟨Q.db,0,none⟩) 1 1,.slice none 0 0]
 ns:At w Q.nb 45 #[.pointer none]
 ds:At w Q.db 74 #[.pointer p]
theorem NetB.ext{w w':World}{Q:Qa}{p:Option Addr}(h:NetB w Q p)(hE:Ext w w'):NetB w' Q p:=⟨h.nt.ext hE,h.ns.ext hE,h.ds.ext hE⟩
theorem netb_any(w:World)(t1 t2:TypeId)(a b:Nat)(h:(t1=45∧t2=74∧a=w.heap.size∧b=w.heap.size+1)∨(t2=45∧t1=74∧b=w.heap.size∧a=w.heap.size+1)) :
 let W:=(((w.alloc (.cells #[.pointer none] t1)).alloc (.cells #[.pointer none] t2)).alloc (.cells #[.slice (some ⟨a,0,none⟩) 1 1,.slice (some ⟨b,0,none⟩) 1 1,.slice none 0 0] 73)).drew
 NetB W ⟨w.heap.size+1+1,a,b⟩ none∧Ext w W:=by
 refine⟨⟨At.drew (At.new_eq (by simp) _ _),?_,?_⟩,(((Ext.refl w).alloc _).alloc _).alloc _ |>.drew⟩
 ·rcases h with⟨rfl,rfl,rfl,rfl⟩|⟨rfl,rfl,rfl,rfl⟩
  ·exact(((At.new_eq rfl _ _).alloc _).alloc _).drew
  ·exact((At.new_eq (by simp) _ _).alloc _).drew
 ·rcases h with⟨rfl,rfl,rfl,rfl⟩|⟨rfl,rfl,rfl,rfl⟩
  ·exact((At.new_eq (by simp) _ _).alloc _).drew
  ·exact(((At.new_eq rfl _ _).alloc _).alloc _).drew
set_option maxRecDepth 100000 in
set_option maxHeartbeats 4000000 in
theorem qnew_any(w:World)(hT:Tab w):Calls Tryz.prog 6 #[.int .i64 1,.int .i64 4194304] w fun e w'=>∃(Q:Qa) (r d m:Nat),e=.returned (.tuple #[.pointer (some ⟨Q.q,0,none⟩),.int .i64 0]) ∧
 NetUp w' Q (Ka.opened r d m) (Nd.opened 0 1 Ts.none Fs.none)∧Ext w w'∧(∀k,Q.has k→w.heap.size≤k)∧w.heap.size≤r∧w.heap.size≤d∧w.heap.size≤m:=by
 have hmk1:∀W:World,(Instr.makeSlice 69 (.int .i64 1) (.int .i64 1)).run Tryz.prog W=.ok (.slice (some ⟨W.heap.size,0,none⟩) 1 1) (W.alloc (.cells #[.pointer none] 45)):=fun W=>q_make (n:=1) Tryz.underlying69 nodep_info rfl (by decide) (by omega) W
 have hmk2:∀W:World,(Instr.makeSlice 70 (.int .i64 1) (.int .i64 1)).run Tryz.prog W=.ok (.slice (some ⟨W.heap.size,0,none⟩) 1 1) (W.alloc (.cells #[.pointer none] 74)):=fun W=>q_make (n:=1) Tryz.underlying70 diskp_info rfl (by decide) (by omega) W
 obtain⟨wo,hwo⟩:∃wo:World,wo=w:=⟨_,rfl⟩
 have HWO:=Lib.hid hwo
 have HNA:=Lib.hid (netb_any w 45 74 w.heap.size (w.heap.size+1) (.inl ⟨rfl,rfl,rfl,rfl⟩))
 have HNB:=Lib.hid (netb_any w 74 45 (w.heap.size+1) w.heap.size (.inr ⟨rfl,rfl,rfl,rfl⟩))
 clear hwo
 go_enter Tryz.func6,Tryz.ntmps6
 go_upto_region 3 with fail
 go_cut [6]from 16 to 21 (fun tv wx=>∃Q:Qa,tv=.pointer (some ⟨Q.q,0,none⟩)∧NetB wx Q none∧Ext wo wx∧∀k,Q.has k→wo.heap.size≤k)
 case first =>
  go_region
  all_goals
   go_wp2_with fail
   go_meet
   case rel =>
    rw[HWO.out]
    first
    | (obtain⟨hB,hE⟩:=HNA.out
       with_reducible exact⟨⟨w.heap.size+1+1,w.heap.size,w.heap.size+1⟩,rfl,hB,hE,fun k hk=>by unfold Qa.has at hk;simp only at hk;omega⟩)
    | (obtain⟨hB,hE⟩:=HNB.out
       with_reducible exact⟨⟨w.heap.size+1+1,w.heap.size+1,w.heap.size⟩,rfl,hB,hE,fun k hk=>by unfold Qa.has at hk;simp only at hk;omega⟩)
 case rest =>
  obtain⟨Q,rfl,hB,hE,hQ⟩:=hcut
  rename World=>W
  rw[HWO.out]at hE hQ
  have b1:=hB.nt.cell 1
  simp at b1
  go_wp2_with fail
  go_loopw [23] (fun iv wr=>(iv=.int .i64 0∧wr=W)∨(iv=.int .i64 1∧∃d m,NetAt wr Q none d∧DkAt wr d m Fs.none.dk∧Chg (fun k=>k=Q.db) W wr∧W.heap.size≤d∧W.heap.size≤m)) (fun iv _=>1 - (intOf iv).toNat)
  case atStart=>exact .inl ⟨rfl,rfl⟩
  case round =>
   rcases hrel with⟨rfl,rfl⟩|⟨rfl,d,m,hA,hD,hC,hd,hm⟩
   ·rename World=>W
    go_wp2_with fail
    have hST:GQ.St (fun _=>False) (fun _ _=>True) [⟨6,0,fun _ v w=>∃d m:Nat,v=.pointer (some ⟨d,0,none⟩)∧DkAt w d m Fs.none.dk∧W.heap.size≤d∧W.heap.size≤m⟩]:=⟨fun _ _ _ h _=>h,by
     intro gx hx
     rcases List.mem_cons.1 hx with rfl|hx
     ·exact fun b v w w' h hE=>by obtain⟨d,m,h1,h2,h3⟩:=h;exact⟨d,m,h1,h2.ext hE,h3⟩
     cases hx⟩
    refine wp_region_last (Γ := Nat→Value) (sgφ [.val (.pointer (some ⟨Q.q,0,none⟩)),.val (.pointer (some ⟨Q.q,0,none⟩)),.val (.pointer (some ⟨Q.q,1,none⟩)),.val (.slice (some ⟨Q.db,0,none⟩) 1 1),.val (.int .i64 0),.val (.int .i64 4194304),.g 0,.val (.pointer (some ⟨Q.db,0,none⟩))])
     (GQ W (fun _=>False) 1000 (fun _ _=>True) [⟨6,0,fun _ v w=>∃d m:Nat,v=.pointer (some ⟨d,0,none⟩)∧DkAt w d m Fs.none.dk∧W.heap.size≤d∧W.heap.size≤m⟩])
     (fun _ w'=>∃d m:Nat,NetAt w' Q none d∧DkAt w' d m Fs.none.dk∧Chg (fun k=>k=Q.db) W w'∧W.heap.size≤d∧W.heap.size≤m) 8 rfl (by kernel_rfl) (by kernel_rfl) (by kernel_rfl) (by kernel_rfl) (by kernel_rfl) (fun _=>undef) (GQ.start _ _ _ _ _ _ (trivial)) ?steps ?last ?fin
    case steps =>
     show StepsTo _ _ _ _ _ _ 8
     refine⟨⟨⟨⟨⟨⟨⟨⟨trivial,?s0⟩,?s1⟩,?s2⟩,?s3⟩,?s4⟩,?s5⟩,?s6⟩,?s7⟩
     case s0 =>
      refine sg_val (x:=.pointer (some ⟨Q.q,0,none⟩)) rfl rfl rfl (GQ.keep (j:=0) (by decide) rfl) fun γ L v a w st=>?_
      have f6:=st.far 6 (by kernel_rfl)
      simp at f6
      go_simp
     case s1 =>
      refine sg_val (x:=.pointer (some ⟨Q.q,0,none⟩)) rfl rfl rfl (GQ.keep (j:=1) (by decide) rfl) fun γ L v a w st=>?_
      have e0:=st.val 0 26 rfl (by kernel_rfl)
      rw[(st.φ 0 (by kernel_rfl):v 0=_)]at e0
      simp at e0
      go_simp
     case s2 =>
      refine sg_val (x:=.pointer (some ⟨Q.q,1,none⟩)) rfl rfl rfl (GQ.keep (j:=2) (by decide) rfl) fun γ L v a w st=>?_
      have e1:=st.val 1 27 rfl (by kernel_rfl)
      rw[(st.φ 1 (by kernel_rfl):v 1=_)]at e1
      simp at e1
      go_simp
     case s3 =>
      refine sg_val (x:=.slice (some ⟨Q.db,0,none⟩) 1 1) rfl rfl rfl (GQ.keep (j:=3) (by decide) rfl) fun γ L v a w st=>?_
      have e2:=st.val 2 28 rfl (by kernel_rfl)
      rw[(st.φ 2 (by kernel_rfl):v 2=_)]at e2
      simp at e2
      have hcl:=(hB.ext (st.inv.off (fun _ h=>h))).nt.cell 1
      simp at hcl
      go_simp
     case s4 =>
      refine sg_val (x:=.int .i64 0) rfl rfl rfl (GQ.keep (j:=4) (by decide) rfl) fun γ L v a w st=>?_
      have f7:=st.far 7 (by kernel_rfl)
      simp at f7
      go_simp
     case s5 =>
      refine sg_val (x:=.int .i64 4194304) rfl rfl rfl (GQ.keep (j:=5) (by decide) rfl) fun γ L v a w st=>?_
      have f1:=st.far 1 (by kernel_rfl)
      simp at f1
      go_simp
     case s6 =>
      refine sg_call (k:=0) (f:=26) rfl rfl rfl (by kernel_rfl) fun γ L v a w st=>?_
      have e5:=st.val 5 31 rfl (by kernel_rfl)
      rw[(st.φ 5 (by kernel_rfl):v 5=_)]at e5
      simp at e5
      have hE0:=st.inv.off (fun _ h=>h)
      refine⟨#[.int .i64 4194304],by go_simp,(qdisk_any w).mono ?_⟩
      rintro e w' ⟨d,m,rfl,hD,hE,hd,hm⟩
      have hs0:=hE0.size
      refine⟨_,rfl,st.inv.new hST hE (by decide) rfl ?_⟩
      intro gx hx hxj
      rcases List.mem_cons.1 hx with rfl|hx
      ·exact⟨rfl,d,m,rfl,hD,by omega,by omega⟩
      cases hx
     case s7 =>
      refine sg_val (x:=.pointer (some ⟨Q.db,0,none⟩)) rfl rfl rfl (GQ.keep (j:=7) (by decide) rfl) fun γ L v a w st=>?_
      have e3:=st.val 3 29 rfl (by kernel_rfl)
      rw[(st.φ 3 (by kernel_rfl):v 3=_)]at e3
      simp at e3
      have e4:=st.val 4 30 rfl (by kernel_rfl)
      rw[(st.φ 4 (by kernel_rfl):v 4=_)]at e4
      simp at e4
      go_simp
    case last =>
     intro γ L v a w1 hall hG hφ hval h0
     have e32:=hval 6 32 rfl (by decide)
     rw[show v 6=_ from hφ 6 (by decide)]at e32
     have e33:=hval 7 33 rfl (by decide)
     rw[show v 7=_ from hφ 7 (by decide)]at e33
     simp at e33
     have hE1:Ext W w1:=hG.off (fun _ h=>h)
     obtain⟨d,m,hv,hD,hd,hm⟩:=hG.gh ⟨6,0,fun _ v w=>∃d m:Nat,v=.pointer (some ⟨d,0,none⟩)∧DkAt w d m Fs.none.dk∧W.heap.size≤d∧W.heap.size≤m⟩ (by simp) (hall 6 (by decide))
     replace hv : γ 0=.pointer (some ⟨d,0,none⟩):=hv
     rw[hv]at e32
     have hB1:=hB.ext hE1
     have g0:=hB1.ds.cell 0
     have gf:=hB1.ds.frozen 0
     simp at g0
     have hlt:=hB1.ds.lt
     have hq:Q.q≠Q.db:=hB1.nt.ne hB1.ds (by decide)
     have hn:Q.nb≠Q.db:=hB1.ns.ne hB1.ds (by decide)
     have hdd:d≠Q.db:=hD.1.ne hB1.ds (by decide)
     have hmm:m≠Q.db:=hD.2.ne_at hB1.ds
     have hC3:Chg (fun k=>k=Q.db) w1 (w1.setCell ⟨Q.db,0,none⟩ (.pointer (some ⟨d,0,none⟩))):=(Chg.refl (fun k=>k=Q.db) w1).setCell (p:=⟨Q.db,0,none⟩) (.inl rfl) _
     have hds:At (w1.setCell ⟨Q.db,0,none⟩ (.pointer (some ⟨d,0,none⟩))) Q.db 74 #[.pointer (some ⟨d,0,none⟩)]:=by simpa using hB1.ds.set 0 (.pointer (some ⟨d,0,none⟩))
     have hN2:NetAt (w1.setCell ⟨Q.db,0,none⟩ (.pointer (some ⟨d,0,none⟩))) Q none d:=⟨hB1.nt.chg hC3 hq,hB1.ns.chg hC3 hn,hds⟩
     have hD2:=show DkAt (w1.setCell ⟨Q.db,0,none⟩ (.pointer (some ⟨d,0,none⟩))) d m Fs.none.dk from⟨hD.1.chg hC3 hdd,hD.2.chg hC3 hmm⟩
     have hC4:=hE1.chg_trans hC3
     clear hds
     refine wpOp_skip (w':=w1.setCell ⟨Q.db,0,none⟩ (.pointer (some ⟨d,0,none⟩))) rfl rfl (by go_simp) ⟨undef,rfl,d,m,hN2,hD2,hC4,hd,hm⟩
    case fin =>
     intro v w1 hTo
     obtain⟨d,m,hA,hD,hC,hd,hm⟩:=hTo
     change Exit.inBlock 1 (Exit.then _ _) Exit.normal (putAll _ v _ 9) w1
     simp only[putAll,dstOf,Act.put]
     simp only[List.getElem?_toArray,List.getElem?_cons_zero,List.getElem?_cons_succ,Option.bind_some,List.setIfInBounds_toArray,List.set_cons_zero,List.set_cons_succ]
     generalize v 0=z0
     generalize v 1=z1
     generalize v 2=z2
     generalize v 3=z3
     generalize v 4=z4
     generalize v 5=z5
     generalize v 6=z6
     generalize v 7=z7
     go_wp2_with fail
     go_roundw
     case rel=>exact .inr ⟨rfl,d,m,hA,hD,hC,hd,hm⟩
     case measure=>simp[intOf]
   ·rename_i wr
    have hTL:=hT.lt
    have hsz:=hE.size
    have hT2:Tab wr:=hT.chg (hE.chg_trans hC) (fun e=>by have:=hQ _ (.inr (.inr e));omega)
    have cs:=qstart_any wr Q d m Fs.none Ts.none hA hD (by decide) none_says hT2 (by omega)
    have HQ:=Lib.hid hQ
    have HC:=Lib.hid hC
    have HE:=Lib.hid hE
    clear hQ hC hE HNA HNB HWO
    go_wp2_with fail
    go_loopw [36] (fun iv wx=>(iv=.int .i64 0∧wx=wr)∨(iv=.int .i64 1∧∃r,wr.heap.size≤r∧NetUp wx Q (Ka.opened r d m) (Nd.opened 0 1 Ts.none Fs.none)∧Chg (fun k=>k=d∨k=Q.nb) wr wx)) (fun iv _=>1 - (intOf iv).toNat)
    case atStart=>exact .inl ⟨rfl,rfl⟩
    case round =>
     rcases hrel with⟨rfl,rfl⟩|⟨rfl,r,hr,hU,hC2⟩
     ·go_wp2_with fail
      refine cs.mono ?_
      rintro e w2 ⟨rfl,r,hr,hU,hC2⟩
      go_wp2_with fail
      go_roundw
      case rel=>exact .inr ⟨rfl,r,hr,hU,hC2⟩
      case measure=>simp[intOf]
     ·have HU:=Lib.hid hU
      have HC2:=Lib.hid hC2
      clear hU hC2 cs
      go_wp2_with fail
      go_ret2
      have hE:=HE.out
      have hC:=HC.out
      have hQ:=HQ.out
      have hs2:=hC.size
      refine⟨Q,r,d,m,rfl,HU.out,?_,hQ,by omega,by omega,by omega⟩
      refine Chg.mono (S':=fun k=>k=Q.db∨k=d∨k=Q.nb) ((hE.chg_trans (hC.mono (fun k _ e=>.inl e))).trans HC2.out (fun k _ e=>.inr e)) (fun k hk e=>?_)
      have q1:=hQ _ (.inr (.inl rfl))
      have q2:=hQ _ (.inr (.inr rfl))
      rcases e with e|e|e <;> omega
end Go.Proofs.YtkkbfdencgdbhaaGreatDoor
namespace Go.Proofs.YtkkbfdencgdbhaaGreatDoor
open Go.RowKit Go.Sort
def ensF:Int→List ByteArray→List En
 | _,[]=>[]
 | k,c::r=>⟨k,1,c⟩::ensF (k+1) r
theorem ensF_len:∀(k:Int) (cs:List ByteArray),(ensF k cs).length=cs.length
 | _,[]=>rfl
 | k,c::r=>by simp[ensF,ensF_len (k+1) r]
theorem ensF_snoc:∀(k:Int) (cs:List ByteArray) (c:ByteArray),ensF k (cs++[c])=ensF k cs++[⟨k+cs.length,1,c⟩]
 | k,[],c=>by simp[ensF]
 | k,x::r,c=>by
  simp only[ensF,List.cons_append]
  rw[ensF_snoc (k+1) r c]
  have e:k+1+(r.length:Int)=k+((x::r).length:Int):=by simp;omega
  rw[e]
theorem ensF_mem:∀(k:Int) (cs:List ByteArray) (x:En),x∈ensF k cs→x.t=1∧k≤x.i∧x.i<k+cs.length∧x.c∈cs
 | _,[],x,h=>by cases h
 | k,c::r,x,h=>by
  rcases List.mem_cons.1 h with rfl|h
  ·exact⟨rfl,Int.le_refl _,by simp;omega,List.mem_cons_self ..⟩
  ·obtain⟨h1,h2,h3,h4⟩:=ensF_mem (k+1) r x h
   exact⟨h1,by omega,by simp;omega,List.mem_cons_of_mem _ h4⟩
def Fs.lead(cs:List ByteArray):Fs:=⟨some ⟨(enFs (ensF 1 cs)).toArray⟩,.none,some (tmB 1 1)⟩
def Nd.one(cs:List ByteArray):Nd:=⟨0,1,⟨1,1,0,0,ByteArray.empty,ensF 1 cs⟩,2,0,cs.length,0,0,[],[(cs.length:Int)],[1],[],Fs.lead cs⟩
theorem ensF_last(S:Ts)(cs:List ByteArray)(h:S.log=ensF 1 cs)(hb:S.base=0):S.last.1=cs.length:=by
 unfold Ts.last
 rw[h]
 rcases List.eq_nil_or_concat cs with rfl|⟨r,c,rfl⟩
 ·exact hb
 ·rw[List.concat_eq_append,ensF_snoc,List.getLast?_concat]
  simp;omega
theorem one_last(cs:List ByteArray):(Nd.one cs).s.last.1=cs.length:=ensF_last _ cs rfl rfl
theorem ba_append(a b:List UInt8):(⟨a.toArray⟩:ByteArray)++⟨b.toArray⟩=⟨(a++b).toArray⟩:=by
 apply ByteArray.ext
 rw[ByteArray.data_append]
 simp
theorem sendAll_one(N:Nd)(hn:N.n=1)(hi:N.id=0):N.sendAll=N:=by
 unfold Nd.sendAll
 rw[hn]
 show N.sendTo 0=N
 unfold Nd.sendTo
 rw[if_pos hi.symm]
def Nd.oneF(cs:List ByteArray)(F:Fs):Nd := { Nd.one cs with fs:=F }
theorem one_addF(cs:List ByteArray)(c:ByteArray)(F:Fs)(hF:lgAdd F [⟨1+(cs.length:Int),1,c⟩]=Fs.lead (cs++[c])):(Nd.oneF cs F).add c = { Nd.one (cs++[c])with commit:=cs.length } := by
 have hl:=one_last cs
 have hE:(Nd.oneF cs F).nextE c=⟨1+cs.length,1,c⟩:=by
  show(⟨(Nd.one cs).s.last.1+1,1,c⟩:En)=_
  rw[hl,Int.add_comm]
 unfold Nd.add
 rw[hE]
 unfold Nd.oneF Nd.one
 simp only[Ts.add]
 rw[hF,ensF_snoc]
 simp[Int.add_comm]
theorem lead_add(cs:List ByteArray)(c:ByteArray):lgAdd (Fs.lead cs) [⟨1+(cs.length:Int),1,c⟩]=Fs.lead (cs++[c]):=by
 unfold lgAdd Fs.lead
 simp only[Option.getD_some,Fs.put]
 rw[ba_append,ensF_snoc]
 simp[enFs]
theorem one_appendF(cs:List ByteArray)(c:ByteArray)(F:Fs)(hF:lgAdd F [⟨1+(cs.length:Int),1,c⟩]=Fs.lead (cs++[c])):(Nd.oneF cs F).append c=Nd.one (cs++[c]):=by
 unfold Nd.append
 rw[one_addF cs c F hF,sendAll_one _ rfl rfl]
 unfold Nd.advance
 have hrev:(Nd.one (cs++[c])).s.log.reverse=⟨1+(cs.length:Int),1,c⟩::(ensF 1 cs).reverse:=by
  show(ensF 1 (cs++[c])).reverse=_
  rw[ensF_snoc];simp
 show({ Nd.one (cs++[c])with commit:=advGo 1 (cs.length:Int) 1 [((cs++[c]).length:Int)] (Nd.one (cs++[c])).s.log.reverse } : Nd)=_
 rw[hrev]
 have:advGo 1 (cs.length:Int) 1 [((cs++[c]).length:Int)] (⟨1+(cs.length:Int),1,c⟩::(ensF 1 cs).reverse)=((cs++[c]).length:Int):=by
  have hle:1+(cs.length:Int)≤((cs++[c]).length:Int):=by simp;omega
  have hf:([((cs++[c]).length:Int)].filter fun y=>decide (1+(cs.length:Int)≤y))=[((cs++[c]).length:Int)]:=by
   rw[List.filter_cons_of_pos (by simp only[decide_eq_true_eq];exact hle)];rfl
  unfold advGo
  rw[if_neg (by simp;omega)]
  simp only
  rw[hf,if_pos (by show 1<2 * 1;decide)]
  simp;omega
 rw[this]
 rfl
theorem one_append(cs:List ByteArray)(c:ByteArray):(Nd.one cs).append c=Nd.one (cs++[c]):=one_appendF cs c (Fs.lead cs) (lead_add cs c)
def Nd.nth(i:Nat):Nd:=if i<4 then { Nd.opened 0 1 Ts.none Fs.none with timer:=i } else Nd.one [ByteArray.empty]
def Fs.tm1:Fs:=⟨.none,.none,some (tmB 1 1)⟩
theorem elect_one:Nd.elect { Nd.opened 0 1 Ts.none Fs.none with timer:=3+1 } = Nd.one [ByteArray.empty]:=by
 have h0:Nd.elect { Nd.opened 0 1 Ts.none Fs.none with timer:=3+1 } = (Nd.oneF [] Fs.tm1).append ByteArray.empty:=rfl
 rw[h0]
 refine one_appendF [] ByteArray.empty Fs.tm1 ?_
 unfold lgAdd Fs.lead Fs.tm1
 simp[Fs.put,ensF]
theorem enFs_small(cs:List ByteArray)(k:Int)(hc:∀c∈cs,c.size≤1000):(enFs (ensF k cs)).length≤1038 * cs.length:=by
 induction cs generalizing k with
 | nil=>simp[ensF,enFs]
 | cons c r ih =>
  have h1:=ih (k+1) fun x hx=>hc x (List.mem_cons_of_mem _ hx)
  have h2:=hc c (List.mem_cons_self ..)
  have h3:=frameL_length (En.mk k 1 c).enc
  have h4:=(En.mk k 1 c).enc_len
  have h5:(En.mk k 1 c).c.size=c.size:=rfl
  have e:enFs (ensF k (c::r))=frameL (En.mk k 1 c).enc++enFs (ensF (k+1) r):=rfl
  rw[e,List.length_append,List.length_cons]
  omega
theorem lead_tot(cs:List ByteArray)(hl:cs.length≤20)(hc:∀c∈cs,c.size≤1000):(Fs.lead cs).tot≤21000∧osz (Fs.lead cs).lg≤21000:=by
 have h1:=enFs_small cs 1 hc
 have h2:=tmB_len 1 1
 have h3:osz (Fs.lead cs).lg=(enFs (ensF 1 cs)).length:=by
  show(enFs (ensF 1 cs)).toArray.size=_;simp
 have h4:(Fs.lead cs).tot=osz (Fs.lead cs).lg+0+(tmB 1 1).size:=rfl
 omega
theorem one_ok(cs:List ByteArray)(hl:cs.length≤20)(hc:∀c∈cs,c.size≤1000)(m:Int)(hm:0≤m∧m≤20):NdOk { Nd.one cs with commit:=m } := by
 have h1:=(lead_tot cs hl hc).1
 refine⟨⟨by show(0:Int)≤1∧(1:Int)≤_;omega,by show(0:Int)≤1∧(1:Int)≤_;omega,by show(0:Int)≤0∧(0:Int)≤_;omega,by show(0:Int)≤0∧(0:Int)≤_;omega,?_,fun x hx=>?_⟩,by show 0<1;omega,by show 1≤5;omega,by show 0≤m∧m≤_;omega,by show(0:Int)≤0∧(0:Int)≤_;omega,fun x hx=>?_,fun x hx=>?_,by show 1≤5;omega,by show 1≤5;omega,by show 0≤5;omega,by show 0≤100000;omega,by show(Fs.lead cs).tot≤_;omega⟩
 ·show(ensF 1 cs).length≤1000
  rw[ensF_len];omega
 ·obtain⟨a,b,c,d⟩:=ensF_mem 1 cs x hx
  have:=hc _ d
  omega
 ·have:x=1:=by simpa[Nd.one]using hx
  omega
 ·have:x=cs.length:=by simpa[Nd.one]using hx
  omega
theorem lack_one(K:Ka)(N:Nd)(hn:N.n=1)(hi:N.id=0):LackOk K N:=fun w' K' N' i _ _ _ _ _ _ _ h1 h2=>by omega
section
variable{w:World}{Q:Qa}{K:Ka}
set_option maxRecDepth 100000 in
theorem prop_one(cs:List ByteArray)(h:NetUp w Q K (Nd.one cs))(hl:cs.length<20)(hc:∀c∈cs,c.size≤1000)(c:ByteArray)(hcc:c.size≤1000)(hT:Tab w)(hTK:¬ K.has 0) :
 Calls Tryz.prog 11 #[.pointer (some ⟨Q.q,0,none⟩),.int .i64 0,.string c] w fun e w'=>e=.returned (.tuple #[.int .i64 ((cs.length:Int)+1),.int .i64 1,.int .i64 0])∧NetTo Q K w w' (Nd.one (cs++[c])):=by
 have hll:=one_last cs
 have htt:=lead_tot cs (by omega) hc
 have hadd:((Nd.one cs).add c) = { Nd.one (cs++[c])with commit:=cs.length } := one_addF cs c (Fs.lead cs) (lead_add cs c)
 have hok:NdOk ((Nd.one cs).add c).sendAll:=by
  rw[hadd,sendAll_one _ rfl rfl]
  refine one_ok _ (by simp;omega) (fun x hx=>?_) _ (by omega)
  rcases List.mem_append.1 hx with hx|hx
  ·exact hc x hx
  ·rw[List.mem_singleton.1 hx];exact hcc
 have hN:NdOk (Nd.one cs):=one_ok cs (by omega) hc _ (by omega)
 have hp:=propose_any h.nd hN rfl c (by omega) (by omega) (by show(ensF 1 cs).length<1000;rw[ensF_len];omega) (by show 0<1;omega) (by show(Fs.lead cs).tot+osz (Fs.lead cs).lg+100+c.size≤_;omega) hT hTK (fun K1 _=>lack_one K1 _ (by rw[hadd];rfl) (by rw[hadd];rfl)) hok
 rw[one_append,hll]at hp
 exact qpropose_any h (Nd.one (cs++[c])) c _ _ hp rfl
theorem opened_ok0:NdOk (Nd.opened 0 1 Ts.none Fs.none) :=
 ⟨⟨by decide,by decide,by decide,by decide,by decide,fun x hx=>by cases hx⟩,by decide,by decide,by decide,by decide,(fun x hx=>by cases hx),(fun x hx=>by cases hx),by decide,by decide,by decide,by decide,by decide⟩
theorem opened_ok(m:Int)(hm:0≤m∧m≤10):NdOk { Nd.opened 0 1 Ts.none Fs.none with timer:=m } :=
 ⟨opened_ok0.ts,opened_ok0.id,opened_ok0.n,opened_ok0.commit,by show 0≤m∧m≤_;omega,opened_ok0.nx,opened_ok0.mt,opened_ok0.ml,opened_ok0.nl,opened_ok0.vl,opened_ok0.out,opened_ok0.fs⟩
def Nd.st:Nd:=Nd.stand { Nd.opened 0 1 Ts.none Fs.none with timer:=3+1 }
theorem st_tot:Nd.st.fs.tot≤28:=by
 have h2:=tmB_len 1 1
 have h4:Nd.st.fs.tot=0+0+(tmB 1 1).size:=rfl
 omega
theorem st_ok:NdOk Nd.st:=by
 have h1:=st_tot
 refine⟨⟨by decide,by decide,by decide,by decide,by decide,fun x hx=>by cases hx⟩,by decide,by decide,by decide,by decide,(fun x hx=>by cases hx),(fun x hx=>by cases hx),by decide,by decide,by decide,by decide,by omega⟩
theorem st_lead:Nd.st.lead=Nd.oneF [] Fs.tm1:=rfl
theorem st_lead_add:Nd.st.lead.add ByteArray.empty = { Nd.one [ByteArray.empty]with commit:=0 } := by
 rw[st_lead]
 refine one_addF [] ByteArray.empty Fs.tm1 ?_
 unfold lgAdd Fs.lead Fs.tm1
 simp[Fs.put,ensF]
theorem lead_ok:NdOk Nd.st.lead:=by
 have h1:=st_tot
 refine⟨⟨by decide,by decide,by decide,by decide,by decide,fun x hx=>by cases hx⟩,by decide,by decide,by decide,by decide,(fun x hx=>?_),(fun x hx=>?_),by decide,by decide,by decide,by decide,by show Nd.st.fs.tot≤_;omega⟩
 ·have:x=1:=by simpa[st_lead,Nd.oneF,Nd.one]using hx
  omega
 ·have:x=0:=by simpa[st_lead,Nd.oneF,Nd.one]using hx
  omega
set_option maxRecDepth 100000 in
theorem round_one(i:Nat)(hi:i<4)(h:NetUp w Q K (Nd.nth i))(hT:Tab w)(hTK:¬ K.has 0) :
 Calls Tryz.prog 7 #[.pointer (some ⟨Q.q,0,none⟩)] w fun e w'=>e=.returned (.tuple #[])∧NetTo Q K w w' (Nd.nth (i+1)):=by
 have hN:Nd.nth i = { Nd.opened 0 1 Ts.none Fs.none with timer:=(i:Int) } := by unfold Nd.nth;rw[if_pos hi]
 rw[hN]at h
 by_cases h3:i=3
 ·subst h3
  have hN':Nd.nth (3+1)=Nd.elect { Nd.opened 0 1 Ts.none Fs.none with timer:=3+1 } := by rw[elect_one];rfl
  rw[hN']
  refine qround_any h _ ?_ (by rw[elect_one];rfl)
  refine tick_elect (N := { Nd.opened 0 1 Ts.none Fs.none with timer:=((3:Nat):Int) }) h.nd (by decide) (by decide) (by decide) (by decide) fun w' K' hA hr hK hE=>?_
  have hT':Tab w':=hT.chg (((Chg.refl (fun k=>k=K.r) w).setCell (p:=⟨K.r,13,none⟩) (.inl rfl) _).ext_trans hE) (fun e=>hTK (.inl e))
  rw[←hr]
  refine elect_any hA (opened_ok (3+1) (by decide)) (by decide) hT' (by rw[hK];exact hTK) st_ok.ts (fun k hk=>?_) fun w2 K2 hA2 hr2 hT2 hTK2=>?_
  ·have:(Nd.stand { Nd.opened 0 1 Ts.none Fs.none with timer:=3+1 }).askK k=Nd.st:=by
    have hk:k≤1:=hk
    rcases k with _|_|k
    ·rfl
    ·rfl
    ·omega
   exact this ▸ st_ok
  ·rw[←hr2]
   exact count_any (N:=Nd.st) hA2 st_ok (by decide) (by decide) (by have h1:=st_tot;have h2:osz Nd.st.fs.lg=0:=rfl;omega) hT2 hTK2 lead_ok (fun K1 _=>lack_one K1 _ (by rw[st_lead_add];rfl) (by rw[st_lead_add];rfl)) (by rw[st_lead_add,sendAll_one _ rfl rfl];exact one_ok _ (by decide) (fun x hx=>by rw[List.mem_singleton.1 hx];decide) _ (by decide))
 ·have hN':Nd.nth (i+1) = { Nd.opened 0 1 Ts.none Fs.none with timer:=(i:Int)+1 } := by unfold Nd.nth;rw[if_pos (by omega)];rfl
  rw[hN']
  refine qround_any h _ ?_ rfl
  exact tick_wait (N := { Nd.opened 0 1 Ts.none Fs.none with timer:=(i:Int) }) h.nd (by show(0:Int)≠2;decide) (by show(0:Int)≤i;omega) (by show(i:Int)+1<4+2 * 0;omega) (by show 0≤5;omega)
end
def Nd.app(cs:List ByteArray):Nd := { Nd.one cs with applied:=cs.length }
theorem one_freshE(cs:List ByteArray):(Nd.one cs).freshE=ensF 1 cs:=by
 show(match Ts.at_ ⟨1,1,0,0,ByteArray.empty,ensF 1 cs⟩ (0+1)with | .none=>[]|some k=>((ensF 1 cs).drop k).take ((cs.length:Int) - 0).toNat)=_
 have:Ts.at_ ⟨1,1,0,0,ByteArray.empty,ensF 1 cs⟩ (0+1)=some 0:=by
  unfold Ts.at_
  rw[if_neg (by show ¬ (0+1:Int)≤0;omega),if_pos (by show(0+1 - 0 - 1:Int)≤((ensF 1 cs).length:Int);omega)]
  rfl
 rw[this]
 simp only[List.drop_zero]
 rw[List.take_of_length_le (by rw[ensF_len];omega)]
theorem one_fresh(cs:List ByteArray)(h:cs≠[]):(Nd.one cs).fresh=Nd.app cs:=by
 unfold Nd.fresh
 rw[one_freshE]
 obtain⟨r,c,rfl⟩:=List.eq_nil_or_concat cs |>.resolve_left h
 rw[List.concat_eq_append,ensF_snoc,List.getLast?_concat]
 unfold Nd.app
 congr 1
 simp;omega
def Fs.comp(n:Int)(snap:ByteArray):Fs:=⟨some ⟨#[]⟩,some (snB n 1 snap),some (tmB 1 1)⟩
def Ts.comp(n:Int)(snap:ByteArray):Ts:=⟨1,1,n,1,snap,[]⟩
def Nd.comp(cs:List ByteArray)(snap:ByteArray):Nd := { Nd.app cs with s:=Ts.comp cs.length snap,fs:=Fs.comp cs.length snap }
theorem app_restE(cs:List ByteArray):(Nd.app cs).restE=[]:=by
 show(match Ts.at_ ⟨1,1,0,0,ByteArray.empty,ensF 1 cs⟩ ((cs.length:Int)+1)with | .none=>[]|some k=>((ensF 1 cs).drop k).take ((ensF 1 cs).length:Int).toNat)=_
 have:Ts.at_ ⟨1,1,0,0,ByteArray.empty,ensF 1 cs⟩ ((cs.length:Int)+1)=some cs.length:=by
  unfold Ts.at_
  rw[if_neg (by show ¬ ((cs.length:Int)+1)≤0;omega),if_pos (by show((cs.length:Int)+1 - 0 - 1)≤((ensF 1 cs).length:Int);rw[ensF_len];omega)]
  congr 1
  show((cs.length:Int)+1 - 0 - 1).toNat=_
  omega
 rw[this]
 simp only
 rw[List.drop_of_length_le (by rw[ensF_len];omega),List.take_nil]
theorem app_compact(cs:List ByteArray)(snap:ByteArray):(Nd.app cs).compact 1 snap=Nd.comp cs snap:=by
 unfold Nd.compact
 rw[app_restE]
 rfl
theorem app_termAt(cs:List ByteArray)(h:cs≠[]):(Nd.app cs).s.termAt (Nd.app cs).applied=some 1:=by
 have hp:=List.length_pos_iff.2 h
 show Ts.termAt ⟨1,1,0,0,ByteArray.empty,ensF 1 cs⟩ (cs.length:Int)=_
 unfold Ts.termAt
 rw[if_neg (by show ¬ (cs.length:Int)=0;omega)]
 have:Ts.at_ ⟨1,1,0,0,ByteArray.empty,ensF 1 cs⟩ (cs.length:Int)=some (cs.length - 1):=by
  unfold Ts.at_
  rw[if_neg (by show ¬ (cs.length:Int)≤0;omega),if_pos (by show((cs.length:Int) - 0 - 1)≤((ensF 1 cs).length:Int);rw[ensF_len];omega)]
  congr 1
  show((cs.length:Int) - 0 - 1).toNat=_
  omega
 rw[this]
 have hlt:cs.length - 1<(ensF 1 cs).length:=by rw[ensF_len];omega
 show((ensF 1 cs)[cs.length - 1]?).map En.t=some 1
 rw[List.getElem?_eq_getElem hlt]
 exact congrArg some (ensF_mem 1 cs _ (List.getElem_mem hlt)).1
theorem comp_tot(n:Int)(snap:ByteArray)(h:snap.size≤500000):(Fs.comp n snap).tot≤600000:=by
 have h1:=tmB_len 1 1
 have h2:=(snB_len n 1 snap).1
 have h4:(Fs.comp n snap).tot=0+(snB n 1 snap).size+(tmB 1 1).size:=rfl
 omega
theorem comp_says(n:Nat)(snap:ByteArray)(hn:n≤1000)(h:snap.size≤500000):fsSays (Fs.comp n snap) (Ts.comp n snap) :=
 ⟨rfl,rfl,.inr ⟨rfl,by show(0:Int)≤1∧(1:Int)≤_;omega,by show(0:Int)≤1∧(1:Int)≤_;omega⟩,.inr ⟨rfl,by show(0:Int)≤n∧(n:Int)≤_;omega,by show(0:Int)≤1∧(1:Int)≤_;omega,by show snap.size≤_;omega⟩⟩
section
variable{w:World}{Q:Qa}{K:Ka}
set_option maxRecDepth 100000 in
theorem comp_one(cs:List ByteArray)(hne:cs≠[])(h:NetUp w Q K (Nd.app cs))(hl:cs.length≤20)(hc:∀c∈cs,c.size≤1000)(snap:ByteArray)(hs:snap.size≤500000)(hT:Tab w)(hTK:¬ K.has 0) :
 Calls Tryz.prog 16 #[.pointer (some ⟨Q.q,0,none⟩),.int .i64 0,.string snap] w fun e w'=>e=.returned (.int .i64 0)∧NetTo Q K w w' (Nd.comp cs snap)∧Chg K.core w w':=by
 have hp:=List.length_pos_iff.2 hne
 have ho:=one_ok cs hl hc cs.length (by omega)
 have hN:NdOk (Nd.app cs):=⟨ho.ts,ho.id,ho.n,ho.commit,ho.timer,ho.nx,ho.mt,ho.ml,ho.nl,ho.vl,ho.out,ho.fs⟩
 have htt:=lead_tot cs hl hc
 have hcm:=compact_any h.nd hN snap (by omega) 1 (app_termAt cs hne) (by omega) (by show(0:Int)<cs.length∧(cs.length:Int)≤_;omega) (by rw[app_restE];show 0≤1000;omega) (by rw[app_restE];intro x hx;cases hx) hT hTK (by rw[app_restE];show(Fs.lead cs).tot+snap.size+100+0≤_;omega)
 rw[app_compact]at hcm
 exact qcompact_any h (Nd.comp cs snap) snap hcm rfl
end
end Go.Proofs.YtkkbfdencgdbhaaGreatDoor
