/-
  Part 48 of what the law leans on.
-/
import Derived.Test.YtkkbfdencgdbhaaGreatDoorSA5
import Derived.Test.YtkkbfdencgdbhaaGreatDoorSA9
import Derived.Test.YtkkbfdencgdbhaaGreatDoorSA46
import Derived.Test.YtkkbfdencgdbhaaGreatDoorSA47
set_option linter.unusedVariables false
set_option linter.unusedSimpArgs false
set_option linter.unusedSectionVars false
namespace Go.Proofs.YtkkbfdencgdbhaaGreatDoor
open Go.RowKit
def tupI:Value→Nat→Value
 | .tuple xs,i=>xs.getD i undef
 | _,_=>undef
inductive Sv
 | v (x:Value)
 | f (g:Value→Value)
 | any
def Sv.is:Sv→Value→Value→Prop
 | .v x,_,y=>y=x
 | .f g, γ,y=>y=g γ
 | .any,_,_=>True
def Sv.isF:Sv→Bool
 | .f _=>true
 | _=>false
def svφ(sp:List Sv)(γ : Value)(d:Nat)(y:Value)(_w:World):Prop:=(sp.getD d .any).is γ y
def svDep(ops:Array Oper)(F:List Bool)(jc:Nat):Bool:=(List.range ops.size).all fun d=>d == jc || !(F.getD d false)||(List.range d).any (fun e=>needs ops d e&&(e == jc||F.getD e false))
theorem svDep_down{ops:Array Oper}{F:List Bool}{jc:Nat}(h:svDep ops F jc=true){L:Nat→Bool}(hdown:∀i d,L i=true→needs ops i d=true→L d=true):∀d,F.getD d false=true→d<ops.size→L d=true→L jc=true:=by
 intro d
 induction d using Nat.strongRecOn with
 | _ d ih =>
  intro hF hd hL
  have h1:=List.all_eq_true.1 h d (List.mem_range.2 hd)
  rw[hF]at h1
  by_cases e:d=jc
  ·rw[←e];exact hL
  ·simp only[beq_iff_eq,e,Bool.not_true,Bool.or_false,Bool.or_eq_true,false_or]at h1
   obtain⟨x,hx,hq⟩:=List.any_eq_true.1 h1
   rw[Bool.and_eq_true,Bool.or_eq_true]at hq
   have hLx:=hdown d x hL hq.1
   rcases hq.2 with hq2|hq2
   ·have:x=jc:=by simpa using hq2
    rw[←this];exact hLx
   ·exact ih x (List.mem_range.1 hx) hq2 (by have:=List.mem_range.1 hx;omega) hLx
section
variable{P:Program}{ops:Array Oper}{Q:Exit→Act→World→Prop}{a0:Act}{sp:List Sv}{W:World}{jc:Nat}{Post:Value→World→Prop}{j:Nat}{o:Oper}
theorem dstOf_lt{d:Nat}{t:Tmp}(hd:dstOf ops d=some t):d<ops.size:=by
 rcases Nat.lt_or_ge d ops.size with h|h
 ·exact h
 ·unfold dstOf at hd;rw[Array.getElem?_eq_none h]at hd;cases hd
variable(hdep:svDep ops (sp.map Sv.isF) jc=true)(hP:∀γ w w',Post γ w→Ext w w'→Post γ w')
include hdep hP
end
end Go.Proofs.YtkkbfdencgdbhaaGreatDoor
namespace Go.Proofs.YtkkbfdencgdbhaaGreatDoor
open Go.RowKit
def upwB(ops:Array Oper)(jc:Nat):Nat→Nat→Bool
 | 0,_=>false
 | f+1,j=>needs ops jc j||(List.range ops.size).any fun k=>needs ops k j&&upwB ops jc f k
theorem upwB_up{ops:Array Oper}{jc:Nat}{L:Nat→Bool}(hdown:∀i d,L i=true→needs ops i d=true→L d=true)(hL:L jc=true):∀f j,upwB ops jc f j=true→L j=true
 | 0,_,h=>by cases h
 | f+1,j,h=>by
  unfold upwB at h
  rw[Bool.or_eq_true]at h
  rcases h with h|h
  ·exact hdown jc j hL h
  ·obtain⟨k,_,hk⟩:=List.any_eq_true.1 h
   rw[Bool.and_eq_true]at hk
   exact hdown k j (upwB_up hdown hL f k hk.2) hk.1
def swG(W:World)(jc:Nat)(Post:Value→World→Prop)(γ : Value)(L:Nat→Bool)(w:World):Prop:=(L jc=false→w=W)∧(L jc=true→Post γ w)
section
variable{P:Program}{ops:Array Oper}{Q:Exit→Act→World→Prop}{a0:Act}{sp:List Sv}{W:World}{jc:Nat}{Post:Value→World→Prop}{j:Nat}{o:Oper}
structure SwIn (ops:Array Oper) (a0:Act) (sp:List Sv) (W:World) (jc:Nat) (Post:Value→World→Prop) (j:Nat) (γ : Value) (a:Act) (w:World):Prop where
 same:(j == jc||upwB ops jc 30 j)=true→w=W
 post:(sp.map Sv.isF).getD j false=true→j≠jc→Post γ w
 v:∀d t x,dstOf ops d=some t→needs ops j d=true→sp.getD d .any=.v x→a.tmps.getD t undef=x
 f:∀d t g,dstOf ops d=some t→needs ops j d=true→sp.getD d .any=.f g→a.tmps.getD t undef=g γ
 far:∀t,((List.range ops.size).all fun d=>dstOf ops d != some t)=true→a.tmps.getD t undef=a0.tmps.getD t undef
 late:∀t,((List.range ops.size).all fun d=>dstOf ops d != some t||d == j||needs ops d j)=true→a.tmps.getD t undef=a0.tmps.getD t undef
theorem SwIn.mk'(hdep:svDep ops (sp.map Sv.isF) jc=true)(hj:j<ops.size){γ : Value}{L:Nat→Bool}{v:Nat→Value}{a:Act}{w:World}(hdown:∀i d,L i=true→needs ops i d=true→L d=true)(hLj:L j=false)(hneed:∀d,needs ops j d=true→L d=true)(hG:swG W jc Post γ L w)(hφ : ∀d,L d=true→svφ sp γ d (v d) w)
 (hval:∀d t,dstOf ops d=some t→L d=true→a.tmps.getD t undef=v d) (h0:∀t,(∀d,L d=true→dstOf ops d≠some t)→a.tmps.getD t undef=a0.tmps.getD t undef):SwIn ops a0 sp W jc Post j γ a w:=by
 refine⟨fun hs=>hG.1 ?_,fun hF hne=>?_,fun d t x hd hn hs=>?_,fun d t g hd hn hs=>?_,fun t ht=>h0 t fun d _ hd=>?_,fun t ht=>h0 t fun d hLd hd=>?_⟩
 ·rw[Bool.or_eq_true]at hs
  rcases hs with hs|hs
  ·have:j=jc:=by simpa using hs
   rw[←this];exact hLj
  ·by_cases hL:L jc=true
   ·rw[upwB_up hdown hL _ _ hs]at hLj;cases hLj
   ·simpa using hL
 ·have h1:=List.all_eq_true.1 hdep j (List.mem_range.2 hj)
  rw[hF]at h1
  simp only[show(j == jc)=false by simpa using hne,Bool.not_true,Bool.or_false,Bool.false_or]at h1
  obtain⟨x,hx,hq⟩:=List.any_eq_true.1 h1
  rw[Bool.and_eq_true,Bool.or_eq_true]at hq
  have hLx:=hneed x hq.1
  refine hG.2 ?_
  rcases hq.2 with hq2|hq2
  ·have:x=jc:=by simpa using hq2
   rw[←this];exact hLx
  ·exact svDep_down hdep hdown x hq2 (by have:=List.mem_range.1 hx;omega) hLx
 ·have h1:=hφ d (hneed d hn)
  unfold svφ at h1
  rw[hs]at h1
  exact(hval d t hd (hneed d hn)).trans h1
 ·have h1:=hφ d (hneed d hn)
  unfold svφ at h1
  rw[hs]at h1
  exact(hval d t hd (hneed d hn)).trans h1
 ·have:=List.all_eq_true.1 ht d (List.mem_range.2 (dstOf_lt hd))
  rw[hd]at this
  simp at this
 ·have:=List.all_eq_true.1 ht d (List.mem_range.2 (dstOf_lt hd))
  rw[hd]at this
  simp at this
  rcases this with rfl|this
  ·rw[hLj]at hLd;cases hLd
  ·rw[hdown d j hLd this]at hLj;cases hLj
variable(hdep:svDep ops (sp.map Sv.isF) jc=true)
include hdep
theorem sw_step{y:Value→Value}(ho:ops[j]? = some o)(hg:o.guard=none)(hne:j≠jc)(hs:∀γ,(sp.getD j .any).is γ (y γ))
 (h:∀γ a w,SwIn ops a0 sp W jc Post j γ a w→(execOp a.eval o).run P w=.ok (.value (y γ)) w):StepAt P ops Q a0 (svφ sp) (swG W jc Post) j:=by
 intro γ L v a w hdown hLj hneed hGw hφ hval h0
 have hj:j<ops.size:=(Array.getElem?_eq_some_iff.1 ho).1
 refine wpOp_value ho hg (h γ a w (SwIn.mk' hdep hj hdown hLj hneed hGw hφ hval h0)) ⟨y γ, γ,rfl,hs γ,fun d _ _ hh=>hh,fun hL=>hGw.1 ?_,fun hL=>hGw.2 ?_⟩
 ·simpa[Ne.symm hne]using hL
 ·simpa[Ne.symm hne]using hL
theorem sw_val{x:Value}(ho:ops[j]? = some o)(hg:o.guard=none)(hne:j≠jc)(hs:sp.getD j .any=.v x)
 (h:∀γ a w,SwIn ops a0 sp W jc Post j γ a w→(execOp a.eval o).run P w=.ok (.value x) w):StepAt P ops Q a0 (svφ sp) (swG W jc Post) j :=
 sw_step hdep (y:=fun _=>x) ho hg hne (fun γ => by rw[hs];exact rfl) h
theorem sw_fun{g:Value→Value}(ho:ops[j]? = some o)(hg:o.guard=none)(hne:j≠jc)(hs:sp.getD j .any=.f g)
 (h:∀γ a w,SwIn ops a0 sp W jc Post j γ a w→Post γ w→(execOp a.eval o).run P w=.ok (.value (g γ)) w):StepAt P ops Q a0 (svφ sp) (swG W jc Post) j :=
 sw_step hdep (y:=g) ho hg hne (fun γ => by rw[hs];exact rfl) fun γ a w st=>h γ a w st (st.post (by
  have hj:j<sp.length:=by
   rcases Nat.lt_or_ge j sp.length with h|h
   ·exact h
   ·rw[List.getD_eq_getElem?_getD,List.getElem?_eq_none h]at hs;cases hs
  rw[List.getD_eq_getElem?_getD,List.getElem?_eq_getElem hj]at hs
  rw[List.getD_eq_getElem?_getD,List.getElem?_map,List.getElem?_eq_getElem hj]
  simp only[Option.getD_some]at hs
  simp[hs,Sv.isF]) hne)
theorem sw_call{f:FuncId}(hlen:sp.length≤ops.size)(ho:ops[jc]? = some o)(hg:o.guard=none)(hs:sp.getD jc .any=.f id)
 (h:∀γ a,SwIn ops a0 sp W jc Post jc γ a W→∃args,(execOp a.eval o).run P W=.ok (.enter f args) W∧Calls P f args W fun r w'=>∃x,r=.returned x∧Post x w'):StepAt P ops Q a0 (svφ sp) (swG W jc Post) jc:=by
 intro γ L v a w hdown hLj hneed hGw hφ hval h0
 have hj:jc<ops.size:=(Array.getElem?_eq_some_iff.1 ho).1
 have hin:=SwIn.mk' hdep hj hdown hLj hneed hGw hφ hval h0
 have hw:=hin.same (by simp)
 subst hw
 obtain⟨args,hrun,hcall⟩:=h γ a hin
 refine wpOp_calls ho hg hrun (hcall.mono ?_)
 rintro r w' ⟨x,rfl,hp⟩
 refine⟨x,rfl,x,x,rfl,?_,fun d hd hL hh=>?_,fun hL=>?_,fun _=>hp⟩
 ·unfold svφ
  rw[hs]
  exact rfl
 ·unfold svφ at hh⊢
  cases hsd:sp.getD d .any with
  | v y=>rw[hsd]at hh;exact hh
  | any=>trivial
  | f g =>
   exfalso
   have hdl:d<sp.length:=by
    rcases Nat.lt_or_ge d sp.length with h|h
    ·exact h
    ·rw[List.getD_eq_getElem?_getD,List.getElem?_eq_none h]at hsd;cases hsd
   have hF:(sp.map Sv.isF).getD d false=true:=by
    rw[List.getD_eq_getElem?_getD,List.getElem?_eq_getElem hdl]at hsd
    rw[List.getD_eq_getElem?_getD,List.getElem?_map,List.getElem?_eq_getElem hdl]
    simp only[Option.getD_some]at hsd
    simp[hsd,Sv.isF]
   rw[svDep_down hdep hdown d hF (Nat.lt_of_lt_of_le hdl hlen) hL]at hLj;cases hLj
 ·simp at hL
omit hdep in
theorem wp_region_callw{id:Nat}{w:World}(hm:P.follows .mixedOrders=true)(hback:backB ops=true)(hd:dstB ops a0.tmps.size=true)(steps:StepsTo P ops Q a0 (svφ sp) (swG w.drew jc Post) ops.size)(hj:jc<ops.size)
 (fin:∀γ v w',Post γ w'→(∀d,d<ops.size→(sp.getD d .any).is γ (v d))→Q .normal (putAll ops v a0 ops.size) w'):(Code.region id ops true).wp P Q a0 w :=
 wp_region_phi (Γ := Value) (svφ sp) (swG w.drew jc Post) hm hback hd undef ⟨fun _=>rfl,fun h=>by cases h⟩ steps fun γ L v w' hall hG hφ => fin γ v w' (hG.2 (hall jc hj)) hφ
end
end Go.Proofs.YtkkbfdencgdbhaaGreatDoor
namespace Go.Proofs.YtkkbfdencgdbhaaGreatDoor
open Go.RowKit Go.Sort
section
variable{w:World}{Q:Qa}{K:Ka}{N:Nd}(h:NetUp w Q K N)
include h
end
set_option maxRecDepth 100000 in
theorem qfail_any(w:World)(d m:Nat)(D:Dk)(hD:DkAt w d m D)(ha:D.armed=0) :
 Calls Tryz.prog 51 #[.pointer (some ⟨d,2,none⟩),.int .i64 (-1)] w fun e w'=>e=.returned (.tuple #[])∧Chg (fun k=>k=d) w w'∧DkAt w' d m D:=by
 have c3:w.cell? ⟨d,3,none⟩=some (.int .i64 D.armed):=hD.1.cell 3
 have f3:w.frozen? ⟨d,3,none⟩=false:=hD.1.frozen 3
 have hd:=hD.chg_armed 0
 have e:({ D with armed:=0 } : Dk)=D:=by rw[←ha]
 rw[e]at hd
 go_enter Tryz.func51,Tryz.ntmps51
 go_wp2_with fail
 refine bodyPost_ret (results_none rfl _ _ _) rfl ?_
 exact⟨rfl,(Chg.refl (fun k=>k=d) w).setCell (p:=⟨d,3,none⟩) (.inl rfl) _,hd⟩
end Go.Proofs.YtkkbfdencgdbhaaGreatDoor
namespace Go.Proofs.YtkkbfdencgdbhaaGreatDoor
open Go.RowKit Go.Sort
theorem qdisk_any(w:World):Calls Tryz.prog 26 #[.int .i64 4194304] w fun e w' =>
 ∃d m,e=.returned (.pointer (some ⟨d,0,none⟩))∧DkAt w' d m Fs.none.dk∧Ext w w'∧w.heap.size≤d∧w.heap.size≤m:=by
 have hmm := @run_makeMap Tryz.prog
 go_enter Tryz.func26,Tryz.ntmps26
 go_wp2_with fail
 refine(made_any _ _).mono ?_
 rintro e w1 ⟨rfl,hE⟩
 go_wp2_with fail
 go_ret
 refine⟨_,_,rfl,⟨At.new_eq (by simp) _ _,(MapAt.new strWay Fl.val w1).alloc _⟩,(hE.alloc _).alloc _,?_,hE.size⟩
 have:=hE.size
 omega
theorem nodep_info:(Tryz.prog.info? 45).map (fun i=>(i.zero,i.size,i.bytes))=some (some (.pointer none),1,8):=by kernel_rfl
theorem diskp_info:(Tryz.prog.info? 74).map (fun i=>(i.zero,i.size,i.bytes))=some (some (.pointer none),1,8):=by kernel_rfl
theorem none_says:fsSays Fs.none Ts.none:=⟨rfl,rfl,.inl ⟨rfl,rfl,rfl⟩,.inl ⟨rfl,rfl,rfl,rfl⟩⟩
end Go.Proofs.YtkkbfdencgdbhaaGreatDoor
namespace Go.Proofs.YtkkbfdencgdbhaaGreatDoor
open Go.RowKit Go.Sort
def ensF:Int→List ByteArray→List En
 | _,[]=>[]
 | k,c::r=>⟨k,1,c⟩::ensF (k+1) r
theorem ensF_len:∀(k:Int) (cs:List ByteArray),(ensF k cs).length=cs.length
 | _,[]=>rfl
 | k,c::r=>by simp[ensF,ensF_len (k+1) r]
theorem ba_append(a b:List UInt8):(⟨a.toArray⟩:ByteArray)++⟨b.toArray⟩=⟨(a++b).toArray⟩:=by
 apply ByteArray.ext
 rw[ByteArray.data_append]
 simp
section
variable{w:World}{Q:Qa}{K:Ka}
end
section
variable{w:World}{Q:Qa}{K:Ka}
end
end Go.Proofs.YtkkbfdencgdbhaaGreatDoor
namespace Go.Proofs.YtkkbfdencgdbhaaGreatDoor
open Go.RowKit Go.Sort
structure Ma where
 kind:Nat
 frm:Nat
 dst:Nat
 term:Nat
 idx:Nat
 lt:Nat
 cm:Nat
 ok:Bool
 cnt:Nat
structure Na where
 id:Nat
 n:Nat
 term:Nat
 vote:Nat
 len:Nat
 role:Nat
 ldr:Nat
 commit:Nat
 timer:Nat
 votes:List Bool
 mt:List Nat
 nx:List Nat
 out:List Ma
def chk(c:Bool)(a:Na):Option Na:=match c with
 | true=>some a
 | false=>none
def Na.send(a:Na)(m:Ma):Na := { a with out:=a.out++[{ m with frm:=a.id,term:=a.term }] }
def Na.lackM(a:Na)(i:Nat):Ma:=⟨3,0,i,0,a.nx.getD i 0 - 1,Nat.min (a.nx.getD i 0 - 1) 1,a.commit,false,Nat.min 4 (a.len - (a.nx.getD i 0 - 1))⟩
def Na.lacks(a:Na)(i:Nat):Na:=a.send (a.lackM i)
def Na.sendTo(a:Na)(i:Nat):Na:=bif Nat.beq i a.id then a else a.lacks i
def Na.sendAll(a:Na):Na:=(List.range a.n).foldl Na.sendTo a
def cntGe(i:Nat):List Nat→Nat
 | []=>0
 | x::r=>bif Nat.ble i x then cntGe i r+1 else cntGe i r
def advA(commit n:Nat)(mt:List Nat):Nat→Nat
 | 0=>commit
 | i+1=>bif Nat.ble (i+1) commit then commit else bif Nat.blt n (2 * cntGe (i+1) mt)then i+1 else advA commit n mt i
def Na.advance(a:Na):Na := { a with commit:=advA a.commit a.n a.mt a.len }
def Na.add(a:Na):Na := { a with len:=a.len+1,mt:=a.mt.set a.id (a.len+1) }
def Na.append(a:Na):Na:=a.add.sendAll.advance
def cntB:List Bool→Nat
 | []=>0
 | true::r=>cntB r+1
 | false::r=>cntB r
def Na.lead(a:Na):Na := { a with role:=2,ldr:=a.id+1,votes:=[],mt:=List.replicate a.n 0,nx:=List.replicate a.n (a.len+1) }
def Na.count(a:Na):Na:=bif Nat.blt a.n (2 * cntB a.votes)then a.lead.append else a
def Na.askTo(a:Na)(i:Nat):Na:=bif Nat.beq i a.id then a else a.send ⟨1,0,i,0,a.len,Nat.min a.len 1,0,false,0⟩
def Na.ask(a:Na):Na:=(List.range a.n).foldl Na.askTo a
def Na.stand(a:Na):Na := { a with term:=1,vote:=a.id+1,role:=1,ldr:=0,timer:=0,votes:=(List.replicate a.n false).set a.id true,mt:=[],nx:=[] }
def Na.elect(a:Na):Na:=a.stand.ask.count
def Na.good(a:Na):Bool:=Nat.blt a.id a.n&&Nat.ble a.n 5&&Nat.ble a.term 1&&Nat.ble a.vote 5&&Nat.ble a.len 21&&Nat.ble a.commit 21&&Nat.ble a.timer 100&&Nat.ble a.votes.length 5&&Nat.ble a.mt.length 5&&Nat.ble a.nx.length 5&&a.mt.all (fun x=>Nat.ble x 21)&&a.nx.all (fun x=>Nat.ble x 22)&&Nat.ble a.out.length 50
def Na.leads(a:Na):Bool:=Nat.beq a.role 2&&Nat.beq a.term 1&&Nat.beq a.mt.length a.n&&Nat.beq a.nx.length a.n&&a.nx.all (fun x=>Nat.ble 1 x&&Nat.ble x (a.len+1))
def Na.done(o:Option Na):Option Na:=match o with
 | none=>none
 | some a=>chk a.good a
def Na.askIn(a:Na)(m:Ma):Na:=({ a with term:=1,vote:=m.frm+1,role:=0,ldr:=0,timer:=0,votes:=[],mt:=[],nx:=[] }).send ⟨2,0,m.frm,0,0,0,0,true,0⟩
def Na.stepAsk(a:Na)(m:Ma):Option Na:=chk (Nat.beq a.term 0&&Nat.beq m.term 1&&Nat.beq a.len 0&&Nat.beq m.lt 0&&Nat.beq m.cnt 0) (a.askIn m)
def Na.voteIn(a:Na)(i:Nat):Na:=({ a with votes:=a.votes.set i true }).count
def Na.stepVote(a:Na)(m:Ma):Option Na:=bif Nat.beq a.role 1 then chk (Nat.beq m.term a.term&&Nat.beq a.term 1&&m.ok&&Nat.beq a.len 0&&Nat.beq a.votes.length a.n&&Nat.beq m.cnt 0) (a.voteIn m.frm)else chk (Nat.beq m.term a.term&&m.ok&&Nat.beq m.cnt 0) a
def Na.moreIn(a:Na)(m:Ma):Na:=({ a with role:=0,ldr:=m.frm+1,timer:=0,votes:=[],mt:=[],nx:=[],len:=Nat.max a.len (m.idx+m.cnt),commit:=Nat.max a.commit (Nat.min m.cm (m.idx+m.cnt)) }).send ⟨4,0,m.frm,0,m.idx+m.cnt,0,0,true,0⟩
def Na.stepMore(a:Na)(m:Ma):Option Na:=chk (Nat.beq m.term a.term&&Nat.beq a.term 1&&Nat.ble m.idx a.len&&Nat.beq m.lt (Nat.min m.idx 1)&&Nat.ble (m.idx+m.cnt) 21&&Nat.ble m.cm 21) (a.moreIn m)
def Na.hasIt(a:Na)(i x:Nat):Na := { a with mt:=a.mt.set i (Nat.max (a.mt.getD i 0) x) }
def Na.goes(a:Na)(i:Nat):Na := { a with nx:=a.nx.set i (Nat.max (a.nx.getD i 0) (a.mt.getD i 0+1)) }
def Na.had(a:Na)(i x:Nat):Na:=(a.hasIt i x).advance.goes i
def Na.haveIn(a:Na)(i x:Nat):Na:=bif Nat.ble ((a.had i x).nx.getD i 0) a.len&&Nat.beq (x+1) ((a.had i x).nx.getD i 0)then(a.had i x).lacks i else a.had i x
def Na.stepHave(a:Na)(m:Ma):Option Na:=chk (Nat.beq m.term a.term&&a.leads&&m.ok&&Nat.ble m.idx a.len&&Nat.beq m.cnt 0&&(a.had m.frm m.idx).good&&(a.had m.frm m.idx).leads) (a.haveIn m.frm m.idx)
def Na.step1(a:Na)(m:Ma):Option Na:=match m.kind with
 | 1=>a.stepAsk m
 | 2=>a.stepVote m
 | 3=>a.stepMore m
 | 4=>a.stepHave m
 | _=>none
def Na.step(a:Na)(m:Ma):Option Na:=match Nat.beq m.dst a.id&&Nat.blt m.frm a.n && !(Nat.beq m.frm a.id)with
 | true=>Na.done (a.step1 m)
 | false=>none
def Na.tick1(a:Na):Option Na:=bif Nat.beq a.role 2 then chk a.leads a.sendAll else bif Nat.blt (a.timer+1) (4+2 * a.id)then some { a with timer:=a.timer+1 } else chk (Nat.beq a.term 0&&Nat.beq a.len 0) ({ a with timer:=a.timer+1 } : Na).elect
def Na.tick(a:Na):Option Na:=Na.done a.tick1
def Na.prop(a:Na):Option Na:=match a.leads&&Nat.blt a.len 21 with
 | true=>Na.done (some a.append)
 | false=>none
structure Qn where
 nodes:List Na
 way:List Ma
def Na.sent(a:Na):Na := { a with out:=[] }
def Qn.after(q:Qn)(i:Nat)(a:Na):Option Qn:=match Nat.ble (q.way.length+a.out.length) 200 with
 | true=>some ⟨q.nodes.set i a.sent,q.way++a.out⟩
 | false=>none
def Qn.deliver(q:Qn):Option Qn:=match q.way with
 | []=>none
 | m::r=>match q.nodes[m.dst]? with
  | none=>none
  | some a=>match a.step m with
   | none=>none
   | some a'=>Qn.after ⟨q.nodes,r⟩ m.dst a'
def Qn.tick(q:Qn)(i:Nat):Option Qn:=match q.nodes[i]? with
 | none=>none
 | some a=>match a.tick with
  | none=>none
  | some a'=>q.after i a'
def Qn.delivers:Nat→Qn→Option Qn
 | 0,q=>some q
 | k+1,q=>match q.deliver with
  | none=>none
  | some q'=>Qn.delivers k q'
def Qn.ticks:Nat→Nat→Qn→Option Qn
 | 0,_,q=>some q
 | k+1,i,q=>match q.tick i with
  | none=>none
  | some q'=>Qn.ticks k (i+1) q'
def Qn.round(n:Nat)(q:Qn):Option Qn:=match Qn.delivers q.way.length q with
 | none=>none
 | some q'=>Qn.ticks n 0 q'
def Qn.rounds(n:Nat):Nat→Qn→Option Qn
 | 0,q=>some q
 | k+1,q=>match Qn.round n q with
  | none=>none
  | some q'=>Qn.rounds n k q'
def ledF(ns:List Na):Bool:=match ns with
 | []=>false
 | a::r=>Nat.beq a.role 2&&r.all fun b => !(Nat.beq b.role 2)
def Qn.prop(k:Nat)(q:Qn):Option Qn:=match ledF q.nodes with
 | false=>none
 | true=>match q.nodes[0]? with
  | none=>none
  | some a=>match Nat.beq a.len (k+1)with
   | false=>none
   | true=>match a.prop with
    | none=>none
    | some a'=>q.after 0 a'
def Na.opened(n i:Nat):Na:=⟨i,n,0,0,0,0,0,0,0,[],[],[],[]⟩
def Qn.new(n:Nat):Qn:=⟨(List.range n).map (Na.opened n),[]⟩
def Qn.told(n:Nat):Nat→Option Qn
 | 0=>Qn.rounds n 10 (Qn.new n)
 | k+1=>match Qn.told n k with
  | none=>none
  | some q=>match q.prop k with
   | none=>none
   | some q'=>Qn.round n q'
end Go.Proofs.YtkkbfdencgdbhaaGreatDoor
namespace Go.Proofs.YtkkbfdencgdbhaaGreatDoor
open Go.RowKit Go.Sort
def Ma.ms(E:List En)(m:Ma):Ms:=⟨m.kind,m.frm,m.dst,m.term,m.idx,m.lt,m.cm,m.ok,(E.drop m.idx).take m.cnt,ByteArray.empty⟩
def Na.ts(E:List En)(a:Na):Ts:=⟨a.term,a.vote,0,0,ByteArray.empty,E.take a.len⟩
def Na.fs(E:List En)(a:Na):Fs:=⟨if a.len=0 then .none else some ⟨(enFs (E.take a.len)).toArray⟩,.none,if a.term=0 then .none else some (tmB a.term a.vote)⟩
def Na.nd(E:List En)(a:Na):Nd:=⟨a.id,a.n,a.ts E,a.role,(a.ldr:Int) - 1,a.commit,0,a.timer,a.votes,a.mt.map fun x:Nat=>(x:Int),a.nx.map fun x:Nat=>(x:Int),a.out.map (Ma.ms E),a.fs E⟩
structure EOk (E:List En):Prop where
 len:E.length=21
 at_:∀(k:Nat) x,E[k]? = some x→x.i=(k:Int)+1∧x.t=1∧x.c.size≤1000
 c0:∀x,E[0]? = some x→x.c=ByteArray.empty
 size:∀j k,(enFs ((E.drop j).take k)).length≤30000
section
variable{E:List En}(hE:EOk E){a:Na}
theorem EOk.get(hE:EOk E){k:Nat}(hk:k<21):∃x,E[k]? = some x:=⟨_,List.getElem?_eq_getElem (by rw[hE.len];exact hk)⟩
theorem minOne{k:Nat}(h:0<k):Nat.min k 1=1:=by
 show min k 1=1
 omega
include hE
theorem ts_last(hl:a.len≤21):(a.ts E).last=((a.len:Int),((Nat.min a.len 1:Nat):Int)):=by
 unfold Ts.last
 have e:(a.ts E).log=E.take a.len:=rfl
 rw[e]
 by_cases h0:a.len=0
 ·rw[h0];rfl
 ·obtain⟨x,hx⟩:=hE.get (k:=a.len - 1) (by omega)
  have h1:(E.take a.len).getLast? = some x:=by
   rw[List.getLast?_eq_getElem?,List.length_take,hE.len,Nat.min_eq_left hl,List.getElem?_take,if_pos (by omega)]
   exact hx
  obtain⟨q1,q2,_⟩:=hE.at_ _ _ hx
  rw[h1,minOne (by omega)]
  simp only[q1,q2]
  congr 1
  omega
theorem ts_len(hl:a.len≤21):(a.ts E).log.length=a.len:=by
 show(E.take a.len).length=_
 rw[List.length_take,hE.len,Nat.min_eq_left hl]
theorem ts_termAt(hl:a.len≤21){k:Nat}(hk:k≤a.len):(a.ts E).termAt (k:Int)=some ((Nat.min k 1:Nat):Int):=by
 unfold Ts.termAt
 by_cases h0:k=0
 ·rw[h0];rfl
 ·obtain⟨x,hx⟩:=hE.get (k:=k - 1) (by omega)
  obtain⟨_,q2,_⟩:=hE.at_ _ _ hx
  have e0:(a.ts E).base=0:=rfl
  rw[e0,if_neg (by omega)]
  unfold Ts.at_
  rw[e0,ts_len hE hl,if_neg (by omega),if_pos (by omega)]
  have e1:((k:Int) - 0 - 1).toNat=k - 1:=by omega
  rw[e1,Option.bind_some]
  have e2:(a.ts E).log[k - 1]? = some x:=by
   show(E.take a.len)[k - 1]? = _
   rw[List.getElem?_take,if_pos (by omega)]
   exact hx
  rw[e2,minOne (by omega)]
  simp only[Option.map_some,q2]
  rfl
theorem ts_termNo(hl:a.len≤21){k:Nat}(hk:a.len<k):(a.ts E).termAt (k:Int)=none:=by
 unfold Ts.termAt
 have e0:(a.ts E).base=0:=rfl
 rw[e0,if_neg (by omega)]
 unfold Ts.at_
 rw[e0,ts_len hE hl,if_neg (by omega)]
 split
 ·rw[Option.bind_some,List.getElem?_eq_none (by rw[ts_len hE hl];omega)]
  rfl
 ·rfl
theorem ts_from(hl:a.len≤21){k:Nat}(hk:k≤a.len):(a.ts E).from_ ((k:Int)+1) 4=(E.drop k).take (Nat.min 4 (a.len - k)):=by
 unfold Ts.from_ Ts.at_
 have e0:(a.ts E).base=0:=rfl
 rw[e0,ts_len hE hl,if_neg (by omega),if_pos (by omega)]
 have e1:((k:Int)+1 - 0 - 1).toNat=k:=by omega
 simp only[e1]
 show((E.take a.len).drop k).take 4=_
 rw[List.drop_take,List.take_take]
omit hE in
theorem nd_send(m:Ma):(a.send m).nd E=(a.nd E).send (m.ms E):=by
 unfold Na.send Nd.send Na.nd
 simp only[List.map_append]
 rfl
omit hE in
theorem getD_cast(l:List Nat)(i:Nat):(l.map fun x:Nat=>(x:Int)).getD i 0=((l.getD i 0:Nat):Int):=by
 simp only[List.getD_eq_getElem?_getD,List.getElem?_map]
 cases l[i]? <;> rfl
def Na.may(a:Na)(i:Nat):Prop:=1≤a.nx.getD i 0∧a.nx.getD i 0≤a.len+1
theorem lackM_ms(hl:a.len≤21){i:Nat}(hm:a.may i):(a.nd E).lackM i=(a.lackM i).ms E:=by
 obtain⟨h1,h2⟩:=hm
 have e1:(a.nd E).nx.getD i 0 - 1=((a.nx.getD i 0 - 1:Nat):Int):=by
  show(a.nx.map _).getD i 0 - 1=_
  rw[getD_cast];omega
 have e2:(a.nd E).nx.getD i 0=((a.nx.getD i 0 - 1:Nat):Int)+1:=by
  show(a.nx.map _).getD i 0=_
  rw[getD_cast];omega
 unfold Nd.lackM
 rw[e1]
 have e3:(a.nd E).s=a.ts E:=rfl
 rw[e3,ts_termAt hE hl (by omega)]
 simp only
 rw[e2,ts_from hE hl (by omega)]
 rfl
theorem nd_lacks(hl:a.len≤21){i:Nat}(hm:a.may i):(a.lacks i).nd E=(a.nd E).lacks i:=by
 unfold Na.lacks Nd.lacks
 rw[nd_send,lackM_ms hE hl hm]
theorem nd_sendTo(hl:a.len≤21){i:Nat}(hm:i≠a.id→a.may i):(a.sendTo i).nd E=(a.nd E).sendTo i:=by
 unfold Na.sendTo Nd.sendTo
 have e:(a.nd E).id=a.id:=rfl
 rw[e]
 by_cases h:i=a.id
 ·rw[if_pos h,h,Nat.beq_refl];rfl
 ·rw[if_neg h]
  have h2:Nat.beq i a.id=false:=by
   cases hb:Nat.beq i a.id with
   | false=>rfl
   | true=>exact absurd (Nat.eq_of_beq_eq_true hb) h
  rw[h2]
  exact nd_lacks hE hl (hm h)
omit hE in
theorem sendTo_same(i:Nat):(a.sendTo i).id=a.id∧(a.sendTo i).n=a.n∧(a.sendTo i).len=a.len∧(a.sendTo i).nx=a.nx∧(a.sendTo i).term=a.term∧(a.sendTo i).mt=a.mt∧(a.sendTo i).commit=a.commit∧(a.sendTo i).votes=a.votes∧(a.sendTo i).vote=a.vote∧(a.sendTo i).timer=a.timer∧(a.sendTo i).out.length≤a.out.length+1:=by
 unfold Na.sendTo
 cases Nat.beq i a.id
 ·refine⟨rfl,rfl,rfl,rfl,rfl,rfl,rfl,rfl,rfl,rfl,?_⟩
  show(a.out++[_]).length≤_
  simp
 ·exact⟨rfl,rfl,rfl,rfl,rfl,rfl,rfl,rfl,rfl,rfl,by show a.out.length≤_;omega⟩
theorem nd_sendList:∀(l:List Nat) (a:Na),a.len≤21→(∀i∈l,i≠a.id→a.may i)→(l.foldl Na.sendTo a).nd E=l.foldl Nd.sendTo (a.nd E)
 | [],_,_,_=>rfl
 | i::l,a,hl,h=>by
  obtain⟨s1,s2,s3,s4,_⟩:=sendTo_same (a:=a) i
  rw[List.foldl_cons,List.foldl_cons,←nd_sendTo hE hl (h i (List.mem_cons_self ..))]
  refine nd_sendList l (a.sendTo i) (by omega) fun j hj hne=>?_
  rw[s1]at hne
  have:=h j (List.mem_cons_of_mem _ hj) hne
  unfold Na.may at this⊢
  rw[s3,s4]
  exact this
omit hE in
theorem sendList_same:∀(l:List Nat) (a:Na),(l.foldl Na.sendTo a).id=a.id∧(l.foldl Na.sendTo a).n=a.n∧(l.foldl Na.sendTo a).len=a.len∧(l.foldl Na.sendTo a).nx=a.nx∧(l.foldl Na.sendTo a).term=a.term∧(l.foldl Na.sendTo a).mt=a.mt∧(l.foldl Na.sendTo a).commit=a.commit∧(l.foldl Na.sendTo a).votes=a.votes∧(l.foldl Na.sendTo a).vote=a.vote∧(l.foldl Na.sendTo a).timer=a.timer∧(l.foldl Na.sendTo a).out.length≤a.out.length+l.length
 | [],_=>⟨rfl,rfl,rfl,rfl,rfl,rfl,rfl,rfl,rfl,rfl,Nat.le_refl _⟩
 | i::l,a=>by
  obtain⟨s1,s2,s3,s4,s5,s6,s7,s8,s9,sa,sb⟩:=sendTo_same (a:=a) i
  obtain⟨t1,t2,t3,t4,t5,t6,t7,t8,t9,ta,tb⟩:=sendList_same l (a.sendTo i)
  rw[List.foldl_cons,List.length_cons]
  exact⟨t1.trans s1,t2.trans s2,t3.trans s3,t4.trans s4,t5.trans s5,t6.trans s6,t7.trans s7,t8.trans s8,t9.trans s9,ta.trans sa,by omega⟩
theorem nd_sendAll(hl:a.len≤21)(hm:∀i,i<a.n→i≠a.id→a.may i):(a.sendAll).nd E=(a.nd E).sendAll:=by
 unfold Na.sendAll Nd.sendAll
 exact nd_sendList hE _ a hl fun i hi hne=>hm i (List.mem_range.1 hi) hne
omit hE in
theorem cntGe_filter(k:Nat):∀l:List Nat,((l.map fun x:Nat=>(x:Int)).filter fun y=>decide ((k:Int)≤y)).length=cntGe k l
 | []=>rfl
 | x::r=>by
  have ih:=cntGe_filter k r
  rw[List.map_cons,List.filter_cons]
  unfold cntGe
  cases hb:Nat.ble k x with
  | true =>
   have h:=Nat.le_of_ble_eq_true hb
   rw[if_pos (by simp;omega),List.length_cons,ih]
   rfl
  | false =>
   have h:¬ k≤x:=fun h=>by rw[Nat.ble_eq_true_of_le h]at hb;cases hb
   rw[if_neg (by simp;omega),ih]
   rfl
theorem advA_go(commit n:Nat)(mt:List Nat):∀k,k≤21→advGo 1 (commit:Int) n (mt.map fun x:Nat=>(x:Int)) (E.take k).reverse=((advA commit n mt k:Nat):Int)
 | 0,_=>rfl
 | k+1,hk=>by
  obtain⟨x,hx⟩:=hE.get (k:=k) (by omega)
  obtain⟨q1,q2,_⟩:=hE.at_ _ _ hx
  have e:(E.take (k+1)).reverse=x::(E.take k).reverse:=by
   rw[List.take_add_one,hx];simp
  rw[e]
  unfold advGo advA
  have hc:=cntGe_filter (k+1) mt
  rw[q2,q1]
  cases hb:Nat.ble (k+1) commit with
  | true =>
   have h:=Nat.le_of_ble_eq_true hb
   rw[if_pos (.inr (by omega))]
   rfl
  | false =>
   have h:¬ k+1≤commit:=fun h=>by rw[Nat.ble_eq_true_of_le h]at hb;cases hb
   rw[if_neg (by omega)]
   have e2:(((k:Int)+1))=((k+1:Nat):Int):=by omega
   rw[e2,hc]
   cases hb2:Nat.blt n (2 * cntGe (k+1) mt)with
   | true =>
    have h2:n+1≤2 * cntGe (k+1) mt:=Nat.le_of_ble_eq_true hb2
    rw[if_pos (by omega)]
    rfl
   | false =>
    have h2:¬ n+1≤2 * cntGe (k+1) mt:=fun h2=>by
     have:Nat.blt n (2 * cntGe (k+1) mt)=true:=Nat.ble_eq_true_of_le h2
     rw[hb2]at this;cases this
    rw[if_neg (by omega)]
    exact advA_go commit n mt k (by omega)
theorem nd_advance(hl:a.len≤21)(ht:a.term=1):(a.advance).nd E=(a.nd E).advance:=by
 have h:=advA_go hE a.commit a.n a.mt a.len hl
 unfold Nd.advance
 have e:(a.nd E).s.term=1:=by show((a.term:Nat):Int)=1;rw[ht];rfl
 rw[e]
 have h':advGo 1 (a.nd E).commit (a.nd E).n (a.nd E).mt (a.nd E).s.log.reverse=((advA a.commit a.n a.mt a.len:Nat):Int):=h
 rw[h']
 rfl
omit hE in
theorem fs_add{k:Nat}(l:List En)(hk:0<k)(hl:l=(E.drop a.len).take k):lgAdd (a.fs E) l=({ a with len:=a.len+k } : Na).fs E:=by
 have e:(E.take a.len)++l=E.take (a.len+k):=by
  rw[hl,List.take_add]
 unfold lgAdd Na.fs Fs.put
 simp only
 rw[if_neg (show ¬ (a.len+k=0)by omega),←e]
 by_cases h0:a.len=0
 ·rw[if_pos h0,h0]
  have e2:(ByteArray.empty:ByteArray)=⟨([]:List UInt8).toArray⟩:=rfl
  simp only[Option.getD_none,List.take_zero,List.nil_append]
  rw[e2,ba_append,List.nil_append]
 ·rw[if_neg h0]
  simp only[Option.getD_some]
  rw[ba_append]
  simp[enFs]
theorem nd_nextE(hl:a.len<21)(ht:a.term=1){x:En}(hx:E[a.len]? = some x):(a.nd E).nextE x.c=x:=by
 obtain⟨q1,q2,_⟩:=hE.at_ _ _ hx
 unfold Nd.nextE
 have e:(a.nd E).s.last=_:=ts_last hE (a:=a) (by omega)
 have e2:(a.nd E).s.term=1:=by show((a.term:Nat):Int)=1;rw[ht];rfl
 rw[e,e2]
 cases x
 simp only at q1 q2
 simp only[q1,q2]
theorem nd_add(hl:a.len<21)(ht:a.term=1){x:En}(hx:E[a.len]? = some x):(a.add).nd E=(a.nd E).add x.c:=by
 have hn:=nd_nextE hE hl ht hx
 obtain⟨q1,q2,_⟩:=hE.at_ _ _ hx
 have hd:[x]=(E.drop a.len).take 1:=by
  rw[List.drop_eq_getElem_cons (by rw[hE.len];omega)]
  have:=List.getElem?_eq_getElem (l:=E) (i:=a.len) (by rw[hE.len];omega)
  rw[hx]at this
  injection this with this
  rw[←this];rfl
 have hf:=fs_add (a:=a) (k:=1) [x] (by decide) hd
 have he:(E.take a.len)++[x]=E.take (a.len+1):=by rw[hd,List.take_add]
 unfold Nd.add
 rw[hn]
 unfold Na.add Na.nd
 simp only[Ts.add]
 rw[hf]
 unfold Na.ts
 simp only
 rw[he,q1]
 simp only[List.map_set]
 rfl
omit hE in
theorem nd_lead0:((a.nd E).s.last.1=(a.len:Int))→(a.lead).nd E=(a.nd E).lead:=fun h=>by
 unfold Nd.lead
 rw[h]
 unfold Na.lead Na.nd
 simp only[List.map_replicate,List.map_nil]
 congr 1
 ·show((a.id+1:Nat):Int) - 1=(a.id:Int)
  omega
theorem nd_lead(hl:a.len≤21):(a.lead).nd E=(a.nd E).lead:=nd_lead0 (by
 have e:(a.nd E).s.last=_:=ts_last hE (a:=a) hl
 rw[e])
omit hE in
theorem leads_may{a:Na}(h:a.leads=true):a.role=2∧a.term=1∧a.mt.length=a.n∧a.nx.length=a.n∧∀i,i<a.n→a.may i:=by
 unfold Na.leads at h
 simp only[Bool.and_eq_true,List.all_eq_true]at h
 obtain⟨⟨⟨⟨h1,h2⟩,h3⟩,h4⟩,h5⟩:=h
 refine⟨Nat.eq_of_beq_eq_true h1,Nat.eq_of_beq_eq_true h2,Nat.eq_of_beq_eq_true h3,Nat.eq_of_beq_eq_true h4,fun i hi=>?_⟩
 have h4':=Nat.eq_of_beq_eq_true h4
 have hx:a.nx[i]? = some a.nx[i]:=List.getElem?_eq_getElem (by omega)
 have hm:=h5 _ (List.mem_of_getElem? hx)
 unfold Na.may
 rw[List.getD_eq_getElem?_getD,hx,Option.getD_some]
 exact⟨Nat.le_of_ble_eq_true hm.1,Nat.le_of_ble_eq_true hm.2⟩
theorem nd_append(hl:a.len<21)(ht:a.term=1)(hm:∀i,i<a.n→i≠a.id→a.may i){x:En}(hx:E[a.len]? = some x):(a.append).nd E=(a.nd E).append x.c:=by
 unfold Na.append Nd.append
 have hs:(a.add.sendAll).nd E=((a.nd E).add x.c).sendAll:=by
  rw[←nd_add hE hl ht hx]
  refine nd_sendAll hE (a:=a.add) (by show a.len+1≤21;omega) fun i hi hne=>?_
  obtain⟨h1,h2⟩:=hm i hi hne
  exact⟨h1,Nat.le_succ_of_le h2⟩
 rw[←hs]
 obtain⟨t1,t2,t3,t4,t5,_⟩:=sendList_same (List.range a.add.n) a.add
 have e1:a.add.sendAll.len=a.add.len:=t3
 have e2:a.add.sendAll.term=a.add.term:=t5
 have e3:a.add.len=a.len+1:=rfl
 exact nd_advance hE (a:=a.add.sendAll) (by omega) (e2.trans ht)
omit hE in
theorem cntB_filter:∀l:List Bool,(l.filter fun b=>b).length=cntB l
 | []=>rfl
 | true::r=>by
  have:=cntB_filter r
  rw[List.filter_cons,if_pos rfl,List.length_cons,this];rfl
 | false::r=>by
  have:=cntB_filter r
  rw[List.filter_cons,if_neg (by simp),this];rfl
theorem nd_count(ht:a.term=1)(h0:a.len=0):(a.count).nd E=(a.nd E).count:=by
 unfold Na.count Nd.count Nd.yes
 have e1:(a.nd E).votes=a.votes:=rfl
 have e2:(a.nd E).n=a.n:=rfl
 rw[e1,e2,cntB_filter]
 cases hb:Nat.blt a.n (2 * cntB a.votes)with
 | true =>
  have h2:a.n+1≤2 * cntB a.votes:=Nat.le_of_ble_eq_true hb
  rw[if_pos (by omega)]
  obtain⟨x,hx⟩:=hE.get (k:=0) (by omega)
  have hc:=hE.c0 x hx
  rw[←hc,←nd_lead hE (a:=a) (by omega)]
  refine nd_append hE (a:=a.lead) (by show a.len<21;omega) ht (fun i hi hne=>?_) (by show E[a.len]? = _;rw[h0];exact hx)
  unfold Na.may
  have hi':i<a.n:=hi
  have e:a.lead.nx.getD i 0=a.len+1:=by
   show(List.replicate a.n (a.len+1)).getD i 0=_
   rw[List.getD_eq_getElem?_getD,List.getElem?_replicate,if_pos hi'];rfl
  rw[e]
  exact⟨by omega,Nat.le_refl _⟩
 | false =>
  have h2:¬ a.n+1≤2 * cntB a.votes:=fun h2=>by
   have:Nat.blt a.n (2 * cntB a.votes)=true:=Nat.ble_eq_true_of_le h2
   rw[hb]at this;cases this
  rw[if_neg (by omega)]
  rfl
theorem nd_askTo(hl:a.len≤21)(i:Nat):(a.askTo i).nd E=(a.nd E).askTo i:=by
 unfold Na.askTo Nd.askTo
 have e:(a.nd E).id=a.id:=rfl
 rw[e]
 by_cases h:i=a.id
 ·rw[if_pos h,h,Nat.beq_refl];rfl
 ·rw[if_neg h]
  have h2:Nat.beq i a.id=false:=by
   cases hb:Nat.beq i a.id with
   | false=>rfl
   | true=>exact absurd (Nat.eq_of_beq_eq_true hb) h
  rw[h2]
  show(a.send _).nd E=_
  rw[nd_send]
  have e:(a.nd E).s.last=_:=ts_last hE (a:=a) hl
  rw[e]
  rfl
omit hE in
theorem askTo_same(i:Nat):(a.askTo i).id=a.id∧(a.askTo i).n=a.n∧(a.askTo i).len=a.len∧(a.askTo i).nx=a.nx∧(a.askTo i).term=a.term∧(a.askTo i).mt=a.mt∧(a.askTo i).commit=a.commit∧(a.askTo i).votes=a.votes∧(a.askTo i).vote=a.vote∧(a.askTo i).timer=a.timer∧(a.askTo i).out.length≤a.out.length+1:=by
 unfold Na.askTo
 cases Nat.beq i a.id
 ·refine⟨rfl,rfl,rfl,rfl,rfl,rfl,rfl,rfl,rfl,rfl,?_⟩
  show(a.out++[_]).length≤_
  simp
 ·exact⟨rfl,rfl,rfl,rfl,rfl,rfl,rfl,rfl,rfl,rfl,by show a.out.length≤_;omega⟩
omit hE in
theorem askList_same:∀(l:List Nat) (a:Na),(l.foldl Na.askTo a).id=a.id∧(l.foldl Na.askTo a).n=a.n∧(l.foldl Na.askTo a).len=a.len∧(l.foldl Na.askTo a).nx=a.nx∧(l.foldl Na.askTo a).term=a.term∧(l.foldl Na.askTo a).mt=a.mt∧(l.foldl Na.askTo a).commit=a.commit∧(l.foldl Na.askTo a).votes=a.votes∧(l.foldl Na.askTo a).vote=a.vote∧(l.foldl Na.askTo a).timer=a.timer∧(l.foldl Na.askTo a).out.length≤a.out.length+l.length
 | [],_=>⟨rfl,rfl,rfl,rfl,rfl,rfl,rfl,rfl,rfl,rfl,Nat.le_refl _⟩
 | i::l,a=>by
  obtain⟨s1,s2,s3,s4,s5,s6,s7,s8,s9,sa,sb⟩:=askTo_same (a:=a) i
  obtain⟨t1,t2,t3,t4,t5,t6,t7,t8,t9,ta,tb⟩:=askList_same l (a.askTo i)
  rw[List.foldl_cons,List.length_cons]
  exact⟨t1.trans s1,t2.trans s2,t3.trans s3,t4.trans s4,t5.trans s5,t6.trans s6,t7.trans s7,t8.trans s8,t9.trans s9,ta.trans sa,by omega⟩
theorem nd_askList:∀(l:List Nat) (a:Na),a.len≤21→(l.foldl Na.askTo a).nd E=l.foldl Nd.askTo (a.nd E)
 | [],_,_=>rfl
 | i::l,a,hl=>by
  obtain⟨s1,s2,s3,_⟩:=askTo_same (a:=a) i
  rw[List.foldl_cons,List.foldl_cons,←nd_askTo hE hl i]
  exact nd_askList l (a.askTo i) (by omega)
omit hE in
theorem nd_stand(ht:a.term=0):(a.stand).nd E=(a.nd E).stand:=by
 unfold Na.stand Nd.stand Nd.keep Nd.follow Na.nd Na.ts Na.fs Fs.put
 simp only[ht,List.map_nil]
 rfl
theorem nd_elect(ht:a.term=0)(h0:a.len=0):(a.elect).nd E=(a.nd E).elect:=by
 unfold Na.elect Nd.elect
 have e:(a.stand.ask).nd E=(a.nd E).stand.ask:=by
  rw[←nd_stand ht]
  exact nd_askList hE (List.range a.stand.n) a.stand (by show a.len≤21;omega)
 rw[←e]
 obtain⟨t1,t2,t3,t4,t5,_⟩:=askList_same (List.range a.stand.n) a.stand
 have e1:a.stand.ask.term=a.stand.term:=t5
 have e2:a.stand.ask.len=a.stand.len:=t3
 exact nd_count hE (a:=a.stand.ask) e1 (e2.trans h0)
omit hE in
theorem nd_askIn{m:Ma}(ht:m.term=1):(a.askIn m).nd E=(a.nd E).askIn (m.ms E):=by
 unfold Na.askIn Nd.askIn
 rw[nd_send]
 congr 1
 unfold Nd.voted1 Nd.keep Nd.follow Na.nd Na.ts Na.fs Fs.put Ma.ms
 simp only[ht,List.map_nil]
 rfl
theorem nd_voteIn(ht:a.term=1)(h0:a.len=0)(i:Nat):(a.voteIn i).nd E=(a.nd E).voteIn i:=by
 unfold Na.voteIn Nd.voteIn
 exact nd_count hE (a := { a with votes:=a.votes.set i true }) ht h0
theorem ms_last{m:Ma}(h:m.idx+m.cnt≤21):moreLast (m.ms E)=((m.idx+m.cnt:Nat):Int):=by
 unfold moreLast
 have e:(m.ms E).es=(E.drop m.idx).take m.cnt:=rfl
 rw[e]
 by_cases h0:m.cnt=0
 ·rw[h0];rfl
 ·obtain⟨x,hx⟩:=hE.get (k:=m.idx+m.cnt - 1) (by omega)
  obtain⟨q1,_⟩:=hE.at_ _ _ hx
  have hl:((E.drop m.idx).take m.cnt).length=m.cnt:=by
   rw[List.length_take,List.length_drop,hE.len];omega
  have h1:((E.drop m.idx).take m.cnt).getLast? = some x:=by
   rw[List.getLast?_eq_getElem?,hl,List.getElem?_take,if_pos (by omega),List.getElem?_drop]
   rw[show m.idx+(m.cnt - 1)=m.idx+m.cnt - 1 by omega]
   exact hx
  rw[h1]
  simp only[q1]
  omega
omit hE in
theorem natmax(a b:Nat):((Nat.max a b:Nat):Int)=max (a:Int) (b:Int):=by
 show((max a b:Nat):Int)=_
 omega
omit hE in
theorem natmin(a b:Nat):((Nat.min a b:Nat):Int)=min (a:Int) (b:Int):=by
 show((min a b:Nat):Int)=_
 omega
def Na.newE(E:List En)(a:Na)(m:Ma):List En:=(E.drop a.len).take (m.idx+m.cnt - a.len)
def Na.oldE(E:List En)(a:Na)(m:Ma):List En:=(E.drop m.idx).take (Nat.min m.cnt (a.len - m.idx))
def Na.moreB(a:Na)(m:Ma):Na := { a with role:=0,ldr:=m.frm+1,timer:=0,votes:=[],mt:=[],nx:=[],len:=Nat.max a.len (m.idx+m.cnt),commit:=Nat.max a.commit (Nat.min m.cm (m.idx+m.cnt)) }
theorem nd_moreB{m:Ma}(hc:m.idx+m.cnt≤21):(a.moreB m).nd E = { ((a.nd E).heard (m.frm:Int)).addN (a.newE E m)with commit:=max ((a.nd E).heard (m.frm:Int)).commit (min (m.ms E).cm (moreLast (m.ms E))) } := by
 unfold Na.moreB
 rw[ms_last hE hc]
 have hcm:max ((a.nd E).heard (m.frm:Int)).commit (min (m.ms E).cm ((m.idx+m.cnt:Nat):Int))=((Nat.max a.commit (Nat.min m.cm (m.idx+m.cnt)):Nat):Int):=by
  rw[natmax,natmin];rfl
 have hlog:E.take a.len++a.newE E m=E.take (Nat.max a.len (m.idx+m.cnt)):=by
  unfold Na.newE
  rw[←List.take_add]
  congr 1
  show a.len+_=max a.len (m.idx+m.cnt)
  omega
 rw[hcm]
 have hld:((m.frm+1:Nat):Int) - 1=(m.frm:Int):=by omega
 by_cases h0:a.newE E m=[]
 ·have h1:m.idx+m.cnt≤a.len:=by
   have:=congrArg List.length h0
   unfold Na.newE at this
   rw[List.length_take,List.length_drop,hE.len]at this
   simp at this
   omega
  have h2:Nat.max a.len (m.idx+m.cnt)=a.len:=by show max _ _=_;omega
  unfold Nd.addN
  rw[if_pos h0]
  unfold Nd.heard Nd.follow Na.nd Na.ts Na.fs
  simp only[List.map_nil,h2,hld]
  rfl
 ·have h1:a.len<m.idx+m.cnt:=by
   rcases Nat.lt_or_ge a.len (m.idx+m.cnt)with h|h
   ·exact h
   ·exact absurd (by unfold Na.newE;rw[show m.idx+m.cnt - a.len=0 by omega,List.take_zero]) h0
  have h2:Nat.max a.len (m.idx+m.cnt)=m.idx+m.cnt:=by show max _ _=_;omega
  have hf:=fs_add (E:=E) (a:=a) (k:=m.idx+m.cnt - a.len) (a.newE E m) (by omega) rfl
  rw[show a.len+(m.idx+m.cnt - a.len)=m.idx+m.cnt by omega]at hf
  unfold Nd.addN
  rw[if_neg h0]
  unfold Nd.addL
  have e1:((a.nd E).heard (m.frm:Int)).fs=a.fs E:=rfl
  rw[e1,hf]
  rw[h2]at hlog
  unfold Nd.heard Nd.follow Na.nd Ts.addL
  simp only[List.map_nil,h2,hld]
  unfold Na.ts
  simp only[hlog]
  rfl
theorem nd_moreIn{m:Ma}(hc:m.idx+m.cnt≤21):(a.moreIn m).nd E=(a.nd E).moreIn (m.ms E) (a.newE E m):=by
 have e:a.moreIn m=(a.moreB m).send ⟨4,0,m.frm,0,m.idx+m.cnt,0,0,true,0⟩:=rfl
 unfold Nd.moreIn Nd.more
 rw[e,nd_send,nd_moreB hE hc,ms_last hE hc]
 rfl
omit hE in
theorem nd_hasIt(i x:Nat):(a.hasIt i x).nd E=(a.nd E).hasIt i (x:Int):=by
 unfold Na.hasIt Nd.hasIt
 have e:(a.nd E).mt=a.mt.map fun x:Nat=>(x:Int):=rfl
 rw[e,getD_cast,←natmax]
 unfold Na.nd
 simp only[List.map_set]
 rfl
theorem nd_had{i x:Nat}(hl:a.len≤21)(ht:a.term=1):(a.had i x).nd E=(a.nd E).had i (x:Int):=by
 have h1:=nd_hasIt (E:=E) (a:=a) i x
 have h2:((a.hasIt i x).advance).nd E=((a.nd E).hasIt i (x:Int)).advance:=by
  rw[←h1]
  exact nd_advance hE (a:=a.hasIt i x) hl ht
 unfold Na.had Nd.had
 rw[←h2]
 generalize (a.hasIt i x).advance=b
 unfold Na.goes Nd.goes
 have e:(b.nd E).mt=b.mt.map fun x:Nat=>(x:Int):=rfl
 have e2:(b.nd E).nx=b.nx.map fun x:Nat=>(x:Int):=rfl
 rw[e,e2,getD_cast,getD_cast]
 have e3:max ((b.nx.getD i 0:Nat):Int) (((b.mt.getD i 0:Nat):Int)+1)=((Nat.max (b.nx.getD i 0) (b.mt.getD i 0+1):Nat):Int):=by
  rw[natmax];rfl
 rw[e3]
 unfold Na.nd
 simp only[List.map_set]
 rfl
theorem nd_haveIn{i x:Nat}(hl:a.len≤21)(ht:a.term=1)(hm:(a.had i x).may i):(a.haveIn i x).nd E=(a.nd E).haveIn i (x:Int):=by
 have h3:=nd_had hE (a:=a) (i:=i) (x:=x) hl ht
 unfold Na.haveIn Nd.haveIn
 rw[←h3]
 have e2:((a.had i x).nd E).nx.getD i 0=(((a.had i x).nx.getD i 0:Nat):Int):=getD_cast _ _
 have e3:(a.nd E).s.last=_:=ts_last hE (a:=a) hl
 rw[e2,e3]
 simp only
 have hlk:=nd_lacks hE (a:=a.had i x) hl hm
 cases hb:(Nat.ble ((a.had i x).nx.getD i 0) a.len&&Nat.beq (x+1) ((a.had i x).nx.getD i 0))with
 | true =>
  obtain⟨b1,b2⟩:=Bool.and_eq_true_iff.1 hb
  have b1:=Nat.le_of_ble_eq_true b1
  have b2:=Nat.eq_of_beq_eq_true b2
  rw[if_pos (by omega)]
  exact hlk
 | false =>
  rw[if_neg]
  ·rfl
  ·rintro⟨c1,c2⟩
   have b1:Nat.ble ((a.had i x).nx.getD i 0) a.len=true:=Nat.ble_eq_true_of_le (by omega)
   have b2:x+1=(a.had i x).nx.getD i 0:=by omega
   rw[b1,b2,Nat.beq_refl]at hb
   cases hb
theorem nd_moreOk{m:Ma}(hl:a.len≤21)(hi:m.idx≤a.len)(hc:m.idx+m.cnt≤21)(hlt:m.lt=Nat.min m.idx 1)(hcm:m.cm≤21)(hfs:(a.fs E).tot+osz (a.fs E).lg≤100000):MoreOk ((a.nd E).heard m.frm) (m.ms E) (a.oldE E m) (a.newE E m):=by
 have hx:∀(k:Nat) x,E[k]? = some x→x.i=(k:Int)+1∧x.t=1∧x.c.size≤1000:=hE.at_
 have es:(m.ms E).es=(E.drop m.idx).take m.cnt:=rfl
 have hesl:(m.ms E).es.length≤21:=by rw[es,List.length_take,List.length_drop,hE.len];omega
 refine⟨?_,.inr ?_,fun x hx'=>?_,fun x r hx'=>?_,?_,fun x hx'=>?_,?_,?_,?_⟩
 ·rw[es]
  unfold Na.oldE Na.newE
  have e:m.cnt=Nat.min m.cnt (a.len - m.idx)+(m.cnt - Nat.min m.cnt (a.len - m.idx)):=by
   have:Nat.min m.cnt (a.len - m.idx)=min m.cnt (a.len - m.idx):=rfl
   omega
  conv=>lhs;rw[e]
  rw[List.take_add,List.drop_drop]
  have hmin:Nat.min m.cnt (a.len - m.idx)=min m.cnt (a.len - m.idx):=rfl
  rcases Nat.lt_or_ge a.len (m.idx+m.cnt)with h|h
  ·rw[show m.idx+Nat.min m.cnt (a.len - m.idx)=a.len by rw[hmin];omega,show m.cnt - Nat.min m.cnt (a.len - m.idx)=m.idx+m.cnt - a.len by rw[hmin];omega]
  ·rw[show m.cnt - Nat.min m.cnt (a.len - m.idx)=0 by rw[hmin];omega,show m.idx+m.cnt - a.len=0 by omega,List.take_zero,List.take_zero]
 ·show(a.ts E).termAt (m.idx:Int)=some (m.lt:Int)
  rw[hlt]
  exact ts_termAt hE hl hi
 ·obtain⟨k,hk⟩:=List.getElem?_of_mem hx'
  unfold Na.oldE at hk
  rw[List.getElem?_take]at hk
  split at hk
  ·rename_i hlt
   rw[List.getElem?_drop]at hk
   have hmin:Nat.min m.cnt (a.len - m.idx)=min m.cnt (a.len - m.idx):=rfl
   rw[hmin]at hlt
   obtain⟨q1,q2,_⟩:=hx _ _ hk
   refine⟨by show(0:Int)<x.i;omega,?_⟩
   show(a.ts E).termAt x.i=_
   rw[q1,show((m.idx+k:Nat):Int)+1=((m.idx+k+1:Nat):Int)by omega,ts_termAt hE hl (by omega),q2,minOne (by omega)]
   rfl
  ·cases hk
 ·have hk:(a.newE E m)[0]? = some x:=by rw[hx'];rfl
  unfold Na.newE at hk
  rw[List.getElem?_take]at hk
  split at hk
  ·rw[List.getElem?_drop]at hk
   obtain⟨q1,q2,_⟩:=hx _ _ hk
   rw[Nat.add_zero]at q1
   refine⟨by show(0:Int)<x.i;omega,?_,?_⟩
   ·show(a.ts E).termAt x.i=_
    rw[q1,show((a.len:Nat):Int)+1=((a.len+1:Nat):Int)by omega]
    exact ts_termNo hE hl (by omega)
   ·show x.i=0+1+(((a.ts E).log.length:Nat):Int)
    rw[ts_len hE hl,q1];omega
  ·cases hk
 ·show(a.ts E).log.length+_≤900
  rw[ts_len hE hl];omega
 ·rw[es]at hx'
  obtain⟨k,hk⟩:=List.getElem?_of_mem (List.mem_of_mem_drop (List.mem_of_mem_take hx'))
  have hk2:k<21:=by rw[←hE.len];exact(List.getElem?_eq_some_iff.1 hk).1
  obtain⟨q1,q2,q3⟩:=hx _ _ hk
  omega
 ·show 0≤(m.idx:Int)∧(m.idx:Int)≤_
  omega
 ·show 0≤(m.cm:Int)∧(m.cm:Int)≤_
  omega
 ·show(a.fs E).tot+osz (a.fs E).lg+_≤_
  have:=hE.size a.len (m.idx+m.cnt - a.len)
  unfold Na.newE
  omega
theorem fs_tot:(a.fs E).tot≤30028∧osz (a.fs E).lg≤30000:=by
 have h1:osz (a.fs E).lg≤30000:=by
  show osz (if a.len=0 then .none else some _)≤_
  split
  ·exact Nat.zero_le _
  ·have:=hE.size 0 a.len
   rw[List.drop_zero]at this
   unfold osz
   show(enFs (E.take a.len)).toArray.size≤_
   rw[List.size_toArray]
   exact this
 have h2:osz (a.fs E).tm≤28:=by
  show osz (if a.term=0 then .none else some _)≤_
  split
  ·exact Nat.zero_le _
  ·exact tmB_len _ _
 have h3:osz (a.fs E).sn=0:=rfl
 have h4:(a.fs E).tot=osz (a.fs E).lg+osz (a.fs E).sn+osz (a.fs E).tm:=rfl
 omega
end
structure Na.Ok (a:Na):Prop where
 id:a.id<a.n
 n:a.n≤5
 term:a.term≤1
 vote:a.vote≤5
 len:a.len≤21
 commit:a.commit≤21
 timer:a.timer≤101
 vl:a.votes.length≤5
 ml:a.mt.length≤5
 nl:a.nx.length≤5
 mt:∀x∈a.mt,x≤21
 nx:∀x∈a.nx,x≤22
 out:a.out.length≤100
theorem good_ok{a:Na}(h:a.good=true):a.Ok:=by
 unfold Na.good at h
 simp only[Bool.and_eq_true,List.all_eq_true]at h
 obtain⟨⟨⟨⟨⟨⟨⟨⟨⟨⟨⟨⟨h1,h2⟩,h3⟩,h4⟩,h5⟩,h6⟩,h7⟩,h8⟩,h9⟩,ha⟩,hb⟩,hc⟩,hd⟩:=h
 have e:=fun {x y:Nat} (h:Nat.ble x y=true)=>Nat.le_of_ble_eq_true h
 have h6':=e h6
 have h7':=e h7
 have h1':a.id+1≤a.n:=e h1
 exact⟨h1',e h2,e h3,e h4,e h5,e h6,by omega,e h8,e h9,e ha,fun x hx=>e (hb x hx),fun x hx=>e (hc x hx),by have:=e hd;omega⟩
theorem ok_nd{E:List En}(hE:EOk E){a:Na}(h:a.Ok):NdOk (a.nd E):=by
 have hx:∀(k:Nat) x,E[k]? = some x→x.i=(k:Int)+1∧x.t=1∧x.c.size≤1000:=hE.at_
 have h1:=h.term
 have h2:=h.vote
 have h3:=h.commit
 have h4:=h.timer
 have h5:=h.len
 have hf:=(fs_tot hE (a:=a)).1
 refine⟨⟨?_,?_,?_,?_,?_,fun x hx'=>?_⟩,h.id,h.n,?_,?_,fun x hx'=>?_,fun x hx'=>?_,?_,?_,h.vl,?_,by show(a.fs E).tot≤_;omega⟩
 ·show 0≤(a.term:Int)∧(a.term:Int)≤_;omega
 ·show 0≤(a.vote:Int)∧(a.vote:Int)≤_;omega
 ·show 0≤(0:Int)∧(0:Int)≤_;omega
 ·show 0≤(0:Int)∧(0:Int)≤_;omega
 ·show(a.ts E).log.length≤_
  rw[ts_len hE h5];omega
 ·have hx2:x∈E.take a.len:=hx'
  obtain⟨k,hk⟩:=List.getElem?_of_mem (List.mem_of_mem_take hx2)
  have hk2:k<21:=by rw[←hE.len];exact(List.getElem?_eq_some_iff.1 hk).1
  obtain⟨q1,q2,q3⟩:=hx _ _ hk
  omega
 ·show 0≤(a.commit:Int)∧(a.commit:Int)≤_;omega
 ·show 0≤(a.timer:Int)∧(a.timer:Int)≤_;omega
 ·obtain⟨y,hy,rfl⟩:=List.mem_map.1 hx'
  have:=h.nx y hy
  omega
 ·obtain⟨y,hy,rfl⟩:=List.mem_map.1 hx'
  have:=h.mt y hy
  omega
 ·show(a.mt.map _).length≤_
  rw[List.length_map];exact h.ml
 ·show(a.nx.map _).length≤_
  rw[List.length_map];exact h.nl
 ·show(a.out.map _).length≤_
  rw[List.length_map]
  have:=h.out
  omega
theorem ensF_get:∀(k:Int) (cs:List ByteArray) (i:Nat),(ensF k cs)[i]? = (cs[i]?).map fun c=>(⟨k+i,1,c⟩:En)
 | _,[],_=>rfl
 | k,c::r,0=>by simp[ensF]
 | k,c::r,i+1=>by
  have:=ensF_get (k+1) r i
  have e:k+((i+1:Nat):Int)=k+1+(i:Int):=by omega
  simp only[ensF,List.getElem?_cons_succ]
  rw[this,e]
theorem enFs_le:∀(l:List En),(∀x∈l,x.c.size≤1000)→(enFs l).length≤1038 * l.length
 | [],_=>Nat.le_refl _
 | x::r,h=>by
  have h1:=enFs_le r fun y hy=>h y (List.mem_cons_of_mem _ hy)
  have h2:=h x (List.mem_cons_self ..)
  have h3:=frameL_length x.enc
  have h4:=x.enc_len
  have e:enFs (x::r)=frameL x.enc++enFs r:=rfl
  rw[e,List.length_append,List.length_cons]
  omega
theorem eok_ens(cs:List ByteArray)(hl:cs.length=21)(hc:∀c∈cs,c.size≤1000)(h0:cs[0]? = some ByteArray.empty):EOk (ensF 1 cs):=by
 have hat:∀(k:Nat) x,(ensF 1 cs)[k]? = some x→x.i=(k:Int)+1∧x.t=1∧x.c.size≤1000:=fun k x hx=>by
  rw[ensF_get]at hx
  obtain⟨c,hc1,hc2⟩:=Option.map_eq_some_iff.1 hx
  subst hc2
  exact⟨by show 1+(k:Int)=_;omega,rfl,hc c (List.mem_of_getElem? hc1)⟩
 refine⟨by rw[ensF_len];exact hl,hat,fun x hx=>?_,fun j k=>?_⟩
 ·rw[ensF_get,h0]at hx
  have e:(⟨1+((0:Nat):Int),1,ByteArray.empty⟩:En)=x:=by simpa using hx
  rw[←e]
 ·have h1:=enFs_le (((ensF 1 cs).drop j).take k) fun x hx=>by
   obtain⟨i,hi⟩:=List.getElem?_of_mem (List.mem_of_mem_drop (List.mem_of_mem_take hx))
   exact(hat i x hi).2.2
  have h2:(((ensF 1 cs).drop j).take k).length≤21:=by
   rw[List.length_take,List.length_drop,ensF_len,hl];omega
  omega
end Go.Proofs.YtkkbfdencgdbhaaGreatDoor
namespace Go.Proofs.YtkkbfdencgdbhaaGreatDoor
open Go.RowKit Go.Sort
theorem chk_some{c:Bool}{a a':Na}(h:chk c a=some a'):c=true∧a'=a:=by
 cases c
 ·cases h
 ·exact⟨rfl,(Option.some.inj h).symm⟩
theorem done_some{o:Option Na}{a':Na}(h:Na.done o=some a'):o=some a'∧a'.good=true:=by
 cases o with
 | none=>cases h
 | some a =>
  obtain⟨h1,h2⟩:=chk_some (show chk a.good a=some a' from h)
  subst h2
  exact⟨rfl,h1⟩
theorem beqT{a b:Nat}(h:Nat.beq a b=true):a=b:=Nat.eq_of_beq_eq_true h
theorem bleT{a b:Nat}(h:Nat.ble a b=true):a≤b:=Nat.le_of_ble_eq_true h
theorem beqF{a b:Nat}(h:Nat.beq a b=false):a≠b:=fun e=>by rw[e,Nat.beq_refl]at h;cases h
section
variable{E:List En}(hE:EOk E){W:World}{K:Ka}{a a':Na}
include hE
theorem lack_ok(hl:a.len≤21)(ho:a.Ok)(hnl:a.nx.length=a.n)(hm:∀i,i<a.n→i≠a.id→a.may i)(K:Ka):LackOk K (a.nd E):=by
 intro w' K' N' i hA e1 e2 e3 e4 e5 e6 hi hne hr
 have hok:=ok_nd hE ho
 obtain⟨m1,m2⟩:=hm i hi hne
 have hx:N'.nx[i]? = some ((a.nx.getD i 0:Nat):Int):=by
  rw[e2]
  show(a.nx.map _)[i]? = _
  have hi':i<a.nx.length:=by rw[hnl];exact hi
  rw[List.getElem?_map,List.getD_eq_getElem?_getD,List.getElem?_eq_getElem hi']
  rfl
 have ht:N'.s.termAt (((a.nx.getD i 0:Nat):Int) - 1)=some ((Nat.min (a.nx.getD i 0 - 1) 1:Nat):Int):=by
  rw[e1,show((a.nx.getD i 0:Nat):Int) - 1=((a.nx.getD i 0 - 1:Nat):Int)by omega]
  exact ts_termAt hE hl (by omega)
 have hout:(a.nd E).out.length≤100:=by
  show(a.out.map _).length≤_
  rw[List.length_map];exact ho.out
 have hn5:(a.nd E).n≤5:=ho.n
 rw[←hr]
 exact lacks_out hA (by rw[e1];exact hok.ts) (by rw[e2];exact hok.nx) (by omega) i (by rw[e2];show i<(a.nx.map _).length;rw[List.length_map,hnl];exact hi) _ _ hx ht
omit hE in
theorem sendAll_ok(ho:a.Ok)(hout:a.out.length≤90):a.sendAll.Ok:=by
 obtain⟨t1,t2,t3,t4,t5,t6,t7,t8,t9,ta,tb⟩:=sendList_same (List.range a.n) a
 have e:a.sendAll=(List.range a.n).foldl Na.sendTo a:=rfl
 have hn:=ho.n
 rw[List.length_range]at tb
 rw[e]
 exact⟨by rw[t1,t2];exact ho.id,by rw[t2];exact ho.n,by rw[t5];exact ho.term,by rw[t9];exact ho.vote,by rw[t3];exact ho.len,by rw[t7];exact ho.commit,by rw[ta];exact ho.timer,by rw[t8];exact ho.vl,by rw[t6];exact ho.ml,by rw[t4];exact ho.nl,by rw[t6];exact ho.mt,by rw[t4];exact ho.nx,by omega⟩
theorem count_pre(ho:a.Ok)(ht:a.term=1)(h0:a.len=0)(hout:a.out.length≤60):NdOk ((a.nd E).lead)∧(∀K1:Ka,LackOk K1 ((a.nd E).lead.add ByteArray.empty))∧NdOk (((a.nd E).lead.add ByteArray.empty).sendAll):=by
 have hn:=ho.n
 have hlo:a.lead.Ok:=⟨ho.id,ho.n,ho.term,ho.vote,ho.len,ho.commit,ho.timer,Nat.zero_le _,by show(List.replicate a.n 0).length≤5;rw[List.length_replicate];exact hn,by show(List.replicate a.n (a.len+1)).length≤5;rw[List.length_replicate];exact hn,fun x hx=>by rw[List.eq_of_mem_replicate hx];omega,fun x hx=>by rw[List.eq_of_mem_replicate hx];omega,by show a.out.length≤_;omega⟩
 obtain⟨x,hx⟩:=hE.get (k:=0) (by omega)
 have hc:=hE.c0 x hx
 have hadd:a.lead.add.nd E=(a.nd E).lead.add ByteArray.empty:=by
  rw[←hc,←nd_lead hE (a:=a) (by omega)]
  exact nd_add hE (a:=a.lead) (by show a.len<21;omega) ht (by show E[a.len]? = _;rw[h0];exact hx)
 have hao:a.lead.add.Ok:=⟨hlo.id,hlo.n,hlo.term,hlo.vote,by show a.len+1≤21;omega,hlo.commit,hlo.timer,hlo.vl,by show(a.lead.mt.set _ _).length≤5;rw[List.length_set];exact hlo.ml,hlo.nl,fun y hy=>by
  rcases List.mem_or_eq_of_mem_set hy with h|h
  ·exact hlo.mt y h
  ·rw[h];show a.len+1≤21;omega,hlo.nx,hlo.out⟩
 have hmay:∀i,i<a.lead.add.n→i≠a.lead.add.id→a.lead.add.may i:=fun i hi hne=>by
  unfold Na.may
  have hi':i<a.n:=hi
  have e:a.lead.add.nx.getD i 0=a.len+1:=by
   show(List.replicate a.n (a.len+1)).getD i 0=_
   rw[List.getD_eq_getElem?_getD,List.getElem?_replicate,if_pos hi'];rfl
  rw[e]
  exact⟨by omega,by show a.len+1≤a.len+1+1;omega⟩
 refine⟨by rw[←nd_lead hE (a:=a) (by omega)];exact ok_nd hE hlo,fun K1=>?_,?_⟩
 ·rw[←hadd]
  exact lack_ok hE hao.len hao (by show(List.replicate a.n _).length=a.n;rw[List.length_replicate]) hmay K1
 ·rw[←hadd,←nd_sendAll hE (a:=a.lead.add) hao.len hmay]
  exact ok_nd hE (sendAll_ok hao (by show a.out.length≤90;omega))
omit hE in
theorem good_out(h:a.good=true):a.out.length≤50:=by
 unfold Na.good at h
 simp only[Bool.and_eq_true]at h
 exact bleT h.2
theorem step_arm(hg:a.good=true){m:Ma}(hs:a.step m=some a'):Comes_ (a.nd E) (m.ms E)∧Arm (a.nd E) (m.ms E) (a'.nd E)∧a'.good=true:=by
 have ho:=good_ok hg
 have hout:=good_out hg
 have hfs:=fs_tot hE (a:=a)
 have hn5:=ho.n
 unfold Na.step at hs
 cases hb:(Nat.beq m.dst a.id&&Nat.blt m.frm a.n && !(Nat.beq m.frm a.id))with
 | false=>rw[hb]at hs;cases hs
 | true =>
  rw[hb]at hs
  simp only at hs
  simp only[Bool.and_eq_true,Bool.not_eq_true']at hb
  obtain⟨⟨b1,b2⟩,b3⟩:=hb
  have b1:=beqT b1
  have b2:m.frm+1≤a.n:=bleT b2
  have b3:=beqF b3
  obtain⟨hs1,hgood⟩:=done_some hs
  refine⟨⟨by show(m.dst:Int)=(a.id:Int);omega,by show 0≤(m.frm:Int)∧(m.frm:Int)<(a.n:Int);omega,by show(m.frm:Int)≠(a.id:Int);omega⟩,?_,hgood⟩
  unfold Na.step1 at hs1
  split at hs1
  ·rename_i hk
   obtain⟨hc,rfl⟩:=chk_some hs1
   simp only[Bool.and_eq_true]at hc
   obtain⟨⟨⟨⟨c1,c2⟩,c3⟩,c4⟩,c5⟩:=hc
   have c1:=beqT c1
   have c2:=beqT c2
   have c3:=beqT c3
   have c4:=beqT c4
   have hlast:(a.nd E).s.last=_:=ts_last hE (a:=a) ho.len
   rw[nd_askIn c2]
   have e1:({ a with term:=1,vote:=0,role:=0,ldr:=0,votes:=[],mt:=[],nx:=[] } : Na).nd E=((a.nd E).keep (m.ms E).term 0).follow (-1):=by
    unfold Nd.keep Nd.follow Na.nd Na.ts Na.fs Fs.put Ma.ms
    simp only[c2,List.map_nil]
    rfl
   have e2:({ a with term:=1,vote:=m.frm+1,role:=0,ldr:=0,timer:=0,votes:=[],mt:=[],nx:=[] } : Na).nd E=(((a.nd E).keep (m.ms E).term 0).follow (-1)).voted1 (m.ms E).frm:=by
    unfold Nd.voted1 Nd.keep Nd.follow Na.nd Na.ts Na.fs Fs.put Ma.ms
    simp only[c2,List.map_nil]
    rfl
   have hf1:=fs_tot hE (a := { a with term:=1,vote:=0,role:=0,ldr:=0,votes:=[],mt:=[],nx:=[] })
   refine Arm.ask (by show(m.kind:Int)=1;omega) (by show(a.term:Int)<(m.term:Int);omega) (by show(m.term:Int)≤_;omega) ?_ ?_ (by show(a.fs E).tot+100≤_;omega) ?_ ?_ ?_
   ·rw[hlast]
    show(m.lt:Int)=_
    rw[c4,c3];rfl
   ·rw[hlast]
    show(a.len:Int)≤(m.idx:Int)
    omega
   ·rw[←e1]
    exact ok_nd hE ⟨ho.id,ho.n,Nat.le_refl _,Nat.zero_le _,ho.len,ho.commit,ho.timer,Nat.zero_le _,Nat.zero_le _,Nat.zero_le _,(fun x hx=>by cases hx),(fun x hx=>by cases hx),ho.out⟩
   ·rw[←e2]
    exact ok_nd hE ⟨ho.id,ho.n,Nat.le_refl _,by show m.frm+1≤5;omega,ho.len,ho.commit,Nat.zero_le _,Nat.zero_le _,Nat.zero_le _,Nat.zero_le _,(fun x hx=>by cases hx),(fun x hx=>by cases hx),ho.out⟩
   ·rw[←e1]
    show(Na.fs E _).tot+100≤_
    omega
  ·rename_i hk
   unfold Na.stepVote at hs1
   cases hr:Nat.beq a.role 1 with
   | true =>
    rw[hr]at hs1
    obtain⟨hc,rfl⟩:=chk_some hs1
    simp only[Bool.and_eq_true]at hc
    obtain⟨⟨⟨⟨⟨c1,c2⟩,c3⟩,c4⟩,c5⟩,c6⟩:=hc
    have hr:=beqT hr
    have c1:=beqT c1
    have c2:=beqT c2
    have c4:=beqT c4
    have c5:=beqT c5
    rw[nd_voteIn hE c2 c4]
    have hbo:({ a with votes:=a.votes.set m.frm true } : Na).Ok:=⟨ho.id,ho.n,ho.term,ho.vote,ho.len,ho.commit,ho.timer,by show(a.votes.set _ _).length≤5;rw[List.length_set];exact ho.vl,ho.ml,ho.nl,ho.mt,ho.nx,ho.out⟩
    obtain⟨p1,p2,p3⟩:=count_pre hE (a := { a with votes:=a.votes.set m.frm true }) hbo c2 c4 (by show a.out.length≤60;omega)
    have hlast:(a.nd E).s.last=_:=ts_last hE (a:=a) ho.len
    refine Arm.vote (by show(m.kind:Int)=2;omega) (by show(m.term:Int)=(a.term:Int);omega) (by show(a.role:Int)=1;omega) c3 m.frm rfl (by show m.frm<a.votes.length;omega) (ok_nd hE hbo) (by rw[hlast];show 0≤(a.len:Int)∧(a.len:Int)<_;omega) (by show(a.ts E).log.length<1000;rw[ts_len hE ho.len];omega) (by show(a.fs E).tot+osz (a.fs E).lg+100≤_;omega) p1 p2 p3
   | false =>
    rw[hr]at hs1
    obtain⟨hc,rfl⟩:=chk_some hs1
    simp only[Bool.and_eq_true]at hc
    obtain⟨⟨c1,c2⟩,c3⟩:=hc
    have hr:=beqF hr
    have c1:=beqT c1
    exact Arm.late (by show(m.kind:Int)=2;omega) (by show(m.term:Int)=(a'.term:Int);omega) (by show(a'.role:Int)≠1;omega) c2
  ·rename_i hk
   obtain⟨hc,rfl⟩:=chk_some hs1
   simp only[Bool.and_eq_true]at hc
   obtain⟨⟨⟨⟨⟨c1,c2⟩,c3⟩,c4⟩,c5⟩,c6⟩:=hc
   have c1:=beqT c1
   have c3:=bleT c3
   have c4:=beqT c4
   have c5:=bleT c5
   have c6:=bleT c6
   rw[nd_moreIn hE c5]
   have hld:((m.frm+1:Nat):Int) - 1=(m.frm:Int):=by omega
   have e1:({ a with role:=0,ldr:=m.frm+1,timer:=0,votes:=[],mt:=[],nx:=[] } : Na).nd E=(a.nd E).heard (m.frm:Int):=by
    unfold Nd.heard Nd.follow Na.nd Na.ts Na.fs
    simp only[List.map_nil,hld]
    rfl
   refine Arm.more (by show(m.kind:Int)=3;omega) (by show(m.term:Int)=(a.term:Int);omega) (a.oldE E m) (a.newE E m) (nd_moreOk hE ho.len c3 c5 c4 c6 (by omega)) ?_ ?_
   ·show NdOk ((a.nd E).heard (m.frm:Int))
    rw[←e1]
    exact ok_nd hE ⟨ho.id,ho.n,ho.term,ho.vote,ho.len,ho.commit,Nat.zero_le _,Nat.zero_le _,Nat.zero_le _,Nat.zero_le _,(fun x hx=>by cases hx),(fun x hx=>by cases hx),ho.out⟩
   ·have:=nd_moreB hE (a:=a) c5
    show NdOk { ((a.nd E).heard (m.frm:Int)).addN (a.newE E m)with commit:=max ((a.nd E).heard (m.frm:Int)).commit (min (m.ms E).cm (moreLast (m.ms E))) }
    rw[←this]
    have h1:=ho.len
    have h2:=ho.commit
    exact ok_nd hE ⟨ho.id,ho.n,ho.term,ho.vote,by show max a.len (m.idx+m.cnt)≤21;omega,by show max a.commit (min m.cm (m.idx+m.cnt))≤21;omega,Nat.zero_le _,Nat.zero_le _,Nat.zero_le _,Nat.zero_le _,(fun x hx=>by cases hx),(fun x hx=>by cases hx),ho.out⟩
  ·rename_i hk
   obtain⟨hc,rfl⟩:=chk_some hs1
   simp only[Bool.and_eq_true]at hc
   obtain⟨⟨⟨⟨⟨⟨c1,c2⟩,c3⟩,c4⟩,c5⟩,c6⟩,c7⟩:=hc
   have c1:=beqT c1
   have c4:=bleT c4
   obtain⟨l1,l2,l3,l4,l5⟩:=leads_may c2
   obtain⟨k1,k2,k3,k4,k5⟩:=leads_may c7
   have hd:=nd_had hE (a:=a) (i:=m.frm) (x:=m.idx) ho.len l2
   have hm:(a.had m.frm m.idx).may m.frm:=k5 m.frm (by show m.frm<a.n;omega)
   rw[nd_haveIn hE ho.len l2 hm]
   have hlast:(a.nd E).s.last=_:=ts_last hE (a:=a) ho.len
   have hl:=ho.len
   refine Arm.have_ (by show(m.kind:Int)=4;omega) (by show(m.term:Int)=(a.term:Int);omega) (by show(a.role:Int)=2;omega) c3 m.frm rfl (by show m.frm<(a.mt.map _).length;rw[List.length_map];omega) (by show m.frm<(a.nx.map _).length;rw[List.length_map];omega) (by rw[hlast];show(m.idx:Int)≤(a.len:Int);omega) (by show 0≤(m.idx:Int);omega) ?_ ?_ ?_
   ·show NdOk ((a.nd E).hasIt m.frm (m.idx:Int))
    rw[←nd_hasIt]
    refine ok_nd hE ⟨ho.id,ho.n,ho.term,ho.vote,ho.len,ho.commit,ho.timer,ho.vl,by show(a.mt.set _ _).length≤5;rw[List.length_set];exact ho.ml,ho.nl,fun y hy=>?_,ho.nx,ho.out⟩
    rcases List.mem_or_eq_of_mem_set hy with h|h
    ·exact ho.mt y h
    ·rw[h]
     show max (a.mt.getD m.frm 0) m.idx≤21
     have hx:a.mt[m.frm]? = some a.mt[m.frm]:=List.getElem?_eq_getElem (by omega)
     have:=ho.mt _ (List.mem_of_getElem? hx)
     rw[List.getD_eq_getElem?_getD,hx,Option.getD_some]
     omega
   ·show NdOk ((a.nd E).had m.frm (m.idx:Int))
    rw[←hd]
    exact ok_nd hE (good_ok c6)
   ·show ∃t,((a.nd E).had m.frm (m.idx:Int)).s.termAt (((a.nd E).had m.frm (m.idx:Int)).nx.getD m.frm 0 - 1)=some t
    rw[←hd]
    obtain⟨m1,m2⟩:=hm
    have e:((a.had m.frm m.idx).nd E).nx.getD m.frm 0=(((a.had m.frm m.idx).nx.getD m.frm 0:Nat):Int):=getD_cast _ _
    rw[e,show(((a.had m.frm m.idx).nx.getD m.frm 0:Nat):Int) - 1=(((a.had m.frm m.idx).nx.getD m.frm 0 - 1:Nat):Int)by omega]
    exact⟨_,ts_termAt hE (a:=a.had m.frm m.idx) ho.len (by omega)⟩
  ·cases hs1
theorem nstep_any(h:NdAt W K (a.nd E))(hg:a.good=true)(m:Ma)(hs:a.step m=some a')(A:Option Addr)(el ec:Nat)(hel:el=(m.ms E).es.length)(hown:W.ownsRow 0 49 3 (.slice A el ec) (m.ms E).es.length (enRows (m.ms E).es))(hevK:∀k,some k=(Value.slice A el ec).ownBlock→¬ K.has k)(hT:Tab W)(hTK:¬ K.has 0) :
 Calls Tryz.prog 67 #[.pointer (some ⟨K.r,0,none⟩),.agg ((m.ms E).cells (.slice A el ec))] W fun e w'=>e=.returned (.tuple #[])∧NdTo K W w' (a'.nd E):=by
 obtain⟨h1,h2,h3⟩:=step_arm hE hg hs
 exact step_any h (ok_nd hE (good_ok hg)) (m.ms E) A el ec hel hown hevK h1 hT hTK h2
end
end Go.Proofs.YtkkbfdencgdbhaaGreatDoor
namespace Go.Proofs.YtkkbfdencgdbhaaGreatDoor
open Go.RowKit Go.Sort
section
variable{E:List En}(hE:EOk E){W:World}{K:Ka}{a a':Na}
include hE
theorem count_at(h:NdAt W K (a.nd E))(ho:a.Ok)(ht:a.term=1)(h0:a.len=0)(hout:a.out.length≤60)(hT:Tab W)(hTK:¬ K.has 0) :
 Calls Tryz.prog 112 #[.pointer (some ⟨K.r,0,none⟩)] W fun e w'=>e=.returned (.tuple #[])∧NdTo K W w' (a.nd E).count:=by
 obtain⟨p1,p2,p3⟩:=count_pre hE ho ht h0 hout
 have hlast:(a.nd E).s.last=_:=ts_last hE (a:=a) ho.len
 have hfs:=fs_tot hE (a:=a)
 exact count_any h (ok_nd hE ho) (by rw[hlast];show 0≤(a.len:Int)∧(a.len:Int)<_;omega) (by show(a.ts E).log.length<1000;rw[ts_len hE ho.len];omega) (by show(a.fs E).tot+osz (a.fs E).lg+100≤_;omega) hT hTK p1 (fun K1 _=>p2 K1) p3
theorem elect_at(h:NdAt W K (a.nd E))(ho:a.Ok)(ht:a.term=0)(h0:a.len=0)(hout:a.out.length≤50)(hT:Tab W)(hTK:¬ K.has 0) :
 Calls Tryz.prog 118 #[.pointer (some ⟨K.r,0,none⟩)] W fun e w'=>e=.returned (.tuple #[])∧NdTo K W w' (a.elect.nd E):=by
 have hn:=ho.n
 have hid:=ho.id
 have hfs:=fs_tot hE (a:=a)
 have hso:a.stand.Ok:=⟨ho.id,ho.n,Nat.le_refl _,by show a.id+1≤5;omega,ho.len,ho.commit,Nat.zero_le _,by show((List.replicate a.n false).set a.id true).length≤5;rw[List.length_set,List.length_replicate];exact hn,Nat.zero_le _,Nat.zero_le _,(fun x hx=>by cases hx),(fun x hx=>by cases hx),ho.out⟩
 have hst:=nd_stand (E:=E) (a:=a) ht
 have hk:∀k,k≤5→((List.range k).foldl Na.askTo a.stand).Ok∧((List.range k).foldl Na.askTo a.stand).nd E=(a.nd E).stand.askK k∧((List.range k).foldl Na.askTo a.stand).out.length≤55:=fun k hk=>by
  obtain⟨t1,t2,t3,t4,t5,t6,t7,t8,t9,ta,tb⟩:=askList_same (List.range k) a.stand
  rw[List.length_range]at tb
  have hso':a.stand.out.length≤50:=hout
  refine⟨⟨by rw[t1,t2];exact hso.id,by rw[t2];exact hso.n,by rw[t5];exact hso.term,by rw[t9];exact hso.vote,by rw[t3];exact hso.len,by rw[t7];exact hso.commit,by rw[ta];exact hso.timer,by rw[t8];exact hso.vl,by rw[t6];exact hso.ml,by rw[t4];exact hso.nl,by rw[t6];exact hso.mt,by rw[t4];exact hso.nx,by omega⟩,?_,by omega⟩
  unfold Nd.askK
  rw[←hst]
  exact nd_askList hE (List.range k) a.stand hso.len
 rw[nd_elect hE ht h0]
 refine elect_any h (ok_nd hE ho) (by show(a.fs E).tot+100≤_;omega) hT hTK ?_ (fun k hk'=>?_) ?_
 ·rw[←hst]
  exact(ok_nd hE hso).ts
 ·have hk5:k≤5:=Nat.le_trans hk' hn
  rw[←(hk k hk5).2.1]
  exact ok_nd hE (hk k hk5).1
 ·intro w' K' hA hr hT' hTK'
  obtain⟨q1,q2,q3⟩:=hk a.n hn
  have e:(a.nd E).stand.ask=((List.range a.n).foldl Na.askTo a.stand).nd E:=q2.symm
  rw[e]at hA⊢
  obtain⟨t1,t2,t3,t4,t5,_⟩:=askList_same (List.range a.n) a.stand
  rw[←hr]
  exact count_at hE hA q1 t5 (t3.trans h0) (by omega) hT' hTK'
theorem ntick_any(h:NdAt W K (a.nd E))(hg:a.good=true)(hs:a.tick=some a')(hT:Tab W)(hTK:¬ K.has 0) :
 Calls Tryz.prog 68 #[.pointer (some ⟨K.r,0,none⟩)] W fun e w'=>e=.returned (.tuple #[])∧NdTo K W w' (a'.nd E):=by
 have ho:=good_ok hg
 have hout:=good_out hg
 have hn:=ho.n
 have hid:=ho.id
 have hti:=ho.timer
 obtain⟨hs1,hgood⟩:=done_some hs
 unfold Na.tick1 at hs1
 cases hr:Nat.beq a.role 2 with
 | true =>
  rw[hr]at hs1
  obtain⟨hc,rfl⟩:=chk_some hs1
  obtain⟨l1,l2,l3,l4,l5⟩:=leads_may hc
  rw[nd_sendAll hE ho.len fun i hi _=>l5 i hi]
  exact tick_lead h (by show(a.role:Int)=2;omega) hn (lack_ok hE ho.len ho l4 (fun i hi _=>l5 i hi) K)
 | false =>
  rw[hr]at hs1
  have hr:=beqF hr
  cases hb:Nat.blt (a.timer+1) (4+2 * a.id)with
  | true =>
   rw[hb]at hs1
   have hb:a.timer+1+1≤4+2 * a.id:=bleT hb
   have e:a' = { a with timer:=a.timer+1 } := (Option.some.inj hs1).symm
   subst e
   exact tick_wait h (by show(a.role:Int)≠2;omega) (by show 0≤(a.timer:Int);omega) (by show(a.timer:Int)+1<4+2 * (a.id:Int);omega) (by show a.id≤5;omega)
  | false =>
   rw[hb]at hs1
   have hb:¬ a.timer+1+1≤4+2 * a.id:=fun h=>by
    have:Nat.blt (a.timer+1) (4+2 * a.id)=true:=Nat.ble_eq_true_of_le h
    rw[hb]at this;cases this
   obtain⟨hc,rfl⟩:=chk_some hs1
   obtain⟨c1,c2⟩:=Bool.and_eq_true_iff.1 hc
   have c1:=beqT c1
   have c2:=beqT c2
   have hti2:a.timer≤100:=by
    unfold Na.good at hg
    simp only[Bool.and_eq_true]at hg
    exact bleT hg.1.1.1.1.1.1.2
   have hbo:({ a with timer:=a.timer+1 } : Na).Ok:=⟨ho.id,ho.n,ho.term,ho.vote,ho.len,ho.commit,by show a.timer+1≤101;omega,ho.vl,ho.ml,ho.nl,ho.mt,ho.nx,ho.out⟩
   have hrr:K.has K.r:=.inl rfl
   have ce:=tick_elect h (by show(a.role:Int)≠2;omega) (by show 0≤(a.timer:Int)∧(a.timer:Int)≤1000;omega) (by show 4+2 * (a.id:Int)≤(a.timer:Int)+1;omega) (by show a.id≤5;omega) (fun w' K' hA hr hKK hX=>by
    have hT':Tab w':=(hT.chg (chg_r K W 13 (.int .i64 ((a.nd E).timer+1))) hTK).ext hX
    have hA':NdAt w' K' (({ a with timer:=a.timer+1 } : Na).nd E):=hA
    have:=elect_at hE hA' hbo c1 c2 hout hT' (by rw[hKK];exact hTK)
    rw[nd_elect hE (a := { a with timer:=a.timer+1 }) c1 c2,hr]at this
    exact this)
   rw[nd_elect hE (a := { a with timer:=a.timer+1 }) c1 c2]
   exact ce
omit hE in
theorem tick_good(hs:a.tick=some a'):a'.good=true:=(done_some hs).2
theorem nprop_any(h:NdAt W K (a.nd E))(hg:a.good=true)(hs:a.prop=some a')(c:ByteArray)(hc:(E[a.len]?).map En.c=some c)(hT:Tab W)(hTK:¬ K.has 0) :
 Calls Tryz.prog 38 #[.pointer (some ⟨K.r,0,none⟩),.string c] W fun e w'=>∃i t:Int,e=.returned (.tuple #[.int .i64 i,.int .i64 t,.int .i64 0])∧NdTo K W w' (a'.nd E):=by
 have ho:=good_ok hg
 have hout:=good_out hg
 have hn:=ho.n
 have hid:=ho.id
 unfold Na.prop at hs
 cases hb:(a.leads&&Nat.blt a.len 21)with
 | false=>rw[hb]at hs;cases hs
 | true =>
  rw[hb]at hs
  obtain⟨hs1,hgood⟩:=done_some hs
  have e:a'=a.append:=(Option.some.inj hs1).symm
  subst e
  obtain⟨b1,b2⟩:=Bool.and_eq_true_iff.1 hb
  have b2:a.len+1≤21:=bleT b2
  obtain⟨l1,l2,l3,l4,l5⟩:=leads_may b1
  obtain⟨x,hx⟩:=hE.get (k:=a.len) (by omega)
  rw[hx]at hc
  have hc':x.c=c:=by simpa using hc
  subst hc'
  have hxc:=(hE.at_ _ _ hx).2.2
  have hlast:(a.nd E).s.last=_:=ts_last hE (a:=a) ho.len
  have hfs:=fs_tot hE (a:=a)
  have hadd:=nd_add hE (by omega) l2 hx
  have hao:a.add.Ok:=⟨ho.id,ho.n,ho.term,ho.vote,by show a.len+1≤21;omega,ho.commit,ho.timer,ho.vl,by show(a.mt.set _ _).length≤5;rw[List.length_set];exact ho.ml,ho.nl,(fun y hy=>by
   rcases List.mem_or_eq_of_mem_set hy with h|h
   ·exact ho.mt y h
   ·rw[h];show a.len+1≤21;omega),ho.nx,ho.out⟩
  have hmay:∀i,i<a.add.n→i≠a.add.id→a.add.may i:=fun i hi _=>by
   obtain⟨h1,h2⟩:=l5 i hi
   exact⟨h1,Nat.le_succ_of_le h2⟩
  have:=propose_any h (ok_nd hE ho) (by show(a.role:Int)=2;omega) x.c (by omega) (by rw[hlast];show 0≤(a.len:Int)∧(a.len:Int)<_;omega) (by show(a.ts E).log.length<1000;rw[ts_len hE ho.len];omega) (by show a.id<(a.mt.map _).length;rw[List.length_map];omega) (by show(a.fs E).tot+osz (a.fs E).lg+100+x.c.size≤_;omega) hT hTK (fun K1 _=>by rw[←hadd];exact lack_ok hE hao.len hao l4 hmay K1) (by rw[←hadd,←nd_sendAll hE (a:=a.add) hao.len hmay];exact ok_nd hE (sendAll_ok hao (by show a.out.length≤90;omega)))
  rw[←nd_append hE (by omega) l2 (fun i hi _=>l5 i hi) hx]at this
  refine this.mono ?_
  rintro e w' ⟨rfl,hT'⟩
  exact⟨_,_,rfl,hT'⟩
omit hE in
theorem prop_good(hs:a.prop=some a'):a'.good=true:=by
 unfold Na.prop at hs
 cases hb:(a.leads&&Nat.blt a.len 21)with
 | false=>rw[hb]at hs;cases hs
 | true=>rw[hb]at hs;exact(done_some hs).2
end
end Go.Proofs.YtkkbfdencgdbhaaGreatDoor
