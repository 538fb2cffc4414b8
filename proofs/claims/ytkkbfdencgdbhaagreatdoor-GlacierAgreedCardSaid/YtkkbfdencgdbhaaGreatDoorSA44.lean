/-
  Part 44 of what the law leans on.
-/
import Derived.Test.YtkkbfdencgdbhaaGreatDoorSA2
import Derived.Test.YtkkbfdencgdbhaaGreatDoorSA5
import Derived.Test.YtkkbfdencgdbhaaGreatDoorSA8
import Derived.Test.YtkkbfdencgdbhaaGreatDoorSA9
import Derived.Test.YtkkbfdencgdbhaaGreatDoorSA40
import Derived.Test.YtkkbfdencgdbhaaGreatDoorSA43
set_option linter.unusedVariables false
set_option linter.unusedSimpArgs false
set_option linter.unusedSectionVars false
namespace Go.Proofs.YtkkbfdencgdbhaaGreatDoor
open Go.RowKit
structure GAO (w0:World) (x:Nat) (T e:TypeId) (C:Value→Array Value) (v:Value) (size n:Nat) (xs new:List Value) (Kp:World→Prop) (jb ja js:Nat) (γ : Nat→Value) (L:Nat→Bool) (w:World):Prop where
 chg:Chg (fun k=>k=x∨some k=v.ownBlock) w0 w
 at_:At w x T (C (if L js=true then γ 1 else v))
 own:if L ja=true then w.ownsRow 0 e size (γ 1) (n+1) (xs++new)else w.ownsRow 0 e size v n xs
 nb:L ja=true→(γ 1).ownBlock=v.ownBlock∨∃k,(γ 1).ownBlock=some k∧w0.heap.size≤k
 sl:L jb=true→L ja=false→∃g, γ 0=.slice (some ⟨g,0,none⟩) 1 1∧At w g e new.toArray
 kp:Kp w
section
variable{P:Program}{ops:Array Oper}{Q:Exit→Act→World→Prop}{o:Oper}
variable{w0 w w':World}{x:Nat}{T e:TypeId}{C:Value→Array Value}{v:Value}{size n:Nat}{xs new:List Value}{Kp:World→Prop}{jb ja js j:Nat}{γ : Nat→Value}{L:Nat→Bool}
theorem GAO.start(hA:At w0 x T (C v))(hO:w0.ownsRow 0 e size v n xs)(hk:Kp w0.drew)(γ : Nat→Value):GAO w0 x T e C v size n xs new Kp jb ja js γ (fun _=>false) w0.drew :=
 ⟨(Chg.refl _ w0).drew,hA,by simpa using own_chg hO ((Ext.refl w0).drew) (fun _ h=>h.elim),(fun h=>by cases h),(fun h=>by cases h),hk⟩
theorem GAO.keep(h1:jb≠j)(h2:ja≠j)(h3:js≠j):∀γ L w,GAO w0 x T e C v size n xs new Kp jb ja js γ L w→L j=false→GAO w0 x T e C v size n xs new Kp jb ja js γ (fun i=>i == j||L i) w:=by
 intro γ L w h _
 have e1:(jb == j)=false:=by simpa using h1
 have e2:(ja == j)=false:=by simpa using h2
 have e3:(js == j)=false:=by simpa using h3
 exact⟨h.chg,by simpa[e3]using h.at_,by simpa[e2]using h.own,by simpa[e2]using h.nb,by simpa[e1,e2]using h.sl,h.kp⟩
theorem GAO.grow(h:GAO w0 x T e C v size n xs new Kp jb ja js γ L w)(hk:∀w w',Kp w→Ext w w'→Kp w')(hE:Ext w w'):GAO w0 x T e C v size n xs new Kp jb ja js γ L w':=by
 refine⟨h.chg.ext_trans hE,h.at_.ext hE,?_,h.nb,fun a b=>?_,hk _ _ h.kp hE⟩
 ·have:=h.own
  split <;> rename_i hl
  ·rw[if_pos hl]at this;exact own_chg this hE (fun _ h=>h.elim)
  ·rw[if_neg hl]at this;exact own_chg this hE (fun _ h=>h.elim)
 ·obtain⟨g,h1,h2⟩:=h.sl a b
  exact⟨g,h1,h2.ext hE⟩
theorem GAO.made(h:GAO w0 x T e C v size n xs new Kp jb ja js γ L w)(hk:∀w w',Kp w→Ext w w'→Kp w')(ha:L ja=false)(hjs:L js=false)(h2:ja≠jb)(h3:js≠jb) :
 GAO w0 x T e C v size n xs new Kp jb ja js (upd γ 0 (.slice (some ⟨w.heap.size,0,none⟩) 1 1)) (fun i=>i == jb||L i) (w.alloc (.cells new.toArray e)):=by
 have hE:=(Ext.refl w).alloc (.cells new.toArray e)
 have hg:=h.grow hk hE
 have e2:(ja == jb)=false:=by simpa using h2
 have e3:(js == jb)=false:=by simpa using h3
 have h4:=hg.at_
 rw[hjs]at h4
 have h5:=hg.own
 rw[ha]at h5
 exact⟨hg.chg,by simpa[e3,hjs]using h4,by simpa[e2,ha]using h5,fun hh=>(by simp[e2,ha]at hh),fun _ _=>⟨w.heap.size,by simp[upd],At.new w e new.toArray⟩,hg.kp⟩
theorem GAO.appended{a:Act}(h:GAO w0 x T e C v size n xs new Kp jb ja js γ L w)(hTe:e≠T)(hk:∀w w',Kp w→w.ownsRow 0 e size v n xs→Chg (fun k=>some k=v.ownBlock) w w'→Kp w')(hb:L jb=true)(ha:L ja=false)(hjs:L js=false)(h3:js≠ja)
 {z:Value} {bytes:Nat} (t:TypeId) (ht:P.underlying t=some (.slice e)) (hinfo:(P.info? e).map (fun i=>(i.zero,i.size,i.bytes))=some (some z,size,bytes))
 (hzs:z.cells.size=size) (hsz:0<size) (hby:bytes≤128) (hn:n<1000000000) (hnew:new.length=size) (hone:new.all Value.oneCell'=true)
 (s y:Operand) (ho:o.op=.call { callee:=.builtin .append,args:=#[s,y],argTypes:=#[t,t] }) (hs:a.eval s=v) (hy:a.eval y = γ 0) :
 ∃v' w',(execOp a.eval o).run P w=.ok (.value v') w'∧GAO w0 x T e C v size n xs new Kp jb ja js (upd γ 1 v') (fun i=>i == ja||L i) w':=by
 have e3:(js == ja)=false:=by simpa using h3
 have h4:=h.at_
 rw[hjs]at h4
 have h5:=h.own
 rw[ha]at h5
 simp only[Bool.false_eq_true,if_false]at h4 h5
 obtain⟨g,hg1,hg2⟩:=h.sl hb ha
 obtain⟨i,hi,i0,i1,i2⟩:∃i,P.info? e=some i∧i.zero=some z∧i.size=size∧i.bytes=bytes:=by
  cases hp:P.info? e with
  | none=>rw[hp]at hinfo;cases hinfo
  | some i =>
   rw[hp]at hinfo
   simp only[Option.map_some,Option.some.injEq,Prod.mk.injEq]at hinfo
   exact⟨i,rfl,hinfo.1,hinfo.2.1,hinfo.2.2⟩
 obtain⟨v',w',hrun,k1,k2,_,k4⟩:=run_append_own_at (P:=P) w 0 t o.type e i z size bytes ht hi i0 i1 i2 hzs hsz v n xs h5 ⟨g,0,none⟩ 1 1 new (by omega) (fun k u hu=>by
  rw[Go.WideShapes.add_plain,Nat.zero_add,hg2.cell k]
  simpa using hu) (fun u hu=>List.all_eq_true.1 hone u hu) (by unfold maxLen;omega) (by
   have:(n+1) * bytes≤1000000000 * 128:=Nat.mul_le_mul (by omega) hby
   omega) (Nat.zero_le _)
 have hC:Chg (fun k=>some k=v.ownBlock) w w':=Chg.of_grown k2
 have hsz0:=h.chg.size
 refine⟨v',w',?_,h.chg.trans hC (fun _ _ e=>.inr e),?_,by simpa[upd]using k1,fun _=>?_,fun _ hh=>by simp at hh,hk _ _ h.kp h5 hC⟩
 ·unfold execOp
  simp only[ho,resolve,invoke,builtin,Sem.run_bind,Sem.run_pure,Result.andThen_ok,List.map_toArray,List.map_cons,List.map_nil,hs,hy,hg1,hrun]
 ·simp only[e3,hjs,Bool.or_self,Bool.false_eq_true,if_false]
  refine h4.chg hC fun hx=>?_
  rcases h5.2 with⟨rfl,_⟩|⟨g',cap,cur,rfl,_,hg',_⟩
  ·cases hx
  ·have hxg:x=g':=by simpa[Value.ownBlock]using hx
   subst hxg
   unfold At at h4
   rw[hg']at h4
   injection h4 with h4
   injection h4 with _ h4 _
   exact hTe h4
 ·simp only[upd,if_true]
  rcases k4 with k4|k4
  ·exact .inl k4
  ·exact .inr ⟨_,k4,hsz0⟩
theorem GAO.stored(h:GAO w0 x T e C v size n xs new Kp jb ja js γ L w)(hTe:e≠T)(hk:∀w w',Kp w→Chg (fun k=>k=x) w w'→(∃cs,At w x T cs)→Kp w')(ha:L ja=true)(hjs:L js=false)(h2:ja≠js){i:Nat}(hC:(C v).setIfInBounds i (γ 1)=C (γ 1)) :
 GAO w0 x T e C v size n xs new Kp jb ja js γ (fun i=>i == js||L i) (w.setCell ⟨x,i,none⟩ (γ 1)):=by
 have h4:=h.at_
 rw[hjs]at h4
 have h5:=h.own
 rw[ha]at h5
 simp only[Bool.false_eq_true,if_false,if_true]at h4 h5
 have hc:Chg (fun k=>k=x) w (w.setCell ⟨x,i,none⟩ (γ 1)):=(Chg.refl (fun k=>k=x) w).setCell (p:=⟨x,i,none⟩) (.inl rfl) _
 refine⟨h.chg.trans hc (fun k hk' e=>.inl e),?_,?_,fun _=>h.nb ha,fun _ hh=>by simp[ha]at hh,hk _ _ h.kp hc ⟨_,h4⟩⟩
 ·simp only[beq_self_eq_true,Bool.true_or,if_true]
  rw[←hC];exact h4.set i _
 ·simp only[ha,Bool.or_true,if_true]
  refine⟨h5.1,?_⟩
  rcases h5.2 with h6|⟨g',cap,cur,hv,hb',hg',r⟩
  ·exact .inl h6
  ·refine .inr ⟨g',cap,cur,hv,hb',(hc.block g' (lt_of_block hg') ?_).trans hg',r⟩
   rintro rfl
   unfold At at h4
   rw[hg']at h4
   injection h4 with h4
   injection h4 with _ h4 _
   exact hTe h4
theorem GAO.js_off{a b:Nat}(hdown:∀i d,L i=true→needs ops i d=true→L d=true)(hoff:L a=false){r:List Nat}(hp:pathB ops (a::r)=true)(hb:b∈r):L b=false:=path_off hdown hoff hp b hb
end
end Go.Proofs.YtkkbfdencgdbhaaGreatDoor
namespace Go.Proofs.YtkkbfdencgdbhaaGreatDoor
open Go.RowKit Go.Sort
theorem msg_info:(Tryz.prog.info? 129).map (fun i=>(i.zero,i.size,i.bytes))=some (some (.agg #[.int .i64 0,.int .i64 0,.int .i64 0,.int .i64 0,.int .i64 0,.int .i64 0,.int .i64 0,.bool false,.slice none 0 0,.string ByteArray.empty]),10,104):=by kernel_rfl
theorem msg_size:(Tryz.prog.info? 129).map (·.size)=some 10:=by kernel_rfl
set_option maxRecDepth 100000 in
theorem stored_any(w:World)(r:Nat):Calls Tryz.prog 130 #[.pointer (some ⟨r,0,none⟩),.int .i64 0] w fun e w'=>e=.returned (.bool true)∧w'=w:=by
 go_enter Tryz.func130,Tryz.ntmps130
 go_wp2_with fail
 go_ret
 exact⟨rfl,rfl⟩
section
variable{w:World}{K:Ka}{N:Nd}(h:NdAt w K N)(hN:NdOk N)
include h
set_option maxRecDepth 100000 in
theorem broken_any:Calls Tryz.prog 86 #[.pointer (some ⟨K.r,0,none⟩)] w fun e w'=>e=.returned (.int .i64 0)∧w'=w:=by
 have c18:=h.nd.cell 18
 simp[ndCells]at c18
 go_enter Tryz.func86,Tryz.ntmps86
 go_wp2_with fail
 go_ret
 exact⟨rfl,rfl⟩
set_option maxRecDepth 100000 in
theorem role_any:Calls Tryz.prog 40 #[.pointer (some ⟨K.r,0,none⟩)] w fun e w'=>e=.returned (.int .i64 N.role)∧w'=w:=by
 have c:=h.nd.cell 9
 simp[ndCells]at c
 go_enter Tryz.func40,Tryz.ntmps40
 go_wp2_with fail
 go_ret
 exact⟨rfl,rfl⟩
set_option maxRecDepth 100000 in
theorem nlast_dn(hN:TsOk N.s):Calls Tryz.prog 129 #[.pointer (some ⟨K.r,0,none⟩)] w fun e w'=>e=.returned (.int .i64 N.s.last.1)∧∃n,w'=w.drewN n:=by
 have ct:=tlast_dn w K.r 3 N.s K.lv h.ts hN
 go_enter Tryz.func129,Tryz.ntmps129
 go_wp2_with fail
 refine ct.mono ?_
 rintro e w1 ⟨rfl,k,rfl⟩
 go_wp2_with fail
 go_ret
 exact⟨rfl,k,rfl⟩
include hN in
theorem nlast_any:Calls Tryz.prog 129 #[.pointer (some ⟨K.r,0,none⟩)] w fun e w'=>e=.returned (.int .i64 N.s.last.1)∧Ext w w' :=
 (nlast_dn h hN.ts).mono fun _ _ ⟨h1,n,h2⟩=>⟨h1,h2 ▸ (Ext.refl w).drewN n⟩
theorem NdAt.set{i:Nat}{u:Value}{N':Nd}(e:(ndCells K N).setIfInBounds i u=ndCells K N')(h1:N'.fs=N.fs)(h2:N'.s.log=N.s.log)(h3:N'.votes=N.votes)(h4:N'.mt=N.mt)(h5:N'.nx=N.nx)(h6:N'.out=N.out):NdAt (w.setCell ⟨K.r,i,none⟩ u) K N':=by
 have hc:Chg (fun k=>k=K.r) w (w.setCell ⟨K.r,i,none⟩ u):=(Chg.refl (fun k=>k=K.r) w).setCell (p:=⟨K.r,i,none⟩) (.inl rfl) _
 have hA:=h.nd.set i u
 rw[e]at hA
 have hd:K.d≠K.r:=fun hh=>(h.dk.1.ne h.nd (by decide)) hh
 have hm:K.m≠K.r:=fun hh=>(h.dk.2.ne_at h.nd) hh
 have q:∀ {e:TypeId} {size:Nat} {v:Value} {n:Nat} {xs:List Value},w.ownsRow 0 e size v n xs→e≠96→(w.setCell ⟨K.r,i,none⟩ u).ownsRow 0 e size v n xs:=fun ho he=>q_keep ho hc fun k hk hs=>by
  have hs':k=K.r:=hs
  rw[hs']at hk
  exact q_apart ho h.nd he hk
 refine⟨hA,⟨by rw[h1];exact h.dk.1.chg hc hd,by rw[h1];exact h.dk.2.chg hc hm⟩,by rw[h2];exact q h.lg (by decide),by rw[h3];exact q h.vs (by decide),by rw[h4];exact q h.ms (by decide),by rw[h5];exact q h.ns (by decide),?_,h.mn,h.le⟩
 rw[h6]
 exact⟨q h.os.own (by decide),h.os.len,fun j m ev hm he=>q (h.os.es j m ev hm he) (by decide)⟩
omit h in
theorem chg_r(K:Ka)(w:World)(i:Nat)(u:Value):Chg K.has w (w.setCell ⟨K.r,i,none⟩ u):=(Chg.refl _ w).setCell (p:=⟨K.r,i,none⟩) (.inl (.inl rfl)) _
theorem NdAt.fewer{K':Ka}{N':Nd}{w':World}(hA:At w' K.r 96 (ndCells K' N'))(hC:Chg (fun k=>k=K.r) w w')(hr:K'.r=K.r∧K'.d=K.d∧K'.m=K.m)(h1:N'.fs=N.fs)(h2:N'.s.log=N.s.log∧K'.lv=K.lv)
 (h3:(N'.votes=N.votes∧K'.vv=K.vv)∨(N'.votes=[]∧K'.vv=.slice none 0 0)) (h4:(N'.mt=N.mt∧K'.mv=K.mv)∨(N'.mt=[]∧K'.mv=.slice none 0 0)) (h5:(N'.nx=N.nx∧K'.nv=K.nv)∨(N'.nx=[]∧K'.nv=.slice none 0 0))
 (h6:(N'.out=N.out∧K'.ov=K.ov∧K'.evs=K.evs)∨(N'.out=[]∧K'.ov=.slice none 0 0∧K'.evs=[])):NdAt w' K' N':=by
 have hd:K.d≠K.r:=fun hh=>(h.dk.1.ne h.nd (by decide)) hh
 have hm:K.m≠K.r:=fun hh=>(h.dk.2.ne_at h.nd) hh
 have q:∀ {e:TypeId} {size:Nat} {v:Value} {n:Nat} {xs:List Value},w.ownsRow 0 e size v n xs→e≠96→w'.ownsRow 0 e size v n xs:=fun ho he=>q_keep ho hC fun k hk hs=>by
  have hs':k=K.r:=hs
  rw[hs']at hk
  exact q_apart ho h.nd he hk
 obtain⟨r1,r2,r3⟩:=hr
 refine⟨by rw[r1];exact hA,⟨by rw[h1,r2,r3];exact h.dk.1.chg hC hd,by rw[h1,r3];exact h.dk.2.chg hC hm⟩,by rw[h2.1,h2.2];exact q h.lg (by decide),?_,?_,?_,?_,?_,?_⟩
 ·rcases h3 with⟨a,b⟩|⟨a,b⟩ <;> rw[a,b]
  ·exact q h.vs (by decide)
  ·exact World.ownsRow_nil _ _ _ _
 ·rcases h4 with⟨a,b⟩|⟨a,b⟩ <;> rw[a,b]
  ·exact q h.ms (by decide)
  ·exact World.ownsRow_nil _ _ _ _
 ·rcases h5 with⟨a,b⟩|⟨a,b⟩ <;> rw[a,b]
  ·exact q h.ns (by decide)
  ·exact World.ownsRow_nil _ _ _ _
 ·rcases h6 with⟨a,b,c⟩|⟨a,b,c⟩ <;> rw[a,b,c]
  ·exact⟨q h.os.own (by decide),h.os.len,fun j m ev hm he=>q (h.os.es j m ev hm he) (by decide)⟩
  ·exact OutAt.nil _
 ·intro k hk he
  rcases h4 with⟨_,b⟩|⟨_,b⟩
  ·rcases h5 with⟨_,c⟩|⟨_,c⟩
   ·rw[b]at hk;rw[c]at he;exact h.mn k hk he
   ·rw[c]at he;cases he
  ·rw[b]at hk;cases hk
 ·intro v hv k hk
  rw[h2.2]
  rcases h6 with⟨_,_,c⟩|⟨_,_,c⟩
  ·rw[c]at hv;exact h.le v hv k hk
  ·rw[c]at hv;cases hv
set_option maxRecDepth 100000 in
theorem follow_any(l:Int):Calls Tryz.prog 110 #[.pointer (some ⟨K.r,0,none⟩),.int .i64 l] w fun e w'=>e=.returned (.tuple #[])∧NdAt w' { K with vv:=.slice none 0 0,mv:=.slice none 0 0,nv:=.slice none 0 0 } (N.follow l)∧Chg (fun k=>k=K.r) w w':=by
 have c9:=h.nd.cell 9
 have c10:=h.nd.cell 10
 have c14:=h.nd.cell 14
 have c15:=h.nd.cell 15
 have c16:=h.nd.cell 16
 have f9:=h.nd.frozen 9
 have f10:=h.nd.frozen 10
 have f14:=h.nd.frozen 14
 have f15:=h.nd.frozen 15
 have f16:=h.nd.frozen 16
 have hlt:=h.nd.lt
 obtain⟨A1,a1,e1,_⟩:=q_slc h.vs
 obtain⟨A2,a2,e2,_⟩:=q_slc h.ms
 obtain⟨A3,a3,e3,_⟩:=q_slc h.ns
 simp[ndCells,e1,e2,e3]at c9 c10 c14 c15 c16
 clear e1 e2 e3
 go_enter Tryz.func110,Tryz.ntmps110
 go_wp2_with fail
 go_end0
 have hC:Chg (fun k=>k=K.r) w (((((w.setCell ⟨K.r,9,none⟩ (.int .i64 0)).setCell ⟨K.r,10,none⟩ (.int .i64 l)).setCell ⟨K.r,14,none⟩ (.slice none 0 0)).setCell ⟨K.r,15,none⟩ (.slice none 0 0)).setCell ⟨K.r,16,none⟩ (.slice none 0 0)) :=
  (((((Chg.refl (fun k=>k=K.r) w).setCell (p:=⟨K.r,9,none⟩) (.inl rfl) _).setCell (p:=⟨K.r,10,none⟩) (.inl rfl) _).setCell (p:=⟨K.r,14,none⟩) (.inl rfl) _).setCell (p:=⟨K.r,15,none⟩) (.inl rfl) _).setCell (p:=⟨K.r,16,none⟩) (.inl rfl) _
 have hA:=((((h.nd.set 9 (.int .i64 0)).set 10 (.int .i64 l)).set 14 (.slice none 0 0)).set 15 (.slice none 0 0)).set 16 (.slice none 0 0)
 exact⟨rfl,h.fewer (K' := { K with vv:=.slice none 0 0,mv:=.slice none 0 0,nv:=.slice none 0 0 }) (N':=N.follow l) hA hC ⟨rfl,rfl,rfl⟩ rfl ⟨rfl,rfl⟩ (.inr ⟨rfl,rfl⟩) (.inr ⟨rfl,rfl⟩) (.inr ⟨rfl,rfl⟩) (.inl ⟨rfl,rfl,rfl⟩),hC⟩
set_option maxRecDepth 100000 in
theorem take_any:Calls Tryz.prog 84 #[.pointer (some ⟨K.r,0,none⟩)] w fun e w'=>e=.returned K.ov∧NdAt w' { K with ov:=.slice none 0 0,evs:=[] } { N with out:=[] } ∧ OutAt w' K.ov K.evs N.out∧Chg (fun k=>k=K.r) w w':=by
 have c17:=h.nd.cell 17
 have f17:=h.nd.frozen 17
 have hlt:=h.nd.lt
 obtain⟨A1,a1,e1,_⟩:=q_slc h.os.own
 simp[ndCells,e1]at c17
 have hC:Chg (fun k=>k=K.r) w (w.setCell ⟨K.r,17,none⟩ (.slice none 0 0)):=(Chg.refl (fun k=>k=K.r) w).setCell (p:=⟨K.r,17,none⟩) (.inl rfl) _
 have hA:=h.nd.set 17 (.slice none 0 0)
 have hO:OutAt (w.setCell ⟨K.r,17,none⟩ (.slice none 0 0)) K.ov K.evs N.out:=h.os.keep hC (fun k hk hs=>by have hs':k=K.r:=hs;rw[hs']at hk;exact q_apart h.os.own h.nd (by decide) hk) (fun ev he k hk hs=>by
  have hs':k=K.r:=hs
  rw[hs']at hk
  obtain⟨i,hi⟩:=List.getElem?_of_mem he
  have hil:=(List.getElem?_eq_some_iff.1 hi).1
  obtain⟨m,hm⟩:∃m,N.out[i]? = some m:=⟨_,List.getElem?_eq_getElem (by rw[←h.os.len];exact hil)⟩
  exact q_apart (h.os.es i m ev hm hi) h.nd (by decide) hk)
 have hF:=h.fewer (K' := { K with ov:=.slice none 0 0,evs:=[] }) (N' := { N with out:=[] }) hA hC ⟨rfl,rfl,rfl⟩ rfl ⟨rfl,rfl⟩ (.inl ⟨rfl,rfl⟩) (.inl ⟨rfl,rfl⟩) (.inl ⟨rfl,rfl⟩) (.inr ⟨rfl,rfl,rfl⟩)
 clear hA
 go_enter Tryz.func84,Tryz.ntmps84
 go_wp2_with fail
 go_ret
 rw[e1]at hO⊢
 exact⟨rfl,hF,hO,hC⟩
end
end Go.Proofs.YtkkbfdencgdbhaaGreatDoor
