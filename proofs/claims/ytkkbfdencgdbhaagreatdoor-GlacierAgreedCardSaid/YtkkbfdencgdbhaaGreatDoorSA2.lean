/-
  Part 2 of what the law leans on.
-/
import Derived.Test.YtkkbfdencgdbhaaGreatDoorSA1
import Derived.Test.YtkkbfdencgdbhaaGreatDoorChecked
import Derived.WalkKit
import Derived.Laws.AppendOwn
import Derived.Maps.AppendAt
set_option linter.unusedVariables false
set_option linter.unusedSimpArgs false
set_option linter.unusedSectionVars false
namespace Go.Proofs.YtkkbfdencgdbhaaGreatDoor
open Go.RowKit
theorem int_info:(Tryz.prog.info? 3).map (fun i=>(i.zero,i.size,i.bytes))=some (some (.int .i64 0),1,8):=by kernel_rfl
end Go.Proofs.YtkkbfdencgdbhaaGreatDoor
namespace Go.Proofs.YtkkbfdencgdbhaaGreatDoor
open Go.RowKit
def Sl(w:World)(v:Value)(xs:List Value):Prop :=
 ∃A c,v=.slice A xs.length c∧(xs≠[]→∃b o,A=some ⟨b,o,none⟩∧∀(i:Nat) (x:Value),xs[i]? = some x→w.cell? ⟨b,o+i,none⟩=some x)
section
variable{S:Nat→Prop}{w w':World}{v:Value}{xs:List Value}
theorem Sl.nil(w:World)(c:Nat):Sl w (.slice none 0 c) []:=⟨none,c,rfl,fun h=>absurd rfl h⟩
theorem cell_lt{w:World}{a:Addr}{u:Value}(h:w.cell? a=some u):a.block<w.heap.size:=World.block_lt_of_cell? _ _ h
theorem Sl.ext(h:Sl w v xs)(he:Ext w w'):Sl w' v xs:=by
 obtain⟨A,c,hv,hx⟩:=h
 refine⟨A,c,hv,fun hn=>?_⟩
 obtain⟨b,o,rfl,hc⟩:=hx hn
 exact⟨b,o,rfl,fun i x hi=>(Ext.cell he (cell_lt (hc i x hi))).trans (hc i x hi)⟩
theorem Sl.chg(h:Sl w v xs)(he:Chg S w w')(hS:∀b o n c,v=.slice (some ⟨b,o,none⟩) n c→xs≠[]→¬ S b):Sl w' v xs:=by
 obtain⟨A,c,hv,hx⟩:=h
 refine⟨A,c,hv,fun hn=>?_⟩
 obtain⟨b,o,rfl,hc⟩:=hx hn
 exact⟨b,o,rfl,fun i x hi=>(he.cell (cell_lt (hc i x hi)) (hS _ _ _ _ hv hn)).trans (hc i x hi)⟩
theorem Sl.of_own{base:Nat}{e:TypeId}{n:Nat}(h:w.ownsRow base e 1 v n xs):Sl w v xs:=by
 have hl:xs.length=n:=by simpa using h.1
 rcases h.2 with⟨rfl,hn⟩|⟨g,cap,cur,rfl,_⟩
 ·obtain rfl:xs=[]:=List.eq_nil_of_length_eq_zero (by omega)
  exact Sl.nil _ _
 ·refine⟨some ⟨g,0,none⟩,cap,by rw[hl],fun _=>⟨g,0,rfl,fun i x hi=>?_⟩⟩
  have hi':i<n:=by have:=(List.getElem?_eq_some_iff.1 hi).1;omega
  have:=h.cellAt i (by omega)
  rw[Nat.zero_add,this];exact hi
end
theorem own_chg{S:Nat→Prop}{w w':World}{base:Nat}{e:TypeId}{size:Nat}{v:Value}{n:Nat}{xs:List Value}(h:w.ownsRow base e size v n xs)(hc:Chg S w w')(hS:∀k,S k→k<base):w'.ownsRow base e size v n xs:=by
 obtain⟨h1,h2⟩:=h
 refine⟨h1,?_⟩
 rcases h2 with h2|⟨g,cap,cur,rfl,hb,hg,h3⟩
 ·exact .inl h2
 ·refine .inr ⟨g,cap,cur,rfl,hb,?_,h3⟩
  rw[hc.block g (lt_of_block hg) (fun hs=>by have:=hS _ hs;omega)]
  exact hg
theorem own_ge{w:World}{base:Nat}{e:TypeId}{size:Nat}{v:Value}{n:Nat}{xs:List Value}(h:w.ownsRow base e size v n xs):∀k,some k=v.ownBlock→base≤k:=by
 intro k hk
 rcases h.2 with⟨rfl,_⟩|⟨g,cap,cur,rfl,hb,_⟩
 ·cases hk
 ·cases hk;exact hb
theorem Chg.of_grown{w w':World}{row:Option Nat}(h:w.grownBy w' row):Chg (fun k=>some k=row) w w':=⟨h.os,h.tape,h.output,h.size,fun k hk hn=>h.block k hk hn⟩
def setAll(w:World)(g:Nat):Nat→List Value→World
 | _,[]=>w
 | k,v::r=>setAll (w.setCell ⟨g,k,none⟩ v) g (k+1) r
theorem At.setAll{g:Nat}{t:TypeId} : ∀ {vs:List Value} {k:Nat} {w:World} {cs:Array Value},At w g t cs→cs.size=k+vs.length→At (setAll w g k vs) g t (cs.toList.take k++vs).toArray
 | [],k,w,cs,h,hl=>by
  have:(cs.toList.take k++[]).toArray=cs:=by
   rw[List.append_nil,List.take_of_length_le (by simp at hl⊢;omega)]
  rw[this];exact h
 | v::r,k,w,cs,h,hl=>by
  have ih:=At.setAll (vs:=r) (k:=k+1) (h.set k v) (by simp at hl⊢;omega)
  have e:(cs.setIfInBounds k v).toList.take (k+1)++r=cs.toList.take k++v::r:=by
   have hk:k<cs.size:=by simp at hl;omega
   rw[Array.toList_setIfInBounds,List.take_succ_eq_append_getElem (by simpa using hk)]
   have e2:List.take k (cs.toList.set k v)=List.take k cs.toList:=by
    apply List.ext_getElem?
    intro i
    simp only[List.getElem?_take]
    split
    ·rw[List.getElem?_set_ne (by omega)]
    ·rfl
   simp[e2]
  rw[e]at ih
  exact ih
theorem chg_setAll(w0:World)(g:Nat):∀(vs:List Value) (k:Nat) (w:World),Chg (· = g) w0 w→Chg (· = g) w0 (setAll w g k vs)
 | [],_,_,h=>h
 | v::r,k,_w,h=>chg_setAll w0 g r (k+1) _ (h.setCell (.inl rfl) v)
section
variable{P:Program}{ops:Array Oper}{o:Oper}{a:Act}{w:World}{K:Act→World→Prop}{Q:Exit→Act→World→Prop}{E:Prop}
theorem wp_append_own'(s x:Operand)(t:TypeId)(ho:o.op=.call { callee:=.builtin .append,args:=#[s,x],argTypes:=#[t,t] })
 (base:Nat) (e:TypeId) (i:TypeInfo) (z:Value) (bytes:Nat) (ht:P.underlying t=some (.slice e)) (hi:P.info? e=some i) (hz:i.zero=some z)
 (hsize:i.size=1) (hby:i.bytes=bytes) (hzs:z.cells.size=1)
 (v:Value) (n:Nat) (xs:List Value) (hs:a.eval s=v) (hown:w.ownsRow base e 1 v n xs)
 (A:Addr) (m c:Nat) (news:List Value) (hx:a.eval x=.slice (some A) m c) (hl:news.length=m) (hnews:∀j u,news[j]? = some u→w.cell? (A.add j)=some u) (h1:∀u∈news,u.oneCell'=true)
 (h63:n+m≤maxLen) (hbytes:(n+m) * bytes≤140737488355328) (hbase:base≤w.heap.size)
 (h:∀v' w',w'.ownsRow base e 1 v' (n+m) (xs++news)→w.grownBy w' v.ownBlock→K (a.put o.dst v') w'):o.wp P a w K Q:=by
 obtain⟨v',w',hrun,h2,h3,_⟩:=run_append_own_at (P:=P) w base t o.type e i z 1 bytes ht hi hz hsize hby hzs (by omega) v n xs hown A m c news (by omega) hnews h1 h63 hbytes hbase
 unfold Oper.wp execOp
 simp only[ho,resolve,invoke,builtin,Sem.run_bind,Sem.run_pure,Result.andThen_ok,List.map_toArray,List.map_cons,List.map_nil,hs,hx,hrun]
 exact h v' w' h2 h3
theorem step_append_own(hgd:o.guard=none)(s x:Operand)(t:TypeId)(ho:o.op=.call { callee:=.builtin .append,args:=#[s,x],argTypes:=#[t,t] })
 (base:Nat) (e:TypeId) (i:TypeInfo) (z:Value) (bytes:Nat) (ht:P.underlying t=some (.slice e)) (hi:P.info? e=some i) (hz:i.zero=some z)
 (hsize:i.size=1) (hby:i.bytes=bytes) (hzs:z.cells.size=1)
 (v:Value) (n:Nat) (xs:List Value) (hs:a.eval s=v) (hown:w.ownsRow base e 1 v n xs)
 (A:Addr) (m c:Nat) (news:List Value) (hx:a.eval x=.slice (some A) m c) (hl:news.length=m) (hnews:∀j u,news[j]? = some u→w.cell? (A.add j)=some u) (h1:∀u∈news,u.oneCell'=true)
 (h63:n+m≤maxLen) (hbytes:(n+m) * bytes≤140737488355328) (hbase:base≤w.heap.size)
 (h:∀v' w',w'.ownsRow base e 1 v' (n+m) (xs++news)→w.grownBy w' v.ownBlock→K (a.put o.dst v') w') :
 if Region.wanted o (yielded ops a.tmps)=true then Oper.wp P o a w K Q else E:=by
 have hw:Region.wanted o (yielded ops a.tmps)=true:=by simp[Region.wanted,hgd]
 rw[if_pos hw]
 exact wp_append_own' s x t ho base e i z bytes ht hi hz hsize hby hzs v n xs hs hown A m c news hx hl hnews h1 h63 hbytes hbase h
theorem cell_one{w:World}{t:TypeId}{u:Value} : ∀j (x:Value),[u][j]? = some x→(w.alloc (.cells #[u] t)).cell? (Addr.add ⟨w.heap.size,0,none⟩ j)=some x:=by
 intro j x hx
 cases j with
 | zero =>
  simp only[List.getElem?_cons_zero,Option.some.injEq]at hx
  subst hx
  exact(At.new w t #[u]).cell 0
 | succ j=>simp at hx
end
end Go.Proofs.YtkkbfdencgdbhaaGreatDoor
namespace Go.Proofs.YtkkbfdencgdbhaaGreatDoor
open Go.RowKit
def Sln(w:World)(v:Value)(size:Nat)(xs:List (List Value)):Prop :=
 ∃A c,v=.slice A xs.length c∧(xs≠[]→∃b o,A=some ⟨b,o,none⟩∧∀(i:Nat) (row:List Value),xs[i]? = some row→∀(j:Nat) (x:Value),row[j]? = some x→w.cell? ⟨b,o+i * size+j,none⟩=some x)
section
variable{S:Nat→Prop}{w w':World}{v:Value}{size:Nat}{xs:List (List Value)}
theorem Sln.chg(h:Sln w v size xs)(he:Chg S w w')(hS:∀b o n c,v=.slice (some ⟨b,o,none⟩) n c→xs≠[]→¬ S b):Sln w' v size xs:=by
 obtain⟨A,c,hv,hx⟩:=h
 refine⟨A,c,hv,fun hn=>?_⟩
 obtain⟨b,o,rfl,hc⟩:=hx hn
 refine⟨b,o,rfl,fun i row hi j x hj=>?_⟩
 have h0:=hc i row hi j x hj
 exact(he.cell (p:=⟨b,o+i * size+j,none⟩) (cell_lt h0) (hS _ _ _ _ hv hn)).trans h0
theorem Sln.ext(h:Sln w v size xs)(he:Ext w w'):Sln w' v size xs:=Sln.chg h he fun _ _ _ _ _ _ hh=>hh
theorem flat_get:∀ {rows:List (List Value)} {size:Nat} (_:∀r∈rows,r.length=size) {i j:Nat} {row:List Value} {x:Value},rows[i]? = some row→row[j]? = some x→rows.flatten[i * size+j]? = some x
 | [],_,_,_,_,_,_,hi,_=>by cases hi
 | r::rs,size,h,0,j,row,x,hi,hj=>by
  simp only[List.getElem?_cons_zero,Option.some.injEq]at hi
  subst hi
  have hl:=h r (List.mem_cons_self ..)
  have hjl:j<r.length:=(List.getElem?_eq_some_iff.1 hj).1
  rw[Nat.zero_mul,Nat.zero_add,List.flatten_cons,List.getElem?_append_left hjl]
  exact hj
 | r::rs,size,h,i+1,j,row,x,hi,hj=>by
  have hl:=h r (List.mem_cons_self ..)
  rw[List.getElem?_cons_succ]at hi
  rw[List.flatten_cons,List.getElem?_append_right (by rw[hl,Nat.add_mul];omega),hl,show(i+1) * size+j - size=i * size+j by rw[Nat.add_mul];omega]
  exact flat_get (fun r hr=>h r (List.mem_cons_of_mem _ hr)) hi hj
theorem Sln.of_own{base:Nat}{e:TypeId}{n:Nat}(h:w.ownsRow base e size v n xs.flatten)(hr:∀r∈xs,r.length=size)(hn:xs.length=n):Sln w v size xs:=by
 rcases h.2 with⟨rfl,h0⟩|⟨g,cap,cur,rfl,hb,hg,h1,h2,h3,h4⟩
 ·obtain rfl:xs=[]:=List.eq_nil_of_length_eq_zero (by omega)
  exact⟨none,0,rfl,fun hh=>absurd rfl hh⟩
 ·refine⟨some ⟨g,0,none⟩,cap,by rw[hn],fun _=>⟨g,0,rfl,fun i row hi j x hj=>?_⟩⟩
  have h5:=flat_get hr hi hj
  rw[←h4,List.getElem?_take]at h5
  split at h5
  ·rw[World.cell?,hg]
   simpa using h5
  ·cases h5
end
end Go.Proofs.YtkkbfdencgdbhaaGreatDoor
namespace Go.Proofs.YtkkbfdencgdbhaaGreatDoor
open Go.RowKit
section
variable{P:Program}{ops:Array Oper}{rest:List Oper}{o:Oper}{a:Act}{Q:Exit→Act→World→Prop}
end
theorem flat_of:∀ {rows:List (List Value)} {size:Nat} (_:∀r∈rows,r.length=size) {j:Nat} {u:Value},rows.flatten[j]? = some u→∃i r k,rows[i]? = some r∧r[k]? = some u∧j=i * size+k
 | [],_,_,j,u,h=>by simp at h
 | r::rs,size,hl,j,u,h=>by
  have hr:=hl r (List.mem_cons_self ..)
  rw[List.flatten_cons]at h
  by_cases hj:j<r.length
  ·rw[List.getElem?_append_left hj]at h
   exact⟨0,r,j,rfl,h,by omega⟩
  ·rw[List.getElem?_append_right (by omega)]at h
   obtain⟨i,r',k,h1,h2,h3⟩:=flat_of (fun r hr=>hl r (List.mem_cons_of_mem _ hr)) h
   exact⟨i+1,r',k,by rw[List.getElem?_cons_succ];exact h1,h2,by rw[Nat.add_mul];omega⟩
theorem flat_len:∀ {rows:List (List Value)} {size:Nat} (_:∀r∈rows,r.length=size),rows.flatten.length=rows.length * size
 | [],_,_=>by simp
 | r::rs,size,hl=>by
  rw[List.flatten_cons,List.length_append,flat_len (fun r hr=>hl r (List.mem_cons_of_mem _ hr)),hl r (List.mem_cons_self ..),List.length_cons,Nat.add_mul];omega
section
variable{P:Program}{ops:Array Oper}{rest:List Oper}{o:Oper}{a:Act}{Q:Exit→Act→World→Prop}
theorem wpList_append_sln{w:World}{base:Nat}{e:TypeId}{size:Nat}{v:Value}{n:Nat}{xs:List Value}(hown:w.ownsRow base e size v n xs){vx:Value}{rows:List (List Value)}(hS:Sln w vx size rows)
 (hrs:∀r∈rows,r.length=size) (hone:∀r∈rows,r.all Value.oneCell'=true) {z:Value} {bytes:Nat}
 (t:TypeId) (ht:P.underlying t=some (.slice e)) (hinfo:(P.info? e).map (fun i=>(i.zero,i.size,i.bytes))=some (some z,size,bytes))
 (hzs:z.cells.size=size) (hsz:0<size) (hby:bytes≤128) (hn:n+rows.length<1000000000000) (hbase:base≤w.heap.size)
 (hgd:o.guard=none) (s x:Operand) (ho:o.op=.call { callee:=.builtin .append,args:=#[s,x],argTypes:=#[t,t] }) (hs:a.eval s=v) (hx:a.eval x=vx)
 (h:∀v' w',w'.ownsRow base e size v' (n+rows.length) (xs++rows.flatten)→Chg (fun k=>some k=v.ownBlock) w w'→wpList P ops Q rest (a.put o.dst v') w') :
 wpList P ops Q (o::rest) a w:=by
 obtain⟨i,hi,h0,h1,h2⟩:∃i,P.info? e=some i∧i.zero=some z∧i.size=size∧i.bytes=bytes:=by
  cases hp:P.info? e with
  | none=>rw[hp]at hinfo;cases hinfo
  | some i =>
   rw[hp]at hinfo
   simp only[Option.map_some,Option.some.injEq,Prod.mk.injEq]at hinfo
   exact⟨i,rfl,hinfo.1,hinfo.2.1,hinfo.2.2⟩
 have hby2:(n+rows.length) * bytes≤140737488355328:=by
  have:(n+rows.length) * bytes≤1000000000000 * 128:=Nat.mul_le_mul (by omega) hby
  omega
 obtain⟨A,c,rfl,hc⟩:=hS
 cases rows with
 | nil =>
  cases A with
  | none =>
   refine wpList_plain hgd fun K hK=>?_
   have hrun:(Builtin.append_ #[t,t] o.type #[v,.slice none 0 c]).run P w=.ok v w:=by
    rcases hown.2 with⟨rfl,rfl⟩|⟨g,cap,cur,rfl,_,_,hnc,_⟩
    ·simp[Builtin.append_,run_underlying ht,sizeOf,typeInfo,hi,Builtin.lenOf,Builtin.firstCells]
    ·simp[Builtin.append_,run_underlying ht,sizeOf,typeInfo,hi,Builtin.lenOf,Builtin.firstCells,hnc,storeCells]
   unfold Oper.wp
   simp[execOp,ho,resolve,invoke,builtin,hs,hx,hrun,Result.andThen]
   exact hK _ _ (h _ _ (by simpa using hown) (Chg.refl _ _))
  | some ad =>
   exact wpList_append_own _ hgd s x t ho base e i z size bytes ht hi h0 h1 h2 hzs hsz v n xs hs hown ad 0 c [] hx (by simp) (fun j u hu=>by simp at hu) (fun u hu=>by cases hu) (by unfold maxLen;simp at hn;omega) (by simpa using hby2) hbase (fun v' w' h3 h4 _=>h v' w' (by simpa using h3) (Chg.of_grown h4))
 | cons r rs =>
  obtain⟨b,o',rfl,hcc⟩:=hc (by simp)
  refine wpList_append_own _ hgd s x t ho base e i z size bytes ht hi h0 h1 h2 hzs hsz v n xs hs hown ⟨b,o',none⟩ (r::rs).length c (r::rs).flatten hx (flat_len hrs) (fun j u hu=>?_) (fun u hu=>?_) (by unfold maxLen;omega) hby2 hbase (fun v' w' h3 h4 _=>h v' w' h3 (Chg.of_grown h4))
  ·obtain⟨i',r',k,e1,e2,e3⟩:=flat_of hrs hu
   have:=hcc i' r' e1 k u e2
   rw[Go.WideShapes.add_plain,e3,←Nat.add_assoc]
   exact this
  ·obtain⟨r',hr',hu'⟩:=List.mem_flatten.1 hu
   exact List.all_eq_true.1 (hone r' hr') u hu'
end
end Go.Proofs.YtkkbfdencgdbhaaGreatDoor
namespace Go.Proofs.YtkkbfdencgdbhaaGreatDoor
open Go.RowKit
theorem own_set{w:World}{base:Nat}{e:TypeId}{size:Nat}{g n cap:Nat}{xs:List Value}(h:w.ownsRow base e size (.slice (some ⟨g,0,none⟩) n cap) n xs){j:Nat}(hj:j<n * size)(u:Value) :
 (w.setCell ⟨g,j,none⟩ u).ownsRow base e size (.slice (some ⟨g,0,none⟩) n cap) n (xs.set j u):=by
 obtain⟨h1,h2⟩:=h
 refine⟨by rw[List.length_set];exact h1,?_⟩
 rcases h2 with⟨h2,_⟩|⟨g',cap',cur,h2,h3,h4,h5,h6,h7,h8⟩
 ·cases h2
 ·simp only[Value.slice.injEq,Option.some.injEq,Addr.mk.injEq,and_true,true_and]at h2
  obtain⟨rfl,rfl⟩:=h2
  have hA:At w g e cur:=h4
  have hS:=hA.set j u
  refine .inr ⟨g,cap,cur.setIfInBounds j u,rfl,h3,hS,h5,h6,by rw[Array.size_setIfInBounds];exact h7,?_⟩
  rw[Array.toList_setIfInBounds,←h8]
  apply List.ext_getElem?
  intro i
  simp only[List.getElem?_take,List.getElem?_set,List.length_take]
  by_cases hi:i<n * size
  ·rw[if_pos hi]
   by_cases hij:j=i
   ·subst hij
    rw[if_pos rfl,if_pos rfl]
    have hcs:n * size≤cap * size:=Nat.mul_le_mul_right _ h5
    have h9:j<cur.toList.length:=by rw[Array.length_toList,h7];omega
    rw[if_pos h9,if_pos (by omega)]
   ·rw[if_neg hij,if_neg hij,if_pos hi]
  ·rw[if_neg hi]
   by_cases hij:j=i
   ·omega
   ·rw[if_neg hij,if_neg hi]
end Go.Proofs.YtkkbfdencgdbhaaGreatDoor
