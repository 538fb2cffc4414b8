/-
  Part 40 of what the law leans on.
-/
import Derived.Test.YtkkbfdencgdbhaaGreatDoorSA11
import Derived.Test.YtkkbfdencgdbhaaGreatDoorSA13
import Derived.Test.YtkkbfdencgdbhaaGreatDoorSA39
set_option linter.unusedVariables false
set_option linter.unusedSimpArgs false
set_option linter.unusedSectionVars false
namespace Go.Proofs.YtkkbfdencgdbhaaGreatDoor
open Go.RowKit Go.Sort
def nLog:ByteArray:=⟨#[108,111,103]⟩
def nSnap:ByteArray:=⟨#[115,110,97,112]⟩
def nTerm:ByteArray:=⟨#[116,101,114,109]⟩
def qfl(b:ByteArray):Fl:=⟨true,b,true,b⟩
def qold(n:ByteArray):Option ByteArray→List (ByteArray×Fl)
 | none=>[]
 | some b=>[(n,qfl b)]
def osz(o:Option ByteArray):Nat:=(o.getD ByteArray.empty).size
theorem q_lput{n:ByteArray}{f:Fl}{R:List (ByteArray×Fl)}(hR:∀p∈R,blt n p.1=true)(o:Option ByteArray):∀ {L:List (ByteArray×Fl)},(∀p∈L,blt p.1 n=true)→lput blt n f (L++(qold n o++R))=L++(n,f)::R
 | [],_=>by
  cases o with
  | some b=>simp[qold,lput,blt_ordd.irr]
  | none =>
   cases R with
   | nil=>rfl
   | cons p R =>
    have:=hR p (List.mem_cons_self ..)
    simp[qold,lput,this]
 | p::L,h=>by
  have h1:=h p (List.mem_cons_self ..)
  have h2:blt n p.1=false:=by
   cases hb:blt n p.1 with
   | false=>rfl
   | true=>have:=blt_ordd.tr h1 hb;rw[blt_ordd.irr]at this;cases this
  show(if blt n p.1 then _ else if blt p.1 n then p::lput blt n f (L++(qold n o++R))else _)=_
  rw[h2,h1]
  simp only[Bool.false_eq_true,if_false,if_true,List.cons_append]
  rw[q_lput hR o (fun q hq=>h q (List.mem_cons_of_mem _ hq))]
theorem q_lget{n:ByteArray}{L R:List (ByteArray×Fl)}(hL:∀p∈L,blt p.1 n=true)(hR:∀p∈R,blt n p.1=true)(o:Option ByteArray):lget n (L++(qold n o++R))=o.map qfl:=by
 have q1:L.find? (fun p=>decide (p.1=n))=none:=List.find?_eq_none.2 fun p hp=>by
  have h1:=hL p hp
  simp only[decide_eq_true_eq]
  intro e
  rw[e,blt_ordd.irr]at h1;cases h1
 have q2:R.find? (fun p=>decide (p.1=n))=none:=List.find?_eq_none.2 fun p hp=>by
  have h1:=hR p hp
  simp only[decide_eq_true_eq]
  intro e
  rw[e,blt_ordd.irr]at h1;cases h1
 unfold lget
 rw[List.find?_append,q1,Option.none_or,List.find?_append]
 cases o with
 | none=>simp[qold,q2]
 | some b=>simp[qold]
theorem q_get{n:ByteArray}{L R:List (ByteArray×Fl)}(hL:∀p∈L,blt p.1 n=true)(hR:∀p∈R,blt n p.1=true)(o:Option ByteArray)(room u:Int) :
 (Dk.mk room u false 0 (L++(qold n o++R))).get n=⟨o.isSome,o.getD ByteArray.empty,o.isSome,o.getD ByteArray.empty⟩:=by
 unfold Dk.get
 simp only
 rw[q_lget hL hR]
 cases o <;> rfl
theorem q_get2{n:ByteArray}{L R:List (ByteArray×Fl)}(hL:∀p∈L,blt p.1 n=true)(f:Fl)(room u:Int) :
 (Dk.mk room u false 0 (L++(n,f)::R)).get n=f:=by
 have q1:L.find? (fun p=>decide (p.1=n))=none:=List.find?_eq_none.2 fun p hp=>by
  have h1:=hL p hp
  simp only[decide_eq_true_eq]
  intro e
  rw[e,blt_ordd.irr]at h1;cases h1
 unfold Dk.get lget
 simp only
 rw[List.find?_append,q1,Option.none_or]
 simp
theorem q_lput2{n:ByteArray}{f f':Fl}{R:List (ByteArray×Fl)} : ∀ {L:List (ByteArray×Fl)},(∀p∈L,blt p.1 n=true)→lput blt n f (L++(n,f')::R)=L++(n,f)::R
 | [],_=>by simp[lput,blt_ordd.irr]
 | p::L,h=>by
  have h1:=h p (List.mem_cons_self ..)
  have h2:blt n p.1=false:=by
   cases hb:blt n p.1 with
   | false=>rfl
   | true=>have:=blt_ordd.tr h1 hb;rw[blt_ordd.irr]at this;cases this
  show(if blt n p.1 then _ else if blt p.1 n then p::lput blt n f (L++(n,f')::R)else _)=_
  rw[h2,h1]
  simp only[Bool.false_eq_true,if_false,if_true,List.cons_append]
  rw[q_lput2 (fun q hq=>h q (List.mem_cons_of_mem _ hq))]
theorem q_change{n:ByteArray}{L R:List (ByteArray×Fl)}(hL:∀p∈L,blt p.1 n=true)(hR:∀p∈R,blt n p.1=true)(hn:n.data.toList.isEmpty=false)(o:Option ByteArray)(u:Nat)(hu:osz o≤u)
 (g:ByteArray→ByteArray) (t:ByteArray) (ht:g (o.getD ByteArray.empty)=t) (hr:u+t.size≤4194304) :
 (Dk.mk 4194304 (u:Int) false 0 (L++(qold n o++R))).change n g=(0,⟨4194304,(u:Int)+(max (t.size:Int) (osz o:Int) - (osz o:Int)),false,0,L++(n,⟨true,t,o.isSome,o.getD ByteArray.empty⟩)::R⟩):=by
 have hget:=q_get hL hR o 4194304 (u:Int)
 unfold Dk.change
 have he:(Dk.mk 4194304 (u:Int) false 0 (L++(qold n o++R))).e=0:=rfl
 have htk:(Dk.mk 4194304 (u:Int) false 0 (L++(qold n o++R))).tick=Dk.mk 4194304 (u:Int) false 0 (L++(qold n o++R)):=rfl
 rw[if_neg (by rw[he];decide),if_neg (by rw[hn];decide),htk,hget]
 simp only[ht]
 have hg:(Dk.mk 4194304 (u:Int) false 0 (L++(qold n o++R))).grow n ⟨true,t,o.isSome,o.getD ByteArray.empty⟩=max (t.size:Int) (osz o:Int) - (osz o:Int):=by
  unfold Dk.grow wt
  rw[hget]
  simp only[osz]
  omega
 unfold Dk.put
 rw[hg,if_neg (by simp only;omega)]
 congr 1
 simp only[lputf,Bool.true_or,if_true]
 rw[q_lput hR o hL]
 congr 1
 unfold nuse
 split <;> omega
theorem q_sync{n:ByteArray}{L R:List (ByteArray×Fl)}(hL:∀p∈L,blt p.1 n=true)(hn:n≠ByteArray.empty)(o:Option ByteArray)(u:Nat)(hu:osz o≤u)(t:ByteArray) :
 (Dk.mk 4194304 ((u:Int)+(max (t.size:Int) (osz o:Int) - (osz o:Int))) false 0 (L++(n,⟨true,t,o.isSome,o.getD ByteArray.empty⟩)::R)).sync [n]=(0,⟨4194304,(u:Int) - (osz o:Int)+(t.size:Int),false,0,L++(n,qfl t)::R⟩):=by
 unfold Dk.sync
 rw[if_neg (by show ¬ (0:Int)≠0;decide),if_neg (by simp)]
 congr 1
 show Dk.sync1 (Dk.mk 4194304 _ false 0 _) n=_
 unfold Dk.sync1
 rw[q_get2 hL]
 have hg:(Dk.mk 4194304 ((u:Int)+(max (t.size:Int) (osz o:Int) - (osz o:Int))) false 0 (L++(n,⟨true,t,o.isSome,o.getD ByteArray.empty⟩)::R)).grow n ⟨true,t,true,t⟩=(t.size:Int) - max (t.size:Int) (osz o:Int):=by
  unfold Dk.grow wt
  rw[q_get2 hL]
  simp only[osz]
  omega
 unfold Dk.put
 simp only
 rw[hg,if_neg (by omega)]
 simp only[lputf,Bool.true_or,if_true]
 rw[q_lput2 hL]
 congr 1
 unfold nuse
 split <;> omega
structure Fs where
 lg:Option ByteArray
 sn:Option ByteArray
 tm:Option ByteArray
def Fs.tot(F:Fs):Nat:=osz F.lg+osz F.sn+osz F.tm
def Fs.list(F:Fs):List (ByteArray×Fl):=qold nLog F.lg++(qold nSnap F.sn++qold nTerm F.tm)
def Fs.dk(F:Fs):Dk:=⟨4194304,(F.tot:Int),false,0,F.list⟩
def Fs.none:Fs:=⟨.none,.none,.none⟩
theorem mem_qold{n:ByteArray}{o:Option ByteArray}{p:ByteArray×Fl}(h:p∈qold n o):p.1=n∧p.2=qfl (o.getD ByteArray.empty):=by
 cases o with
 | none=>cases h
 | some b =>
  rcases List.mem_cons.1 h with rfl|h
  ·exact⟨rfl,rfl⟩
  ·cases h
theorem lt_ls:blt nLog nSnap=true:=by decide +kernel
theorem lt_lt:blt nLog nTerm=true:=by decide +kernel
theorem lt_st:blt nSnap nTerm=true:=by decide +kernel
theorem fs_R1(F:Fs):∀p∈qold nSnap F.sn++qold nTerm F.tm,blt nLog p.1=true:=fun p hp=>by
 rcases List.mem_append.1 hp with hp|hp
 ·rw[(mem_qold hp).1];exact lt_ls
 ·rw[(mem_qold hp).1];exact lt_lt
theorem fs_L2(F:Fs):∀p∈qold nLog F.lg,blt p.1 nSnap=true:=fun p hp=>by rw[(mem_qold hp).1];exact lt_ls
theorem fs_R2(F:Fs):∀p∈qold nTerm F.tm,blt nSnap p.1=true:=fun p hp=>by rw[(mem_qold hp).1];exact lt_st
theorem fs_L3(F:Fs):∀p∈qold nLog F.lg++qold nSnap F.sn,blt p.1 nTerm=true:=fun p hp=>by
 rcases List.mem_append.1 hp with hp|hp
 ·rw[(mem_qold hp).1];exact lt_lt
 ·rw[(mem_qold hp).1];exact lt_st
theorem Fs.list3(F:Fs):F.list=(qold nLog F.lg++qold nSnap F.sn)++(qold nTerm F.tm++[]):=by simp[Fs.list]
def Fs.nm:Nat→ByteArray
 | 0=>nLog
 | 1=>nSnap
 | _=>nTerm
def Fs.at_(F:Fs):Nat→Option ByteArray
 | 0=>F.lg
 | 1=>F.sn
 | _=>F.tm
def Fs.put(F:Fs)(k:Nat)(t:ByteArray):Fs :=
 match k with
 | 0 => { F with lg:=some t }
 | 1 => { F with sn:=some t }
 | _ => { F with tm:=some t }
theorem Fs.nm_ne(k:Nat):(Fs.nm k).data.toList.isEmpty=false:=by
 match k with
 | 0=>rfl
 | 1=>rfl
 | (n+2)=>rfl
theorem Fs.nm_len(k:Nat):(Fs.nm k).size≤4:=by
 match k with
 | 0=>decide
 | 1=>decide
 | (n+2)=>exact(by decide:nTerm.size≤4)
theorem Fs.split(F:Fs)(k:Nat):∃L R,(∀p∈L,blt p.1 (Fs.nm k)=true)∧(∀p∈R,blt (Fs.nm k) p.1=true)∧F.list=L++(qold (Fs.nm k) (F.at_ k)++R)∧(∀t,(F.put k t).list=L++(Fs.nm k,qfl t)::R)∧osz (F.at_ k)≤F.tot∧∀t,((F.put k t).tot:Int)=(F.tot:Int) - (osz (F.at_ k):Int)+(t.size:Int):=by
 match k with
 | 0=>exact⟨[],_,(fun _ h=>by cases h),fs_R1 F,rfl,fun t=>rfl,by simp only[Fs.at_,Fs.tot] <;> omega,fun t=>by simp[Fs.at_,Fs.tot,Fs.put,osz] <;> omega⟩
 | 1=>exact⟨_,_,fs_L2 F,fs_R2 F,rfl,fun t=>rfl,by simp only[Fs.at_,Fs.tot] <;> omega,fun t=>by simp[Fs.at_,Fs.tot,Fs.put,osz] <;> omega⟩
 | (n+2)=>exact⟨_,[],fs_L3 F,(fun _ h=>by cases h),Fs.list3 F,fun t=>by simp[Fs.put,Fs.list,qold,Fs.nm],by simp only[Fs.at_,Fs.tot] <;> omega,fun t=>by simp[Fs.at_,Fs.tot,Fs.put,osz] <;> omega⟩
theorem Fs.get_(F:Fs)(k:Nat):F.dk.get (Fs.nm k)=⟨(F.at_ k).isSome,(F.at_ k).getD ByteArray.empty,(F.at_ k).isSome,(F.at_ k).getD ByteArray.empty⟩:=by
 obtain⟨L,R,h1,h2,h3,_⟩:=F.split k
 unfold Fs.dk
 rw[h3]
 exact q_get h1 h2 _ _ _
theorem Fs.get_no(F:Fs)(n:ByteArray)(h:∀k,n≠Fs.nm k):F.dk.get n=Fl.zero:=by
 unfold Dk.get
 rw[lget_none.2]
 ·rfl
 ·intro p hp e
  have hp':p∈F.list:=hp
  rcases List.mem_append.1 hp' with hp|hp
  ·exact h 0 (e.symm.trans (mem_qold hp).1)
  ·rcases List.mem_append.1 hp with hp|hp
   ·exact h 1 (e.symm.trans (mem_qold hp).1)
   ·exact h 2 (e.symm.trans (mem_qold hp).1)
def Fs.mid(F:Fs)(k:Nat)(t:ByteArray):Dk:=(F.dk.change (Fs.nm k) fun _=>t).2
theorem Fs.change(F:Fs)(k:Nat)(g:ByteArray→ByteArray)(t:ByteArray)(ht:g ((F.at_ k).getD ByteArray.empty)=t)(hr:F.tot+t.size≤4194304) :
 F.dk.change (Fs.nm k) g=(0,F.mid k t)∧(F.mid k t).sync [Fs.nm k]=(0,(F.put k t).dk):=by
 obtain⟨L,R,h1,h2,h3,h4,h5,h6⟩:=F.split k
 have hc:=q_change h1 h2 (Fs.nm_ne k) (F.at_ k) F.tot h5 g t ht hr
 have hc2:=q_change h1 h2 (Fs.nm_ne k) (F.at_ k) F.tot h5 (fun _=>t) t rfl hr
 have hd:F.dk=Dk.mk 4194304 (F.tot:Int) false 0 (L++(qold (Fs.nm k) (F.at_ k)++R)):=by unfold Fs.dk;rw[h3]
 have hm:F.mid k t=⟨4194304,(F.tot:Int)+(max (t.size:Int) (osz (F.at_ k):Int) - (osz (F.at_ k):Int)),false,0,L++(Fs.nm k,⟨true,t,(F.at_ k).isSome,(F.at_ k).getD ByteArray.empty⟩)::R⟩:=by unfold Fs.mid;rw[hd,hc2]
 refine⟨by rw[hd,hc,hm],?_⟩
 rw[hm]
 rw[q_sync h1 (fun e=>by have:=Fs.nm_ne k;rw[e]at this;cases this) (F.at_ k) F.tot h5 t]
 congr 1
 unfold Fs.dk
 rw[h4,h6]
theorem Fs.ok(F:Fs)(h:F.tot≤4194304):F.dk.Ok:=by
 have hsz:∀k,((F.at_ k).getD ByteArray.empty).size≤4194304:=fun k=>by
  obtain⟨_,_,_,_,_,_,h5,_⟩:=F.split k
  unfold osz at h5;omega
 have hfl:∀n,(F.dk.get n).nx.size≤4194304∧(F.dk.get n).sx.size≤4194304:=fun n=>by
  by_cases hn:∃k,n=Fs.nm k
  ·obtain⟨k,rfl⟩:=hn
   rw[F.get_ k]
   exact⟨hsz k,hsz k⟩
  ·rw[F.get_no n (fun k e=>hn ⟨k,e⟩)]
   exact⟨by show(0:Nat)≤_;omega,by show(0:Nat)≤_;omega⟩
 refine⟨by show(0:Int)≤(F.tot:Int);omega,by show(F.tot:Int)≤4194304;omega,by show(4194304:Int)≤_;decide,by show(0:Int)≤0;decide,by show(0:Int)≤_;decide,?_,?_,fun n=>?_⟩
 ·show Rises blt F.list
  have hone:∀n o,Rises blt (qold n o):=fun n o=>by cases o <;> simp[qold,Rises]
  unfold Fs.list Rises
  rw[List.pairwise_append,List.pairwise_append]
  refine⟨hone _ _,⟨hone _ _,hone _ _,fun a ha b hb=>?_⟩,fun a ha b hb=>?_⟩
  ·rw[(mem_qold ha).1,(mem_qold hb).1];exact lt_st
  ·rw[(mem_qold ha).1];exact fs_R1 F b hb
 ·intro p hp
  have hp':p∈F.list:=hp
  unfold maxLen
  rcases List.mem_append.1 hp' with hp|hp
  ·rw[(mem_qold hp).1];exact Nat.le_trans (Fs.nm_len 0) (by decide)
  ·rcases List.mem_append.1 hp with hp|hp
   ·rw[(mem_qold hp).1];exact Nat.le_trans (Fs.nm_len 1) (by decide)
   ·rw[(mem_qold hp).1];exact Nat.le_trans (Fs.nm_len 2) (by decide)
 ·have:=hfl n
  unfold maxLen;omega
theorem Fs.read_(F:Fs)(k:Nat):F.dk.read (Fs.nm k)=match F.at_ k with
 | some t=>(t,0)
 | .none=>(ByteArray.empty,5):=by
 unfold Dk.read
 rw[if_neg (by show ¬ (0:Int)≠0;decide),F.get_ k]
 cases F.at_ k <;> rfl
theorem Fs.files_len(F:Fs):F.dk.files.length≤1048576:=by
 show F.list.length≤_
 have hone:∀n o,(qold n o).length≤1:=fun n o=>by cases o <;> simp[qold]
 have:=hone nLog F.lg
 have:=hone nSnap F.sn
 have:=hone nTerm F.tm
 unfold Fs.list
 simp only[List.length_append]
 omega
end Go.Proofs.YtkkbfdencgdbhaaGreatDoor
namespace Go.Proofs.YtkkbfdencgdbhaaGreatDoor
open Go.RowKit Go.Sort
structure Ms where
 kind:Int
 frm:Int
 dst:Int
 term:Int
 idx:Int
 lt:Int
 cm:Int
 ok:Bool
 es:List En
 sn:ByteArray
structure Nd where
 id:Nat
 n:Nat
 s:Ts
 role:Int
 leader:Int
 commit:Int
 applied:Int
 timer:Int
 votes:List Bool
 mt:List Int
 nx:List Int
 out:List Ms
 fs:Fs
def Nd.send(N:Nd)(m:Ms):Nd := { N with out:=N.out++[{ m with frm:=N.id,term:=N.s.term }] }
def Nd.lackM(N:Nd)(i:Nat):Ms:=match N.s.termAt (N.nx.getD i 0 - 1)with
 | some t=>⟨3,0,i,0,N.nx.getD i 0 - 1,t,N.commit,false,N.s.from_ (N.nx.getD i 0) 4,ByteArray.empty⟩
 | none=>⟨5,0,i,0,N.s.base,N.s.bterm,N.commit,false,[],N.s.sn⟩
def Nd.lacks(N:Nd)(i:Nat):Nd:=N.send (N.lackM i)
def Nd.sendTo(N:Nd)(i:Nat):Nd:=if i=N.id then N else N.lacks i
def Nd.sendAll(N:Nd):Nd:=(List.range N.n).foldl Nd.sendTo N
def advGo(term commit:Int)(n:Nat)(mt:List Int):List En→Int
 | []=>commit
 | x::r=>if x.t≠term∨x.i≤commit then commit else if n<2 * (mt.filter fun y=>decide (x.i≤y)).length then x.i else advGo term commit n mt r
def Nd.advance(N:Nd):Nd := { N with commit:=advGo N.s.term N.commit N.n N.mt N.s.log.reverse }
def Ts.add(S:Ts)(x:En):Ts := { S with log:=S.log++[x] }
def lgAdd(F:Fs)(l:List En):Fs:=F.put 0 ((F.lg.getD ByteArray.empty)++⟨(enFs l).toArray⟩)
def Nd.nextE(N:Nd)(c:ByteArray):En:=⟨N.s.last.1+1,N.s.term,c⟩
def Nd.add(N:Nd)(c:ByteArray):Nd := { N with s:=N.s.add (N.nextE c),mt:=N.mt.set N.id (N.nextE c).i,fs:=lgAdd N.fs [N.nextE c] }
def Nd.append(N:Nd)(c:ByteArray):Nd:=(N.add c).sendAll.advance
def Nd.yes(N:Nd):Nat:=(N.votes.filter fun b=>b).length
def Nd.lead(N:Nd):Nd := { N with role:=2,leader:=N.id,votes:=[],mt:=List.replicate N.n 0,nx:=List.replicate N.n (N.s.last.1+1) }
def Nd.count(N:Nd):Nd:=if N.n<2 * N.yes then N.lead.append ByteArray.empty else N
def tmB(t v:Int):ByteArray:=⟨(frameL ([t,v].flatMap ienc)).toArray⟩
def Nd.keep(N:Nd)(t v:Int):Nd := { N with s := { N.s with term:=t,vote:=v },fs:=N.fs.put 2 (tmB t v) }
def Nd.follow(N:Nd)(l:Int):Nd := { N with role:=0,leader:=l,votes:=[],mt:=[],nx:=[] }
def Nd.askTo(N:Nd)(i:Nat):Nd:=if i=N.id then N else N.send ⟨1,0,i,0,N.s.last.1,N.s.last.2,0,false,[],ByteArray.empty⟩
def Nd.ask(N:Nd):Nd:=(List.range N.n).foldl Nd.askTo N
def Nd.stand(N:Nd):Nd := { (N.keep (N.s.term+1) (N.id+1)).follow (-1)with role:=1,timer:=0,votes:=(List.replicate N.n false).set N.id true }
def Nd.elect(N:Nd):Nd:=N.stand.ask.count
def snB(b t:Int)(s:ByteArray):ByteArray:=⟨(frameL ([b,t].flatMap ienc++[s].flatMap senc)).toArray⟩
end Go.Proofs.YtkkbfdencgdbhaaGreatDoor
namespace Go.Proofs.YtkkbfdencgdbhaaGreatDoor
open Go.RowKit Go.Sort
section
variable{w w':World}{S:Nat→Prop}{base:Nat}{e t:TypeId}{size:Nat}{v:Value}{n:Nat}{xs:List Value}{g:Nat}{cs:Array Value}
theorem q_keep(h:w.ownsRow base e size v n xs)(hc:Chg S w w')(hS:∀k,some k=v.ownBlock→¬ S k):w'.ownsRow base e size v n xs:=by
 obtain⟨h1,h2⟩:=h
 refine⟨h1,?_⟩
 rcases h2 with h2|⟨g,cap,cur,rfl,hb,hg,h3⟩
 ·exact .inl h2
 ·refine .inr ⟨g,cap,cur,rfl,hb,?_,h3⟩
  rw[hc.block g (lt_of_block hg) (hS g rfl)]
  exact hg
theorem q_slc(h:w.ownsRow base e size v n xs):∃A c,v=.slice A n c∧n≤c:=by
 rcases h.2 with⟨rfl,hn⟩|⟨g,cap,cur,rfl,_,_,h3,_⟩
 ·exact⟨none,0,by rw[hn],by omega⟩
 ·exact⟨_,_,rfl,h3⟩
theorem q_some(h:w.ownsRow base e size v n xs)(hn:0<n):∃g c,v=.slice (some ⟨g,0,none⟩) n c∧n≤c∧g<w.heap.size∧(∀i,w.frozen? ⟨g,i,none⟩=false)∧(0<size→∀j,j<n * size→w.cell? ⟨g,j,none⟩=xs[j]?):=by
 rcases h.2 with⟨rfl,h0⟩|⟨g,cap,cur,rfl,hb,hg,h3,_⟩
 ·omega
 ·have hA:At w g e cur:=hg
  exact⟨g,cap,rfl,h3,hA.lt,fun i=>hA.frozen i,fun hs j hj=>h.cellAt j hj⟩
theorem q_apart(h:w.ownsRow base e size v n xs)(ha:At w g t cs)(hne:e≠t):some g≠v.ownBlock:=by
 rcases h.2 with⟨rfl,_⟩|⟨g',cap,cur,rfl,hb,hg,_⟩
 ·intro e;cases e
 ·intro he
  have e':g=g':=by simpa[Value.ownBlock]using he
  subst e'
  unfold At at ha
  rw[hg]at ha
  injection ha with ha
  injection ha with _ ha _
  exact hne ha
theorem q_apart2{b2 s2 n2:Nat}{e2:TypeId}{v2:Value}{x2:List Value}(h:w.ownsRow base e size v n xs)(h':w.ownsRow b2 e2 s2 v2 n2 x2)(hne:e≠e2):∀k,some k=v.ownBlock→some k≠v2.ownBlock:=by
 intro k hk
 rcases h.2 with⟨rfl,_⟩|⟨g',cap,cur,rfl,hb,hg,_⟩
 ·cases hk
 ·have e':k=g':=by simpa[Value.ownBlock]using hk
  subst e'
  exact q_apart h' (show At w k e cur from hg) (fun e=>hne e.symm)
theorem q_map{K:Type}{kw:KeyWay K}{ν : Type}{vv : ν → Value}{L:List (K × ν)}{b:Nat}(h:w.ownsRow base e size v n xs)(hm:MapAt kw vv w b L):some b≠v.ownBlock:=by
 rcases h.2 with⟨rfl,_⟩|⟨g',cap,cur,rfl,hb,hg,_⟩
 ·intro e;cases e
 ·intro he
  have e':b=g':=by simpa[Value.ownBlock]using he
  subst e'
  obtain⟨es,clk,h1,_⟩:=hm
  rw[hg]at h1;cases h1
theorem q_lt(h:w.ownsRow base e size v n xs):∀k,some k=v.ownBlock→k<w.heap.size:=fun k hk=>(h.lt k hk.symm).2
theorem q_base{base':Nat}(h:w.ownsRow base e size v n xs)(hb:base'≤base):w.ownsRow base' e size v n xs:=by
 refine⟨h.1,?_⟩
 rcases h.2 with h2|⟨g',cap,cur,rfl,hb',h3⟩
 ·exact .inl h2
 ·exact .inr ⟨g',cap,cur,rfl,by omega,h3⟩
theorem q_ge(h:w.ownsRow base e size v n xs):∀k,some k=v.ownBlock→base≤k:=fun k hk=>(h.lt k hk.symm).1
end
structure Ka where
 r:Nat
 d:Nat
 m:Nat
 lv:Value
 vv:Value
 mv:Value
 nv:Value
 ov:Value
 evs:List Value
def Ka.has(K:Ka)(k:Nat):Prop:=k=K.r∨k=K.d∨k=K.m∨some k=K.lv.ownBlock∨some k=K.vv.ownBlock∨some k=K.mv.ownBlock∨some k=K.nv.ownBlock∨some k=K.ov.ownBlock∨∃v∈K.evs,some k=v.ownBlock
def ndCells(K:Ka)(N:Nd):Array Value:=#[.pointer (some ⟨K.d,0,none⟩),.int .i64 (N.id:Int),.int .i64 (N.n:Int),.int .i64 N.s.term,.int .i64 N.s.vote,.int .i64 N.s.base,.int .i64 N.s.bterm,.string N.s.sn,K.lv,.int .i64 N.role,.int .i64 N.leader,.int .i64 N.commit,.int .i64 N.applied,.int .i64 N.timer,K.vv,K.mv,K.nv,K.ov,.int .i64 0]
def msRow(m:Ms)(ev:Value):List Value:=[.int .i64 m.kind,.int .i64 m.frm,.int .i64 m.dst,.int .i64 m.term,.int .i64 m.idx,.int .i64 m.lt,.int .i64 m.cm,.bool m.ok,ev,.string m.sn]
def msRows:List Ms→List Value→List Value
 | m::r,ev::er=>msRow m ev++msRows r er
 | _,_=>[]
structure OutAt (w:World) (v:Value) (evs:List Value) (ms:List Ms):Prop where
 own:w.ownsRow 0 129 10 v ms.length (msRows ms evs)
 len:evs.length=ms.length
 es:∀(i:Nat) (m:Ms) (ev:Value),ms[i]? = some m→evs[i]? = some ev→w.ownsRow 0 49 3 ev m.es.length (enRows m.es)
structure NdAt (w:World) (K:Ka) (N:Nd):Prop where
 nd:At w K.r 96 (ndCells K N)
 dk:DkAt w K.d K.m N.fs.dk
 lg:w.ownsRow 0 49 3 K.lv N.s.log.length (enRows N.s.log)
 vs:w.ownsRow 0 4 1 K.vv N.votes.length (N.votes.map Value.bool)
 ms:w.ownsRow 0 3 1 K.mv N.mt.length (N.mt.map (Value.int .i64))
 ns:w.ownsRow 0 3 1 K.nv N.nx.length (N.nx.map (Value.int .i64))
 os:OutAt w K.ov K.evs N.out
 mn:∀k,some k=K.mv.ownBlock→some k≠K.nv.ownBlock
 le:∀v∈K.evs,∀k,some k=v.ownBlock→some k≠K.lv.ownBlock
section
variable{w w' w'':World}{K K':Ka}{N N' N'':Nd}{S:Nat→Prop}
theorem msRows_snoc:∀ {ms:List Ms} {evs:List Value} (m:Ms) (ev:Value),evs.length=ms.length→msRows (ms++[m]) (evs++[ev])=msRows ms evs++msRow m ev
 | [],[],m,ev,_=>by simp[msRows]
 | [],_::_,m,ev,h=>by simp at h
 | _::_,[],m,ev,h=>by simp at h
 | a::r,b::er,m,ev,h=>by
  show msRow a b++msRows (r++[m]) (er++[ev])=_
  rw[msRows_snoc m ev (by simpa using h)]
  simp[msRows]
theorem OutAt.keep{v:Value}{evs:List Value}{ms:List Ms}(h:OutAt w v evs ms)(hC:Chg S w w')(h1:∀k,some k=v.ownBlock→¬ S k)(h2:∀ev∈evs,∀k,some k=ev.ownBlock→¬ S k):OutAt w' v evs ms :=
 ⟨q_keep h.own hC h1,h.len,fun i m ev hm he=>q_keep (h.es i m ev hm he) hC (h2 ev (List.mem_of_getElem? he))⟩
theorem OutAt.nil(w:World):OutAt w (.slice none 0 0) [] []:=⟨World.ownsRow_nil _ _ _ _,rfl,fun i m ev hm=>by simp at hm⟩
theorem OutAt.lt{v:Value}{evs:List Value}{ms:List Ms}(h:OutAt w v evs ms):∀ev∈evs,∀k,some k=ev.ownBlock→k<w.heap.size:=fun ev he k hk=>by
 obtain⟨i,hi⟩:=List.getElem?_of_mem he
 have hil:=(List.getElem?_eq_some_iff.1 hi).1
 obtain⟨m,hm⟩:∃m,ms[i]? = some m:=⟨_,List.getElem?_eq_getElem (by rw[←h.len];exact hil)⟩
 exact q_lt (h.es i m ev hm hi) k hk
theorem NdAt.has_lt(h:NdAt w K N):∀k,K.has k→k<w.heap.size:=by
 rintro k (rfl|rfl|rfl|e|e|e|e|e|⟨v,hv,e⟩)
 ·exact h.nd.lt
 ·exact h.dk.1.lt
 ·exact h.dk.2.lt
 ·exact q_lt h.lg k e
 ·exact q_lt h.vs k e
 ·exact q_lt h.ms k e
 ·exact q_lt h.ns k e
 ·exact q_lt h.os.own k e
 ·exact h.os.lt v hv k e
theorem NdAt.chg(h:NdAt w K N)(hC:Chg S w w')(hS:∀k,S k→¬ K.has k):NdAt w' K N:=by
 have n1:¬ S K.r:=fun hs=>hS _ hs (.inl rfl)
 have n2:¬ S K.d:=fun hs=>hS _ hs (.inr (.inl rfl))
 have n3:¬ S K.m:=fun hs=>hS _ hs (.inr (.inr (.inl rfl)))
 exact⟨h.nd.chg hC n1,⟨h.dk.1.chg hC n2,h.dk.2.chg hC n3⟩,q_keep h.lg hC fun k hk hs=>hS k hs (.inr (.inr (.inr (.inl hk)))),q_keep h.vs hC fun k hk hs=>hS k hs (.inr (.inr (.inr (.inr (.inl hk))))),
  q_keep h.ms hC fun k hk hs=>hS k hs (.inr (.inr (.inr (.inr (.inr (.inl hk)))))),q_keep h.ns hC fun k hk hs=>hS k hs (.inr (.inr (.inr (.inr (.inr (.inr (.inl hk))))))),
  h.os.keep hC (fun k hk hs=>hS k hs (.inr (.inr (.inr (.inr (.inr (.inr (.inr (.inl hk))))))))) (fun ev he k hk hs=>hS k hs (.inr (.inr (.inr (.inr (.inr (.inr (.inr (.inr ⟨ev,he,hk⟩))))))))),h.mn,h.le⟩
theorem NdAt.ext(h:NdAt w K N)(hE:Ext w w'):NdAt w' K N:=h.chg hE (fun _ h=>h.elim)
def NdTo(K:Ka)(w w':World)(N':Nd):Prop:=∃K',K'.r=K.r∧K'.d=K.d∧K'.m=K.m∧NdAt w' K' N'∧Chg K.has w w'∧∀k,K'.has k→K.has k∨w.heap.size≤k
theorem NdTo.refl(h:NdAt w K N):NdTo K w w N:=⟨K,rfl,rfl,rfl,h,Chg.refl _ _,fun _ h=>.inl h⟩
theorem NdTo.of(h:NdAt w' K N')(hC:Chg K.has w w'):NdTo K w w' N':=⟨K,rfl,rfl,rfl,h,hC,fun _ h=>.inl h⟩
theorem NdTo.ext(h:NdAt w K N)(hE:Ext w w'):NdTo K w w' N:=NdTo.of (h.ext hE) hE.chg
theorem NdTo.next(hr:K'.r=K.r)(hd:K'.d=K.d)(hm:K'.m=K.m)(hC:Chg K.has w w')(hK:∀k,K'.has k→K.has k∨w.heap.size≤k)(h:NdTo K' w' w'' N''):NdTo K w w'' N'':=by
 obtain⟨K2,r1,r2,r3,h1,h2,h3⟩:=h
 refine⟨K2,r1.trans hr,r2.trans hd,r3.trans hm,h1,hC.trans h2 fun k hk hs=>?_,fun k hk=>?_⟩
 ·rcases hK k hs with h|h
  ·exact h
  ·omega
 ·rcases h3 k hk with h|h
  ·exact hK k h
  ·exact .inr (Nat.le_trans hC.size h)
theorem NdTo.ext_next(hE:Ext w w')(h:NdTo K w' w'' N''):NdTo K w w'' N'':=NdTo.next rfl rfl rfl hE.chg (fun _ h=>.inl h) h
theorem NdTo.then_ext(h:NdTo K w w' N')(hE:Ext w' w''):NdTo K w w'' N':=by
 obtain⟨K2,r1,r2,r3,h1,h2,h3⟩:=h
 exact⟨K2,r1,r2,r3,h1.ext hE,h2.ext_trans hE,h3⟩
theorem NdAt.ts(h:NdAt w K N):TsC w K.r 3 N.s K.lv:=by
 refine⟨h.nd.cell 3,h.nd.cell 4,h.nd.cell 5,h.nd.cell 6,h.nd.cell 7,h.nd.cell 8,?_,fun A n c hv=>?_⟩
 ·refine Sln.of_own (xs:=N.s.log.map En.row) (by rw[←enRows_eq];exact h.lg) (en_three _) (by rw[List.length_map])
 ·obtain⟨A',c',h1,h2⟩:=q_slc h.lg
  rw[h1]at hv
  simp only[Value.slice.injEq]at hv
  omega
structure NdOk (N:Nd):Prop where
 ts:TsOk N.s
 id:N.id<N.n
 n:N.n≤5
 commit:0≤N.commit∧N.commit≤1099511627776
 timer:0≤N.timer∧N.timer≤1099511627776
 nx:∀x∈N.nx,0≤x∧x≤1099511627776
 mt:∀x∈N.mt,0≤x∧x≤1099511627776
 ml:N.mt.length≤5
 nl:N.nx.length≤5
 vl:N.votes.length≤5
 out:N.out.length≤100000
 fs:N.fs.tot≤4194304
end
end Go.Proofs.YtkkbfdencgdbhaaGreatDoor
