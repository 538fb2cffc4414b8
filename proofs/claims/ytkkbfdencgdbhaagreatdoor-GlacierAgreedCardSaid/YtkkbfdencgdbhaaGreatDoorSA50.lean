/-
  Part 50 of what the law leans on.
-/
import Derived.Test.YtkkbfdencgdbhaaGreatDoorSA48
set_option linter.unusedVariables false
set_option linter.unusedSimpArgs false
set_option linter.unusedSectionVars false
namespace Go.Proofs.YtkkbfdencgdbhaaGreatDoor
open Go.RowKit Go.Sort
def fN{α : Type}(n:Nat)(k:Nat → α) : α := match n with
 | 0=>k 0
 | Nat.succ m=>k (Nat.succ m)
def fB{α : Type}(b:Bool)(k:Bool → α) : α := match b with
 | true=>k true
 | false=>k false
def fLN{α : Type} : List Nat→(List Nat → α) → α
 | [],k=>k []
 | x::r,k=>fN x fun x=>fLN r fun r=>k (x::r)
def fLB{α : Type} : List Bool→(List Bool → α) → α
 | [],k=>k []
 | x::r,k=>fB x fun x=>fLB r fun r=>k (x::r)
def Ma.f{α : Type}(m:Ma)(k:Ma → α) : α := match m with
 | ⟨a,b,c,d,e,f,g,h,i⟩=>fN a fun a=>fN b fun b=>fN c fun c=>fN d fun d=>fN e fun e=>fN f fun f=>fN g fun g=>fB h fun h=>fN i fun i=>k ⟨a,b,c,d,e,f,g,h,i⟩
def fLM{α : Type} : List Ma→(List Ma → α) → α
 | [],k=>k []
 | x::r,k=>x.f fun x=>fLM r fun r=>k (x::r)
def Na.f{α : Type}(a:Na)(k:Na → α) : α := match a with
 | ⟨a,b,c,d,e,f,g,h,i,v,m,x,o⟩=>fN a fun a=>fN b fun b=>fN c fun c=>fN d fun d=>fN e fun e=>fN f fun f=>fN g fun g=>fN h fun h=>fN i fun i=>fLB v fun v=>fLN m fun m=>fLN x fun x=>fLM o fun o=>k ⟨a,b,c,d,e,f,g,h,i,v,m,x,o⟩
def fLA{α : Type} : List Na→(List Na → α) → α
 | [],k=>k []
 | x::r,k=>fLA r fun r=>k (x::r)
theorem fN_eq{α : Type}(n:Nat)(k:Nat → α):fN n k=k n:=by cases n <;> rfl
theorem fB_eq{α : Type}(b:Bool)(k:Bool → α):fB b k=k b:=by cases b <;> rfl
theorem fLN_eq{α : Type} : ∀(l:List Nat) (k:List Nat → α),fLN l k=k l
 | [],_=>rfl
 | x::r,k=>by rw[fLN,fN_eq,fLN_eq r]
theorem fLB_eq{α : Type} : ∀(l:List Bool) (k:List Bool → α),fLB l k=k l
 | [],_=>rfl
 | x::r,k=>by rw[fLB,fB_eq,fLB_eq r]
theorem Ma.f_eq{α : Type}(m:Ma)(k:Ma → α):m.f k=k m:=by
 cases m
 simp only[Ma.f,fN_eq,fB_eq]
theorem fLM_eq{α : Type} : ∀(l:List Ma) (k:List Ma → α),fLM l k=k l
 | [],_=>rfl
 | x::r,k=>by rw[fLM,Ma.f_eq,fLM_eq r]
theorem Na.f_eq{α : Type}(a:Na)(k:Na → α):a.f k=k a:=by
 cases a
 simp only[Na.f,fN_eq,fLB_eq,fLN_eq,fLM_eq]
theorem fLA_eq{α : Type} : ∀(l:List Na) (k:List Na → α),fLA l k=k l
 | [],_=>rfl
 | x::r,k=>by rw[fLA,fLA_eq r]
def delF:List Ma→List Na→List Ma→Nat→(List Na→List Ma→Nat→Bool)→Bool
 | [],ns,ra,c,k=>k ns ra.reverse c
 | m::r,ns,ra,c,k=>match ns[m.dst]? with
  | none=>false
  | some a=>match a.step m with
   | none=>false
   | some a'=>a'.f fun a'=>fN (c - 1+a'.out.length) fun c=>bif Nat.ble c 200 then fLA (ns.set m.dst a'.sent) fun ns=>delF r ns (a'.out.reverse++ra) c k else false
def tickF:Nat→Nat→List Na→List Ma→Nat→(List Na→List Ma→Nat→Bool)→Bool
 | 0,_,ns,ra,c,k=>k ns ra.reverse c
 | j+1,i,ns,ra,c,k=>match ns[i]? with
  | none=>false
  | some a=>match a.tick with
   | none=>false
   | some a'=>a'.f fun a'=>fN (c+a'.out.length) fun c=>bif Nat.ble c 200 then fLA (ns.set i a'.sent) fun ns=>tickF j (i+1) ns (a'.out.reverse++ra) c k else false
def roundF(n:Nat)(ns:List Na)(w:List Ma)(c:Nat)(k:List Na→List Ma→Nat→Bool):Bool :=
 delF w ns [] c fun ns w c=>tickF n 0 ns w.reverse c fun ns w c=>fLM w fun w=>k ns w c
def roundsF(n:Nat):Nat→List Na→List Ma→Nat→(List Na→List Ma→Nat→Bool)→Bool
 | 0,ns,w,c,k=>k ns w c
 | j+1,ns,w,c,k=>roundF n ns w c fun ns w c=>roundsF n j ns w c k
def beqB(a b:Bool):Bool:=match a,b with
 | true,true=>true
 | false,false=>true
 | _,_=>false
def beqLN:List Nat→List Nat→Bool
 | [],[]=>true
 | x::r,y::s=>Nat.beq x y&&beqLN r s
 | _,_=>false
def Ma.beq(a b:Ma):Bool:=Nat.beq a.kind b.kind&&(Nat.beq a.frm b.frm&&(Nat.beq a.dst b.dst&&(Nat.beq a.term b.term&&(Nat.beq a.idx b.idx&&(Nat.beq a.lt b.lt&&(Nat.beq a.cm b.cm&&(beqB a.ok b.ok&&Nat.beq a.cnt b.cnt)))))))
def beqLM:List Ma→List Ma→Bool
 | [],[]=>true
 | x::r,y::s=>Ma.beq x y&&beqLM r s
 | _,_=>false
def beqLB:List Bool→List Bool→Bool
 | [],[]=>true
 | x::r,y::s=>beqB x y&&beqLB r s
 | _,_=>false
def Na.beq(a b:Na):Bool:=Nat.beq a.id b.id&&(Nat.beq a.n b.n&&(Nat.beq a.term b.term&&(Nat.beq a.vote b.vote&&(Nat.beq a.len b.len&&(Nat.beq a.role b.role&&(Nat.beq a.ldr b.ldr&&(Nat.beq a.commit b.commit&&(Nat.beq a.timer b.timer&&(beqLB a.votes b.votes&&(beqLN a.mt b.mt&&(beqLN a.nx b.nx&&beqLM a.out b.out)))))))))))
def beqLA:List Na→List Na→Bool
 | [],[]=>true
 | x::r,y::s=>Na.beq x y&&beqLA r s
 | _,_=>false
theorem andB{a b:Bool}(h:(a&&b)=true):a=true∧b=true:=by
 cases a
 ·cases h
 ·exact⟨rfl,h⟩
theorem beqN{a b:Nat}(h:Nat.beq a b=true):a=b:=Nat.eq_of_beq_eq_true h
theorem beqB_eq:∀ {a b:Bool},beqB a b=true→a=b
 | true,true,_=>rfl
 | false,false,_=>rfl
 | true,false,h=>by cases h
 | false,true,h=>by cases h
theorem beqLN_eq:∀ {a b:List Nat},beqLN a b=true→a=b
 | [],[],_=>rfl
 | x::r,y::s,h=>by
  obtain⟨h1,h2⟩:=andB h
  rw[beqN h1,beqLN_eq h2]
 | [],_::_,h=>by cases h
 | _::_,[],h=>by cases h
theorem beqLB_eq:∀ {a b:List Bool},beqLB a b=true→a=b
 | [],[],_=>rfl
 | x::r,y::s,h=>by
  obtain⟨h1,h2⟩:=andB h
  rw[beqB_eq h1,beqLB_eq h2]
 | [],_::_,h=>by cases h
 | _::_,[],h=>by cases h
theorem Ma.beq_eq{a b:Ma}(h:Ma.beq a b=true):a=b:=by
 cases a
 cases b
 obtain⟨h1,h⟩:=andB h
 obtain⟨h2,h⟩:=andB h
 obtain⟨h3,h⟩:=andB h
 obtain⟨h4,h⟩:=andB h
 obtain⟨h5,h⟩:=andB h
 obtain⟨h6,h⟩:=andB h
 obtain⟨h7,h⟩:=andB h
 obtain⟨h8,h9⟩:=andB h
 cases beqN h1;cases beqN h2;cases beqN h3;cases beqN h4;cases beqN h5;cases beqN h6;cases beqN h7;cases beqB_eq h8;cases beqN h9
 rfl
theorem beqLM_eq:∀ {a b:List Ma},beqLM a b=true→a=b
 | [],[],_=>rfl
 | x::r,y::s,h=>by
  obtain⟨h1,h2⟩:=andB h
  rw[Ma.beq_eq h1,beqLM_eq h2]
 | [],_::_,h=>by cases h
 | _::_,[],h=>by cases h
theorem Na.beq_eq{a b:Na}(h:Na.beq a b=true):a=b:=by
 cases a
 cases b
 obtain⟨h1,h⟩:=andB h
 obtain⟨h2,h⟩:=andB h
 obtain⟨h3,h⟩:=andB h
 obtain⟨h4,h⟩:=andB h
 obtain⟨h5,h⟩:=andB h
 obtain⟨h6,h⟩:=andB h
 obtain⟨h7,h⟩:=andB h
 obtain⟨h8,h⟩:=andB h
 obtain⟨h9,h⟩:=andB h
 obtain⟨hv,h⟩:=andB h
 obtain⟨hm,h⟩:=andB h
 obtain⟨hx,ho⟩:=andB h
 cases beqN h1;cases beqN h2;cases beqN h3;cases beqN h4;cases beqN h5;cases beqN h6;cases beqN h7;cases beqN h8;cases beqN h9;cases beqLB_eq hv;cases beqLN_eq hm;cases beqLN_eq hx;cases beqLM_eq ho
 rfl
theorem beqLA_eq:∀ {a b:List Na},beqLA a b=true→a=b
 | [],[],_=>rfl
 | x::r,y::s,h=>by
  obtain⟨h1,h2⟩:=andB h
  rw[Na.beq_eq h1,beqLA_eq h2]
 | [],_::_,h=>by cases h
 | _::_,[],h=>by cases h
def restF(n:Nat):Nat→List Na→List Ma→Nat→(List Na→Bool)→Bool
 | 0,_,_,_,_=>false
 | j+1,ns,w,c,k=>roundF n ns w c fun ns' w' c'=>bif beqLA ns ns'&&beqLM w w' then k ns else restF n j ns' w' c' k
def propF(j:Nat)(ns:List Na)(w:List Ma)(c:Nat)(k:List Na→List Ma→Nat→Bool):Bool:=match ledF ns with
 | false=>false
 | true=>match ns[0]? with
  | none=>false
  | some a=>match Nat.beq a.len (j+1)with
   | false=>false
   | true=>match a.prop with
    | none=>false
    | some a'=>a'.f fun a'=>fN (c+a'.out.length) fun c=>bif Nat.ble c 200 then fLA (ns.set 0 a'.sent) fun ns=>fLM (w++a'.out) fun w=>k ns w c else false
def allF(k:Nat)(ns:List Na):Bool:=ns.all fun a=>Nat.beq a.commit (k+1)&&Nat.ble (k+1) a.len
def toldF(n:Nat):Nat→Nat→List Na→List Ma→Nat→Bool
 | 0,k,ns,w,c=>restF n 10 ns w c (allF k)
 | j+1,k,ns,w,c=>restF n 10 ns w c (allF k)&&propF k ns w c fun ns w c=>roundF n ns w c fun ns w c=>toldF n j (k+1) ns w c
def runF(n:Nat):Bool:=roundsF n 10 ((List.range n).map (Na.opened n)) [] 0 fun ns w c=>toldF n 20 0 ns w c
theorem after_some{q:Qn}{i:Nat}{a:Na}(h:q.way.length+a.out.length≤200):q.after i a=some ⟨q.nodes.set i a.sent,q.way++a.out⟩:=by
 unfold Qn.after
 rw[Nat.ble_eq_true_of_le h]
theorem condF{a b:Bool}(h:(bif a then b else false)=true):a=true∧b=true:=by
 cases a
 ·cases h
 ·exact⟨rfl,h⟩
theorem delF_ok:∀(w:List Ma) (ns:List Na) (ra:List Ma) (c:Nat) (k:List Na→List Ma→Nat→Bool),delF w ns ra c k=true→c=w.length+ra.length →
 ∃q,Qn.delivers w.length ⟨ns,w++ra.reverse⟩=some q∧k q.nodes q.way q.way.length=true
 | [],ns,ra,c,k,h,hc=>⟨⟨ns,ra.reverse⟩,rfl,by
  have e:c=ra.reverse.length:=by simpa using hc
  rw[←e];exact h⟩
 | m::r,ns,ra,c,k,h,hc=>by
  unfold delF at h
  cases hn:ns[m.dst]? with
  | none=>rw[hn]at h;cases h
  | some a =>
   rw[hn]at h
   simp only at h
   cases hs:a.step m with
   | none=>rw[hs]at h;cases h
   | some a' =>
    rw[hs]at h
    simp only[Na.f_eq,fN_eq,fLA_eq]at h
    obtain⟨h1,h2⟩:=condF h
    have h1:=Nat.le_of_ble_eq_true h1
    simp only[List.length_cons]at hc
    obtain⟨q,hq,hk⟩:=delF_ok r _ _ _ k h2 (by simp only[List.length_append,List.length_reverse];omega)
    refine⟨q,?_,hk⟩
    show Qn.delivers (r.length+1) _=_
    unfold Qn.delivers
    have hd:Qn.deliver ⟨ns,m::r++ra.reverse⟩=some ⟨ns.set m.dst a'.sent,(r++ra.reverse)++a'.out⟩:=by
     unfold Qn.deliver
     simp only[List.cons_append]
     rw[hn]
     simp only
     rw[hs]
     simp only
     exact after_some (q:=⟨ns,r++ra.reverse⟩) (by simp only[List.length_append,List.length_reverse];omega)
    rw[hd]
    simp only
    rw[List.reverse_append,List.reverse_reverse,←List.append_assoc]at hq
    exact hq
theorem tickF_ok:∀(j i:Nat) (ns:List Na) (ra:List Ma) (c:Nat) (k:List Na→List Ma→Nat→Bool),tickF j i ns ra c k=true→c=ra.length →
 ∃q,Qn.ticks j i ⟨ns,ra.reverse⟩=some q∧k q.nodes q.way q.way.length=true
 | 0,_,ns,ra,c,k,h,hc=>⟨⟨ns,ra.reverse⟩,rfl,by
  have e:c=ra.reverse.length:=by simpa using hc
  rw[←e];exact h⟩
 | j+1,i,ns,ra,c,k,h,hc=>by
  unfold tickF at h
  cases hn:ns[i]? with
  | none=>rw[hn]at h;cases h
  | some a =>
   rw[hn]at h
   simp only at h
   cases hs:a.tick with
   | none=>rw[hs]at h;cases h
   | some a' =>
    rw[hs]at h
    simp only[Na.f_eq,fN_eq,fLA_eq]at h
    obtain⟨h1,h2⟩:=condF h
    have h1:=Nat.le_of_ble_eq_true h1
    obtain⟨q,hq,hk⟩:=tickF_ok j (i+1) _ _ _ k h2 (by simp only[List.length_append,List.length_reverse];omega)
    refine⟨q,?_,hk⟩
    unfold Qn.ticks
    have hd:Qn.tick ⟨ns,ra.reverse⟩ i=some ⟨ns.set i a'.sent,ra.reverse++a'.out⟩:=by
     unfold Qn.tick
     simp only
     rw[hn]
     simp only
     rw[hs]
     simp only
     exact after_some (q:=⟨ns,ra.reverse⟩) (by simp only[List.length_reverse];omega)
    rw[hd]
    simp only
    rw[List.reverse_append,List.reverse_reverse]at hq
    exact hq
theorem roundF_ok{n:Nat}{ns:List Na}{w:List Ma}{c:Nat}{k:List Na→List Ma→Nat→Bool}(h:roundF n ns w c k=true)(hc:c=w.length):∃q,Qn.round n ⟨ns,w⟩=some q∧k q.nodes q.way q.way.length=true:=by
 unfold roundF at h
 obtain⟨q,hq,hk⟩:=delF_ok w ns [] c _ h (by simpa using hc)
 obtain⟨q2,hq2,hk2⟩:=tickF_ok n 0 _ _ _ _ hk (by simp)
 rw[fLM_eq]at hk2
 refine⟨q2,?_,hk2⟩
 unfold Qn.round
 simp only[List.reverse_nil,List.append_nil]at hq
 rw[hq]
 simp only
 rw[List.reverse_reverse]at hq2
 exact hq2
theorem roundsF_ok{n:Nat} : ∀(j:Nat) {ns:List Na} {w:List Ma} {c:Nat} {k:List Na→List Ma→Nat→Bool},roundsF n j ns w c k=true→c=w.length→∃q,Qn.rounds n j ⟨ns,w⟩=some q∧k q.nodes q.way q.way.length=true
 | 0,ns,w,c,k,h,hc=>⟨_,rfl,by rw[←hc];exact h⟩
 | j+1,ns,w,c,k,h,hc=>by
  unfold roundsF at h
  obtain⟨q,hq,hk⟩:=roundF_ok h hc
  obtain⟨q2,hq2,hk2⟩:=roundsF_ok j hk rfl
  refine⟨q2,?_,hk2⟩
  unfold Qn.rounds
  rw[hq]
  exact hq2
theorem rounds_same{n:Nat}{q:Qn}(h:Qn.round n q=some q):∀M,Qn.rounds n M q=some q
 | 0=>rfl
 | M+1=>by
  unfold Qn.rounds
  rw[h]
  exact rounds_same h M
theorem restF_ok{n:Nat} : ∀(j:Nat) {ns:List Na} {w:List Ma} {c:Nat} {k:List Na→Bool},restF n j ns w c k=true→c=w.length→∃q,(∀M,j≤M→Qn.rounds n M ⟨ns,w⟩=some q)∧k q.nodes=true
 | 0,_,_,_,_,h,_=>by cases h
 | j+1,ns,w,c,k,h,hc=>by
  unfold restF at h
  obtain⟨q,hq,hk⟩:=roundF_ok h hc
  cases hb:(beqLA ns q.nodes&&beqLM w q.way)with
  | true =>
   rw[hb]at hk
   obtain⟨e1,e2⟩:=andB hb
   have e:q=⟨ns,w⟩:=by
    cases q
    rw[beqLA_eq e1,beqLM_eq e2]
   rw[e]at hq
   exact⟨⟨ns,w⟩,fun M _=>rounds_same hq M,hk⟩
  | false =>
   rw[hb]at hk
   obtain⟨q2,hq2,hk2⟩:=restF_ok j hk rfl
   refine⟨q2,fun M hM=>?_,hk2⟩
   obtain⟨M',rfl⟩:∃M',M=M'+1:=⟨M - 1,by omega⟩
   unfold Qn.rounds
   rw[hq]
   exact hq2 M' (by omega)
theorem propF_ok{j:Nat}{ns:List Na}{w:List Ma}{c:Nat}{k:List Na→List Ma→Nat→Bool}(h:propF j ns w c k=true)(hc:c=w.length):∃q,Qn.prop j ⟨ns,w⟩=some q∧k q.nodes q.way q.way.length=true:=by
 unfold propF at h
 cases hl:ledF ns with
 | false=>rw[hl]at h;cases h
 | true =>
  rw[hl]at h
  simp only at h
  cases hn:ns[0]? with
  | none=>rw[hn]at h;cases h
  | some a =>
   rw[hn]at h
   simp only at h
   cases hj:Nat.beq a.len (j+1)with
   | false=>rw[hj]at h;cases h
   | true =>
    rw[hj]at h
    simp only at h
    cases hs:a.prop with
    | none=>rw[hs]at h;cases h
    | some a' =>
     rw[hs]at h
     simp only[Na.f_eq,fN_eq,fLA_eq,fLM_eq]at h
     obtain⟨h1,h2⟩:=condF h
     have h1:=Nat.le_of_ble_eq_true h1
     refine⟨⟨ns.set 0 a'.sent,w++a'.out⟩,?_,by rw[List.length_append,←hc];exact h2⟩
     unfold Qn.prop
     simp only
     rw[hl]
     simp only
     rw[hn]
     simp only
     rw[hj]
     simp only
     rw[hs]
     simp only
     exact after_some (q:=⟨ns,w⟩) (by simp only;omega)
theorem toldF_ok{n:Nat} : ∀(j k:Nat) {ns:List Na} {w:List Ma} {c:Nat},toldF n j k ns w c=true→c=w.length→Qn.told n k=some ⟨ns,w⟩ →
 ∀i,i≤j→∃q q',Qn.told n (k+i)=some q∧Qn.rounds n 40 q=some q'∧allF (k+i) q'.nodes=true
 | 0,k,ns,w,c,h,hc,ht,i,hi=>by
  obtain rfl:i=0:=by omega
  obtain⟨q,hq,hk⟩:=restF_ok 10 h hc
  exact⟨⟨ns,w⟩,q,ht,hq 40 (by decide),hk⟩
 | j+1,k,ns,w,c,h,hc,ht,i,hi=>by
  unfold toldF at h
  obtain⟨h1,h2⟩:=andB h
  match i with
  | 0 =>
   obtain⟨q,hq,hk⟩:=restF_ok 10 h1 hc
   exact⟨⟨ns,w⟩,q,ht,hq 40 (by decide),hk⟩
  | i+1 =>
   obtain⟨q,hq,hk⟩:=propF_ok h2 hc
   obtain⟨q2,hq2,hk2⟩:=roundF_ok hk rfl
   have ht2:Qn.told n (k+1)=some q2:=by
    unfold Qn.told
    rw[ht]
    simp only
    rw[hq]
    exact hq2
   have:=toldF_ok j (k+1) hk2 rfl ht2 i (by omega)
   rw[show k+(i+1)=k+1+i by omega]
   exact this
theorem runF_ok{n:Nat}(h:runF n=true)(k:Nat)(hk:k≤20):∃q q',Qn.told n k=some q∧Qn.rounds n 40 q=some q'∧allF k q'.nodes=true:=by
 unfold runF at h
 obtain⟨q,hq,hk2⟩:=roundsF_ok 10 h rfl
 have:=toldF_ok 20 0 hk2 rfl hq k hk
 rw[Nat.zero_add]at this
 exact this
theorem run1:runF 1=true:=by decide +kernel
theorem run2:runF 2=true:=by decide +kernel
theorem run3:runF 3=true:=by decide +kernel
theorem run4:runF 4=true:=by decide +kernel
theorem run5:runF 5=true:=by decide +kernel
theorem run_all(n:Nat)(h1:1≤n)(h5:n≤5):runF n=true:=by
 match n,h1,h5 with
 | 1,_,_=>exact run1
 | 2,_,_=>exact run2
 | 3,_,_=>exact run3
 | 4,_,_=>exact run4
 | 5,_,_=>exact run5
end Go.Proofs.YtkkbfdencgdbhaaGreatDoor
