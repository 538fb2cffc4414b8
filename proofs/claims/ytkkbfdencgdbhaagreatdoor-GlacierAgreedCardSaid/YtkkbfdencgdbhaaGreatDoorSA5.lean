/-
  Part 5 of what the law leans on.
-/
import Derived.Test.YtkkbfdencgdbhaaGreatDoorSA1
import Derived.Test.YtkkbfdencgdbhaaGreatDoorSA2
import Derived.Orders
import Derived.WalkKit
set_option linter.unusedVariables false
set_option linter.unusedSimpArgs false
set_option linter.unusedSectionVars false
namespace Go.Proofs.YtkkbfdencgdbhaaGreatDoor
section
variable{P:Program}{ops:Array Oper}{Q:Exit→Act→World→Prop}{Γ : Type}
def dstOf(ops:Array Oper)(d:Nat):Option Tmp:=(ops[d]?).bind (·.dst)
def putAll(ops:Array Oper)(v:Nat→Value)(a:Act):Nat→Act
 | 0=>a
 | n+1=>(putAll ops v a n).put (dstOf ops n) (v n)
def putL(ops:Array Oper)(L:Nat→Bool)(v:Nat→Value)(a:Act):Nat→Act
 | 0=>a
 | n+1=>if L n then(putL ops L v a n).put (dstOf ops n) (v n)else putL ops L v a n
def backB(ops:Array Oper):Bool:=(List.range ops.size).all fun j=>((ops[j]?).map fun o=>o.after.all fun e=>decide (e.on<j) || !Region.binds .any e).getD true
def dstB(ops:Array Oper)(N:Nat):Bool:=(List.range ops.size).all fun j=>match dstOf ops j with
 | none=>true
 | some t=>decide (t<N)&&(List.range j).all fun i=>dstOf ops i != some t
def needs(ops:Array Oper)(j d:Nat):Bool:=((ops[j]?).map fun o=>o.after.any fun e=>Region.binds .any e&&e.on == d).getD false
theorem putL_size(L:Nat→Bool)(v:Nat→Value)(a:Act):∀n,(putL ops L v a n).tmps.size=a.tmps.size∧(putL ops L v a n).defers=a.defers
 | 0=>⟨rfl,rfl⟩
 | n+1=>by
  unfold putL
  split
  ·have:=putL_size L v a n
   unfold Act.put;split <;> simp[this]
  ·exact putL_size L v a n
theorem putL_congr{L L':Nat→Bool}{v v':Nat→Value}{a:Act} : ∀n,(∀i,i<n→L i=L' i)→(∀i,i<n→L i=true→v i=v' i)→putL ops L v a n=putL ops L' v' a n
 | 0,_,_=>rfl
 | n+1,h,h'=>by
  unfold putL
  rw[putL_congr n (fun i hi=>h i (by omega)) (fun i hi=>h' i (by omega)),h n (by omega)]
  split
  ·rename_i hn;rw[h' n (by omega) (by rw[h n (by omega)];exact hn)]
  ·rfl
theorem putL_all{L:Nat→Bool}{v:Nat→Value}{a:Act} : ∀n,(∀i,i<n→L i=true)→putL ops L v a n=putAll ops v a n
 | 0,_=>rfl
 | n+1,h=>by unfold putL putAll;rw[putL_all n (fun i hi=>h i (by omega)),if_pos (h n (by omega))]
theorem putL_far{L:Nat→Bool}{v:Nat→Value}{a:Act}{t:Tmp} : ∀n,(∀i,i<n→L i=true→dstOf ops i≠some t)→(putL ops L v a n).tmps.getD t undef=a.tmps.getD t undef
 | 0,_=>rfl
 | n+1,h=>by
  have ih:=putL_far (v:=v) (a:=a) n (fun i hi hl=>h i (by omega) hl)
  unfold putL
  split
  ·rename_i hl
   have h1:=h n (by omega) hl
   unfold Act.put
   split
   ·rename_i d hd
    rw[hd]at h1
    have:d≠t:=fun e=>h1 (by rw[e])
    rw[←ih]
    simp[Array.getElem?_setIfInBounds_ne this]
   ·exact ih
  ·exact ih
theorem dstB_spec{N:Nat}(h:dstB ops N=true){j:Nat}{t:Tmp}(hj:dstOf ops j=some t):t<N∧∀i,i≠j→dstOf ops i≠some t:=by
 have key:∀j t,dstOf ops j=some t→j<ops.size∧t<N∧∀i,i<j→dstOf ops i≠some t:=by
  intro j t hj
  have hjl:j<ops.size:=by
   rcases Nat.lt_or_ge j ops.size with h|h
   ·exact h
   ·unfold dstOf at hj;rw[Array.getElem?_eq_none h]at hj;cases hj
  have:=List.all_eq_true.1 h j (List.mem_range.2 hjl)
  rw[hj]at this
  simp only[Bool.and_eq_true,decide_eq_true_eq,List.all_eq_true,List.mem_range,bne_iff_ne]at this
  exact⟨hjl,this.1,this.2⟩
 refine⟨(key j t hj).2.1,fun i hi he=>?_⟩
 rcases Nat.lt_or_gt_of_ne hi with h'|h'
 ·exact(key j t hj).2.2 i h' he
 ·exact(key i t he).2.2 j h' hj
theorem putL_val{N:Nat}(h:dstB ops N=true){L:Nat→Bool}{v:Nat→Value}{a:Act}(hN:a.tmps.size=N){d:Nat}{t:Tmp}(hd:dstOf ops d=some t)(hL:L d=true) :
 ∀n,d<n→(putL ops L v a n).tmps.getD t undef=v d
 | 0,hn=>by omega
 | n+1,hn=>by
  obtain⟨h1,h2⟩:=dstB_spec h hd
  unfold putL
  by_cases e:n=d
  ·subst e
   rw[if_pos hL,hd]
   unfold Act.put
   have:=(putL_size (ops:=ops) L v a n).1
   simp[this,hN,h1]
  ·have ih:=putL_val (v:=v) h hN hd hL n (by omega)
   split
   ·unfold Act.put
    split
    ·rename_i d' hd'
     have:d'≠t:=fun e'=>h2 n e (by rw[hd',e'])
     rw[←ih]
     simp[Array.getElem?_setIfInBounds_ne this]
    ·exact ih
   ·exact ih
theorem Act.put_comm'{a:Act}{s t:Option Tmp}{x y:Value}(h:s=none∨t=none∨s≠t):(a.put s x).put t y=(a.put t y).put s x:=by
 cases s with
 | none=>rfl
 | some s =>
  cases t with
  | none=>rfl
  | some t =>
   have hne:s≠t:=by rcases h with h|h|h <;> simp at h;exact h
   unfold Act.put
   simp only
   rw[Array.setIfInBounds_comm _ _ hne]
theorem putL_put{N:Nat}(h:dstB ops N=true){L:Nat→Bool}{v:Nat→Value}{a:Act}{j:Nat}(hj:L j=false)(x:Value) :
 ∀n,j<n→(putL ops L v a n).put (dstOf ops j) x=putL ops (fun i=>i == j||L i) (fun i=>if i=j then x else v i) a n
 | 0,hn=>by omega
 | n+1,hn=>by
  by_cases e:n=j
  ·subst e
   unfold putL
   simp only[hj,Bool.false_eq_true,if_false,beq_self_eq_true,Bool.true_or,if_true]
   rw[putL_congr (L:=L) (L':=fun i=>i == n||L i) (v:=v) (v':=fun i=>if i=n then x else v i) n (fun i hi=>by simp[Nat.ne_of_lt hi]) (fun i hi _=>by simp[Nat.ne_of_lt hi])]
  ·have ih:=putL_put h hj x n (by omega) (v:=v) (a:=a)
   unfold putL
   have e1:(n == j)=false:=by simpa using e
   simp only[e1,Bool.false_or,e,if_false]
   split
   ·rw[←ih]
    refine Act.put_comm' ?_
    cases hs:dstOf ops n with
    | none=>exact .inl rfl
    | some t=>exact .inr (.inr fun e'=>(dstB_spec h hs).2 j (Ne.symm e) e'.symm)
   ·exact ih
def StepAt(P:Program)(ops:Array Oper)(Q:Exit→Act→World→Prop)(a0:Act)(φ : Γ → Nat→Value→World→Prop)(G : Γ → (Nat→Bool)→World→Prop)(j:Nat):Prop :=
 ∀(γ : Γ) (L:Nat→Bool) (v:Nat→Value) (a:Act) (w:World),(∀i d,L i=true→needs ops i d=true→L d=true)→L j=false→(∀d,needs ops j d=true→L d=true)→G γ L w→(∀d,L d=true → φ γ d (v d) w) →
  (∀d t,dstOf ops d=some t→L d=true→a.tmps.getD t undef=v d)→(∀t,(∀d,L d=true→dstOf ops d≠some t)→a.tmps.getD t undef=a0.tmps.getD t undef) →
  wpOp P ops Q j (fun a' w'=>∃x γ',a'=a.put (dstOf ops j) x ∧ φ γ' j x w'∧(∀d,d≠j→L d=true → φ γ d (v d) w → φ γ' d (v d) w')∧G γ' (fun i=>i == j||L i) w') a w
def StepsTo(P:Program)(ops:Array Oper)(Q:Exit→Act→World→Prop)(a0:Act)(φ : Γ → Nat→Value→World→Prop)(G : Γ → (Nat→Bool)→World→Prop):Nat→Prop
 | 0=>True
 | n+1=>StepsTo P ops Q a0 φ G n∧StepAt P ops Q a0 φ G n
theorem StepsTo.at_{a0:Act}{φ : Γ → Nat→Value→World→Prop}{G : Γ → (Nat→Bool)→World→Prop} : ∀ {n j:Nat},StepsTo P ops Q a0 φ G n→j<n→StepAt P ops Q a0 φ G j
 | 0,j,_,h=>by omega
 | n+1,j,h,hj=>by
  by_cases e:j=n
  ·subst e;exact h.2
  ·exact h.1.at_ (by omega)
theorem countFalse_lt{l:Array Bool}{i:Nat}(h:l[i]? = some false):(l.setIfInBounds i true).toList.count false<l.toList.count false:=by
 have hi:=(Array.getElem?_eq_some_iff.1 h)
 obtain⟨hlt,hv⟩:=hi
 rw[Array.toList_setIfInBounds,List.count_set (by simpa using hlt)]
 have:l.toList[i]'(by simpa using hlt)=false:=by simpa using hv
 rw[this]
 have hm:false∈l.toList:=by rw[←this];exact List.getElem_mem _
 have h1:=List.count_pos_iff.2 hm
 have e1:(false == false)=true:=rfl
 have e2:(true == false)=false:=rfl
 rw[e1,e2,if_pos rfl,if_neg (by simp)]
 omega
theorem wpAny_phi(a0:Act)(φ : Γ → Nat→Value→World→Prop)(G : Γ → (Nat→Bool)→World→Prop)
 (hback:backB ops=true) (hd:dstB ops a0.tmps.size=true) (steps:StepsTo P ops Q a0 φ G ops.size)
 (fin:∀γ L v w,(∀j,j<ops.size→L j=true)→G γ L w→(∀d,d<ops.size → φ γ d (v d) w)→Q .normal (putAll ops v a0 ops.size) w) :
 ∀(fuel:Nat) (listed:Array Bool) (γ : Γ) (v:Nat→Value) (a:Act) (w:World),listed.size=ops.size→listed.toList.count false≤fuel →
  (∀i d,listed.getD i false=true→needs ops i d=true→listed.getD d false=true)→a=putL ops (fun i=>listed.getD i false) v a0 ops.size→G γ (fun i=>listed.getD i false) w→(∀d,listed.getD d false=true → φ γ d (v d) w) →
  wpAny P .any ops Q fuel listed a w:=by
 have hall:∀listed:Array Bool,listed.size=ops.size→Region.ready .any ops listed=[]→∀j,j<ops.size→listed.getD j false=true:=by
  intro listed hsz hr j
  induction j using Nat.strongRecOn with
  | _ j ih =>
   intro hj
   cases hl:listed.getD j false with
   | true=>rfl
   | false =>
    exfalso
    have hm:j∈Region.ready .any ops listed:=by
     rw[mem_ready]
     refine⟨?_,ops[j],Array.getElem?_eq_getElem hj,fun e he hbd=>?_⟩
     ·have hjl:j<listed.size:=by omega
      simp[hjl]at hl⊢;exact hl
     ·have h1:=List.all_eq_true.1 hback j (List.mem_range.2 hj)
      rw[Array.getElem?_eq_getElem hj]at h1
      simp only[Option.map_some,Option.getD_some]at h1
      have h2:=Array.all_eq_true_iff_forall_mem.1 h1 e he
      have h3:e.on<j:=by
       rw[Bool.or_eq_true]at h2
       rcases h2 with h2|h2
       ·simpa using h2
       ·rw[hbd]at h2;cases h2
      exact ih e.on h3 (by omega)
    rw[hr]at hm;cases hm
 intro fuel
 induction fuel with
 | zero =>
  intro listed γ v a w hsz hc hdown ha hG hφ
  have hfull:∀j,j<ops.size→listed.getD j false=true:=by
   intro j hj
   have hjl:j<listed.size:=by omega
   cases hl:listed[j]with
   | true=>simp[hjl,hl]
   | false =>
    have:false∈listed.toList:=by rw[←hl];exact Array.mem_toList_iff.2 (Array.getElem_mem hjl)
    have:=List.count_pos_iff.2 this
    omega
  refine⟨?_,?_⟩
  ·refine List.eq_nil_iff_forall_not_mem.2 fun j hj=>?_
   rw[mem_ready]at hj
   obtain⟨h0,o,ho,_⟩:=hj
   have hjs:=(Array.getElem?_eq_some_iff.1 ho).1
   have hjl:j<listed.size:=by omega
   have:=hfull j hjs
   simp[hjl]at this h0
   rw[this]at h0;cases h0
  ·rw[ha,putL_all _ hfull]
   exact fin γ _ v w hfull hG (fun d hd=>hφ d (hfull d hd))
 | succ fuel ih =>
  intro listed γ v a w hsz hc hdown ha hG hφ
  refine⟨fun hr=>?_,fun i hi=>?_⟩
  ·have hfull:=hall listed hsz hr
   rw[ha,putL_all _ hfull]
   exact fin γ _ v w hfull hG (fun d hd=>hφ d (hfull d hd))
  ·rw[mem_ready]at hi
   obtain⟨h0,o,ho,hdeps⟩:=hi
   have his:=(Array.getElem?_eq_some_iff.1 ho).1
   have hil:i<listed.size:=by omega
   have hv0:listed[i]? = some false:=by simp[hil]at h0⊢;exact h0
   have hLi:listed.getD i false=false:=by simp[hil]at h0⊢;exact h0
   have hneed:∀d,needs ops i d=true→listed.getD d false=true:=by
    intro d hn
    unfold needs at hn
    rw[ho]at hn
    simp only[Option.map_some,Option.getD_some]at hn
    obtain⟨e,he,hb⟩:=Array.any_eq_true'.1 hn
    simp only[Bool.and_eq_true,beq_iff_eq]at hb
    have:=hdeps e he hb.1
    rw[hb.2]at this;exact this
   have hfun:(fun k=>(listed.setIfInBounds i true).getD k false)=fun k=>k == i||listed.getD k false:=by
    funext k
    by_cases e:k=i
    ·subst e;simp[hil]
    ·have e1:(k == i)=false:=by simpa using e
     rw[e1,Bool.false_or,getD_set_ne false (Ne.symm e)]
   refine wpOp_mono ?_ (steps.at_ his γ (fun k=>listed.getD k false) v a w hdown hLi hneed hG hφ ?_ ?_)
   ·rintro a' w' ⟨x, γ',rfl,hx,hst,hG'⟩
    refine ih (listed.setIfInBounds i true) γ' (fun k=>if k=i then x else v k) _ w' (by simpa using hsz) ?_ ?_ ?_ ?_ ?_
    ·have:=countFalse_lt hv0;omega
    ·intro j d hj hn
     rw[show(listed.setIfInBounds i true).getD j false=(j == i||listed.getD j false)from congrFun hfun j]at hj
     rw[show(listed.setIfInBounds i true).getD d false=(d == i||listed.getD d false)from congrFun hfun d]
     by_cases e:j=i
     ·subst e;rw[hneed d hn];simp
     ·have e1:(j == i)=false:=by simpa using e
      rw[e1,Bool.false_or]at hj
      rw[hdown j d hj hn];simp
    ·rw[ha,putL_put hd hLi x _ his,hfun]
    ·rw[hfun];exact hG'
    ·intro d hdl
     rw[show(listed.setIfInBounds i true).getD d false=(d == i||listed.getD d false)from congrFun hfun d]at hdl
     by_cases e:d=i
     ·subst e;simp only[if_true];exact hx
     ·have e1:(d == i)=false:=by simpa using e
      rw[e1,Bool.false_or]at hdl
      simp only[if_neg e]
      exact hst d e hdl (hφ d hdl)
   ·intro d t hdt hL
    rw[ha]
    have hds:d<ops.size:=by
     rcases Nat.lt_or_ge d ops.size with h|h
     ·exact h
     ·unfold dstOf at hdt;rw[Array.getElem?_eq_none h]at hdt;cases hdt
    exact putL_val hd rfl hdt hL _ hds
   ·intro t ht
    rw[ha]
    exact putL_far _ fun i _ hL=>ht i hL
theorem wp_region_phi{id:Nat}{a:Act}{w:World}(φ : Γ → Nat→Value→World→Prop)(G : Γ → (Nat→Bool)→World→Prop)(hm:P.follows .mixedOrders=true)
 (hback:backB ops=true) (hd:dstB ops a.tmps.size=true) (γ : Γ) (hG:G γ (fun _=>false) w.drew) (steps:StepsTo P ops Q a φ G ops.size)
 (fin:∀γ L v w,(∀j,j<ops.size→L j=true)→G γ L w→(∀d,d<ops.size → φ γ d (v d) w)→Q .normal (putAll ops v a ops.size) w):(Code.region id ops true).wp P Q a w:=by
 have hz:(fun i=>(Array.replicate ops.size false).getD i false)=fun _=>false:=by
  funext i
  by_cases h:i<ops.size <;> simp[h]
 refine wp_region_any hm (wpAny_phi a φ G hback hd steps fin _ _ γ (fun _=>undef) a _ (by simp) (by simp) ?_ ?_ ?_ ?_)
 ·intro i d h;rw[show(Array.replicate ops.size false).getD i false=false from congrFun hz i]at h;cases h
 ·rw[hz]
  have:∀n,putL ops (fun _=>false) (fun _=>undef) a n=a:=by
   intro n;induction n with
   | zero=>rfl
   | succ n ih=>unfold putL;simpa using ih
  exact(this _).symm
 ·rw[hz];exact hG
 ·intro d h;rw[show(Array.replicate ops.size false).getD d false=false from congrFun hz d]at h;cases h
theorem wpOp_value{j:Nat}{o:Oper}{a:Act}{w w':World}{x:Value}{K:Act→World→Prop}(ho:ops[j]? = some o)(hg:o.guard=none)(h:(execOp a.eval o).run P w=.ok (.value x) w')(hK:K (a.put (dstOf ops j) x) w'):wpOp P ops Q j K a w:=by
 unfold wpOp
 rw[ho]
 simp only[Region.wanted,hg,if_true]
 refine .inl ?_
 unfold Oper.wp
 rw[h]
 have:dstOf ops j=o.dst:=by unfold dstOf;rw[ho];rfl
 rw[this]at hK
 exact hK
theorem wpOp_skip{j:Nat}{o:Oper}{a:Act}{w w':World}{K:Act→World→Prop}(ho:ops[j]? = some o)(hg:o.guard=none)(h:(execOp a.eval o).run P w=.ok .skip w')(hK:K (a.put (dstOf ops j) undef) w'):wpOp P ops Q j K a w:=by
 unfold wpOp
 rw[ho]
 simp only[Region.wanted,hg,if_true]
 refine .inl ?_
 unfold Oper.wp
 rw[h]
 have:dstOf ops j=o.dst:=by unfold dstOf;rw[ho];rfl
 rw[this]at hK
 exact hK
theorem wpOp_calls{j:Nat}{o:Oper}{a:Act}{w w':World}{f:FuncId}{args:Array Value}{K:Act→World→Prop}(ho:ops[j]? = some o)(hg:o.guard=none)(h:(execOp a.eval o).run P w=.ok (.enter f args) w')
 (hK:Calls P f args w' fun e w''=>∃x,e=.returned x∧K (a.put (dstOf ops j) x) w''):wpOp P ops Q j K a w:=by
 unfold wpOp
 rw[ho]
 simp only[Region.wanted,hg,if_true]
 refine .inl ?_
 unfold Oper.wp
 rw[h]
 have hd:dstOf ops j=o.dst:=by unfold dstOf;rw[ho];rfl
 rw[hd]at hK
 refine Calls.mono hK ?_
 rintro e w'' ⟨x,rfl,hx⟩
 exact hx
end
end Go.Proofs.YtkkbfdencgdbhaaGreatDoor
namespace Go.Proofs.YtkkbfdencgdbhaaGreatDoor
inductive Sg
 | val (v:Value)
 | g (k:Nat)
 | any
def Sg.isG(k:Nat):Sg→Bool
 | .g i=>i == k
 | _=>false
def sgφ(sp:List Sg)(γ : Nat→Value)(d:Nat)(v:Value)(_w:World):Prop:=match sp.getD d .any with
 | .val x=>v=x
 | .g k=>v = γ k
 | .any=>True
def upd(γ : Nat→Value)(k:Nat)(x:Value):Nat→Value:=fun i=>if i=k then x else γ i
theorem sgφ_upd{sp:List Sg}{γ : Nat→Value}{j k:Nat}{x:Value}(hk:((List.range sp.length).all fun d=>d == j || !(sp.getD d .any).isG k)=true){d:Nat}(hd:d≠j){v:Value}{w w':World}(h:sgφ sp γ d v w):sgφ sp (upd γ k x) d v w':=by
 unfold sgφ at *
 cases hs:sp.getD d .any with
 | val y=>rw[hs]at h;exact h
 | any=>trivial
 | g i =>
  rw[hs]at h
  have hl:d<sp.length:=by
   rcases Nat.lt_or_ge d sp.length with hl|hl
   ·exact hl
   ·rw[List.getD_eq_getElem?_getD,List.getElem?_eq_none hl]at hs;cases hs
  have:=List.all_eq_true.1 hk d (List.mem_range.2 hl)
  rw[hs]at this
  simp[Sg.isG,hd]at this
  simp only[upd,this,if_false]
  exact h
section
variable{P:Program}{ops:Array Oper}{Q:Exit→Act→World→Prop}{a0:Act}{sp:List Sg}{G:(Nat→Value)→(Nat→Bool)→World→Prop}{j:Nat}{o:Oper}
structure StIn (ops:Array Oper) (a0:Act) (sp:List Sg) (G:(Nat→Value)→(Nat→Bool)→World→Prop) (j:Nat) (γ : Nat→Value) (L:Nat→Bool) (v:Nat→Value) (a:Act) (w:World):Prop where
 off:L j=false
 dep:∀d,needs ops j d=true→L d=true
 down:∀i d,L i=true→needs ops i d=true→L d=true
 inv:G γ L w
 φ : ∀d,needs ops j d=true→sgφ sp γ d (v d) w
 val:∀d t,dstOf ops d=some t→needs ops j d=true→a.tmps.getD t undef=v d
 far:∀t,((List.range ops.size).all fun d=>dstOf ops d != some t)=true→a.tmps.getD t undef=a0.tmps.getD t undef
 late:∀t,((List.range ops.size).all fun d=>dstOf ops d != some t||d == j||needs ops d j)=true→a.tmps.getD t undef=a0.tmps.getD t undef
theorem StIn.mk'{γ : Nat→Value}{L:Nat→Bool}{v:Nat→Value}{a:Act}{w:World}(hdown:∀i d,L i=true→needs ops i d=true→L d=true)(hLj:L j=false)(hneed:∀d,needs ops j d=true→L d=true)(hG:G γ L w)(hφ : ∀d,L d=true→sgφ sp γ d (v d) w)
 (hval:∀d t,dstOf ops d=some t→L d=true→a.tmps.getD t undef=v d) (h0:∀t,(∀d,L d=true→dstOf ops d≠some t)→a.tmps.getD t undef=a0.tmps.getD t undef):StIn ops a0 sp G j γ L v a w :=
 ⟨hLj,hneed,hdown,hG,fun d hd=>hφ d (hneed d hd),fun d t hd hn=>hval d t hd (hneed d hn),fun t ht=>h0 t fun d _ hd=>by
  have hds:d<ops.size:=by
   rcases Nat.lt_or_ge d ops.size with h|h
   ·exact h
   ·unfold dstOf at hd;rw[Array.getElem?_eq_none h]at hd;cases hd
  have:=List.all_eq_true.1 ht d (List.mem_range.2 hds)
  rw[hd]at this
  simp at this,fun t ht=>h0 t fun d hLd hd=>by
  have hds:d<ops.size:=by
   rcases Nat.lt_or_ge d ops.size with h|h
   ·exact h
   ·unfold dstOf at hd;rw[Array.getElem?_eq_none h]at hd;cases hd
  have:=List.all_eq_true.1 ht d (List.mem_range.2 hds)
  rw[hd]at this
  simp at this
  rcases this with rfl|this
  ·rw[hLj]at hLd;cases hLd
  ·rw[hdown d j hLd this]at hLj;cases hLj⟩
theorem sg_val{x:Value}(ho:ops[j]? = some o)(hg:o.guard=none)(hs:sp.getD j .any=.val x)(hG:∀γ L w,G γ L w→L j=false→G γ (fun i=>i == j||L i) w)
 (h:∀γ L v a w,StIn ops a0 sp G j γ L v a w→(execOp a.eval o).run P w=.ok (.value x) w):StepAt P ops Q a0 (sgφ sp) G j:=by
 intro γ L v a w hdown hLj hneed hGw hφ hval h0
 refine wpOp_value ho hg (h γ L v a w (StIn.mk' hdown hLj hneed hGw hφ hval h0)) ⟨x, γ,rfl,?_,fun d _ _ hh=>hh,hG γ L w hGw hLj⟩
 unfold sgφ
 rw[hs]
theorem sg_skip(ho:ops[j]? = some o)(hg:o.guard=none)(hs:sp.getD j .any=.any)
 (h:∀γ L v a w,StIn ops a0 sp G j γ L v a w→∃w',(execOp a.eval o).run P w=.ok .skip w'∧G γ (fun i=>i == j||L i) w'):StepAt P ops Q a0 (sgφ sp) G j:=by
 intro γ L v a w hdown hLj hneed hGw hφ hval h0
 obtain⟨w',hrun,hG'⟩:=h γ L v a w (StIn.mk' hdown hLj hneed hGw hφ hval h0)
 refine wpOp_skip ho hg hrun ⟨undef, γ,rfl,?_,fun d _ _ hh=>hh,hG'⟩
 unfold sgφ
 rw[hs];trivial
theorem sg_call{k:Nat}{f:FuncId}(ho:ops[j]? = some o)(hg:o.guard=none)(hs:sp.getD j .any=.g k)(hk:((List.range sp.length).all fun d=>d == j || !(sp.getD d .any).isG k)=true)
 (h:∀γ L v a w,StIn ops a0 sp G j γ L v a w→∃args,(execOp a.eval o).run P w=.ok (.enter f args) w∧Calls P f args w fun r w'=>∃x,r=.returned x∧G (upd γ k x) (fun i=>i == j||L i) w'):StepAt P ops Q a0 (sgφ sp) G j:=by
 intro γ L v a w hdown hLj hneed hGw hφ hval h0
 obtain⟨args,hrun,hcall⟩:=h γ L v a w (StIn.mk' hdown hLj hneed hGw hφ hval h0)
 refine wpOp_calls ho hg hrun (hcall.mono ?_)
 rintro r w' ⟨x,rfl,hG'⟩
 refine⟨x,rfl,x,upd γ k x,rfl,?_,fun d hd _ hh=>sgφ_upd hk hd hh,hG'⟩
 unfold sgφ
 rw[hs]
 simp[upd]
end
end Go.Proofs.YtkkbfdencgdbhaaGreatDoor
namespace Go.Proofs.YtkkbfdencgdbhaaGreatDoor
open Go.RowKit
section
variable{P:Program}{ops:Array Oper}{Q:Exit→Act→World→Prop}{a0:Act}{sp:List Sg}{G:(Nat→Value)→(Nat→Bool)→World→Prop}{j:Nat}{o:Oper}
theorem sg_new{k:Nat}(ho:ops[j]? = some o)(hg:o.guard=none)(hs:sp.getD j .any=.g k)(hk:((List.range sp.length).all fun d=>d == j || !(sp.getD d .any).isG k)=true)
 (h:∀γ L v a w,StIn ops a0 sp G j γ L v a w→∃x w',(execOp a.eval o).run P w=.ok (.value x) w'∧G (upd γ k x) (fun i=>i == j||L i) w'):StepAt P ops Q a0 (sgφ sp) G j:=by
 intro γ L v a w hdown hLj hneed hGw hφ hval h0
 obtain⟨x,w',hrun,hG'⟩:=h γ L v a w (StIn.mk' hdown hLj hneed hGw hφ hval h0)
 refine wpOp_value ho hg hrun ⟨x,upd γ k x,rfl,?_,fun d hd _ hh=>sgφ_upd hk hd hh,hG'⟩
 unfold sgφ
 rw[hs]
 simp[upd]
theorem sg_callv'{x:Value}{f:FuncId}(ho:ops[j]? = some o)(hg:o.guard=none)(hs:sp.getD j .any=.val x)
 (h:∀γ L v a w,StIn ops a0 sp G j γ L v a w→∃args,(execOp a.eval o).run P w=.ok (.enter f args) w∧Calls P f args w fun r w'=>r=.returned x∧G γ (fun i=>i == j||L i) w'):StepAt P ops Q a0 (sgφ sp) G j:=by
 intro γ L v a w hdown hLj hneed hGw hφ hval h0
 obtain⟨args,hrun,hcall⟩:=h γ L v a w (StIn.mk' hdown hLj hneed hGw hφ hval h0)
 refine wpOp_calls ho hg hrun (hcall.mono ?_)
 rintro r w' ⟨rfl,hG'⟩
 refine⟨x,rfl,x, γ,rfl,?_,fun d _ _ hh=>hh,hG'⟩
 unfold sgφ
 rw[hs]
end
end Go.Proofs.YtkkbfdencgdbhaaGreatDoor
namespace Go.Proofs.YtkkbfdencgdbhaaGreatDoor
open Go.RowKit
structure Gh where
 on:Nat
 k:Nat
 p:Bool→Value→World→Prop
structure GQ (W:World) (S:Nat→Prop) (jw:Nat) (PW:Bool→World→Prop) (gs:List Gh) (γ : Nat→Value) (L:Nat→Bool) (w:World):Prop where
 chg:Chg S W w
 pw:PW (L jw) w
 gh:∀x∈gs,L x.on=true→x.p (L jw) (γ x.k) w
section
variable{W w w':World}{S:Nat→Prop}{jw j:Nat}{PW:Bool→World→Prop}{gs:List Gh}{γ : Nat→Value}{L:Nat→Bool}
theorem GQ.keep(hjw:jw≠j)(hgs:(gs.map (·.on)).contains j=false):∀γ L w,GQ W S jw PW gs γ L w→L j=false→GQ W S jw PW gs γ (fun i=>i == j||L i) w:=by
 intro γ L w h _
 have e1:(jw == j)=false:=by simpa using hjw
 refine⟨h.chg,by simpa[e1]using h.pw,fun x hx hl=>?_⟩
 have e2:(x.on == j)=false:=by
  cases hc:x.on == j with
  | false=>rfl
  | true =>
   have:(gs.map (·.on)).contains j=true:=by
    rw[List.contains_iff_mem]
    exact List.mem_map.2 ⟨x,hx,by simpa using hc⟩
   rw[this]at hgs;cases hgs
 simp only[e2,Bool.false_or]at hl
 simpa[e1]using h.gh x hx hl
structure GQ.St (S:Nat→Prop) (PW:Bool→World→Prop) (gs:List Gh):Prop where
 pw:∀b w w',PW b w→Ext w w'→PW b w'
 gh:∀x∈gs,∀b v w w',x.p b v w→Ext w w'→x.p b v w'
theorem GQ.ext(h:GQ W S jw PW gs γ L w)(hs:GQ.St S PW gs)(hE:Ext w w'):GQ W S jw PW gs γ L w' :=
 ⟨h.chg.ext_trans hE,hs.pw _ _ _ h.pw hE,fun x hx hl=>hs.gh x hx _ _ _ _ (h.gh x hx hl) hE⟩
theorem GQ.call(h:GQ W S jw PW gs γ L w)(hs:GQ.St S PW gs)(hE:Ext w w')(hjw:jw≠j)(hgs:(gs.map (·.on)).contains j=false)(hj:L j=false):GQ W S jw PW gs γ (fun i=>i == j||L i) w' :=
 GQ.keep hjw hgs γ L w' (h.ext hs hE) hj
theorem GQ.new(h:GQ W S jw PW gs γ L w)(hs:GQ.St S PW gs)(hE:Ext w w')(hjw:jw≠j){v:Value}{k:Nat}(hk:(gs.all fun x=>x.on == j||x.k != k)=true)
 (hv:∀x∈gs,x.on=j→x.k=k∧x.p (L jw) v w'):GQ W S jw PW gs (upd γ k v) (fun i=>i == j||L i) w':=by
 have e1:(jw == j)=false:=by simpa using hjw
 refine⟨h.chg.ext_trans hE,by simpa[e1]using hs.pw _ _ _ h.pw hE,fun x hx hl=>?_⟩
 simp only[e1,Bool.false_or]
 by_cases e:x.on=j
 ·obtain⟨h1,h2⟩:=hv x hx e
  simpa[upd,h1]using h2
 ·have e2:(x.on == j)=false:=by simpa using e
  simp only[e2,Bool.false_or]at hl
  have h3:=List.all_eq_true.1 hk x hx
  simp only[e2,Bool.false_or,bne_iff_ne,ne_eq]at h3
  have:=hs.gh x hx _ _ _ _ (h.gh x hx hl) hE
  simpa[upd,h3]using this
theorem GQ.write(h:GQ W S jw PW gs γ L w)(hC:Chg S w w')(hP:PW true w')(hg:∀x∈gs,x.on≠jw→L x.on=true→x.p true (γ x.k) w')(hgs:(gs.map (·.on)).contains jw=false):GQ W S jw PW gs γ (fun i=>i == jw||L i) w':=by
 refine⟨h.chg.trans hC (fun _ _ h=>h),by simpa using hP,fun x hx hl=>?_⟩
 have e:x.on≠jw:=by
  rintro e
  have:(gs.map (·.on)).contains jw=true:=by
   rw[List.contains_iff_mem]
   exact List.mem_map.2 ⟨x,hx,e⟩
  rw[this]at hgs;cases hgs
 have e2:(x.on == jw)=false:=by simpa using e
 simp only[e2,Bool.false_or]at hl
 simpa using hg x hx e hl
theorem GQ.off(h:GQ W S jw PW gs γ L w)(hS:∀k,¬ S k):Ext W w:=h.chg.mono fun k _ hk=>hS k hk
end
def NewAt(B:Nat)(t:TypeId)(cs:Array Value)(f:Nat→Value):Bool→Value→World→Prop:=fun _ v w=>∃b,B≤b∧v=f b∧At w b t cs
theorem NewAt.ext{B:Nat}{t:TypeId}{cs:Array Value}{f:Nat→Value}{b:Bool}{v:Value}{w w':World}(h:NewAt B t cs f b v w)(hE:Ext w w'):NewAt B t cs f b v w':=by
 obtain⟨g,h1,h2,h3⟩:=h
 exact⟨g,h1,h2,h3.ext hE⟩
theorem NewAt.chg{B:Nat}{t:TypeId}{cs:Array Value}{f:Nat→Value}{b b':Bool}{v:Value}{w w':World}{S:Nat→Prop}(h:NewAt B t cs f b v w)(hC:Chg S w w')(hS:∀k,S k→k<B):NewAt B t cs f b' v w':=by
 obtain⟨g,h1,h2,h3⟩:=h
 exact⟨g,h1,h2,h3.chg hC (fun hk=>by have:=hS _ hk;omega)⟩
def slB(n c:Nat)(b:Nat):Value:=.slice (some ⟨b,0,none⟩) n c
def ptB(b:Nat):Value:=.pointer (some ⟨b,0,none⟩)
theorem NewAt.sl{B:Nat}{t:TypeId}{xs:List Value}{b:Bool}{v:Value}{w:World}{c:Nat}(h:NewAt B t xs.toArray (slB xs.length c) b v w):Sl w v xs:=by
 obtain⟨g,_,rfl,h3⟩:=h
 exact⟨_,c,rfl,fun _=>⟨_,_,rfl,fun i y hi=>by
  have:=h3.cell i
  rw[Nat.zero_add,this]
  simpa using hi⟩⟩
theorem GQ.start(W:World)(S:Nat→Prop)(jw:Nat)(PW:Bool→World→Prop)(gs:List Gh)(γ : Nat→Value)(h:PW false W.drew):GQ W S jw PW gs γ (fun _=>false) W.drew :=
 ⟨(Chg.refl S W).drew,h,fun _ _ hl=>by cases hl⟩
end Go.Proofs.YtkkbfdencgdbhaaGreatDoor
