/-
  Part 19 of what the law leans on.
-/
import Derived.Test.YtkkbfdencgdbhaaGreatDoorSA1
import Derived.Test.YtkkbfdencgdbhaaGreatDoorSA3
import Derived.Test.YtkkbfdencgdbhaaGreatDoorSA17
import Derived.Test.YtkkbfdencgdbhaaGreatDoorSA18
set_option linter.unusedVariables false
set_option linter.unusedSimpArgs false
set_option linter.unusedSectionVars false
namespace Go.Proofs.YtkkbfdencgdbhaaGreatDoor
open Go.RowKit
structure Pm where
 L:List Bl
 vols:List Vl
structure Rs where
 err:Int
 blob:Nat
 size:Int
 sum:Nat
 names:List ByteArray
def Rs.er(e:Int):Rs:=⟨e,0,0,0,[]⟩
def Pm.empty:Pm:=⟨[],List.replicate 12 Vl.zero⟩
def Pm.find(P:Pm)(id:Nat):Option Bl:=P.L.find? fun b=>decide (b.id=id)
def liveB(n:ByteArray)(b:Bl):Bool := !b.dead&&decide (b.name=n)
def Pm.named(P:Pm)(n:ByteArray):Option Bl:=P.L.find? (liveB n)
def pset(L:List Bl)(x:Bl):List Bl:=L.filter (fun b=>decide (b.id<x.id))++x::L.filter (fun b=>decide (x.id<b.id))
def Pm.set(P:Pm)(x:Bl):Pm := { P with L:=pset P.L x }
def Pm.drop(P:Pm)(id:Nat):Pm := { P with L:=P.L.filter fun b=>decide (b.id≠id) }
def onV(v:Int)(b:Bl):Bool:=let x:=if v % 2=1 then b.b else b.a;x.there&&decide (x.vol=v)
def Pm.onVol(P:Pm)(v:Int):List Bl:=P.L.filter (onV v)
def pinsOf(l:List Bl):Int:=(l.map Bl.pins).foldr (· + ·) 0
def Pm.vol(P:Pm)(v:Nat):Vl:=P.vols.getD v Vl.zero
def Pm.setVol(P:Pm)(v:Nat)(x:Vl):Pm := { P with vols:=P.vols.set v x }
def newB(x:Cmd):Bl:=⟨x.blob,x.name,x.size,x.sum,x.disks,Cp.none,Cp.none,0,false⟩
def Pm.put(P:Pm)(x:Cmd):Pm×Int :=
 if x.name=ByteArray.empty∨x.blob=0∨x.disks=[]then(P,1)
 else if(P.find x.blob).isSome then(P,6)
 else((match P.named x.name with|some b=>P.set { b with dead:=true } | none=>P).set (newB x),0)
def Pm.byName(P:Pm)(x:Cmd):Pm×Rs :=
 match P.named x.name with
 | none=>(P,Rs.er 5)
 | some b=>(if x.kind=2 then P.set { b with pins:=b.pins+1 } else if x.kind=3 then P.set { b with dead:=true } else P,⟨0,b.id,b.size,b.sum,[]⟩)
def cpOf(b:Bl)(pool:Int):Cp:=if pool=1 then b.b else b.a
def setCp(b:Bl)(pool:Int)(x:Cp):Bl:=if pool=1 then { b with b:=x } else { b with a:=x }
def chgB(closed:Bool)(b:Bl)(x:Cmd):Bl×Int :=
 if x.kind=6 then(if b.pins=0 then(b,16)else({ b with pins:=b.pins - 1 },0))
 else if x.kind=7 then(if x.disks=[]then(b,1)else if b.disks=[]then(b,16)else({ b with disks:=x.disks },0))
 else if x.kind=8 then(if closed then(b,16)else if(cpOf b (x.vol % 2)).there&&decide ((cpOf b (x.vol % 2)).vol=x.vol)then(b,6)else(setCp b (x.vol % 2) ⟨true,x.vol,x.at_⟩,0))
 else if x.kind=9 then(if !b.a.there || !b.b.there||decide (b.disks=[])then(b,16)else({ b with disks:=[] },0))
 else if !(cpOf b x.pool).there||decide (b.disks=[]) && !(cpOf b (1 - x.pool)).there then(b,16)else(setCp b x.pool Cp.none,0)
def Pm.byBlob(P:Pm)(x:Cmd):Pm×Int :=
 match P.find x.blob with
 | none=>(P,5)
 | some b =>
  if x.kind=10 then(if !b.dead||decide (0<b.pins)then(P,16)else(P.drop b.id,0))
  else if(chgB (P.vol x.vol.toNat).closed b x).2=0 then(P.set (chgB (P.vol x.vol.toNat).closed b x).1,0)else(P,(chgB (P.vol x.vol.toNat).closed b x).2)
def Pm.volume(P:Pm)(x:Cmd):Pm×Int :=
 if x.kind=11 then(P.setVol x.vol.toNat { P.vol x.vol.toNat with closed:=true },0)
 else if x.kind=12 then(if P.onVol x.vol=[]then(P.setVol x.vol.toNat { P.vol x.vol.toNat with closed:=true,erase:=true },0)else(P,10))
 else(if(P.vol x.vol.toNat).erase then(P.setVol x.vol.toNat ⟨false,false,(P.vol x.vol.toNat).gen+1⟩,0)else(P,16))
def namesL(L:List Bl):List ByteArray:=((L.filter fun b => !b.dead).map Bl.name).mergeSort fun a b=>decide (a.data.toList≤b.data.toList)
def rs1(r:Pm×Int):Pm×Rs:=(r.1,Rs.er r.2)
def Pm.app(P:Pm)(x:Cmd):Pm×Rs :=
 if x.good=false then(P,Rs.er 3)
 else if x.kind=1 then rs1 (P.put x)
 else if x.kind=4 then(P,⟨0,0,0,0,namesL P.L⟩)
 else if x.kind<6 then P.byName x
 else if 11≤x.kind∧x.kind≤13 then rs1 (P.volume x)
 else rs1 (P.byBlob x)
structure BlOk (n:Nat) (b:Bl):Prop where
 id:b.id≠0∧b.id<18446744073709551616
 name:(b.dead=false→b.name≠ByteArray.empty)∧b.name.size≤32
 size:0≤b.size∧b.size≤4000
 sum:b.sum<4294967296
 rises:risesB b.disks=true
 ca:b.a=Cp.none∨b.a.there=true∧b.a.vol % 2=0∧0≤b.a.vol∧b.a.vol≤11∧0≤b.a.at_∧b.a.at_≤1073741824
 cb:b.b=Cp.none∨b.b.there=true∧b.b.vol % 2=1∧0≤b.b.vol∧b.b.vol≤11∧0≤b.b.at_∧b.b.at_≤1073741824
 pins:0≤b.pins∧b.pins≤n
structure PInv (n:Nat) (P:Pm):Prop where
 asc:P.L.Pairwise fun a b=>a.id<b.id
 bl:∀b∈P.L,BlOk n b
 uniq:∀b∈P.L,∀b'∈P.L,b.dead=false→b'.dead=false→b.name=b'.name→b.id=b'.id
 vlen:P.vols.length=12
 gen:∀v∈P.vols,0≤v.gen∧v.gen≤n
 len:P.L.length≤n
structure RepR (rows:List BR) (L:List Bl):Prop where
 mem:∀b,b∈rows.map BR.b↔b∈L
 idn:(rows.map fun r=>r.b.id).Nodup
def RepN(N:List (ByteArray×Nat))(L:List Bl):Prop:=∀n id,(n,id)∈N↔∃b∈L,b.dead=false∧b.name=n∧b.id=id
structure Rep (C:Ct) (P:Pm):Prop where
 rows:RepR C.rows P.L
 names:RepN C.names P.L
 vols:C.vols=P.vols
theorem id_inj{L:List Bl}(h:L.Pairwise fun a b=>a.id<b.id){a b:Bl}(ha:a∈L)(hb:b∈L)(e:a.id=b.id):a=b:=by
 have hn:(L.map Bl.id).Nodup:=List.pairwise_map.2 (h.imp fun {x y} h=>by omega)
 exact nodup_eq (f:=Bl.id) hn ha hb e
theorem pfind_some{P:Pm}(h:P.L.Pairwise fun a b=>a.id<b.id){id:Nat}{b:Bl} : P.find id=some b↔b∈P.L∧b.id=id:=by
 unfold Pm.find
 constructor
 ·intro h'
  exact⟨List.mem_of_find?_eq_some h',by simpa using List.find?_some h'⟩
 ·rintro⟨h1,h2⟩
  cases hf:P.L.find? fun b=>decide (b.id=id)with
  | none=>exact absurd h2 (by simpa using List.find?_eq_none.1 hf b h1)
  | some c =>
   have c1:=List.mem_of_find?_eq_some hf
   have c2:c.id=id:=by simpa using List.find?_some hf
   rw[id_inj h c1 h1 (by rw[c2,h2])]
theorem pfind_none{P:Pm}{id:Nat} : P.find id=none↔∀b∈P.L,b.id≠id:=by
 unfold Pm.find;rw[List.find?_eq_none];simp
theorem liveB_iff{n:ByteArray}{b:Bl} : liveB n b=true↔b.dead=false∧b.name=n:=by
 unfold liveB;rw[Bool.and_eq_true];simp
theorem pnamed_some{m:Nat}{P:Pm}(h:PInv m P){n:ByteArray}{b:Bl} : P.named n=some b↔b∈P.L∧b.dead=false∧b.name=n:=by
 unfold Pm.named
 constructor
 ·intro h'
  exact⟨List.mem_of_find?_eq_some h',liveB_iff.1 (List.find?_some h')⟩
 ·rintro⟨h1,h2,h3⟩
  cases hf:P.L.find? (liveB n)with
  | none=>exact absurd (liveB_iff.2 ⟨h2,h3⟩) (by simpa using List.find?_eq_none.1 hf b h1)
  | some c =>
   have c1:=List.mem_of_find?_eq_some hf
   obtain⟨c2,c3⟩:=liveB_iff.1 (List.find?_some hf)
   rw[id_inj h.asc c1 h1 (h.uniq c c1 b h1 c2 h2 (by rw[c3,h3]))]
theorem pnamed_none{P:Pm}{n:ByteArray} : P.named n=none↔∀b∈P.L,b.dead=false→b.name≠n:=by
 unfold Pm.named;rw[List.find?_eq_none]
 constructor
 ·intro h b hb h1 h2
  exact h b hb (liveB_iff.2 ⟨h1,h2⟩)
 ·intro h b hb h'
  obtain⟨h1,h2⟩:=liveB_iff.1 h'
  exact h b hb h1 h2
theorem mem_pset{L:List Bl}{x b:Bl} : b∈pset L x↔b=x∨b∈L∧b.id≠x.id:=by
 unfold pset
 simp only[List.mem_append,List.mem_cons,List.mem_filter,decide_eq_true_eq]
 constructor
 ·rintro(⟨h1,h2⟩|rfl|⟨h1,h2⟩)
  ·exact .inr ⟨h1,by omega⟩
  ·exact .inl rfl
  ·exact .inr ⟨h1,by omega⟩
 ·rintro(rfl|⟨h1,h2⟩)
  ·exact .inr (.inl rfl)
  ·rcases Nat.lt_or_gt_of_ne h2 with h3|h3
   ·exact .inl ⟨h1,h3⟩
   ·exact .inr (.inr ⟨h1,h3⟩)
theorem pset_asc{L:List Bl}(h:L.Pairwise fun a b=>a.id<b.id)(x:Bl):(pset L x).Pairwise fun a b=>a.id<b.id:=by
 unfold pset
 rw[List.pairwise_append]
 refine⟨h.filter _,List.pairwise_cons.2 ⟨fun b hb=>by simpa using(List.mem_filter.1 hb).2,h.filter _⟩,fun a ha b hb=>?_⟩
 have h1:a.id<x.id:=by simpa using(List.mem_filter.1 ha).2
 rcases List.mem_cons.1 hb with rfl|hb
 ·exact h1
 ·have h2:x.id<b.id:=by simpa using(List.mem_filter.1 hb).2
  omega
theorem pset_len{L:List Bl}(_h:L.Pairwise fun a b=>a.id<b.id)(x:Bl):(pset L x).length≤L.length+1:=by
 unfold pset
 rw[List.length_append,List.length_cons]
 have:(L.filter fun b=>decide (b.id<x.id)).length+(L.filter fun b=>decide (x.id<b.id)).length≤L.length:=by
  clear _h
  induction L with
  | nil=>simp
  | cons a r ih =>
   rw[List.filter_cons,List.filter_cons]
   simp only[List.length_cons]
   by_cases h1:a.id<x.id
   ·rw[if_pos (by simpa using h1),if_neg (by simp;omega),List.length_cons];omega
   ·rw[if_neg (by simpa using h1)]
    split
    ·rw[List.length_cons];omega
    ·omega
 omega
theorem pset_len_in{L:List Bl}(h:L.Pairwise fun a b=>a.id<b.id){x b:Bl}(hb:b∈L)(e:b.id=x.id):(pset L x).length≤L.length:=by
 have h1:(pset L x).map Bl.id ⊆ L.map Bl.id:=fun i hi=>by
  obtain⟨c,hc,rfl⟩:=List.mem_map.1 hi
  rcases mem_pset.1 hc with rfl|⟨h2,_⟩
  ·exact List.mem_map.2 ⟨b,hb,e⟩
  ·exact List.mem_map.2 ⟨c,h2,rfl⟩
 have hn:((pset L x).map Bl.id).Nodup:=List.pairwise_map.2 ((pset_asc h x).imp fun {a b} h=>by omega)
 have hgen:∀(l l':List Nat),l.Nodup→l ⊆ l'→l.length≤l'.length:=by
  intro l
  induction l with
  | nil=>intro l' _ _;simp
  | cons a r ih =>
   intro l' hn hs
   obtain⟨ha,hr⟩:=List.nodup_cons.1 hn
   obtain⟨s,t,rfl⟩:=List.append_of_mem (hs (List.mem_cons_self ..))
   have:=ih (s++t) hr (fun y hy=>by
    have h1:=hs (List.mem_cons_of_mem _ hy)
    have h2:y≠a:=fun e=>ha (e ▸ hy)
    simp only[List.mem_append,List.mem_cons]at h1⊢
    rcases h1 with h1|h1|h1
    ·exact .inl h1
    ·exact absurd h1 h2
    ·exact .inr h1)
   simp only[List.length_append,List.length_cons]at this⊢
   omega
 simpa using hgen _ _ hn h1
theorem BlOk.mono{n m:Nat}{b:Bl}(h:BlOk n b)(hm:n≤m):BlOk m b := { h with pins:=⟨h.pins.1,by have:=h.pins.2;omega⟩ }
theorem PInv.mono{n m:Nat}{P:Pm}(h:PInv n P)(hm:n≤m):PInv m P where
 asc:=h.asc
 bl:=fun b hb=>(h.bl b hb).mono hm
 uniq:=h.uniq
 vlen:=h.vlen
 gen:=fun v hv=>⟨(h.gen v hv).1,by have:=(h.gen v hv).2;omega⟩
 len:=by have:=h.len;omega
theorem PInv.empty(n:Nat):PInv n Pm.empty where
 asc:=List.Pairwise.nil
 bl:=fun b hb=>by cases hb
 uniq:=fun b hb=>by cases hb
 vlen:=rfl
 gen:=fun v hv=>by
  rw[List.eq_of_mem_replicate hv]
  exact⟨Int.le_refl _,Int.natCast_nonneg _⟩
 len:=Nat.zero_le _
theorem PInv.set1{n:Nat}{P:Pm}(h:PInv n P){b x:Bl}(hb:b∈P.L)(e:x.id=b.id)(en:x.name=b.name)(ed:x.dead=false→b.dead=false)(hx:BlOk (n+1) x):PInv (n+1) (P.set x) where
 asc:=pset_asc h.asc x
 bl:=fun c hc=>by
  rcases mem_pset.1 hc with rfl|⟨h1,_⟩
  ·exact hx
  ·exact(h.bl c h1).mono (Nat.le_succ _)
 uniq:=fun c hc c' hc' h1 h2 h3=>by
  rcases mem_pset.1 hc with rfl|⟨g1,g2⟩ <;> rcases mem_pset.1 hc' with rfl|⟨g1',g2'⟩
  ·rfl
  ·rw[e];exact h.uniq b hb c' g1' (ed h1) h2 (by rw[←en];exact h3)
  ·rw[e];exact h.uniq c g1 b hb h1 (ed h2) (by rw[←en];exact h3)
  ·exact h.uniq c g1 c' g1' h1 h2 h3
 vlen:=h.vlen
 gen:=(h.mono (Nat.le_succ n)).gen
 len:=by have:=pset_len_in h.asc hb e.symm;have:=h.len;show(pset P.L x).length≤n+1;omega
theorem PInv.drop{n:Nat}{P:Pm}(h:PInv n P)(id:Nat):PInv n (P.drop id) where
 asc:=h.asc.filter _
 bl:=fun c hc=>h.bl c (List.mem_filter.1 hc).1
 uniq:=fun c hc c' hc'=>h.uniq c (List.mem_filter.1 hc).1 c' (List.mem_filter.1 hc').1
 vlen:=h.vlen
 gen:=h.gen
 len:=Nat.le_trans (List.length_filter_le _ _) h.len
theorem PInv.setVol{n:Nat}{P:Pm}(h:PInv n P)(v:Nat){x:Vl}(hx:0≤x.gen∧x.gen≤((n+1:Nat):Int)):PInv (n+1) (P.setVol v x) where
 asc:=h.asc
 bl:=(h.mono (Nat.le_succ n)).bl
 uniq:=h.uniq
 vlen:=by show(P.vols.set v x).length=12;rw[List.length_set];exact h.vlen
 gen:=fun y hy=>by
  rcases List.mem_or_eq_of_mem_set hy with h1|rfl
  ·exact(h.mono (Nat.le_succ n)).gen y h1
  ·exact hx
 len:=by have:=h.len;show P.L.length≤n+1;omega
theorem vol_gen{n:Nat}{P:Pm}(h:PInv n P)(v:Nat):0≤(P.vol v).gen∧(P.vol v).gen≤n:=by
 unfold Pm.vol
 rw[List.getD_eq_getElem?_getD]
 by_cases hv:v<P.vols.length
 ·rw[List.getElem?_eq_getElem hv];exact h.gen _ (List.getElem_mem hv)
 ·rw[List.getElem?_eq_none (by omega)];exact⟨Int.le_refl _,Int.natCast_nonneg _⟩
theorem find_live{n:Nat}{P:Pm}(h:PInv n P){m:ByteArray}{b:Bl}(hb:P.named m=some b):b∈P.L∧b.dead=false∧b.name=m:=(pnamed_some h).1 hb
theorem rises_lim{l:List Int}(h:risesB l=true):∀d∈l,0≤d∧d≤5:=by
 intro d hd
 obtain⟨k,hk,rfl⟩:=List.getElem_of_mem hd
 unfold risesB at h
 have:=List.all_eq_true.1 h k (List.mem_range.2 hk)
 unfold stepOk upB at this
 rw[List.getD_eq_getElem?_getD,List.getElem?_eq_getElem hk]at this
 simp at this
 exact this.1
theorem PInv.put{n:Nat}{P:Pm}(h:PInv n P){x:Cmd}(hx:x.Wf)(hg:x.good=true):PInv (n+1) (P.put x).1:=by
 unfold Pm.put
 split
 ·exact h.mono (Nat.le_succ _)
 rename_i h1
 split
 ·exact h.mono (Nat.le_succ _)
 rename_i h2
 have hf:P.find x.blob=none:=by cases hh:P.find x.blob <;> simp_all
 have hf':=pfind_none.1 hf
 have hn1:x.name≠ByteArray.empty:=fun e=>h1 (.inl e)
 have hn2:x.blob≠0:=fun e=>h1 (.inr (.inl e))
 have hgd:risesB x.disks=true∧x.name.size≤32∧(0≤x.size∧x.size≤4000):=by
  unfold Cmd.good upB at hg
  simp only[Bool.and_eq_true,decide_eq_true_eq]at hg
  obtain⟨⟨⟨⟨⟨⟨⟨⟨⟨_,_⟩,h3⟩,_⟩,_⟩,h6⟩,h7⟩,_⟩,_⟩,_⟩:=hg
  exact⟨h3,h6,h7⟩
 have hnew:BlOk (n+1) (newB x):=⟨⟨hn2,hx.blob⟩,⟨fun _=>hn1,hgd.2.1⟩,hgd.2.2,hx.sum,hgd.1,.inl rfl,.inl rfl,⟨Int.le_refl _,Int.natCast_nonneg _⟩⟩
 have hgen:∀Q:Pm,PInv (n+1) Q→(∀b∈Q.L,b.id≠x.blob)→Q.L.length≤n→(∀b∈Q.L,b.dead=false→b.name≠x.name)→PInv (n+1) (Q.set (newB x)):=by
  intro Q hQ h3 h4 h5
  refine⟨pset_asc hQ.asc _,fun c hc=>?_,fun c hc c' hc' g1 g2 g3=>?_,hQ.vlen,hQ.gen,by have:=pset_len hQ.asc (newB x);show(pset Q.L (newB x)).length≤n+1;omega⟩
  ·rcases mem_pset.1 hc with rfl|⟨h6,_⟩
   ·exact hnew
   ·exact hQ.bl c h6
  ·rcases mem_pset.1 hc with rfl|⟨g4,_⟩ <;> rcases mem_pset.1 hc' with rfl|⟨g5,_⟩
   ·rfl
   ·exact absurd g3.symm (h5 c' g5 g2)
   ·exact absurd g3 (h5 c g4 g1)
   ·exact hQ.uniq c g4 c' g5 g1 g2 g3
 cases hb:P.named x.name with
 | none =>
  exact hgen P (h.mono (Nat.le_succ _)) hf' h.len (pnamed_none.1 hb)
 | some b =>
  obtain⟨b1,b2,b3⟩:=find_live h hb
  have hbo:=h.bl b b1
  refine hgen _ (h.set1 (x := { b with dead:=true }) b1 rfl rfl (fun e=>by cases e) ({ hbo.mono (Nat.le_succ n)with name:=⟨fun e=>(by cases e),hbo.name.2⟩ })) ?_ ?_ ?_
  ·intro c hc
   rcases mem_pset.1 hc with rfl|⟨h6,_⟩
   ·exact hf' b b1
   ·exact hf' c h6
  ·exact Nat.le_trans (pset_len_in h.asc b1 rfl) h.len
  ·intro c hc g1 g2
   rcases mem_pset.1 hc with rfl|⟨h6,h7⟩
   ·cases g1
   ·exact h7 (h.uniq c h6 b b1 g1 b2 (by rw[g2,b3]))
theorem PInv.byName{n:Nat}{P:Pm}(h:PInv n P)(x:Cmd):PInv (n+1) (P.byName x).1:=by
 unfold Pm.byName
 cases hb:P.named x.name with
 | none=>exact h.mono (Nat.le_succ _)
 | some b =>
  obtain⟨b1,b2,b3⟩:=find_live h hb
  have hbo:=h.bl b b1
  have hbm:=hbo.mono (Nat.le_succ n)
  show PInv (n+1) (if x.kind=2 then P.set { b with pins:=b.pins+1 } else if x.kind=3 then P.set { b with dead:=true } else P)
  split
  ·exact h.set1 (x := { b with pins:=b.pins+1 }) b1 rfl rfl id { hbm with pins:=⟨by have:=hbo.pins.1;show 0≤b.pins+1;omega,by have:=hbo.pins.2;show b.pins+1≤_;push_cast;omega⟩ }
  ·split
   ·exact h.set1 (x := { b with dead:=true }) b1 rfl rfl (fun e=>by cases e) { hbm with name:=⟨fun e=>(by cases e),hbm.name.2⟩ }
   ·exact h.mono (Nat.le_succ _)
theorem chgB_keeps(cl:Bool)(b:Bl)(x:Cmd):(chgB cl b x).1.id=b.id∧(chgB cl b x).1.name=b.name∧(chgB cl b x).1.dead=b.dead:=by
 unfold chgB setCp
 repeat' split
 all_goals exact⟨rfl,rfl,rfl⟩
theorem chgB_ok{n:Nat}{cl:Bool}{b:Bl}{x:Cmd}(h:BlOk n b)(hg:x.good=true):BlOk (n+1) (chgB cl b x).1:=by
 have hbm:=h.mono (Nat.le_succ n)
 have hgd:risesB x.disks=true∧(0≤x.vol∧x.vol≤11)∧(0≤x.at_∧x.at_≤1073741824):=by
  unfold Cmd.good upB at hg
  simp only[Bool.and_eq_true,decide_eq_true_eq]at hg
  obtain⟨⟨⟨⟨⟨⟨⟨⟨⟨_,_⟩,h3⟩,_⟩,_⟩,_⟩,_⟩,_⟩,h9⟩,h10⟩:=hg
  exact⟨h3,h9,h10⟩
 have hp:=h.pins
 have hp':=hbm.pins
 unfold chgB
 split
 ·split
  ·exact hbm
  ·rename_i h1
   exact { hbm with pins:=⟨by show 0≤b.pins - 1;omega,by show b.pins - 1≤_;omega⟩ }
 split
 ·split
  ·exact hbm
  ·split
   ·exact hbm
   ·exact { hbm with rises:=hgd.1 }
 split
 ·split
  ·exact hbm
  ·split
   ·exact hbm
   ·unfold setCp
    split
    ·rename_i h1
     exact { hbm with cb:=.inr ⟨rfl,h1,hgd.2.1.1,hgd.2.1.2,hgd.2.2.1,hgd.2.2.2⟩ }
    ·rename_i h1
     exact { hbm with ca:=.inr ⟨rfl,by show x.vol % 2=0;omega,hgd.2.1.1,hgd.2.1.2,hgd.2.2.1,hgd.2.2.2⟩ }
 split
 ·split
  ·exact hbm
  ·exact { hbm with rises:=rfl }
 split
 ·exact hbm
 ·unfold setCp
  split
  ·exact { hbm with cb:=.inl rfl }
  ·exact { hbm with ca:=.inl rfl }
theorem PInv.byBlob{n:Nat}{P:Pm}(h:PInv n P){x:Cmd}(hg:x.good=true):PInv (n+1) (P.byBlob x).1:=by
 unfold Pm.byBlob
 cases hb:P.find x.blob with
 | none=>exact h.mono (Nat.le_succ _)
 | some b =>
  obtain⟨b1,b2⟩:=(pfind_some h.asc).1 hb
  show PInv (n+1) (if x.kind=10 then(if !b.dead||decide (0<b.pins)then(P,16)else(P.drop b.id,0))
   else if(chgB (P.vol x.vol.toNat).closed b x).2=0 then(P.set (chgB (P.vol x.vol.toNat).closed b x).1,0)else(P,(chgB (P.vol x.vol.toNat).closed b x).2)).1
  obtain⟨k1,k2,k3⟩:=chgB_keeps (P.vol x.vol.toNat).closed b x
  have hk:=chgB_ok (cl:=(P.vol x.vol.toNat).closed) (h.bl b b1) hg
  split
  ·split
   ·exact h.mono (Nat.le_succ _)
   ·exact(h.drop _).mono (Nat.le_succ _)
  ·split
   ·exact h.set1 b1 k1 k2 (fun e=>by rw[←k3];exact e) hk
   ·exact h.mono (Nat.le_succ _)
theorem PInv.volume{n:Nat}{P:Pm}(h:PInv n P)(x:Cmd):PInv (n+1) (P.volume x).1:=by
 have hg:=vol_gen h x.vol.toNat
 unfold Pm.volume
 split
 ·exact h.setVol _ ⟨hg.1,by push_cast;show(P.vol x.vol.toNat).gen≤_;omega⟩
 split
 ·split
  ·exact h.setVol _ ⟨hg.1,by push_cast;show(P.vol x.vol.toNat).gen≤_;omega⟩
  ·exact h.mono (Nat.le_succ _)
 ·split
  ·exact h.setVol _ ⟨by show 0≤(P.vol x.vol.toNat).gen+1;omega,by push_cast;show(P.vol x.vol.toNat).gen+1≤_;omega⟩
  ·exact h.mono (Nat.le_succ _)
theorem PInv.app{n:Nat}{P:Pm}(h:PInv n P){x:Cmd}(hx:x.Wf):PInv (n+1) (P.app x).1:=by
 unfold Pm.app
 split
 ·exact h.mono (Nat.le_succ _)
 rename_i hg
 have hg:x.good=true:=by simpa using hg
 split
 ·exact h.put hx hg
 split
 ·exact h.mono (Nat.le_succ _)
 split
 ·exact h.byName x
 split
 ·exact h.volume x
 ·exact h.byBlob hg
end Go.Proofs.YtkkbfdencgdbhaaGreatDoor
namespace Go.Proofs.YtkkbfdencgdbhaaGreatDoor
open Go.RowKit
theorem Rep.empty:Rep Ct.empty Pm.empty:=⟨⟨fun b=>Iff.rfl,List.nodup_nil⟩,fun n id=>⟨fun h=>(by cases h),fun⟨b,h,_⟩=>(by cases h)⟩,rfl⟩
section
variable{rows:List BR}{L:List Bl}{N:List (ByteArray×Nat)}{r:BR}{b:Bl}{dv:Value}
theorem RepR.upd(h:RepR rows L)(hi:(rows.map BR.g).Nodup)(hr:r∈rows)(hid:b.id=r.b.id):RepR (rows.map fun q=>if q.g=r.g then⟨b,r.g,dv⟩else q) (pset L b):=by
 constructor
 ·intro x
  rw[mem_pset,←h.mem x]
  constructor
  ·intro hx
   obtain⟨q',hq',rfl⟩:=List.mem_map.1 hx
   obtain⟨q,hq,rfl⟩:=List.mem_map.1 hq'
   by_cases e:q.g=r.g
   ·rw[if_pos e];exact .inl rfl
   ·rw[if_neg e]
    refine .inr ⟨List.mem_map.2 ⟨q,hq,rfl⟩,fun e'=>e ?_⟩
    have:=nodup_eq (f:=fun r:BR=>r.b.id) h.idn hq hr (by rw[←hid];exact e')
    rw[this]
  ·rintro(rfl|⟨hx,hne⟩)
   ·exact List.mem_map.2 ⟨⟨x,r.g,dv⟩,List.mem_map.2 ⟨r,hr,by rw[if_pos rfl]⟩,rfl⟩
   ·obtain⟨q,hq,rfl⟩:=List.mem_map.1 hx
    refine List.mem_map.2 ⟨q,List.mem_map.2 ⟨q,hq,by rw[if_neg (fun e=>hne (by rw[hid,nodup_eq hi hq hr e]))]⟩,rfl⟩
 ·have e:(rows.map fun q=>if q.g=r.g then(⟨b,r.g,dv⟩:BR)else q).map (fun r=>r.b.id)=rows.map fun r=>r.b.id:=by
   rw[List.map_map]
   refine List.map_congr_left fun q hq=>?_
   simp only[Function.comp]
   by_cases e:q.g=r.g
   ·rw[if_pos e,nodup_eq hi hq hr e];exact hid
   ·rw[if_neg e]
  rw[e];exact h.idn
theorem RepR.add(h:RepR rows L)(g:Nat):RepR (⟨b,g,dv⟩::rows.filter fun r=>decide (r.b.id≠b.id)) (pset L b):=by
 constructor
 ·intro x
  rw[mem_pset,←h.mem x,List.map_cons,List.mem_cons]
  constructor
  ·rintro(rfl|hx)
   ·exact .inl rfl
   ·obtain⟨q,hq,rfl⟩:=List.mem_map.1 hx
    obtain⟨h1,h2⟩:=List.mem_filter.1 hq
    exact .inr ⟨List.mem_map.2 ⟨q,h1,rfl⟩,by simpa using h2⟩
  ·rintro(rfl|⟨hx,hne⟩)
   ·exact .inl rfl
   ·obtain⟨q,hq,rfl⟩:=List.mem_map.1 hx
    exact .inr (List.mem_map.2 ⟨q,List.mem_filter.2 ⟨hq,by simpa using hne⟩,rfl⟩)
 ·rw[List.map_cons,List.nodup_cons]
  refine⟨fun hm=>?_,h.idn.sublist ((List.filter_sublist).map _)⟩
  obtain⟨q,hq,e⟩:=List.mem_map.1 hm
  have:q.b.id≠b.id:=by simpa using(List.mem_filter.1 hq).2
  exact this e
theorem RepR.del(h:RepR rows L)(id:Nat):RepR (rows.filter fun r=>decide (r.b.id≠id)) (L.filter fun b=>decide (b.id≠id)):=by
 constructor
 ·intro x
  rw[List.mem_filter,←h.mem x]
  constructor
  ·intro hx
   obtain⟨q,hq,rfl⟩:=List.mem_map.1 hx
   obtain⟨h1,h2⟩:=List.mem_filter.1 hq
   exact⟨List.mem_map.2 ⟨q,h1,rfl⟩,h2⟩
  ·rintro⟨hx,hne⟩
   obtain⟨q,hq,rfl⟩:=List.mem_map.1 hx
   exact List.mem_map.2 ⟨q,List.mem_filter.2 ⟨hq,hne⟩,rfl⟩
 ·exact h.idn.sublist ((List.filter_sublist).map _)
theorem RepN.same{n:Nat}{P:Pm}(h:RepN N P.L)(hi:PInv n P){b0:Bl}(hb0:b0∈P.L)(hid:b.id=b0.id)(hn:b.name=b0.name)(hd:b.dead=b0.dead):RepN N (pset P.L b):=by
 intro m id
 rw[h m id]
 constructor
 ·rintro⟨c,h1,h2,h3,h4⟩
  by_cases e:c.id=b.id
  ·have:=id_inj hi.asc h1 hb0 (by rw[e,hid])
   subst this
   exact⟨b,mem_pset.2 (.inl rfl),by rw[hd,h2],by rw[hn,h3],by rw[hid,h4]⟩
  ·exact⟨c,mem_pset.2 (.inr ⟨h1,e⟩),h2,h3,h4⟩
 ·rintro⟨c,h1,h2,h3,h4⟩
  rcases mem_pset.1 h1 with rfl|⟨h5,_⟩
  ·exact⟨b0,hb0,by rw[←hd,h2],by rw[←hn,h3],by rw[←hid,h4]⟩
  ·exact⟨c,h5,h2,h3,h4⟩
theorem RepN.dead{n:Nat}{P:Pm}(h:RepN N P.L)(hi:PInv n P){b0:Bl}{m:ByteArray}(hb:P.named m=some b0):RepN (ldel m N) (pset P.L { b0 with dead:=true }):=by
 obtain⟨b1,b2,b3⟩:=find_live hi hb
 intro k id
 have e1:(k,id)∈ldel m N↔(k,id)∈N∧k≠m:=by unfold ldel;rw[List.mem_filter];simp
 rw[e1,h k id]
 constructor
 ·rintro⟨⟨c,h1,h2,h3,h4⟩,hne⟩
  refine⟨c,mem_pset.2 (.inr ⟨h1,fun e=>hne ?_⟩),h2,h3,h4⟩
  rw[←h3,id_inj hi.asc h1 b1 e,b3]
 ·rintro⟨c,h1,h2,h3,h4⟩
  rcases mem_pset.1 h1 with rfl|⟨h5,h6⟩
  ·cases h2
  ·refine⟨⟨c,h5,h2,h3,h4⟩,fun e=>h6 ?_⟩
   exact hi.uniq c h5 b0 b1 h2 b2 (by rw[h3,e,b3])
theorem RepN.add(h:RepN N L)(hd:b.dead=false)(hl:∀c∈L,c.dead=false→c.name≠b.name)(hid:∀c∈L,c.id≠b.id):RepN ((b.name,b.id)::ldel b.name N) (pset L b):=by
 intro k id
 have e1:(k,id)∈ldel b.name N↔(k,id)∈N∧k≠b.name:=by unfold ldel;rw[List.mem_filter];simp
 rw[List.mem_cons,e1,h k id]
 constructor
 ·rintro(e|⟨⟨c,h1,h2,h3,h4⟩,hne⟩)
  ·injection e with e1 e2
   exact⟨b,mem_pset.2 (.inl rfl),hd,e1.symm,e2.symm⟩
  ·exact⟨c,mem_pset.2 (.inr ⟨h1,hid c h1⟩),h2,h3,h4⟩
 ·rintro⟨c,h1,h2,h3,h4⟩
  rcases mem_pset.1 h1 with rfl|⟨h5,h6⟩
  ·exact .inl (by rw[h3,h4])
  ·exact .inr ⟨⟨c,h5,h2,h3,h4⟩,fun e=>hl c h5 h2 (by rw[h3,e])⟩
theorem RepN.drop{n:Nat}{P:Pm}(h:RepN N P.L)(hi:PInv n P){b0:Bl}(hb0:b0∈P.L)(hd:b0.dead=true):RepN N (P.L.filter fun b=>decide (b.id≠b0.id)):=by
 intro k id
 rw[h k id]
 constructor
 ·rintro⟨c,h1,h2,h3,h4⟩
  refine⟨c,List.mem_filter.2 ⟨h1,?_⟩,h2,h3,h4⟩
  simp only[ne_eq,decide_not,Bool.not_eq_eq_eq_not,Bool.not_true,decide_eq_false_iff_not]
  intro e
  rw[id_inj hi.asc h1 hb0 e,hd]at h2
  cases h2
 ·rintro⟨c,h1,h2,h3,h4⟩
  exact⟨c,(List.mem_filter.1 h1).1,h2,h3,h4⟩
theorem ldel_ldel(m:ByteArray)(N:List (ByteArray×Nat)):ldel m (ldel m N)=ldel m N:=by
 unfold ldel
 rw[List.filter_filter]
 refine List.filter_congr fun p _=>?_
 simp
end
section
variable{C:Ct}{P:Pm}{n:Nat}
theorem Rep.find(h:Rep C P)(hi:PInv n P)(id:Nat):P.find id=(C.find id).map BR.b:=by
 cases hc:C.find id with
 | none =>
  rw[Option.map_none,pfind_none]
  intro b hb e
  obtain⟨r,hr,rfl⟩:=List.mem_map.1 ((h.rows.mem b).2 hb)
  unfold Ct.find at hc
  have:=List.find?_eq_none.1 hc r hr
  simp[e]at this
 | some r =>
  obtain⟨h1,h2⟩:=find_mem hc
  exact(pfind_some hi.asc).2 ⟨(h.rows.mem _).1 (List.mem_map.2 ⟨r,h1,rfl⟩),h2⟩
theorem Rep.named{w:World}{B:Nat→Prop}{c mb mn:Nat}(hC:CtAt w B c mb mn C)(h:Rep C P)(hi:PInv n P)(m:ByteArray):lget m C.names=(P.named m).map Bl.id:=by
 cases hb:P.named m with
 | none =>
  rw[Option.map_none,lget_none]
  intro p hp e
  obtain⟨b,h1,h2,h3,_⟩:=(h.names p.1 p.2).1 hp
  exact pnamed_none.1 hb b h1 h2 (by rw[h3,e])
 | some b =>
  obtain⟨b1,b2,b3⟩:=find_live hi hb
  exact(lget_some hC.nm.nodup).2 ((h.names m b.id).2 ⟨b,b1,b2,b3,rfl⟩)
theorem Rep.upd{w:World}{B:Nat→Prop}{c mb mn:Nat}(hC:CtAt w B c mb mn C)(h:Rep C P)(hi:PInv n P){r:BR}(hr:r∈C.rows){b:Bl}{dv:Value}(hid:b.id=r.b.id)(hn:b.name=r.b.name)(hd:b.dead=r.b.dead):Rep (C.upd r.g b dv) (P.set b) :=
 ⟨h.rows.upd hC.inj hr hid,h.names.same hi ((h.rows.mem _).1 (List.mem_map.2 ⟨r,hr,rfl⟩)) hid hn hd,h.vols⟩
end
end Go.Proofs.YtkkbfdencgdbhaaGreatDoor
namespace Go.Proofs.YtkkbfdencgdbhaaGreatDoor
open Go.RowKit Go.MapKept Go.Sort Go.Shelf
section
variable{P:Program}{k:TypeId}{ν : Type}{vv : ν → Value}{w:World}{b:Nat}{L:List (ByteArray × ν)}
theorem own_of_mapN(h:MapAt strWay vv w b L)(hk:P.underlying k=some .string)(hsz:L.length≤maxLen)(hkeys:∀p∈L,p.1.size≤maxLen) :
 ∃D:DataW Unit,w.ownsMap P k (fun _=>some (.nil,[])) b L.length D∧(strKeys D).Perm (L.map (·.1.data.toList))∧Maps.size D=L.length:=by
 obtain⟨es,clk,hb,hs,hp⟩:=h
 have hl:es.size=L.length:=by have:=hp.length_eq;simpa using this
 have hkey:∀x∈es.toList,∃s:ByteArray,x.key=.string s∧s.size≤maxLen:=by
  intro x hx
  have:=hp.mem_iff.1 (List.mem_map.2 ⟨x,hx,rfl⟩)
  obtain⟨p,hpm,e⟩:=List.mem_map.1 this
  exact⟨p.1,(congrArg Prod.fst e).symm,hkeys p hpm⟩
 have hrd:∀x∈es.toList,∃s:ByteArray,x.key=.string s∧WideElems.rd (H:=Unit) P k (fun _=>some (.nil,[])) x=some (.string s.data.toList,.nil):=by
  intro x hx
  obtain⟨s,e,hsz⟩:=hkey x hx
  refine⟨s,e,?_⟩
  unfold WideElems.rd
  rw[e,WideMaps.keyOf_string_mk hk hsz]
  rfl
 refine⟨_,⟨es,clk,hb,⟨by omega,hs,fun x hx=>?_⟩,by omega,rfl⟩,?_,?_⟩
 ·obtain⟨s,_,hr⟩:=hrd x hx
  exact⟨_,hr⟩
 ·unfold strKeys
  refine((WideShapes.sorted_perm _).map _).trans ?_
  rw[List.map_map]
  have e1:es.toList.map ((fun p=>strOf p.1) ∘ WideElems.rg (H:=Unit) P k fun _=>some (.nil,[]))=(es.toList.map fun e=>(e.key,e.val)).map fun q=>(match q.1 with | .string s=>s.data.toList|_=>[]):=by
   rw[List.map_map]
   refine List.map_congr_left fun x hx=>?_
   obtain⟨s,e,hr⟩:=hrd x hx
   simp only[Function.comp,WideElems.rg,hr,Option.getD_some,strOf,e]
  rw[e1]
  refine(hp.map _).trans ?_
  rw[List.map_map]
  exact List.Perm.of_eq (List.map_congr_left fun p _=>rfl)
 ·rw[Maps.size_eq,(WideShapes.sorted_perm _).length_eq];simpa using hl
end
theorem nkeys_sorts(m:Nat):AnyZ.SortsIn Tryz.prog Tryz.sorted_ren Fence.wide m :=
 ⟨fun blk off cap ss W hH hblk hsz=>callsIn_wide.2 (Tryz.slices_Sort_string blk off cap ss W hH hblk hsz),
  fun p cap W=>callsIn_wide.2 (Tryz.slices_Sort_string_none p cap W)⟩
theorem nkeys_any(mb:Option Nat)(W:World):Calls Tryz.prog 74 #[.map mb] W fun e w' =>
 e=.returned (.func (.func 123) #[] #[.pointer (some ⟨W.heap.size,0,none⟩)])∧w'=W.alloc (.cells #[.map mb] 132) :=
 (callsIn_wide (n:=5)).1 (AnyZ.keys_in Tryz.keys Fence.wide 5 trivial rfl mb W)
set_option maxHeartbeats 1000000 in
theorem sortedOwnN_any{H:Type}(b nn:Nat)(D0:DataW H)(R:Value→Option (DataW H×List MemPlace))(w:World)(hown:w.ownsMap Tryz.prog 9 R b nn D0)(hmax:Maps.size D0≤maxLen)(hbytes:Maps.size D0 * 16≤140737488355328) :
 Calls Tryz.prog 73 #[.func (.func 123) #[] #[.pointer (some ⟨w.heap.size,0,none⟩)]] (w.alloc (.cells #[.map (some b)] 132)) fun e w'=>∃(v:Value) (ss:List (List UInt8)),e=.returned v∧ss.Perm (strKeys D0) ∧
  w'.ownsRow (w.alloc (.cells #[.map (some b)] 132)).heap.size 9 1 v ss.length ((ss.mergeSort (fun x y=>decide (x≤y))).map encStr)∧(v=.slice none 0 0↔ss=[])∧Below (w.alloc (.cells #[.map (some b)] 132)).heap.size (w.alloc (.cells #[.map (some b)] 132)) w':=by
 have hbl:=hown.lt
 have hseq:SeqGives Fence.wide 2 Tryz.prog 123 #[.pointer (some ⟨w.heap.size,0,none⟩)] encStr (fun ss=>ss.Perm (strKeys D0)) (Maps.size D0) (w.alloc (.cells #[.map (some b)] 132)) :=
  AnyZ.keys_gives (ρ := Tryz.keys_ren) { Tryz.keys with } Fence.wide _ trivial rfl (by omega) w.heap.size b nn D0 _ (by simp) (by simp) (by
   obtain⟨es,clock,hb,Ft,hs,hD⟩:=hown
   exact⟨es,clock,(Below.heap_alloc _ _ b hbl).trans hb,Ft,hs,hD⟩)
 exact(callsIn_wide (n:=5)).1 (AnyZ.sorted_in Tryz.sorted Fence.wide 5 trivial trivial trivial trivial rfl (by omega) (nkeys_sorts _) (enters_of Tryz.func122 (by kernel_rfl) rfl) 123 #[.pointer (some ⟨w.heap.size,0,none⟩)] trivial (enters_of Tryz.func123 (by kernel_rfl) rfl) _ _ hmax hbytes _ hseq)
def leN(a b:ByteArray):Bool:=decide (a.data.toList≤b.data.toList)
theorem merge_names{N:List ByteArray}{ss:List (List UInt8)}(hp:ss.Perm (N.map (·.data.toList))) :
 (ss.mergeSort fun x y=>decide (x≤y)).map encStr=(N.mergeSort leN).map Value.string:=by
 have h1:(ss.mergeSort fun x y=>decide (x≤y)).Pairwise (fun x y=>x≤y):=by
  have:=List.pairwise_mergeSort (le:=fun(x y:List UInt8)=>decide (x≤y)) (fun a b c h h'=>by
   simp only[decide_eq_true_eq]at *;exact List.le_trans h h') (fun a b=>by
   simp only[Bool.or_eq_true,decide_eq_true_eq];exact List.le_total a b) ss
  exact this.imp fun h=>by simpa using h
 have h2:((N.mergeSort leN).map (·.data.toList)).Pairwise (fun(x y:List UInt8)=>x≤y):=by
  have:=List.pairwise_mergeSort (le:=leN) (fun a b c h h'=>by
   simp only[leN,decide_eq_true_eq]at *;exact List.le_trans h h') (fun a b=>by
   simp only[leN,Bool.or_eq_true,decide_eq_true_eq];exact List.le_total _ _) N
  exact List.pairwise_map.2 (this.imp fun h=>by simpa[leN]using h)
 have h3:(ss.mergeSort fun x y=>decide (x≤y))=(N.mergeSort leN).map (·.data.toList) :=
  List.Perm.eq_of_pairwise (le:=fun(x y:List UInt8)=>x≤y) (fun a b _ _ h h'=>List.le_antisymm h h') h1 h2 ((List.mergeSort_perm _ _).trans (hp.trans ((List.mergeSort_perm N leN).map _).symm))
 rw[h3,List.map_map]
 refine List.map_congr_left fun p _=>?_
 simp[encStr]
theorem nsorted_any{L:List (ByteArray×Nat)}(w:World)(m:Nat)(h:MapAt strWay u64V w m L)(hk:∀p∈L,p.1.size≤maxLen)(hl:L.length≤1048576) :
 Calls Tryz.prog 73 #[.func (.func 123) #[] #[.pointer (some ⟨w.heap.size,0,none⟩)]] (w.alloc (.cells #[.map (some m)] 132)) fun e w' =>
  ∃v,e=.returned v∧w'.ownsRow w.heap.size 9 1 v L.length (((L.map (·.1)).mergeSort leN).map Value.string)∧Ext w w':=by
 obtain⟨D,hown,hD,hsz⟩:=own_of_mapN h Tryz.underlying9 (by unfold maxLen;omega) hk
 refine(sortedOwnN_any m _ D _ w hown (by unfold maxLen;omega) (by omega)).mono ?_
 rintro e w' ⟨v,ss,rfl,hss,hrow,_,hb⟩
 have hp:=hss.trans hD
 have hp2:ss.Perm ((L.map (·.1)).map (·.data.toList)):=by rw[List.map_map];exact hp
 rw[merge_names hp2]at hrow
 have hlen:ss.length=L.length:=by rw[hp.length_eq];simp
 rw[hlen]at hrow
 have hE:Ext w w':=((Ext.refl w).alloc _).trans (Ext.of_below hb)
 refine⟨v,rfl,⟨hrow.1,?_⟩,hE⟩
 rcases hrow.2 with hn|⟨g,cap,cur,hv,hbg,rest⟩
 ·exact .inl hn
 ·exact .inr ⟨g,cap,cur,hv,Nat.le_trans (by simp) hbg,rest⟩
theorem Rep.nameKeys{w:World}{B:Nat→Prop}{c mb mn n:Nat}{C:Ct}{P:Pm}(hC:CtAt w B c mb mn C)(h:Rep C P)(hi:PInv n P):(C.names.map (·.1)).Perm ((P.L.filter fun b => !b.dead).map Bl.name):=by
 have n1:(C.names.map (·.1)).Nodup:=hC.nm.nodup
 have n2:((P.L.filter fun b => !b.dead).map Bl.name).Nodup:=by
  refine List.pairwise_map.2 ?_
  refine(hi.asc.filter (fun b => !b.dead)).imp_of_mem ?_
  intro a b ha hb hab e
  obtain⟨a1,a2⟩:=List.mem_filter.1 ha
  obtain⟨b1,b2⟩:=List.mem_filter.1 hb
  have:=hi.uniq a a1 b b1 (by simpa using a2) (by simpa using b2) e
  omega
 refine(List.perm_ext_iff_of_nodup n1 n2).2 fun m=>?_
 constructor
 ·intro hm
  obtain⟨p,hp,rfl⟩:=List.mem_map.1 hm
  obtain⟨b,h1,h2,h3,_⟩:=(h.names p.1 p.2).1 hp
  exact List.mem_map.2 ⟨b,List.mem_filter.2 ⟨h1,by rw[h2];rfl⟩,h3⟩
 ·intro hm
  obtain⟨b,hb,rfl⟩:=List.mem_map.1 hm
  obtain⟨h1,h2⟩:=List.mem_filter.1 hb
  exact List.mem_map.2 ⟨(b.name,b.id),(h.names _ _).2 ⟨b,h1,by simpa using h2,rfl,rfl⟩,rfl⟩
theorem namesL_perm{l:List ByteArray}{L:List Bl}(h:l.Perm ((L.filter fun b => !b.dead).map Bl.name)):l.mergeSort leN=namesL L:=by
 have tr:∀a b c:ByteArray,leN a b=true→leN b c=true→leN a c=true:=fun a b c h h'=>by
  simp only[leN,decide_eq_true_eq]at *;exact List.le_trans h h'
 have tot:∀a b:ByteArray,(leN a b||leN b a)=true:=fun a b=>by simp only[leN,Bool.or_eq_true,decide_eq_true_eq];exact List.le_total _ _
 have e:namesL L=((L.filter fun b => !b.dead).map Bl.name).mergeSort leN:=rfl
 rw[e]
 refine List.Perm.eq_of_pairwise (le:=fun a b=>leN a b=true) (fun a b _ _ h1 h2=>?_) (List.pairwise_mergeSort tr tot l) (List.pairwise_mergeSort tr tot _) (((List.mergeSort_perm l leN).trans h).trans (List.mergeSort_perm _ leN).symm)
 simp only[leN,decide_eq_true_eq]at h1 h2
 have:=List.le_antisymm h1 h2
 exact WideShapes.bytes_inj this
end Go.Proofs.YtkkbfdencgdbhaaGreatDoor
