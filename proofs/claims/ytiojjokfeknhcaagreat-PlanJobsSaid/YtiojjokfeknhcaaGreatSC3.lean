/-
  Part 3 of what the law leans on.
-/
import Derived.Test.YtiojjokfeknhcaaGreatSC1
import Derived.Test.YtiojjokfeknhcaaGreatSC2
import Derived.Deep.LoopGhost
import Derived.Deep.RegionWith
namespace Go.Proofs.YtiojjokfeknhcaaGreat
set_option maxRecDepth 100000
set_option maxHeartbeats 8000000
set_option linter.unusedVariables false
set_option linter.unusedSimpArgs false
set_option linter.unusedSectionVars false
open _root_.Go.Proofs.Tryz
open Go.RowKit
structure Pm where
 L:List Bl
 vols:List Vl
structure Rs where
 err:Int
 blob:Nat
 size:Int
 sum:Nat
 names:List ByteArray
def Rs.er(e:Int):Rs:=⟨e,0,0,0,[]⟩
def Pm.empty:Pm:=⟨[],List.replicate 12 Vl.zero⟩
def Pm.find(P:Pm)(id:Nat):Option Bl:=P.L.find? fun b=>decide (b.id=id)
def liveB(n:ByteArray)(b:Bl):Bool := !b.dead&&decide (b.name=n)
def Pm.named(P:Pm)(n:ByteArray):Option Bl:=P.L.find? (liveB n)
def pset(L:List Bl)(x:Bl):List Bl:=L.filter (fun b=>decide (b.id<x.id))++x::L.filter (fun b=>decide (x.id<b.id))
def Pm.set(P:Pm)(x:Bl):Pm := { P with L:=pset P.L x }
def Pm.drop(P:Pm)(id:Nat):Pm := { P with L:=P.L.filter fun b=>decide (b.id≠id) }
def onV(v:Int)(b:Bl):Bool:=let x:=if v % 2=1 then b.b else b.a;x.there&&decide (x.vol=v)
def Pm.onVol(P:Pm)(v:Int):List Bl:=P.L.filter (onV v)
def qQE(l:List Bl):Int:=(l.map Bl.pins).foldr (· + ·) 0
def Pm.vol(P:Pm)(v:Nat):Vl:=P.vols.getD v Vl.zero
def Pm.setVol(P:Pm)(v:Nat)(x:Vl):Pm := { P with vols:=P.vols.set v x }
def qJo(x:Cmd):Bl:=⟨x.blob,x.name,x.size,x.sum,x.disks,Cp.none,Cp.none,0,false⟩
def Pm.put(P:Pm)(x:Cmd):Pm×Int :=
 if x.name=ByteArray.empty∨x.blob=0∨x.disks=[]then(P,1)
 else if(P.find x.blob).isSome then(P,6)
 else((match P.named x.name with|some b=>P.set { b with dead:=true } | none=>P).set (qJo x),0)
def Pm.byName(P:Pm)(x:Cmd):Pm×Rs :=
 match P.named x.name with
 | none=>(P,Rs.er 5)
 | some b=>(if x.kind=2 then P.set { b with pins:=b.pins+1 } else if x.kind=3 then P.set { b with dead:=true } else P,⟨0,b.id,b.size,b.sum,[]⟩)
def qJp(b:Bl)(pool:Int):Cp:=if pool=1 then b.b else b.a
def qXj(b:Bl)(pool:Int)(x:Cp):Bl:=if pool=1 then { b with b:=x } else { b with a:=x }
def qZr(closed:Bool)(b:Bl)(x:Cmd):Bl×Int :=
 if x.kind=6 then(if b.pins=0 then(b,16)else({ b with pins:=b.pins - 1 },0))
 else if x.kind=7 then(if x.disks=[]then(b,1)else if b.disks=[]then(b,16)else({ b with disks:=x.disks },0))
 else if x.kind=8 then(if closed then(b,16)else if(qJp b (x.vol % 2)).there&&decide ((qJp b (x.vol % 2)).vol=x.vol)then(b,6)else(qXj b (x.vol % 2) ⟨true,x.vol,x.at_⟩,0))
 else if x.kind=9 then(if !b.a.there || !b.b.there||decide (b.disks=[])then(b,16)else({ b with disks:=[] },0))
 else if !(qJp b x.pool).there||decide (b.disks=[]) && !(qJp b (1 - x.pool)).there then(b,16)else(qXj b x.pool Cp.none,0)
def Pm.byBlob(P:Pm)(x:Cmd):Pm×Int :=
 match P.find x.blob with
 | none=>(P,5)
 | some b =>
  if x.kind=10 then(if !b.dead||decide (0<b.pins)then(P,16)else(P.drop b.id,0))
  else if(qZr (P.vol x.vol.toNat).closed b x).2=0 then(P.set (qZr (P.vol x.vol.toNat).closed b x).1,0)else(P,(qZr (P.vol x.vol.toNat).closed b x).2)
def Pm.volume(P:Pm)(x:Cmd):Pm×Int :=
 if x.kind=11 then(P.setVol x.vol.toNat { P.vol x.vol.toNat with closed:=true },0)
 else if x.kind=12 then(if P.onVol x.vol=[]then(P.setVol x.vol.toNat { P.vol x.vol.toNat with closed:=true,erase:=true },0)else(P,10))
 else(if(P.vol x.vol.toNat).erase then(P.setVol x.vol.toNat ⟨false,false,(P.vol x.vol.toNat).gen+1⟩,0)else(P,16))
def qZz(L:List Bl):List ByteArray:=((L.filter fun b => !b.dead).map Bl.name).mergeSort fun a b=>decide (a.data.toList≤b.data.toList)
def rs1(r:Pm×Int):Pm×Rs:=(r.1,Rs.er r.2)
def Pm.app(P:Pm)(x:Cmd):Pm×Rs :=
 if x.good=false then(P,Rs.er 3)
 else if x.kind=1 then rs1 (P.put x)
 else if x.kind=4 then(P,⟨0,0,0,0,qZz P.L⟩)
 else if x.kind<6 then P.byName x
 else if 11≤x.kind∧x.kind≤13 then rs1 (P.volume x)
 else rs1 (P.byBlob x)
structure BlOk (n:Nat) (b:Bl):Prop where
 id:b.id≠0∧b.id<18446744073709551616
 name:(b.dead=false→b.name≠ByteArray.empty)∧b.name.size≤32
 size:0≤b.size∧b.size≤4000
 sum:b.sum<4294967296
 rises:qZE b.disks=true
 ca:b.a=Cp.none∨b.a.there=true∧b.a.vol % 2=0∧0≤b.a.vol∧b.a.vol≤11∧0≤b.a.at_∧b.a.at_≤1073741824
 cb:b.b=Cp.none∨b.b.there=true∧b.b.vol % 2=1∧0≤b.b.vol∧b.b.vol≤11∧0≤b.b.at_∧b.b.at_≤1073741824
 pins:0≤b.pins∧b.pins≤n
structure PInv (n:Nat) (P:Pm):Prop where
 asc:P.L.Pairwise fun a b=>a.id<b.id
 bl:∀b∈P.L,BlOk n b
 uniq:∀b∈P.L,∀b'∈P.L,b.dead=false→b'.dead=false→b.name=b'.name→b.id=b'.id
 vlen:P.vols.length=12
 gen:∀v∈P.vols,0≤v.gen∧v.gen≤n
 len:P.L.length≤n
structure RepR (rows:List BR) (L:List Bl):Prop where
 mem:∀b,b∈rows.map BR.b↔b∈L
 idn:(rows.map fun r=>r.b.id).Nodup
def RepN(N:List (ByteArray×Nat))(L:List Bl):Prop:=∀n id,(n,id)∈N↔∃b∈L,b.dead=false∧b.name=n∧b.id=id
structure Rep (C:Ct) (P:Pm):Prop where
 rows:RepR C.rows P.L
 names:RepN C.names P.L
 vols:C.vols=P.vols
theorem id_inj{L:List Bl}(h:L.Pairwise fun a b=>a.id<b.id){a b:Bl}(ha:a∈L)(hb:b∈L)(e:a.id=b.id):a=b:=by
 have hn:(L.map Bl.id).Nodup:=List.pairwise_map.2 (h.imp fun {x y} h=>by omega);exact qZ3 (f:=Bl.id) hn ha hb e
theorem qZT{P:Pm}(h:P.L.Pairwise fun a b=>a.id<b.id){id:Nat}{b:Bl} : P.find id=some b↔b∈P.L∧b.id=id:=by
 unfold Pm.find
 constructor
 ·intro h';exact⟨List.mem_of_find?_eq_some h',by simpa using List.find?_some h'⟩
 ·rintro⟨h1,h2⟩
  cases hf:P.L.find? fun b=>decide (b.id=id)with
  | none=>exact absurd h2 (by simpa using List.find?_eq_none.1 hf b h1)
  | some c =>
   have c1:=List.mem_of_find?_eq_some hf;have c2:c.id=id:=by simpa using List.find?_some hf
   rw[id_inj h c1 h1 (by rw[c2,h2])]
theorem qXF{P:Pm}{id:Nat} : P.find id=none↔∀b∈P.L,b.id≠id:=by
 unfold Pm.find;rw[List.find?_eq_none];simp
theorem qZX{n:ByteArray}{b:Bl} : liveB n b=true↔b.dead=false∧b.name=n:=by
 unfold liveB;rw[Bool.and_eq_true];simp
theorem pnamed_some{m:Nat}{P:Pm}(h:PInv m P){n:ByteArray}{b:Bl} : P.named n=some b↔b∈P.L∧b.dead=false∧b.name=n:=by
 unfold Pm.named
 constructor
 ·intro h';exact⟨List.mem_of_find?_eq_some h',qZX.1 (List.find?_some h')⟩
 ·rintro⟨h1,h2,h3⟩
  cases hf:P.L.find? (liveB n)with
  | none=>exact absurd (qZX.2 ⟨h2,h3⟩) (by simpa using List.find?_eq_none.1 hf b h1)
  | some c =>
   have c1:=List.mem_of_find?_eq_some hf;obtain⟨c2,c3⟩:=qZX.1 (List.find?_some hf);rw[id_inj h.asc c1 h1 (h.uniq c c1 b h1 c2 h2 (by rw[c3,h3]))]
theorem qXL{P:Pm}{n:ByteArray} : P.named n=none↔∀b∈P.L,b.dead=false→b.name≠n:=by
 unfold Pm.named;rw[List.find?_eq_none]
 constructor
 ·intro h b hb h1 h2;exact h b hb (qZX.2 ⟨h1,h2⟩)
 ·intro h b hb h';obtain⟨h1,h2⟩:=qZX.1 h';exact h b hb h1 h2
theorem qQT{L:List Bl}{x b:Bl} : b∈pset L x↔b=x∨b∈L∧b.id≠x.id:=by
 unfold pset;simp only[List.mem_append,List.mem_cons,List.mem_filter,decide_eq_true_eq]
 constructor
 ·rintro(⟨h1,h2⟩|rfl|⟨h1,h2⟩)
  ·exact .inr ⟨h1,by omega⟩
  ·exact .inl rfl
  ·exact .inr ⟨h1,by omega⟩
 ·rintro(rfl|⟨h1,h2⟩)
  ·exact .inr (.inl rfl)
  ·rcases Nat.lt_or_gt_of_ne h2 with h3|h3
   ·exact .inl ⟨h1,h3⟩
   ·exact .inr (.inr ⟨h1,h3⟩)
theorem qJz{L:List Bl}(h:L.Pairwise fun a b=>a.id<b.id)(x:Bl):(pset L x).Pairwise fun a b=>a.id<b.id:=by
 unfold pset;rw[List.pairwise_append];refine⟨h.filter _,List.pairwise_cons.2 ⟨fun b hb=>by simpa using(List.mem_filter.1 hb).2,h.filter _⟩,fun a ha b hb=>?_⟩
 have h1:a.id<x.id:=by simpa using(List.mem_filter.1 ha).2
 rcases List.mem_cons.1 hb with rfl|hb
 ·exact h1
 ·have h2:x.id<b.id:=by simpa using(List.mem_filter.1 hb).2
  omega
theorem pset_len{L:List Bl}(_h:L.Pairwise fun a b=>a.id<b.id)(x:Bl):(pset L x).length≤L.length+1:=by
 unfold pset;rw[List.length_append,List.length_cons]
 have:(L.filter fun b=>decide (b.id<x.id)).length+(L.filter fun b=>decide (x.id<b.id)).length≤L.length:=by
  clear _h
  induction L with
  | nil=>simp
  | cons a r ih =>
   rw[List.filter_cons,List.filter_cons];simp only[List.length_cons]
   by_cases h1:a.id<x.id
   ·rw[if_pos (by simpa using h1),if_neg (by simp;omega),List.length_cons];omega
   ·rw[if_neg (by simpa using h1)];split
    ·rw[List.length_cons];omega
    ·omega
 omega
theorem qXM{L:List Bl}(h:L.Pairwise fun a b=>a.id<b.id){x b:Bl}(hb:b∈L)(e:b.id=x.id):(pset L x).length≤L.length:=by
 have h1:(pset L x).map Bl.id ⊆ L.map Bl.id:=fun i hi=>by
  obtain⟨c,hc,rfl⟩:=List.mem_map.1 hi;rcases qQT.1 hc with rfl|⟨h2,_⟩
  ·exact List.mem_map.2 ⟨b,hb,e⟩
  ·exact List.mem_map.2 ⟨c,h2,rfl⟩
 have hn:((pset L x).map Bl.id).Nodup:=List.pairwise_map.2 ((qJz h x).imp fun {a b} h=>by omega)
 have hgen:∀(l l':List Nat),l.Nodup→l ⊆ l'→l.length≤l'.length:=by
  intro l
  induction l with
  | nil=>intro l' _ _;simp
  | cons a r ih =>
   intro l' hn hs;obtain⟨ha,hr⟩:=List.nodup_cons.1 hn;obtain⟨s,t,rfl⟩:=List.append_of_mem (hs (List.mem_cons_self ..))
   have:=ih (s++t) hr (fun y hy=>by
    have h1:=hs (List.mem_cons_of_mem _ hy);have h2:y≠a:=fun e=>ha (e ▸ hy)
    simp only[List.mem_append,List.mem_cons]at h1⊢;rcases h1 with h1|h1|h1
    ·exact .inl h1
    ·exact absurd h1 h2
    ·exact .inr h1)
   simp only[List.length_append,List.length_cons]at this⊢;omega
 simpa using hgen _ _ hn h1
theorem BlOk.mono{n m:Nat}{b:Bl}(h:BlOk n b)(hm:n≤m):BlOk m b := { h with pins:=⟨h.pins.1,by have:=h.pins.2;omega⟩ }
theorem PInv.mono{n m:Nat}{P:Pm}(h:PInv n P)(hm:n≤m):PInv m P where
 asc:=h.asc
 bl:=fun b hb=>(h.bl b hb).mono hm
 uniq:=h.uniq
 vlen:=h.vlen
 gen:=fun v hv=>⟨(h.gen v hv).1,by have:=(h.gen v hv).2;omega⟩
 len:=by have:=h.len;omega
theorem PInv.empty(n:Nat):PInv n Pm.empty where
 asc:=List.Pairwise.nil
 bl:=fun b hb=>by cases hb
 uniq:=fun b hb=>by cases hb
 vlen:=rfl
 gen:=fun v hv=>by
  rw[List.eq_of_mem_replicate hv];exact⟨Int.le_refl _,Int.natCast_nonneg _⟩
 len:=Nat.zero_le _
theorem PInv.set1{n:Nat}{P:Pm}(h:PInv n P){b x:Bl}(hb:b∈P.L)(e:x.id=b.id)(en:x.name=b.name)(ed:x.dead=false→b.dead=false)(hx:BlOk (n+1) x):PInv (n+1) (P.set x) where
 asc:=qJz h.asc x
 bl:=fun c hc=>by
  rcases qQT.1 hc with rfl|⟨h1,_⟩
  ·exact hx
  ·exact(h.bl c h1).mono (Nat.le_succ _)
 uniq:=fun c hc c' hc' h1 h2 h3=>by
  rcases qQT.1 hc with rfl|⟨g1,g2⟩ <;> rcases qQT.1 hc' with rfl|⟨g1',g2'⟩
  ·rfl
  ·rw[e];exact h.uniq b hb c' g1' (ed h1) h2 (by rw[←en];exact h3)
  ·rw[e];exact h.uniq c g1 b hb h1 (ed h2) (by rw[←en];exact h3)
  ·exact h.uniq c g1 c' g1' h1 h2 h3
 vlen:=h.vlen
 gen:=(h.mono (Nat.le_succ n)).gen
 len:=by have:=qXM h.asc hb e.symm;have:=h.len;show(pset P.L x).length≤n+1;omega
theorem PInv.drop{n:Nat}{P:Pm}(h:PInv n P)(id:Nat):PInv n (P.drop id) where
 asc:=h.asc.filter _
 bl:=fun c hc=>h.bl c (List.mem_filter.1 hc).1
 uniq:=fun c hc c' hc'=>h.uniq c (List.mem_filter.1 hc).1 c' (List.mem_filter.1 hc').1
 vlen:=h.vlen
 gen:=h.gen
 len:=Nat.le_trans (List.length_filter_le _ _) h.len
theorem PInv.setVol{n:Nat}{P:Pm}(h:PInv n P)(v:Nat){x:Vl}(hx:0≤x.gen∧x.gen≤((n+1:Nat):Int)):PInv (n+1) (P.setVol v x) where
 asc:=h.asc
 bl:=(h.mono (Nat.le_succ n)).bl
 uniq:=h.uniq
 vlen:=by show(P.vols.set v x).length=12;rw[List.length_set];exact h.vlen
 gen:=fun y hy=>by
  rcases List.mem_or_eq_of_mem_set hy with h1|rfl
  ·exact(h.mono (Nat.le_succ n)).gen y h1
  ·exact hx
 len:=by have:=h.len;show P.L.length≤n+1;omega
theorem vol_gen{n:Nat}{P:Pm}(h:PInv n P)(v:Nat):0≤(P.vol v).gen∧(P.vol v).gen≤n:=by
 unfold Pm.vol;rw[List.getD_eq_getElem?_getD]
 by_cases hv:v<P.vols.length
 ·rw[List.getElem?_eq_getElem hv];exact h.gen _ (List.getElem_mem hv)
 ·rw[List.getElem?_eq_none (by omega)];exact⟨Int.le_refl _,Int.natCast_nonneg _⟩
theorem qXc{n:Nat}{P:Pm}(h:PInv n P){m:ByteArray}{b:Bl}(hb:P.named m=some b):b∈P.L∧b.dead=false∧b.name=m:=(pnamed_some h).1 hb
theorem PInv.put{n:Nat}{P:Pm}(h:PInv n P){x:Cmd}(hx:x.Wf)(hg:x.good=true):PInv (n+1) (P.put x).1:=by
 unfold Pm.put;split
 ·exact h.mono (Nat.le_succ _)
 rename_i h1
 split
 ·exact h.mono (Nat.le_succ _)
 rename_i h2
 have hf:P.find x.blob=none:=by cases hh:P.find x.blob <;> simp_all
 have hf':=qXF.1 hf;have hn1:x.name≠ByteArray.empty:=fun e=>h1 (.inl e)
 have hn2:x.blob≠0:=fun e=>h1 (.inr (.inl e))
 have hgd:qZE x.disks=true∧x.name.size≤32∧(0≤x.size∧x.size≤4000):=by
  unfold Cmd.good upB at hg;simp only[Bool.and_eq_true,decide_eq_true_eq]at hg;obtain⟨⟨⟨⟨⟨⟨⟨⟨⟨_,_⟩,h3⟩,_⟩,_⟩,h6⟩,h7⟩,_⟩,_⟩,_⟩:=hg;exact⟨h3,h6,h7⟩
 have hnew:BlOk (n+1) (qJo x):=⟨⟨hn2,hx.blob⟩,⟨fun _=>hn1,hgd.2.1⟩,hgd.2.2,hx.sum,hgd.1,.inl rfl,.inl rfl,⟨Int.le_refl _,Int.natCast_nonneg _⟩⟩
 have hgen:∀Q:Pm,PInv (n+1) Q→(∀b∈Q.L,b.id≠x.blob)→Q.L.length≤n→(∀b∈Q.L,b.dead=false→b.name≠x.name)→PInv (n+1) (Q.set (qJo x)):=by
  intro Q hQ h3 h4 h5;refine⟨qJz hQ.asc _,fun c hc=>?_,fun c hc c' hc' g1 g2 g3=>?_,hQ.vlen,hQ.gen,by have:=pset_len hQ.asc (qJo x);show(pset Q.L (qJo x)).length≤n+1;omega⟩
  ·rcases qQT.1 hc with rfl|⟨h6,_⟩
   ·exact hnew
   ·exact hQ.bl c h6
  ·rcases qQT.1 hc with rfl|⟨g4,_⟩ <;> rcases qQT.1 hc' with rfl|⟨g5,_⟩
   ·rfl
   ·exact absurd g3.symm (h5 c' g5 g2)
   ·exact absurd g3 (h5 c g4 g1)
   ·exact hQ.uniq c g4 c' g5 g1 g2 g3
 cases hb:P.named x.name with
 | none =>
  exact hgen P (h.mono (Nat.le_succ _)) hf' h.len (qXL.1 hb)
 | some b =>
  obtain⟨b1,b2,b3⟩:=qXc h hb;have hbo:=h.bl b b1;refine hgen _ (h.set1 (x := { b with dead:=true }) b1 rfl rfl (fun e=>by cases e) ({ hbo.mono (Nat.le_succ n)with name:=⟨fun e=>(by cases e),hbo.name.2⟩ })) ?_ ?_ ?_
  ·intro c hc;rcases qQT.1 hc with rfl|⟨h6,_⟩
   ·exact hf' b b1
   ·exact hf' c h6
  ·exact Nat.le_trans (qXM h.asc b1 rfl) h.len
  ·intro c hc g1 g2;rcases qQT.1 hc with rfl|⟨h6,h7⟩
   ·cases g1
   ·exact h7 (h.uniq c h6 b b1 g1 b2 (by rw[g2,b3]))
theorem PInv.byName{n:Nat}{P:Pm}(h:PInv n P)(x:Cmd):PInv (n+1) (P.byName x).1:=by
 unfold Pm.byName;cases hb:P.named x.name with
 | none=>exact h.mono (Nat.le_succ _)
 | some b =>
  obtain⟨b1,b2,b3⟩:=qXc h hb;have hbo:=h.bl b b1;have hbm:=hbo.mono (Nat.le_succ n)
  show PInv (n+1) (if x.kind=2 then P.set { b with pins:=b.pins+1 } else if x.kind=3 then P.set { b with dead:=true } else P)
  split
  ·exact h.set1 (x := { b with pins:=b.pins+1 }) b1 rfl rfl id { hbm with pins:=⟨by have:=hbo.pins.1;show 0≤b.pins+1;omega,by have:=hbo.pins.2;show b.pins+1≤_;push_cast;omega⟩ }
  ·split
   ·exact h.set1 (x := { b with dead:=true }) b1 rfl rfl (fun e=>by cases e) { hbm with name:=⟨fun e=>(by cases e),hbm.name.2⟩ }
   ·exact h.mono (Nat.le_succ _)
theorem chgB_keeps(cl:Bool)(b:Bl)(x:Cmd):(qZr cl b x).1.id=b.id∧(qZr cl b x).1.name=b.name∧(qZr cl b x).1.dead=b.dead:=by
 unfold qZr qXj
 repeat' split
 all_goals exact⟨rfl,rfl,rfl⟩
theorem chgB_ok{n:Nat}{cl:Bool}{b:Bl}{x:Cmd}(h:BlOk n b)(hg:x.good=true):BlOk (n+1) (qZr cl b x).1:=by
 have hbm:=h.mono (Nat.le_succ n)
 have hgd:qZE x.disks=true∧(0≤x.vol∧x.vol≤11)∧(0≤x.at_∧x.at_≤1073741824):=by
  unfold Cmd.good upB at hg;simp only[Bool.and_eq_true,decide_eq_true_eq]at hg;obtain⟨⟨⟨⟨⟨⟨⟨⟨⟨_,_⟩,h3⟩,_⟩,_⟩,_⟩,_⟩,_⟩,h9⟩,h10⟩:=hg;exact⟨h3,h9,h10⟩
 have hp:=h.pins;have hp':=hbm.pins;unfold qZr;split
 ·split
  ·exact hbm
  ·rename_i h1
   exact { hbm with pins:=⟨by show 0≤b.pins - 1;omega,by show b.pins - 1≤_;omega⟩ }
 split
 ·split
  ·exact hbm
  ·split
   ·exact hbm
   ·exact { hbm with rises:=hgd.1 }
 split
 ·split
  ·exact hbm
  ·split
   ·exact hbm
   ·unfold qXj;split
    ·rename_i h1
     exact { hbm with cb:=.inr ⟨rfl,h1,hgd.2.1.1,hgd.2.1.2,hgd.2.2.1,hgd.2.2.2⟩ }
    ·rename_i h1
     exact { hbm with ca:=.inr ⟨rfl,by show x.vol % 2=0;omega,hgd.2.1.1,hgd.2.1.2,hgd.2.2.1,hgd.2.2.2⟩ }
 split
 ·split
  ·exact hbm
  ·exact { hbm with rises:=rfl }
 split
 ·exact hbm
 ·unfold qXj;split
  ·exact { hbm with cb:=.inl rfl }
  ·exact { hbm with ca:=.inl rfl }
theorem PInv.byBlob{n:Nat}{P:Pm}(h:PInv n P){x:Cmd}(hg:x.good=true):PInv (n+1) (P.byBlob x).1:=by
 unfold Pm.byBlob;cases hb:P.find x.blob with
 | none=>exact h.mono (Nat.le_succ _)
 | some b =>
  obtain⟨b1,b2⟩:=(qZT h.asc).1 hb
  show PInv (n+1) (if x.kind=10 then(if !b.dead||decide (0<b.pins)then(P,16)else(P.drop b.id,0))
   else if(qZr (P.vol x.vol.toNat).closed b x).2=0 then(P.set (qZr (P.vol x.vol.toNat).closed b x).1,0)else(P,(qZr (P.vol x.vol.toNat).closed b x).2)).1
  obtain⟨k1,k2,k3⟩:=chgB_keeps (P.vol x.vol.toNat).closed b x;have hk:=chgB_ok (cl:=(P.vol x.vol.toNat).closed) (h.bl b b1) hg;split
  ·split
   ·exact h.mono (Nat.le_succ _)
   ·exact(h.drop _).mono (Nat.le_succ _)
  ·split
   ·exact h.set1 b1 k1 k2 (fun e=>by rw[←k3];exact e) hk
   ·exact h.mono (Nat.le_succ _)
theorem PInv.volume{n:Nat}{P:Pm}(h:PInv n P)(x:Cmd):PInv (n+1) (P.volume x).1:=by
 have hg:=vol_gen h x.vol.toNat;unfold Pm.volume;split
 ·exact h.setVol _ ⟨hg.1,by push_cast;show(P.vol x.vol.toNat).gen≤_;omega⟩
 split
 ·split
  ·exact h.setVol _ ⟨hg.1,by push_cast;show(P.vol x.vol.toNat).gen≤_;omega⟩
  ·exact h.mono (Nat.le_succ _)
 ·split
  ·exact h.setVol _ ⟨by show 0≤(P.vol x.vol.toNat).gen+1;omega,by push_cast;show(P.vol x.vol.toNat).gen+1≤_;omega⟩
  ·exact h.mono (Nat.le_succ _)
theorem PInv.app{n:Nat}{P:Pm}(h:PInv n P){x:Cmd}(hx:x.Wf):PInv (n+1) (P.app x).1:=by
 unfold Pm.app;split
 ·exact h.mono (Nat.le_succ _)
 rename_i hg
 have hg:x.good=true:=by simpa using hg
 split
 ·exact h.put hx hg
 split
 ·exact h.mono (Nat.le_succ _)
 split
 ·exact h.byName x
 split
 ·exact h.volume x
 ·exact h.byBlob hg
open Go.RowKit
theorem Rep.empty:Rep Ct.empty Pm.empty:=⟨⟨fun b=>Iff.rfl,List.nodup_nil⟩,fun n id=>⟨fun h=>(by cases h),fun⟨b,h,_⟩=>(by cases h)⟩,rfl⟩
section
variable{rows:List BR}{L:List Bl}{N:List (ByteArray×Nat)}{r:BR}{b:Bl}{dv:Value}
theorem RepR.upd(h:RepR rows L)(hi:(rows.map BR.g).Nodup)(hr:r∈rows)(hid:b.id=r.b.id):RepR (rows.map fun q=>if q.g=r.g then⟨b,r.g,dv⟩else q) (pset L b):=by
 constructor
 ·intro x;rw[qQT,←h.mem x]
  constructor
  ·intro hx;obtain⟨q',hq',rfl⟩:=List.mem_map.1 hx;obtain⟨q,hq,rfl⟩:=List.mem_map.1 hq'
   by_cases e:q.g=r.g
   ·rw[if_pos e];exact .inl rfl
   ·rw[if_neg e];refine .inr ⟨List.mem_map.2 ⟨q,hq,rfl⟩,fun e'=>e ?_⟩
    have:=qZ3 (f:=fun r:BR=>r.b.id) h.idn hq hr (by rw[←hid];exact e')
    rw[this]
  ·rintro(rfl|⟨hx,hne⟩)
   ·exact List.mem_map.2 ⟨⟨x,r.g,dv⟩,List.mem_map.2 ⟨r,hr,by rw[if_pos rfl]⟩,rfl⟩
   ·obtain⟨q,hq,rfl⟩:=List.mem_map.1 hx;refine List.mem_map.2 ⟨q,List.mem_map.2 ⟨q,hq,by rw[if_neg (fun e=>hne (by rw[hid,qZ3 hi hq hr e]))]⟩,rfl⟩
 ·have e:(rows.map fun q=>if q.g=r.g then(⟨b,r.g,dv⟩:BR)else q).map (fun r=>r.b.id)=rows.map fun r=>r.b.id:=by
   rw[List.map_map];refine List.map_congr_left fun q hq=>?_
   simp only[Function.comp]
   by_cases e:q.g=r.g
   ·rw[if_pos e,qZ3 hi hq hr e];exact hid
   ·rw[if_neg e]
  rw[e];exact h.idn
theorem RepR.add(h:RepR rows L)(g:Nat):RepR (⟨b,g,dv⟩::rows.filter fun r=>decide (r.b.id≠b.id)) (pset L b):=by
 constructor
 ·intro x;rw[qQT,←h.mem x,List.map_cons,List.mem_cons]
  constructor
  ·rintro(rfl|hx)
   ·exact .inl rfl
   ·obtain⟨q,hq,rfl⟩:=List.mem_map.1 hx;obtain⟨h1,h2⟩:=List.mem_filter.1 hq;exact .inr ⟨List.mem_map.2 ⟨q,h1,rfl⟩,by simpa using h2⟩
  ·rintro(rfl|⟨hx,hne⟩)
   ·exact .inl rfl
   ·obtain⟨q,hq,rfl⟩:=List.mem_map.1 hx;exact .inr (List.mem_map.2 ⟨q,List.mem_filter.2 ⟨hq,by simpa using hne⟩,rfl⟩)
 ·rw[List.map_cons,List.nodup_cons];refine⟨fun hm=>?_,h.idn.sublist ((List.filter_sublist).map _)⟩
  obtain⟨q,hq,e⟩:=List.mem_map.1 hm
  have:q.b.id≠b.id:=by simpa using(List.mem_filter.1 hq).2
  exact this e
theorem RepR.del(h:RepR rows L)(id:Nat):RepR (rows.filter fun r=>decide (r.b.id≠id)) (L.filter fun b=>decide (b.id≠id)):=by
 constructor
 ·intro x;rw[List.mem_filter,←h.mem x]
  constructor
  ·intro hx;obtain⟨q,hq,rfl⟩:=List.mem_map.1 hx;obtain⟨h1,h2⟩:=List.mem_filter.1 hq;exact⟨List.mem_map.2 ⟨q,h1,rfl⟩,h2⟩
  ·rintro⟨hx,hne⟩
   obtain⟨q,hq,rfl⟩:=List.mem_map.1 hx;exact List.mem_map.2 ⟨q,List.mem_filter.2 ⟨hq,hne⟩,rfl⟩
 ·exact h.idn.sublist ((List.filter_sublist).map _)
theorem RepN.same{n:Nat}{P:Pm}(h:RepN N P.L)(hi:PInv n P){b0:Bl}(hb0:b0∈P.L)(hid:b.id=b0.id)(hn:b.name=b0.name)(hd:b.dead=b0.dead):RepN N (pset P.L b):=by
 intro m id;rw[h m id]
 constructor
 ·rintro⟨c,h1,h2,h3,h4⟩
  by_cases e:c.id=b.id
  ·have:=id_inj hi.asc h1 hb0 (by rw[e,hid])
   subst this;exact⟨b,qQT.2 (.inl rfl),by rw[hd,h2],by rw[hn,h3],by rw[hid,h4]⟩
  ·exact⟨c,qQT.2 (.inr ⟨h1,e⟩),h2,h3,h4⟩
 ·rintro⟨c,h1,h2,h3,h4⟩
  rcases qQT.1 h1 with rfl|⟨h5,_⟩
  ·exact⟨b0,hb0,by rw[←hd,h2],by rw[←hn,h3],by rw[←hid,h4]⟩
  ·exact⟨c,h5,h2,h3,h4⟩
theorem RepN.dead{n:Nat}{P:Pm}(h:RepN N P.L)(hi:PInv n P){b0:Bl}{m:ByteArray}(hb:P.named m=some b0):RepN (qX0 m N) (pset P.L { b0 with dead:=true }):=by
 obtain⟨b1,b2,b3⟩:=qXc hi hb;intro k id;have e1:(k,id)∈qX0 m N↔(k,id)∈N∧k≠m:=by unfold qX0;rw[List.mem_filter];simp
 rw[e1,h k id]
 constructor
 ·rintro⟨⟨c,h1,h2,h3,h4⟩,hne⟩
  refine⟨c,qQT.2 (.inr ⟨h1,fun e=>hne ?_⟩),h2,h3,h4⟩
  rw[←h3,id_inj hi.asc h1 b1 e,b3]
 ·rintro⟨c,h1,h2,h3,h4⟩
  rcases qQT.1 h1 with rfl|⟨h5,h6⟩
  ·cases h2
  ·refine⟨⟨c,h5,h2,h3,h4⟩,fun e=>h6 ?_⟩
   exact hi.uniq c h5 b0 b1 h2 b2 (by rw[h3,e,b3])
theorem RepN.add(h:RepN N L)(hd:b.dead=false)(hl:∀c∈L,c.dead=false→c.name≠b.name)(hid:∀c∈L,c.id≠b.id):RepN ((b.name,b.id)::qX0 b.name N) (pset L b):=by
 intro k id;have e1:(k,id)∈qX0 b.name N↔(k,id)∈N∧k≠b.name:=by unfold qX0;rw[List.mem_filter];simp
 rw[List.mem_cons,e1,h k id]
 constructor
 ·rintro(e|⟨⟨c,h1,h2,h3,h4⟩,hne⟩)
  ·injection e with e1 e2;exact⟨b,qQT.2 (.inl rfl),hd,e1.symm,e2.symm⟩
  ·exact⟨c,qQT.2 (.inr ⟨h1,hid c h1⟩),h2,h3,h4⟩
 ·rintro⟨c,h1,h2,h3,h4⟩
  rcases qQT.1 h1 with rfl|⟨h5,h6⟩
  ·exact .inl (by rw[h3,h4])
  ·exact .inr ⟨⟨c,h5,h2,h3,h4⟩,fun e=>hl c h5 h2 (by rw[h3,e])⟩
theorem RepN.drop{n:Nat}{P:Pm}(h:RepN N P.L)(hi:PInv n P){b0:Bl}(hb0:b0∈P.L)(hd:b0.dead=true):RepN N (P.L.filter fun b=>decide (b.id≠b0.id)):=by
 intro k id;rw[h k id]
 constructor
 ·rintro⟨c,h1,h2,h3,h4⟩
  refine⟨c,List.mem_filter.2 ⟨h1,?_⟩,h2,h3,h4⟩
  simp only[ne_eq,decide_not,Bool.not_eq_eq_eq_not,Bool.not_true,decide_eq_false_iff_not];intro e;rw[id_inj hi.asc h1 hb0 e,hd]at h2;cases h2
 ·rintro⟨c,h1,h2,h3,h4⟩
  exact⟨c,(List.mem_filter.1 h1).1,h2,h3,h4⟩
theorem ldel_ldel(m:ByteArray)(N:List (ByteArray×Nat)):qX0 m (qX0 m N)=qX0 m N:=by
 unfold qX0;rw[List.filter_filter];refine List.filter_congr fun p _=>?_
 simp
end
section
variable{C:Ct}{P:Pm}{n:Nat}
theorem Rep.find(h:Rep C P)(hi:PInv n P)(id:Nat):P.find id=(C.find id).map BR.b:=by
 cases hc:C.find id with
 | none =>
  rw[Option.map_none,qXF];intro b hb e;obtain⟨r,hr,rfl⟩:=List.mem_map.1 ((h.rows.mem b).2 hb);unfold Ct.find at hc
  have:=List.find?_eq_none.1 hc r hr
  simp[e]at this
 | some r =>
  obtain⟨h1,h2⟩:=qZJ hc;exact(qZT hi.asc).2 ⟨(h.rows.mem _).1 (List.mem_map.2 ⟨r,h1,rfl⟩),h2⟩
theorem Rep.named{w:World}{B:Nat→Prop}{c mb mn:Nat}(hC:CtAt w B c mb mn C)(h:Rep C P)(hi:PInv n P)(m:ByteArray):lget m C.names=(P.named m).map Bl.id:=by
 cases hb:P.named m with
 | none =>
  rw[Option.map_none,qXu];intro p hp e;obtain⟨b,h1,h2,h3,_⟩:=(h.names p.1 p.2).1 hp;exact qXL.1 hb b h1 h2 (by rw[h3,e])
 | some b =>
  obtain⟨b1,b2,b3⟩:=qXc hi hb;exact(lget_some hC.nm.nodup).2 ((h.names m b.id).2 ⟨b,b1,b2,b3,rfl⟩)
theorem Rep.upd{w:World}{B:Nat→Prop}{c mb mn:Nat}(hC:CtAt w B c mb mn C)(h:Rep C P)(hi:PInv n P){r:BR}(hr:r∈C.rows){b:Bl}{dv:Value}(hid:b.id=r.b.id)(hn:b.name=r.b.name)(hd:b.dead=r.b.dead):Rep (C.upd r.g b dv) (P.set b) :=
 ⟨h.rows.upd hC.inj hr hid,h.names.same hi ((h.rows.mem _).1 (List.mem_map.2 ⟨r,hr,rfl⟩)) hid hn hd,h.vols⟩
end
open Go.RowKit Go.MapKept Go.Sort Go.Shelf
section
variable{P:Program}{k:TypeId}{ν : Type}{vv : ν → Value}{w:World}{b:Nat}{L:List (ByteArray × ν)}
theorem own_of_map(h:qQW qXZ vv w b L)(hk:P.underlying k=some .string)(hsz:L.length≤maxLen)(hkeys:∀p∈L,p.1.size≤maxLen) :
 ∃D:DataW Unit,w.ownsMap P k (fun _=>some (.nil,[])) b L.length D∧(strKeys D).Perm (L.map (·.1.data.toList))∧Maps.size D=L.length:=by
 obtain⟨es,clk,hb,hs,hp⟩:=h;have hl:es.size=L.length:=by have:=hp.length_eq;simpa using this
 have hkey:∀x∈es.toList,∃s:ByteArray,x.key=.string s∧s.size≤maxLen:=by
  intro x hx
  have:=hp.mem_iff.1 (List.mem_map.2 ⟨x,hx,rfl⟩)
  obtain⟨p,hpm,e⟩:=List.mem_map.1 this;exact⟨p.1,(congrArg Prod.fst e).symm,hkeys p hpm⟩
 have hrd:∀x∈es.toList,∃s:ByteArray,x.key=.string s∧WideElems.rd (H:=Unit) P k (fun _=>some (.nil,[])) x=some (.string s.data.toList,.nil):=by
  intro x hx;obtain⟨s,e,hsz⟩:=hkey x hx;refine⟨s,e,?_⟩
  unfold WideElems.rd;rw[e,WideMaps.keyOf_string_mk hk hsz];rfl
 refine⟨_,⟨es,clk,hb,⟨by omega,hs,fun x hx=>?_⟩,by omega,rfl⟩,?_,?_⟩
 ·obtain⟨s,_,hr⟩:=hrd x hx;exact⟨_,hr⟩
 ·unfold strKeys;refine((WideShapes.sorted_perm _).map _).trans ?_
  rw[List.map_map]
  have e1:es.toList.map ((fun p=>strOf p.1) ∘ WideElems.rg (H:=Unit) P k fun _=>some (.nil,[]))=(es.toList.map fun e=>(e.key,e.val)).map fun q=>(match q.1 with | .string s=>s.data.toList|_=>[]):=by
   rw[List.map_map];refine List.map_congr_left fun x hx=>?_
   obtain⟨s,e,hr⟩:=hrd x hx;simp only[Function.comp,WideElems.rg,hr,Option.getD_some,strOf,e]
  rw[e1];refine(hp.map _).trans ?_
  rw[List.map_map];exact List.Perm.of_eq (List.map_congr_left fun p _=>rfl)
 ·rw[Maps.size_eq,(WideShapes.sorted_perm _).length_eq];simpa using hl
end
theorem nkeys_sorts(m:Nat):AnyZ.SortsIn prog Tryz.sorted_ren Fence.wide m :=
 ⟨fun blk off cap ss W hH hblk hsz=>callsIn_wide.2 (Tryz.slices_Sort_string blk off cap ss W hH hblk hsz),
  fun p cap W=>callsIn_wide.2 (Tryz.slices_Sort_string_none p cap W)⟩
theorem nkeys_any(mb:Option Nat)(W:World):Calls prog 41 #[.map mb] W fun e w' =>
 e=.returned (.func (.func 75) #[] #[.pointer (some ⟨W.heap.size,0,none⟩)])∧w'=W.alloc (.cells #[.map mb] 93) :=
 (callsIn_wide (n:=5)).1 (AnyZ.keys_in Tryz.keys Fence.wide 5 trivial rfl mb W)
theorem sortedOwn_any{H:Type}(b nn:Nat)(D0:DataW H)(R:Value→Option (DataW H×List MemPlace))(w:World)(hown:w.ownsMap prog 9 R b nn D0)(hmax:Maps.size D0≤maxLen)(hbytes:Maps.size D0 * 16≤140737488355328) :
 Calls prog 40 #[.func (.func 75) #[] #[.pointer (some ⟨w.heap.size,0,none⟩)]] (w.alloc (.cells #[.map (some b)] 93)) fun e w'=>∃(v:Value) (ss:List (List UInt8)),e=.returned v∧ss.Perm (strKeys D0) ∧
  w'.ownsRow (w.alloc (.cells #[.map (some b)] 93)).heap.size 9 1 v ss.length ((ss.mergeSort (fun x y=>decide (x≤y))).map encStr)∧(v=.slice none 0 0↔ss=[])∧Below (w.alloc (.cells #[.map (some b)] 93)).heap.size (w.alloc (.cells #[.map (some b)] 93)) w':=by
 have hbl:=hown.lt
 have hseq:SeqGives Fence.wide 2 prog 75 #[.pointer (some ⟨w.heap.size,0,none⟩)] encStr (fun ss=>ss.Perm (strKeys D0)) (Maps.size D0) (w.alloc (.cells #[.map (some b)] 93)) :=
  AnyZ.keys_gives (ρ := Tryz.keys_ren) { Tryz.keys with } Fence.wide _ trivial rfl (by omega) w.heap.size b nn D0 _ (by simp) (by simp) (by
   obtain⟨es,clock,hb,Ft,hs,hD⟩:=hown;exact⟨es,clock,(Below.heap_alloc _ _ b hbl).trans hb,Ft,hs,hD⟩)
 exact(callsIn_wide (n:=5)).1 (AnyZ.sorted_in Tryz.sorted Fence.wide 5 trivial trivial trivial trivial rfl (by omega) (nkeys_sorts _) (enters_of func74 (by kernel_rfl) rfl) 75 #[.pointer (some ⟨w.heap.size,0,none⟩)] trivial (enters_of func75 (by kernel_rfl) rfl) _ _ hmax hbytes _ hseq)
def leN(a b:ByteArray):Bool:=decide (a.data.toList≤b.data.toList)
theorem merge_names{N:List ByteArray}{ss:List (List UInt8)}(hp:ss.Perm (N.map (·.data.toList))) :
 (ss.mergeSort fun x y=>decide (x≤y)).map encStr=(N.mergeSort leN).map Value.string:=by
 have h1:(ss.mergeSort fun x y=>decide (x≤y)).Pairwise (fun x y=>x≤y):=by
  have:=List.pairwise_mergeSort (le:=fun(x y:List UInt8)=>decide (x≤y)) (fun a b c h h'=>by
   simp only[decide_eq_true_eq]at *;exact List.le_trans h h') (fun a b=>by
   simp only[Bool.or_eq_true,decide_eq_true_eq];exact List.le_total a b) ss
  exact this.imp fun h=>by simpa using h
 have h2:((N.mergeSort leN).map (·.data.toList)).Pairwise (fun(x y:List UInt8)=>x≤y):=by
  have:=List.pairwise_mergeSort (le:=leN) (fun a b c h h'=>by
   simp only[leN,decide_eq_true_eq]at *;exact List.le_trans h h') (fun a b=>by
   simp only[leN,Bool.or_eq_true,decide_eq_true_eq];exact List.le_total _ _) N
  exact List.pairwise_map.2 (this.imp fun h=>by simpa[leN]using h)
 have h3:(ss.mergeSort fun x y=>decide (x≤y))=(N.mergeSort leN).map (·.data.toList) :=
  List.Perm.eq_of_pairwise (le:=fun(x y:List UInt8)=>x≤y) (fun a b _ _ h h'=>List.le_antisymm h h') h1 h2 ((List.mergeSort_perm _ _).trans (hp.trans ((List.mergeSort_perm N leN).map _).symm))
 rw[h3,List.map_map];refine List.map_congr_left fun p _=>?_
 simp[encStr]
theorem nsorted_any{L:List (ByteArray×Nat)}(w:World)(m:Nat)(h:qQW qXZ u64V w m L)(hk:∀p∈L,p.1.size≤maxLen)(hl:L.length≤1048576) :
 Calls prog 40 #[.func (.func 75) #[] #[.pointer (some ⟨w.heap.size,0,none⟩)]] (w.alloc (.cells #[.map (some m)] 93)) fun e w' =>
  ∃v,e=.returned v∧w'.ownsRow w.heap.size 9 1 v L.length (((L.map (·.1)).mergeSort leN).map Value.string)∧Ext w w':=by
 obtain⟨D,hown,hD,hsz⟩:=own_of_map h underlying9 (by unfold maxLen;omega) hk;refine(sortedOwn_any m _ D _ w hown (by unfold maxLen;omega) (by omega)).mono ?_
 rintro e w' ⟨v,ss,rfl,hss,hrow,_,hb⟩;have hp:=hss.trans hD;have hp2:ss.Perm ((L.map (·.1)).map (·.data.toList)):=by rw[List.map_map];exact hp
 rw[merge_names hp2]at hrow;have hlen:ss.length=L.length:=by rw[hp.length_eq];simp
 rw[hlen]at hrow;have hE:Ext w w':=((Er w).alloc _).trans (Ext.of_below hb);refine⟨v,rfl,⟨hrow.1,?_⟩,hE⟩
 rcases hrow.2 with hn|⟨g,cap,cur,hv,hbg,rest⟩
 ·exact .inl hn
 ·exact .inr ⟨g,cap,cur,hv,Nat.le_trans (by simp) hbg,rest⟩
theorem Rep.nameKeys{w:World}{B:Nat→Prop}{c mb mn n:Nat}{C:Ct}{P:Pm}(hC:CtAt w B c mb mn C)(h:Rep C P)(hi:PInv n P):(C.names.map (·.1)).Perm ((P.L.filter fun b => !b.dead).map Bl.name):=by
 have n1:(C.names.map (·.1)).Nodup:=hC.nm.nodup
 have n2:((P.L.filter fun b => !b.dead).map Bl.name).Nodup:=by
  refine List.pairwise_map.2 ?_;refine(hi.asc.filter (fun b => !b.dead)).imp_of_mem ?_
  intro a b ha hb hab e;obtain⟨a1,a2⟩:=List.mem_filter.1 ha;obtain⟨b1,b2⟩:=List.mem_filter.1 hb
  have:=hi.uniq a a1 b b1 (by simpa using a2) (by simpa using b2) e
  omega
 refine(List.perm_ext_iff_of_nodup n1 n2).2 fun m=>?_
 constructor
 ·intro hm;obtain⟨p,hp,rfl⟩:=List.mem_map.1 hm;obtain⟨b,h1,h2,h3,_⟩:=(h.names p.1 p.2).1 hp;exact List.mem_map.2 ⟨b,List.mem_filter.2 ⟨h1,by rw[h2];rfl⟩,h3⟩
 ·intro hm;obtain⟨b,hb,rfl⟩:=List.mem_map.1 hm;obtain⟨h1,h2⟩:=List.mem_filter.1 hb;exact List.mem_map.2 ⟨(b.name,b.id),(h.names _ _).2 ⟨b,h1,by simpa using h2,rfl,rfl⟩,rfl⟩
theorem namesL_perm{l:List ByteArray}{L:List Bl}(h:l.Perm ((L.filter fun b => !b.dead).map Bl.name)):l.mergeSort leN=qZz L:=by
 have tr:∀a b c:ByteArray,leN a b=true→leN b c=true→leN a c=true:=fun a b c h h'=>by
  simp only[leN,decide_eq_true_eq]at *;exact List.le_trans h h'
 have tot:∀a b:ByteArray,(leN a b||leN b a)=true:=fun a b=>by simp only[leN,Bool.or_eq_true,decide_eq_true_eq];exact List.le_total _ _
 have e:qZz L=((L.filter fun b => !b.dead).map Bl.name).mergeSort leN:=rfl;rw[e];refine List.Perm.eq_of_pairwise (le:=fun a b=>leN a b=true) (fun a b _ _ h1 h2=>?_) (List.pairwise_mergeSort tr tot l) (List.pairwise_mergeSort tr tot _) (((List.mergeSort_perm l leN).trans h).trans (List.mergeSort_perm _ leN).symm);simp only[leN,decide_eq_true_eq]at h1 h2
 have:=List.le_antisymm h1 h2
 exact WideShapes.bytes_inj this
open Go.RowKit Go.Sort
theorem qX3(a b:Int):(a == b)=decide (a=b):=rfl
theorem and_one(v:Nat)(h:v<12):bits .and .i64 (v:Int) 1=((v % 2:Nat):Int):=by
 have:∀v:Nat,v<12→bits .and .i64 (v:Int) 1=((v % 2:Nat):Int):=by decide +kernel
 exact this v h
theorem qX4(w:World)(v:Nat)(h:v<12):Calls prog 59 #[.int .i64 v] w fun e w'=>e=.returned (.int .i64 ((v % 2:Nat):Int))∧w=w':=by
 have ha:=and_one v h
 go_enter func59,ntmps59
 go_wp2_with fail
 go_ret
 exact⟨rfl,rfl⟩
theorem on_any(w:World)(g:Nat)(b:Bl)(dv:Value)(hB:At w g 63 (blCells b dv))(v:Nat)(h:v<12) :
 Calls prog 36 #[.pointer (some ⟨g,0,none⟩),.int .i64 v] w fun e w'=>e=.returned (.bool (onV v b))∧Ext w w':=by
 go_enter func36,ntmps36
 have b5:=hB.cell 5;have b6:=hB.cell 6;have b7:=hB.cell 7;have b8:=hB.cell 8;have b9:=hB.cell 9;have b10:=hB.cell 10;have hlt:=hB.lt;simp at b5 b6 b7 b8 b9 b10;have hpl:∀W,Calls prog 59 #[.int .i64 v] W fun e w'=>e=.returned (.int .i64 ((v % 2:Nat):Int))∧W=w':=fun W=>qX4 W v h
 have HP:=Hh hpl;clear hpl;have hv2:v % 2=0∨v % 2=1:=by omega
 go_wp2_with fail
 rcases hv2 with hv2|hv2
 ·have HV:=Hh hv2;rw[hv2]at HP;clear hv2
  have hon:onV v b=(b.a.there&&decide (b.a.vol=(v:Int))):=by
   unfold onV
   have:=HV.out
   rw[if_neg (by omega)]
  have HO:=Hh hon;clear hon;cases hth:b.a.there
  all_goals
   rw[hth]at HO;rw[hth]at b5;clear hth
   go_region_with ((go_at_call 59;refine(HP.out _).mono ?_;rintro e w' ⟨rfl,rfl⟩))
   all_goals
    go_wp2_with fail
    go_ret
    rw[HO.out];exact⟨by simp[qX3],((Er w).alloc _).drew⟩
 ·have HV:=Hh hv2;rw[hv2]at HP;clear hv2
  have hon:onV v b=(b.b.there&&decide (b.b.vol=(v:Int))):=by
   unfold onV
   have:=HV.out
   rw[if_pos (by omega)]
  have HO:=Hh hon;clear hon;cases hth:b.b.there
  all_goals
   rw[hth]at HO;rw[hth]at b8;clear hth
   go_region_with ((go_at_call 59;refine(HP.out _).mono ?_;rintro e w' ⟨rfl,rfl⟩))
   all_goals
    go_wp2_with fail
    go_ret
    rw[HO.out];exact⟨by simp[qX3],((Er w).alloc _).drew⟩
open Go.RowKit Go.Sort
theorem pinsOf_append(a b:List Bl):qQE (a++b)=qQE a+qQE b:=by
 induction a with
 | nil=>simp[qQE]
 | cons x r ih =>
  have e1:qQE (x::r++b)=x.pins+qQE (r++b):=rfl;have e2:qQE (x::r)=x.pins+qQE r:=rfl;rw[e1,e2,ih];omega
theorem pinsOf_perm{a b:List Bl}(h:a.Perm b):qQE a=qQE b:=by
 induction h with
 | nil=>rfl
 | @cons x l1 l2 _ ih=>show x.pins+qQE l1=x.pins+qQE l2;rw[ih]
 | swap x y l=>show y.pins+(x.pins+qQE l)=x.pins+(y.pins+qQE l);omega
 | trans _ _ h1 h2=>rw[h1,h2]
theorem pinsOf_bd{l:List Bl}{m:Nat}(h:∀b∈l,0≤b.pins∧b.pins≤m):0≤qQE l∧qQE l≤l.length * m:=by
 induction l with
 | nil=>simp[qQE]
 | cons x r ih =>
  have h1:=ih (fun b hb=>h b (List.mem_cons_of_mem _ hb));have h2:=h x (List.mem_cons_self ..);have e2:qQE (x::r)=x.pins+qQE r:=rfl;rw[e2];refine⟨by omega,?_⟩
  rw[List.length_cons,Int.natCast_add,Int.add_mul];simp;omega
def onR(v:Int)(l:List BR):List Bl:=(l.filter fun r=>onV v r.b).map BR.b
theorem onR_snoc(v:Int)(l:List BR)(r:BR):onR v (l++[r])=onR v l++if onV v r.b then [r.b]else []:=by
 unfold onR;rw[List.filter_append,List.map_append]
 congr 1
 cases h:onV v r.b <;> simp[h]
theorem onR_perm{v:Int}{l l':List BR}(h:l.Perm l'):(onR v l).Perm (onR v l'):=(h.filter _).map _
theorem Rep.perm{C:Ct}{P:Pm}{n:Nat}(h:Rep C P)(hi:PInv n P):(C.rows.map BR.b).Perm P.L:=by
 have n1:(C.rows.map BR.b).Nodup:=by
  have h2:=List.pairwise_map.1 h.rows.idn;exact List.pairwise_map.2 (h2.imp fun {x y} e e'=>e (by rw[e']))
 have n2:P.L.Nodup:=hi.asc.imp fun {x y} e e'=>by subst e';omega
 exact(List.perm_ext_iff_of_nodup n1 n2).2 h.rows.mem
theorem Rep.onVol{C:Ct}{P:Pm}{n:Nat}(h:Rep C P)(hi:PInv n P)(v:Int):(onR v C.rows).Perm (P.onVol v):=by
 have:=(h.perm hi).filter (onV v)
 rw[List.filter_map]at this;exact this
theorem qQ6.perm{κ ν : Type}{K:KeyWay κ}{vv : ν → Value}{w:World}{b r:Nat}{L left left':List (κ × ν)}(h:qQ6 K vv w b r L left)(hp:left.Perm left'):qQ6 K vv w b r L left':=by
 obtain⟨es,clk,seen,h1,h2,h3,h4,h5⟩:=h;exact⟨es,clk,seen,h1,h2,h3,h4,h5.trans (hp.map _)⟩
abbrev pairR(r:BR):Int×Nat:=((r.b.id:Int),r.g)
theorem liveR_any(w:World)(B:Nat→Prop)(c mb mn:Nat)(C:Ct)(h:CtAt w B c mb mn C)(v:Nat)(hv:v<12)(N:Nat)(hN:N≤1000000)(hl:C.rows.length≤1000000)(hp:∀r∈C.rows,0≤r.b.pins∧r.b.pins≤N) :
 Calls prog 14 #[.pointer (some ⟨c,0,none⟩),.int .i64 v] w fun e w'=>e=.returned (.tuple #[.int .i64 (onR v C.rows).length,.int .i64 (qQE (onR v C.rows))])∧Ext w w':=by
 obtain⟨c0,c1⟩:=h.c0;obtain⟨w0,hrun,hR,hE⟩:=h.bm.range qXa;have HP:=Hh hp;clear hp
 go_enter func14,ntmps14
 go_wp2_with fail
 clear hrun c0 c1;obtain⟨r,hr⟩:∃r,r=w.heap.size:=⟨_,rfl⟩;rw[←hr]at hR⊢;have hrg:w.heap.size≤r:=by omega
 clear hr
 go_loopg [6,7] C.rows.length (fun k n p wr=>∃rest done,rest.length=k∧C.rows.Perm (done++rest)∧n=.int .i64 (onR v done).length∧p=.int .i64 (qQE (onR v done))∧qQ6 qXp ptrV wr mb r C.idx (rest.map pairR)∧Ext w wr)
 case atStart=>exact⟨C.rows,[],rfl,List.Perm.refl _,rfl,rfl,hR,hE⟩
 case round =>
  obtain⟨rest,done,rfl,hpm,rfl,rfl,hRk,hEk⟩:=hrel;clear hR hE
  have hbd:=pinsOf_bd (l:=onR v done) (m:=N) (fun b hb=>by
   obtain⟨r',hr',rfl⟩:=List.mem_map.1 hb;exact HP.out r' (hpm.mem_iff.2 (List.mem_append_left _ (List.mem_filter.1 hr').1)))
  have hln:(onR v done).length≤C.rows.length:=by
   unfold onR;rw[List.length_map,hpm.length_eq,List.length_append]
   have:=List.length_filter_le (fun r:BR=>onV v r.b) done
   omega
  have hbd2:qQE (onR v done)≤1000000000000:=by
   refine Int.le_trans hbd.2 ?_
   have:(onR v done).length * N≤1000000 * 1000000:=Nat.mul_le_mul (by omega) hN
   rw[←Int.natCast_mul];omega
  have hb0:=hbd.1;have HPM:=Hh hpm;clear hbd hpm;rcases hRk.next (P:=prog) 0 with⟨hrest,hrun⟩|⟨p,left',w1,hperm,hrun,hR1,hC1,hent⟩
  ·have hrun':∀ty,(Instr.next (.pointer (some ⟨r,0,none⟩)) false ty).run prog wr=.ok (.tuple #[.bool false]) wr:=fun _=>hrun
   have hr0:rest=[]:=List.map_eq_nil_iff.1 hrest;subst hr0;have hq:=onR_perm (v:=(v:Int)) HPM.out;rw[List.append_nil]at hq;have HQ:=Hh hq;clear hrun hrest hq;go_wp2_with fail
   go_ret2
   refine⟨?_,hEk⟩
   rw[HQ.out.length_eq,pinsOf_perm HQ.out];rfl
  ·have hmem:p∈rest.map pairR:=hperm.mem_iff.2 (List.mem_cons_self ..);obtain⟨q,hq,rfl⟩:=List.mem_map.1 hmem;obtain⟨s,t,rfl⟩:=List.append_of_mem hq
   have hleft:left'.Perm ((s++t).map pairR):=by
    have h1:((s++q::t).map pairR).Perm (pairR q::(s++t).map pairR):=by
     rw[List.map_append,List.map_cons,List.map_append];exact List.perm_middle
    exact(List.perm_cons _).1 (hperm.symm.trans h1)
   have hpm2:C.rows.Perm ((done++[q])++(s++t)):=by
    refine HPM.out.trans ?_;rw[List.append_assoc];exact(List.perm_middle (l₁:=s)).append_left done
   have hqC:q∈C.rows:=hpm2.mem_iff.2 (by simp);have hpq:=HP.out q hqC;have hrun':∀ty,(Instr.next (.pointer (some ⟨r,0,none⟩)) false ty).run prog wr=.ok (.tuple #[.bool true,.int .u64 (q.b.id:Int),.pointer (some ⟨q.g,0,none⟩)]) w1:=fun _=>hrun
   have hent':(Instr.entry (.pointer (some ⟨r,0,none⟩))).run prog w1=.ok (.tuple #[.int .u64 (q.b.id:Int),.pointer (some ⟨q.g,0,none⟩)]) w1:=hent;have hE1:Ext w w1:=Chg.trans hEk hC1 (fun k hk h=>by have h':k=r:=h;omega);have hR2:=hR1.perm hleft;have hC2:=h.ext hE1;have HPM2:=Hh hpm2;have hlen:(s++t).length<(s++q::t).length:=by simp
   have hsn:=onR_snoc (v:Int) done q;have HSN:=Hh hsn;clear hrun hent hperm hleft hpm2 hRk hEk hC1 hR1 HPM hmem hq hsn;have hbq:=(hC2.bl q hqC).1;have HON:=Hh (on_any w1 q.g q.b q.dv hbq v hv);go_wp2_with fail
   refine HON.out.mono ?_;rintro e w2 ⟨rfl,hE2⟩;have b11:=(hbq.ext hE2).cell 11;simp at b11;have hE3:=hE1.trans hE2;have hR3:=hR2.ext hE2;clear HON hE1 hE2 hR2 hrun' hent' hC2;cases hon:onV (v:Int) q.b
   ·rw[hon,if_neg (by simp),List.append_nil]at HSN;go_wp2_with fail
    go_roundg (s++t).length
    case measure=>exact hlen
    case rel=>exact⟨s++t,done++[q],rfl,HPM2.out,by rw[HSN.out],by rw[HSN.out],hR3,hE3⟩
   ·rw[hon,if_pos rfl]at HSN;go_wp2_with fail
    go_roundg (s++t).length
    case measure=>exact hlen
    case rel=>exact⟨s++t,done++[q],rfl,HPM2.out,by rw[HSN.out,List.length_append];go_num,by rw[HSN.out,pinsOf_append];congr 1;simp[qQE],hR3,hE3⟩
open Go.RowKit Go.Sort
theorem vol_flat(vs:List Vl)(v j:Nat)(hj:j<3):(vs.map qQK).flatten[3 * v+j]? = (vs[v]?).bind fun x=>(qQK x)[j]? := by
 induction vs generalizing v with
 | nil=>simp
 | cons x r ih =>
  rw[List.map_cons,List.flatten_cons];cases v with
  | zero =>
   rw[List.getElem?_append_left (by simp[qQK];omega)];simp
  | succ v =>
   rw[List.getElem?_append_right (by simp[qQK];omega)];have e:3 * (v+1)+j - (qQK x).length=3 * v+j:=by simp[qQK];omega
   rw[e,ih v];simp
theorem qQX{w:World}{B:Nat→Prop}{c mb mn:Nat}{C:Ct}(h:CtAt w B c mb mn C)(v:Nat)(hv:v<12) :
 w.cell? ⟨c,2+v * 3,none⟩=some (.bool (C.vols.getD v Vl.zero).closed)∧w.cell? ⟨c,2+v * 3+1,none⟩=some (.bool (C.vols.getD v Vl.zero).erase)∧w.cell? ⟨c,2+v * 3+2,none⟩=some (.int .i64 (C.vols.getD v Vl.zero).gen):=by
 have hl:=h.vlen
 have hx:C.vols[v]? = some (C.vols.getD v Vl.zero):=by
  rw[List.getD_eq_getElem?_getD,List.getElem?_eq_getElem (by omega)];rfl
 have hg:∀j,j<3→w.cell? ⟨c,2+v * 3+j,none⟩=(qQK (C.vols.getD v Vl.zero))[j]? := fun j hj=>by
  rw[h.blk.cell];have e1:2+v * 3+j=(3 * v+j)+2:=by omega
  rw[e1,List.getElem?_toArray]
  show(Value.map (some mb)::Value.map (some mn)::(C.vols.map qQK).flatten)[(3 * v+j)+2]? = _
  rw[List.getElem?_cons_succ,List.getElem?_cons_succ,vol_flat _ _ _ hj,hx];rfl
 exact⟨hg 0 (by omega),hg 1 (by omega),hg 2 (by omega)⟩
def vlAgg(v:Vl):Value:=.agg #[.bool v.closed,.bool v.erase,.int .i64 v.gen]
theorem vol_set(vs:List Vl)(v j:Nat)(x x':Vl)(u:Value)(hj:j<3)(hx:vs[v]? = some x)(hr:qQK x'=(qQK x).set j u):((vs.map qQK).flatten).set (3 * v+j) u=((vs.set v x').map qQK).flatten:=by
 induction vs generalizing v with
 | nil=>cases hx
 | cons y r ih =>
  rw[List.map_cons,List.flatten_cons];cases v with
  | zero =>
   injection hx with hx;subst hx;rw[List.set_append_left _ _ (by simp[qQK];omega),List.set_cons_zero,List.map_cons,List.flatten_cons,hr];simp
  | succ v =>
   have e:3 * (v+1)+j - (qQK y).length=3 * v+j:=by simp[qQK];omega
   rw[List.set_append_right _ _ (by simp[qQK];omega),e,ih v hx,List.set_cons_succ,List.map_cons,List.flatten_cons]
abbrev ctCells(mb mn:Nat)(vs:List Vl):Array Value:=(.map (some mb) :: .map (some mn)::(vs.map qQK).flatten).toArray
theorem At.setVol{w:World}{c mb mn v j:Nat}{vs:List Vl}{x x':Vl}{u:Value}(h:At w c 96 (ctCells mb mn vs))(hj:j<3)(hx:vs[v]? = some x)(hr:qQK x'=(qQK x).set j u) :
 At (w.setCell ⟨c,2+v * 3+j,none⟩ u) c 96 (ctCells mb mn (vs.set v x')):=by
 have h1:=At.set h (2+v * 3+j) u
 have e:(ctCells mb mn vs).setIfInBounds (2+v * 3+j) u=ctCells mb mn (vs.set v x'):=by
  unfold ctCells;rw[List.setIfInBounds_toArray,show 2+v * 3+j=(3 * v+j)+1+1 by omega,List.set_cons_succ,List.set_cons_succ,vol_set vs v j x x' u hj hx hr]
 rw[e]at h1;exact h1
def Ct.setVols(C:Ct)(vs:List Vl):Ct := { C with vols:=vs }
theorem CtAt.chgVols{w w':World}{B:Nat→Prop}{c mb mn:Nat}{C:Ct}{vs:List Vl}(h:CtAt w B c mb mn C)(hC:Chg (· = c) w w')(hA:At w' c 96 (ctCells mb mn vs))(hl:vs.length=12):CtAt w' B c mb mn (C.setVols vs) where
 blk:=hA
 bm:=h.bm.chg hC (fun e=>h.bm.ne_at h.blk e)
 nm:=h.nm.chg hC (fun e=>h.nm.ne_at h.blk e)
 bl:=fun r hr=>⟨(h.bl r hr).1.chg hC (fun e=>At.ne h.blk (h.bl r hr).1 (by decide) (Eq.symm e)),qQb (h.bl r hr).2 hC (fun k hk e=>qQf (h.bl r hr).2 h.blk (by decide) k hk e)⟩
 inj:=h.inj
 vlen:=hl
 mne:=h.mne
 up:=up_chg h.up hC
 lo:=h.lo
theorem vl_out{W:World}{g:Nat}(h:At W g 85 #[.bool false,.bool false,.int .i64 0])(a0 a1 a2:Value) :
 At (((W.setCell ⟨g,0,none⟩ a0).setCell ⟨g,1,none⟩ a1).setCell ⟨g,2,none⟩ a2) g 85 #[a0,a1,a2]∧Chg (· = g) W (((W.setCell ⟨g,0,none⟩ a0).setCell ⟨g,1,none⟩ a1).setCell ⟨g,2,none⟩ a2):=by
 have h1:At (W.setCell ⟨g,0,none⟩ a0) g 85 #[a0,.bool false,.int .i64 0]:=h.set 0 a0;have h2:At ((W.setCell ⟨g,0,none⟩ a0).setCell ⟨g,1,none⟩ a1) g 85 #[a0,a1,.int .i64 0]:=h1.set 1 a1;have h3:At (((W.setCell ⟨g,0,none⟩ a0).setCell ⟨g,1,none⟩ a1).setCell ⟨g,2,none⟩ a2) g 85 #[a0,a1,a2]:=h2.set 2 a2;exact⟨h3,(((Chg.refl (· = g) W).setCell (p:=⟨g,0,none⟩) (.inl rfl) a0).setCell (p:=⟨g,1,none⟩) (.inl rfl) a1).setCell (p:=⟨g,2,none⟩) (.inl rfl) a2⟩
theorem vol_any(w:World)(B:Nat→Prop)(c mb mn:Nat)(C:Ct)(h:CtAt w B c mb mn C)(v:Nat)(hv:v<12) :
 Calls prog 20 #[.pointer (some ⟨c,0,none⟩),.int .i64 v] w fun e w'=>e=.returned (vlAgg (C.vols.getD v Vl.zero))∧Ext w w':=by
 generalize hx:C.vols.getD v Vl.zero=x;have HX:=Hh hx;clear hx
 go_enter func20,ntmps20
 have hX:=At.new w 85 #[.bool false,.bool false,.int .i64 0];have hE:=(Er w).alloc (.cells #[.bool false,.bool false,.int .i64 0] 85)
 go_upto_region 1 with fail
 generalize hxb:w.heap.size=xb at *;generalize World.alloc _ _=W at *;obtain⟨v0,v1,v2⟩:=qQX (h.ext hE) v hv;rw[HX.out]at v0 v1 v2;have f0:=hX.frozen 0;have f1:=hX.frozen 1;have f2:=hX.frozen 2;have g0:=hX.cell 0;have g1:=hX.cell 1;have g2:=hX.cell 2;simp at g0 g1 g2;go_wp2_with fail
 obtain⟨hZ,hCz⟩:=vl_out hX (.bool x.closed) (.bool x.erase) (.int .i64 x.gen);generalize World.setCell _ _ _=WZ at hZ hCz⊢;have z0:=hZ.cell 0;have z1:=hZ.cell 1;have z2:=hZ.cell 2;simp at z0 z1 z2;refine bodyPost_ret (v:=vlAgg x) (by simp[results,results20,go_sem,z0,z1,z2,vlAgg]) rfl ⟨rfl,Chg.mono (hE.chg_trans hCz) fun j hj e=>by have e':j=xb:=e;omega⟩
open Go.RowKit Go.Sort
theorem qX5{C:Ct}{v:Nat}(h:C.vols.length=12)(hv:v<12):C.vols[v]? = some (C.vols.getD v Vl.zero):=by
 rw[List.getD_eq_getElem?_getD,List.getElem?_eq_getElem (by omega)];rfl
section volume
variable(w:World)(B:Nat→Prop)(c mb mn:Nat)(C:Ct)(h:CtAt w B c mb mn C)(x:Cmd)(dv:Value)(v:Nat)(hv:v<12)(hxv:x.vol=(v:Int))
include h hv hxv
theorem vol_close(hk:x.kind=11)  :
 Calls prog 42 #[.pointer (some ⟨c,0,none⟩),qQd x dv] w fun e w'=>e=.returned (.int .i64 0)∧CtAt w' B c mb mn (C.setVols (C.vols.set v { C.vols.getD v Vl.zero with closed:=true }))∧Chg (· = c) w w':=by
 have HK:=Hh hk;have HXV:=Hh hxv;clear hk hxv;have hvl:=qX5 h.vlen hv;generalize hy:C.vols.getD v Vl.zero=y at *;unfold qQd
 go_enter func42,ntmps42
 have hX:=At.new w 76 (cmdCells x dv);have hE:=(Er w).alloc (.cells (cmdCells x dv) 76);have HVL:=Hh hvl;have HY:=Hh hy;clear hvl hy
 go_upto_region 1 with fail
 generalize hxb:w.heap.size=xb at *;generalize World.alloc _ _=W at *;have hC:=h.ext hE;obtain⟨v0,v1,v2⟩:=qQX hC v hv;rw[HY.out]at v0 v1 v2;have x9:=hX.cell 9;have x0:=hX.cell 0;simp at x9 x0;rw[HXV.out]at x9;rw[HK.out]at x0
 go_region
 clear x9 x0 v0 v1 v2;have hX1:=hX.drew;have hC1:=hC.ext ((Er W).drew);have hE1:=hE.drew;clear hX hC hE;generalize World.drew _=W1 at *;obtain⟨v0,v1,v2⟩:=qQX hC1 v hv;rw[HY.out]at v0 v1 v2;have x9:=hX1.cell 9;have x0:=hX1.cell 0;simp at x9 x0;rw[HXV.out]at x9;rw[HK.out]at x0;have f0:=hC1.blk.frozen (2+v * 3);have f1:=hC1.blk.frozen (2+v * 3+1);have f2:=hC1.blk.frozen (2+v * 3+2);have hcB:=hC1.lo.1;have hA:=At.setVol (j:=0) (x' := { y with closed:=true }) (u:=.bool true) hC1.blk (by omega) HVL.out rfl;have hCs:=(hE1.chg (S:=(· = c))).setCell (p:=⟨c,2+v * 3+0,none⟩) (.inl rfl) (.bool true);have hC2:=hC1.chgVols ((Chg.refl (· = c) W1).setCell (p:=⟨c,2+v * 3+0,none⟩) (.inl rfl) (.bool true)) hA (by rw[List.length_set];exact hC1.vlen);rw[Nat.add_zero]at hCs hC2;have HR:=Hh (show _∧_ from⟨hCs,hC2⟩);clear hA hCs hC2 h;go_wp2_with fail
 go_ret
 obtain⟨hCs,hC2⟩:=HR.out;refine⟨rfl,?_,hCs⟩
 exact hC2
theorem vol_erase_ok(hk:x.kind=12)(N:Nat)(hN:N≤1000000)(hl:C.rows.length≤1000000)(hp:∀r∈C.rows,0≤r.b.pins∧r.b.pins≤N)(ho:onR v C.rows=[]) :
 Calls prog 42 #[.pointer (some ⟨c,0,none⟩),qQd x dv] w fun e w'=>e=.returned (.int .i64 0)∧CtAt w' B c mb mn (C.setVols (C.vols.set v { C.vols.getD v Vl.zero with closed:=true,erase:=true }))∧Chg (· = c) w w':=by
 have HK:=Hh hk;have HXV:=Hh hxv;clear hk hxv;have hvl:=qX5 h.vlen hv;generalize hy:C.vols.getD v Vl.zero=y at *;unfold qQd
 go_enter func42,ntmps42
 have hX:=At.new w 76 (cmdCells x dv);have hE:=(Er w).alloc (.cells (cmdCells x dv) 76);have HVL:=Hh hvl;have HY:=Hh hy;clear hvl hy
 go_upto_region 1 with fail
 generalize hxb:w.heap.size=xb at *;generalize World.alloc _ _=W at *;have hC:=h.ext hE;obtain⟨v0,v1,v2⟩:=qQX hC v hv;rw[HY.out]at v0 v1 v2;have x9:=hX.cell 9;have x0:=hX.cell 0;simp at x9 x0;rw[HXV.out]at x9;rw[HK.out]at x0
 go_region
 clear x9 x0 v0 v1 v2;have hX1:=hX.drew;have hC1:=hC.ext ((Er W).drew);have hE1:=hE.drew;clear hX hC hE;generalize World.drew _=W1 at *;obtain⟨v0,v1,v2⟩:=qQX hC1 v hv;rw[HY.out]at v0 v1 v2;have x9:=hX1.cell 9;have x0:=hX1.cell 0;simp at x9 x0;rw[HXV.out]at x9;rw[HK.out]at x0;have f0:=hC1.blk.frozen (2+v * 3);have f1:=hC1.blk.frozen (2+v * 3+1);have f2:=hC1.blk.frozen (2+v * 3+2);have hcB:=hC1.lo.1;have HL:=Hh (liveR_any W1 B c mb mn C hC1 v hv N hN hl hp);have HP:=Hh hp;clear hp v0 v1 v2;rw[ho]at HL;go_wp2_with fail
 refine HL.out.mono ?_;rintro e W2 ⟨rfl,hE2⟩;have hC2:=hC1.ext hE2;have hE3:=hE1.trans hE2;clear HL hC1 hE1 hE2 f0 f1 f2 x0 x9 hX1;have f0:=hC2.blk.frozen (2+v * 3);have f1:=hC2.blk.frozen (2+v * 3+1);obtain⟨v0,v1,v2⟩:=qQX hC2 v hv;rw[HY.out]at v0 v1 v2;have hA1:=At.setVol (j:=0) (x' := { y with closed:=true }) (u:=.bool true) hC2.blk (by omega) HVL.out rfl
 have hg1:(C.vols.set v { y with closed:=true })[v]? = some { y with closed:=true } := by
  rw[List.getElem?_set,if_pos rfl,if_pos (by have:=hC2.vlen;omega)]
 have hA2:=At.setVol (j:=1) (x' := { y with closed:=true,erase:=true }) (u:=.bool true) hA1 (by omega) hg1 rfl;rw[List.set_set]at hA2;have hCs0:=((Chg.refl (· = c) W2).setCell (p:=⟨c,2+v * 3+0,none⟩) (.inl rfl) (.bool true)).setCell (p:=⟨c,2+v * 3+1,none⟩) (.inl rfl) (.bool true);have hC3:=hC2.chgVols hCs0 hA2 (by rw[List.length_set];exact hC2.vlen);have hCs:=hE3.chg_trans hCs0;rw[Nat.add_zero]at hCs hC3;have HR:=Hh (show _∧_ from⟨hCs,hC3⟩);clear hA1 hA2 hg1 hCs0 hCs hC3 h;go_wp2_with fail
 go_ret
 obtain⟨hCs,hC3⟩:=HR.out;refine⟨rfl,?_,hCs⟩
 exact hC3
theorem vol_erase_no(hk:x.kind=12)(N:Nat)(hN:N≤1000000)(hl:C.rows.length≤1000000)(hp:∀r∈C.rows,0≤r.b.pins∧r.b.pins≤N)(ho:onR v C.rows≠[]) :
 Calls prog 42 #[.pointer (some ⟨c,0,none⟩),qQd x dv] w fun e w'=>e=.returned (.int .i64 10)∧Ext w w':=by
 have HK:=Hh hk;have HXV:=Hh hxv;clear hk hxv;have hvl:=qX5 h.vlen hv;generalize hy:C.vols.getD v Vl.zero=y at *;unfold qQd
 go_enter func42,ntmps42
 have hX:=At.new w 76 (cmdCells x dv);have hE:=(Er w).alloc (.cells (cmdCells x dv) 76);have HVL:=Hh hvl;have HY:=Hh hy;clear hvl hy
 go_upto_region 1 with fail
 generalize hxb:w.heap.size=xb at *;generalize World.alloc _ _=W at *;have hC:=h.ext hE;obtain⟨v0,v1,v2⟩:=qQX hC v hv;rw[HY.out]at v0 v1 v2;have x9:=hX.cell 9;have x0:=hX.cell 0;simp at x9 x0;rw[HXV.out]at x9;rw[HK.out]at x0
 go_region
 clear x9 x0 v0 v1 v2;have hX1:=hX.drew;have hC1:=hC.ext ((Er W).drew);have hE1:=hE.drew;clear hX hC hE;generalize World.drew _=W1 at *;obtain⟨v0,v1,v2⟩:=qQX hC1 v hv;rw[HY.out]at v0 v1 v2;have x9:=hX1.cell 9;have x0:=hX1.cell 0;simp at x9 x0;rw[HXV.out]at x9;rw[HK.out]at x0;have f0:=hC1.blk.frozen (2+v * 3);have f1:=hC1.blk.frozen (2+v * 3+1);have f2:=hC1.blk.frozen (2+v * 3+2);have hcB:=hC1.lo.1;have HL:=Hh (liveR_any W1 B c mb mn C hC1 v hv N hN hl hp);have HP:=Hh hp;clear hp v0 v1 v2;go_wp2_with fail
 refine HL.out.mono ?_;rintro e W2 ⟨rfl,hE2⟩;have hC2:=hC1.ext hE2;have hE3:=hE1.trans hE2;clear HL hC1 hE1 hE2 f0 f1 f2 x0 x9 hX1;have f0:=hC2.blk.frozen (2+v * 3);have f1:=hC2.blk.frozen (2+v * 3+1);obtain⟨v0,v1,v2⟩:=qQX hC2 v hv;rw[HY.out]at v0 v1 v2;have hlen:0<(onR v C.rows).length:=List.length_pos_iff.2 ho;generalize (onR v C.rows).length=q at *;clear ho h;go_wp2_with fail
 go_ret
 exact⟨rfl,hE3⟩
theorem vol_erased_no(hk:x.kind=13)(he:(C.vols.getD v Vl.zero).erase=false) :
 Calls prog 42 #[.pointer (some ⟨c,0,none⟩),qQd x dv] w fun e w'=>e=.returned (.int .i64 16)∧Ext w w':=by
 have HK:=Hh hk;have HXV:=Hh hxv;clear hk hxv;have hvl:=qX5 h.vlen hv;generalize hy:C.vols.getD v Vl.zero=y at *;unfold qQd
 go_enter func42,ntmps42
 have hX:=At.new w 76 (cmdCells x dv);have hE:=(Er w).alloc (.cells (cmdCells x dv) 76);have HE:=Hh he;clear he;have HVL:=Hh hvl;have HY:=Hh hy;clear hvl hy
 go_upto_region 1 with fail
 generalize hxb:w.heap.size=xb at *;generalize World.alloc _ _=W at *;have hC:=h.ext hE;obtain⟨v0,v1,v2⟩:=qQX hC v hv;rw[HY.out]at v0 v1 v2;have x9:=hX.cell 9;have x0:=hX.cell 0;simp at x9 x0;rw[HXV.out]at x9;rw[HK.out]at x0
 go_region
 clear x9 x0 v0 v1 v2;have hX1:=hX.drew;have hC1:=hC.ext ((Er W).drew);have hE1:=hE.drew;clear hX hC hE;generalize World.drew _=W1 at *;obtain⟨v0,v1,v2⟩:=qQX hC1 v hv;rw[HY.out]at v0 v1 v2;have x9:=hX1.cell 9;have x0:=hX1.cell 0;simp at x9 x0;rw[HXV.out]at x9;rw[HK.out]at x0;have f0:=hC1.blk.frozen (2+v * 3);have f1:=hC1.blk.frozen (2+v * 3+1);have f2:=hC1.blk.frozen (2+v * 3+2);have hcB:=hC1.lo.1;rw[HE.out]at v1;clear h;go_wp2_with fail
 go_ret
 exact⟨rfl,hE1⟩
theorem vol_erased_ok(hk:x.kind=13)(he:(C.vols.getD v Vl.zero).erase=true)(hg:0≤(C.vols.getD v Vl.zero).gen∧(C.vols.getD v Vl.zero).gen≤4611686018427387904) :
 Calls prog 42 #[.pointer (some ⟨c,0,none⟩),qQd x dv] w fun e w'=>e=.returned (.int .i64 0)∧CtAt w' B c mb mn (C.setVols (C.vols.set v ⟨false,false,(C.vols.getD v Vl.zero).gen+1⟩))∧Chg (· = c) w w':=by
 have HK:=Hh hk;have HXV:=Hh hxv;clear hk hxv;have hvl:=qX5 h.vlen hv;generalize hy:C.vols.getD v Vl.zero=y at *;unfold qQd
 go_enter func42,ntmps42
 have hX:=At.new w 76 (cmdCells x dv);have hE:=(Er w).alloc (.cells (cmdCells x dv) 76);have HE:=Hh he;clear he;have HVL:=Hh hvl;have HY:=Hh hy;clear hvl hy
 go_upto_region 1 with fail
 generalize hxb:w.heap.size=xb at *;generalize World.alloc _ _=W at *;have hC:=h.ext hE;obtain⟨v0,v1,v2⟩:=qQX hC v hv;rw[HY.out]at v0 v1 v2;have x9:=hX.cell 9;have x0:=hX.cell 0;simp at x9 x0;rw[HXV.out]at x9;rw[HK.out]at x0
 go_region
 clear x9 x0 v0 v1 v2;have hX1:=hX.drew;have hC1:=hC.ext ((Er W).drew);have hE1:=hE.drew;clear hX hC hE;generalize World.drew _=W1 at *;obtain⟨v0,v1,v2⟩:=qQX hC1 v hv;rw[HY.out]at v0 v1 v2;have x9:=hX1.cell 9;have x0:=hX1.cell 0;simp at x9 x0;rw[HXV.out]at x9;rw[HK.out]at x0;have f0:=hC1.blk.frozen (2+v * 3);have f1:=hC1.blk.frozen (2+v * 3+1);have f2:=hC1.blk.frozen (2+v * 3+2);have hcB:=hC1.lo.1;rw[HE.out]at v1;have hA1:=At.setVol (j:=0) (x' := { y with closed:=false }) (u:=.bool false) hC1.blk (by omega) HVL.out rfl
 have hg1:(C.vols.set v { y with closed:=false })[v]? = some { y with closed:=false } := by
  rw[List.getElem?_set,if_pos rfl,if_pos (by have:=hC1.vlen;omega)]
 have hA2:=At.setVol (j:=1) (x' := { y with closed:=false,erase:=false }) (u:=.bool false) hA1 (by omega) hg1 rfl;rw[List.set_set]at hA2
 have hg2:(C.vols.set v { y with closed:=false,erase:=false })[v]? = some { y with closed:=false,erase:=false } := by
  rw[List.getElem?_set,if_pos rfl,if_pos (by have:=hC1.vlen;omega)]
 have hA3:=At.setVol (j:=2) (x':=⟨false,false,y.gen+1⟩) (u:=.int .i64 (y.gen+1)) hA2 (by omega) hg2 rfl;rw[List.set_set]at hA3;have hCs0:=(((Chg.refl (· = c) W1).setCell (p:=⟨c,2+v * 3+0,none⟩) (.inl rfl) (.bool false)).setCell (p:=⟨c,2+v * 3+1,none⟩) (.inl rfl) (.bool false)).setCell (p:=⟨c,2+v * 3+2,none⟩) (.inl rfl) (.int .i64 (y.gen+1));have hC3:=hC1.chgVols hCs0 hA3 (by rw[List.length_set];exact hC1.vlen);have hCs:=hE1.chg_trans hCs0;rw[Nat.add_zero]at hCs hC3;have HR:=Hh (show _∧_ from⟨hCs,hC3⟩);clear hA1 hA2 hA3 hg1 hg2 hCs0 hCs hC3 h;go_wp2_with fail
 go_ret
 obtain⟨hCs,hC3⟩:=HR.out;refine⟨rfl,?_,hCs⟩
 exact hC3
end volume
open Go.RowKit
section apply
variable(w:World)(B:Nat→Prop)(c mb mn:Nat)(C:Ct)(h:CtAt w B c mb mn C)(x:Cmd)(dv:Value)(hS:w.ownsRow 0 3 1 dv x.disks.length (x.disks.map (Value.int .i64)))(hdl:x.disks.length≤17592186043904)(hnl:x.name.size≤9223372036854775807)
include h hS hdl hnl
theorem apply_put(hg:x.good=true)(hk:x.kind=1)(PC:Ct→Prop)(err:Int)
 (hput:∀W,Ext w W→Calls prog 38 #[.pointer (some ⟨c,0,none⟩),qQd x dv] W fun e w'=>e=.returned (.int .i64 err)∧∃C',PC C'∧CtAt w' B c mb mn C'∧Chg (C.S c mb mn) W w') :
 Calls prog 16 #[.pointer (some ⟨c,0,none⟩),qQd x dv] w fun e w'=>e=.returned (qXq err 0 0 0 (.slice none 0 0))∧∃C',PC C'∧CtAt w' B c mb mn C'∧Chg (C.S c mb mn) w w':=by
 have HK:=Hh hk;have HPUT:=Hh hput;clear hk hput;unfold qQd at HPUT⊢
 go_enter func16,ntmps16
 have hX:=(At.new w 76 (cmdCells x dv)).alloc (.cells resCells 72);have hE:=((Er w).alloc (.cells (cmdCells x dv) 76)).alloc (.cells resCells 72);have hR:=At.new (w.alloc (.cells (cmdCells x dv) 76)) 72 resCells;rw[show(w.alloc (.cells (cmdCells x dv) 76)).heap.size=w.heap.size+1 by simp]at hR
 go_upto_region 1 with fail
 generalize hxb:w.heap.size=xb at *;generalize World.alloc _ _=W at *;have x0:=hX.cell 0;have x1:=hX.cell 1;have x2:=hX.cell 2;have x3:=hX.cell 3;have x4:=hX.cell 4;have x5:=hX.cell 5;have x6:=hX.cell 6;have x7:=hX.cell 7;have x8:=hX.cell 8;have x9:=hX.cell 9;have x10:=hX.cell 10;simp at x0 x1 x2 x3 x4 x5 x6 x7 x8 x9 x10;have HG:=Hh (qZ2 W x dv (Sl.of_own (own_kx hS hE)) (by omega) hnl);unfold qQd at HG;rw[hg]at HG;go_wp2_with fail
 refine HG.out.mono ?_;rintro e W1 ⟨rfl,hE1⟩;have hX1:=hX.ext hE1;have hR1:=hR.ext hE1;have hE2:=hE.trans hE1;clear x0 x1 x2 x3 x4 x5 x6 x7 x8 x9 x10 hX hR hE hE1 HG;have x0:=hX1.cell 0;have x1:=hX1.cell 1;have x2:=hX1.cell 2;have x3:=hX1.cell 3;have x4:=hX1.cell 4;have x5:=hX1.cell 5;have x6:=hX1.cell 6;have x7:=hX1.cell 7;have x8:=hX1.cell 8;have x9:=hX1.cell 9;have x10:=hX1.cell 10;simp at x0 x1 x2 x3 x4 x5 x6 x7 x8 x9 x10;have hk1:(x.kind == 1)=true:=by rw[HK.out];rfl
 go_wp2_with fail
 refine(HPUT.out W1 hE2).mono ?_
 rintro e W2 ⟨rfl,C',hPC,hC',hCh⟩;have hR2:=hR1.chg hCh (S_not (h.ext hE2) hR1 (by decide) (by decide));have f0:=hR2.frozen 0;have f1:=hR2.frozen 1;have f2:=hR2.frozen 2;have f3:=hR2.frozen 3;have f4:=hR2.frozen 4;have r0:=hR2.cell 0;have r1:=hR2.cell 1;have r2:=hR2.cell 2;have r3:=hR2.cell 3;have r4:=hR2.cell 4;simp at r0 r1 r2 r3 r4;clear x0 x1 x2 x3 x4 x5 x6 x7 x8 x9 x10;go_wp2_with fail
 obtain⟨hZ,hCz⟩:=qZ4 hR2 (.int .i64 err) (.int .u64 0) (.int .i64 0) (.int .u32 0) (.slice none 0 0);generalize World.setCell _ _ _=WZ at hZ hCz⊢;have g0:=hZ.cell 0;have g1:=hZ.cell 1;have g2:=hZ.cell 2;have g3:=hZ.cell 3;have g4:=hZ.cell 4;simp at g0 g1 g2 g3 g4;have hCf:=hC'.far hCz hR2 (by decide) (by decide) (by decide);have hwl:w.heap.size≤xb+1:=by omega
 have hCh2:Chg (C.S c mb mn) w W2:=Chg.trans (Chg.mono hE2 (fun _ _ hh=>hh.elim)) hCh (fun _ _ hh=>hh);refine bodyPost_ret (v:=qXq err 0 0 0 (.slice none 0 0)) (by simp[results,results16,go_sem,g0,g1,g2,g3,g4,qXq]) rfl ⟨rfl,C',hPC,hCf,Chg.trans hCh2 hCz fun j hj h'=>by have e:j=xb+1:=h';omega⟩
theorem apply_named(hg:x.good=true)(hk:x.kind=2∨x.kind=3∨x.kind=5)(PC:Ct→Prop)(err:Int)(bid:Nat)(sz:Int)(sm:Nat)
 (hput:∀W,Ext w W→Calls prog 39 #[.pointer (some ⟨c,0,none⟩),qQd x dv] W fun e w'=>e=.returned (qXq err bid sz sm (.slice none 0 0))∧∃C',PC C'∧CtAt w' B c mb mn C'∧Chg (C.S c mb mn) W w') :
 Calls prog 16 #[.pointer (some ⟨c,0,none⟩),qQd x dv] w fun e w'=>e=.returned (qXq err bid sz sm (.slice none 0 0))∧∃C',PC C'∧CtAt w' B c mb mn C'∧Chg (C.S c mb mn) w w':=by
 have HK:=Hh hk;have HPUT:=Hh hput;clear hk hput;unfold qQd at HPUT⊢
 go_enter func16,ntmps16
 have hX:=(At.new w 76 (cmdCells x dv)).alloc (.cells resCells 72);have hE:=((Er w).alloc (.cells (cmdCells x dv) 76)).alloc (.cells resCells 72);have hR:=At.new (w.alloc (.cells (cmdCells x dv) 76)) 72 resCells;rw[show(w.alloc (.cells (cmdCells x dv) 76)).heap.size=w.heap.size+1 by simp]at hR
 go_upto_region 1 with fail
 generalize hxb:w.heap.size=xb at *;generalize World.alloc _ _=W at *;have x0:=hX.cell 0;have x1:=hX.cell 1;have x2:=hX.cell 2;have x3:=hX.cell 3;have x4:=hX.cell 4;have x5:=hX.cell 5;have x6:=hX.cell 6;have x7:=hX.cell 7;have x8:=hX.cell 8;have x9:=hX.cell 9;have x10:=hX.cell 10;simp at x0 x1 x2 x3 x4 x5 x6 x7 x8 x9 x10;have HG:=Hh (qZ2 W x dv (Sl.of_own (own_kx hS hE)) (by omega) hnl);unfold qQd at HG;rw[hg]at HG;go_wp2_with fail
 refine HG.out.mono ?_;rintro e W1 ⟨rfl,hE1⟩;have hX1:=hX.ext hE1;have hR1:=hR.ext hE1;have hE2:=hE.trans hE1;clear x0 x1 x2 x3 x4 x5 x6 x7 x8 x9 x10 hX hR hE hE1 HG;have x0:=hX1.cell 0;have x1:=hX1.cell 1;have x2:=hX1.cell 2;have x3:=hX1.cell 3;have x4:=hX1.cell 4;have x5:=hX1.cell 5;have x6:=hX1.cell 6;have x7:=hX1.cell 7;have x8:=hX1.cell 8;have x9:=hX1.cell 9;have x10:=hX1.cell 10;simp at x0 x1 x2 x3 x4 x5 x6 x7 x8 x9 x10
 have hkk:(x.kind == 1)=false∧((x.kind == 2)=true∨(x.kind == 2)=false∧((x.kind == 3)=true∨(x.kind == 3)=false∧(x.kind == 5)=true)):=by
  rcases HK.out with e|e|e <;> rw[e] <;> decide
 obtain⟨hk1,hkk⟩:=hkk;unfold qXq at HPUT;rcases hkk with k2|⟨k2,k3|⟨k3,k5⟩⟩
 all_goals
  go_wp2_with fail
  refine(HPUT.out W1 hE2).mono ?_
  rintro e W2 ⟨rfl,C',hPC,hC',hCh⟩;have hR2:=hR1.chg hCh (S_not (h.ext hE2) hR1 (by decide) (by decide));have f0:=hR2.frozen 0;have f1:=hR2.frozen 1;have f2:=hR2.frozen 2;have f3:=hR2.frozen 3;have f4:=hR2.frozen 4;have r0:=hR2.cell 0;have r1:=hR2.cell 1;have r2:=hR2.cell 2;have r3:=hR2.cell 3;have r4:=hR2.cell 4;simp at r0 r1 r2 r3 r4;clear x0 x1 x2 x3 x4 x5 x6 x7 x8 x9 x10;go_wp2_with fail
  obtain⟨hZ,hCz⟩:=qZ4 hR2 (.int .i64 err) (.int .u64 (bid:Int)) (.int .i64 sz) (.int .u32 (sm:Int)) (.slice none 0 0);generalize World.setCell _ _ _=WZ at hZ hCz⊢;have g0:=hZ.cell 0;have g1:=hZ.cell 1;have g2:=hZ.cell 2;have g3:=hZ.cell 3;have g4:=hZ.cell 4;simp at g0 g1 g2 g3 g4;have hCf:=hC'.far hCz hR2 (by decide) (by decide) (by decide);have hwl:w.heap.size≤xb+1:=by omega
  have hCh2:Chg (C.S c mb mn) w W2:=Chg.trans (Chg.mono hE2 (fun _ _ hh=>hh.elim)) hCh (fun _ _ hh=>hh);refine bodyPost_ret (v:=qXq err bid sz sm (.slice none 0 0)) (by simp[results,results16,go_sem,g0,g1,g2,g3,g4,qXq]) rfl ⟨rfl,C',hPC,hCf,Chg.trans hCh2 hCz fun j hj h'=>by have e:j=xb+1:=h';omega⟩
theorem apply_forget(hg:x.good=true)(hk:x.kind=10)(PC:Ct→Prop)(err:Int){r:BR}(hf:C.find x.blob=some r)
 (hput:∀W,Ext w W→Calls prog 43 #[.pointer (some ⟨c,0,none⟩),.pointer (some ⟨r.g,0,none⟩)] W fun e w'=>e=.returned (.int .i64 err)∧∃C',PC C'∧CtAt w' B c mb mn C'∧Chg (C.S c mb mn) W w') :
 Calls prog 16 #[.pointer (some ⟨c,0,none⟩),qQd x dv] w fun e w'=>e=.returned (qXq err 0 0 0 (.slice none 0 0))∧∃C',PC C'∧CtAt w' B c mb mn C'∧Chg (C.S c mb mn) w w':=by
 have HK:=Hh hk;have HPUT:=Hh hput;clear hk hput;unfold qQd
 go_enter func16,ntmps16
 have hX:=(At.new w 76 (cmdCells x dv)).alloc (.cells resCells 72);have hE:=((Er w).alloc (.cells (cmdCells x dv) 76)).alloc (.cells resCells 72);have hR:=At.new (w.alloc (.cells (cmdCells x dv) 76)) 72 resCells;rw[show(w.alloc (.cells (cmdCells x dv) 76)).heap.size=w.heap.size+1 by simp]at hR
 go_upto_region 1 with fail
 generalize hxb:w.heap.size=xb at *;generalize World.alloc _ _=W at *;have x0:=hX.cell 0;have x1:=hX.cell 1;have x2:=hX.cell 2;have x3:=hX.cell 3;have x4:=hX.cell 4;have x5:=hX.cell 5;have x6:=hX.cell 6;have x7:=hX.cell 7;have x8:=hX.cell 8;have x9:=hX.cell 9;have x10:=hX.cell 10;simp at x0 x1 x2 x3 x4 x5 x6 x7 x8 x9 x10;have HG:=Hh (qZ2 W x dv (Sl.of_own (own_kx hS hE)) (by omega) hnl);unfold qQd at HG;rw[hg]at HG;go_wp2_with fail
 refine HG.out.mono ?_;rintro e W1 ⟨rfl,hE1⟩;have hX1:=hX.ext hE1;have hR1:=hR.ext hE1;have hE2:=hE.trans hE1;clear x0 x1 x2 x3 x4 x5 x6 x7 x8 x9 x10 hX hR hE hE1 HG;have x0:=hX1.cell 0;have x1:=hX1.cell 1;have x2:=hX1.cell 2;have x3:=hX1.cell 3;have x4:=hX1.cell 4;have x5:=hX1.cell 5;have x6:=hX1.cell 6;have x7:=hX1.cell 7;have x8:=hX1.cell 8;have x9:=hX1.cell 9;have x10:=hX1.cell 10;simp at x0 x1 x2 x3 x4 x5 x6 x7 x8 x9 x10;have k1:(x.kind == 1)=false:=by rw[HK.out];rfl
 have k2:(x.kind == 2)=false:=by rw[HK.out];rfl
 have k3:(x.kind == 3)=false:=by rw[HK.out];rfl
 have k5:(x.kind == 5)=false:=by rw[HK.out];rfl
 have k4:(x.kind == 4)=false:=by rw[HK.out];rfl
 have k11:(x.kind == 11)=false:=by rw[HK.out];rfl
 have k12:(x.kind == 12)=false:=by rw[HK.out];rfl
 have k13:(x.kind == 13)=false:=by rw[HK.out];rfl
 obtain⟨c0,c1⟩:=(h.ext hE2).c0;have hlk:=((h.ext hE2).ext ((Er W1).drew)).look x.blob;rw[hf]at hlk;simp only[ptrO]at hlk
 go_upto_region 16 with fail
 go_region
 clear hlk c0 c1 x0 x1 x2 x3 x4 x5 x6 x7 x8 x9 x10;replace hX1:=hX1.drew;replace hR1:=hR1.drew;replace hE2:=hE2.drew;generalize World.drew _=W1 at *;have x0:=hX1.cell 0;have x1:=hX1.cell 1;have x2:=hX1.cell 2;have x3:=hX1.cell 3;have x4:=hX1.cell 4;have x5:=hX1.cell 5;have x6:=hX1.cell 6;have x7:=hX1.cell 7;have x8:=hX1.cell 8;have x9:=hX1.cell 9;have x10:=hX1.cell 10;simp at x0 x1 x2 x3 x4 x5 x6 x7 x8 x9 x10;have k10:(x.kind == 10)=true:=by rw[HK.out];rfl
 go_wp2_with fail
 refine(HPUT.out W1 hE2).mono ?_
 rintro e W2 ⟨rfl,C',hPC,hC',hCh⟩;have hR2:=hR1.chg hCh (S_not (h.ext hE2) hR1 (by decide) (by decide));have f0:=hR2.frozen 0;have f1:=hR2.frozen 1;have f2:=hR2.frozen 2;have f3:=hR2.frozen 3;have f4:=hR2.frozen 4;have r0:=hR2.cell 0;have r1:=hR2.cell 1;have r2:=hR2.cell 2;have r3:=hR2.cell 3;have r4:=hR2.cell 4;simp at r0 r1 r2 r3 r4;clear x0 x1 x2 x3 x4 x5 x6 x7 x8 x9 x10;go_wp2_with fail
 obtain⟨hZ,hCz⟩:=qZ4 hR2 (.int .i64 err) (.int .u64 0) (.int .i64 0) (.int .u32 0) (.slice none 0 0);generalize World.setCell _ _ _=WZ at hZ hCz⊢;have g0:=hZ.cell 0;have g1:=hZ.cell 1;have g2:=hZ.cell 2;have g3:=hZ.cell 3;have g4:=hZ.cell 4;simp at g0 g1 g2 g3 g4;have hCf:=hC'.far hCz hR2 (by decide) (by decide) (by decide);have hwl:w.heap.size≤xb+1:=by omega
 have hCh2:Chg (C.S c mb mn) w W2:=Chg.trans (Chg.mono hE2 (fun _ _ hh=>hh.elim)) hCh (fun _ _ hh=>hh);refine bodyPost_ret (v:=qXq err 0 0 0 (.slice none 0 0)) (by simp[results,results16,go_sem,g0,g1,g2,g3,g4,qXq]) rfl ⟨rfl,C',hPC,hCf,Chg.trans hCh2 hCz fun j hj h'=>by have e:j=xb+1:=h';omega⟩
theorem apply_change(hg:x.good=true)(hk:x.kind=6∨x.kind=7∨x.kind=8∨x.kind=9∨x.kind=14)(PC:Ct→Prop)(err:Int){r:BR}(hf:C.find x.blob=some r)
 (hput:∀W,Ext w W→Calls prog 44 #[.pointer (some ⟨c,0,none⟩),.pointer (some ⟨r.g,0,none⟩),qQd x dv] W fun e w'=>e=.returned (.int .i64 err)∧∃C',PC C'∧CtAt w' B c mb mn C'∧Chg (C.S c mb mn) W w') :
 Calls prog 16 #[.pointer (some ⟨c,0,none⟩),qQd x dv] w fun e w'=>e=.returned (qXq err 0 0 0 (.slice none 0 0))∧∃C',PC C'∧CtAt w' B c mb mn C'∧Chg (C.S c mb mn) w w':=by
 have HK:=Hh hk;have HPUT:=Hh hput;clear hk hput;unfold qQd at HPUT⊢
 go_enter func16,ntmps16
 have hX:=(At.new w 76 (cmdCells x dv)).alloc (.cells resCells 72);have hE:=((Er w).alloc (.cells (cmdCells x dv) 76)).alloc (.cells resCells 72);have hR:=At.new (w.alloc (.cells (cmdCells x dv) 76)) 72 resCells;rw[show(w.alloc (.cells (cmdCells x dv) 76)).heap.size=w.heap.size+1 by simp]at hR
 go_upto_region 1 with fail
 generalize hxb:w.heap.size=xb at *;generalize World.alloc _ _=W at *;have x0:=hX.cell 0;have x1:=hX.cell 1;have x2:=hX.cell 2;have x3:=hX.cell 3;have x4:=hX.cell 4;have x5:=hX.cell 5;have x6:=hX.cell 6;have x7:=hX.cell 7;have x8:=hX.cell 8;have x9:=hX.cell 9;have x10:=hX.cell 10;simp at x0 x1 x2 x3 x4 x5 x6 x7 x8 x9 x10;have HG:=Hh (qZ2 W x dv (Sl.of_own (own_kx hS hE)) (by omega) hnl);unfold qQd at HG;rw[hg]at HG;go_wp2_with fail
 refine HG.out.mono ?_;rintro e W1 ⟨rfl,hE1⟩;have hX1:=hX.ext hE1;have hR1:=hR.ext hE1;have hE2:=hE.trans hE1;clear x0 x1 x2 x3 x4 x5 x6 x7 x8 x9 x10 hX hR hE hE1 HG;have x0:=hX1.cell 0;have x1:=hX1.cell 1;have x2:=hX1.cell 2;have x3:=hX1.cell 3;have x4:=hX1.cell 4;have x5:=hX1.cell 5;have x6:=hX1.cell 6;have x7:=hX1.cell 7;have x8:=hX1.cell 8;have x9:=hX1.cell 9;have x10:=hX1.cell 10;simp at x0 x1 x2 x3 x4 x5 x6 x7 x8 x9 x10;have k1:(x.kind == 1)=false:=by rcases HK.out with e|e|e|e|e <;> rw[e] <;> rfl
 have k2:(x.kind == 2)=false:=by rcases HK.out with e|e|e|e|e <;> rw[e] <;> rfl
 have k3:(x.kind == 3)=false:=by rcases HK.out with e|e|e|e|e <;> rw[e] <;> rfl
 have k5:(x.kind == 5)=false:=by rcases HK.out with e|e|e|e|e <;> rw[e] <;> rfl
 have k4:(x.kind == 4)=false:=by rcases HK.out with e|e|e|e|e <;> rw[e] <;> rfl
 have k11:(x.kind == 11)=false:=by rcases HK.out with e|e|e|e|e <;> rw[e] <;> rfl
 have k12:(x.kind == 12)=false:=by rcases HK.out with e|e|e|e|e <;> rw[e] <;> rfl
 have k13:(x.kind == 13)=false:=by rcases HK.out with e|e|e|e|e <;> rw[e] <;> rfl
 have k10:(x.kind == 10)=false:=by rcases HK.out with e|e|e|e|e <;> rw[e] <;> rfl
 obtain⟨c0,c1⟩:=(h.ext hE2).c0;have hlk:=((h.ext hE2).ext ((Er W1).drew)).look x.blob;rw[hf]at hlk;simp only[ptrO]at hlk
 go_upto_region 16 with fail
 go_region
 clear hlk c0 c1 x0 x1 x2 x3 x4 x5 x6 x7 x8 x9 x10;replace hX1:=hX1.drew;replace hR1:=hR1.drew;replace hE2:=hE2.drew;generalize World.drew _=W1 at *;have x0:=hX1.cell 0;have x1:=hX1.cell 1;have x2:=hX1.cell 2;have x3:=hX1.cell 3;have x4:=hX1.cell 4;have x5:=hX1.cell 5;have x6:=hX1.cell 6;have x7:=hX1.cell 7;have x8:=hX1.cell 8;have x9:=hX1.cell 9;have x10:=hX1.cell 10;simp at x0 x1 x2 x3 x4 x5 x6 x7 x8 x9 x10;go_wp2_with fail
 refine(HPUT.out W1 hE2).mono ?_
 rintro e W2 ⟨rfl,C',hPC,hC',hCh⟩;have hR2:=hR1.chg hCh (S_not (h.ext hE2) hR1 (by decide) (by decide));have f0:=hR2.frozen 0;have f1:=hR2.frozen 1;have f2:=hR2.frozen 2;have f3:=hR2.frozen 3;have f4:=hR2.frozen 4;have r0:=hR2.cell 0;have r1:=hR2.cell 1;have r2:=hR2.cell 2;have r3:=hR2.cell 3;have r4:=hR2.cell 4;simp at r0 r1 r2 r3 r4;clear x0 x1 x2 x3 x4 x5 x6 x7 x8 x9 x10;go_wp2_with fail
 obtain⟨hZ,hCz⟩:=qZ4 hR2 (.int .i64 err) (.int .u64 0) (.int .i64 0) (.int .u32 0) (.slice none 0 0);generalize World.setCell _ _ _=WZ at hZ hCz⊢;have g0:=hZ.cell 0;have g1:=hZ.cell 1;have g2:=hZ.cell 2;have g3:=hZ.cell 3;have g4:=hZ.cell 4;simp at g0 g1 g2 g3 g4;have hCf:=hC'.far hCz hR2 (by decide) (by decide) (by decide);have hwl:w.heap.size≤xb+1:=by omega
 have hCh2:Chg (C.S c mb mn) w W2:=Chg.trans (Chg.mono hE2 (fun _ _ hh=>hh.elim)) hCh (fun _ _ hh=>hh);refine bodyPost_ret (v:=qXq err 0 0 0 (.slice none 0 0)) (by simp[results,results16,go_sem,g0,g1,g2,g3,g4,qXq]) rfl ⟨rfl,C',hPC,hCf,Chg.trans hCh2 hCz fun j hj h'=>by have e:j=xb+1:=h';omega⟩
theorem apply_gone(hg:x.good=true)(hk:x.kind=6∨x.kind=7∨x.kind=8∨x.kind=9∨x.kind=14∨x.kind=10)(hf:C.find x.blob=none) :
 Calls prog 16 #[.pointer (some ⟨c,0,none⟩),qQd x dv] w fun e w'=>e=.returned (qXq 5 0 0 0 (.slice none 0 0))∧Ext w w':=by
 have HK:=Hh hk;clear hk;unfold qQd
 go_enter func16,ntmps16
 have hX:=(At.new w 76 (cmdCells x dv)).alloc (.cells resCells 72);have hE:=((Er w).alloc (.cells (cmdCells x dv) 76)).alloc (.cells resCells 72);have hR:=At.new (w.alloc (.cells (cmdCells x dv) 76)) 72 resCells;rw[show(w.alloc (.cells (cmdCells x dv) 76)).heap.size=w.heap.size+1 by simp]at hR
 go_upto_region 1 with fail
 generalize hxb:w.heap.size=xb at *;generalize World.alloc _ _=W at *;have x0:=hX.cell 0;have x1:=hX.cell 1;have x2:=hX.cell 2;have x3:=hX.cell 3;have x4:=hX.cell 4;have x5:=hX.cell 5;have x6:=hX.cell 6;have x7:=hX.cell 7;have x8:=hX.cell 8;have x9:=hX.cell 9;have x10:=hX.cell 10;simp at x0 x1 x2 x3 x4 x5 x6 x7 x8 x9 x10;have HG:=Hh (qZ2 W x dv (Sl.of_own (own_kx hS hE)) (by omega) hnl);unfold qQd at HG;rw[hg]at HG;go_wp2_with fail
 refine HG.out.mono ?_;rintro e W1 ⟨rfl,hE1⟩;have hX1:=hX.ext hE1;have hR1:=hR.ext hE1;have hE2:=hE.trans hE1;clear x0 x1 x2 x3 x4 x5 x6 x7 x8 x9 x10 hX hR hE hE1 HG;have x0:=hX1.cell 0;have x1:=hX1.cell 1;have x2:=hX1.cell 2;have x3:=hX1.cell 3;have x4:=hX1.cell 4;have x5:=hX1.cell 5;have x6:=hX1.cell 6;have x7:=hX1.cell 7;have x8:=hX1.cell 8;have x9:=hX1.cell 9;have x10:=hX1.cell 10;simp at x0 x1 x2 x3 x4 x5 x6 x7 x8 x9 x10;have k1:(x.kind == 1)=false:=by rcases HK.out with e|e|e|e|e|e <;> rw[e] <;> rfl
 have k2:(x.kind == 2)=false:=by rcases HK.out with e|e|e|e|e|e <;> rw[e] <;> rfl
 have k3:(x.kind == 3)=false:=by rcases HK.out with e|e|e|e|e|e <;> rw[e] <;> rfl
 have k5:(x.kind == 5)=false:=by rcases HK.out with e|e|e|e|e|e <;> rw[e] <;> rfl
 have k4:(x.kind == 4)=false:=by rcases HK.out with e|e|e|e|e|e <;> rw[e] <;> rfl
 have k11:(x.kind == 11)=false:=by rcases HK.out with e|e|e|e|e|e <;> rw[e] <;> rfl
 have k12:(x.kind == 12)=false:=by rcases HK.out with e|e|e|e|e|e <;> rw[e] <;> rfl
 have k13:(x.kind == 13)=false:=by rcases HK.out with e|e|e|e|e|e <;> rw[e] <;> rfl
 obtain⟨c0,c1⟩:=(h.ext hE2).c0;have hlk:=((h.ext hE2).ext ((Er W1).drew)).look x.blob;rw[hf]at hlk;simp only[ptrO]at hlk
 go_upto_region 16 with fail
 go_region
 clear hlk c0 c1 x0 x1 x2 x3 x4 x5 x6 x7 x8 x9 x10;replace hX1:=hX1.drew;replace hR1:=hR1.drew;replace hE2:=hE2.drew;generalize World.drew _=W1 at *;have f0:=hR1.frozen 0;have f1:=hR1.frozen 1;have f2:=hR1.frozen 2;have f3:=hR1.frozen 3;have f4:=hR1.frozen 4;have r0:=hR1.cell 0;have r1:=hR1.cell 1;have r2:=hR1.cell 2;have r3:=hR1.cell 3;have r4:=hR1.cell 4;simp at r0 r1 r2 r3 r4;go_wp2_with fail
 obtain⟨hZ,hCz⟩:=qZ4 hR1 (.int .i64 5) (.int .u64 0) (.int .i64 0) (.int .u32 0) (.slice none 0 0);generalize World.setCell _ _ _=WZ at hZ hCz⊢;have g0:=hZ.cell 0;have g1:=hZ.cell 1;have g2:=hZ.cell 2;have g3:=hZ.cell 3;have g4:=hZ.cell 4;simp at g0 g1 g2 g3 g4;have hwl:w.heap.size≤xb+1:=by omega
 refine bodyPost_ret (v:=qXq 5 0 0 0 (.slice none 0 0)) (by simp[results,results16,go_sem,g0,g1,g2,g3,g4,qXq]) rfl ⟨rfl,Chg.mono (hE2.chg_trans hCz) fun j hj h'=>by have e:j=xb+1:=h';omega⟩
end apply
open Go.RowKit
theorem own_base0'{w:World}{b1 b2:Nat}{e:TypeId}{s:Nat}{v:Value}{n:Nat}{xs:List Value}(h:w.ownsRow b1 e s v n xs)(hb:b2≤b1):w.ownsRow b2 e s v n xs:=by
 refine⟨h.1,?_⟩
 rcases h.2 with hn|⟨g,cap,cur,hv,hbg,rest⟩
 ·exact .inl hn
 ·exact .inr ⟨g,cap,cur,hv,Nat.le_trans hb hbg,rest⟩
section apply
variable(w:World)(B:Nat→Prop)(c mb mn:Nat)(C:Ct)(h:CtAt w B c mb mn C)(x:Cmd)(dv:Value)(hS:w.ownsRow 0 3 1 dv x.disks.length (x.disks.map (Value.int .i64)))(hdl:x.disks.length≤17592186043904)(hnl:x.name.size≤9223372036854775807)
include h hS hdl hnl
theorem apply_volume(hg:x.good=true)(hk:x.kind=11∨x.kind=12∨x.kind=13)(PC:Ct→Prop)(err:Int)
 (hput:∀W,Ext w W→Calls prog 42 #[.pointer (some ⟨c,0,none⟩),qQd x dv] W fun e w'=>e=.returned (.int .i64 err)∧∃C',PC C'∧CtAt w' B c mb mn C'∧Chg (C.S c mb mn) W w') :
 Calls prog 16 #[.pointer (some ⟨c,0,none⟩),qQd x dv] w fun e w'=>e=.returned (qXq err 0 0 0 (.slice none 0 0))∧∃C',PC C'∧CtAt w' B c mb mn C'∧Chg (C.S c mb mn) w w':=by
 have HK:=Hh hk;have HPUT:=Hh hput;clear hk hput;unfold qQd at HPUT⊢
 go_enter func16,ntmps16
 have hX:=(At.new w 76 (cmdCells x dv)).alloc (.cells resCells 72);have hE:=((Er w).alloc (.cells (cmdCells x dv) 76)).alloc (.cells resCells 72);have hR:=At.new (w.alloc (.cells (cmdCells x dv) 76)) 72 resCells;rw[show(w.alloc (.cells (cmdCells x dv) 76)).heap.size=w.heap.size+1 by simp]at hR
 go_upto_region 1 with fail
 generalize hxb:w.heap.size=xb at *;generalize World.alloc _ _=W at *;have x0:=hX.cell 0;have x1:=hX.cell 1;have x2:=hX.cell 2;have x3:=hX.cell 3;have x4:=hX.cell 4;have x5:=hX.cell 5;have x6:=hX.cell 6;have x7:=hX.cell 7;have x8:=hX.cell 8;have x9:=hX.cell 9;have x10:=hX.cell 10;simp at x0 x1 x2 x3 x4 x5 x6 x7 x8 x9 x10;have HG:=Hh (qZ2 W x dv (Sl.of_own (own_kx hS hE)) (by omega) hnl);unfold qQd at HG;rw[hg]at HG;go_wp2_with fail
 refine HG.out.mono ?_;rintro e W1 ⟨rfl,hE1⟩;have hX1:=hX.ext hE1;have hR1:=hR.ext hE1;have hE2:=hE.trans hE1;clear x0 x1 x2 x3 x4 x5 x6 x7 x8 x9 x10 hX hR hE hE1 HG;have x0:=hX1.cell 0;have x1:=hX1.cell 1;have x2:=hX1.cell 2;have x3:=hX1.cell 3;have x4:=hX1.cell 4;have x5:=hX1.cell 5;have x6:=hX1.cell 6;have x7:=hX1.cell 7;have x8:=hX1.cell 8;have x9:=hX1.cell 9;have x10:=hX1.cell 10;simp at x0 x1 x2 x3 x4 x5 x6 x7 x8 x9 x10;have k1:(x.kind == 1)=false:=by rcases HK.out with e|e|e <;> rw[e] <;> rfl
 have k2:(x.kind == 2)=false:=by rcases HK.out with e|e|e <;> rw[e] <;> rfl
 have k3:(x.kind == 3)=false:=by rcases HK.out with e|e|e <;> rw[e] <;> rfl
 have k5:(x.kind == 5)=false:=by rcases HK.out with e|e|e <;> rw[e] <;> rfl
 have k4:(x.kind == 4)=false:=by rcases HK.out with e|e|e <;> rw[e] <;> rfl
 have hkk:(x.kind == 11)=true∨(x.kind == 11)=false∧((x.kind == 12)=true∨(x.kind == 12)=false∧(x.kind == 13)=true):=by
  rcases HK.out with e|e|e <;> rw[e] <;> decide
 rcases hkk with k2|⟨k2,k3|⟨k3,k5⟩⟩
 all_goals
  go_wp2_with fail
  refine(HPUT.out W1 hE2).mono ?_
  rintro e W2 ⟨rfl,C',hPC,hC',hCh⟩;have hR2:=hR1.chg hCh (S_not (h.ext hE2) hR1 (by decide) (by decide));have f0:=hR2.frozen 0;have f1:=hR2.frozen 1;have f2:=hR2.frozen 2;have f3:=hR2.frozen 3;have f4:=hR2.frozen 4;have r0:=hR2.cell 0;have r1:=hR2.cell 1;have r2:=hR2.cell 2;have r3:=hR2.cell 3;have r4:=hR2.cell 4;simp at r0 r1 r2 r3 r4;clear x0 x1 x2 x3 x4 x5 x6 x7 x8 x9 x10;go_wp2_with fail
  obtain⟨hZ,hCz⟩:=qZ4 hR2 (.int .i64 err) (.int .u64 0) (.int .i64 0) (.int .u32 0) (.slice none 0 0);generalize World.setCell _ _ _=WZ at hZ hCz⊢;have g0:=hZ.cell 0;have g1:=hZ.cell 1;have g2:=hZ.cell 2;have g3:=hZ.cell 3;have g4:=hZ.cell 4;simp at g0 g1 g2 g3 g4;have hCf:=hC'.far hCz hR2 (by decide) (by decide) (by decide);have hwl:w.heap.size≤xb+1:=by omega
  have hCh2:Chg (C.S c mb mn) w W2:=Chg.trans (Chg.mono hE2 (fun _ _ hh=>hh.elim)) hCh (fun _ _ hh=>hh);refine bodyPost_ret (v:=qXq err 0 0 0 (.slice none 0 0)) (by simp[results,results16,go_sem,g0,g1,g2,g3,g4,qXq]) rfl ⟨rfl,C',hPC,hCf,Chg.trans hCh2 hCz fun j hj h'=>by have e:j=xb+1:=h';omega⟩
theorem apply_list(hg:x.good=true)(hk:x.kind=4)(hkn:∀p∈C.names,p.1.size≤maxLen)(hln:C.names.length≤1048576) :
 Calls prog 16 #[.pointer (some ⟨c,0,none⟩),qQd x dv] w fun e w'=>∃nv,e=.returned (qXq 0 0 0 0 nv)∧w'.ownsRow w.heap.size 9 1 nv C.names.length (((C.names.map (·.1)).mergeSort leN).map Value.string)∧Ext w w':=by
 have HK:=Hh hk;have HKN:=Hh (show _∧_ from⟨hkn,hln⟩);clear hk hkn hln;unfold qQd
 go_enter func16,ntmps16
 have hX:=(At.new w 76 (cmdCells x dv)).alloc (.cells resCells 72);have hE:=((Er w).alloc (.cells (cmdCells x dv) 76)).alloc (.cells resCells 72);have hR:=At.new (w.alloc (.cells (cmdCells x dv) 76)) 72 resCells;rw[show(w.alloc (.cells (cmdCells x dv) 76)).heap.size=w.heap.size+1 by simp]at hR
 go_upto_region 1 with fail
 generalize hxb:w.heap.size=xb at *;generalize World.alloc _ _=W at *;have x0:=hX.cell 0;have x1:=hX.cell 1;have x2:=hX.cell 2;have x3:=hX.cell 3;have x4:=hX.cell 4;have x5:=hX.cell 5;have x6:=hX.cell 6;have x7:=hX.cell 7;have x8:=hX.cell 8;have x9:=hX.cell 9;have x10:=hX.cell 10;simp at x0 x1 x2 x3 x4 x5 x6 x7 x8 x9 x10;have HG:=Hh (qZ2 W x dv (Sl.of_own (own_kx hS hE)) (by omega) hnl);unfold qQd at HG;rw[hg]at HG;go_wp2_with fail
 refine HG.out.mono ?_;rintro e W1 ⟨rfl,hE1⟩;have hX1:=hX.ext hE1;have hR1:=hR.ext hE1;have hE2:=hE.trans hE1;clear x0 x1 x2 x3 x4 x5 x6 x7 x8 x9 x10 hX hR hE hE1 HG;have x0:=hX1.cell 0;have x1:=hX1.cell 1;have x2:=hX1.cell 2;have x3:=hX1.cell 3;have x4:=hX1.cell 4;have x5:=hX1.cell 5;have x6:=hX1.cell 6;have x7:=hX1.cell 7;have x8:=hX1.cell 8;have x9:=hX1.cell 9;have x10:=hX1.cell 10;simp at x0 x1 x2 x3 x4 x5 x6 x7 x8 x9 x10;have k1:(x.kind == 1)=false:=by rw[HK.out];rfl
 have k2:(x.kind == 2)=false:=by rw[HK.out];rfl
 have k3:(x.kind == 3)=false:=by rw[HK.out];rfl
 have k5:(x.kind == 5)=false:=by rw[HK.out];rfl
 have k4:(x.kind == 4)=true:=by rw[HK.out];rfl
 clear x0 x1 x2 x3 x4 x5 x6 x7 x8 x9 x10;have x0:=hX1.cell 0;simp at x0;obtain⟨c0,c1⟩:=(h.ext hE2).c0;have HKY:=Hh (nkeys_any (some mn) W1);have HSO:=Hh (nsorted_any W1 mn (h.ext hE2).nm HKN.out.1 HKN.out.2);go_wp2_with fail
 refine HKY.out.mono ?_;rintro e W2 ⟨rfl,rfl⟩;go_wp2_with fail
 refine HSO.out.mono ?_;rintro e W2 ⟨nv,rfl,hON,hE3⟩;have hR2:=hR1.ext hE3;have hE4:=hE2.trans hE3;have HB:=Hh hE2.size;obtain⟨nA,nc,rfl⟩:=qQa hON;have HON:=Hh hON;clear x0 c0 c1 HKY HSO hON hR1 hE2 hE3 hX1;have f0:=hR2.frozen 0;have f1:=hR2.frozen 1;have f2:=hR2.frozen 2;have f3:=hR2.frozen 3;have f4:=hR2.frozen 4;have r0:=hR2.cell 0;have r1:=hR2.cell 1;have r2:=hR2.cell 2;have r3:=hR2.cell 3;have r4:=hR2.cell 4;simp at r0 r1 r2 r3 r4;go_wp2_with fail
 obtain⟨hZ,hCz⟩:=qZ4 hR2 (.int .i64 0) (.int .u64 0) (.int .i64 0) (.int .u32 0) (.slice nA C.names.length nc);generalize World.setCell _ _ _=WZ at hZ hCz⊢;have g0:=hZ.cell 0;have g1:=hZ.cell 1;have g2:=hZ.cell 2;have g3:=hZ.cell 3;have g4:=hZ.cell 4;simp at g0 g1 g2 g3 g4;have hwl:w.heap.size≤xb+1:=by omega
 have hON2:=qQb (own_base0' HON.out (Nat.le_trans (show w.heap.size≤W1.heap.size from HB.out) (Nat.le_refl _))) hCz (fun k hk e=>qQf HON.out hR2 (by decide) k hk e);refine bodyPost_ret (v:=qXq 0 0 0 0 (.slice nA C.names.length nc)) (by simp[results,results16,go_sem,g0,g1,g2,g3,g4,qXq]) rfl ⟨_,rfl,hON2,Chg.mono (hE4.chg_trans hCz) fun j hj h'=>by have e:j=xb+1:=h';omega⟩
omit h in
theorem apply_bad(hg:x.good=false) :
 Calls prog 16 #[.pointer (some ⟨c,0,none⟩),qQd x dv] w fun e w'=>e=.returned (qXq 3 0 0 0 (.slice none 0 0))∧Ext w w':=by
 unfold qQd
 go_enter func16,ntmps16
 have hX:=(At.new w 76 (cmdCells x dv)).alloc (.cells resCells 72);have hE:=((Er w).alloc (.cells (cmdCells x dv) 76)).alloc (.cells resCells 72);have hR:=At.new (w.alloc (.cells (cmdCells x dv) 76)) 72 resCells;rw[show(w.alloc (.cells (cmdCells x dv) 76)).heap.size=w.heap.size+1 by simp]at hR
 go_upto_region 1 with fail
 generalize hxb:w.heap.size=xb at *;generalize World.alloc _ _=W at *;have x0:=hX.cell 0;have x1:=hX.cell 1;have x2:=hX.cell 2;have x3:=hX.cell 3;have x4:=hX.cell 4;have x5:=hX.cell 5;have x6:=hX.cell 6;have x7:=hX.cell 7;have x8:=hX.cell 8;have x9:=hX.cell 9;have x10:=hX.cell 10;simp at x0 x1 x2 x3 x4 x5 x6 x7 x8 x9 x10;have HG:=Hh (qZ2 W x dv (Sl.of_own (own_kx hS hE)) (by omega) hnl);unfold qQd at HG;rw[hg]at HG;go_wp2_with fail
 refine HG.out.mono ?_;rintro e W1 ⟨rfl,hE1⟩;have hX1:=hX.ext hE1;have hR1:=hR.ext hE1;have hE2:=hE.trans hE1;clear x0 x1 x2 x3 x4 x5 x6 x7 x8 x9 x10 hX hR hE hE1 HG hX1;have f0:=hR1.frozen 0;have f1:=hR1.frozen 1;have f2:=hR1.frozen 2;have f3:=hR1.frozen 3;have f4:=hR1.frozen 4;have r0:=hR1.cell 0;have r1:=hR1.cell 1;have r2:=hR1.cell 2;have r3:=hR1.cell 3;have r4:=hR1.cell 4;simp at r0 r1 r2 r3 r4;go_wp2_with fail
 obtain⟨hZ,hCz⟩:=qZ4 hR1 (.int .i64 3) (.int .u64 0) (.int .i64 0) (.int .u32 0) (.slice none 0 0);generalize World.setCell _ _ _=WZ at hZ hCz⊢;have g0:=hZ.cell 0;have g1:=hZ.cell 1;have g2:=hZ.cell 2;have g3:=hZ.cell 3;have g4:=hZ.cell 4;simp at g0 g1 g2 g3 g4;have hwl:w.heap.size≤xb+1:=by omega
 refine bodyPost_ret (v:=qXq 3 0 0 0 (.slice none 0 0)) (by simp[results,results16,go_sem,g0,g1,g2,g3,g4,qXq]) rfl ⟨rfl,Chg.mono (hE2.chg_trans hCz) fun j hj h'=>by have e:j=xb+1:=h';omega⟩
end apply
end Go.Proofs.YtiojjokfeknhcaaGreat
