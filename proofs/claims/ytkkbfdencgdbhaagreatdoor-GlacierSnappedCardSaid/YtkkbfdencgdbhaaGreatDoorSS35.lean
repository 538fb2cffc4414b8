/-
  Part 35 of what the law leans on.
-/
import Derived.Test.YtkkbfdencgdbhaaGreatDoorSS27
import Derived.Test.YtkkbfdencgdbhaaGreatDoorSS34
set_option linter.unusedVariables false
set_option linter.unusedSimpArgs false
set_option linter.unusedSectionVars false
namespace Go.Proofs.YtkkbfdencgdbhaaGreatDoor
open Go.RowKit
def lastA(k:Int)(l:Last):List UInt8:=[k,l.seq,l.r.err].flatMap ienc++[l.r.blob].flatMap uenc++[l.r.size].flatMap ienc++[l.r.sum].flatMap uenc++[(l.r.names.length:Int)].flatMap ienc
def lastEnc(p:Int×Last):List UInt8:=lastA p.1 p.2++p.2.r.names.flatMap senc
def Mach.scl(M:Mach):List (Int×Last):=M.cl.mergeSort fun a b=>decide (a.1≤b.1)
def Mach.head(M:Mach):List UInt8:=[M.n].flatMap ienc++[(⟨M.P.enc.toArray⟩:ByteArray)].flatMap senc++[(M.cl.length:Int)].flatMap ienc
def Mach.enc(M:Mach):List UInt8:=M.head++M.scl.flatMap lastEnc
theorem Mach.scl_perm(M:Mach):M.scl.Perm M.cl:=List.mergeSort_perm _ _
theorem Mach.scl_asc{M:Mach}(h:(M.cl.map (·.1)).Nodup):(M.scl.map (·.1)).Pairwise (· < ·):=by
 have h1:M.scl.Pairwise fun a b=>a.1≤b.1:=by
  have:=List.pairwise_mergeSort (le:=fun a b:Int×Last=>decide (a.1≤b.1)) (fun a b c h h'=>by simp at *;omega) (fun a b=>by simp;omega) M.cl
  exact this.imp fun h=>by simpa using h
 have h2:(M.scl.map (·.1)).Nodup:=(M.scl_perm.map (·.1)).nodup_iff.2 h
 rw[List.pairwise_map]
 have h3:M.scl.Pairwise fun a b=>a.1≠b.1:=by
  have:=h2
  unfold List.Nodup at this
  rwa[List.pairwise_map]at this
 exact(h1.and h3).imp fun hh=>by omega
structure MW (n:Nat) (M:Mach):Prop where
 cat:PInv n M.P
 n2:n≤2147483648
 L:M.P.L.length<50
 num:0≤M.n∧M.n≤1099511627776
 cl:∀p∈M.cl,(1≤p.1∧p.1≤1073741824)∧(1≤p.2.seq∧p.2.seq≤1073741824)∧RsOk 1000 p.2.r
 len:M.cl.length≤100
 nd:(M.cl.map (·.1)).Nodup
theorem MInv.w{n:Nat}{M:Mach}(h:MInv n M)(hn:n<50):MW n M :=
 ⟨h.cat,by omega,by have:=h.cat.len;omega,by have:=h.num;omega,fun p hp=>⟨(h.cl p hp).1,(h.cl p hp).2.1,(h.cl p hp).2.2.le (by omega)⟩,by have:=h.len;omega,h.nd⟩
theorem penc_len{n:Nat}{P:Pm}(hi:PInv n P)(hn:P.L.length<50):P.enc.length≤15200:=by
 have:=enc_pre2 hi hn 12
 rw[List.take_of_length_le (by have:=hi.vlen;omega)]at this
 exact this
theorem lastA_length(k:Int)(l:Last):(lastA k l).length≤70:=by
 have:=ienc_length k
 have:=ienc_length l.seq
 have:=ienc_length l.r.err
 have:=uenc_length l.r.blob
 have:=ienc_length l.r.size
 have:=uenc_length l.r.sum
 have:=ienc_length l.r.names.length
 unfold lastA
 simp;omega
theorem nms_length{l:List ByteArray}(h:∀m∈l,m.size≤32):(l.flatMap senc).length≤l.length * 42 :=
 flatLe senc 42 l fun m hm=>by have:=senc_length m;have:=h m hm;omega
theorem lastEnc_length{p:Int×Last}(h:RsOk 1000 p.2.r):(lastEnc p).length≤42070:=by
 have h1:=lastA_length p.1 p.2
 have h2:=nms_length h.nm
 have h3:=h.len
 unfold lastEnc
 rw[List.length_append]
 omega
theorem head_length{n:Nat}{M:Mach}(h:MW n M):M.head.length≤15300:=by
 have h1:=penc_len h.cat h.L
 have h2:=ienc_length M.n
 have h3:=senc_length (⟨M.P.enc.toArray⟩:ByteArray)
 have h4:(⟨M.P.enc.toArray⟩:ByteArray).size=M.P.enc.length:=by show M.P.enc.toArray.size=_;simp
 have h5:=ienc_length M.cl.length
 unfold Mach.head
 simp;omega
theorem menc_pre{n:Nat}{M:Mach}(h:MW n M)(k:Nat):(M.head++(M.scl.take k).flatMap lastEnc).length≤4300000:=by
 have h1:=head_length h
 have h2:=flatLe lastEnc 42070 (M.scl.take k) fun p hp=>lastEnc_length (h.cl p (M.scl_perm.mem_iff.1 (List.mem_of_mem_take hp))).2.2
 have h3:(M.scl.take k).length≤M.scl.length:=List.length_take_le' _ _
 have h4:=M.scl_perm.length_eq
 have h5:=h.len
 have h6:(M.scl.take k).length * 42070≤100 * 42070:=Nat.mul_le_mul_right _ (by omega)
 rw[List.length_append]
 omega
theorem scl_get{n:Nat}{M:Mach}(h:MW n M){k:Nat}{p:Int×Last}(hp:M.scl[k]? = some p):lget p.1 M.cl=some p.2∧p∈M.cl:=by
 have hm:=M.scl_perm.mem_iff.1 (List.mem_of_getElem? hp)
 refine⟨?_,hm⟩
 have hnd:=h.nd
 generalize M.cl=L at hm hnd
 induction L with
 | nil=>cases hm
 | cons q r ih =>
  unfold lget
  rw[List.find?_cons]
  by_cases hq:q.1=p.1
  ·have e:decide (q.1=p.1)=true:=by simpa using hq
   rw[e]
   rcases List.mem_cons.1 hm with rfl|hm
   ·rfl
   ·exfalso
    rw[List.map_cons,List.nodup_cons]at hnd
    exact hnd.1 (hq ▸ List.mem_map.2 ⟨p,hm,rfl⟩)
  ·have e:decide (q.1=p.1)=false:=by simpa using hq
   rw[e]
   have hm2:p∈r:=by
    rcases List.mem_cons.1 hm with rfl|hm
    ·exact absurd rfl hq
    ·exact hm
   rw[List.map_cons,List.nodup_cons]at hnd
   exact ih hm2 hnd.2
end Go.Proofs.YtkkbfdencgdbhaaGreatDoor
namespace Go.Proofs.YtkkbfdencgdbhaaGreatDoor
open Go.RowKit
def rdNms:Nat→List ByteArray→Dc→List ByteArray×Dc
 | 0,L,d=>(L,d)
 | n+1,L,d=>if(d.s 32).2.err=0 then rdNms n (L++[⟨(d.s 32).1.toArray⟩]) (d.s 32).2 else(L,(d.s 32).2)
structure Rr where
 er:Nat×Dc
 bl:Nat×Dc
 sz:Nat×Dc
 su:Nat×Dc
 n:Nat×Dc
 nm:List ByteArray×Dc
def rdR(d:Dc):Rr :=
 let er:=d.i 17
 let bl:=er.2.u
 let sz:=bl.2.i 4000
 let su:=sz.2.u
 let n:=(sumF su).i 100000
 ⟨er,bl,sz,su,n,rdNms n.1 [] n.2⟩
def Rr.r(q:Rr):Rs:=⟨q.er.1,q.bl.1,q.sz.1,q.su.1 % 4294967296,q.nm.1⟩
structure Re where
 k:Nat×Dc
 s:Nat×Dc
 r:Rr
def rdE(d:Dc):Re :=
 let k:=d.i 1073741824
 let s:=k.2.i 1073741824
 ⟨k,s,rdR s.2⟩
def Re.e(q:Re):Int×Last:=(q.k.1,⟨q.s.1,q.r.r⟩)
def lastK(L:List (Int×Last)):Int:=match L.getLast? with
 | some p=>p.1
 | none=>0
def ckE(L:List (Int×Last))(e:Int×Last)(d:Dc):Dc:=if(decide (e.1≤lastK L)||decide (e.2.seq=0))=true then d.fail 3 else d
def rdEs:Nat→List (Int×Last)→Dc→List (Int×Last)×Dc
 | 0,L,d=>(L,d)
 | n+1,L,d=>if(ckE L (rdE d).e (rdE d).r.nm.2).err=0 then rdEs n (L++[(rdE d).e]) (ckE L (rdE d).e (rdE d).r.nm.2)else(L,ckE L (rdE d).e (rdE d).r.nm.2)
structure Rh where
 c:Nat×Dc
 t:List UInt8×Dc
 n:Nat×Dc
def rdH(d:Dc):Rh :=
 let c:=d.i 1099511627776
 let t:=c.2.s 9223372036854775807
 ⟨c,t,t.2.i 1048576⟩
def rdMach(s:List UInt8):Mach×Int :=
 if(rdH ⟨s,0⟩).n.2.err=0 then
  if(rdCat (rdH ⟨s,0⟩).t.1).2=0 then
   if(rdEs (rdH ⟨s,0⟩).n.1 [] (rdH ⟨s,0⟩).n.2).2.done.err=0 then
    (⟨(rdCat (rdH ⟨s,0⟩).t.1).1,(rdEs (rdH ⟨s,0⟩).n.1 [] (rdH ⟨s,0⟩).n.2).1.reverse,(rdH ⟨s,0⟩).c.1⟩,0)
   else(Mach.empty,(rdEs (rdH ⟨s,0⟩).n.1 [] (rdH ⟨s,0⟩).n.2).2.done.err)
  else(Mach.empty,(rdCat (rdH ⟨s,0⟩).t.1).2)
 else(Mach.empty,(rdH ⟨s,0⟩).n.2.err)
theorem nms_step:∀(n:Nat) (L:List ByteArray) (d:Dc),(rdNms n L d).2.err=0→∃M,(rdNms n L d).1=L++M∧M.length=n∧d.err=0∧d.rest=M.flatMap senc++(rdNms n L d).2.rest∧∀m∈M,m.size≤32
 | 0,L,d,h=>⟨[],by simp[rdNms],rfl,h,by simp[rdNms],fun m hm=>by cases hm⟩
 | n+1,L,d,h=>by
  unfold rdNms at h⊢
  split at h
  ·rename_i he
   rw[if_pos he]
   obtain⟨g0,g1,g2⟩:=s_step he
   obtain⟨M,m1,m2,m3,m4,m5⟩:=nms_step n _ _ h
   refine⟨⟨(d.s 32).1.toArray⟩::M,by rw[m1];simp,by simp[m2],g0,?_,fun m hm=>?_⟩
   ·rw[g1,List.flatMap_cons,List.append_assoc,←m4]
   ·rcases List.mem_cons.1 hm with rfl|hm
    ·show(d.s 32).1.toArray.size≤32
     rw[List.size_toArray];omega
    ·exact m5 m hm
  ·rename_i he
   exact absurd h he
theorem nms_enc(r:List UInt8):∀(M L:List ByteArray),(∀m∈M,m.size≤32)→rdNms M.length L ⟨M.flatMap senc++r,0⟩=(L++M,⟨r,0⟩)
 | [],L,_=>by simp[rdNms]
 | m::M,L,h=>by
  have hm:=h m (List.mem_cons_self ..)
  rw[List.flatMap_cons,List.append_assoc,List.length_cons]
  unfold rdNms
  rw[s_enc (by omega) (by decide)]
  rw[if_pos rfl,nms_enc r M _ (fun m hm=>h m (List.mem_cons_of_mem _ hm))]
  simp
def rEnc(r:Rs):List UInt8:=ienc r.err++(uenc r.blob++(ienc r.size++(uenc r.sum++(ienc (r.names.length:Int)++r.names.flatMap senc))))
theorem lastEnc_eq(p:Int×Last):lastEnc p=ienc p.1++(ienc p.2.seq++rEnc p.2.r):=by
 unfold lastEnc lastA rEnc
 simp
theorem r_step{d:Dc}(h:(rdR d).nm.2.err=0):d.err=0∧d.rest=rEnc (rdR d).r++(rdR d).nm.2.rest∧RsOk 100000 (rdR d).r:=by
 unfold rdR at h⊢
 simp only at h⊢
 unfold Rr.r
 simp only
 obtain⟨M,m1,m2,m3,m4,m5⟩:=nms_step _ _ _ h
 obtain⟨h5,e5,l5⟩:=i_step m3
 have f5:∀q:Nat×Dc,(sumF q).err=0→q.1≤4294967295∧q.2.err=0∧sumF q=q.2:=fun q hq=>by
  unfold sumF at hq⊢
  have:=failIf hq
  exact⟨by simpa using this.1,this.2,failEq hq⟩
 obtain⟨r5,g5,q5⟩:=f5 _ h5
 rw[q5]at m1 m2 m4 e5 l5⊢
 obtain⟨h4,e4,_⟩:=u_step' g5
 obtain⟨h3,e3,l3⟩:=i_step h4
 obtain⟨h2,e2,l2⟩:=u_step' h3
 obtain⟨h1,e1,l1⟩:=i_step h2
 rw[m1,List.nil_append]
 refine⟨h1,?_,⟨⟨Int.natCast_nonneg _,l1⟩,l2,⟨Int.natCast_nonneg _,l3⟩,Nat.mod_lt _ (by decide),by show M.length≤_;omega,m5⟩⟩
 rw[e1,e2,e3,e4,e5,m4]
 unfold rEnc
 simp only[List.append_assoc]
 rw[Nat.mod_eq_of_lt (by omega),m2]
theorem r_enc{n:Nat}{q:Rs}(h:RsOk n q)(hn:n≤100000)(r:List UInt8):(rdR ⟨rEnc q++r,0⟩).r=q∧(rdR ⟨rEnc q++r,0⟩).nm.2=⟨r,0⟩:=by
 have e0:rEnc q++r=ienc q.err++(uenc q.blob++(ienc q.size++(uenc q.sum++(ienc (q.names.length:Int)++(q.names.flatMap senc++r))))):=by
  unfold rEnc
  simp
 have e4:∀t,sumF (q.sum,(⟨t,0⟩:Dc))=⟨t,0⟩:=fun t=>by
  unfold sumF
  rw[if_neg]
  have:=h.sum
  simp
  omega
 have key:rdR ⟨rEnc q++r,0⟩=⟨(q.err.toNat,⟨uenc q.blob++(ienc q.size++(uenc q.sum++(ienc (q.names.length:Int)++(q.names.flatMap senc++r)))),0⟩),(q.blob,⟨ienc q.size++(uenc q.sum++(ienc (q.names.length:Int)++(q.names.flatMap senc++r))),0⟩),
  (q.size.toNat,⟨uenc q.sum++(ienc (q.names.length:Int)++(q.names.flatMap senc++r)),0⟩),(q.sum,⟨ienc (q.names.length:Int)++(q.names.flatMap senc++r),0⟩),(q.names.length,⟨q.names.flatMap senc++r,0⟩),(q.names,⟨r,0⟩)⟩:=by
  unfold rdR
  rw[e0]
  try simp only
  rw[i_enc h.err.1 h.err.2 (by decide)]
  try simp only
  rw[u_enc h.blob]
  try simp only
  rw[i_enc h.size.1 h.size.2 (by decide)]
  try simp only
  rw[u_enc (by have:=h.sum;omega),e4]
  try simp only
  rw[i_enc (by omega) (by have:=h.len;omega) (by decide)]
  try simp only
  rw[Int.toNat_natCast,nms_enc r _ _ h.nm]
  simp
 rw[key]
 refine⟨?_,rfl⟩
 unfold Rr.r
 simp only
 have h1:=h.err.1
 have h2:=h.size.1
 rw[show((q.err.toNat:Nat):Int)=q.err by omega,show((q.size.toNat:Nat):Int)=q.size by omega,Nat.mod_eq_of_lt h.sum]
structure EsW (L:List (Int×Last)):Prop where
 asc:L.Pairwise fun a b=>a.1<b.1
 ok:∀p∈L,(1≤p.1∧p.1≤1073741824)∧(1≤p.2.seq∧p.2.seq≤1073741824)∧RsOk 100000 p.2.r
theorem EsW.nil:EsW []:=⟨List.Pairwise.nil,fun p hp=>by cases hp⟩
theorem e_step{d:Dc}(h:(rdE d).r.nm.2.err=0):d.err=0∧d.rest=lastEnc (rdE d).e++(rdE d).r.nm.2.rest∧(0≤(rdE d).e.1∧(rdE d).e.1≤1073741824)∧(0≤(rdE d).e.2.seq∧(rdE d).e.2.seq≤1073741824)∧RsOk 100000 (rdE d).e.2.r:=by
 unfold rdE at h⊢
 simp only at h⊢
 unfold Re.e
 simp only
 obtain⟨h3,e3,k3⟩:=r_step h
 obtain⟨h2,e2,l2⟩:=i_step h3
 obtain⟨h1,e1,l1⟩:=i_step h2
 refine⟨h1,?_,⟨Int.natCast_nonneg _,l1⟩,⟨Int.natCast_nonneg _,l2⟩,k3⟩
 rw[e1,e2,e3,lastEnc_eq]
 simp only[List.append_assoc]
theorem e_enc{p:Int×Last}(h:(1≤p.1∧p.1≤1073741824)∧(1≤p.2.seq∧p.2.seq≤1073741824)∧RsOk 100000 p.2.r)(r:List UInt8):(rdE ⟨lastEnc p++r,0⟩).e=p∧(rdE ⟨lastEnc p++r,0⟩).r.nm.2=⟨r,0⟩:=by
 obtain⟨h1,h2,h3⟩:=h
 obtain⟨q1,q2⟩:=r_enc h3 (Nat.le_refl _) r
 have key:rdE ⟨lastEnc p++r,0⟩=⟨(p.1.toNat,⟨ienc p.2.seq++(rEnc p.2.r++r),0⟩),(p.2.seq.toNat,⟨rEnc p.2.r++r,0⟩),rdR ⟨rEnc p.2.r++r,0⟩⟩:=by
  unfold rdE
  rw[lastEnc_eq,List.append_assoc,List.append_assoc]
  try simp only
  rw[i_enc (by omega) h1.2 (by decide)]
  try simp only
  rw[i_enc (by omega) h2.2 (by decide)]
 rw[key]
 refine⟨?_,q2⟩
 unfold Re.e
 simp only
 rw[q1,show((p.1.toNat:Nat):Int)=p.1 by omega,show((p.2.seq.toNat:Nat):Int)=p.2.seq by omega]
theorem lastK_lt{L:List (Int×Last)}{k:Int}(h:EsW L)(hk:lastK L<k):∀p∈L,p.1<k:=by
 intro p hp
 unfold lastK at hk
 cases hl:L.getLast? with
 | none=>rw[List.getLast?_eq_none_iff]at hl;subst hl;cases hp
 | some q =>
  rw[hl]at hk
  simp only at hk
  obtain⟨i,hi,rfl⟩:=List.mem_iff_getElem.1 hp
  rw[List.getLast?_eq_getElem?]at hl
  obtain⟨hj,hl⟩:=List.getElem?_eq_some_iff.1 hl
  by_cases e:i=L.length - 1
  ·subst e
   rw[hl];exact hk
  ·have:=List.pairwise_iff_getElem.1 h.asc i (L.length - 1) hi hj (by omega)
   rw[hl]at this
   omega
theorem lastK_nn{L:List (Int×Last)}(h:EsW L):0≤lastK L:=by
 unfold lastK
 cases hl:L.getLast? with
 | none=>exact Int.le_refl _
 | some q=>have:=(h.ok q (List.mem_of_getLast? hl)).1;simp only;omega
theorem EsW.snoc{L:List (Int×Last)}(h:EsW L){e:Int×Last}(hk:lastK L<e.1)(ho:e.1≤1073741824∧(1≤e.2.seq∧e.2.seq≤1073741824)∧RsOk 100000 e.2.r):EsW (L++[e]):=by
 have:=lastK_nn h
 refine⟨List.pairwise_append.2 ⟨h.asc,List.pairwise_singleton _ _,fun p hp q hq=>?_⟩,fun p hp=>?_⟩
 ·rw[List.mem_singleton.1 hq];exact lastK_lt h hk p hp
 ·rcases List.mem_append.1 hp with hp|hp
  ·exact h.ok p hp
  ·rw[List.mem_singleton.1 hp];exact⟨⟨by omega,ho.1⟩,ho.2⟩
theorem EsW.left{L M:List (Int×Last)}(h:EsW (L++M)):EsW L:=⟨(List.pairwise_append.1 h.asc).1,fun p hp=>h.ok p (by simp[hp])⟩
theorem ckE_ok{L:List (Int×Last)}{e:Int×Last}{r:List UInt8}(h:EsW (L++[e])):ckE L e ⟨r,0⟩=⟨r,0⟩:=by
 have h1:lastK L<e.1:=by
  unfold lastK
  cases hl:L.getLast? with
  | none=>have:=(h.ok e (by simp)).1;simp only;omega
  | some c=>exact(List.pairwise_append.1 h.asc).2.2 c (List.mem_of_getLast? hl) e (List.mem_singleton.2 rfl)
 have h2:=(h.ok e (by simp)).2.1
 unfold ckE
 rw[if_neg]
 simp;omega
theorem es_enc(r:List UInt8):∀(M L:List (Int×Last)),EsW (L++M)→rdEs M.length L ⟨M.flatMap lastEnc++r,0⟩=(L++M,⟨r,0⟩)
 | [],L,_=>by simp[rdEs]
 | b::M,L,h=>by
  have h':EsW ((L++[b])++M):=by simpa using h
  have hb:=h.ok b (by simp)
  obtain⟨e1,e2⟩:=e_enc hb (M.flatMap lastEnc++r)
  rw[List.flatMap_cons,List.append_assoc,List.length_cons]
  unfold rdEs
  rw[e1,e2,ckE_ok h'.left,if_pos rfl,es_enc r M (L++[b]) h']
  simp
theorem asc_perm:∀ {L M:List (Int×Last)},L.Pairwise (fun a b=>a.1<b.1)→M.Pairwise (fun a b=>a.1<b.1)→L.Perm M→L=M
 | [],M,_,_,h=>h.nil_eq
 | a::L,[],_,_,h=>absurd h.length_eq (by simp)
 | a::L,b::M,hL,hM,h=>by
  obtain⟨l1,l2⟩:=List.pairwise_cons.1 hL
  obtain⟨m1,m2⟩:=List.pairwise_cons.1 hM
  have e:a=b:=by
   rcases List.mem_cons.1 (h.mem_iff.1 (List.mem_cons_self ..))with e|ha
   ·exact e
   ·rcases List.mem_cons.1 (h.mem_iff.2 (List.mem_cons_self ..))with e|hb
    ·exact e.symm
    ·have:=m1 a ha
     have:=l1 b hb
     omega
  subst e
  rw[asc_perm l2 m2 h.cons_inv]
theorem scl_asc{M:Mach}(h:(M.cl.map (·.1)).Nodup):M.scl.Pairwise fun a b=>a.1<b.1:=by
 have:=Mach.scl_asc h
 rwa[List.pairwise_map]at this
theorem MW.es{n:Nat}{M:Mach}(h:MW n M):EsW M.scl:=⟨scl_asc h.nd,fun p hp=>by
 have:=h.cl p (M.scl_perm.mem_iff.1 hp)
 exact⟨this.1,this.2.1,this.2.2.le (by decide)⟩⟩
theorem rdMach_enc{n:Nat}{M:Mach}(h:MW n M)(hn:n≤100000):rdMach M.enc=(⟨M.P,M.scl.reverse,M.n⟩,0):=by
 have e0:M.enc=ienc M.n++(senc ⟨M.P.enc.toArray⟩++(ienc (M.scl.length:Int)++(M.scl.flatMap lastEnc++[]))):=by
  unfold Mach.enc Mach.head
  rw[M.scl_perm.length_eq]
  simp
 have hsz:(⟨M.P.enc.toArray⟩:ByteArray).size≤15200:=by
  have:=penc_len h.cat h.L
  show M.P.enc.toArray.size≤_
  simpa using this
 have hl:M.scl.length≤100:=by rw[M.scl_perm.length_eq];exact h.len
 have hH:rdH ⟨M.enc,0⟩=⟨(M.n.toNat,⟨senc ⟨M.P.enc.toArray⟩++(ienc (M.scl.length:Int)++(M.scl.flatMap lastEnc++[])),0⟩),(M.P.enc,⟨ienc (M.scl.length:Int)++(M.scl.flatMap lastEnc++[]),0⟩),(M.scl.length,⟨M.scl.flatMap lastEnc++[],0⟩)⟩:=by
  unfold rdH
  rw[e0]
  try simp only
  rw[i_enc h.num.1 h.num.2 (by decide)]
  try simp only
  rw[s_enc (by omega) (by decide)]
  try simp only
  rw[i_enc (by omega) (by omega) (by decide)]
  simp
 have hE:rdEs M.scl.length [] ⟨M.scl.flatMap lastEnc++[],0⟩=(M.scl,⟨[],0⟩):=by
  have:=es_enc [] M.scl [] (by simpa using h.es)
  simpa using this
 have hC:rdCat M.P.enc=(M.P,0):=rdCat_enc h.cat hn
 unfold rdMach
 rw[hH]
 simp only
 rw[hE,hC]
 simp only
 have hnn:=h.num.1
 rw[show((M.n.toNat:Nat):Int)=M.n by omega]
 rfl
end Go.Proofs.YtkkbfdencgdbhaaGreatDoor
