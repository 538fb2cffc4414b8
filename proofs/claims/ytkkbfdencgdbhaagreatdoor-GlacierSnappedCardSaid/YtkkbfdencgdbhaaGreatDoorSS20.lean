/-
  Part 20 of what the law leans on.
-/
import Derived.Test.YtkkbfdencgdbhaaGreatDoorSS8
import Derived.Test.YtkkbfdencgdbhaaGreatDoorSS16
import Derived.Test.YtkkbfdencgdbhaaGreatDoorSS19
set_option linter.unusedVariables false
set_option linter.unusedSimpArgs false
set_option linter.unusedSectionVars false
namespace Go.Proofs.YtkkbfdencgdbhaaGreatDoor
open Go.RowKit Go.Sort
def cpEnc(c:Cp):List UInt8:=[c.there].flatMap benc++[c.vol,c.at_].flatMap ienc
def blA(b:Bl):List UInt8:=[b.id].flatMap uenc++[b.name].flatMap senc++[!b.dead].flatMap benc++[b.size].flatMap ienc++[b.sum].flatMap uenc++lenc b.disks
def blEnc(b:Bl):List UInt8:=blA b++cpEnc b.a++cpEnc b.b++[b.pins].flatMap ienc
def vlEnc(v:Vl):List UInt8:=[v.closed,v.erase].flatMap benc++[v.gen].flatMap ienc
def Pm.enc(P:Pm):List UInt8:=[(P.L.length:Int)].flatMap ienc++P.L.flatMap blEnc++P.vols.flatMap vlEnc
theorem senc_length(s:ByteArray):(senc s).length≤10+s.size:=by
 have:=ienc_length s.size
 unfold senc
 simp;omega
theorem lenc_length(l:List Int):(lenc l).length≤10+10 * l.length:=by
 have:=ienc_length l.length
 have:=iflat_length l
 unfold lenc
 simp only[List.length_append];omega
theorem cpEnc_length(c:Cp):(cpEnc c).length≤21:=by
 have:=ienc_length c.vol
 have:=ienc_length c.at_
 unfold cpEnc
 simp[benc_length];omega
theorem blA_length{n:Nat}{b:Bl}(h:BlOk n b):(blA b).length≤200:=by
 have:=uenc_length b.id
 have:=senc_length b.name
 have:=h.name.2
 have:=ienc_length b.size
 have:=uenc_length b.sum
 have:=lenc_length b.disks
 have:=rises_len h.rises
 unfold blA
 simp[benc_length];omega
theorem blEnc_length{n:Nat}{b:Bl}(h:BlOk n b):(blEnc b).length≤300:=by
 have:=blA_length h
 have:=cpEnc_length b.a
 have:=cpEnc_length b.b
 have:=ienc_length b.pins
 unfold blEnc
 simp;omega
theorem vlEnc_length(v:Vl):(vlEnc v).length≤12:=by
 have:=ienc_length v.gen
 unfold vlEnc
 simp[benc_length];omega
theorem flatLe{α : Type}(f : α → List UInt8)(k:Nat):∀l:List α,(∀x∈l,(f x).length≤k)→(l.flatMap f).length≤l.length * k
 | [],_=>Nat.zero_le _
 | x::r,h=>by
  have h1:=h x (List.mem_cons_self ..)
  have h2:=flatLe f k r fun y hy=>h y (List.mem_cons_of_mem _ hy)
  rw[List.flatMap_cons,List.length_append,List.length_cons,Nat.add_mul]
  omega
theorem enc_pre{n:Nat}{P:Pm}(hi:PInv n P)(hn:P.L.length<50)(k:Nat):([(P.L.length:Int)].flatMap ienc++(P.L.take k).flatMap blEnc).length≤15010:=by
 have h1:=ienc_length P.L.length
 have h2:=flatLe blEnc 300 (P.L.take k) fun b hb=>blEnc_length (hi.bl b (List.mem_of_mem_take hb))
 have h3:(P.L.take k).length≤P.L.length:=List.length_take_le' _ _
 have h5:(P.L.take k).length * 300≤50 * 300:=Nat.mul_le_mul_right _ (by omega)
 simp only[List.flatMap_cons,List.flatMap_nil,List.append_nil,List.length_append]
 omega
theorem enc_pre2{n:Nat}{P:Pm}(hi:PInv n P)(hn:P.L.length<50)(k:Nat):(([(P.L.length:Int)].flatMap ienc++P.L.flatMap blEnc)++(P.vols.take k).flatMap vlEnc).length≤15200:=by
 have h1:=enc_pre hi hn P.L.length
 rw[List.take_length]at h1
 have h2:=flatLe vlEnc 12 (P.vols.take k) fun v _=>vlEnc_length v
 have h3:(P.vols.take k).length≤P.vols.length:=List.length_take_le' _ _
 have h4:=hi.vlen
 have h5:(P.vols.take k).length * 12≤12 * 12:=Nat.mul_le_mul_right _ (by omega)
 rw[List.length_append]
 omega
theorem enc_step{α : Type}{l:List α}{k:Nat}{x : α}(h:l[k]? = some x)(f : α → List UInt8)(bs:List UInt8):bs++(l.take (k+1)).flatMap f=(bs++(l.take k).flatMap f)++f x:=by
 rw[List.take_add_one,h,List.flatMap_append,List.append_assoc]
 simp
def rdCp(pool:Int)(d:Dc):Cp×Dc :=
 (⟨d.b.1,(d.b.2.i 11).1,((d.b.2.i 11).2.i 1073741824).1⟩,
  if((d.b.1 && !decide (((d.b.2.i 11).1:Int) % 2=pool))||(!d.b.1&&(!decide ((d.b.2.i 11).1=0) || !decide (((d.b.2.i 11).2.i 1073741824).1=0))))=true then((d.b.2.i 11).2.i 1073741824).2.fail 3 else((d.b.2.i 11).2.i 1073741824).2)
def riseB:List Int→Bool
 | a::b::r=>decide (a<b)&&riseB (b::r)
 | _=>true
def sumF(d:Nat×Dc):Dc:=if(decide (4294967295<d.1))=true then d.2.fail 3 else d.2
def disF(d:List Int×Dc):Dc:=if(!riseB d.1)=true then d.2.fail 3 else d.2
structure Rb where
 id:Nat×Dc
 nm:List UInt8×Dc
 lv:Bool×Dc
 sz:Nat×Dc
 su:Nat×Dc
 dk:List Int×Dc
 a:Cp×Dc
 b:Cp×Dc
 pn:Nat×Dc
def rdB(d:Dc):Rb :=
 let id:=d.u
 let nm:=id.2.s 32
 let lv:=nm.2.b
 let sz:=lv.2.i 4000
 let su:=sz.2.u
 let dk:=(sumF su).list 6 5
 let a:=rdCp 0 (disF dk)
 let b:=rdCp 1 a.2
 ⟨id,nm,lv,sz,su,dk,a,b,b.2.i 1073741824⟩
def Rb.bl(r:Rb):Bl:=⟨r.id.1,⟨r.nm.1.toArray⟩,r.sz.1,r.su.1 % 4294967296,r.dk.1,r.a.1,r.b.1,r.pn.1, !r.lv.1⟩
def lastId(L:List Bl):Nat:=match L.getLast? with
 | some b=>b.id
 | none=>0
def takenB(n:ByteArray)(L:List Bl):Bool:=L.any (liveB n)||decide (n=ByteArray.empty)
def ckId(L:List Bl)(b:Bl)(d:Dc):Dc:=if(decide (b.id≤lastId L))=true then d.fail 3 else d
def ckNm(L:List Bl)(b:Bl)(d:Dc):Dc:=if(!b.dead&&takenB b.name L)=true then d.fail 3 else d
def ckB(L:List Bl)(b:Bl)(d:Dc):Dc:=ckNm L b (ckId L b d)
def rdBlobs:Nat→List Bl→Dc→List Bl×Dc
 | 0,L,d=>(L,d)
 | n+1,L,d=>if(ckB L (rdB d).bl (rdB d).pn.2).err=0 then rdBlobs n (L++[(rdB d).bl]) (ckB L (rdB d).bl (rdB d).pn.2)else(L,ckB L (rdB d).bl (rdB d).pn.2)
def rdVl(d:Dc):Vl×Dc:=(⟨d.b.1,d.b.2.b.1,(d.b.2.b.2.i 1073741824).1⟩,(d.b.2.b.2.i 1073741824).2)
def rdVls:Nat→Dc→List Vl×Dc
 | 0,d=>([],d)
 | n+1,d=>((rdVl d).1::(rdVls n (rdVl d).2).1,(rdVls n (rdVl d).2).2)
def rdEnd(d:Dc):(List Bl×Dc):=rdBlobs (d.i 100000).1 [] (d.i 100000).2
def rdCat(s:List UInt8):Pm×Int :=
 if(rdVls 12 (rdEnd ⟨s,0⟩).2).2.done.err=0 then(⟨(rdEnd ⟨s,0⟩).1,(rdVls 12 (rdEnd ⟨s,0⟩).2).1⟩,0)else(Pm.empty,(rdVls 12 (rdEnd ⟨s,0⟩).2).2.done.err)
theorem failIf{c:Bool}{d:Dc}(h:(if c=true then d.fail 3 else d).err=0):c=false∧d.err=0:=by
 cases c
 ·exact⟨rfl,h⟩
 ·rw[if_pos rfl]at h;exact absurd h (Dc.fail_err (by decide))
theorem failEq{c:Bool}{d:Dc}(h:(if c=true then d.fail 3 else d).err=0):(if c=true then d.fail 3 else d)=d:=by rw[(failIf h).1];rfl
theorem dcMk{d:Dc}(h:d.err=0):d=⟨d.rest,0⟩:=by obtain⟨x,y⟩:=d;simp only at h;rw[h]
theorem Dc.b_err{d:Dc}(h:d.err≠0):d.b=(false,d):=by unfold Dc.b Dc.next;rw[if_neg h]
theorem b_enc(x:Bool)(r:List UInt8):Dc.b ⟨benc x++r,0⟩=(x,⟨r,0⟩):=by cases x <;> rfl
theorem b_step{d:Dc}(h:d.b.2.err=0):d.err=0∧d.rest=benc d.b.1++d.b.2.rest:=by
 by_cases he:d.err=0
 ·refine⟨he,?_⟩
  obtain⟨rs,e⟩:=d
  simp only at he
  subst he
  cases rs with
  | nil=>exact absurd h (by decide)
  | cons c r =>
   have hb:Dc.b ⟨c::r,0⟩=(if 1<c.toNat then(false,Dc.fail ⟨r,0⟩ 3)else(c == 1,⟨r,0⟩)):=rfl
   rw[hb]at h⊢
   split at h
   ·exact absurd h (Dc.fail_err (by decide))
   ·rename_i hc
    rw[if_neg hc]
    have h2:c.toNat=0∨c.toNat=1:=by omega
    have h3:c=0∨c=1:=by
     rcases h2 with e|e
     ·exact .inl (UInt8.toNat_inj.1 e)
     ·exact .inr (UInt8.toNat_inj.1 e)
    rcases h3 with rfl|rfl <;> rfl
 ·rw[Dc.b_err he]at h;exact absurd h he
theorem i_step{d:Dc}{m:Int}(h:(d.i m).2.err=0)(hm:0≤m:=by decide):d.err=0∧d.rest=ienc ((d.i m).1:Int)++(d.i m).2.rest∧((d.i m).1:Int)≤m:=by
 have h0:=i_err0 h
 have:=i_inv (s:=d.rest) (r:=(d.i m).2.rest) (v:=(d.i m).1) (most:=m) (by rw[←dcMk h0,←dcMk h])
 rw[Int.max_eq_left hm]at this
 exact⟨h0,this.1,this.2⟩
theorem u_step'{d:Dc}(h:d.u.2.err=0):d.err=0∧d.rest=uenc d.u.1++d.u.2.rest∧d.u.1<18446744073709551616:=by
 have h0:=u_err0 h
 have:=u_inv (s:=d.rest) (r:=d.u.2.rest) (v:=d.u.1) (by rw[←dcMk h0,←dcMk h])
 exact⟨h0,this.1,this.2⟩
theorem s_step{d:Dc}{m:Int}(h:(d.s m).2.err=0)(hm:0≤m:=by decide):d.err=0∧d.rest=senc ⟨(d.s m).1.toArray⟩++(d.s m).2.rest∧((d.s m).1.length:Int)≤m:=by
 have h0:=s_err0 h
 have:=s_inv (t:=d.rest) (r:=(d.s m).2.rest) (x:=(d.s m).1) (most:=m) (by rw[←dcMk h0,←dcMk h])
 rw[Int.max_eq_left hm]at this
 exact⟨h0,this.1,this.2⟩
theorem list_step{d:Dc}{m e:Int}(h:(d.list m e).2.err=0)(hm:0≤e:=by decide):d.err=0∧d.rest=lenc (d.list m e).1++(d.list m e).2.rest∧∀x∈(d.list m e).1,0≤x∧x≤e:=by
 have h0:=list_err0 h
 have:=list_inv (t:=d.rest) (r:=(d.list m e).2.rest) (l:=(d.list m e).1) (most:=m) (each:=e) (by rw[←dcMk h0,←dcMk h])
 rw[Int.max_eq_left hm]at this
 exact⟨h0,this.1,this.2.2⟩
def CpOk(pool:Int)(c:Cp):Prop:=c=Cp.none∨c.there=true∧c.vol % 2=pool∧0≤c.vol∧c.vol≤11∧0≤c.at_∧c.at_≤1073741824
theorem cp_step{p:Int}{d:Dc}(h:(rdCp p d).2.err=0):d.err=0∧d.rest=cpEnc (rdCp p d).1++(rdCp p d).2.rest∧CpOk p (rdCp p d).1:=by
 unfold rdCp at h⊢
 simp only at h⊢
 obtain⟨hc,h3⟩:=failIf h
 rw[hc]
 simp only[Bool.false_eq_true,if_false]
 obtain⟨h2,e3,l3⟩:=i_step h3
 obtain⟨h1,e2,l2⟩:=i_step h2
 obtain⟨h0,e1⟩:=b_step h1
 refine⟨h0,?_,?_⟩
 ·rw[e1,e2,e3]
  unfold cpEnc
  simp
 ·unfold CpOk
  cases ht:d.b.1
  ·left
   rw[ht]at hc
   simp at hc
   unfold Cp.none
   rw[hc.1,hc.2];rfl
  ·right
   rw[ht]at hc
   simp at hc
   exact⟨rfl,hc,Int.natCast_nonneg _,l2,Int.natCast_nonneg _,l3⟩
theorem cp_enc{p:Int}{c:Cp}(h:CpOk p c)(r:List UInt8):rdCp p ⟨cpEnc c++r,0⟩=(c,⟨r,0⟩):=by
 have e0:cpEnc c++r=benc c.there++(ienc c.vol++(ienc c.at_++r)):=by unfold cpEnc;simp
 have hb:0≤c.vol∧c.vol≤11∧0≤c.at_∧c.at_≤1073741824:=by
  rcases h with rfl|⟨_,_,h1,h2,h3,h4⟩
  ·decide
  ·exact⟨h1,h2,h3,h4⟩
 obtain⟨h1,h2,h3,h4⟩:=hb
 unfold rdCp
 rw[e0,b_enc]
 simp only
 rw[i_enc h1 h2 (by omega)]
 simp only
 rw[i_enc h3 h4 (by omega)]
 simp only
 have e1:((c.vol.toNat:Nat):Int)=c.vol:=by omega
 have e2:((c.at_.toNat:Nat):Int)=c.at_:=by omega
 rw[e1,e2]
 rcases h with rfl|⟨g1,g2,_⟩
 ·rfl
 ·rw[g1,g2]
  simp
  obtain⟨t,v,a⟩:=c
  simp only at g1
  rw[g1]
theorem riseB_iff:∀l:List Int,riseB l=true↔l.Pairwise (· < ·)
 | []=>by simp[riseB]
 | [a]=>by simp[riseB]
 | a::b::r=>by
  unfold riseB
  rw[Bool.and_eq_true,riseB_iff (b::r),List.pairwise_cons (a:=a)]
  simp only[decide_eq_true_eq]
  constructor
  ·rintro⟨h1,h2⟩
   refine⟨fun x hx=>?_,h2⟩
   rcases List.mem_cons.1 hx with rfl|hx
   ·exact h1
   ·have:=(List.pairwise_cons.1 h2).1 x hx
    omega
  ·rintro⟨h1,h2⟩
   exact⟨h1 b (List.mem_cons_self ..),h2⟩
structure BlW (b:Bl):Prop where
 id:b.id<18446744073709551616
 name:b.name.size≤32
 size:0≤b.size∧b.size≤4000
 sum:b.sum<4294967296
 rises:risesB b.disks=true
 ca:CpOk 0 b.a
 cb:CpOk 1 b.b
 pins:0≤b.pins∧b.pins≤1073741824
theorem bl_step{d:Dc}(h:(rdB d).pn.2.err=0):d.err=0∧d.rest=blEnc (rdB d).bl++(rdB d).pn.2.rest∧BlW (rdB d).bl:=by
 unfold rdB at h⊢
 simp only at h⊢
 unfold Rb.bl
 simp only
 obtain⟨h8,e9,l9⟩:=i_step h
 obtain⟨h7,e8,k8⟩:=cp_step h8
 obtain⟨h6,e7,k7⟩:=cp_step h7
 have f6:∀q:List Int×Dc,(disF q).err=0→riseB q.1=true∧q.2.err=0∧disF q=q.2:=fun q hq=>by
  unfold disF at hq⊢
  have:=failIf hq
  exact⟨by simpa using this.1,this.2,failEq hq⟩
 obtain⟨r6,g6,q6⟩:=f6 _ h6
 rw[q6]at e7 k7 e8 k8 e9 l9⊢
 obtain⟨h5,e6,k6⟩:=list_step g6
 have f5:∀q:Nat×Dc,(sumF q).err=0→q.1≤4294967295∧q.2.err=0∧sumF q=q.2:=fun q hq=>by
  unfold sumF at hq⊢
  have:=failIf hq
  exact⟨by simpa using this.1,this.2,failEq hq⟩
 obtain⟨r5,g5,q5⟩:=f5 _ h5
 rw[q5]at e6 k6 r6 e7 k7 e8 k8 e9 l9⊢
 obtain⟨h4,e5,_⟩:=u_step' g5
 obtain⟨h3,e4,l4⟩:=i_step h4
 obtain⟨h2,e3⟩:=b_step h3
 obtain⟨h1,e2,l2⟩:=s_step h2
 obtain⟨h0,e1,l1⟩:=u_step' h1
 refine⟨h0,?_,?_⟩
 ·rw[e1,e2,e3,e4,e5,e6,e7,e8,e9]
  unfold blEnc blA
  simp only[Bool.not_not,List.flatMap_cons,List.flatMap_nil,List.append_nil,List.append_assoc]
  rw[Nat.mod_eq_of_lt (by omega)]
 ·refine⟨l1,?_,⟨Int.natCast_nonneg _,l4⟩,Nat.mod_lt _ (by decide),?_,k7,k8,⟨Int.natCast_nonneg _,l9⟩⟩
  ·have:ByteArray.size ⟨(List.toArray (d.u.2.s 32).1)⟩=(d.u.2.s 32).1.length:=by simp[ByteArray.size]
   rw[this]
   omega
  ·rw[risesB_iff]
   refine⟨(riseB_iff _).1 r6,fun x hx=>?_⟩
   have:=k6 x hx
   unfold upB
   simp
   omega
theorem bl_enc{b:Bl}(h:BlW b)(r:List UInt8):(rdB ⟨blEnc b++r,0⟩).bl=b∧(rdB ⟨blEnc b++r,0⟩).pn.2=⟨r,0⟩:=by
 have e0:blEnc b++r=uenc b.id++(senc b.name++(benc (!b.dead)++(ienc b.size++(uenc b.sum++(lenc b.disks++(cpEnc b.a++(cpEnc b.b++(ienc b.pins++r)))))))):=by
  unfold blEnc blA
  simp
 have hd:b.disks.length≤6:=rises_len h.rises
 have hd2:=rises_lim h.rises
 have e4:∀t,sumF (b.sum,(⟨t,0⟩:Dc))=⟨t,0⟩:=fun t=>by
  unfold sumF
  rw[if_neg]
  have:=h.sum
  simp
  omega
 have e6:∀t,disF (b.disks,(⟨t,0⟩:Dc))=⟨t,0⟩:=fun t=>by
  unfold disF
  rw[if_neg]
  rw[(riseB_iff _).2 ((risesB_iff _).1 h.rises).1]
  decide
 have key:rdB ⟨blEnc b++r,0⟩=⟨(b.id,⟨senc b.name++(benc (!b.dead)++(ienc b.size++(uenc b.sum++(lenc b.disks++(cpEnc b.a++(cpEnc b.b++(ienc b.pins++r))))))),0⟩),
  (b.name.data.toList,⟨benc (!b.dead)++(ienc b.size++(uenc b.sum++(lenc b.disks++(cpEnc b.a++(cpEnc b.b++(ienc b.pins++r)))))),0⟩),(!b.dead,⟨ienc b.size++(uenc b.sum++(lenc b.disks++(cpEnc b.a++(cpEnc b.b++(ienc b.pins++r))))),0⟩),
  (b.size.toNat,⟨uenc b.sum++(lenc b.disks++(cpEnc b.a++(cpEnc b.b++(ienc b.pins++r)))),0⟩),(b.sum,⟨lenc b.disks++(cpEnc b.a++(cpEnc b.b++(ienc b.pins++r))),0⟩),(b.disks,⟨cpEnc b.a++(cpEnc b.b++(ienc b.pins++r)),0⟩),
  (b.a,⟨cpEnc b.b++(ienc b.pins++r),0⟩),(b.b,⟨ienc b.pins++r,0⟩),(b.pins.toNat,⟨r,0⟩)⟩:=by
  unfold rdB
  rw[e0]
  try simp only
  rw[u_enc h.id]
  try simp only
  rw[s_enc (by have:=h.name;omega) (by decide)]
  try simp only
  rw[b_enc]
  try simp only
  rw[i_enc h.size.1 h.size.2 (by decide)]
  try simp only
  rw[u_enc (by have:=h.sum;omega),e4]
  try simp only
  rw[list_enc (by omega) (by decide) (by decide) hd2,e6]
  try simp only
  rw[cp_enc h.ca]
  try simp only
  rw[cp_enc h.cb]
  try simp only
  rw[i_enc h.pins.1 h.pins.2 (by decide)]
 rw[key]
 refine⟨?_,rfl⟩
 unfold Rb.bl
 simp only
 have h1:=h.size.1
 have h2:=h.pins.1
 have e1:((b.size.toNat:Nat):Int)=b.size:=by omega
 have e2:((b.pins.toNat:Nat):Int)=b.pins:=by omega
 rw[e1,e2,Nat.mod_eq_of_lt h.sum,Bool.not_not]
structure LsW (L:List Bl):Prop where
 asc:L.Pairwise fun a b=>a.id<b.id
 pos:∀b∈L,0<b.id
 bl:∀b∈L,BlW b
 nm:∀b∈L,b.dead=false→b.name≠ByteArray.empty
 uniq:∀b∈L,∀b'∈L,b.dead=false→b'.dead=false→b.name=b'.name→b.id=b'.id
theorem LsW.nil:LsW [] where
 asc:=List.Pairwise.nil
 pos:=by intro b h;cases h
 bl:=by intro b h;cases h
 nm:=by intro b h;cases h
 uniq:=by intro b h;cases h
theorem last_le{L:List Bl}(h:L.Pairwise fun a b=>a.id<b.id):∀b∈L,b.id≤lastId L:=by
 intro b hb
 unfold lastId
 rcases List.eq_nil_or_concat L with rfl|⟨M,x,rfl⟩
 ·cases hb
 ·rw[List.concat_eq_append]at h hb⊢
  rw[List.getLast?_append]
  simp only[List.getLast?_singleton,Option.some_or]
  rw[List.pairwise_append]at h
  rcases List.mem_append.1 hb with hb|hb
  ·have:=h.2.2 b hb x (List.mem_singleton.2 rfl);omega
  ·rw[List.mem_singleton]at hb;subst hb;exact Nat.le_refl _
theorem taken_false{n:ByteArray}{L:List Bl}(h:takenB n L=false):n≠ByteArray.empty∧∀b∈L,b.dead=false→b.name≠n:=by
 unfold takenB at h
 rw[Bool.or_eq_false_iff]at h
 refine⟨by simpa using h.2,fun b hb hd e=>?_⟩
 have:=List.any_eq_false.1 h.1 b hb
 exact this (liveB_iff.2 ⟨hd,e⟩)
theorem LsW.snoc{L:List Bl}(h:LsW L){b:Bl}(hb:BlW b)(hid:lastId L<b.id)(hn:b.dead=false→takenB b.name L=false):LsW (L++[b]):=by
 refine⟨?_,fun c hc=>?_,fun c hc=>?_,fun c hc hd=>?_,fun c hc c' hc' hd hd' e=>?_⟩
 ·rw[List.pairwise_append]
  refine⟨h.asc,List.pairwise_singleton _ _,fun x hx y hy=>?_⟩
  rw[List.mem_singleton]at hy;subst hy
  have:=last_le h.asc x hx;omega
 ·rcases List.mem_append.1 hc with hc|hc
  ·exact h.pos c hc
  ·rw[List.mem_singleton]at hc;subst hc;omega
 ·rcases List.mem_append.1 hc with hc|hc
  ·exact h.bl c hc
  ·rw[List.mem_singleton]at hc;subst hc;exact hb
 ·rcases List.mem_append.1 hc with hc|hc
  ·exact h.nm c hc hd
  ·rw[List.mem_singleton]at hc;subst hc;exact(taken_false (hn hd)).1
 ·rcases List.mem_append.1 hc with g1|g1 <;> rcases List.mem_append.1 hc' with g2|g2
  ·exact h.uniq c g1 c' g2 hd hd' e
  ·have e2:=List.mem_singleton.1 g2
   rw[e2]at e hd'
   exact absurd e ((taken_false (hn hd')).2 c g1 hd)
  ·have e2:=List.mem_singleton.1 g1
   rw[e2]at e hd
   exact absurd e.symm ((taken_false (hn hd)).2 c' g2 hd')
  ·rw[List.mem_singleton.1 g1,List.mem_singleton.1 g2]
theorem ck_step{L:List Bl}{b:Bl}{d:Dc}(h:(ckB L b d).err=0):d.err=0∧ckB L b d=d∧lastId L<b.id∧(b.dead=false→takenB b.name L=false):=by
 unfold ckB ckNm at h⊢
 obtain⟨h1,h2⟩:=failIf h
 rw[failEq h]
 unfold ckId at h2⊢
 obtain⟨h3,h4⟩:=failIf h2
 rw[failEq h2]
 refine⟨h4,rfl,by simpa using h3,fun hd=>?_⟩
 rw[hd]at h1
 simpa using h1
theorem ck_ok{L:List Bl}{b:Bl}{r:List UInt8}(h:LsW (L++[b])):ckB L b ⟨r,0⟩=⟨r,0⟩:=by
 have h1:lastId L<b.id:=by
  unfold lastId
  cases hl:L.getLast? with
  | none=>exact h.pos b (by simp)
  | some c =>
   have hc:c∈L:=List.mem_of_getLast? hl
   exact(List.pairwise_append.1 h.asc).2.2 c hc b (List.mem_singleton.2 rfl)
 have e1:ckId L b ⟨r,0⟩=⟨r,0⟩:=by
  unfold ckId
  rw[if_neg]
  simp;omega
 unfold ckB
 rw[e1]
 unfold ckNm
 cases hd:b.dead
 ·have h2:takenB b.name L=false:=by
   unfold takenB
   rw[Bool.or_eq_false_iff]
   refine⟨List.any_eq_false.2 fun c hc hl=>?_,by simpa using h.nm b (by simp) hd⟩
   obtain⟨l1,l2⟩:=liveB_iff.1 hl
   have e:=h.uniq c (by simp[hc]) b (by simp) l1 hd l2
   have:=(List.pairwise_append.1 h.asc).2.2 c hc b (List.mem_singleton.2 rfl)
   omega
  rw[h2];rfl
 ·rfl
theorem LsW.left{L M:List Bl}(h:LsW (L++M)):LsW L:=⟨(List.pairwise_append.1 h.asc).1,fun b hb=>h.pos b (by simp[hb]),fun b hb=>h.bl b (by simp[hb]),fun b hb=>h.nm b (by simp[hb]),fun b hb c hc=>h.uniq b (by simp[hb]) c (by simp[hc])⟩
theorem blobs_enc(r:List UInt8):∀(M L:List Bl),LsW (L++M)→rdBlobs M.length L ⟨M.flatMap blEnc++r,0⟩=(L++M,⟨r,0⟩)
 | [],L,_=>by simp[rdBlobs]
 | b::M,L,h=>by
  have h':LsW ((L++[b])++M):=by simpa using h
  have hb:=h.bl b (by simp)
  obtain⟨e1,e2⟩:=bl_enc hb (M.flatMap blEnc++r)
  rw[List.flatMap_cons,List.append_assoc,List.length_cons]
  unfold rdBlobs
  rw[e1,e2,ck_ok h'.left,if_pos rfl,blobs_enc r M (L++[b]) h']
  simp
theorem vl_enc{v:Vl}(h1:0≤v.gen)(h2:v.gen≤1073741824)(r:List UInt8):rdVl ⟨vlEnc v++r,0⟩=(v,⟨r,0⟩):=by
 have e0:vlEnc v++r=benc v.closed++(benc v.erase++(ienc v.gen++r)):=by unfold vlEnc;simp
 unfold rdVl
 rw[e0,b_enc]
 simp only
 rw[b_enc]
 simp only
 rw[i_enc h1 h2 (by decide)]
 simp only
 have e1:((v.gen.toNat:Nat):Int)=v.gen:=by omega
 rw[e1]
theorem vls_enc(r:List UInt8):∀(V:List Vl),(∀v∈V,0≤v.gen∧v.gen≤1073741824)→rdVls V.length ⟨V.flatMap vlEnc++r,0⟩=(V,⟨r,0⟩)
 | [],_=>by simp[rdVls]
 | v::V,h=>by
  have hv:=h v (List.mem_cons_self ..)
  rw[List.flatMap_cons,List.append_assoc,List.length_cons]
  unfold rdVls
  rw[vl_enc hv.1 hv.2]
  simp only
  rw[vls_enc r V fun u hu=>h u (List.mem_cons_of_mem _ hu)]
theorem vls_err:∀(n:Nat) (d:Dc),d.err≠0→(rdVls n d).2=d
 | 0,_,_=>rfl
 | n+1,d,h=>by
  unfold rdVls rdVl
  simp only
  rw[Dc.b_err h]
  simp only
  rw[Dc.b_err h]
  simp only
  rw[Dc.i_err h]
  exact vls_err n d h
theorem rdCat_enc{n:Nat}{P:Pm}(h:PInv n P)(hn:n≤100000):rdCat P.enc=(P,0):=by
 have hw:LsW P.L:=⟨h.asc,fun b hb=>by have:=(h.bl b hb).id.1;omega,fun b hb=>by
  have k:=h.bl b hb
  exact⟨k.id.2,k.name.2,k.size,k.sum,k.rises,k.ca,k.cb,⟨k.pins.1,by have:=k.pins.2;omega⟩⟩,fun b hb hd=>(h.bl b hb).name.1 hd,h.uniq⟩
 have hv:∀v∈P.vols,0≤v.gen∧v.gen≤1073741824:=fun v hv=>⟨(h.gen v hv).1,by have:=(h.gen v hv).2;omega⟩
 have e0:P.enc=ienc (P.L.length:Int)++(P.L.flatMap blEnc++(P.vols.flatMap vlEnc++[])):=by unfold Pm.enc;simp
 have hE:rdEnd ⟨P.enc,0⟩=(P.L,⟨P.vols.flatMap vlEnc++[],0⟩):=by
  unfold rdEnd
  rw[e0,i_enc (by omega) (by have:=h.len;omega) (by decide)]
  simp only[Int.toNat_natCast]
  rw[blobs_enc _ P.L [] (by simpa using hw)]
  simp
 have hV:rdVls 12 ⟨P.vols.flatMap vlEnc++[],0⟩=(P.vols,⟨[],0⟩):=by
  have:=vls_enc [] P.vols hv
  rw[h.vlen]at this
  exact this
 unfold rdCat
 rw[hE]
 simp only
 rw[hV]
 rfl
end Go.Proofs.YtkkbfdencgdbhaaGreatDoor
