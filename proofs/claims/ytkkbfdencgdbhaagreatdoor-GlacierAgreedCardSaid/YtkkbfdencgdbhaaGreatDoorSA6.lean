/-
  Part 6 of what the law leans on.
-/
import Derived.Test.YtkkbfdencgdbhaaGreatDoorSA1
import Derived.WalkKit
import Derived.Lib.BitFns
set_option linter.unusedVariables false
set_option linter.unusedSimpArgs false
set_option linter.unusedSectionVars false
namespace Go.Proofs.YtkkbfdencgdbhaaGreatDoor
def uhi(v:Nat):Nat→List UInt8
 | 0=>[]
 | k+1=>UInt8.ofNat (v / 128 ^ (k+1) % 128+128)::uhi v k
def ugroups(v:Nat):Nat:=(Lib.bitLen (v ||| 1) - 1) / 7
def uenc(v:Nat):List UInt8:=uhi v (ugroups v)++[UInt8.ofNat (v % 128)]
def ienc(n:Int):List UInt8:=uenc (max n 0).toNat
def senc(s:ByteArray):List UInt8:=ienc s.size++s.data.toList
def lenc(l:List Int):List UInt8:=ienc l.length++l.flatMap ienc
structure Dc where
 rest:List UInt8
 err:Int
def Dc.fail(d:Dc)(e:Int):Dc:=if d.err=0 then { d with err:=e } else d
def Dc.next(d:Dc):Option UInt8×Dc :=
 if d.err=0 then(match d.rest with | []=>(none, { d with err:=2 })|c::r=>(some c, { d with rest:=r }))else(none,d)
def uloop(first:Bool)(v:Nat):List UInt8→Nat×Dc
 | []=>(0,⟨[],2⟩)
 | c::r=>if(first&&c == 128)||decide (144115188075855871<v)then(0,⟨r,3⟩)
  else if c.toNat<128 then(v * 128+c.toNat % 128,⟨r,0⟩)else uloop false (v * 128+c.toNat % 128) r
def Dc.u(d:Dc):Nat×Dc:=if d.err=0 then uloop true 0 d.rest else(0,d)
def Dc.i(d:Dc)(most:Int):Nat×Dc:=if max most 0<(d.u.1:Int)then(0,d.u.2.fail 11)else d.u
def Dc.s(d:Dc)(most:Int):List UInt8×Dc :=
 if(d.i most).2.err=0 then
  if(d.i most).2.rest.length<(d.i most).1 then([], { (d.i most).2 with err:=2 })
  else((d.i most).2.rest.take (d.i most).1, { (d.i most).2 with rest:=(d.i most).2.rest.drop (d.i most).1 })
 else([],(d.i most).2)
def listLoop(each:Int):Nat→Dc→Option (List Int)×Dc
 | 0,d=>(some [],d)
 | n+1,d=>if(d.i each).2.err=0 then(match listLoop each n (d.i each).2 with|(none,e)=>(none,e)|(some l,e)=>(some (((d.i each).1:Int)::l),e))else(none,(d.i each).2)
def Dc.list(d:Dc)(most each:Int):List Int×Dc:=(((listLoop each (d.i most).1 (d.i most).2).1).getD [],(listLoop each (d.i most).1 (d.i most).2).2)
def Dc.done(d:Dc):Dc:=if d.rest=[]then d else d.fail 3
end Go.Proofs.YtkkbfdencgdbhaaGreatDoor
namespace Go.Proofs.YtkkbfdencgdbhaaGreatDoor
theorem bitLenAux_lt:∀(f x:Nat),x<2 ^ f→x<2 ^ Lib.bitLenAux f x
 | 0,x,h=>by simpa[Lib.bitLenAux]using h
 | f+1,x,h=>by
  unfold Lib.bitLenAux
  by_cases h0:x=0
  ·simp[h0]
  ·rw[if_neg h0,Nat.pow_add]
   have:=bitLenAux_lt f (x / 2) (by rw[Nat.pow_succ]at h;omega)
   omega
theorem bitLenAux_ge:∀(f x:Nat),0<x→x<2 ^ f→2 ^ (Lib.bitLenAux f x - 1)≤x
 | 0,x,h,h2=>by simp at h2;omega
 | f+1,x,h,h2=>by
  unfold Lib.bitLenAux
  rw[if_neg (by omega)]
  by_cases h1:x / 2=0
  ·have:Lib.bitLenAux f (x / 2)=0:=by rw[h1];cases f <;> simp[Lib.bitLenAux]
   rw[this];simp;omega
  ·have ih:=bitLenAux_ge f (x / 2) (by omega) (by rw[Nat.pow_succ]at h2;omega)
   have hp:0<Lib.bitLenAux f (x / 2):=by
    cases f with
    | zero=>simp at h2;omega
    | succ f=>unfold Lib.bitLenAux;rw[if_neg h1];omega
   have e:1+Lib.bitLenAux f (x / 2) - 1=(Lib.bitLenAux f (x / 2) - 1)+1:=by omega
   rw[e,Nat.pow_succ]
   omega
theorem or_one(v:Nat):(v ||| 1=v∧v % 2=1)∨(v ||| 1=v+1∧v % 2=0):=by
 have h := @Nat.or_mod_two_eq_one v 1
 have h1:v ||| 1=2 * (v / 2)+1:=by
  have e1:(v ||| 1) / 2=v / 2:=by rw[Nat.or_div_two];simp
  have e2:(v ||| 1) % 2=1:=by simp[Nat.or_mod_two_eq_one]
  omega
 rcases Nat.mod_two_eq_zero_or_one v with h2|h2
 ·right;exact⟨by omega,h2⟩
 ·left;exact⟨by omega,h2⟩
theorem ugroups_spec{v:Nat}(hv:v<18446744073709551616):v<128 ^ (ugroups v+1)∧(ugroups v=0∨128 ^ ugroups v≤v):=by
 have ho:=or_one v
 have hlt:v ||| 1<2 ^ 64:=by rcases ho with h|h <;> omega
 have hpos:0<v ||| 1:=by omega
 have h1:=bitLenAux_lt 64 (v ||| 1) hlt
 have h2:=bitLenAux_ge 64 (v ||| 1) hpos hlt
 unfold ugroups Lib.bitLen
 generalize Lib.bitLenAux 64 (v ||| 1)=L at h1 h2
 have e128:∀k,(128:Nat) ^ k=2 ^ (7 * k):=fun k=>by rw[show(128:Nat)=2 ^ 7 from rfl,←Nat.pow_mul]
 constructor
 ·rw[e128]
  have:2 ^ L≤2 ^ (7 * ((L - 1) / 7+1)):=Nat.pow_le_pow_right (by omega) (by omega)
  omega
 ·by_cases hg:(L - 1) / 7=0
  ·exact .inl hg
  ·right
   rw[e128]
   have h3:2 ^ (7 * ((L - 1) / 7))≤2 ^ (L - 1):=Nat.pow_le_pow_right (by omega) (by omega)
   have h4:2 ^ (7 * ((L - 1) / 7)) % 2=0:=by
    have:7 * ((L - 1) / 7)=(7 * ((L - 1) / 7) - 1)+1:=by omega
    rw[this,Nat.pow_succ];omega
   omega
theorem ugroups_unique{v k:Nat}(hv:v<18446744073709551616)(h1:v<128 ^ (k+1))(h2:k=0∨128 ^ k≤v):ugroups v=k:=by
 obtain⟨g1,g2⟩:=ugroups_spec hv
 rcases Nat.lt_trichotomy (ugroups v) k with h|h|h
 ·have:128 ^ (ugroups v+1)≤128 ^ k:=Nat.pow_le_pow_right (by omega) (by omega)
  omega
 ·exact h
 ·have:128 ^ (k+1)≤128 ^ ugroups v:=Nat.pow_le_pow_right (by omega) (by omega)
  omega
theorem ofNat_toNat{n:Nat}(h:n<256):(UInt8.ofNat n).toNat=n:=by simp[UInt8.toNat_ofNat'];omega
theorem beq_128(c:UInt8):(c == 128)=decide (c.toNat=128):=by
 rw[Bool.eq_iff_iff];simp[←UInt8.toNat_inj]
theorem uloop_uhi(v:Nat)(hv:v<18446744073709551616)(r:List UInt8):∀(k:Nat) (first:Bool),(first=true→v / 128 ^ (k+1)=0∧(k=0∨1≤v / 128 ^ k))→uloop first (v / 128 ^ (k+1)) (uhi v k++UInt8.ofNat (v % 128)::r)=(v,⟨r,0⟩)
 | 0,first,hf=>by
  simp only[uhi,List.nil_append,Nat.zero_add,Nat.pow_one]
  rw[uloop,ofNat_toNat (by omega),beq_128,ofNat_toNat (by omega),if_neg (by simp;omega),if_pos (by omega)]
  simp only[Prod.mk.injEq,and_true]
  omega
 | k+1,first,hf=>by
  have hb:v / 128 ^ (k+1) % 128+128<256:=by omega
  have hd:v / 128 ^ (k+1+1)=v / 128 ^ (k+1) / 128:=by rw[Nat.pow_succ,Nat.div_div_eq_div_mul]
  have hle:v / 128 ^ (k+1)≤v / 128:=by
   rw[Nat.pow_succ,Nat.mul_comm,←Nat.div_div_eq_div_mul];exact Nat.div_le_self _ _
  rw[uhi,List.cons_append,uloop,ofNat_toNat hb,beq_128,ofNat_toNat hb,if_neg,if_neg (by omega)]
  ·have e:v / 128 ^ (k+1+1) * 128+(v / 128 ^ (k+1) % 128+128) % 128=v / 128 ^ (k+1):=by rw[hd];omega
   rw[e]
   exact uloop_uhi v hv r k false (fun h=>by cases h)
  ·simp only[Bool.or_eq_true,Bool.and_eq_true,decide_eq_true_eq,not_or,not_and]
   refine⟨fun h1=>?_,by omega⟩
   have:=hf h1
   have h2:v / 128 ^ (k+1) / 128=0:=by rw[←hd];exact this.1
   omega
theorem u_enc{v:Nat}(hv:v<18446744073709551616)(r:List UInt8):Dc.u ⟨uenc v++r,0⟩=(v,⟨r,0⟩):=by
 obtain⟨g1,g2⟩:=ugroups_spec hv
 unfold Dc.u
 rw[if_pos rfl]
 simp only
 have h0:v / 128 ^ (ugroups v+1)=0:=Nat.div_eq_of_lt g1
 have:=uloop_uhi v hv r (ugroups v) true (fun _=>⟨h0,g2.imp id fun h=>(Nat.le_div_iff_mul_le (Nat.pow_pos (by omega))).2 (by simpa using h)⟩)
 rw[h0]at this
 unfold uenc
 rw[List.append_assoc]
 exact this
theorem uloop_inv:∀(s:List UInt8) (first:Bool) (acc v:Nat) (r:List UInt8),uloop first acc s=(v,⟨r,0⟩) →
 ∃k,s=uhi v k++UInt8.ofNat (v % 128)::r∧acc=v / 128 ^ (k+1)∧v<18446744073709551616∧(first=true→acc=0→k=0∨128 ^ k≤v)
 | [],first,acc,v,r,h=>by simp[uloop]at h
 | c::s,first,acc,v,r,h=>by
  rw[uloop]at h
  split at h
  ·simp at h
  ·rename_i hc
   have hacc:acc≤144115188075855871:=by simp at hc;omega
   split at h
   ·rename_i hlt
    simp only[Prod.mk.injEq,Dc.mk.injEq,and_true]at h
    obtain⟨rfl,rfl⟩:=h
    refine⟨0,?_,by simp;omega,by omega,fun _ _=>.inl rfl⟩
    simp only[uhi,List.nil_append,List.cons.injEq,and_true]
    rw[←UInt8.toNat_inj,ofNat_toNat (by omega)];omega
   ·rename_i hge
    have hc256:=c.toNat_lt
    obtain⟨k,hs,ha,hv,_⟩:=uloop_inv s false _ v r h
    have hd:v / 128 ^ (k+1+1)=v / 128 ^ (k+1) / 128:=by rw[Nat.pow_succ,Nat.div_div_eq_div_mul]
    refine⟨k+1,?_,by rw[hd,←ha];omega,hv,fun hf h0=>.inr ?_⟩
    ·rw[uhi,List.cons_append,←hs,←ha]
     congr 1
     rw[←UInt8.toNat_inj,ofNat_toNat (by omega)];omega
    ·subst hf h0
     have hne:c.toNat≠128:=by
      intro e
      apply hc
      simp[beq_128,e]
     have h1:1≤v / 128 ^ (k+1):=by rw[←ha];omega
     have:=(Nat.le_div_iff_mul_le (Nat.pow_pos (n:=k+1) (show 0<128 by omega))).1 h1
     simpa using this
theorem u_inv{s r:List UInt8}{v:Nat}(h:Dc.u ⟨s,0⟩=(v,⟨r,0⟩)):s=uenc v++r∧v<18446744073709551616:=by
 unfold Dc.u at h
 rw[if_pos rfl]at h
 obtain⟨k,hs,ha,hv,hf⟩:=uloop_inv _ _ _ _ _ h
 refine⟨?_,hv⟩
 have hk:ugroups v=k:=ugroups_unique hv (by
  rcases Nat.lt_or_ge v (128 ^ (k+1))with h|h
  ·exact h
  ·have:=(Nat.le_div_iff_mul_le (Nat.pow_pos (n:=k+1) (show 0<128 by omega))).2 (show 1 * 128 ^ (k+1)≤v by omega)
   omega) (hf rfl rfl)
 unfold uenc
 rw[hk,List.append_assoc]
 exact hs
theorem i_enc{n most:Int}(_h0:0≤n)(h1:n≤most)(hm:most≤9223372036854775807)(r:List UInt8):Dc.i ⟨ienc n++r,0⟩ most=(n.toNat,⟨r,0⟩):=by
 unfold Dc.i ienc
 rw[u_enc (by omega),if_neg (by simp only;omega)]
 simp only[Prod.mk.injEq,and_true]
 omega
theorem Dc.fail_err{d:Dc}{e:Int}(he:e≠0):(d.fail e).err≠0:=by
 unfold Dc.fail;split
 ·exact he
 ·assumption
theorem i_inv{s r:List UInt8}{v:Nat}{most:Int}(h:Dc.i ⟨s,0⟩ most=(v,⟨r,0⟩)):s=ienc v++r∧((v:Int)≤max most 0):=by
 unfold Dc.i at h
 split at h
 ·simp only[Prod.mk.injEq]at h
  exact absurd (congrArg Dc.err h.2) (Dc.fail_err (by omega))
 ·rename_i hg
  rw[h]at hg
  simp only at hg
  have:=(u_inv h).1
  unfold ienc
  exact⟨by rw[show(max (v:Int) 0).toNat=v from by omega];exact this,by omega⟩
theorem Dc.u_err{d:Dc}(h:d.err≠0):d.u=(0,d):=by unfold Dc.u;rw[if_neg h]
theorem Dc.i_err{d:Dc}(h:d.err≠0)(m:Int):d.i m=(0,d):=by unfold Dc.i;rw[Dc.u_err h,if_neg (by simp only;omega)]
theorem Dc.s_err{d:Dc}(h:d.err≠0)(m:Int):d.s m=([],d):=by unfold Dc.s;rw[Dc.i_err h,if_neg h]
theorem Dc.list_err{d:Dc}(h:d.err≠0)(m e:Int):d.list m e=([],d):=by unfold Dc.list;rw[Dc.i_err h];rfl
theorem s_enc{s:ByteArray}{most:Int}(h1:(s.size:Int)≤most)(hm:most≤9223372036854775807)(r:List UInt8):Dc.s ⟨senc s++r,0⟩ most=(s.data.toList,⟨r,0⟩):=by
 unfold Dc.s senc
 rw[List.append_assoc,i_enc (by omega) h1 hm,if_pos rfl]
 have hl:s.data.toList.length=s.size:=by simp
 simp only[Int.toNat_natCast]
 rw[if_neg (by rw[List.length_append,hl];omega),←hl,List.take_left,List.drop_left]
theorem s_inv{t r:List UInt8}{x:List UInt8}{most:Int}(h:Dc.s ⟨t,0⟩ most=(x,⟨r,0⟩)):t=senc ⟨x.toArray⟩++r∧((x.length:Int)≤max most 0):=by
 unfold Dc.s at h
 generalize hi:Dc.i ⟨t,0⟩ most=I at h
 obtain⟨n,⟨r1,e1⟩⟩:=I
 simp only at h
 split at h
 ·rename_i he
  subst he
  split at h
  ·simp at h
  ·rename_i hl
   simp only[Prod.mk.injEq,Dc.mk.injEq,and_true]at h
   obtain⟨rfl,rfl⟩:=h
   obtain⟨h1,h2⟩:=i_inv hi
   have hn:(r1.take n).length=n:=by rw[List.length_take];omega
   refine⟨?_,by rw[hn];exact h2⟩
   unfold senc
   have hs:(⟨(r1.take n).toArray⟩:ByteArray).size=n:=by show(r1.take n).toArray.size=n;simpa using hn
   rw[hs,List.append_assoc]
   simp only[List.take_append_drop]
   exact h1
 ·rename_i he
  simp only[Prod.mk.injEq,Dc.mk.injEq]at h
  exact absurd h.2.2 he
theorem listLoop_inv{each:Int} : ∀(n:Nat) (t r:List UInt8) (l:List Int) (e:Int),e=0→listLoop each n ⟨t,e⟩=(some l,⟨r,0⟩)→t=l.flatMap ienc++r∧l.length=n∧∀x∈l,0≤x∧x≤max each 0
 | 0,t,r,l,e,he,h=>by
  simp only[listLoop,Prod.mk.injEq,Option.some.injEq,Dc.mk.injEq]at h
  obtain⟨rfl,rfl,_⟩:=h
  simp
 | n+1,t,r,l,e,he,h=>by
  subst he
  rw[listLoop]at h
  generalize hi:Dc.i ⟨t,0⟩ each=I at h
  obtain⟨x,⟨r1,e1⟩⟩:=I
  simp only at h
  split at h
  ·rename_i he
   subst he
   generalize hl:listLoop each n ⟨r1,0⟩=Z at h
   obtain⟨o,D⟩:=Z
   cases o with
   | none=>simp at h
   | some l' =>
    simp only[Prod.mk.injEq,Option.some.injEq]at h
    obtain⟨rfl,rfl⟩:=h
    obtain⟨a1,a2,a3⟩:=listLoop_inv n r1 r l' 0 rfl hl
    obtain⟨b1,b2⟩:=i_inv hi
    refine⟨by rw[List.flatMap_cons,List.append_assoc,←a1];exact b1,by simp[a2],fun y hy=>?_⟩
    rcases List.mem_cons.1 hy with rfl|hy
    ·exact⟨by omega,b2⟩
    ·exact a3 y hy
  ·simp at h
theorem listLoop_none{each:Int} : ∀(n:Nat) (d:Dc),(listLoop each n d).1=none→(listLoop each n d).2.err≠0
 | 0,d,h=>by simp[listLoop]at h
 | n+1,d,h=>by
  rw[listLoop]at h⊢
  split at h
  ·rename_i he
   rw[if_pos he]
   have ih:=listLoop_none (each:=each) n (d.i each).2
   generalize listLoop each n (d.i each).2=Z at h ih
   obtain⟨o,D⟩:=Z
   cases o with
   | none=>exact ih rfl
   | some l=>simp at h
  ·rename_i he
   rw[if_neg he]
   exact he
theorem list_inv{t r:List UInt8}{l:List Int}{most each:Int}(h:Dc.list ⟨t,0⟩ most each=(l,⟨r,0⟩)):t=lenc l++r∧((l.length:Int)≤max most 0)∧∀x∈l,0≤x∧x≤max each 0:=by
 unfold Dc.list at h
 generalize hi:Dc.i ⟨t,0⟩ most=I at h
 obtain⟨n,⟨r1,e1⟩⟩:=I
 simp only at h
 by_cases he:e1=0
 ·subst he
  generalize hl:listLoop each n ⟨r1,0⟩=Z at h
  obtain⟨o,D⟩:=Z
  simp only[Prod.mk.injEq]at h
  obtain⟨h1,rfl⟩:=h
  cases o with
  | none=>exact absurd rfl (by have:=listLoop_none (each:=each) n ⟨r1,0⟩ (by rw[hl]);rw[hl]at this;exact this)
  | some l' =>
   simp only[Option.getD_some]at h1
   subst h1
   obtain⟨a1,a2,a3⟩:=listLoop_inv n r1 r l' 0 rfl hl
   obtain⟨b1,b2⟩:=i_inv hi
   refine⟨?_,by rw[a2];exact b2,a3⟩
   unfold lenc
   rw[a2,List.append_assoc,←a1];exact b1
 ·exfalso
  cases n with
  | zero =>
   simp only[listLoop,Prod.mk.injEq,Dc.mk.injEq]at h
   exact he h.2.2
  | succ n =>
   rw[listLoop,Dc.i_err (d:=⟨r1,e1⟩) he,if_neg he]at h
   simp only[Prod.mk.injEq,Dc.mk.injEq]at h
   exact he h.2.2
end Go.Proofs.YtkkbfdencgdbhaaGreatDoor
namespace Go.Proofs.YtkkbfdencgdbhaaGreatDoor
section
variable{q:List UInt8}
theorem u_err0{d:Dc}(h:d.u.2.err=0):d.err=0:=by
 by_cases hd:d.err=0
 ·exact hd
 ·rw[Dc.u_err hd]at h;exact h
theorem i_err0{d:Dc}{m:Int}(h:(d.i m).2.err=0):d.err=0:=by
 by_cases hd:d.err=0
 ·exact hd
 ·rw[Dc.i_err hd]at h;exact h
theorem s_err0{d:Dc}{m:Int}(h:(d.s m).2.err=0):d.err=0:=by
 by_cases hd:d.err=0
 ·exact hd
 ·rw[Dc.s_err hd]at h;exact h
theorem list_err0{d:Dc}{m e:Int}(h:(d.list m e).2.err=0):d.err=0:=by
 by_cases hd:d.err=0
 ·exact hd
 ·rw[Dc.list_err hd]at h;exact h
end
end Go.Proofs.YtkkbfdencgdbhaaGreatDoor
