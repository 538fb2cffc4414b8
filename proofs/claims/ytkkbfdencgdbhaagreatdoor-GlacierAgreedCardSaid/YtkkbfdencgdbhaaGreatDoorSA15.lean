/-
  Part 15 of what the law leans on.
-/
import Derived.Test.YtkkbfdencgdbhaaGreatDoorSA6
set_option linter.unusedVariables false
set_option linter.unusedSimpArgs false
set_option linter.unusedSectionVars false
namespace Go.Proofs.YtkkbfdencgdbhaaGreatDoor
structure Cmd where
 kind:Int
 client:Int
 seq:Int
 name:ByteArray
 blob:Nat
 size:Int
 sum:Nat
 disks:List Int
 pool:Int
 vol:Int
 at_:Int
def Cmd.zero:Cmd:=⟨0,0,0,ByteArray.empty,0,0,0,[],0,0,0⟩
def cmdVal(c:Cmd)(dv:Value):Value:=.agg #[.int .i64 c.kind,.int .i64 c.client,.int .i64 c.seq,.string c.name,.int .u64 (c.blob:Int),.int .i64 c.size,.int .u32 (c.sum:Int),dv,.int .i64 c.pool,.int .i64 c.vol,.int .i64 c.at_]
def upB(n l:Int):Bool:=decide (0≤n)&&decide (n≤l)
def stepOk(ds:List Int)(k:Nat):Bool:=upB (ds.getD k 0) 5&&(k == 0||decide (ds.getD (k - 1) 0<ds.getD k 0))
def risesB(ds:List Int):Bool:=(List.range ds.length).all (stepOk ds)
def Cmd.good(c:Cmd):Bool :=
 upB c.kind 14&&(c.kind != 0)&&risesB c.disks&&upB c.client 1073741824&&upB c.seq 1073741824&&decide (c.name.size≤32)&&upB c.size 4000&&upB c.pool 1&&upB c.vol 11&&upB c.at_ 1073741824
structure Cmd.Wf (c:Cmd):Prop where
 kind : -9223372036854775808≤c.kind∧c.kind≤9223372036854775807
 client : -9223372036854775808≤c.client∧c.client≤9223372036854775807
 seq : -9223372036854775808≤c.seq∧c.seq≤9223372036854775807
 blob:c.blob<18446744073709551616
 size : -9223372036854775808≤c.size∧c.size≤9223372036854775807
 sum:c.sum<4294967296
 pool : -9223372036854775808≤c.pool∧c.pool≤9223372036854775807
 vol : -9223372036854775808≤c.vol∧c.vol≤9223372036854775807
 at_ : -9223372036854775808≤c.at_∧c.at_≤9223372036854775807
 disks:∀d∈c.disks, -9223372036854775808≤d∧d≤9223372036854775807
def Cmd.enc1(c:Cmd):List UInt8:=[c.kind,c.client,c.seq].flatMap ienc++[c.name].flatMap senc++[c.blob].flatMap uenc++[c.size].flatMap ienc++[c.sum].flatMap uenc
def Cmd.enc(c:Cmd):List UInt8:=c.enc1++lenc c.disks++[c.pool,c.vol,c.at_].flatMap ienc
def craw(d:Dc):Cmd×Nat×Dc :=
 let k:=d.i 14
 let cl:=k.2.i 1073741824
 let sq:=cl.2.i 1073741824
 let nm:=sq.2.s 32
 let bl:=nm.2.u
 let sz:=bl.2.i 4000
 let su:=sz.2.u
 let dk:=su.2.list 6 5
 let po:=dk.2.i 1
 let vo:=po.2.i 11
 let at_:=vo.2.i 1073741824
 (⟨k.1,cl.1,sq.1,⟨nm.1.toArray⟩,bl.1,sz.1,su.1 % 4294967296,dk.1,po.1,vo.1,at_.1⟩,su.1,at_.2)
def cend(r:Cmd×Nat×Dc):Dc:=(if(decide (4294967295<r.2.1) || !r.1.good)=true then r.2.2.fail 3 else r.2.2).done
def cread(s:List UInt8):Cmd×Int:=if(cend (craw ⟨s,0⟩)).err=0 then((craw ⟨s,0⟩).1,0)else(Cmd.zero,(cend (craw ⟨s,0⟩)).err)
end Go.Proofs.YtkkbfdencgdbhaaGreatDoor
namespace Go.Proofs.YtkkbfdencgdbhaaGreatDoor
theorem upB_iff{n l:Int} : upB n l=true↔0≤n∧n≤l:=by unfold upB;simp
theorem Cmd.good_iff{c:Cmd} : c.good=true↔(0≤c.kind∧c.kind≤14)∧c.kind≠0∧risesB c.disks=true∧(0≤c.client∧c.client≤1073741824)∧(0≤c.seq∧c.seq≤1073741824)∧c.name.size≤32 ∧
 (0≤c.size∧c.size≤4000)∧(0≤c.pool∧c.pool≤1)∧(0≤c.vol∧c.vol≤11)∧(0≤c.at_∧c.at_≤1073741824):=by
 unfold Cmd.good
 simp only[Bool.and_eq_true,upB_iff,bne_iff_ne,decide_eq_true_eq]
 constructor
 ·rintro⟨⟨⟨⟨⟨⟨⟨⟨⟨a,b⟩,c⟩,d⟩,e⟩,f⟩,g⟩,h⟩,i⟩,j⟩;exact⟨a,b,c,d,e,f,g,h,i,j⟩
 ·rintro⟨a,b,c,d,e,f,g,h,i,j⟩;exact⟨⟨⟨⟨⟨⟨⟨⟨⟨a,b⟩,c⟩,d⟩,e⟩,f⟩,g⟩,h⟩,i⟩,j⟩
theorem rises_in{ds:List Int}(h:risesB ds=true):∀d∈ds,0≤d∧d≤5:=by
 intro d hd
 obtain⟨k,hk,rfl⟩:=List.mem_iff_getElem.1 hd
 have:=List.all_eq_true.1 h k (List.mem_range.2 hk)
 unfold stepOk at this
 rw[show ds.getD k 0=ds[k]from by rw[List.getD_eq_getElem?_getD,List.getElem?_eq_getElem hk];rfl]at this
 simp only[Bool.and_eq_true,upB_iff]at this
 exact this.1
theorem rises_len{ds:List Int}(h:risesB ds=true):ds.length≤6:=by
 have hg:∀k (hk:k<ds.length),ds.getD k 0=ds[k]:=fun k hk=>by rw[List.getD_eq_getElem?_getD,List.getElem?_eq_getElem hk];rfl
 have key:∀k (hk:k<ds.length),(k:Int)≤ds[k]:=by
  intro k
  induction k with
  | zero=>intro hk;have:=rises_in h _ (List.getElem_mem hk);omega
  | succ k ih =>
   intro hk
   have h1:=ih (by omega)
   have:=List.all_eq_true.1 h (k+1) (List.mem_range.2 hk)
   unfold stepOk at this
   rw[hg (k+1) hk]at this
   simp only[Bool.and_eq_true,Bool.or_eq_true,beq_iff_eq,decide_eq_true_eq,Nat.add_sub_cancel]at this
   rw[hg k (by omega)]at this
   rcases this.2 with h2|h2
   ·omega
   ·omega
 rcases Nat.lt_or_ge 6 ds.length with hl|hl
 ·have h1:=key 6 hl
  have h2:=rises_in h _ (List.getElem_mem hl)
  omega
 ·exact hl
theorem done_zero{d:Dc}(h:d.done.err=0):d.rest=[]∧d.err=0:=by
 unfold Dc.done at h
 split at h
 ·exact⟨by assumption,h⟩
 ·exact absurd h (Dc.fail_err (by decide))
theorem cread_inv{s:List UInt8}{c:Cmd}(h:cread s=(c,0)):c.good=true∧c.enc=s:=by
 unfold cread at h
 split at h
 ·rename_i he
  simp only[Prod.mk.injEq,and_true]at h
  unfold cend at he
  obtain⟨h1,h2⟩:=done_zero he
  split at h1
  ·rename_i hc
   rw[if_pos hc]at h2
   exact absurd h2 (Dc.fail_err (by decide))
  ·rename_i hc
   rw[if_neg hc]at h2
   simp only[Bool.or_eq_true,not_or,decide_eq_true_eq,Bool.not_eq_true',Bool.not_eq_false]at hc
   obtain⟨hs,hg⟩:=hc
   rw[h]at hg
   refine⟨hg,?_⟩
   subst h
   unfold craw at h1 h2 hs⊢
   simp only at h1 h2 hs⊢
   generalize hd0:(⟨s,0⟩:Dc)=d0 at *
   have z11:=h2
   have z10:=i_err0 z11
   have z9:=i_err0 z10
   have z8:=i_err0 z9
   have z7:=list_err0 z8
   have z6:=u_err0 z7
   have z5:=i_err0 z6
   have z4:=u_err0 z5
   have z3:=s_err0 z4
   have z2:=i_err0 z3
   have z1:=i_err0 z2
   have mk:∀d:Dc,d.err=0→d=⟨d.rest,0⟩:=fun d hd=>by obtain⟨x,y⟩:=d;simp only at hd;rw[hd]
   have stepI:∀(d:Dc) (m:Int),d.err=0→(d.i m).2.err=0→d.rest=ienc ((d.i m).1:Int)++(d.i m).2.rest:=fun d m h h'=>by
    have e1:=mk d h
    have:=i_inv (s:=d.rest) (r:=(d.i m).2.rest) (v:=(d.i m).1) (most:=m) (by rw[←e1,←mk _ h'])
    exact this.1
   have stepU:∀(d:Dc),d.err=0→d.u.2.err=0→d.rest=uenc d.u.1++d.u.2.rest:=fun d h h'=>by
    have e1:=mk d h
    exact(u_inv (s:=d.rest) (r:=d.u.2.rest) (v:=d.u.1) (by rw[←e1,←mk _ h'])).1
   have stepS:∀(d:Dc) (m:Int),d.err=0→(d.s m).2.err=0→d.rest=senc ⟨(d.s m).1.toArray⟩++(d.s m).2.rest:=fun d m h h'=>by
    have e1:=mk d h
    exact(s_inv (t:=d.rest) (r:=(d.s m).2.rest) (x:=(d.s m).1) (most:=m) (by rw[←e1,←mk _ h'])).1
   have stepL:∀(d:Dc) (m e:Int),d.err=0→(d.list m e).2.err=0→d.rest=lenc (d.list m e).1++(d.list m e).2.rest:=fun d m e h h'=>by
    have e1:=mk d h
    exact(list_inv (t:=d.rest) (r:=(d.list m e).2.rest) (l:=(d.list m e).1) (most:=m) (each:=e) (by rw[←e1,←mk _ h'])).1
   have hd0e:d0.err=0:=by rw[←hd0]
   have q0:=stepI d0 14 hd0e z1
   have q1:=stepI _ 1073741824 z1 z2
   have q2:=stepI _ 1073741824 z2 z3
   have q3:=stepS _ 32 z3 z4
   have q4:=stepU _ z4 z5
   have q5:=stepI _ 4000 z5 z6
   have q6:=stepU _ z6 z7
   have q7:=stepL _ 6 5 z7 z8
   have q8:=stepI _ 1 z8 z9
   have q9:=stepI _ 11 z9 z10
   have q10:=stepI _ 1073741824 z10 z11
   have hs0:s=d0.rest:=by rw[←hd0]
   rw[hs0,q0,q1,q2,q3,q4,q5,q6,q7,q8,q9,q10,h1]
   rw[Nat.mod_eq_of_lt (by omega)]
   simp[Cmd.enc,Cmd.enc1,List.append_assoc]
 ·rename_i he
  simp only[Prod.mk.injEq]at h
  exact absurd h.2 he
theorem u_lt64(d:Dc):d.u.1<18446744073709551616:=by
 have key:∀(l:List UInt8) (f:Bool) (v:Nat),(uloop f v l).1<18446744073709551616:=by
  intro l
  induction l with
  | nil=>intro f v;simp[uloop]
  | cons c r ih =>
   intro f v
   rw[uloop]
   split
   ·simp
   ·rename_i h
    have hv:v≤144115188075855871:=by simp at h;omega
    split
    ·simp only;omega
    ·exact ih _ _
 unfold Dc.u
 split
 ·exact key _ _ _
 ·simp
theorem cread_wf{s:List UInt8}{c:Cmd}(h:cread s=(c,0)):c.Wf:=by
 obtain⟨hg,_⟩:=cread_inv h
 obtain⟨h1,_,h3,h4,h5,h6,h7,h8,h9,h10⟩:=Cmd.good_iff.1 hg
 have hb:c.blob<18446744073709551616∧c.sum<4294967296:=by
  unfold cread at h
  split at h
  ·simp only[Prod.mk.injEq,and_true]at h
   rw[←h]
   exact⟨u_lt64 _,Nat.mod_lt _ (by decide)⟩
  ·rename_i he
   simp only[Prod.mk.injEq]at h
   exact absurd h.2 he
 exact⟨by omega,by omega,by omega,hb.1,by omega,hb.2,by omega,by omega,by omega,fun d hd=>by have:=rises_in h3 d hd;omega⟩
end Go.Proofs.YtkkbfdencgdbhaaGreatDoor
