/-
  Part 27 of what the law leans on.
-/
import Derived.Test.YtkkbfdencgdbhaaGreatDoorSA19
import Derived.Test.YtkkbfdencgdbhaaGreatDoorSA26
set_option linter.unusedVariables false
set_option linter.unusedSimpArgs false
set_option linter.unusedSectionVars false
namespace Go.Proofs.YtkkbfdencgdbhaaGreatDoor
open Go.RowKit
structure Last where
 seq:Int
 r:Rs
structure Mach where
 P:Pm
 cl:List (Int×Last)
 n:Int
def Mach.empty:Mach:=⟨Pm.empty,[],0⟩
def Mach.seq(M:Mach)(k:Int):Int:=((lget k M.cl).map Last.seq).getD 0
def Mach.told(M:Mach)(k s:Int):Option Rs:=match lget k M.cl with
 | some l=>if l.seq=s then some l.r else none
 | none=>none
def Mach.inc(M:Mach):Mach := { M with n:=M.n+1 }
def Cmd.isCl(c:Cmd):Bool:=decide (1≤c.kind)&&decide (c.kind≤5)
def Mach.cmd(M:Mach)(x:Cmd):Mach×Rs :=
 if x.isCl=false then({ M with P:=(M.P.app x).1 },(M.P.app x).2)
 else if x.client=0∨x.seq=0∨x.seq<M.seq x.client then(M,Rs.er 16)
 else match M.told x.client x.seq with
  | some r=>(M,r)
  | none=>({ M with P:=(M.P.app x).1,cl:=(x.client,⟨x.seq,(M.P.app x).2⟩)::ldel x.client M.cl },(M.P.app x).2)
def Mach.app(M:Mach)(s:List UInt8):Mach×Rs :=
 if s=[]then(M.inc,Rs.er 0)
 else if(cread s).2=0 then((M.cmd (cread s).1).1.inc,(M.cmd (cread s).1).2)
 else(M.inc,Rs.er (cread s).2)
structure RsOk (n:Nat) (r:Rs):Prop where
 err:0≤r.err∧r.err≤17
 blob:r.blob<18446744073709551616
 size:0≤r.size∧r.size≤4000
 sum:r.sum<4294967296
 len:r.names.length≤n
 nm:∀m∈r.names,m.size≤32
theorem RsOk.er{n:Nat}(e:Int)(h:0≤e∧e≤17):RsOk n (Rs.er e):=⟨h,by show 0<_;omega,by show(0:Int)≤0∧(0:Int)≤4000;omega,by show 0<_;omega,Nat.zero_le _,fun m hm=>by cases hm⟩
theorem RsOk.le{n m:Nat}{r:Rs}(h:RsOk n r)(hm:n≤m):RsOk m r:=⟨h.err,h.blob,h.size,h.sum,Nat.le_trans h.len hm,h.nm⟩
theorem lit17(e:Int)(h:0≤e:=by decide)(h2:e≤17:=by decide):0≤e∧e≤17:=⟨h,h2⟩
theorem put_errR{P:Pm}{x:Cmd} : 0≤(P.put x).2∧(P.put x).2≤17:=by
 unfold Pm.put
 split
 ·first|exact lit17 0|exact lit17 1|exact lit17 5|exact lit17 6|exact lit17 10|exact lit17 16
 ·split
  ·first|exact lit17 0|exact lit17 1|exact lit17 5|exact lit17 6|exact lit17 10|exact lit17 16
  ·first|exact lit17 0|exact lit17 1|exact lit17 5|exact lit17 6|exact lit17 10|exact lit17 16
theorem volume_errR{P:Pm}{x:Cmd} : 0≤(P.volume x).2∧(P.volume x).2≤17:=by
 unfold Pm.volume
 split
 ·first|exact lit17 0|exact lit17 1|exact lit17 5|exact lit17 6|exact lit17 10|exact lit17 16
 ·split
  ·split
   ·first|exact lit17 0|exact lit17 1|exact lit17 5|exact lit17 6|exact lit17 10|exact lit17 16
   ·first|exact lit17 0|exact lit17 1|exact lit17 5|exact lit17 6|exact lit17 10|exact lit17 16
  ·split
   ·first|exact lit17 0|exact lit17 1|exact lit17 5|exact lit17 6|exact lit17 10|exact lit17 16
   ·first|exact lit17 0|exact lit17 1|exact lit17 5|exact lit17 6|exact lit17 10|exact lit17 16
theorem chgB_err{c:Bool}{b:Bl}{x:Cmd} : 0≤(chgB c b x).2∧(chgB c b x).2≤17:=by
 unfold chgB
 repeat' split
 all_goals first|exact lit17 0|exact lit17 1|exact lit17 5|exact lit17 6|exact lit17 10|exact lit17 16
theorem byBlob_errR{P:Pm}{x:Cmd} : 0≤(P.byBlob x).2∧(P.byBlob x).2≤17:=by
 unfold Pm.byBlob
 split
 ·first|exact lit17 0|exact lit17 1|exact lit17 5|exact lit17 6|exact lit17 10|exact lit17 16
 ·split
  ·split
   ·first|exact lit17 0|exact lit17 1|exact lit17 5|exact lit17 6|exact lit17 10|exact lit17 16
   ·first|exact lit17 0|exact lit17 1|exact lit17 5|exact lit17 6|exact lit17 10|exact lit17 16
  ·split
   ·first|exact lit17 0|exact lit17 1|exact lit17 5|exact lit17 6|exact lit17 10|exact lit17 16
   ·exact chgB_err
theorem app_ok{n:Nat}{P:Pm}(h:PInv n P)(x:Cmd):RsOk n (P.app x).2:=by
 unfold Pm.app
 split
 ·exact RsOk.er 3 ⟨by decide,by decide⟩
 ·split
  ·exact RsOk.er _ put_errR
  ·split
   ·refine⟨lit17 0,by show 0<_;omega,⟨Int.le_refl 0,by show(0:Int)≤4000;decide⟩,by show 0<_;omega,?_,fun m hm=>?_⟩
    ·show(namesL P.L).length≤n
     unfold namesL
     rw[List.length_mergeSort,List.length_map]
     exact Nat.le_trans (List.length_filter_le _ _) h.len
    ·have hm2:m∈namesL P.L:=hm
     unfold namesL at hm2
     rw[List.mem_mergeSort]at hm2
     obtain⟨b,hb,rfl⟩:=List.mem_map.1 hm2
     exact(h.bl b (List.mem_filter.1 hb).1).name.2
   ·split
    ·unfold Pm.byName
     cases hq:P.named x.name with
     | none=>exact RsOk.er 5 ⟨by decide,by decide⟩
     | some b =>
      have hb:=h.bl b ((pnamed_some h).1 hq).1
      exact⟨⟨Int.le_refl 0,by show(0:Int)≤17;decide⟩,hb.id.2,hb.size,hb.sum,Nat.zero_le _,fun m hm=>by cases hm⟩
    ·split
     ·exact RsOk.er _ volume_errR
     ·exact RsOk.er _ byBlob_errR
structure MInv (n:Nat) (M:Mach):Prop where
 cat:PInv n M.P
 num:M.n=(n:Int)
 cl:∀p∈M.cl,(1≤p.1∧p.1≤1073741824)∧(1≤p.2.seq∧p.2.seq≤1073741824)∧RsOk n p.2.r
 len:M.cl.length≤n
 nd:(M.cl.map (·.1)).Nodup
theorem MInv.empty:MInv 0 Mach.empty:=⟨PInv.empty 0,rfl,(fun p hp=>by cases hp),Nat.le_refl _,List.nodup_nil⟩
theorem lget_mem{κ ν : Type}[DecidableEq κ]{k : κ}{L:List (κ × ν)}{v : ν}(h:lget k L=some v):(k,v)∈L:=by
 unfold lget at h
 rw[Option.map_eq_some_iff]at h
 obtain⟨p,hp,rfl⟩:=h
 have h1:=List.find?_some hp
 have h2:=List.mem_of_find?_eq_some hp
 have h3:p.1=k:=by simpa using h1
 subst h3;exact h2
theorem cread_good{s:List UInt8}(h:(cread s).2=0):(cread s).1.good=true∧(0≤(cread s).1.client∧(cread s).1.client≤1073741824)∧(0≤(cread s).1.seq∧(cread s).1.seq≤1073741824):=by
 have hi:=cread_inv (s:=s) (c:=(cread s).1) (by rw[←h])
 obtain⟨_,_,_,h4,h5,_⟩:=Cmd.good_iff.1 hi.1
 exact⟨hi.1,h4,h5⟩
theorem MInv.cmd{n:Nat}{M:Mach}(h:MInv n M){x:Cmd}(hw:x.Wf)(hc:0≤x.client∧x.client≤1073741824)(hs:0≤x.seq∧x.seq≤1073741824) :
 PInv (n+1) (M.cmd x).1.P∧(M.cmd x).1.n=M.n∧(∀p∈(M.cmd x).1.cl,(1≤p.1∧p.1≤1073741824)∧(1≤p.2.seq∧p.2.seq≤1073741824)∧RsOk (n+1) p.2.r)∧(M.cmd x).1.cl.length≤n+1∧((M.cmd x).1.cl.map (·.1)).Nodup∧RsOk (n+1) (M.cmd x).2:=by
 have h0:PInv (n+1) M.P:=h.cat.mono (Nat.le_succ n)
 have hcl:∀p∈M.cl,(1≤p.1∧p.1≤1073741824)∧(1≤p.2.seq∧p.2.seq≤1073741824)∧RsOk (n+1) p.2.r:=fun p hp=>⟨(h.cl p hp).1,(h.cl p hp).2.1,(h.cl p hp).2.2.le (Nat.le_succ n)⟩
 have hlen:M.cl.length≤n+1:=Nat.le_succ_of_le h.len
 have hr:=(app_ok h.cat x).le (Nat.le_succ n)
 unfold Mach.cmd
 by_cases h1:x.isCl=false
 ·rw[if_pos h1]
  exact⟨h.cat.app hw,rfl,hcl,hlen,h.nd,hr⟩
 rw[if_neg h1]
 by_cases h2:x.client=0∨x.seq=0∨x.seq<M.seq x.client
 ·rw[if_pos h2]
  exact⟨h0,rfl,hcl,hlen,h.nd,RsOk.er 16 (lit17 16)⟩
 rw[if_neg h2]
 cases ht:M.told x.client x.seq with
 | some r =>
  refine⟨h0,rfl,hcl,hlen,h.nd,?_⟩
  unfold Mach.told at ht
  cases hl:lget x.client M.cl with
  | none=>rw[hl]at ht;cases ht
  | some l =>
   rw[hl]at ht
   simp only at ht
   split at ht
   ·injection ht with ht
    rw[←ht]
    exact(hcl _ (lget_mem hl)).2.2
   ·cases ht
 | none =>
  refine⟨h.cat.app hw,rfl,fun p hp=>?_,?_,?_,hr⟩
  ·rcases List.mem_cons.1 hp with rfl|hp
   ·exact⟨⟨by show 1≤x.client;omega,hc.2⟩,⟨by show 1≤x.seq;omega,hs.2⟩,hr⟩
   ·exact hcl p (List.mem_filter.1 hp).1
  ·show(ldel x.client M.cl).length+1≤n+1
   have:=List.length_filter_le (fun p:Int×Last=>decide (p.1≠x.client)) M.cl
   have:=h.len
   unfold ldel
   omega
  ·show(x.client::(ldel x.client M.cl).map (·.1)).Nodup
   rw[List.nodup_cons]
   refine⟨fun hm=>?_,h.nd.sublist ((List.filter_sublist).map _)⟩
   obtain⟨p,hp,e⟩:=List.mem_map.1 hm
   have:=(List.mem_filter.1 hp).2
   simp only[decide_eq_true_eq]at this
   exact this e
theorem MInv.app{n:Nat}{M:Mach}(h:MInv n M)(s:List UInt8):MInv (n+1) (M.app s).1:=by
 have h0:MInv (n+1) M.inc:=⟨h.cat.mono (Nat.le_succ n),by show M.n+1=_;rw[h.num];simp,fun p hp=>⟨(h.cl p hp).1,(h.cl p hp).2.1,(h.cl p hp).2.2.le (Nat.le_succ n)⟩,Nat.le_succ_of_le h.len,h.nd⟩
 unfold Mach.app
 by_cases h1:s=[]
 ·rw[if_pos h1];exact h0
 rw[if_neg h1]
 have hg:=cread_good (s:=s)
 have hw:=fun h=>cread_wf (s:=s) (c:=(cread s).1) h
 generalize cread s=q at hg hw⊢
 by_cases h2:q.2=0
 ·rw[if_pos h2]
  obtain⟨_,h3,h4⟩:=hg h2
  obtain⟨a,b,c,d,e,_⟩:=h.cmd (hw (by rw[←h2])) h3 h4
  exact⟨a,by show(M.cmd q.1).1.n+1=_;rw[b,h.num];simp,c,d,e⟩
 ·rw[if_neg h2];exact h0
end Go.Proofs.YtkkbfdencgdbhaaGreatDoor
namespace Go.Proofs.YtkkbfdencgdbhaaGreatDoor
open Go.RowKit Go.Sort
def lastV(l:Last×Value):Value:=.agg #[.int .i64 l.1.seq,.int .i64 l.1.r.err,.int .u64 (l.1.r.blob:Int),.int .i64 l.1.r.size,.int .u32 (l.1.r.sum:Int),l.2]
def zeroLast:Value:=.agg #[.int .i64 0,.int .i64 0,.int .u64 0,.int .i64 0,.int .u32 0,.slice none 0 0]
theorem map_lasts:Tryz.prog.underlying 79=some (.map 3 86):=Tryz.underlying79
theorem zero_last(w:World):(zeroValue 86).run Tryz.prog w=.ok zeroLast w:=by kernel_rfl
theorem capply_S{w:World}{B:Nat→Prop}{c mb mn:Nat}{P:Pm}{n:Nat}(h:CatIn w B c mb mn P)(hi:PInv n P)(hn:n≤1000000)(x:Cmd)(dv:Value)(hS:w.ownsRow 0 3 1 dv x.disks.length (x.disks.map (Value.int .i64)))(hdl:x.disks.length≤17592186043904)(hnl:x.name.size≤9223372036854775807)(hx:x.Wf) :
 Calls Tryz.prog 32 #[.pointer (some ⟨c,0,none⟩),cmdVal x dv] w fun e w'=>Came B c mb mn (P.app x) w e w'∧∀b es clk,b≠mb→b≠mn→w.heap[b]? = some (.map es clk)→w'.heap[b]? = some (.map es clk):=by
 obtain⟨C,hC,hR⟩:=h
 refine(app_any w B c mb mn C P n hC hR hi hn x dv hS hdl hnl hx).mono ?_
 rintro e w' ⟨nv,rfl,hON,C',h1,h2,h3⟩
 obtain⟨A,cp,rfl⟩:=own_slc hON
 refine⟨⟨A,cp,rfl,hON,⟨C',h1,h2⟩,Kp.of_S hC h3⟩,fun b es clk hb1 hb2 hb=>(h3.block b (lt_of_block hb) ?_).trans hb⟩
 rintro(rfl|rfl|rfl|⟨r,hr,rfl⟩)
 ·have:=hC.blk;unfold At at this;rw[this]at hb;cases hb
 ·exact hb1 rfl
 ·exact hb2 rfl
 ·have:=(hC.bl r hr).1;unfold At at this;rw[this]at hb;cases hb
abbrev Rows14:=List (Int×(Last×Value))
structure MAt (w:World) (B:Nat→Prop) (m c mb mn mc:Nat) (M:Mach) (rows:Rows14):Prop where
 blk:At w m 81 #[.pointer (some ⟨c,0,none⟩),.map (some mc),.int .i64 M.n]
 cat:CatIn w B c mb mn M.P
 cl:rows.map (fun p=>(p.1,p.2.1))=M.cl
 map:MapAt i64Way lastV w mc rows
 nms:∀p∈rows,w.ownsRow 0 9 1 p.2.2 p.2.1.r.names.length (p.2.1.r.names.map Value.string)
 ne:mc≠mb∧mc≠mn
 lo:B m∧B mc
 nb:∀p∈rows,∀k,some k=p.2.2.ownBlock→B k
def MachIn(w:World)(B:Nat→Prop)(m:Nat)(M:Mach):Prop:=∃c mb mn mc rows,MAt w B m c mb mn mc M rows
structure Km (B:Nat→Prop) (w w':World):Prop where
 chg:Chg (fun k=>B k) w w'
 at_:∀g t cs,t≠137→t≠161→t≠81→At w g t cs→At w' g t cs
section
variable{w w' w'':World}{B:Nat→Prop}{m c mb mn mc:Nat}{M:Mach}{rows:Rows14}
theorem Km.of_ext(h:Ext w w'):Km B w w':=⟨h.chg,fun _ _ _ _ _ _ hA=>hA.ext h⟩
theorem Km.trans(h:Km B w w')(h':Km B w' w''):Km B w w'':=⟨h.chg.trans h'.chg (fun _ _ e=>e),fun g t cs h1 h2 h3 hA=>h'.at_ g t cs h1 h2 h3 (h.at_ g t cs h1 h2 h3 hA)⟩
theorem Km.own{base:Nat}{e:TypeId}{size:Nat}{v:Value}{n:Nat}{xs:List Value}(h:Km B w w')(ho:w.ownsRow base e size v n xs)(h1:e≠137)(h2:e≠161)(h3:e≠81):w'.ownsRow base e size v n xs:=by
 refine⟨ho.1,?_⟩
 rcases ho.2 with hn|⟨g,cap,cur,hv,hb,hg,rest⟩
 ·exact .inl hn
 ·exact .inr ⟨g,cap,cur,hv,hb,h.at_ g e cur h1 h2 h3 hg,rest⟩
theorem MAt.ext(h:MAt w B m c mb mn mc M rows)(he:Ext w w'):MAt w' B m c mb mn mc M rows :=
 ⟨h.blk.ext he,h.cat.ext he,h.cl,h.map.ext he,fun p hp=>own_keep (h.nms p hp) he (fun _ _ hh=>hh),h.ne,h.lo,h.nb⟩
theorem MachIn.ext(h:MachIn w B m M)(he:Ext w w'):MachIn w' B m M:=by
 obtain⟨c,mb,mn,mc,rows,h⟩:=h
 exact⟨c,mb,mn,mc,rows,h.ext he⟩
theorem rows_get(h:rows.map (fun p=>(p.1,p.2.1))=M.cl)(k:Int):(lget k rows).map (·.1)=lget k M.cl:=by
 rw[←h]
 unfold lget
 rw[List.find?_map,Option.map_map,Option.map_map]
 rfl
theorem MAt.look(h:MAt w B m c mb mn mc M rows)(k:Int) :
 (Instr.lookup 79 (.map (some mc)) (.int .i64 k) true).run Tryz.prog w=.ok (.tuple #[(lget k rows).elim zeroLast lastV,.bool (lget k rows).isSome]) w :=
 h.map.lookup_ok (K:=i64Way) map_lasts Tryz.underlying3 zero_last k
theorem MAt.look0(h:MAt w B m c mb mn mc M rows)(k:Int) :
 (Instr.lookup 79 (.map (some mc)) (.int .i64 k) false).run Tryz.prog w=.ok ((lget k rows).elim zeroLast lastV) w :=
 h.map.lookup (K:=i64Way) map_lasts Tryz.underlying3 zero_last k
theorem CatIn.up{P:Pm}(h:CatIn w B c mb mn P):∀k,w.heap.size≤k→B k:=by
 obtain⟨C,hC,_⟩:=h
 exact hC.up
theorem MAt.cells(h:MAt w B m c mb mn mc M rows):w.cell? ⟨m,0,none⟩=some (.pointer (some ⟨c,0,none⟩))∧w.cell? ⟨m,1,none⟩=some (.map (some mc))∧w.cell? ⟨m,2,none⟩=some (.int .i64 M.n)∧w.frozen? ⟨m,2,none⟩=false :=
 ⟨h.blk.cell 0,h.blk.cell 1,h.blk.cell 2,h.blk.frozen 2⟩
end
end Go.Proofs.YtkkbfdencgdbhaaGreatDoor
