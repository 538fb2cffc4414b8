/-
  Part 39 of what the law leans on.
-/
import Derived.Test.YtkkbfdencgdbhaaGreatDoorSA2
import Derived.Test.YtkkbfdencgdbhaaGreatDoorSA6
import Derived.Test.YtkkbfdencgdbhaaGreatDoorSA7
import Derived.Lib.SliceRun
set_option linter.unusedVariables false
set_option linter.unusedSimpArgs false
set_option linter.unusedSectionVars false
namespace Go.Proofs.YtkkbfdencgdbhaaGreatDoor
open Go.RowKit Go.Sort
structure En where
 i:Int
 t:Int
 c:ByteArray
def En.row(x:En):List Value:=[.int .i64 x.i,.int .i64 x.t,.string x.c]
def En.enc(x:En):List UInt8:=[x.i,x.t].flatMap ienc++[x.c].flatMap senc
def enFs(l:List En):List UInt8:=l.flatMap fun x=>frameL x.enc
structure Ts where
 term:Int
 vote:Int
 base:Int
 bterm:Int
 sn:ByteArray
 log:List En
def Ts.none:Ts:=⟨0,0,0,0,ByteArray.empty,[]⟩
def Ts.last(S:Ts):Int×Int:=match S.log.getLast? with
 | some x=>(x.i,x.t)
 | .none=>(S.base,S.bterm)
def Ts.at_(S:Ts)(i:Int):Option Nat:=if i≤S.base then .none else if i - S.base - 1≤(S.log.length:Int)then some (i - S.base - 1).toNat else .none
def Ts.termAt(S:Ts)(i:Int):Option Int:=if i=S.base then some S.bterm else(S.at_ i).bind fun k=>(S.log[k]?).map En.t
def Ts.from_(S:Ts)(i most:Int):List En:=match S.at_ i with
 | .none=>[]
 | some k=>(S.log.drop k).take most.toNat
end Go.Proofs.YtkkbfdencgdbhaaGreatDoor
namespace Go.Proofs.YtkkbfdencgdbhaaGreatDoor
open Go.RowKit Go.Sort
structure TsC (w:World) (b o:Nat) (S:Ts) (lv:Value):Prop where
 c0:w.cell? ⟨b,o,none⟩=some (.int .i64 S.term)
 c1:w.cell? ⟨b,o+1,none⟩=some (.int .i64 S.vote)
 c2:w.cell? ⟨b,o+2,none⟩=some (.int .i64 S.base)
 c3:w.cell? ⟨b,o+3,none⟩=some (.int .i64 S.bterm)
 c4:w.cell? ⟨b,o+4,none⟩=some (.string S.sn)
 c5:w.cell? ⟨b,o+5,none⟩=some lv
 lg:Sln w lv 3 (S.log.map En.row)
 cap:∀A n c,lv=.slice A n c→n≤c
structure TsOk (S:Ts):Prop where
 term:0≤S.term∧S.term≤1099511627776
 vote:0≤S.vote∧S.vote≤5
 base:0≤S.base∧S.base≤1099511627776
 bterm:0≤S.bterm∧S.bterm≤1099511627776
 len:S.log.length≤1000
 es:∀x∈S.log,(0≤x.i∧x.i≤1099511627776)∧(0≤x.t∧x.t≤1099511627776)∧x.c.size≤100000
theorem ens_some{w:World}{v:Value}{l:List En}(h:Sln w v 3 (l.map En.row)){k:Nat}{x:En}(hx:l[k]? = some x) :
 ∃b o c,v=.slice (some ⟨b,o,none⟩) l.length c∧w.cell? ⟨b,o+k * 3,none⟩=some (.int .i64 x.i)∧w.cell? ⟨b,o+k * 3+1,none⟩=some (.int .i64 x.t)∧w.cell? ⟨b,o+k * 3+2,none⟩=some (.string x.c):=by
 obtain⟨A,c,rfl,hh⟩:=h
 obtain⟨b,o,rfl,hc⟩:=hh (fun e=>by
  have:=List.map_eq_nil_iff.1 e
  subst this;cases hx)
 have hr:(l.map En.row)[k]? = some x.row:=by rw[List.getElem?_map,hx];rfl
 exact⟨b,o,c,by rw[List.length_map],hc k _ hr 0 _ rfl,hc k _ hr 1 _ rfl,hc k _ hr 2 _ rfl⟩
theorem ens_shape{w:World}{v:Value}{l:List En}(h:Sln w v 3 (l.map En.row)):∃A c,v=.slice A l.length c:=by
 obtain⟨A,c,rfl,_⟩:=h
 exact⟨A,c,by rw[List.length_map]⟩
section
variable(w:World)(b o:Nat)(S:Ts)(lv:Value)(h:TsC w b o S lv)(hS:TsOk S)
include h hS
set_option maxRecDepth 100000 in
theorem tlast_dn:Calls Tryz.prog 154 #[.pointer (some ⟨b,o,none⟩)] w fun e w'=>e=.returned (.tuple #[.int .i64 S.last.1,.int .i64 S.last.2])∧∃n,w'=w.drewN n:=by
 obtain⟨A,c,hlv⟩:=ens_shape h.lg
 have c2:=h.c2
 have c3:=h.c3
 have c5:=h.c5
 have hll:=hS.len
 by_cases hl:0<S.log.length
 ·obtain⟨n,hn⟩:∃n,S.log.length=n+1:=⟨S.log.length - 1,by omega⟩
  obtain⟨x,hx⟩:∃x,S.log[n]? = some x:=⟨_,List.getElem?_eq_getElem (by omega)⟩
  obtain⟨g,p,c',hv,r0,r1,r2⟩:=ens_some h.lg hx
  have hq:S.last=(x.i,x.t):=by unfold Ts.last;rw[List.getLast?_eq_getElem?,hn,show n+1 - 1=n from rfl,hx]
  have HQ:=Lib.hid hq
  rw[hv,hn]at c5
  rw[hn]at hll
  clear hq hx h hv hlv hl hn hS
  go_enter Tryz.func154,Tryz.ntmps154
  go_wp2_with fail
  go_region
  all_goals
   go_wp2_with fail
   go_ret2
   rw[HQ.out]
   exact⟨rfl,1,rfl⟩
 ·have hz:S.log.length=0:=by omega
  have hq:S.last=(S.base,S.bterm):=by unfold Ts.last;rw[List.eq_nil_of_length_eq_zero hz];rfl
  have HQ:=Lib.hid hq
  rw[hlv,hz]at c5
  clear hq hz hl hlv h hS hll
  go_enter Tryz.func154,Tryz.ntmps154
  go_wp2_with fail
  go_region
  all_goals
   go_wp2_with fail
   go_ret2
   rw[HQ.out]
   exact⟨rfl,1,rfl⟩
theorem tlast_any:Calls Tryz.prog 154 #[.pointer (some ⟨b,o,none⟩)] w fun e w'=>e=.returned (.tuple #[.int .i64 S.last.1,.int .i64 S.last.2])∧Ext w w' :=
 (tlast_dn w b o S lv h hS).mono fun _ _ ⟨h1,n,h2⟩=>⟨h1,h2 ▸ (Ext.refl w).drewN n⟩
def atR(o:Option Nat):Value:=match o with
 | none=>.tuple #[.int .i64 0,.bool false]
 | some k=>.tuple #[.int .i64 (k:Int),.bool true]
set_option maxRecDepth 100000 in
theorem tat_any(i:Int)(hi : -9223372036854775808≤i∧i≤9223372036854775807):Calls Tryz.prog 87 #[.pointer (some ⟨b,o,none⟩),.int .i64 i] w fun e w'=>e=.returned (atR (S.at_ i))∧w'=w:=by
 obtain⟨A,c,hlv⟩:=ens_shape h.lg
 have c2:=h.c2
 have c5:=h.c5
 have hll:=hS.len
 have hb:=hS.base
 rw[hlv]at c5
 have hq:S.at_ i=if i≤S.base then none else if i - S.base - 1≤(S.log.length:Int)then some (i - S.base - 1).toNat else none:=rfl
 generalize S.base=base at *
 generalize S.log.length=n at *
 by_cases h1:i≤base
 ·rw[if_pos h1]at hq
  have HQ:=Lib.hid hq
  clear hq h hS hlv
  go_enter Tryz.func87,Tryz.ntmps87
  go_wp2_with fail
  go_ret2
  rw[HQ.out]
  exact⟨rfl,rfl⟩
 ·obtain⟨k,hk⟩:∃k:Nat,i - base - 1=(k:Int):=⟨(i - base - 1).toNat,by omega⟩
  rw[if_neg h1,hk]at hq
  by_cases h2:k≤n
  ·rw[if_pos (by omega)]at hq
   have HQ:=Lib.hid hq
   clear hq h hS hlv
   go_enter Tryz.func87,Tryz.ntmps87
   go_wp2_with fail
   go_ret2
   rw[HQ.out]
   exact⟨rfl,rfl⟩
  ·rw[if_neg (by omega)]at hq
   have HQ:=Lib.hid hq
   clear hq h hS hlv
   go_enter Tryz.func87,Tryz.ntmps87
   go_wp2_with fail
   go_ret2
   rw[HQ.out]
   exact⟨rfl,rfl⟩
def taR(o:Option Int):Value:=match o with
 | none=>.tuple #[.int .i64 0,.bool false]
 | some t=>.tuple #[.int .i64 t,.bool true]
set_option maxRecDepth 100000 in
theorem ttermat_any(i:Int)(hi : -9223372036854775808≤i∧i≤9223372036854775807):Calls Tryz.prog 92 #[.pointer (some ⟨b,o,none⟩),.int .i64 i] w fun e w'=>e=.returned (taR (S.termAt i))∧w'=w:=by
 obtain⟨A,c,hlv⟩:=ens_shape h.lg
 have c2:=h.c2
 have c3:=h.c3
 have c5:=h.c5
 have hll:=hS.len
 have ca:=tat_any w b o S lv h hS i hi
 by_cases h1:i=S.base
 ·have hq:S.termAt i=some S.bterm:=by unfold Ts.termAt;rw[if_pos h1]
  have HQ:=Lib.hid hq
  have h2:(i == S.base)=true:=by simpa using h1
  rw[hlv]at c5
  clear hq h hS hlv h1 ca
  go_enter Tryz.func92,Tryz.ntmps92
  go_wp2_with fail
  go_ret2
  rw[HQ.out]
  exact⟨rfl,rfl⟩
 ·have hq:S.termAt i=(S.at_ i).bind fun k=>(S.log[k]?).map En.t:=by unfold Ts.termAt;rw[if_neg h1]
  have h2:(i == S.base)=false:=by simpa using h1
  cases ha:S.at_ i with
  | none =>
   rw[ha]at hq ca
   have HQ:=Lib.hid hq
   clear hq h hS hlv h1 ha
   simp only[atR]at ca
   go_enter Tryz.func92,Tryz.ntmps92
   go_wp2_with fail
   refine ca.mono ?_
   rintro e w' ⟨rfl,rfl⟩
   go_wp2_with fail
   go_ret2
   rw[HQ.out]
   exact⟨rfl,rfl⟩
  | some k =>
   rw[ha]at hq ca
   have hkl:k≤S.log.length:=by
    unfold Ts.at_ at ha
    split at ha
    ·cases ha
    ·split at ha
     ·cases ha;omega
     ·cases ha
   by_cases hk:k<S.log.length
   ·obtain⟨x,hx⟩:∃x,S.log[k]? = some x:=⟨_,List.getElem?_eq_getElem hk⟩
    obtain⟨g,p,c',hv,r0,r1,r2⟩:=ens_some h.lg hx
    have hq2:S.termAt i=some x.t:=by rw[hq];simp[hx]
    have HQ:=Lib.hid hq2
    rw[hv]at c5
    clear hq hq2 h hS hlv h1 ha hx hv hkl
    generalize S.log.length=n at *
    simp only[atR]at ca
    go_enter Tryz.func92,Tryz.ntmps92
    go_wp2_with fail
    refine ca.mono ?_
    rintro e w' ⟨rfl,rfl⟩
    go_wp2_with fail
    go_ret2
    rw[HQ.out]
    exact⟨rfl,rfl⟩
   ·have hx:S.log[k]? = none:=List.getElem?_eq_none (by omega)
    have hq2:S.termAt i=none:=by rw[hq];simp[hx]
    have HQ:=Lib.hid hq2
    rw[hlv]at c5
    clear hq hq2 h hS hlv h1 ha hx hkl
    generalize S.log.length=n at *
    simp only[atR]at ca
    go_enter Tryz.func92,Tryz.ntmps92
    go_wp2_with fail
    refine ca.mono ?_
    rintro e w' ⟨rfl,rfl⟩
    go_wp2_with fail
    go_ret2
    rw[HQ.out]
    exact⟨rfl,rfl⟩
end
end Go.Proofs.YtkkbfdencgdbhaaGreatDoor
namespace Go.Proofs.YtkkbfdencgdbhaaGreatDoor
open Go.RowKit Go.Sort
theorem en_info:(Tryz.prog.info? 49).map (fun i=>(i.zero,i.size,i.bytes))=some (some (.agg #[.int .i64 0,.int .i64 0,.string ByteArray.empty]),3,32):=by kernel_rfl
abbrev enRows(l:List En):List Value:=l.flatMap En.row
theorem enRows_eq(l:List En):enRows l=(l.map En.row).flatten:=by simp[enRows,List.flatMap]
theorem en_one(l:List En):∀r∈l.map En.row,r.all Value.oneCell'=true:=fun r hr=>by
 obtain⟨x,_,rfl⟩:=List.mem_map.1 hr
 simp[En.row,Value.oneCell']
theorem en_three(l:List En):∀r∈l.map En.row,r.length=3:=fun r hr=>by
 obtain⟨x,_,rfl⟩:=List.mem_map.1 hr
 rfl
theorem own_empty(w:World)(base:Nat)(hb:base≤w.heap.size)(e:TypeId)(size:Nat):(w.alloc (.cells #[] e)).ownsRow base e size (.slice (some ⟨w.heap.size,0,none⟩) 0 0) 0 [] :=
 ⟨by simp,.inr ⟨w.heap.size,0,#[],rfl,hb,At.new w e #[],Nat.le_refl _,Nat.zero_le _,by simp,by simp⟩⟩
set_option maxRecDepth 100000 in
theorem eclone_any(w:World)(v:Value)(l:List En)(hS:Sln w v 3 (l.map En.row))(hne:l≠[])(hl:l.length≤100000) :
 Calls Tryz.prog 61 #[v] w fun e w'=>∃v',e=.returned v'∧w'.ownsRow w.heap.size 49 3 v' l.length (enRows l)∧Ext w w':=by
 obtain⟨b,o,c,rfl⟩:∃b o c,v=.slice (some ⟨b,o,none⟩) l.length c:=by
  obtain⟨x,r,rfl⟩:=List.exists_cons_of_ne_nil hne
  obtain⟨b,o,c,hv,_⟩:=ens_some hS (k:=0) (x:=x) rfl
  exact⟨b,o,c,hv⟩
 have hnil:∀wx,(binOp .eql 43 (.slice (some ⟨b,o,none⟩) l.length c) (.slice none 0 0)).run Tryz.prog wx=.ok (.bool false) wx:=fun wx=>Lib.run_eql_slice_nil wx _ _ (some ⟨b,o,none⟩) l.length c 0 0 Tryz.underlying43
 go_enter Tryz.func61,Tryz.ntmps61
 go_wp2_with (at_builtin;refine wpList_append_sln (own_empty w w.heap.size (Nat.le_refl _) 49 3) (hS.ext ((Ext.refl w).alloc _)) (en_three l) (en_one l) 43 Tryz.underlying43 en_info rfl (by decide) (by decide) ?h1 ?h2 rfl _ _ rfl rfl rfl ?_)
 case h1=>rw[List.length_map];omega
 case h2=>simp
 intro v' w' hO hC
 go_wp2_with fail
 go_ret
 simp only[List.length_map,Nat.zero_add,List.nil_append,←enRows_eq]at hO
 refine⟨v',rfl,hO,((Ext.refl w).alloc (.cells #[] 49)).chg_trans hC |>.mono fun k hk e=>?_⟩
 have e':k=w.heap.size:=by simpa[Value.ownBlock]using e
 omega
theorem Ts.from_len(S:Ts)(i m:Int):(S.from_ i m).length≤S.log.length:=by
 unfold Ts.from_
 split
 ·exact Nat.zero_le _
 ·rw[List.length_take,List.length_drop];omega
theorem Sln.part{w:World}{A:Option Addr}{n c:Nat}{size:Nat}{xs:List (List Value)}(h:Sln w (.slice A n c) size xs){k m:Nat}(hk:k<xs.length){b o:Nat}(hA:A=some ⟨b,o,none⟩)(c':Nat)(hm:k+m≤xs.length):Sln w (.slice (some ⟨b,o+k * size,none⟩) m c') size ((xs.drop k).take m):=by
 obtain⟨A',c1,hv,hx⟩:=h
 simp only[Value.slice.injEq]at hv
 obtain⟨rfl,rfl,rfl⟩:=hv
 obtain⟨b',o',hA',hc⟩:=hx (fun e=>by rw[e]at hk;simp at hk)
 rw[hA]at hA'
 simp only[Option.some.injEq,Addr.mk.injEq,and_true]at hA'
 obtain⟨rfl,rfl⟩:=hA'
 refine⟨_,c',by rw[List.length_take,List.length_drop,Nat.min_eq_left (by omega)],fun _=>⟨b,o+k * size,rfl,fun i row hi j x hj=>?_⟩⟩
 rw[List.getElem?_take]at hi
 split at hi
 ·rw[List.getElem?_drop]at hi
  have:=hc (k+i) row hi j x hj
  rw[show o+k * size+i * size+j=o+(k+i) * size+j by rw[Nat.add_mul];omega]
  exact this
 ·cases hi
section
variable(w:World)(b o:Nat)(S:Ts)(lv:Value)(h:TsC w b o S lv)(hS:TsOk S)
include h hS
set_option maxRecDepth 100000 in
set_option maxHeartbeats 1000000 in
theorem tfrom_any(i m:Int)(hi : -9223372036854775808≤i∧i≤9223372036854775807)(hm:0≤m∧m≤9223372036854775807) :
 Calls Tryz.prog 43 #[.pointer (some ⟨b,o,none⟩),.int .i64 i,.int .i64 m] w fun e w'=>∃v',e=.returned v'∧w'.ownsRow w.heap.size 49 3 v' (S.from_ i m).length (enRows (S.from_ i m))∧Ext w w':=by
 obtain⟨A,c,hlv⟩:=ens_shape h.lg
 have c5:=h.c5
 have hll:=hS.len
 have ca:=tat_any w b o S lv h hS i hi
 have hsl:=h.lg
 have hcap:=h.cap _ _ _ hlv
 rw[hlv]at c5 hsl
 cases ha:S.at_ i with
 | none =>
  have hq:S.from_ i m=[]:=by unfold Ts.from_;rw[ha]
  rw[ha]at ca
  simp only[atR]at ca
  rw[hq]
  clear hq h hS hlv ha
  go_enter Tryz.func43,Tryz.ntmps43
  go_wp2_with fail
  refine ca.mono ?_
  rintro e w' ⟨rfl,rfl⟩
  go_wp2_with fail
  go_ret
  exact⟨_,rfl,World.ownsRow_nil _ _ _ _,Ext.refl _⟩
 | some k =>
  have hq:S.from_ i m=(S.log.drop k).take m.toNat:=by unfold Ts.from_;rw[ha]
  have hkl:k≤S.log.length:=by
   unfold Ts.at_ at ha
   split at ha
   ·cases ha
   ·split at ha
    ·cases ha;omega
    ·cases ha
  rw[ha]at ca
  simp only[atR]at ca
  have hmq:∃q:Nat,min m ((S.log.length:Int) - (k:Int))=(q:Int):=⟨(min m ((S.log.length:Int) - (k:Int))).toNat,by omega⟩
  obtain⟨q,hqm⟩:=hmq
  have hfl:(S.log.drop k).take m.toNat=(S.log.drop k).take q:=by
   rw[List.take_eq_take_iff,List.length_drop];omega
  rw[hfl]at hq
  have hkq:k+q≤S.log.length:=by omega
  by_cases h0:q=0
  ·subst h0
   have hq':S.from_ i m=[]:=by rw[hq];rfl
   rw[hq']
   clear hq hq' h hS hlv ha hfl hsl
   generalize S.log.length=n at *
   go_enter Tryz.func43,Tryz.ntmps43
   go_wp2_with fail
   refine ca.mono ?_
   rintro e w' ⟨rfl,rfl⟩
   clear ca
   by_cases hmc:m≤(n:Int) - (k:Int)
   ·have hm0:m=0:=by omega
    subst hm0
    clear hqm
    go_wp2_with fail
    all_goals first
     | (go_ret;exact⟨_,rfl,World.ownsRow_nil _ _ _ _,Ext.refl _⟩)
     | (exfalso;omega)
   ·obtain rfl:n=k:=by omega
    clear hqm
    go_wp2_with fail
    all_goals first
     | (go_ret;exact⟨_,rfl,World.ownsRow_nil _ _ _ _,Ext.refl _⟩)
     | (exfalso;omega)
  ·have hkl2:k<S.log.length:=by omega
   obtain⟨x,hx⟩:∃x,S.log[k]? = some x:=⟨_,List.getElem?_eq_getElem hkl2⟩
   obtain⟨g,p,c',hv,r0,r1,r2⟩:=ens_some h.lg hx
   rw[hlv]at hv
   simp only[Value.slice.injEq]at hv
   obtain⟨hA, -, -⟩:=hv
   have hpart:∀c',Sln w (.slice (some ⟨g,p+k * 3,none⟩) q c') 3 (((S.log.drop k).take q).map En.row):=fun c'=>by
    have:=Sln.part (k:=k) (m:=q) hsl (by rw[List.length_map];omega) hA c' (by rw[List.length_map];omega)
    rw[←List.map_drop,←List.map_take]at this
    exact this
   have hne:(S.log.drop k).take q≠[]:=by
    intro e
    have:=congrArg List.length e
    rw[List.length_take,List.length_drop]at this
    simp at this;omega
   have hlen:((S.log.drop k).take q).length=q:=by rw[List.length_take,List.length_drop];omega
   rw[hq,hlen]
   have cc:=fun c'=>eclone_any w _ _ (hpart c') hne (by omega)
   rw[hlen]at cc
   generalize (S.log.drop k).take q=L at cc
   rw[hA]at c5
   clear hq h hS hlv ha hfl hsl hx hpart hne hlen
   generalize S.log.length=n at *
   go_enter Tryz.func43,Tryz.ntmps43
   go_wp2_with fail
   refine ca.mono ?_
   rintro e w' ⟨rfl,rfl⟩
   clear ca
   by_cases hmc:m≤(n:Int) - (k:Int)
   ·obtain rfl:m=(q:Int):=by omega
    clear hqm
    go_wp2_with fail
    refine(cc _).mono ?_
    rintro e w1 ⟨v',rfl,hO,hE⟩
    go_wp2_with fail
    go_ret
    exact⟨_,rfl,hO,hE⟩
   ·obtain rfl:n=k+q:=by omega
    clear hqm
    go_wp2_with fail
    refine(cc _).mono ?_
    rintro e w1 ⟨v',rfl,hO,hE⟩
    go_wp2_with fail
    go_ret
    exact⟨_,rfl,hO,hE⟩
end
end Go.Proofs.YtkkbfdencgdbhaaGreatDoor
