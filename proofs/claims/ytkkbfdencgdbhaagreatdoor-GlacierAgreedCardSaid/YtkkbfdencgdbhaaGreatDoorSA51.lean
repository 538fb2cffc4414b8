/-
  Part 51 of what the law leans on.
-/
import Derived.Test.YtkkbfdencgdbhaaGreatDoorSA8
import Derived.Test.YtkkbfdencgdbhaaGreatDoorSA10
import Derived.Test.YtkkbfdencgdbhaaGreatDoorSA28
import Derived.Test.YtkkbfdencgdbhaaGreatDoorSA29
import Derived.Test.YtkkbfdencgdbhaaGreatDoorSA34
import Derived.Test.YtkkbfdencgdbhaaGreatDoorSA38
import Derived.Test.YtkkbfdencgdbhaaGreatDoorSA49
import Derived.Test.YtkkbfdencgdbhaaGreatDoorSA50
set_option linter.unusedVariables false
set_option linter.unusedSimpArgs false
set_option linter.unusedSectionVars false
namespace Go.Proofs.YtkkbfdencgdbhaaGreatDoor
open Go.RowKit Go.Sort
def Bx(B:Nat→Prop)(n n':Nat):Nat→Prop:=fun k=>B k∧(k<n∨n'≤k)
section
variable{w w':World}{n0 a b:Nat}{Ma Mb:Mach}{Ba Bb:Nat→Prop}
end
end Go.Proofs.YtkkbfdencgdbhaaGreatDoor
namespace Go.Proofs.YtkkbfdencgdbhaaGreatDoor
open Go.RowKit Go.Sort
section
variable{w w':World}{B B' S:Nat→Prop}
theorem CtAt.moved2{c mb mn:Nat}{C:Ct}(h:CtAt w B c mb mn C)(hC:Chg S w w')(hS:∀b,B b→¬ S b)(h1:∀b,b<w.heap.size→B b→B' b)(h2:∀b,w'.heap.size≤b→B' b):CtAt w' B' c mb mn C where
 blk:=h.blk.chg hC (hS c h.lo.1)
 bm:=h.bm.chg hC (hS mb h.lo.2.1)
 nm:=h.nm.chg hC (hS mn h.lo.2.2.1)
 bl:=fun r hr=>⟨(h.bl r hr).1.chg hC (hS r.g (h.lo.2.2.2 r hr)),own_keep (h.bl r hr).2 hC fun k hk=>hS k (h.dl r hr k hk)⟩
 inj:=h.inj
 vlen:=h.vlen
 mne:=h.mne
 up:=h2
 lo:=⟨h1 c h.blk.lt h.lo.1,h1 mb h.bm.lt h.lo.2.1,h1 mn h.nm.lt h.lo.2.2.1,fun r hr=>h1 r.g (h.bl r hr).1.lt (h.lo.2.2.2 r hr)⟩
 dl:=fun r hr k hk=>h1 k ((h.bl r hr).2.lt k hk.symm).2 (h.dl r hr k hk)
theorem MAt.moved2{m c mb mn mc:Nat}{M:Mach}{rows:Rows14}(h:MAt w B m c mb mn mc M rows)(hC:Chg S w w')(hS:∀b,B b→¬ S b)(h1:∀b,b<w.heap.size→B b→B' b)(h2:∀b,w'.heap.size≤b→B' b):MAt w' B' m c mb mn mc M rows:=by
 obtain⟨C,hCt,hR⟩:=h.cat
 exact⟨h.blk.chg hC (hS m h.lo.1),⟨C,hCt.moved2 hC hS h1 h2,hR⟩,h.cl,h.map.chg hC (hS mc h.lo.2),fun p hp=>own_keep (h.nms p hp) hC (fun k hk=>hS k (h.nb p hp k hk)),h.ne,⟨h1 m h.blk.lt h.lo.1,h1 mc h.map.lt h.lo.2⟩,fun p hp k hk=>h1 k ((h.nms p hp).lt k hk.symm).2 (h.nb p hp k hk)⟩
theorem MachIn.aside2{b:Nat}{M:Mach}(h:MachIn w B b M)(hC:Chg S w w')(hS:∀k,k<w.heap.size→S k→¬ B k):MachIn w' (Bx B w.heap.size w'.heap.size) b M:=by
 have hu:=h.up
 have hsz:=hC.size
 obtain⟨c,mb,mn,mc,rows,h⟩:=h
 exact⟨c,mb,mn,mc,rows,h.moved2 (S:=fun k=>S k∧k<w.heap.size) (hC.mono fun k hk e=>⟨e,hk⟩) (fun k hk e=>hS k e.2 e.1 hk) (fun k hk hb=>⟨hb,.inl hk⟩) (fun k hk=>⟨hu k (by omega),.inr hk⟩)⟩
end
def cmdB(r:CRow):ByteArray:=⟨(seBytes r.1 ⟨#[]⟩).toArray⟩
def cmdsB(l:List CRow):List ByteArray:=ByteArray.empty::((l.take 20).map cmdB++List.replicate (20 - (l.take 20).length) ByteArray.empty)
theorem cmdB_size(r:CRow):(cmdB r).size≤1000:=by
 have:=seBytes_len r.1 ⟨#[]⟩
 show(seBytes r.1 ⟨#[]⟩).toArray.size≤1000
 rw[List.size_toArray];omega
theorem cmdsB_ok(l:List CRow):EOk (ensF 1 (cmdsB l)):=by
 refine eok_ens _ ?_ ?_ rfl
 ·unfold cmdsB
  simp only[List.length_cons,List.length_append,List.length_map,List.length_replicate,List.length_take]
  omega
 ·intro c hc
  rcases List.mem_cons.1 hc with rfl|hc
  ·decide
  ·rcases List.mem_append.1 hc with hc|hc
   ·obtain⟨r,_,rfl⟩:=List.mem_map.1 hc
    exact cmdB_size r
   ·rw[List.eq_of_mem_replicate hc];decide
theorem cmdsB_get{l:List CRow}{k:Nat}{r:CRow}(h:l[k]? = some r)(hk:k<20):(cmdsB l)[k+1]? = some (cmdB r):=by
 unfold cmdsB
 have hl:=(List.getElem?_eq_some_iff.1 h).1
 rw[List.getElem?_cons_succ,List.getElem?_append_left (by rw[List.length_map,List.length_take];omega),List.getElem?_map,List.getElem?_take,if_pos hk,h]
 rfl
theorem cmdsB_size(l:List CRow)(j:Nat)(c:ByteArray)(h:(cmdsB l)[j]? = some c):c.size≤1000:=by
 have hE:=cmdsB_ok l
 have:=hE.at_ j ⟨1+j,1,c⟩ (by rw[ensF_get,h];rfl)
 exact this.2.2
theorem ensF_c{cs:List ByteArray}{j:Nat}{c:ByteArray}(h:cs[j]? = some c):((ensF 1 cs)[j]?).map En.c=some c:=by
 rw[ensF_get,h];rfl
def machN(cs:List ByteArray)(j:Nat):Mach:=(cs.take j).foldl (fun M c=>(M.app c.data.toList).1) Mach.empty
theorem machN_succ{cs:List ByteArray}{j:Nat}{c:ByteArray}(h:cs[j]? = some c):machN cs (j+1)=((machN cs j).app c.data.toList).1:=by
 unfold machN
 rw[List.take_add_one,h,List.foldl_append];rfl
theorem machN_inv{cs:List ByteArray} : ∀j,j≤cs.length→MInv j (machN cs j)
 | 0,_=>MInv.empty
 | j+1,h=>by
  obtain⟨c,hc⟩:∃c,cs[j]? = some c:=⟨_,List.getElem?_eq_getElem (by omega)⟩
  rw[machN_succ hc]
  exact(machN_inv j (by omega)).app c.data.toList
def NN(E:List En)(w0 w:World)(q n:Nat)(x:Qn):Prop:=∃Q Ks,Q.q=q∧NetS w Q Ks (x.ns E) (x.ws E)∧x.good∧x.nodes.length=n∧(∀k,Q.all Ks k→w0.heap.size≤k)∧Ext w0 w
structure NWx (E:List En) (w0 w:World) (Q:Qb) (Ks:List Ka) (B:Nat→Prop) (n:Nat) (x:Qn) (a:Nat) (M:Mach):Prop where
 net:NetS w Q Ks (x.ns E) (x.ws E)
 good:x.good
 n:x.nodes.length=n
 mach:MachIn w B a M
 apart:∀k,k<w.heap.size→B k→¬ Q.all Ks k
 qlo:∀k,Q.all Ks k→w0.heap.size≤k
 blo:∀k,B k→w0.heap.size≤k
 ext:Ext w0 w
def NW(E:List En)(w0 w:World)(q n:Nat)(x:Qn)(a:Nat)(M:Mach):Prop:=∃Q Ks B,Q.q=q∧NWx E w0 w Q Ks B n x a M
section
variable{E:List En}{w0 w w':World}{Q:Qb}{Ks:List Ka}{B:Nat→Prop}{q n a:Nat}{x x':Qn}{M M':Mach}
theorem NWx.net_turned(h:NWx E w0 w Q Ks B n x a M)(hA:NetA E Q Ks w w' n x'):NW E w0 w' Q.q n x' a M:=by
 obtain⟨Q',Ks',eq,hN,hC,hK⟩:=hA.tt
 have hsz:=hC.size
 have h0:=h.ext.size
 refine⟨Q',Ks',_,eq,hN,hA.good,hA.n,h.mach.aside2 hC fun k hk hs hb=>h.apart k hk hb hs,fun k hk hb hq=>?_,fun k hk=>?_,fun k hb=>h.blo k hb.1,h.ext.chg_trans hC |>.mono fun k hk e=>?_⟩
 ·rcases hb.2 with e|e
  ·rcases hK k hq with e2|e2
   ·exact h.apart k e hb.1 e2
   ·omega
  ·omega
 ·rcases hK k hk with e|e
  ·exact h.qlo k e
  ·omega
 ·have e':Q.all Ks k:=e
  have:=h.qlo k e'
  omega
theorem NWx.mach_turned(h:NWx E w0 w Q Ks B n x a M)(hM:MachIn w' B a M')(hK:Km B w w'):NWx E w0 w' Q Ks B n x a M':=by
 have hC:Chg (fun k=>B k∧k<w.heap.size) w w':=hK.chg.mono fun k hk e=>⟨e,hk⟩
 have hsz:=hC.size
 have h0:=h.ext.size
 refine⟨h.net.chg hC fun k hs hq=>h.apart k hs.2 hs.1 hq,h.good,h.n,hM,fun k hk hb hq=>?_,h.qlo,h.blo,h.ext.chg_trans hC |>.mono fun k hk e=>?_⟩
 ·have:=h.net.all_lt k hq
  exact h.apart k this hb hq
 ·have e':B k∧k<w.heap.size:=e
  have:=h.blo k e'.1
  omega
theorem NW.ext(h:NW E w0 w q n x a M)(hE:Ext w w'):NW E w0 w' q n x a M:=by
 obtain⟨Q,Ks,B,e,h⟩:=h
 have hsz:=hE.size
 refine⟨Q,Ks,_,e,h.net.ext hE,h.good,h.n,h.mach.aside2 hE (fun _ _ hh=>hh.elim),fun k hk hb hq=>?_,h.qlo,fun k hb=>h.blo k hb.1,h.ext.trans hE⟩
 have:=h.net.all_lt k hq
 exact h.apart k this hb.1 hq
theorem NW.to(h:NW E w0 w q n x a M):Ext w0 w:=by
 obtain⟨Q,Ks,B,e,h⟩:=h
 exact h.ext
variable(hE:EOk E)(hT:Tab w0)(hn5:n≤5)
include hE hT hn5
theorem NN.round(h:NN E w0 w q n x)(hd:Qn.round n x=some x'):Calls Tryz.prog 7 #[.pointer (some ⟨q,0,none⟩)] w fun e w'=>e=.returned (.tuple #[])∧NN E w0 w' q n x':=by
 obtain⟨Q,Ks,rfl,hN,hg,hn,hq,hX⟩:=h
 have hl:=hT.lt
 refine(roundA_any hE hN hg hn hn5 hd (hT.ext hX) (fun hk=>by have:=hq _ hk;omega)).mono ?_
 rintro e w' ⟨rfl,hA⟩
 obtain⟨Q',Ks',eq,hN',hC,hK⟩:=hA.tt
 have hs:=hX.size
 refine⟨rfl,Q',Ks',eq,hN',hA.good,hA.n,fun k hk=>?_,hX.chg_trans hC |>.mono fun k hk e=>?_⟩
 ·rcases hK k hk with e|e
  ·exact hq k e
  ·omega
 ·have e':Q.all Ks k:=e
  have:=hq k e'
  omega
theorem NW.round(h:NW E w0 w q n x a M)(hd:Qn.round n x=some x'):Calls Tryz.prog 7 #[.pointer (some ⟨q,0,none⟩)] w fun e w'=>e=.returned (.tuple #[])∧NW E w0 w' q n x' a M:=by
 obtain⟨Q,Ks,B,rfl,h⟩:=h
 have hl:=hT.lt
 refine(roundA_any hE h.net h.good h.n hn5 hd (hT.ext h.ext) (fun hk=>by have:=h.qlo _ hk;omega)).mono ?_
 rintro e w' ⟨rfl,hA⟩
 exact⟨rfl,h.net_turned hA⟩
omit hn5 in
theorem NW.propose(h:NW E w0 w q n x a M){k:Nat}(hd:x.prop k=some x')(c:ByteArray)(hc:(E[k+1]?).map En.c=some c):Calls Tryz.prog 11 #[.pointer (some ⟨q,0,none⟩),.int .i64 0,.string c] w fun e w'=>∃i t:Int,e=.returned (.tuple #[.int .i64 i,.int .i64 t,.int .i64 0])∧NW E w0 w' q n x' a M:=by
 obtain⟨Q,Ks,B,rfl,h⟩:=h
 have hl:=hT.lt
 refine(proposeA_any hE h.net h.good hd c hc (hT.ext h.ext) (fun hk=>by have:=h.qlo _ hk;omega)).mono ?_
 rintro e w' ⟨i,t,rfl,hA⟩
 rw[h.n]at hA
 exact⟨i,t,rfl,h.net_turned hA⟩
omit hE hT in
theorem NW.leader(h:NW E w0 w q n x a M)(hl:ledF x.nodes=true):Calls Tryz.prog 12 #[.pointer (some ⟨q,0,none⟩)] w fun e w'=>e=.returned (.int .i64 0)∧NW E w0 w' q n x a M:=by
 have h':=h
 obtain⟨Q,Ks,B,rfl,h⟩:=h
 have hk:Ks.length≤5:=by
  rw[←h.net.kl]
  show(x.nodes.map _).length≤5
  rw[List.length_map,h.n];exact hn5
 refine(leaderA_any h.net hl hk).mono ?_
 rintro e w' ⟨rfl,hX⟩
 exact⟨rfl,h'.ext hX⟩
omit hE hT hn5 in
theorem NW.apply(h:NW E w0 w q n x a M){j:Nat}(hi:MInv j M)(hj:j≤1000)(s:ByteArray)(hs:s.size≤1000):Calls Tryz.prog 9 #[.pointer (some ⟨a,0,none⟩),.string s] w fun e w'=>∃r,e=.returned r∧NW E w0 w' q n x a (M.app s.data.toList).1:=by
 obtain⟨Q,Ks,B,rfl,h⟩:=h
 refine(mapply_any w B a M j h.mach hi hj s hs).mono ?_
 rintro e w' ⟨A5,c5,rfl,hO5,hM5,hK5⟩
 exact⟨_,rfl,Q,Ks,B,rfl,h.mach_turned hM5 hK5⟩
end
end Go.Proofs.YtkkbfdencgdbhaaGreatDoor
namespace Go.Proofs.YtkkbfdencgdbhaaGreatDoor
open Go.RowKit Go.Sort
structure NL (E:List En) (w:World) (Q:Qb) (Ks:List Ka) (x:Qn) (i:Nat):Prop where
 nt:At w Q.q 73 (netCells (.slice (some ⟨Q.nb,0,none⟩) Ks.length Ks.length) (.slice (some ⟨Q.db,0,none⟩) Ks.length Ks.length) Q.wv)
 ns:At w Q.nb 45 (ptrs Ka.r Ks)
 kl:x.nodes.length=Ks.length
 nd:∀(j:Nat) (K:Ka) (a:Na),i≤j→Ks[j]? = some K→x.nodes[j]? = some a→NdAt w K (a.nd E)
 ap:∀(i j:Nat) (K K':Ka),i≠j→Ks[i]? = some K→Ks[j]? = some K'→∀k,K.has k→¬ K'.has k
 own:∀K∈Ks,K.r≠Q.q∧K.r≠Q.nb
structure LFx (E:List En) (w0 w:World) (Q:Qb) (Ks:List Ka) (B:Nat→Prop) (x:Qn) (a:Nat) (M:Mach) (i:Nat):Prop where
 nl:NL E w Q Ks x i
 mach:MachIn w B a M
 apart:∀k,k<w.heap.size→B k→∀K∈Ks,¬ K.has k
 klo:∀K∈Ks,∀k,K.has k→w0.heap.size≤k
 klt:∀K∈Ks,K.r<w.heap.size
 ext:Ext w0 w
def LF(E:List En)(w0 w:World)(q:Nat)(x:Qn)(a:Nat)(M:Mach)(i:Nat):Prop:=∃Q Ks B,Q.q=q∧LFx E w0 w Q Ks B x a M i
section
variable{E:List En}{w0 w w':World}{Q:Qb}{Ks:List Ka}{B:Nat→Prop}{q n a i:Nat}{x:Qn}{M:Mach}{K:Ka}
theorem NL.next(h:NL E w Q Ks x i)(hK:Ks[i]? = some K)(hC:Chg (fun k=>k=K.r) w w'):NL E w' Q Ks x (i+1):=by
 obtain⟨o1,o2⟩:=h.own K (List.mem_of_getElem? hK)
 exact⟨h.nt.chg hC (fun e=>o1 (show K.r=Q.q from(show Q.q=K.r from e).symm)),h.ns.chg hC (fun e=>o2 (show K.r=Q.nb from(show Q.nb=K.r from e).symm)),h.kl,fun j K2 a2 hj hK2 ha=>(h.nd j K2 a2 (by omega) hK2 ha).chg hC fun k hk hh=>h.ap i j K K2 (by omega) hK hK2 k (by rw[show k=K.r from hk];exact .inl rfl) hh,h.ap,h.own⟩
theorem LFx.next(h:LFx E w0 w Q Ks B x a M i)(hK:Ks[i]? = some K)(hC:Chg (fun k=>k=K.r) w w'):LF E w0 w' Q.q x a M (i+1):=by
 have hKm:=List.mem_of_getElem? hK
 have hsz:=hC.size
 have h0:=h.ext.size
 refine⟨Q,Ks,_,rfl,h.nl.next hK hC,h.mach.aside2 hC fun k hk hs hb=>h.apart k hk hb K hKm (by rw[show k=K.r from hs];exact .inl rfl),fun k hk hb K2 hK2 hh=>?_,h.klo,fun K2 hK2=>by have:=h.klt K2 hK2;omega,h.ext.chg_trans hC |>.mono fun k hk e=>?_⟩
 ·rcases hb.2 with e|e
  ·exact h.apart k e hb.1 K2 hK2 hh
  ·omega
 ·have:=h.klo K hKm k (by rw[show k=K.r from e];exact .inl rfl)
  omega
theorem LFx.want(h:LFx E w0 w Q Ks B x a M i)(hK:Ks[i]? = some K)(hC:Chg (fun k=>k=K.r) w w'):∃B',MachIn w' B' a M :=
 ⟨_,h.mach.aside2 hC fun k hk hs hb=>h.apart k hk hb K (List.mem_of_getElem? hK) (by rw[show k=K.r from hs];exact .inl rfl)⟩
theorem NW.last(h:NW E w0 w q n x a M):LF E w0 w q x a M 0:=by
 obtain⟨Q,Ks,B,rfl,h⟩:=h
 have hkl:x.nodes.length=Ks.length:=by
  have:=h.net.kl
  rw[←this]
  unfold Qn.ns
  rw[List.length_map]
 refine⟨Q,Ks,B,rfl,⟨h.net.nt,h.net.ns,hkl,fun j K2 a2 _ hK2 ha=>h.net.nd j K2 _ hK2 (by unfold Qn.ns;rw[List.getElem?_map,ha];rfl),h.net.ap,fun K hK=>⟨fun e=>h.net.own_nd hK K.r (.inl rfl) (.inl e),fun e=>h.net.own_nd hK K.r (.inl rfl) (.inr (.inl e))⟩⟩,h.mach,fun k hk hb K hK hh=>h.apart k hk hb (.inr (.inr ⟨K,hK,hh⟩)),fun K hK k hk=>h.qlo k (.inr (.inr ⟨K,hK,hk⟩)),fun K hK=>h.net.all_lt K.r (.inr (.inr ⟨K,hK,.inl rfl⟩)),h.ext⟩
theorem LF.ext(h:LF E w0 w q x a M i):Ext w0 w:=by
 obtain⟨Q,Ks,B,e,h⟩:=h
 exact h.ext
theorem nd_fresh(hE:EOk E){b:Na}{k:Nat}(hl:b.len≤21)(hc:b.commit=k+1)(hk:k+1≤b.len):(b.nd E).freshE=E.take (k+1):=by
 unfold Nd.freshE Ts.from_ Ts.at_
 have e0:(b.nd E).s.base=0:=rfl
 have e1:(b.nd E).applied=0:=rfl
 have e2:(b.nd E).commit=(k:Int)+1:=by show((b.commit:Nat):Int)=_;rw[hc];omega
 have e3:(b.nd E).s.log.length=b.len:=ts_len hE hl
 rw[e0,e1,e2,e3,if_neg (by omega),if_pos (by omega)]
 have e4:((0:Int)+1 - 0 - 1).toNat=0:=rfl
 have e5:((k:Int)+1 - 0).toNat=k+1:=by omega
 simp only[e4,e5,List.drop_zero]
 show(E.take b.len).take (k+1)=_
 rw[List.take_take,Nat.min_eq_left hk]
theorem told_succ{n k:Nat}{y y':Qn}(h:Qn.told n (k+1)=some y')(h0:Qn.told n k=some y):∃y1,y.prop k=some y1∧Qn.round n y1=some y'∧ledF y.nodes=true:=by
 unfold Qn.told at h
 rw[h0]at h
 simp only at h
 cases hp:y.prop k with
 | none=>rw[hp]at h;cases h
 | some y1 =>
  rw[hp]at h
  refine⟨y1,rfl,h,?_⟩
  unfold Qn.prop at hp
  cases hl:ledF y.nodes with
  | false=>rw[hl]at hp;cases hp
  | true=>rfl
theorem rounds_succ{n j:Nat}{y z:Qn}(h:Qn.rounds n (j+1) y=some z):∃y',Qn.round n y=some y'∧Qn.rounds n j y'=some z:=by
 unfold Qn.rounds at h
 cases hr:Qn.round n y with
 | none=>rw[hr]at h;cases h
 | some y'=>rw[hr]at h;exact⟨y',rfl,h⟩
theorem new_nn{n:Nat}(hn:n≤5):(Qn.new n).ns E=(List.range n).map (fun i=>Nd.opened i n Ts.none Fs.none)∧(Qn.new n).ws E=[]∧(Qn.new n).good∧(Qn.new n).nodes.length=n:=by
 refine⟨?_,rfl,⟨fun b hb=>?_,Nat.zero_le _⟩,?_⟩
 ·unfold Qn.ns Qn.new
  rw[List.map_map]
  rfl
 ·obtain⟨i,hi,rfl⟩:=List.mem_map.1 hb
  have hi:=List.mem_range.1 hi
  unfold Na.good Na.opened
  simp only[Bool.and_eq_true]
  refine⟨⟨⟨⟨⟨⟨⟨⟨⟨⟨⟨⟨Nat.ble_eq_true_of_le hi,Nat.ble_eq_true_of_le hn⟩,rfl⟩,rfl⟩,rfl⟩,rfl⟩,rfl⟩,rfl⟩,rfl⟩,rfl⟩,rfl⟩,rfl⟩,rfl⟩
 ·show((List.range n).map _).length=n
  rw[List.length_map,List.length_range]
end
end Go.Proofs.YtkkbfdencgdbhaaGreatDoor
namespace Go.Proofs.YtkkbfdencgdbhaaGreatDoor
open Go.RowKit Go.Sort
theorem sl_oneQ(w:World)(t:TypeId)(x:Value)(c:Nat):Sl (w.alloc (.cells #[x] t)) (.slice (some ⟨w.heap.size,0,none⟩) 1 c) [x] :=
 ⟨_,c,rfl,fun _=>⟨_,_,rfl,fun i y hi=>by
  have e:i=0:=by have:=(List.getElem?_eq_some_iff.1 hi).1;simp at this;omega
  subst e
  have h:=(At.new w t #[x]).cell 0
  rw[Nat.add_zero,h];exact hi⟩⟩
theorem enc300:([]:List UInt8)++[300].flatMap uenc=[130,44]:=by decide +kernel
theorem crc19:crc ([(⟨#[49,50,51,52,53,54,55,56,57]⟩:ByteArray)].flatMap fun s=>s.data.toList)=3421780262:=by decide +kernel
theorem seg1:segN 1=⟨#[115,101,103,45,48,48,48,48,48,48,49]⟩:=by decide +kernel
abbrev b19:ByteArray:=⟨#[49,50,51,52,53,54,55,56,57]⟩
theorem sum19(w3:World)(hT:Tab w3):Calls Tryz.prog 23 #[.slice (some ⟨w3.heap.size,0,none⟩) 1 1] (w3.alloc (.cells #[.string b19] 9)) fun e w'=>e=.returned (.int .u32 3421780262)∧w'=w3.alloc (.cells #[.string b19] 9):=by
 have h:=sum_any (w3.alloc (.cells #[.string b19] 9)) (.slice (some ⟨w3.heap.size,0,none⟩) 1 1) [b19] (sl_oneQ w3 9 (.string b19) 1) (Nat.le_trans (Nat.le_refl _) (by decide)) (fun s hs=>by rw[List.mem_singleton.1 hs];unfold maxLen;decide) (hT.alloc _)
 have hc:=crc19
 generalize crc ([b19].flatMap fun s=>s.data.toList)=c at h hc
 subst hc
 exact h
theorem name1(w:World):Calls Tryz.prog 25 #[.int .i64 1] w fun e w'=>e=.returned (.string ⟨#[115,101,103,45,48,48,48,48,48,48,49]⟩)∧Ext w w':=by
 have h:=name_any w 1 (by decide) (by decide)
 have hc:=seg1
 generalize segN 1=c at h hc
 subst hc
 exact h
set_option maxRecDepth 100000 in
theorem parts401(w:World):Calls Tryz.prog 24 #[.int .i64 401] w fun e w'=>e=.returned (.int .i64 3)∧Ext w w':=by
 go_enter Tryz.func24,Tryz.ntmps24
 go_wp2_with fail
 go_ret
 exact⟨rfl,Ext.refl w⟩
set_option maxRecDepth 100000 in
set_option maxHeartbeats 2000000 in
theorem live_any(w:World)(hT:Tab w):Calls Tryz.prog 5 #[] w fun e w'=>e=.returned (.bool true)∧Ext w w':=by
 have hA:=At.new w 63 #[.slice none 0 0]
 have hE0:=(Ext.refl w).alloc (.cells #[.slice none 0 0] 63)
 go_enter Tryz.func5,Tryz.ntmps5
 go_wp2_with fail
 have hs1:(w.alloc (.cells #[.slice none 0 0] 63)).heap.size=w.heap.size+1:=by simp
 generalize w.alloc (.cells #[.slice none 0 0] 63)=w1 at hA hE0 hs1⊢
 obtain⟨x,hx⟩:∃x,w.heap.size=x:=⟨_,rfl⟩
 have hxw:w.heap.size≤x:=by omega
 rw[hx]at hA hs1⊢
 clear hx
 have hE1:=(Ext.refl w1).alloc (.cells #[.int .u64 300] 30)
 have cu:=eu_any (w:=w1.alloc (.cells #[.int .u64 300] 30)) (base:=x) (e:=x) (bs:=[]) ⟨Nat.le_refl _,.slice none 0 0,hA.ext hE1,World.ownsRow_nil _ _ _ _⟩ (.slice (some ⟨w1.heap.size,0,none⟩) 1 1) [300] (SlE.new w1 x (cs:=#[.int .u64 300]) (by decide)) (by simp) (by decide) (by decide)
 rw[enc300,hs1]at cu
 refine cu.mono ?_
 rintro e w2 ⟨rfl,hC2,hA2⟩
 have hE2:Ext w w2:=((hE0.trans hE1).chg_trans hC2).mono (fun k hk hs=>by have:=hs.1;omega)
 clear cu hE1 hA hE0 hC2
 have cb:=bytes_any _ _ _ _ hA2
 clear hA2
 go_wp2_with fail
 refine cb.mono ?_
 rintro e w3 ⟨rfl,rfl⟩
 clear cb
 have cs1:=sum19 w3 (hT.ext hE2)
 go_wp2_with fail
 refine cs1.mono ?_
 rintro e w4 ⟨rfl,rfl⟩
 clear cs1
 go_wp2_with fail
 refine(parts401 _).mono ?_
 rintro e w5 ⟨rfl,hE5⟩
 go_wp2_with fail
 refine(name1 _).mono ?_
 rintro e w6 ⟨rfl,hE6⟩
 go_wp2_with fail
 go_ret
 exact⟨rfl,((hE2.alloc _).trans hE5).trans hE6⟩
end Go.Proofs.YtkkbfdencgdbhaaGreatDoor
namespace Go.Proofs.YtkkbfdencgdbhaaGreatDoor
open Go.RowKit Go.Sort
set_option maxRecDepth 100000 in
set_option maxHeartbeats 2000000 in
theorem agreed_out(w:World)(n:Int)(lv:Value)(hT:Tab w)(hn:n<1∨5<n) :
 Calls Tryz.prog 3 #[.int .i64 n,lv] w fun e w'=>e=.returned (.bool true)∧Ext w w':=by
 have HT:=Lib.hid hT
 rcases(show n<1∨(¬ n<1∧5<n)by omega)with h|⟨h1,h2⟩
 ·have t1:decide (n<1)=true:=decide_eq_true h
  clear hn h hT
  go_enter Tryz.func3,Tryz.ntmps3
  go_wp2_with fail
  refine(live_any w HT.out).mono ?_
  rintro e w1 ⟨rfl,hE1⟩
  go_wp2_with fail
  refine(live_any w1 (HT.out.ext hE1)).mono ?_
  rintro e w2 ⟨rfl,hE2⟩
  go_wp2_with fail
  go_ret
  exact⟨rfl,hE1.trans hE2⟩
 ·have t1:decide (n<1)=false:=decide_eq_false h1
  have t2:decide (5<n)=true:=decide_eq_true h2
  clear hn h1 h2 hT
  go_enter Tryz.func3,Tryz.ntmps3
  go_wp2_with fail
  refine(live_any w HT.out).mono ?_
  rintro e w1 ⟨rfl,hE1⟩
  go_wp2_with fail
  refine(live_any w1 (HT.out.ext hE1)).mono ?_
  rintro e w2 ⟨rfl,hE2⟩
  go_wp2_with fail
  go_ret
  exact⟨rfl,hE1.trans hE2⟩
set_option maxRecDepth 100000 in
set_option maxHeartbeats 8000000 in
theorem agreed_in(w:World)(n:Nat)(h1:1≤n)(h5:n≤5)(l:List CRow)(lv:Value)(hl:CmdsIn w l lv)(hd:∀x∈l,x.1.disks.length≤17592186043904)(hT:Tab w) :
 Calls Tryz.prog 3 #[.int .i64 (n:Int),lv] w fun e w'=>e=.returned (.bool true)∧Ext w w':=by
 obtain⟨LA,lc,rfl,hlc,hlm⟩:=hl.cap
 have hll:=hl.len
 unfold maxLen at hll hlm
 obtain⟨cs,hcs⟩:∃cs,cs=cmdsB l:=⟨_,rfl⟩
 obtain⟨E,hEE⟩:∃E,E=ensF 1 cs:=⟨_,rfl⟩
 have hE:EOk E:=by rw[hEE,hcs];exact cmdsB_ok l
 have hcl:cs.length=21:=by have:=hE.len;rw[hEE,ensF_len]at this;exact this
 have hc0:cs[0]? = some ByteArray.empty:=by rw[hcs];rfl
 have hcsz:∀(j:Nat) c,cs[j]? = some c→c.size≤1000:=fun j c h=>by rw[hcs]at h;exact cmdsB_size l j c h
 have hcmd:∀(k:Nat) (x:CRow),l[k]? = some x→k<20→cs[k+1]? = some (cmdB x):=fun k x h hk=>by rw[hcs];exact cmdsB_get h hk
 have hrun:=runF_ok (run_all n h1 h5)
 have HL:=Lib.hid hl
 have HDL:=Lib.hid hd
 have HT:=Lib.hid hT
 have HG:=Lib.hid hT.lt
 have HE:=Lib.hid hE
 have HCL:=Lib.hid hcl
 have HC0:=Lib.hid hc0
 have HCSZ:=Lib.hid hcsz
 have HCMD:=Lib.hid hcmd
 have HRUN:=Lib.hid hrun
 have HEE:=Lib.hid hEE
 have t1:decide ((n:Int)<1)=false:=by simp;omega
 have t2:decide (5<(n:Int))=false:=by simp;omega
 clear hl hd hT hE hcl hc0 hcsz hcmd hrun hEE hcs
 go_enter Tryz.func3,Tryz.ntmps3
 go_wp2_with fail
 refine(live_any w HT.out).mono ?_
 rintro e w1 ⟨rfl,hE1⟩
 go_wp2_with fail
 refine(qnewN_any w1 n h1 h5 (HT.out.ext hE1)).mono ?_
 rintro e w2 ⟨Q,Ks,rfl,hN2,hE2,hQ2⟩
 obtain⟨q,hq⟩:∃q,q=Q.q:=⟨_,rfl⟩
 rw[←hq]
 have hz1:=hE1.size
 have hnn:NN E w w2 q n (Qn.new n):=by
  obtain⟨a1,a2,a3,a4⟩:=new_nn (E:=E) h5
  exact⟨Q,Ks,hq.symm,by rw[a1,a2];exact hN2,a3,a4,fun k hk=>Nat.le_trans hz1 (hQ2 k hk),hE1.trans hE2⟩
 obtain⟨x10,x10',ht0, -, -⟩:=HRUN.out 0 (by omega)
 have hr10:Qn.rounds n 10 (Qn.new n)=some x10:=ht0
 have HNN:=Lib.hid hnn
 have HR10:=Lib.hid hr10
 have HT0:=Lib.hid ht0
 clear hE1 hE2 hN2 hQ2 hq hz1 hnn ht0 hr10 t1 t2
 go_wp2_with fail
 go_loopw [7] (fun iv wr=>∃(i:Nat) (y:Qn),iv=.int .i64 (i:Int)∧i≤10∧NN E w wr q n y∧Qn.rounds n (10 - i) y=some x10) (fun iv _=>10 - (intOf iv).toNat)
 case atStart=>exact⟨0,_,rfl,by omega,HNN.out,HR10.out⟩
 case round =>
  clear HNN HR10
  obtain⟨i,y,rfl,hi10,hN,hr⟩:=hrel
  rename World=>wr
  by_cases hi:i<10
  ·rw[show 10 - i=(10 - (i+1))+1 by omega]at hr
   obtain⟨y',hr1,hr2⟩:=rounds_succ hr
   have HR:=Lib.hid (hN.round HE.out HT.out h5 hr1)
   have HR2:=Lib.hid hr2
   clear hN hr hr1 hr2
   go_wp2_with fail
   refine HR.out.mono ?_
   rintro e w3 ⟨rfl,hN3⟩
   have HN3:=Lib.hid hN3
   clear hN3 HR
   go_wp2_with fail
   go_roundw
   case rel=>exact⟨i+1,y',by go_num,by omega,HN3.out,HR2.out⟩
   case measure=>simp[intOf];omega
  ·obtain rfl:i=10:=by omega
   have hyx:y=x10:=Option.some.inj hr
   subst hyx
   have HN:=Lib.hid hN
   clear hN hr
   go_wp2_with fail
   refine(snew_any wr).mono ?_
   rintro e w3 ⟨a,rfl,hM,hE3⟩
   have hNW:NW E w w3 q n y a Mach.empty:=by
    obtain⟨Q',Ks',eq,hNS,hg,hn,hlo,hX⟩:=HN.out
    have hz:=hX.size
    refine⟨Q',Ks',_,eq,hNS.ext hE3,hg,hn,hM,fun k hk hb hq=>?_,hlo,fun k hb=>?_,hX.trans hE3⟩
    ·have hb':wr.heap.size≤k:=hb
     have:=hNS.all_lt k hq
     omega
    ·have hb':wr.heap.size≤k:=hb
     omega
   have cap:=hNW.apply MInv.empty (by omega) ⟨#[]⟩ (by decide)
   have hm1:machN cs 1=(Mach.empty.app (⟨#[]⟩:ByteArray).data.toList).1:=machN_succ HC0.out
   rw[←hm1]at cap
   have HCAP:=Lib.hid cap
   clear hM hE3 hNW cap hm1 HN
   go_wp2_with fail
   refine HCAP.out.mono ?_
   rintro e w4 ⟨rv,rfl,hN4⟩
   have HN4:=Lib.hid hN4
   clear hN4 HCAP
   go_wp2_with fail
   go_loopw [9] (fun kv wr=>∃(k:Nat) (z:Qn),kv=.int .i64 (k:Int)∧k≤l.length∧k≤20∧NW E w wr q n z a (machN cs (k+1))∧Qn.told n k=some z) (fun kv _=>20 - (intOf kv).toNat)
   case atStart=>exact⟨0,y,rfl,Nat.zero_le _,Nat.zero_le _,HN4.out,HT0.out⟩
   case round =>
    clear HN4 HT0
    obtain⟨k,z,rfl,hkl,hk20,hN,ht⟩:=hrel
    rename World=>wk
    have HN:=Lib.hid hN
    have HTO:=Lib.hid ht
    clear hN ht
    obtain⟨fk,hfk⟩:∃fk:Bool,fk=decide (k<l.length∧k<20):=⟨_,rfl⟩
    obtain⟨wo,hwo⟩:∃wo:World,wo=wk:=⟨_,rfl⟩
    go_upto_region 13 with fail
    go_cut [56]from 49 to 56 (fun tv wx=>tv=.bool fk∧wx=wo)
    case first =>
     clear HN
     by_cases c1:k<l.length
     ·by_cases c2:k<20
      ·obtain rfl:fk=true:=by rw[hfk];simp;omega
       clear hfk
       go_wp2_with fail
       go_meet
       case rel=>exact⟨by first|rfl|(simp <;> omega),hwo.symm⟩
      ·obtain rfl:fk=false:=by rw[hfk];simp;omega
       clear hfk
       go_wp2_with fail
       go_meet
       case rel=>exact⟨by first|rfl|(simp <;> omega),hwo.symm⟩
     ·obtain rfl:fk=false:=by rw[hfk];simp;omega
      clear hfk
      go_wp2_with fail
      go_meet
      case rel=>exact⟨by first|rfl|(simp <;> omega),hwo.symm⟩
    case rest =>
     obtain⟨rfl,hwc⟩:=hcut
     subst hwc
     subst hwo
     cases fk
     ·clear hfk
      obtain⟨z1,z40,ht1,hr40,hall⟩:=HRUN.out k hk20
      have hzz:z1=z:=by
       have:=HTO.out
       rw[ht1]at this
       exact Option.some.inj this
      subst hzz
      have HR40:=Lib.hid hr40
      have HALL:=Lib.hid hall
      have hI:=machN_inv (cs:=cs) (k+1) (by have:=HCL.out;omega)
      have hM0:∃M,M=machN cs (k+1):=⟨_,rfl⟩
      obtain⟨M,hM⟩:=hM0
      rw[←hM]at hI HN
      have HIM:=Lib.hid hI
      have HMM:=Lib.hid hM
      clear ht1 hr40 hall HTO hI hM
      go_wp2_with fail
      go_loopw [14] (fun iv wr=>∃(i:Nat) (y:Qn),iv=.int .i64 (i:Int)∧i≤40∧NW E w wr q n y a M∧Qn.rounds n (40 - i) y=some z40) (fun iv _=>40 - (intOf iv).toNat)
      case atStart=>exact⟨0,_,rfl,by omega,HN.out,HR40.out⟩
      case round =>
       clear HN HR40
       obtain⟨i,y,rfl,hi40,hN,hr⟩:=hrel
       rename World=>wr
       by_cases hi:i<40
       ·rw[show 40 - i=(40 - (i+1))+1 by omega]at hr
        obtain⟨y',hr1,hr2⟩:=rounds_succ hr
        have HR:=Lib.hid (hN.round HE.out HT.out h5 hr1)
        have HR2:=Lib.hid hr2
        clear hN hr hr1 hr2
        go_wp2_with fail
        refine HR.out.mono ?_
        rintro e w3 ⟨rfl,hN3⟩
        have HN3:=Lib.hid hN3
        clear hN3 HR
        go_wp2_with fail
        go_roundw
        case rel=>exact⟨i+1,y',by go_num,by omega,HN3.out,HR2.out⟩
        case measure=>simp[intOf];omega
       ·obtain rfl:i=40:=by omega
        have hyx:y=z40:=Option.some.inj hr
        subst hyx
        have hgood:y.good∧y.nodes.length=n:=by
         obtain⟨Q',Ks',B',_,hx⟩:=hN
         exact⟨hx.good,hx.n⟩
        have HGOOD:=Lib.hid hgood
        have HLF:=Lib.hid hN.last
        clear hN hr hgood
        rw[show(((40:Nat):Int))=40 from rfl]
        go_wp2_with fail
        go_loopw [15] (fun iv wr=>∃i:Nat,iv=.int .i64 (i:Int)∧i≤n∧LF E w wr q y a M i) (fun iv _=>n - (intOf iv).toNat)
        case atStart=>exact⟨0,rfl,Nat.zero_le _,HLF.out⟩
        case round =>
         clear HLF
         obtain⟨i,rfl,hi,hLF⟩:=hrel
         rename World=>wr
         have HLF:=Lib.hid hLF
         clear hLF
         by_cases hin:i<n
         ·obtain⟨Q',Ks',B',hq,hL⟩:=HLF.out
          have hkl:=hL.nl.kl
          obtain⟨K,hK⟩:∃K,Ks'[i]? = some K:=⟨_,List.getElem?_eq_getElem (by have:=HGOOD.out.2;omega)⟩
          obtain⟨b,hb⟩:∃b,y.nodes[i]? = some b:=⟨_,List.getElem?_eq_getElem (by have:=HGOOD.out.2;omega)⟩
          have hbm:=List.mem_of_getElem? hb
          have hbg:=good_ok (HGOOD.out.1.1 b hbm)
          have hba:=List.all_eq_true.1 HALL.out b hbm
          obtain⟨q1,q2⟩:=Bool.and_eq_true_iff.1 hba
          have q1:=Nat.eq_of_beq_eq_true q1
          have q2:=Nat.le_of_ble_eq_true q2
          have hfe:=nd_fresh HE.out hbg.len q1 q2
          have hND:=hL.nl.nd i K b (Nat.le_refl _) hK hb
          have hok:=ok_nd HE.out hbg
          have hcom:(b.nd E).s.base≤(b.nd E).applied∧(b.nd E).applied≤(b.nd E).commit:=by
           refine⟨Int.le_refl _,?_⟩
           show(0:Int)≤((b.commit:Nat):Int)
           omega
          have hkr:=hL.klt K (List.mem_of_getElem? hK)
          have HL':=Lib.hid hL
          have HK:=Lib.hid hK
          have HND:=Lib.hid hND
          have HOK:=Lib.hid (And.intro hok hcom)
          have HFE:=Lib.hid hfe
          have HQ:=Lib.hid hq
          clear hL hK hb hbm hbg hba q1 q2 hfe hND hok hcom hkl hq HLF
          go_wp2_with fail
          refine(snew_any wr).mono ?_
          rintro e w3 ⟨mm,rfl,hM3,hE3⟩
          have cn:=nodeT_any (HL'.out.nl.nt.ext hE3) HK.out (HL'.out.nl.ns.ext hE3)
          rw[HQ.out]at cn
          have cf:=fresh_any (HND.out.ext hE3) HOK.out.1 HOK.out.2
          rw[HFE.out]at cf
          have HCN:=Lib.hid cn
          have HCF:=Lib.hid cf
          have HM3:=Lib.hid hM3
          have HE3:=Lib.hid hE3
          clear cn cf hM3 hE3
          go_wp2_with fail
          refine HCN.out.mono ?_
          rintro e w3' ⟨rfl,rfl⟩
          go_wp2_with fail
          refine HCF.out.mono ?_
          rintro e w4 ⟨v,rfl,hO, -,hC4⟩
          have hs3:=HE3.out.size
          have hM4:=HM3.out.aside2 hC4 fun k' hk' hs' hb'=>by
           have e1:k'=K.r:=hs'
           have e2:wr.heap.size≤k':=hb'
           omega
          have hBm:∀k',Bx (Hi wr.heap.size) w3'.heap.size w4.heap.size k'→wr.heap.size≤k':=fun k' hk'=>hk'.1
          generalize Bx (Hi wr.heap.size) w3'.heap.size w4.heap.size=Bm at hM4 hBm
          have hCr:Chg (fun k'=>k'=K.r) wr w4:=HE3.out.chg_trans hC4
          obtain⟨es,hes⟩:∃es,es=E.take (k+1):=⟨_,rfl⟩
          rw[←hes]at hO
          have hesl:es.length=k+1:=by
           rw[hes,List.length_take,HE.out.len];omega
          have hesc:∀(j:Nat) (x:En),es[j]? = some x→cs[j]? = some x.c:=fun j x hx=>by
           rw[hes,List.getElem?_take]at hx
           split at hx
           ·rw[HEE.out,ensF_get]at hx
            obtain⟨c,hc1,hc2⟩:=Option.map_eq_some_iff.1 hx
            rw[hc1,←hc2]
           ·cases hx
          obtain⟨A,c,rfl,hcap⟩:=q_slc hO
          have HO4:=Lib.hid (q_base hO (Nat.zero_le _))
          have HM4:=Lib.hid hM4
          have HBM:=Lib.hid hBm
          have HCR:=Lib.hid hCr
          have HESL:=Lib.hid hesl
          have HESC:=Lib.hid hesc
          clear hO hM4 hBm hCr hC4 hes hesl hesc HCN HCF HM3 HE3 hs3
          go_wp2_with fail
          go_loopw [102] (fun jv wx=>∃j:Nat,jv=.int .i64 (j:Int)∧j≤es.length∧MachIn wx Bm mm (machN cs j)∧wx.ownsRow 0 49 3 (.slice A es.length c) es.length (enRows es)∧Chg (fun k'=>k'=K.r) wr wx) (fun jv _=>es.length - (intOf jv).toNat)
          case atStart=>exact⟨0,rfl,Nat.zero_le _,HM4.out,HO4.out,HCR.out⟩
          case round =>
           clear HM4 HO4 HCR
           obtain⟨j,rfl,hj,hMj,hOj,hCj⟩:=hrel
           rename World=>wx
           have HMJ:=Lib.hid hMj
           have HOJ:=Lib.hid hOj
           have HCJ:=Lib.hid hCj
           have hel22:es.length≤22:=by have:=HESL.out;omega
           by_cases hlt:j<es.length
           ·obtain⟨x,hxj⟩:∃x,es[j]? = some x:=⟨_,List.getElem?_eq_getElem hlt⟩
            have hS:Sln wx (.slice A es.length c) 3 (es.map En.row):=Sln.of_own (by rw[←enRows_eq];exact hOj) (en_three _) (by rw[List.length_map])
            obtain⟨g,p,c',hv,r0,r1,r2⟩:=ens_some hS hxj
            simp only[Value.slice.injEq]at hv
            obtain⟨rfl, -,rfl⟩:=hv
            have hxc:=HESC.out j x hxj
            have HXC:=Lib.hid hxc
            have HXS:=Lib.hid (HCSZ.out j _ hxc)
            clear hMj hOj hCj hS hxj hxc
            go_wp2_with fail
            have hEa:=(Ext.refl wx).alloc (.cells #[.int .i64 x.i,.int .i64 x.t,.string x.c] 49)
            have hMa:=HMJ.out.ext hEa
            have HOa:=Lib.hid (own_ext HOJ.out hEa)
            have HCa:=Lib.hid (HCJ.out.ext_trans hEa)
            generalize wx.alloc (.cells #[.int .i64 x.i,.int .i64 x.t,.string x.c] 49)=wa at hMa HOa HCa⊢
            have hel:=HESL.out
            have HAP:=Lib.hid (mapply_any wa Bm mm (machN cs j) j hMa (machN_inv j (by have:=HCL.out;omega)) (by omega) x.c HXS.out)
            clear hEa hMa hel r0 r1 r2 HMJ HOJ HCJ
            refine HAP.out.mono ?_
            rintro e w5 ⟨A5,c5,rfl,hO5,hM5,hK5⟩
            have hms:machN cs (j+1)=((machN cs j).app x.c.data.toList).1:=machN_succ HXC.out
            rw[←hms]at hM5
            have HM5:=Lib.hid hM5
            have HO5:=Lib.hid (hK5.own HOa.out (by decide) (by decide) (by decide))
            have HC5:=Lib.hid (HCa.out.trans hK5.chg fun k' hk' hs'=>by
             have:=HBM.out k' hs'
             omega)
            clear hM5 hK5 hO5 hms HAP HOa HCa
            go_wp2_with fail
            go_roundw
            case rel=>exact⟨j+1,by go_num,by omega,HM5.out,HO5.out,HC5.out⟩
            case measure=>simp[intOf];omega
           ·obtain rfl:j=es.length:=by omega
            have hel:=HESL.out
            rw[hel,←HMM.out]at hMj
            have HWR:=Lib.hid (mwrite_any hMj HIM.out (by omega))
            have HWW:=Lib.hid (fun(w9:World) (hC9:Chg (fun k'=>k'=K.r) wr w9)=>mwrite_any (HL'.out.want HK.out hC9).choose_spec HIM.out (by omega))
            clear hMj hOj hCj hel HMJ HOJ
            generalize (⟨M.enc.toArray⟩:ByteArray)=s9 at HWR HWW
            go_wp2_with fail
            refine HWR.out.mono ?_
            rintro e w6 ⟨rfl,hE6⟩
            have HC6:=Lib.hid (HCJ.out.ext_trans hE6)
            have HWW2:=Lib.hid (HWW.out w6 HC6.out)
            clear hE6 HWR HWW HCJ
            go_wp2_with fail
            refine HWW2.out.mono ?_
            rintro e w7 ⟨rfl,hE7⟩
            have hN7:=HL'.out.next HK.out (HC6.out.ext_trans hE7)
            rw[HQ.out]at hN7
            have HN7:=Lib.hid hN7
            clear hE7 hN7 HWW2 HC6
            go_wp2_with fail
            go_roundw
            case rel=>exact⟨i+1,by go_num,by omega,HN7.out⟩
            case measure=>simp[intOf];omega
         ·have hX:=HLF.out.ext
          clear HLF
          have HX:=Lib.hid hX
          clear hX
          go_wp2_with fail
          go_ret
          exact⟨rfl,HX.out⟩
     ·have hfk2:k<l.length∧k<20:=by simpa using hfk.symm
      obtain⟨hlt,hlt20⟩:=hfk2
      clear hfk
      obtain⟨⟨x,dv⟩,hx⟩:∃x,l[k]? = some x:=⟨_,List.getElem?_eq_getElem hlt⟩
      have Xk:=HN.out.to
      have hin:x.In dv _:=(HL.out.row _ (List.mem_of_getElem? hx)).ext Xk
      have hdx:=HDL.out _ (List.mem_of_getElem? hx)
      have hS:=HL.out.ops.ext Xk
      obtain⟨lb,lo,rfl⟩:=cmds_some hS (fun e=>by
       have:=List.map_eq_nil_iff.1 e
       subst this;simp at hlt)
      obtain⟨r0,r1,r2,r3,r4,r5,r6,r7,r8,r9,r10⟩:=crow_cells hS hx
      have HF:=Lib.hid (sbytes_any _ x dv ⟨#[]⟩ hin hdx (by decide))
      have hck:=HCMD.out k _ hx hlt20
      have hsz:=cmdB_size (x,dv)
      have hcb:cmdB (x,dv)=⟨(seBytes x ⟨#[]⟩).toArray⟩:=rfl
      rw[hcb]at hck hsz
      have HCK:=Lib.hid hck
      have HSZ:=Lib.hid hsz
      obtain⟨z',z2,ht', -, -⟩:=HRUN.out (k+1) (by omega)
      obtain⟨y1,hp1,hr1,hled⟩:=told_succ ht' HTO.out
      have HP1:=Lib.hid hp1
      have HR1:=Lib.hid hr1
      have HLED:=Lib.hid hled
      have HT':=Lib.hid ht'
      clear hin hdx hx hS Xk hck hsz hcb ht' hp1 hr1 hled
      go_wp2_with fail
      refine HF.out.mono ?_
      rintro e w7 ⟨rfl,hE7⟩
      clear r0 r1 r2 r3 r4 r5 r6 r7 r8 r9 r10 HF
      generalize (⟨(seBytes x ⟨#[]⟩).toArray⟩:ByteArray)=bs at HCK HSZ⊢
      have HN7:=Lib.hid ((HN.out.ext hE7).leader h5 HLED.out)
      clear HN hE7
      go_wp2_with fail
      refine HN7.out.mono ?_
      rintro e w8 ⟨rfl,hN8⟩
      have HPR:=Lib.hid (hN8.propose HE.out HT.out HP1.out bs (by rw[HEE.out];exact ensF_c HCK.out))
      clear HN7 hN8
      go_wp2_with fail
      refine HPR.out.mono ?_
      rintro e w9 ⟨ri,rt,rfl,hN9⟩
      have hm2:machN cs (k+1+1)=((machN cs (k+1)).app bs.data.toList).1:=machN_succ HCK.out
      have cap:=hN9.apply (machN_inv (k+1) (by have:=HCL.out;omega)) (by omega) bs HSZ.out
      rw[←hm2]at cap
      have HCAP:=Lib.hid cap
      clear HPR hN9 cap hm2
      go_wp2_with fail
      refine HCAP.out.mono ?_
      rintro e w10 ⟨rv2,rfl,hN10⟩
      have HRD:=Lib.hid (hN10.round HE.out HT.out h5 HR1.out)
      clear HCAP hN10
      go_wp2_with fail
      refine HRD.out.mono ?_
      rintro e w11 ⟨rfl,hN11⟩
      have HN11:=Lib.hid hN11
      clear HRD hN11
      go_wp2_with fail
      go_roundw
      case rel=>exact⟨k+1,z',by go_num,by omega,by omega,HN11.out,HT'.out⟩
      case measure=>simp[intOf];omega
theorem agreed_law(w:World)(n:Int)(l:List CRow)(lv:Value)(hl:CmdsIn w l lv)(hd:∀x∈l,x.1.disks.length≤17592186043904)(hT:Tab w) :
 Calls Tryz.prog 3 #[.int .i64 n,lv] w fun e w'=>e=.returned (.bool true)∧Ext w w':=by
 by_cases h:n<1∨5<n
 ·exact agreed_out w n lv hT h
 ·obtain⟨k,rfl⟩:∃k:Nat,n=(k:Int):=⟨n.toNat,by omega⟩
  exact agreed_in w k (by omega) (by omega) l lv hl hd hT
end Go.Proofs.YtkkbfdencgdbhaaGreatDoor
