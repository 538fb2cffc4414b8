/-
  Part 51 of what the law leans on.
-/
import Derived.Test.YtkkbfdencgdbhaaGreatDoorSS8
import Derived.Test.YtkkbfdencgdbhaaGreatDoorSS10
import Derived.Test.YtkkbfdencgdbhaaGreatDoorSS28
import Derived.Test.YtkkbfdencgdbhaaGreatDoorSS34
import Derived.Test.YtkkbfdencgdbhaaGreatDoorSS38
import Derived.Test.YtkkbfdencgdbhaaGreatDoorSS41
import Derived.Test.YtkkbfdencgdbhaaGreatDoorSS50
set_option linter.unusedVariables false
set_option linter.unusedSimpArgs false
set_option linter.unusedSectionVars false
namespace Go.Proofs.YtkkbfdencgdbhaaGreatDoor
open Go.RowKit Go.Sort
def Two(w:World)(n0 a b:Nat)(Ma Mb:Mach):Prop :=
 ∃Ba Bb:Nat→Prop,MachIn w Ba a Ma∧MachIn w Bb b Mb∧(∀k,k<w.heap.size→Ba k→¬ Bb k)∧(∀k,Ba k→n0≤k)∧(∀k,Bb k→n0≤k)∧n0≤w.heap.size
def Bx(B:Nat→Prop)(n n':Nat):Nat→Prop:=fun k=>B k∧(k<n∨n'≤k)
section
variable{w w':World}{n0 a b:Nat}{Ma Mb:Mach}{Ba Bb:Nat→Prop}
theorem MachIn.aside{S:Nat→Prop}(h:MachIn w Bb b Mb)(hC:Chg S w w')(hS:∀k,k<w.heap.size→S k→¬ Bb k)(hI:∀g cs,At w g 3 cs→At w' g 3 cs):MachIn w' (Bx Bb w.heap.size w'.heap.size) b Mb:=by
 have hu:=h.up
 have hsz:=hC.size
 refine h.moved (S:=fun k=>S k∧k<w.heap.size) (hC.mono fun k hk e=>⟨e,hk⟩) (fun k hk e=>hS k e.2 e.1 hk) hI (fun k hk hb=>⟨hb,.inl hk⟩) (fun k hk=>⟨hu k (by omega),.inr hk⟩)
theorem Two.ext(h:Two w n0 a b Ma Mb)(hE:Ext w w'):Two w' n0 a b Ma Mb:=by
 obtain⟨Ba,Bb,h1,h2,h3,h4,h5,h6⟩:=h
 have hsz:=hE.size
 refine⟨Ba,_,h1.ext hE,h2.aside hE (fun _ _ hh=>hh.elim) (fun g cs hA=>hA.ext hE),fun k hk ha hb=>?_,h4,fun k hb=>h5 k hb.1,by omega⟩
 rcases hb.2 with hb2|hb2
 ·exact h3 k hb2 ha hb.1
 ·omega
theorem Two.swap(h:Two w n0 a b Ma Mb):Two w n0 b a Mb Ma:=by
 obtain⟨Ba,Bb,h1,h2,h3,h4,h5,h6⟩:=h
 exact⟨Bb,Ba,h2,h1,fun k hk hb ha=>h3 k hk ha hb,h5,h4,h6⟩
theorem two_apply{n:Nat}(h:Two w n0 a b Ma Mb)(hi:MInv n Ma)(hn:n≤1000)(s:ByteArray)(hs:s.size≤1000) :
 Calls Tryz.prog 9 #[.pointer (some ⟨a,0,none⟩),.string s] w fun e w' =>
  ∃A cp,e=.returned (resV (Ma.app s.data.toList).2.err (Ma.app s.data.toList).2.blob (Ma.app s.data.toList).2.size (Ma.app s.data.toList).2.sum (.slice A (Ma.app s.data.toList).2.names.length cp))∧Two w' n0 a b (Ma.app s.data.toList).1 Mb∧Chg (fun k=>n0≤k) w w':=by
 obtain⟨Ba,Bb,h1,h2,h3,h4,h5,h6⟩:=h
 refine(mapply_any w Ba a Ma n h1 hi hn s hs).mono ?_
 rintro e w' ⟨A,cp,rfl,_,hM,hK⟩
 have hsz:=hK.chg.size
 refine⟨A,cp,rfl,⟨Ba,_,hM,h2.aside hK.chg h3 (fun g cs hA=>hK.at_ g _ cs (by decide) (by decide) (by decide) hA),fun k hk ha hb=>?_,h4,fun k hb=>h5 k hb.1,by omega⟩,hK.chg.mono fun k _ e=>h4 k e⟩
 rcases hb.2 with hb2|hb2
 ·exact h3 k hb2 ha hb.1
 ·omega
theorem Two.machA(h:Two w n0 a b Ma Mb):∃B,MachIn w B a Ma:=by
 obtain⟨Ba,Bb,h1,_⟩:=h
 exact⟨Ba,h1⟩
theorem Two.machB(h:Two w n0 a b Ma Mb):∃B,MachIn w B b Mb:=by
 obtain⟨Ba,Bb,_,h1,_⟩:=h
 exact⟨Bb,h1⟩
theorem ext_hi{w0 w w':World}(hE:Ext w0 w)(hC:Chg (fun k=>w0.heap.size≤k) w w'):Ext w0 w':=hE.chg_trans hC |>.mono fun k hk e=>by have e':w0.heap.size≤k:=e;omega
end
end Go.Proofs.YtkkbfdencgdbhaaGreatDoor
namespace Go.Proofs.YtkkbfdencgdbhaaGreatDoor
open Go.RowKit Go.Sort
structure Like (M M':Mach):Prop where
 P:M'.P=M.P
 n:M'.n=M.n
 cl:M.cl.Perm M'.cl
section
variable{M M':Mach}{n:Nat}
theorem lgetQ_iff{κ ν : Type}[DecidableEq κ]:∀ {L:List (κ × ν)},(L.map (·.1)).Nodup→∀k v,lget k L=some v↔(k,v)∈L
 | [],_,k,v=>by constructor <;> intro h <;> cases h
 | p::r,h,k,v=>by
  rw[List.map_cons,List.nodup_cons]at h
  unfold lget
  rw[List.find?_cons]
  by_cases e:p.1=k
  ·have e2:decide (p.1=k)=true:=by simpa using e
   rw[e2]
   constructor
   ·intro hv
    have hv2:p.2=v:=by simpa using hv
    rw[←e,←hv2]
    exact List.mem_cons_self ..
   ·intro hv
    rcases List.mem_cons.1 hv with hv|hv
    ·rw[←hv];rfl
    ·exact absurd (List.mem_map.2 ⟨_,hv,e.symm ▸ rfl⟩) h.1
  ·have e2:decide (p.1=k)=false:=by simpa using e
   rw[e2]
   have ih:=lgetQ_iff h.2 k v
   unfold lget at ih
   rw[List.mem_cons]
   constructor
   ·exact fun hv=>.inr (ih.1 hv)
   ·rintro(hv|hv)
    ·exact absurd (by rw[←hv]) e
    ·exact ih.2 hv
theorem lgetQ_perm{κ ν : Type}[DecidableEq κ]{L L':List (κ × ν)}(h:L.Perm L')(hn:(L.map (·.1)).Nodup)(k : κ):lget k L=lget k L':=by
 have hn':(L'.map (·.1)).Nodup:=(h.map (·.1)).nodup_iff.1 hn
 refine Option.ext fun v=>?_
 rw[lgetQ_iff hn,lgetQ_iff hn',h.mem_iff]
theorem Like.inv(h:Like M M')(hi:MInv n M):MInv n M' :=
 ⟨by rw[h.P];exact hi.cat,by rw[h.n];exact hi.num,fun p hp=>hi.cl p (h.cl.mem_iff.2 hp),by rw[←h.cl.length_eq];exact hi.len,(h.cl.map (·.1)).nodup_iff.1 hi.nd⟩
theorem Like.enc(h:Like M M')(hi:MInv n M):M'.enc=M.enc:=by
 have h1:M.scl=M'.scl:=by
  have a1:=M.scl_asc hi.nd
  have a2:=M'.scl_asc ((h.cl.map (·.1)).nodup_iff.1 hi.nd)
  rw[List.pairwise_map]at a1 a2
  exact asc_perm a1 a2 ((M.scl_perm.trans h.cl).trans M'.scl_perm.symm)
 unfold Mach.enc Mach.head
 rw[←h1,h.P,h.n,h.cl.length_eq]
theorem Like.cmd(h:Like M M')(hi:MInv n M)(x:Cmd):Like (M.cmd x).1 (M'.cmd x).1∧(M'.cmd x).2=(M.cmd x).2:=by
 have hg:∀k,lget k M'.cl=lget k M.cl:=fun k=>(lgetQ_perm h.cl hi.nd k).symm
 have hs:∀k,M'.seq k=M.seq k:=fun k=>by unfold Mach.seq;rw[hg]
 have ht:∀k s,M'.told k s=M.told k s:=fun k s=>by unfold Mach.told;rw[hg]
 unfold Mach.cmd
 rw[hs,ht,h.P]
 split
 ·exact⟨⟨rfl,h.n,h.cl⟩,rfl⟩
 ·split
  ·exact⟨h,rfl⟩
  ·split
   ·exact⟨h,rfl⟩
   ·exact⟨⟨rfl,h.n,(h.cl.filter _).cons _⟩,rfl⟩
theorem Like.app(h:Like M M')(hi:MInv n M)(s:List UInt8):Like (M.app s).1 (M'.app s).1∧(M'.app s).2=(M.app s).2:=by
 have hinc:∀ {A A':Mach},Like A A'→Like A.inc A'.inc:=fun h=>⟨h.P,by show _+1=_+1;rw[h.n],h.cl⟩
 unfold Mach.app
 split
 ·exact⟨hinc h,rfl⟩
 ·split
  ·obtain⟨h1,h2⟩:=h.cmd hi (cread s).1
   exact⟨hinc h1,h2⟩
  ·exact⟨hinc h,rfl⟩
end
theorem sread_like(w:World)(M:Mach)(n:Nat)(hi:MInv n M)(hn:n<50):Calls Tryz.prog 19 #[.string ⟨M.enc.toArray⟩] w fun e w'=>∃m M',e=.returned (.tuple #[.pointer (some ⟨m,0,none⟩),.int .i64 0])∧MachIn w' (Hi w.heap.size) m M'∧Like M M'∧Ext w w':=by
 have hw:=hi.w hn
 have hs:(⟨M.enc.toArray⟩:ByteArray).size≤140737488355328:=by
  have h1:=menc_pre hw M.scl.length
  rw[List.take_length]at h1
  show M.enc.toArray.size≤_
  rw[List.size_toArray]
  exact Nat.le_trans h1 (by decide)
 refine(sread_any w ⟨M.enc.toArray⟩ hs).mono ?_
 rintro e w' ⟨h2,_,hE⟩
 have e1:(⟨M.enc.toArray⟩:ByteArray).data.toList=M.enc:=rfl
 rw[e1,rdMach_enc hw (by omega)]at h2
 obtain⟨m,he,hM⟩:=h2 rfl
 exact⟨m,_,he,hM,⟨rfl,rfl,M.scl_perm.symm.trans (List.reverse_perm _).symm⟩,hE⟩
theorem menc_small{n:Nat}{M:Mach}(hi:MInv n M)(hn:n≤20):(⟨M.enc.toArray⟩:ByteArray).size≤500000:=by
 have hw:=hi.w (by omega)
 have h1:=head_length hw
 have h2:=flatLe lastEnc 910 M.scl fun p hp=>by
  have hp':=hi.cl p (M.scl_perm.mem_iff.1 hp)
  have q1:=lastA_length p.1 p.2
  have q2:=nms_length hp'.2.2.nm
  have q3:=hp'.2.2.len
  unfold lastEnc
  rw[List.length_append]
  omega
 have h4:=M.scl_perm.length_eq
 have h5:=hi.len
 show M.enc.toArray.size≤_
 rw[List.size_toArray]
 unfold Mach.enc
 rw[List.length_append]
 omega
theorem MachIn.moved0{w w':World}{B S:Nat→Prop}{m:Nat}(h:MachIn w B m Mach.empty)(hC:Chg S w w')(hS:∀k,k<w.heap.size→S k→¬ B k):MachIn w' (Bx B w.heap.size w'.heap.size) m Mach.empty:=by
 obtain⟨c,mb,mn,mc,rows,h⟩:=h
 have hu:=h.cat
 have hsz:=hC.size
 have hr0:rows=[]:=by simpa[Mach.empty]using h.cl
 subst hr0
 obtain⟨C,hCt,hR⟩:=h.cat
 have hno:∀r,r ∉ C.rows:=fun r hr=>by
  have:=(hR.rows.mem r.b).1 (List.mem_map.2 ⟨r,hr,rfl⟩)
  cases this
 have hn:∀k,k<w.heap.size→B k→¬ S k:=fun k hk hb hs=>hS k hk hs hb
 refine⟨c,mb,mn,mc,[],h.blk.chg hC (hn _ h.blk.lt h.lo.1),⟨C,⟨hCt.blk.chg hC (hn _ hCt.blk.lt hCt.lo.1),hCt.bm.chg hC (hn _ hCt.bm.lt hCt.lo.2.1),hCt.nm.chg hC (hn _ hCt.nm.lt hCt.lo.2.2.1),fun r hr=>absurd hr (hno r),hCt.inj,hCt.vlen,hCt.mne,fun k hk=>⟨hCt.up k (by omega),.inr hk⟩,⟨⟨hCt.lo.1,.inl hCt.blk.lt⟩,⟨hCt.lo.2.1,.inl hCt.bm.lt⟩,⟨hCt.lo.2.2.1,.inl hCt.nm.lt⟩,fun r hr=>absurd hr (hno r)⟩⟩,hR⟩,rfl,h.map.chg hC (hn _ h.map.lt h.lo.2),(fun p hp=>by cases hp),h.ne,⟨⟨h.lo.1,.inl h.blk.lt⟩,⟨h.lo.2,.inl h.map.lt⟩⟩,fun p hp=>by cases hp⟩
structure NM (w:World) (n0 a:Nat) (Q:Qa) (K:Ka) (N:Nd) (B:Nat→Prop) (M:Mach):Prop where
 net:NetUp w Q K N
 mach:MachIn w B a M
 apart:∀k,k<w.heap.size→B k→¬ K.has k∧¬ Q.has k
 klo:∀k,K.has k→n0≤k
 qlo:∀k,Q.has k→n0≤k
 blo:∀k,B k→n0≤k
 lo:n0≤w.heap.size
def NMx(w:World)(n0 q a:Nat)(N:Nd)(M:Mach):Prop:=∃Q K B,Q.q=q∧NM w n0 a Q K N B M
section
variable{w w':World}{n0 q a:Nat}{N N':Nd}{M:Mach}{Q:Qa}{K:Ka}{B:Nat→Prop}
theorem NetUp.qlt(h:NetUp w Q K N):∀k,Q.has k→k<w.heap.size:=by
 rintro k (e|e|e)
 ·rw[e];exact h.net.nt.lt
 ·rw[e];exact h.net.ns.lt
 ·rw[e];exact h.net.ds.lt
theorem NM.ext(h:NM w n0 a Q K N B M)(hE:Ext w w'):∃B',NM w' n0 a Q K N B' M:=by
 have hsz:=hE.size
 refine⟨_,h.net.ext hE,h.mach.aside hE (fun _ _ hh=>hh.elim) (fun g cs hA=>hA.ext hE),fun k hk hb=>?_,h.klo,h.qlo,fun k hb=>h.blo k hb.1,by have:=h.lo;omega⟩
 rcases hb.2 with e|e
 ·exact h.apart k e hb.1
 ·omega
theorem NMx.ext(h:NMx w n0 q a N M)(hE:Ext w w'):NMx w' n0 q a N M:=by
 obtain⟨Q,K,B,h1,h2⟩:=h
 obtain⟨B',h3⟩:=h2.ext hE
 exact⟨Q,K,B',h1,h3⟩
theorem ext_lo{w0 w w':World}(hE:Ext w0 w)(hC:Chg (fun k=>w0.heap.size≤k) w w'):Ext w0 w':=ext_hi hE hC
theorem NM.netMoved(h:NM w n0 a Q K N B M)(hT:NetTo Q K w w' N')(hM:MachIn w' (Bx B w.heap.size w'.heap.size) a M):NMx w' n0 Q.q a N' M∧Chg (fun k=>n0≤k) w w':=by
 obtain⟨K',r1,r2,r3,hU,hC,hK⟩:=hT
 have hsz:=hC.size
 have hlo:=h.lo
 refine⟨⟨Q,K',_,rfl,hU,hM,fun k hk hb=>?_,fun k hk=>?_,h.qlo,fun k hb=>h.blo k hb.1,by omega⟩,hC.mono fun k _ e=>h.klo k e⟩
 ·rcases hb.2 with e|e
  ·refine⟨fun hk'=>?_,(h.apart k e hb.1).2⟩
   rcases hK k hk' with e2|e2
   ·exact(h.apart k e hb.1).1 e2
   ·omega
  ·omega
 ·rcases hK k hk with e|e
  ·exact h.klo k e
  ·omega
theorem NM.netMoved0(h:NM w n0 a Q K N B Mach.empty)(hT:NetTo Q K w w' N'):NMx w' n0 Q.q a N' Mach.empty∧Chg (fun k=>n0≤k) w w':=by
 obtain⟨K',r1,r2,r3,hU,hC,hK⟩:=hT
 exact h.netMoved ⟨K',r1,r2,r3,hU,hC,hK⟩ (h.mach.moved0 hC fun k hk hs hb=>(h.apart k hk hb).1 hs)
theorem NM.netMovedC(h:NM w n0 a Q K N B M)(hT:NetTo Q K w w' N')(hCo:Chg K.core w w'):NMx w' n0 Q.q a N' M∧Chg (fun k=>n0≤k) w w':=by
 refine h.netMoved hT (h.mach.aside hCo (fun k hk hs hb=>(h.apart k hk hb).1 (Ka.core_has hs)) fun g cs hA=>hA.chg hCo ?_)
 rintro(e|e|e)
 ·exact(hA.ne h.net.nd.nd (by decide)) e
 ·exact(hA.ne h.net.nd.dk.1 (by decide)) e
 ·exact h.net.nd.dk.2.ne_at hA e.symm
theorem NM.machMoved{M':Mach}(h:NM w n0 a Q K N B M)(hM:MachIn w' B a M')(hK:Km B w w'):NM w' n0 a Q K N B M'∧Chg (fun k=>n0≤k) w w':=by
 have hC:Chg (fun k=>B k∧k<w.heap.size) w w':=hK.chg.mono fun k hk e=>⟨e,hk⟩
 have hsz:=hC.size
 have hlo:=h.lo
 refine⟨⟨⟨h.net.net.chg hC fun k hs=>(h.apart k hs.2 hs.1).2,h.net.nd.chg hC fun k hs=>(h.apart k hs.2 hs.1).1⟩,hM,fun k hk hb=>?_,h.klo,h.qlo,h.blo,by omega⟩,hK.chg.mono fun k _ e=>h.blo k e⟩
 rcases Nat.lt_or_ge k w.heap.size with e|e
 ·exact h.apart k e hb
 ·exact⟨fun hk'=>by have:=h.net.nd.has_lt k hk';omega,fun hk'=>by have:=h.net.qlt k hk';omega⟩
end
end Go.Proofs.YtkkbfdencgdbhaaGreatDoor
namespace Go.Proofs.YtkkbfdencgdbhaaGreatDoor
open Go.RowKit Go.Sort
theorem sl_oneQ(w:World)(t:TypeId)(x:Value)(c:Nat):Sl (w.alloc (.cells #[x] t)) (.slice (some ⟨w.heap.size,0,none⟩) 1 c) [x] :=
 ⟨_,c,rfl,fun _=>⟨_,_,rfl,fun i y hi=>by
  have e:i=0:=by have:=(List.getElem?_eq_some_iff.1 hi).1;simp at this;omega
  subst e
  have h:=(At.new w t #[x]).cell 0
  rw[Nat.add_zero,h];exact hi⟩⟩
theorem enc300:([]:List UInt8)++[300].flatMap uenc=[130,44]:=by decide +kernel
theorem crc19:crc ([(⟨#[49,50,51,52,53,54,55,56,57]⟩:ByteArray)].flatMap fun s=>s.data.toList)=3421780262:=by decide +kernel
theorem seg1:segN 1=⟨#[115,101,103,45,48,48,48,48,48,48,49]⟩:=by decide +kernel
abbrev b19:ByteArray:=⟨#[49,50,51,52,53,54,55,56,57]⟩
theorem sum19(w3:World)(hT:Tab w3):Calls Tryz.prog 23 #[.slice (some ⟨w3.heap.size,0,none⟩) 1 1] (w3.alloc (.cells #[.string b19] 9)) fun e w'=>e=.returned (.int .u32 3421780262)∧w'=w3.alloc (.cells #[.string b19] 9):=by
 have h:=sum_any (w3.alloc (.cells #[.string b19] 9)) (.slice (some ⟨w3.heap.size,0,none⟩) 1 1) [b19] (sl_oneQ w3 9 (.string b19) 1) (Nat.le_trans (Nat.le_refl _) (by decide)) (fun s hs=>by rw[List.mem_singleton.1 hs];unfold maxLen;decide) (hT.alloc _)
 have hc:=crc19
 generalize crc ([b19].flatMap fun s=>s.data.toList)=c at h hc
 subst hc
 exact h
theorem name1(w:World):Calls Tryz.prog 25 #[.int .i64 1] w fun e w'=>e=.returned (.string ⟨#[115,101,103,45,48,48,48,48,48,48,49]⟩)∧Ext w w':=by
 have h:=name_any w 1 (by decide) (by decide)
 have hc:=seg1
 generalize segN 1=c at h hc
 subst hc
 exact h
set_option maxRecDepth 100000 in
theorem parts401(w:World):Calls Tryz.prog 24 #[.int .i64 401] w fun e w'=>e=.returned (.int .i64 3)∧Ext w w':=by
 go_enter Tryz.func24,Tryz.ntmps24
 go_wp2_with fail
 go_ret
 exact⟨rfl,Ext.refl w⟩
set_option maxRecDepth 100000 in
set_option maxHeartbeats 2000000 in
theorem live_any(w:World)(hT:Tab w):Calls Tryz.prog 5 #[] w fun e w'=>e=.returned (.bool true)∧Ext w w':=by
 have hA:=At.new w 63 #[.slice none 0 0]
 have hE0:=(Ext.refl w).alloc (.cells #[.slice none 0 0] 63)
 go_enter Tryz.func5,Tryz.ntmps5
 go_wp2_with fail
 have hs1:(w.alloc (.cells #[.slice none 0 0] 63)).heap.size=w.heap.size+1:=by simp
 generalize w.alloc (.cells #[.slice none 0 0] 63)=w1 at hA hE0 hs1⊢
 obtain⟨x,hx⟩:∃x,w.heap.size=x:=⟨_,rfl⟩
 have hxw:w.heap.size≤x:=by omega
 rw[hx]at hA hs1⊢
 clear hx
 have hE1:=(Ext.refl w1).alloc (.cells #[.int .u64 300] 30)
 have cu:=eu_any (w:=w1.alloc (.cells #[.int .u64 300] 30)) (base:=x) (e:=x) (bs:=[]) ⟨Nat.le_refl _,.slice none 0 0,hA.ext hE1,World.ownsRow_nil _ _ _ _⟩ (.slice (some ⟨w1.heap.size,0,none⟩) 1 1) [300] (SlE.new w1 x (cs:=#[.int .u64 300]) (by decide)) (by simp) (by decide) (by decide)
 rw[enc300,hs1]at cu
 refine cu.mono ?_
 rintro e w2 ⟨rfl,hC2,hA2⟩
 have hE2:Ext w w2:=((hE0.trans hE1).chg_trans hC2).mono (fun k hk hs=>by have:=hs.1;omega)
 clear cu hE1 hA hE0 hC2
 have cb:=bytes_any _ _ _ _ hA2
 clear hA2
 go_wp2_with fail
 refine cb.mono ?_
 rintro e w3 ⟨rfl,rfl⟩
 clear cb
 have cs1:=sum19 w3 (hT.ext hE2)
 go_wp2_with fail
 refine cs1.mono ?_
 rintro e w4 ⟨rfl,rfl⟩
 clear cs1
 go_wp2_with fail
 refine(parts401 _).mono ?_
 rintro e w5 ⟨rfl,hE5⟩
 go_wp2_with fail
 refine(name1 _).mono ?_
 rintro e w6 ⟨rfl,hE6⟩
 go_wp2_with fail
 go_ret
 exact⟨rfl,((hE2.alloc _).trans hE5).trans hE6⟩
end Go.Proofs.YtkkbfdencgdbhaaGreatDoor
namespace Go.Proofs.YtkkbfdencgdbhaaGreatDoor
open Go.RowKit Go.Sort
set_option maxRecDepth 100000 in
theorem fld_snap(a0 a1 a2 a3 a4 a5:Value)(w:World):(Instr.field 58 (.agg #[a0,a1,a2,a3,a4,a5]) 4).run Tryz.prog w=.ok a4 w:=by first|kernel_rfl|rfl
set_option maxRecDepth 100000 in
theorem fld_err(a0 a1 a2 a3 a4:Value)(w:World):(Instr.field 34 (.agg #[a0,a1,a2,a3,a4]) 0).run Tryz.prog w=.ok a0 w:=by first|kernel_rfl|rfl
set_option maxRecDepth 100000 in
set_option maxHeartbeats 8000000 in
theorem snapped_law(w:World)(l l2:List CRow)(lv lv2:Value)(hl:CmdsIn w l lv)(hl2:CmdsIn w l2 lv2)(hd:∀x∈l,x.1.disks.length≤17592186043904)(hd2:∀x∈l2,x.1.disks.length≤17592186043904)(hT:Tab w) :
 Calls Tryz.prog 4 #[lv,lv2] w fun e w'=>e=.returned (.bool true)∧Ext w w':=by
 obtain⟨LA,lc,rfl,hlc,hlm⟩:=hl.cap
 have hll:=hl.len
 unfold maxLen at hll hlm
 have HL:=Lib.hid hl
 obtain⟨LA2,lc2,rfl,hlc2,hlm2⟩:=hl2.cap
 have hll2:=hl2.len
 unfold maxLen at hll2 hlm2
 have HL2:=Lib.hid hl2
 have HDL:=Lib.hid hd
 have HDL2:=Lib.hid hd2
 have HT:=Lib.hid hT
 have HG:=Lib.hid hT.lt
 clear hl hl2 hd hd2 hT
 go_enter Tryz.func4,Tryz.ntmps4
 go_wp2_with fail
 refine(live_any w HT.out).mono ?_
 rintro e w1 ⟨rfl,hE1⟩
 go_wp2_with fail
 refine(qnew_any w1 (HT.out.ext hE1)).mono ?_
 rintro e w2 ⟨Q,r,d,m,rfl,hU,hE2,hQ,hr,hdd,hm⟩
 have X2:=hE1.trans hE2
 have hsz1:=hE1.size
 have HQ:=Lib.hid (show ∀k,Q.has k→w.heap.size≤k from fun k hk=>Nat.le_trans hsz1 (hQ k hk))
 have hU0:NetUp w2 Q (Ka.opened r d m) (Nd.nth 0):=hU
 have hK0:∀k,(Ka.opened r d m).has k→w.heap.size≤k:=by
  rintro k (e|e|e|e|e|e|e|e|⟨v,hv,e⟩)
  ·have e':k=r:=e;omega
  ·have e':k=d:=e;omega
  ·have e':k=m:=e;omega
  ·cases e
  ·cases e
  ·cases e
  ·cases e
  ·cases e
  ·cases hv
 have h0:∃K,NetUp w2 Q K (Nd.nth 0)∧(∀k,K.has k→w.heap.size≤k)∧Ext w w2:=⟨_,hU0,hK0,X2⟩
 have HH0:=Lib.hid h0
 clear hE1 hE2 hU hU0 hQ hK0 X2 h0 hr hdd hm hsz1
 go_wp2_with fail
 go_loopw [7] (fun iv wr=>∃i:Nat,iv=.int .i64 (i:Int)∧i≤4∧∃K,NetUp wr Q K (Nd.nth i)∧(∀k,K.has k→w.heap.size≤k)∧Ext w wr) (fun iv _=>4 - (intOf iv).toNat)
 case atStart=>exact⟨0,rfl,Nat.zero_le _,HH0.out⟩
 case round =>
  clear HH0
  obtain⟨i,rfl,hi4,K,hU,hK,Xi⟩:=hrel
  rename World=>wr
  by_cases hi:i<4
  ·have HR:=Lib.hid (round_one i hi hU (HT.out.ext Xi) (fun hk=>by have:=hK _ hk;have:=HG.out;omega))
   have HK:=Lib.hid hK
   have HX:=Lib.hid Xi
   clear hU hK Xi
   go_wp2_with fail
   refine HR.out.mono ?_
   rintro e w3 ⟨rfl,K',r1,r2,r3,hU',hC',hK'⟩
   have X3:Ext w w3:=ext_lo HX.out (hC'.mono fun k _ e=>HK.out k e)
   have hlo:∀k,K'.has k→w.heap.size≤k:=fun k hk=>by
    rcases hK' k hk with e|e
    ·exact HK.out k e
    ·have:=HX.out.size;omega
   clear HR
   have HA:=Lib.hid (show ∃K,NetUp w3 Q K (Nd.nth (i+1))∧(∀k,K.has k→w.heap.size≤k)∧Ext w w3 from⟨K',hU',hlo,X3⟩)
   clear hU' hC' hK' X3 hlo r1 r2 r3
   go_wp2_with fail
   go_roundw
   case rel=>exact⟨i+1,by go_num,by omega,HA.out⟩
   case measure=>simp[intOf];omega
  ·obtain rfl:i=4:=by omega
   have hU':NetUp wr Q K (Nd.one [ByteArray.empty]):=hU
   have HU:=Lib.hid hU'
   have HK:=Lib.hid hK
   have HX:=Lib.hid Xi
   clear hU hU' hK Xi
   go_wp2_with fail
   refine(snew_any wr).mono ?_
   rintro e w3 ⟨a,rfl,hM,hE3⟩
   have hNM:NMx w3 w.heap.size Q.q a (Nd.one [ByteArray.empty]) Mach.empty:=by
    have hz:=HX.out.size
    have hz3:=hE3.size
    refine⟨Q,K,_,rfl,HU.out.ext hE3,hM,fun k hk hb=>?_,HK.out,HQ.out,fun k hb=>?_,by omega⟩
    ·have hb':wr.heap.size≤k:=hb
     exact⟨fun hh=>by have:=HU.out.nd.has_lt k hh;omega,fun hh=>by have:=HU.out.qlt k hh;omega⟩
    ·have hb':wr.heap.size≤k:=hb
     omega
   have HNM:=Lib.hid hNM
   have HX3:=Lib.hid (HX.out.trans hE3)
   clear hNM hM hE3 HX HU HK
   go_wp2_with fail
   go_loopw [9] (fun kv wr=>∃(k:Nat) (cs:List ByteArray),kv=.int .i64 (k:Int)∧k≤l.length∧k≤15∧cs.length=k+1∧(∀c∈cs,c.size≤1000)∧NMx wr w.heap.size Q.q a (Nd.one cs) Mach.empty∧Ext w wr) (fun kv _=>15 - (intOf kv).toNat)
   case atStart=>exact⟨0,[ByteArray.empty],rfl,Nat.zero_le _,Nat.zero_le _,rfl,fun c hc=>by rw[List.mem_singleton.1 hc];decide,HNM.out,HX3.out⟩
   case round =>
    clear HNM HX3
    obtain⟨k,cs,rfl,hkl,hk15,hcs,hcc,hNM,Xk⟩:=hrel
    rename World=>wr
    have HCS:=Lib.hid hcs
    have HCC:=Lib.hid hcc
    have HNM:=Lib.hid hNM
    clear hcs hcc hNM
    obtain⟨fk,hfk⟩:∃fk:Bool,fk=decide (k<l.length∧k<15):=⟨_,rfl⟩
    obtain⟨wo,hwo⟩:∃wo:World,wo=wr:=⟨_,rfl⟩
    go_upto_region 12 with fail
    go_cut [44]from 37 to 44 (fun tv wx=>tv=.bool fk∧wx=wo)
    case first =>
     clear Xk HNM
     by_cases h1:k<l.length
     ·by_cases h2:k<15
      ·obtain rfl:fk=true:=by rw[hfk];simp;omega
       clear hfk
       go_wp2_with fail
       go_meet
       case rel=>exact⟨by first|rfl|(simp <;> omega),hwo.symm⟩
      ·obtain rfl:fk=false:=by rw[hfk];simp;omega
       clear hfk
       go_wp2_with fail
       go_meet
       case rel=>exact⟨by first|rfl|(simp <;> omega),hwo.symm⟩
     ·obtain rfl:fk=false:=by rw[hfk];simp;omega
      clear hfk
      go_wp2_with fail
      go_meet
      case rel=>exact⟨by first|rfl|(simp <;> omega),hwo.symm⟩
    case rest =>
     obtain⟨rfl,hwc⟩:=hcut
     subst hwc
     subst hwo
     cases fk
     ·clear hfk
      have hcl:=HCS.out
      have hne:cs≠[]:=fun e=>by rw[e]at hcl;simp at hcl
      obtain⟨Q',K,B,hq,hN⟩:=HNM.out
      have hok:NdOk (Nd.one cs):=one_ok cs (by omega) HCC.out _ (by omega)
      have cn:=qnode_any hN.net.net
      have cf:=fresh_any hN.net.nd hok (by show(0:Int)≤0∧(0:Int)≤cs.length;omega)
      rw[one_freshE,one_fresh cs hne]at cf
      rw[hq]at cn
      have HCN:=Lib.hid cn
      have HCF:=Lib.hid cf
      have HNN:=Lib.hid hN
      have HQQ:=Lib.hid hq
      have HX:=Lib.hid Xk
      have HNE:=Lib.hid hne
      have hel:(ensF 1 cs).length=k+1:=by rw[ensF_len];exact hcl
      have hec:∀x∈ensF 1 cs,x.c.size≤1000:=fun x hx=>HCC.out _ (ensF_mem 1 cs x hx).2.2.2
      obtain⟨E,hE⟩:∃E,E=ensF 1 cs:=⟨_,rfl⟩
      rw[←hE]at hel hec
      have HEE:=Lib.hid hE
      have HEL:=Lib.hid hel
      have hEl16:E.length≤16:=by omega
      have HEC:=Lib.hid hec
      clear cn cf hN hq hok hne hcl HNM Xk hE hel hec hkl
      go_wp2_with fail
      refine HCN.out.mono ?_
      rintro e w3 ⟨rfl,rfl⟩
      go_wp2_with fail
      refine HCF.out.mono ?_
      rintro e w4 ⟨v,rfl,hO,hA,hC⟩
      have hT4:=NetUp.of_node HNN.out.net (NdTo.of hA (hC.mono fun k _ e=>.inl e))
      have h4:=HNN.out.netMoved0 hT4
      rw[HQQ.out]at h4
      have HN4:=Lib.hid h4.1
      have HX4:=Lib.hid (ext_lo HX.out h4.2)
      rw[←HEE.out]at hO
      obtain⟨A,c,rfl,hcap⟩:=q_slc hO
      have HO4:=Lib.hid (q_base hO (Nat.zero_le _))
      clear hT4 h4 hA hC hO HNN HQQ HCN HCF HX
      go_wp2_with fail
      go_loopw [69] (fun kv wr=>∃(j:Nat) (M:Mach),kv=.int .i64 (j:Int)∧j≤E.length∧NMx wr w.heap.size Q.q a (Nd.app cs) M∧MInv j M∧wr.ownsRow 0 49 3 (.slice A E.length c) E.length (enRows E)∧Ext w wr) (fun kv _=>E.length - (intOf kv).toNat)
      case atStart=>exact⟨0,Mach.empty,rfl,Nat.zero_le _,HN4.out,MInv.empty,HO4.out,HX4.out⟩
      case round =>
       clear HN4 HO4 HX4
       obtain⟨j,M,rfl,hj,hN,hI,hO,Xj⟩:=hrel
       rename World=>wr
       have HNJ:=Lib.hid hN
       have HIJ:=Lib.hid hI
       have HOJ:=Lib.hid hO
       have HXJ:=Lib.hid Xj
       by_cases hlt:j<E.length
       ·obtain⟨x,hxj⟩:∃x,E[j]? = some x:=⟨_,List.getElem?_eq_getElem hlt⟩
        have hS:Sln wr (.slice A E.length c) 3 (E.map En.row):=Sln.of_own (by rw[←enRows_eq];exact hO) (en_three _) (by rw[List.length_map])
        obtain⟨g,p,c',hv,r0,r1,r2⟩:=ens_some hS hxj
        simp only[Value.slice.injEq]at hv
        obtain⟨rfl, -,rfl⟩:=hv
        have HXS:=Lib.hid (HEC.out x (List.mem_of_getElem? hxj))
        clear hN hI hO Xj hS hxj
        go_wp2_with fail
        have hEa:=(Ext.refl wr).alloc (.cells #[.int .i64 x.i,.int .i64 x.t,.string x.c] 49)
        have hNa:=HNJ.out.ext hEa
        have HOa:=Lib.hid (own_ext HOJ.out hEa)
        have HXa:=Lib.hid (HXJ.out.trans hEa)
        generalize wr.alloc (.cells #[.int .i64 x.i,.int .i64 x.t,.string x.c] 49)=wa at hNa HOa HXa⊢
        obtain⟨Q',K,B,hq,hNK⟩:=hNa
        have hel:=HEL.out
        have HAP:=Lib.hid (mapply_any wa B a M j hNK.mach HIJ.out (by omega) x.c HXS.out)
        have HNK:=Lib.hid hNK
        have HQQ:=Lib.hid hq
        clear hEa hNK hq hel r0 r1 r2 HNJ HOJ HXJ
        refine HAP.out.mono ?_
        rintro e w5 ⟨A5,c5,rfl,hO5,hM5,hK5⟩
        have h5:=HNK.out.machMoved hM5 hK5
        have HN5:=Lib.hid (show NMx w5 w.heap.size Q.q a (Nd.app cs) (M.app x.c.data.toList).1 from⟨Q',K,B,HQQ.out,h5.1⟩)
        have HI5:=Lib.hid (HIJ.out.app x.c.data.toList)
        have HO5:=Lib.hid (hK5.own HOa.out (by decide) (by decide) (by decide))
        have HX5:=Lib.hid (ext_lo HXa.out h5.2)
        clear h5 hM5 hK5 hO5 HAP HNK HQQ HOa HXa HIJ
        generalize (M.app x.c.data.toList).1=M5 at HN5 HI5
        go_wp2_with fail
        go_roundw
        case rel=>exact⟨j+1,M5,by go_num,by omega,HN5.out,HI5.out,HO5.out,HX5.out⟩
        case measure=>simp[intOf];omega
       ·obtain rfl:j=E.length:=by omega
        clear hN hI hO Xj HOJ
        obtain⟨Q',K,B,hq,hN⟩:=HNJ.out
        have hel:=HEL.out
        have HWR:=Lib.hid (mwrite_any hN.mach HIJ.out (by omega))
        have hsm:=menc_small HIJ.out (by omega)
        have HNK:=Lib.hid hN
        have HQQ:=Lib.hid hq
        clear hN hq HNJ hel
        go_wp2_with fail
        refine HWR.out.mono ?_
        rintro e w5 ⟨rfl,hE5⟩
        have HEW:=Lib.hid (show ∃s,s=(⟨M.enc.toArray⟩:ByteArray)from⟨_,rfl⟩)
        obtain⟨s,hs⟩:=HEW.out
        rw[←hs]at hsm⊢
        have HSM:=Lib.hid hsm
        have HSS:=Lib.hid hs
        obtain⟨B5,hN5⟩:=HNK.out.ext hE5
        have HX5:=Lib.hid (HXJ.out.trans hE5)
        have hel:=HEL.out
        have hcn:=comp_one cs HNE.out hN5.net (by have:=HCS.out;omega) HCC.out s HSM.out (HT.out.ext HX5.out) (fun hk=>by have:=hN5.klo _ hk;have:=HG.out;omega)
        rw[HQQ.out]at hcn
        have HCP:=Lib.hid hcn
        have HN5:=Lib.hid hN5
        clear hcn hN5 HNK HWR hE5 HXJ hel hs hsm HEW
        go_wp2_with fail
        refine HCP.out.mono ?_
        rintro e w6 ⟨rfl,hT6,hC6⟩
        have h6:=HN5.out.netMovedC hT6 hC6
        rw[HQQ.out]at h6
        obtain⟨Q6,K6,B6,hq6,hN6⟩:=h6.1
        have HX6:=Lib.hid (ext_lo HX5.out h6.2)
        have hcr:=qcrash_any hN6.net (by show(Fs.comp cs.length s).tot≤_;have:=comp_tot cs.length s HSM.out;omega)
        rw[hq6]at hcr
        have HCR:=Lib.hid hcr
        have HN6:=Lib.hid hN6
        have HQ6:=Lib.hid hq6
        clear hcr hN6 hq6 h6 hT6 hC6 HCP HN5 HQQ HX5
        go_wp2_with fail
        refine HCR.out.mono ?_
        rintro e w7 ⟨rfl,hA7,hD7,hC7⟩
        have hS7:∀k,(k=Q6.nb∨k=K6.d∨k=K6.m)→(K6.has k∨Q6.has k):=by
         rintro k (e|e|e)
         ·exact .inr (.inr (.inl e))
         ·exact .inl (.inr (.inl e))
         ·exact .inl (.inr (.inr (.inl e)))
        have hM7:=HN6.out.mach.aside hC7 (fun k hk hs hb=>by rcases hS7 k hs with e|e;exact(HN6.out.apart k hk hb).1 e;exact(HN6.out.apart k hk hb).2 e) (fun g cs hA=>hA.chg hC7 (by
         rintro(e|e|e)
         ·exact(hA.ne HN6.out.net.net.ns (by decide)) e
         ·exact(hA.ne HN6.out.net.nd.dk.1 (by decide)) e
         ·exact HN6.out.net.nd.dk.2.ne_at hA e.symm))
        have hX7:Ext w w7:=ext_lo HX6.out (hC7.mono fun k _ hs=>by rcases hS7 k hs with e|e;exact HN6.out.klo k e;exact HN6.out.qlo k e)
        have hd6:w.heap.size≤K6.d:=HN6.out.klo _ (.inr (.inl rfl))
        have hgd:¬ 0=K6.d:=fun e=>by have:=HG.out;omega
        have hst:=qstart_any w7 Q6 K6.d K6.m (Fs.comp cs.length s) (Ts.comp cs.length s) hA7 hD7 (by have:=comp_tot cs.length s HSM.out;omega) (comp_says cs.length s (by have:=HCS.out;omega) HSM.out) (HT.out.ext hX7) hgd
        rw[HQ6.out]at hst
        have HST:=Lib.hid hst
        have HA7:=Lib.hid hA7
        have HD7:=Lib.hid hD7
        have HX7:=Lib.hid hX7
        have HM7:=Lib.hid hM7
        have hz7:=hC7.size
        clear hst hA7 hD7 hX7 hM7 hC7 hS7 HX6 hgd hd6 HCR
        go_wp2_with fail
        refine HST.out.mono ?_
        rintro e w8 ⟨rfl,r8,hr8,hU8,hC8⟩
        have hS8:∀k,(k=K6.d∨k=Q6.nb)→(K6.has k∨Q6.has k):=by
         rintro k (e|e)
         ·exact .inl (.inr (.inl e))
         ·exact .inr (.inr (.inl e))
        have hM8:=HM7.out.aside hC8 (fun k hk hs hb=>by
         have hb0:B6 k:=hb.1
         have hk0:k<w6.heap.size:=by rcases hb.2 with e|e <;> omega
         rcases hS8 k hs with e|e
         ·exact(HN6.out.apart k hk0 hb0).1 e
         ·exact(HN6.out.apart k hk0 hb0).2 e) (fun g cs hA=>hA.chg hC8 (by
         rintro(e|e)
         ·exact(hA.ne HD7.out.1 (by decide)) e
         ·exact(hA.ne HA7.out.ns (by decide)) e))
        have hX8:Ext w w8:=ext_lo HX7.out (hC8.mono fun k _ hs=>by rcases hS8 k hs with e|e;exact HN6.out.klo k e;exact HN6.out.qlo k e)
        have hb8:∀k,Bx (Bx B6 w6.heap.size w7.heap.size) w7.heap.size w8.heap.size k→w.heap.size≤k:=fun k hk=>HN6.out.blo k hk.1.1
        generalize Bx (Bx B6 w6.heap.size w7.heap.size) w7.heap.size w8.heap.size=B8 at hM8 hb8
        have cn:=qnode_any hU8.net
        rw[HQ6.out]at cn
        have HCN:=Lib.hid cn
        have hsv:=state_any hU8.nd rfl
        have etz:tsZ (Nd.opened 0 1 (Ts.comp cs.length s) (Fs.comp cs.length s)).s=#[.int .i64 1,.int .i64 1,.int .i64 (cs.length:Int),.int .i64 1,.string s,.slice none 0 0]:=rfl
        rw[etz]at hsv
        have HSV:=Lib.hid hsv
        have HM8:=Lib.hid hM8
        have HX8:=Lib.hid hX8
        have HB8:=Lib.hid hb8
        clear hU8 hC8 hS8 hM8 hX8 hb8 cn hsv etz HST HA7 HD7 HX7 HM7 HN6 HQ6 hz7
        generalize (cs.length:Int)=cz at HSV
        go_wp2_with fail
        refine HCN.out.mono ?_
        rintro e w9 ⟨rfl,rfl⟩
        go_wp2_with fail
        refine HSV.out.mono ?_
        rintro e w10 ⟨rfl,hE10⟩
        have hrd:=sread_like w10 M E.length HIJ.out (by omega)
        rw[←HSS.out]at hrd
        have HRD:=Lib.hid hrd
        have hM10:=HM8.out.ext hE10
        have HM10:=Lib.hid hM10
        have HX10:=Lib.hid (HX8.out.trans hE10)
        have hfd:=fld_snap (.int .i64 1) (.int .i64 1) (.int .i64 cz) (.int .i64 1) (.string s) (.slice none 0 0)
        clear hrd hM10 hE10 HM8 HX8 HSV HCN
        go_wp2_with fail
        refine HRD.out.mono ?_
        rintro e w11 ⟨b,M',rfl,hMb,hLk,hE11⟩
        clear hfd
        have hz11:=hE11.size
        have hzx:=HX10.out.size
        have hTw:Two w11 w.heap.size b a M' M:=⟨_,_,hMb,HM10.out.aside hE11 (fun _ _ hh=>hh.elim) (fun g cs hA=>hA.ext hE11),fun k hk ha hb=>by
         have ha':w10.heap.size≤k:=ha
         rcases hb.2 with e|e <;> omega,fun k hb=>by
         have hb':w10.heap.size≤k:=hb
         omega,fun k hb=>HB8.out k hb.1,by omega⟩
        have HTw:=Lib.hid hTw
        have HX11:=Lib.hid (HX10.out.trans hE11)
        have HLK:=Lib.hid hLk
        obtain⟨Ba,hMa⟩:=hTw.machA
        have hwa:=mwrite_any hMa (hLk.inv HIJ.out) (by omega)
        rw[hLk.enc HIJ.out,←HSS.out]at hwa
        have hwb:=fun(W:World) (hE:Ext w11 W)=>mwrite_any ((hTw.ext hE).machB).choose_spec HIJ.out (by omega)
        rw[←HSS.out]at hwb
        have HWA:=Lib.hid hwa
        have HWB:=Lib.hid hwb
        clear hwa hwb hMa hTw hLk hMb hE11 hz11 hzx HB8 HM10 HRD HX10
        go_wp2_with fail
        refine HWA.out.mono ?_
        rintro e w12 ⟨rfl,hE12⟩
        have HWB2:=Lib.hid (HWB.out _ hE12)
        have HT12:=Lib.hid (HTw.out.ext hE12)
        have HX12:=Lib.hid (HX11.out.trans hE12)
        clear hE12 HWA HWB HTw HX11
        go_wp2_with fail
        refine HWB2.out.mono ?_
        rintro e w13 ⟨rfl,hE13⟩
        have HT13:=Lib.hid (HT12.out.ext hE13)
        have HX13:=Lib.hid (HX12.out.trans hE13)
        clear hE13 HWB2 HT12 HX12
        go_wp2_with fail
        go_loopw [20] (fun kv wr=>∃(j:Nat) (Ma Mb:Mach),kv=.int .i64 (j:Int)∧j≤l2.length∧j≤10∧Two wr w.heap.size b a Ma Mb∧MInv (E.length+j) Mb∧Like Mb Ma∧Ext w wr) (fun kv _=>10 - (intOf kv).toNat)
        case atStart=>exact⟨0,M',M,rfl,Nat.zero_le _,Nat.zero_le _,HT13.out,HIJ.out,HLK.out,HX13.out⟩
        case round =>
         clear HT13 HX13 HLK HIJ HSS HSM
         obtain⟨j,Ma,Mb,rfl,hjl,hj10,hTj,hIj,hLj,Xj⟩:=hrel
         rename World=>wr
         have HTJ:=Lib.hid hTj
         have HIJ:=Lib.hid hIj
         have HLJ:=Lib.hid hLj
         have HXJ:=Lib.hid Xj
         clear hTj hIj hLj Xj
         obtain⟨fk,hfk⟩:∃fk:Bool,fk=decide (j<l2.length∧j<10):=⟨_,rfl⟩
         obtain⟨wo,hwo⟩:∃wo:World,wo=wr:=⟨_,rfl⟩
         go_upto_region 29 with fail
         go_cut [117]from 110 to 117 (fun tv wx=>tv=.bool fk∧wx=wo)
         case first =>
          clear HTJ HIJ HLJ HXJ
          by_cases h1:j<l2.length
          ·by_cases h2:j<10
           ·obtain rfl:fk=true:=by rw[hfk];simp;omega
            clear hfk
            go_wp2_with fail
            go_meet
            case rel=>exact⟨by first|rfl|(simp <;> omega),hwo.symm⟩
           ·obtain rfl:fk=false:=by rw[hfk];simp;omega
            clear hfk
            go_wp2_with fail
            go_meet
            case rel=>exact⟨by first|rfl|(simp <;> omega),hwo.symm⟩
          ·obtain rfl:fk=false:=by rw[hfk];simp;omega
           clear hfk
           go_wp2_with fail
           go_meet
           case rel=>exact⟨by first|rfl|(simp <;> omega),hwo.symm⟩
         case rest =>
          obtain⟨rfl,hwc⟩:=hcut
          subst hwc
          subst hwo
          cases fk
          ·clear hfk
           obtain⟨B1,hM1⟩:=HTJ.out.machA
           have hwa:=mwrite_any hM1 (HLJ.out.inv HIJ.out) (by omega)
           rw[HLJ.out.enc HIJ.out]at hwa
           have hwb:=fun(W:World) (hE:Ext _ W)=>mwrite_any ((HTJ.out.ext hE).machB).choose_spec HIJ.out (by omega)
           generalize (⟨Mb.enc.toArray⟩:ByteArray)=s9 at hwa hwb
           have HWA:=Lib.hid hwa
           have HWB:=Lib.hid hwb
           clear hwa hwb hM1
           go_wp2_with fail
           refine HWA.out.mono ?_
           rintro e w12 ⟨rfl,hE12⟩
           have HWB2:=Lib.hid (HWB.out _ hE12)
           have HX12:=Lib.hid (HXJ.out.trans hE12)
           clear hE12 HWA HWB HTJ HXJ
           go_wp2_with fail
           refine HWB2.out.mono ?_
           rintro e w13 ⟨rfl,hE13⟩
           have HX13:=Lib.hid (HX12.out.trans hE13)
           clear hE13 HWB2 HX12
           go_wp2_with fail
           go_ret
           exact⟨by simp,HX13.out⟩
          ·have hfk2:j<l2.length∧j<10:=by simpa using hfk.symm
           obtain⟨hlt,hlt10⟩:=hfk2
           clear hfk
           obtain⟨⟨x,dv⟩,hx⟩:∃x,l2[j]? = some x:=⟨_,List.getElem?_eq_getElem hlt⟩
           have hin:x.In dv _:=(HL2.out.row _ (List.mem_of_getElem? hx)).ext HXJ.out
           have hdx:=HDL2.out _ (List.mem_of_getElem? hx)
           have hS:=HL2.out.ops.ext HXJ.out
           obtain⟨lb,lo,rfl⟩:=cmds_some hS (fun e=>by
            have:=List.map_eq_nil_iff.1 e
            subst this;simp at hlt)
           obtain⟨r0,r1,r2,r3,r4,r5,r6,r7,r8,r9,r10⟩:=crow_cells hS hx
           have HF:=Lib.hid (sbytes_any _ x dv ⟨#[]⟩ hin hdx (by decide))
           have hsl:=seBytes_len x ⟨#[]⟩
           clear hin hdx hx hS
           go_wp2_with fail
           refine HF.out.mono ?_
           rintro e w7 ⟨rfl,hE7⟩
           clear r0 r1 r2 r3 r4 r5 r6 r7 r8 r9 r10 HF
           generalize seBytes x ⟨#[]⟩=bs at hsl⊢
           have hsz:(⟨bs.toArray⟩:ByteArray).size≤1000:=by
            show bs.toArray.size≤1000
            rw[List.size_toArray];omega
           have hA:=two_apply (HTJ.out.ext hE7) (HLJ.out.inv HIJ.out) (by omega) ⟨bs.toArray⟩ hsz
           rw[show(⟨bs.toArray⟩:ByteArray).data.toList=bs from rfl]at hA
           have hR:=(HLJ.out.app HIJ.out bs).2
           have HL9:=Lib.hid (HLJ.out.app HIJ.out bs).1
           rw[hR]at hA
           have HA:=Lib.hid hA
           have HX7:=Lib.hid (HXJ.out.trans hE7)
           have HSZ:=Lib.hid hsz
           clear hsz hsl hA hE7 HTJ HXJ hR
           go_wp2_with fail
           refine HA.out.mono ?_
           rintro e w8 ⟨A8,c8,rfl,hT8,hC8⟩
           have HX8:=Lib.hid (ext_hi HX7.out hC8)
           have hA2:=two_apply hT8.swap HIJ.out (by omega) ⟨bs.toArray⟩ HSZ.out
           rw[show(⟨bs.toArray⟩:ByteArray).data.toList=bs from rfl]at hA2
           have HA2:=Lib.hid hA2
           have HI9:=Lib.hid (HIJ.out.app bs)
           clear HA HX7 hC8 hT8 hA2 HIJ HLJ
           generalize (Ma.app bs).1=Ma' at HA2 HL9
           generalize (Mb.app bs).1=Mb' at HA2 HL9 HI9
           generalize (Mb.app bs).2=R at *
           have hfd:=fld_err (.int .i64 R.err) (.int .u64 (R.blob:Int)) (.int .i64 R.size) (.int .u32 (R.sum:Int)) (.slice A8 R.names.length c8)
           unfold resV
           go_wp2_with fail
           refine HA2.out.mono ?_
           rintro e w9 ⟨A9,c9,rfl,hT9,hC9⟩
           have HX9:=Lib.hid (ext_hi HX8.out hC9)
           have HT9:=Lib.hid hT9.swap
           have hfd:=fld_err (.int .i64 R.err) (.int .u64 (R.blob:Int)) (.int .i64 R.size) (.int .u32 (R.sum:Int)) (.slice A9 R.names.length c9)
           clear HA2 HX8 hC9 hT9
           unfold resV
           go_wp2_with fail
           go_roundw
           case rel=>exact⟨j+1,Ma',Mb',by go_num,by omega,by omega,HT9.out,HI9.out,HL9.out,HX9.out⟩
           case measure=>simp[intOf];omega
     ·have hfk2:k<l.length∧k<15:=by simpa using hfk.symm
      obtain⟨hlt,hlt15⟩:=hfk2
      clear hfk
      obtain⟨⟨x,dv⟩,hx⟩:∃x,l[k]? = some x:=⟨_,List.getElem?_eq_getElem hlt⟩
      have hin:x.In dv _:=(HL.out.row _ (List.mem_of_getElem? hx)).ext Xk
      have hdx:=HDL.out _ (List.mem_of_getElem? hx)
      have hS:=HL.out.ops.ext Xk
      obtain⟨lb,lo,rfl⟩:=cmds_some hS (fun e=>by
       have:=List.map_eq_nil_iff.1 e
       subst this;simp at hlt)
      obtain⟨r0,r1,r2,r3,r4,r5,r6,r7,r8,r9,r10⟩:=crow_cells hS hx
      have HF:=Lib.hid (sbytes_any _ x dv ⟨#[]⟩ hin hdx (by decide))
      have hsl:=seBytes_len x ⟨#[]⟩
      have HX:=Lib.hid Xk
      clear hin hdx hx hS Xk
      go_wp2_with fail
      refine HF.out.mono ?_
      rintro e w7 ⟨rfl,hE7⟩
      clear r0 r1 r2 r3 r4 r5 r6 r7 r8 r9 r10 HF
      generalize seBytes x ⟨#[]⟩=bs at hsl⊢
      have HN7:=Lib.hid (HNM.out.ext hE7)
      have HX7:=Lib.hid (HX.out.trans hE7)
      clear HNM HX hE7
      have hsz:(⟨bs.toArray⟩:ByteArray).size≤1000:=by
       show bs.toArray.size≤1000
       rw[List.size_toArray];omega
      have HSZ:=Lib.hid hsz
      clear hsz hsl
      obtain⟨Q',K,B,hq,hN⟩:=HN7.out
      have hcl:=HCS.out
      have hp:=prop_one cs hN.net (by omega) HCC.out ⟨bs.toArray⟩ HSZ.out (HT.out.ext HX7.out) (fun hk=>by have:=hN.klo _ hk;have:=HG.out;omega)
      rw[hq]at hp
      have HP:=Lib.hid hp
      have HNN:=Lib.hid hN
      have HQQ:=Lib.hid hq
      clear hp hN hq hcl HN7
      go_wp2_with fail
      refine HP.out.mono ?_
      rintro e w8 ⟨rfl,hT8⟩
      have h8:=HNN.out.netMoved0 hT8
      rw[HQQ.out]at h8
      have HN8:=Lib.hid h8.1
      have HX8:=Lib.hid (ext_lo HX7.out h8.2)
      clear hT8 h8 HNN HQQ HP HX7
      go_wp2_with fail
      go_roundw
      case rel=>exact⟨k+1,cs++[⟨bs.toArray⟩],by go_num,by omega,by omega,by have:=HCS.out;simp;omega,fun c hc=>by rcases List.mem_append.1 hc with hc|hc;exact HCC.out c hc;rw[List.mem_singleton.1 hc];exact HSZ.out,HN8.out,HX8.out⟩
      case measure=>simp[intOf];omega
end Go.Proofs.YtkkbfdencgdbhaaGreatDoor
