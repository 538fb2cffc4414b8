/-
  Part 11 of what the law leans on.
-/
import Derived.Test.YtimjipcplmnpbaaGreatS1
import Derived.Test.YtimjipcplmnpbaaGreatS6
import Derived.Test.YtimjipcplmnpbaaGreatS7
import Derived.Test.YtimjipcplmnpbaaGreatS9
import Derived.Test.YtimjipcplmnpbaaGreatS10
import Derived.Test.YtimjipcplmnpbaaGreatChecked
import Derived.BigQuiet
import Derived.WalkSpells
import Derived.WalkLawsBesides
import Derived.Deep.LoopGhost
import Derived.Laws.BitsAllLaws
import Derived.Laws.AppendOwn
namespace Go.Proofs.YtimjipcplmnpbaaGreat
set_option maxRecDepth 100000
set_option maxHeartbeats 8000000
set_option linter.unusedVariables false
set_option linter.unusedSimpArgs false
set_option linter.unusedSectionVars false
open _root_.Go.Proofs.Tryz
open Go.RowKit Go.Sort
def Last.zero:Last:=⟨0,Rs.er 0⟩
theorem qJX{κ ν : Type}[DecidableEq κ]:∀ {L:List (κ × ν)},(L.map (·.1)).Nodup→∀k v,qZC k L=some v↔(k,v)∈L
 | [],_,k,v=>by simp[qZC]
 | p::r,h,k,v=>by
  rw[List.map_cons,List.nodup_cons]at h;unfold qZC;rw[List.find?_cons]
  by_cases e:p.1=k
  ·have e2:decide (p.1=k)=true:=by simpa using e
   rw[e2]
   constructor
   ·intro hv;have hv2:p.2=v:=by simpa using hv
    rw[←e,←hv2];exact List.mem_cons_self ..
   ·intro hv;rcases List.mem_cons.1 hv with hv|hv
    ·rw[←hv];rfl
    ·exact absurd (List.mem_map.2 ⟨_,hv,e.symm ▸ rfl⟩) h.1
  ·have e2:decide (p.1=k)=false:=by simpa using e
   rw[e2];have ih:=qJX h.2 k v;unfold qZC at ih;rw[List.mem_cons]
   constructor
   ·exact fun hv=>.inr (ih.1 hv)
   ·rintro(hv|hv)
    ·exact absurd (by rw[←hv]) e
    ·exact ih.2 hv
theorem lget_perm{κ ν : Type}[DecidableEq κ]{L L':List (κ × ν)}(h:L.Perm L')(hn:(L.map (·.1)).Nodup)(k : κ):qZC k L=qZC k L':=by
 have hn':(L'.map (·.1)).Nodup:=(h.map (·.1)).nodup_iff.1 hn;refine Option.ext fun v=>?_
 rw[qJX hn,qJX hn',h.mem_iff]
theorem asc_nodup{DM:List Memo}(h:DM.Pairwise fun a b=>qJN a<qJN b):((DM.map (·.1)).map (·.1)).Nodup:=by
 unfold List.Nodup;rw[List.map_map,List.pairwise_map]
 exact h.imp fun {a b} hh e=>by
  have h1:a.1.1<b.1.1:=hh;have h2:a.1.1=b.1.1:=e;omega
def mfind(k:Int)(L:List Memo):Option Memo:=L.find? fun p=>decide (p.1.1=k)
theorem mfind_cons(k:Int)(p:Memo)(r:List Memo):mfind k (p::r)=if p.1.1=k then some p else mfind k r:=by
 unfold mfind;rw[List.find?_cons]
 by_cases e:p.1.1=k
 ·simp[e]
 ·simp[e]
theorem mfind_lget{DM:List Memo}{cl:List (Int×Last)}(hp:(DM.map (·.1)).Perm cl)(ha:DM.Pairwise fun a b=>qJN a<qJN b)(k:Int):(mfind k DM).map (fun p=>p.1.2)=qZC k cl:=by
 rw[←lget_perm hp (asc_nodup ha) k];unfold mfind qZC;rw[List.find?_map,Option.map_map];rfl
theorem mm_cells{w:World}{b o n c:Nat}{l:List Memo}(h:Sln w (.slice (some ⟨b,o,none⟩) n c) 7 (l.map qJR)){i:Nat}{p:Memo}(hi:l[i]? = some p) :
 w.cell? ⟨b,o+i * 7,none⟩=some (.int .i64 p.1.1)∧w.cell? ⟨b,o+i * 7+1,none⟩=some (.int .i64 p.1.2.seq)∧w.cell? ⟨b,o+i * 7+2,none⟩=some (.int .i64 p.1.2.r.err)∧w.cell? ⟨b,o+i * 7+3,none⟩=some (.int .u64 (p.1.2.r.blob:Int))∧w.cell? ⟨b,o+i * 7+4,none⟩=some (.int .i64 p.1.2.r.size)∧w.cell? ⟨b,o+i * 7+5,none⟩=some (.int .u32 (p.1.2.r.sum:Int))∧w.cell? ⟨b,o+i * 7+6,none⟩=some p.2:=by
 have hg:(l.map qJR)[i]? = some (qJR p):=by rw[List.getElem?_map,hi];rfl
 have hc:=sln_get h hg;exact⟨hc 0 _ rfl,hc 1 _ rfl,hc 2 _ rfl,hc 3 _ rfl,hc 4 _ rfl,hc 5 _ rfl,hc 6 _ rfl⟩
theorem memo_load{w:World}{q:Nat}{cs:Array Value}(h:At w q 123 cs)(hs:cs.size=7):(loadVar 123 ⟨q,0,none⟩).run prog w=.ok (.agg cs) w:=by
 have:=run_loadVar_mid (P:=prog) w q 0 123 cs.toList _ h.range underlying123 rfl (by rw[Array.length_toList,hs];exact qXX)
 simpa using this
def FnOut(w:World)(l:Last)(e:Ending)(w':World):Prop:=∃k A c ok,e=.returned (.tuple #[.agg #[.int .i64 ((k,l):Int×Last).1,.int .i64 ((k,l):Int×Last).2.seq,.int .i64 ((k,l):Int×Last).2.r.err,.int .u64 (((k,l):Int×Last).2.r.blob:Int),.int .i64 ((k,l):Int×Last).2.r.size,.int .u32 (((k,l):Int×Last).2.r.sum:Int),.slice A l.r.names.length c],.bool ok])∧w'.ownsRow 0 9 1 (.slice A l.r.names.length c) l.r.names.length (l.r.names.map Value.string)∧Ext w w'
theorem rmfind_any(w:World)(v:Value)(M:Mach)(h:qXY w v M)(client:Int)(hl:M.cl.length≤1000000) :
 Calls prog 55 #[v,.int .i64 client] w (FnOut w ((qZC client M.cl).getD Last.zero)):=by
 obtain⟨C,mv,DM,rfl,h37,hone,hRf,hMm,hperm,hasc⟩:=h;have hlen:DM.length≤1000000:=by have:=hperm.length_eq;rw[List.length_map]at this;omega
 obtain⟨A,c,rfl⟩:=qQc hMm.own;have hlg:=mfind_lget hperm hasc client;rw[←hlg];have hX:=mArr_37 h37 (.slice A DM.length c) M.n;generalize qZx C (.slice A DM.length c) M.n=X at hX⊢;have HMM:=Hh hMm;clear h37 hone hRf hperm hasc hlg
 go_enter func55,ntmps55
 have hB:=(At.new w 62 X).alloc (.cells #[.int .i64 0,.int .i64 0,.int .i64 0,.int .u64 0,.int .i64 0,.int .u32 0,.slice none 0 0] 123);have hQ:=At.new (w.alloc (.cells X 62)) 123 #[.int .i64 0,.int .i64 0,.int .i64 0,.int .u64 0,.int .i64 0,.int .u32 0,.slice none 0 0];rw[show(w.alloc (.cells X 62)).heap.size=w.heap.size+1 by simp]at hQ;have hE:=((Er w).alloc (.cells X 62)).alloc (.cells #[.int .i64 0,.int .i64 0,.int .i64 0,.int .u64 0,.int .i64 0,.int .u32 0,.slice none 0 0] 123)
 go_upto_region 1 with fail
 obtain⟨x,hx⟩:∃x,w.heap.size=x:=⟨_,rfl⟩;rw[hx]at hB hQ⊢;have hxw:w.heap.size≤x:=by omega
 clear hx;generalize (w.alloc _).alloc _=W at hB hQ hE⊢;have c37:=hB.cell 37;rw[hX]at c37;have hS:=hMm.sln.ext hE;clear hB hX hMm;go_wp2_with fail
 clear c37
 go_loopw [11] (fun kv wr=>∃k:Nat,kv=.int .i64 (k:Int)∧k≤DM.length∧mfind client DM=mfind client (DM.drop k)∧Sln wr (.slice A DM.length c) 7 (DM.map qJR)∧At wr (x+1) 123 #[.int .i64 0,.int .i64 0,.int .i64 0,.int .u64 0,.int .i64 0,.int .u32 0,.slice none 0 0]∧Ext w wr) (fun kv _=>DM.length - (intOf kv).toNat)
 case atStart=>exact⟨0,rfl,Nat.zero_le _,rfl,hS,hQ,hE⟩
 case round =>
  clear hS hQ hE;obtain⟨k,rfl,hk,hf,hS,hQ,hE⟩:=hrel
  by_cases hlt:k<DM.length
  ·obtain⟨p,hp⟩:∃p,DM[k]? = some p:=⟨_,List.getElem?_eq_getElem hlt⟩;rw[drop_some hp,mfind_cons]at hf;have HF:=Hh hf;have hno:=(HMM.out.ext hE).nms p (List.mem_of_getElem? hp);obtain⟨⟨pk,pl⟩,pv⟩:=p;simp only at hno;obtain⟨nA,nc,rfl⟩:=qQc hno
   obtain⟨rb,ro,rfl⟩:=qQW hS (fun e=>by
    have h0:=List.map_eq_nil_iff.1 e;rw[h0]at hp;simp at hp)
   obtain⟨r0,r1,r2,r3,r4,r5,r6⟩:=mm_cells hS hp;simp only at r0 r1 r2 r3 r4 r5 r6 hf;have hY:=At.new wr 123 #[.int .i64 ((pk,pl):Int×Last).1,.int .i64 ((pk,pl):Int×Last).2.seq,.int .i64 ((pk,pl):Int×Last).2.r.err,.int .u64 (((pk,pl):Int×Last).2.r.blob:Int),.int .i64 ((pk,pl):Int×Last).2.r.size,.int .u32 (((pk,pl):Int×Last).2.r.sum:Int),.slice nA pl.r.names.length nc];have hEy:=(Er wr).alloc (.cells #[.int .i64 ((pk,pl):Int×Last).1,.int .i64 ((pk,pl):Int×Last).2.seq,.int .i64 ((pk,pl):Int×Last).2.r.err,.int .u64 (((pk,pl):Int×Last).2.r.blob:Int),.int .i64 ((pk,pl):Int×Last).2.r.size,.int .u32 (((pk,pl):Int×Last).2.r.sum:Int),.slice nA pl.r.names.length nc] 123);clear hf hp
   go_upto_region 4 with fail
   clear r0 r1 r2 r3 r4 r5 r6;have hyx:x+1≠wr.heap.size:=fun e=>by have:=hQ.lt;omega
   generalize wr.heap.size=y at hY hyx⊢;generalize wr.alloc _=W1 at hY hEy⊢;have hS1:=hS.ext hEy;have hQ1:=hQ.ext hEy;have hE1:=hE.trans hEy;have hno1:=own_kx hno hEy;clear hS hQ hE hEy hno;have y0:=hY.cell 0;simp at y0
   by_cases hc:pk=client
   ·have hcb:(pk == client)=true:=by simp[hc]
    have hg:(mfind client DM).map (fun p=>p.1.2)=some pl:=by
     have:=HF.out
     rw[if_pos hc]at this;rw[this];rfl
    have HG:=Hh hg;clear hg hc HF
    go_upto_region 5 with fail
    have HRY:=Hh hY.range;have HTQ:Hid (W1.there (x+1) 0 7):=Hh hQ1.there;have hZ:=At.cells_all hQ1 (cs:=#[.int .i64 ((pk,pl):Int×Last).1,.int .i64 ((pk,pl):Int×Last).2.seq,.int .i64 ((pk,pl):Int×Last).2.r.err,.int .u64 (((pk,pl):Int×Last).2.r.blob:Int),.int .i64 ((pk,pl):Int×Last).2.r.size,.int .u32 (((pk,pl):Int×Last).2.r.sum:Int),.slice nA pl.r.names.length nc]) rfl;have HLD:=Hh (memo_load hZ rfl);have HF:Hid (FnOut w pl (.returned (.tuple #[.agg #[.int .i64 ((pk,pl):Int×Last).1,.int .i64 ((pk,pl):Int×Last).2.seq,.int .i64 ((pk,pl):Int×Last).2.r.err,.int .u64 (((pk,pl):Int×Last).2.r.blob:Int),.int .i64 ((pk,pl):Int×Last).2.r.size,.int .u32 (((pk,pl):Int×Last).2.r.sum:Int),.slice nA pl.r.names.length nc],.bool true])) (W1.setCells (x+1) 0 (#[.int .i64 ((pk,pl):Int×Last).1,.int .i64 ((pk,pl):Int×Last).2.seq,.int .i64 ((pk,pl):Int×Last).2.r.err,.int .u64 (((pk,pl):Int×Last).2.r.blob:Int),.int .i64 ((pk,pl):Int×Last).2.r.size,.int .u32 (((pk,pl):Int×Last).2.r.sum:Int),.slice nA pl.r.names.length nc]:Array Value).toList)):=Hh ⟨pk,nA,nc,true,rfl,qQa hno1 (qQg _ _) (fun b hb e=>qQb hno1 hQ1 (by decide) b hb e),hE1.setCells (by omega) _ _⟩;clear hY hQ1 hE1 hno1 hS1 y0 hZ
    go_wp2_with (first|(refine wpList_load_mid rfl 123 _ rfl y 0 rfl _ _ HRY.out underlying123 rfl qXX ?_)|(refine wpList_store_mid rfl 123 _ _ rfl (x+1) 0 #[.int .i64 ((pk,pl):Int×Last).1,.int .i64 ((pk,pl):Int×Last).2.seq,.int .i64 ((pk,pl):Int×Last).2.r.err,.int .u64 (((pk,pl):Int×Last).2.r.blob:Int),.int .i64 ((pk,pl):Int×Last).2.r.size,.int .u32 (((pk,pl):Int×Last).2.r.sum:Int),.slice nA pl.r.names.length nc] rfl rfl HTQ.out qXX (by simp[Value.oneCell']) ?_))
    refine bodyPost_ret (v:=.tuple #[.agg #[.int .i64 ((pk,pl):Int×Last).1,.int .i64 ((pk,pl):Int×Last).2.seq,.int .i64 ((pk,pl):Int×Last).2.r.err,.int .u64 (((pk,pl):Int×Last).2.r.blob:Int),.int .i64 ((pk,pl):Int×Last).2.r.size,.int .u32 (((pk,pl):Int×Last).2.r.sum:Int),.slice nA pl.r.names.length nc],.bool true]) (qQA results55 _ rfl HLD.out) rfl ?_;rw[HG.out];exact HF.out
   ·have hcb:(pk == client)=false:=by simp[hc]
    have hf2:mfind client DM=mfind client (DM.drop (k+1)):=by
     have:=HF.out
     rwa[if_neg hc]at this
    have HF2:=Hh hf2;clear hf2 hc HF;go_wp2_with fail
    go_roundw
    case rel=>exact⟨k+1,by go_num,by omega,HF2.out,hS1,hQ1,hE1⟩
    case measure=>simp[intOf];omega
  ·obtain rfl:k=DM.length:=by omega
   have hg:(mfind client DM).map (fun p=>p.1.2)=none:=by
    rw[hf,List.drop_length];rfl
   have HG:=Hh hg;clear hS hg hf
   go_upto_region 7 with fail
   have HTQ:Hid (wr.there (x+1) 0 7):=Hh hQ.there;have hZ:=At.cells_all hQ (cs:=#[.int .i64 0,.int .i64 0,.int .i64 0,.int .u64 0,.int .i64 0,.int .u32 0,.slice none 0 0]) rfl;have HLD:=Hh (memo_load hZ rfl);have HF:Hid (FnOut w Last.zero (.returned (.tuple #[.agg #[.int .i64 0,.int .i64 0,.int .i64 0,.int .u64 0,.int .i64 0,.int .u32 0,.slice none 0 0],.bool false])) (wr.setCells (x+1) 0 (#[.int .i64 0,.int .i64 0,.int .i64 0,.int .u64 0,.int .i64 0,.int .u32 0,.slice none 0 0]:Array Value).toList)):=Hh ⟨0,none,0,false,rfl,qQx _ _ _,hE.setCells (by omega) _ _⟩;clear hQ hE hZ
   go_wp2_with (refine wpList_store_mid rfl 123 _ _ rfl (x+1) 0 #[.int .i64 0,.int .i64 0,.int .i64 0,.int .u64 0,.int .i64 0,.int .u32 0,.slice none 0 0] rfl rfl HTQ.out qXX (by simp[Value.oneCell']) ?_)
   refine bodyPost_ret (v:=.tuple #[.agg #[.int .i64 0,.int .i64 0,.int .i64 0,.int .u64 0,.int .i64 0,.int .u32 0,.slice none 0 0],.bool false]) (qQA results55 _ rfl HLD.out) rfl ?_;rw[HG.out];exact HF.out
structure SetSt (w0 w:World) (x:Nat) (X bx ZC:Array Value) (ov:Value) (O:List Memo):Prop where
 own:w.ownsRow (x+3) 123 7 ov O.length ((O.map qJR).flatten)
 a:At w x 62 X
 b:At w (x+1) 123 bx
 c:At w (x+2) 62 ZC
 ext:Ext w0 w
 new:w0.heap.size≤x
section
variable{w0 w w':World}{x:Nat}{X bx ZC:Array Value}{ov v':Value}{O:List Memo}
theorem SetSt.on(h:SetSt w0 w x X bx ZC ov O)(hE:Ext w w'):SetSt w0 w' x X bx ZC ov O:=⟨own_kx h.own hE,h.a.ext hE,h.b.ext hE,h.c.ext hE,h.ext.trans hE,h.new⟩
theorem SetSt.app(h:SetSt w0 w x X bx ZC ov O)(q:Memo)(h1:w'.ownsRow (x+3) 123 7 v' (O.length+1) ((O.map qJR).flatten++(mmCells q).toList))(h2:Chg (fun k=>some k=ov.ownBlock) w w'):SetSt w0 w' x X bx ZC v' (O++[q]):=by
 refine⟨?_,h.a.chg h2 (fun e=>qQb h.own h.a (by decide) _ e rfl),h.b.chg h2 (fun e=>?_),h.c.chg h2 (fun e=>qQb h.own h.c (by decide) _ e rfl),Chg.own_ext h.ext h2 h.own (by have:=h.new;omega),h.new⟩
 ·rw[List.length_append,List.map_append,List.flatten_append];simpa[qJR,mmCells]using h1
 ·have:=qJD h.own _ e
  omega
end
theorem rm_out{w w':World}{mv:Value}{DM RR:List Memo}{xr:Memo}{base:Nat}{ov:Value}(h:MmRows w mv DM)(hE:Ext w w')(hx:w.ownsRow 0 9 1 xr.2 xr.1.2.r.names.length (xr.1.2.r.names.map Value.string))(hs:∀q∈RR,q∈DM∨q=xr)(hO:w'.ownsRow base 123 7 ov RR.length ((RR.map qJR).flatten)):MmRows w' ov RR:=by
 refine⟨qQR hO,fun p hp=>?_⟩
 rcases hs p hp with h1|h1
 ·exact(h.ext hE).nms p h1
 ·rw[h1];exact own_kx hx hE
theorem iput_cl{DM:List Memo}{cl:List (Int×Last)}(hp:(DM.map (·.1)).Perm cl)(xr:Memo):((iput qJN xr DM).map (·.1)).Perm (xr.1::qZy xr.1.1 cl):=by
 refine((iput_perm qJN xr DM).map (·.1)).trans ?_
 rw[List.map_cons];refine List.Perm.cons _ ?_;unfold qZy;refine List.Perm.trans ?_ (hp.filter _);rw[List.filter_map];exact List.Perm.of_eq rfl
def RmRet(w:World)(M:Mach)(e:Ending)(w':World):Prop:=∃v,e=.returned v∧qXY w' v M∧Ext w w'
theorem rmset_any(w:World)(v:Value)(M:Mach)(h:qXY w v M)(k0:Int)(l0:Last)(A0:Option Addr)(c0:Nat)(hx0:w.ownsRow 0 9 1 (.slice A0 l0.r.names.length c0) l0.r.names.length (l0.r.names.map Value.string))(hl:M.cl.length≤1000000) :
 Calls prog 56 #[v,.agg #[.int .i64 ((k0,l0):Int×Last).1,.int .i64 ((k0,l0):Int×Last).2.seq,.int .i64 ((k0,l0):Int×Last).2.r.err,.int .u64 (((k0,l0):Int×Last).2.r.blob:Int),.int .i64 ((k0,l0):Int×Last).2.r.size,.int .u32 (((k0,l0):Int×Last).2.r.sum:Int),.slice A0 l0.r.names.length c0]] w (RmRet w { M with cl:=(k0,l0)::qZy k0 M.cl }):=by
 obtain⟨C,mv,DM,rfl,h37,hone,hRf,hMm,hperm,hasc⟩:=h;have hlen:DM.length≤1000000:=by have:=hperm.length_eq;rw[List.length_map]at this;omega
 obtain⟨A,c,rfl⟩:=qQc hMm.own;have hX:=mArr_37 h37 (.slice A DM.length c) M.n;have HSET:=Hh (fun mv'=>mArr_set37 h37 (.slice A DM.length c) mv' M.n);have HS39:=Hh (fun mv'=>qQ6 h37 mv' M.n);have HONE:=Hh (fun A' k' c'=>qXx hone A' k' c' M.n);obtain⟨xr,hxr⟩:∃xr:Memo,xr=((k0,l0),.slice A0 l0.r.names.length c0):=⟨_,rfl⟩;have HXR:=Hh hxr
 have HIN:Hid (∀(w':World) (ov:Value) (RR:List Memo),Ext w w'→RR=iput qJN xr DM→w'.ownsRow (w.heap.size+3) 123 7 ov RR.length ((RR.map qJR).flatten)→qXY w' (.agg (qZx C ov M.n)) { M with cl:=(k0,l0)::qZy k0 M.cl }):=Hh (by
  intro w' ov RR hE hRR hO;subst hRR;refine⟨C,ov,_,rfl,h37,hone,hRf.ext hE,rm_out hMm hE (by rw[hxr];exact hx0) (iput_mem qJN xr DM) hO,?_,iput_asc qJN xr hasc⟩
  have:=iput_cl hperm xr
  rw[hxr]at this⊢;exact this)
 have HFOLD:Hid (ifin xr (DM.foldl (ist qJN xr) ([],false))=iput qJN xr DM):=Hh (by rw[ist_all qJN xr DM [] hasc,List.nil_append]);generalize hXe:qZx C (.slice A DM.length c) M.n=X at hX HSET⊢;have HX39:Hid (X.size=39):=Hh (by rw[←hXe];exact qQ6 h37 _ _);clear hXe;have HMM:=Hh hMm;clear h37 hone hRf hperm hasc hx0
 go_enter func56,ntmps56
 have hB:=((At.new w 62 X).alloc (.cells #[.int .i64 ((k0,l0):Int×Last).1,.int .i64 ((k0,l0):Int×Last).2.seq,.int .i64 ((k0,l0):Int×Last).2.r.err,.int .u64 (((k0,l0):Int×Last).2.r.blob:Int),.int .i64 ((k0,l0):Int×Last).2.r.size,.int .u32 (((k0,l0):Int×Last).2.r.sum:Int),.slice A0 l0.r.names.length c0] 123)).alloc (.cells zZM 62);have hQ:=(At.new (w.alloc (.cells X 62)) 123 #[.int .i64 ((k0,l0):Int×Last).1,.int .i64 ((k0,l0):Int×Last).2.seq,.int .i64 ((k0,l0):Int×Last).2.r.err,.int .u64 (((k0,l0):Int×Last).2.r.blob:Int),.int .i64 ((k0,l0):Int×Last).2.r.size,.int .u32 (((k0,l0):Int×Last).2.r.sum:Int),.slice A0 l0.r.names.length c0]).alloc (.cells zZM 62);have hC:=At.new ((w.alloc (.cells X 62)).alloc (.cells #[.int .i64 ((k0,l0):Int×Last).1,.int .i64 ((k0,l0):Int×Last).2.seq,.int .i64 ((k0,l0):Int×Last).2.r.err,.int .u64 (((k0,l0):Int×Last).2.r.blob:Int),.int .i64 ((k0,l0):Int×Last).2.r.size,.int .u32 (((k0,l0):Int×Last).2.r.sum:Int),.slice A0 l0.r.names.length c0] 123)) 62 zZM;rw[show(w.alloc (.cells X 62)).heap.size=w.heap.size+1 by simp]at hQ;rw[show((w.alloc (.cells X 62)).alloc (.cells #[.int .i64 ((k0,l0):Int×Last).1,.int .i64 ((k0,l0):Int×Last).2.seq,.int .i64 ((k0,l0):Int×Last).2.r.err,.int .u64 (((k0,l0):Int×Last).2.r.blob:Int),.int .i64 ((k0,l0):Int×Last).2.r.size,.int .u32 (((k0,l0):Int×Last).2.r.sum:Int),.slice A0 l0.r.names.length c0] 123)).heap.size=w.heap.size+2 by simp]at hC;have hE:=(((Er w).alloc (.cells X 62)).alloc (.cells #[.int .i64 ((k0,l0):Int×Last).1,.int .i64 ((k0,l0):Int×Last).2.seq,.int .i64 ((k0,l0):Int×Last).2.r.err,.int .u64 (((k0,l0):Int×Last).2.r.blob:Int),.int .i64 ((k0,l0):Int×Last).2.r.size,.int .u32 (((k0,l0):Int×Last).2.r.sum:Int),.slice A0 l0.r.names.length c0] 123)).alloc (.cells zZM 62)
 go_upto_region 1 with fail
 obtain⟨x,hx⟩:∃x,w.heap.size=x:=⟨_,rfl⟩;rw[hx]at hB hQ hC⊢;have hxw:w.heap.size≤x:=by omega
 have HXW:Hid (x=w.heap.size):=Hh hx.symm;clear hx;generalize ((w.alloc _).alloc _).alloc _=W at hB hQ hC hE⊢;have HZ:Hid (zZM.size=39):=Hh rfl;generalize zZM=ZC at hC HZ;have hW:x+3≤W.heap.size:=by have:=hC.lt;omega
 have hOb:=qXn (w:=W) (base:=x+3) (e:=123) (size:=7) hW;have hE1:=(Er W).alloc (.cells #[] 123);have h0:SetSt w (W.alloc (.cells #[] 123)) x X #[.int .i64 ((k0,l0):Int×Last).1,.int .i64 ((k0,l0):Int×Last).2.seq,.int .i64 ((k0,l0):Int×Last).2.r.err,.int .u64 (((k0,l0):Int×Last).2.r.blob:Int),.int .i64 ((k0,l0):Int×Last).2.r.size,.int .u32 (((k0,l0):Int×Last).2.r.sum:Int),.slice A0 l0.r.names.length c0] ZC (.slice (some ⟨W.heap.size,0,none⟩) 0 0) []:=⟨hOb,hB.ext hE1,hQ.ext hE1,hC.ext hE1,hE.trans hE1,hxw⟩
 go_upto_region 2 with fail
 generalize Value.slice (some ⟨W.heap.size,0,none⟩) 0 0=ov0 at h0⊢;generalize W.alloc _=W1 at h0⊢;clear hB hQ hC hE hE1 hOb hW hxr;have c37:=h0.a.cell 37;rw[hX]at c37;have HX37:=Hh hX;clear hX
 go_upto_region 4 with fail
 clear c37
 go_loopw [5,6,13] (fun ov bv kv wr=>∃(k:Nat) (O:List Memo) (d:Bool),kv=.int .i64 (k:Int)∧bv=.bool d∧k≤DM.length∧O.length≤2 * k∧Hid ((DM.take k).foldl (ist qJN xr) ([],false)=(O,d))∧SetSt w wr x X #[.int .i64 ((k0,l0):Int×Last).1,.int .i64 ((k0,l0):Int×Last).2.seq,.int .i64 ((k0,l0):Int×Last).2.r.err,.int .u64 (((k0,l0):Int×Last).2.r.blob:Int),.int .i64 ((k0,l0):Int×Last).2.r.size,.int .u32 (((k0,l0):Int×Last).2.r.sum:Int),.slice A0 l0.r.names.length c0] ZC ov O) (fun _ _ kv _=>DM.length - (intOf kv).toNat)
 case atStart=>exact⟨0,[],false,rfl,rfl,Nat.zero_le _,Nat.le_refl _,Hh rfl,h0⟩
 case round =>
  clear h0;obtain⟨k,O,d,rfl,rfl,hk,hOl,HFD,h0⟩:=hrel;obtain⟨oA,oc,rfl⟩:=qQc h0.own
  by_cases hlt:k<DM.length
  ·obtain⟨p,hp⟩:∃p,DM[k]? = some p:=⟨_,List.getElem?_eq_getElem hlt⟩;have hno:=(HMM.out.ext h0.ext).nms p (List.mem_of_getElem? hp);have hS:=HMM.out.sln.ext h0.ext;obtain⟨⟨pk,pl⟩,pv⟩:=p;simp only at hno;obtain⟨nA,nc,rfl⟩:=qQc hno
   obtain⟨rb,ro,rfl⟩:=qQW hS (fun e=>by
    have h0:=List.map_eq_nil_iff.1 e;rw[h0]at hp;simp at hp)
   obtain⟨r0,r1,r2,r3,r4,r5,r6⟩:=mm_cells hS hp;simp only at r0 r1 r2 r3 r4 r5 r6;have hY:=At.new wr 123 #[.int .i64 ((pk,pl):Int×Last).1,.int .i64 ((pk,pl):Int×Last).2.seq,.int .i64 ((pk,pl):Int×Last).2.r.err,.int .u64 (((pk,pl):Int×Last).2.r.blob:Int),.int .i64 ((pk,pl):Int×Last).2.r.size,.int .u32 (((pk,pl):Int×Last).2.r.sum:Int),.slice nA pl.r.names.length nc];have hEy:=(Er wr).alloc (.cells #[.int .i64 ((pk,pl):Int×Last).1,.int .i64 ((pk,pl):Int×Last).2.seq,.int .i64 ((pk,pl):Int×Last).2.r.err,.int .u64 (((pk,pl):Int×Last).2.r.blob:Int),.int .i64 ((pk,pl):Int×Last).2.r.size,.int .u32 (((pk,pl):Int×Last).2.r.sum:Int),.slice nA pl.r.names.length nc] 123);have HST:Hid ((DM.take (k+1)).foldl (ist qJN xr) ([],false)=ist qJN xr (O,d) ((pk,pl),.slice nA pl.r.names.length nc)):=Hh (by rw[fold_take hp,HFD.out])
   have hoy:∀k',some k'=(Value.slice oA O.length oc).ownBlock→k'≠wr.heap.size:=fun k' hk' e=>by
    have:=(h0.own.lt k' hk'.symm).2
    omega
   clear hS hp hno HFD
   go_upto_region 6 with fail
   clear r0 r1 r2 r3 r4 r5 r6;have h1:=h0.on hEy;have HOY:=Hh hoy;generalize wr.heap.size=y at hY HOY⊢;generalize wr.alloc _=W2 at hY h1⊢;clear h0 hEy hoy;have y0:=hY.cell 0;have y1:=hY.cell 1;have y2:=hY.cell 2;have y3:=hY.cell 3;have y4:=hY.cell 4;have y5:=hY.cell 5;have y6:=hY.cell 6;simp at y0 y1 y2 y3 y4 y5 y6;have q0:=h1.b.cell 0;have q1:=h1.b.cell 1;have q2:=h1.b.cell 2;have q3:=h1.b.cell 3;have q4:=h1.b.cell 4;have q5:=h1.b.cell 5;have q6:=h1.b.cell 6;simp at q0 q1 q2 q3 q4 q5 q6;have hkx:qJN xr=k0:=by rw[HXR.out];rfl
   have HKX:=Hh hkx;have hks:2 * DM.length≤2000000:=by omega
   clear hkx
   by_cases hc:pk=k0
   ·have hcb:(pk == k0)=true:=by simp[hc]
    have e:ist qJN xr (O,d) ((pk,pl),.slice nA pl.r.names.length nc)=(O,d):=by
     unfold ist;rw[if_pos (by rw[HKX.out];exact hc)]
    have HN:=Hh (HST.out.trans e);clear e hY HST hc HOY;go_wp2_with fail
    go_roundw
    case rel=>exact⟨k+1,O,d,by go_num,rfl,by omega,by omega,HN,h1⟩
    case measure=>simp[intOf];omega
   ·have hcb:(pk == k0)=false:=by simp[hc]
    cases d
    ·by_cases hlt2:k0<pk
     ·have e:ist qJN xr (O,false) ((pk,pl),.slice nA pl.r.names.length nc)=(O++[xr,((pk,pl),.slice nA pl.r.names.length nc)],true):=by
       unfold ist;rw[if_neg (by rw[HKX.out];exact hc),if_pos (by rw[HKX.out];show(!false&&decide (k0<pk))=true;simpa using hlt2)]
      have HN:=Hh (HST.out.trans e);clear e HST hc
      go_wp2_with (at_builtin;refine qQn _ h1.own 60 underlying60 qXO rfl rfl (by decide) (by decide) rfl (by omega) (by have:=h1.c.lt;omega) rfl _ _ rfl rfl rfl ?_)
      intro v1 w3 hO3 hC3;have h3:=h1.app ((k0,l0),.slice A0 l0.r.names.length c0) hO3 hC3;have hY3:=hY.chg hC3 (fun e=>HOY.out _ e rfl);clear hO3 hC3 h1 hY HOY y0 q0 y1 q1 y2 q2 y3 q3 y4 q4 y5 q5 y6 q6;obtain⟨vA,vc,rfl⟩:=qQc h3.own;have y0:=hY3.cell 0;have y1:=hY3.cell 1;have y2:=hY3.cell 2;have y3:=hY3.cell 3;have y4:=hY3.cell 4;have y5:=hY3.cell 5;have y6:=hY3.cell 6;simp at y0 y1 y2 y3 y4 y5 y6;clear hY3
      go_wp2_with (at_builtin;refine qQn _ h3.own 60 underlying60 qXO rfl rfl (by decide) (by decide) rfl (by simp;omega) (by have:=h3.c.lt;omega) rfl _ _ rfl rfl rfl ?_)
      intro v2 w4 hO4 hC4;have h4:=h3.app ((pk,pl),.slice nA pl.r.names.length nc) (by simpa[mmCells]using hO4) (by simpa using hC4);clear hO4 hC4 h3 y0 y1 y2 y3 y4 y5 y6;obtain⟨uA,uc,rfl⟩:=qQc h4.own;rw[←HXR.out]at h4;go_wp2_with fail
      go_roundw
      case rel=>exact⟨k+1,O++[xr,((pk,pl),.slice nA pl.r.names.length nc)],true,by go_num,rfl,by omega,by simp;omega,HN,by simpa using h4⟩
      case measure=>simp[intOf];omega
     ·have e:ist qJN xr (O,false) ((pk,pl),.slice nA pl.r.names.length nc)=(O++[((pk,pl),.slice nA pl.r.names.length nc)],false):=by
       unfold ist;rw[if_neg (by rw[HKX.out];exact hc),if_neg (by rw[HKX.out];show ¬ ((!false&&decide (k0<pk))=true);simpa using hlt2)]
      have HN:=Hh (HST.out.trans e);clear e HST hc
      go_wp2_with (at_builtin;refine qQn _ h1.own 60 underlying60 qXO rfl rfl (by decide) (by decide) rfl (by omega) (by have:=h1.c.lt;omega) rfl _ _ rfl rfl rfl ?_)
      intro v1 w3 hO3 hC3;have h3:=h1.app ((pk,pl),.slice nA pl.r.names.length nc) hO3 hC3;clear hO3 hC3 h1 hY HOY y0 q0 y1 q1 y2 q2 y3 q3 y4 q4 y5 q5 y6 q6;obtain⟨vA,vc,rfl⟩:=qQc h3.own;go_wp2_with fail
      go_roundw
      case rel=>exact⟨k+1,_,false,by go_num,rfl,by omega,by simp;omega,HN,h3⟩
      case measure=>simp[intOf];omega
    ·have e:ist qJN xr (O,true) ((pk,pl),.slice nA pl.r.names.length nc)=(O++[((pk,pl),.slice nA pl.r.names.length nc)],true):=by
      unfold ist;rw[if_neg (by rw[HKX.out];exact hc),if_neg (by simp)]
     have HN:=Hh (HST.out.trans e);clear e HST hc
     go_wp2_with (at_builtin;refine qQn _ h1.own 60 underlying60 qXO rfl rfl (by decide) (by decide) rfl (by omega) (by have:=h1.c.lt;omega) rfl _ _ rfl rfl rfl ?_)
     intro v1 w3 hO3 hC3;have h3:=h1.app ((pk,pl),.slice nA pl.r.names.length nc) hO3 hC3;clear hO3 hC3 h1 hY HOY y0 q0 y1 q1 y2 q2 y3 q3 y4 q4 y5 q5 y6 q6;obtain⟨vA,vc,rfl⟩:=qQc h3.own;go_wp2_with fail
     go_roundw
     case rel=>exact⟨k+1,_,true,by go_num,rfl,by omega,by simp;omega,HN,h3⟩
     case measure=>simp[intOf];omega
  ·obtain rfl:k=DM.length:=by omega
   have hfd:=HFD.out;rw[List.take_length]at hfd;have HR0:Hid (ifin xr (O,d)=iput qJN xr DM):=Hh (by rw[←hfd];exact HFOLD.out);have hks:2 * DM.length≤2000000:=by omega
   clear hfd HFD HFOLD;obtain⟨RR,hRR⟩:∃RR,ifin xr (O,d)=RR:=⟨_,rfl⟩;have HRR:=Hh hRR;have HR1:Hid (RR=iput qJN xr DM):=Hh (hRR.symm.trans HR0.out);clear hRR
   go_upto_if 41 with fail
   go_cut [5]from 40 to 45 (fun ov wx=>SetSt w wx x X #[.int .i64 ((k0,l0):Int×Last).1,.int .i64 ((k0,l0):Int×Last).2.seq,.int .i64 ((k0,l0):Int×Last).2.r.err,.int .u64 (((k0,l0):Int×Last).2.r.blob:Int),.int .i64 ((k0,l0):Int×Last).2.r.size,.int .u32 (((k0,l0):Int×Last).2.r.sum:Int),.slice A0 l0.r.names.length c0] ZC ov RR)
   case first =>
    cases d
    ·have e:O++[xr]=RR:=HRR.out;have q0:=h0.b.cell 0;have q1:=h0.b.cell 1;have q2:=h0.b.cell 2;have q3:=h0.b.cell 3;have q4:=h0.b.cell 4;have q5:=h0.b.cell 5;have q6:=h0.b.cell 6;simp at q0 q1 q2 q3 q4 q5 q6
     go_wp2_with (at_builtin;refine qQn _ h0.own 60 underlying60 qXO rfl rfl (by decide) (by decide) rfl (by omega) (by have:=h0.c.lt;omega) rfl _ _ rfl rfl rfl ?_)
     intro v1 w3 hO3 hC3;have h3:=h0.app ((k0,l0),.slice A0 l0.r.names.length c0) hO3 hC3;rw[←HXR.out,e]at h3;have H3:=Hh h3;clear hO3 hC3 h0 h3 e q0 q1 q2 q3 q4 q5 q6;go_wp2_with fail
     go_meet
     case rel=>exact H3.out
    ·have e:O=RR:=HRR.out;rw[e]at h0;go_wp2_with fail
     go_meet
     case rel=>exact h0
   case rest =>
    clear h0;have h0:=hcut;clear hcut;obtain⟨uA,uc,hu⟩:=qQc h0.own;subst hu;have c37:=h0.a.cell 37;have f37:=h0.a.frozen 37;rw[HX37.out]at c37
    go_upto_region 15 with fail
    have hA2:=h0.a.set 37 (.slice uA RR.length uc);rw[HSET.out]at hA2;have hch:Chg (· = x) wc (wc.setCell ⟨x,37,none⟩ (.slice uA RR.length uc)):=Chg.setCell (S:=(· = x)) (p:=⟨x,37,none⟩) (Er wc).chg (.inl rfl) _;have hC2:=h0.c.chg hch (by omega);have hO2:=qQa h0.own hch (fun b hb e=>qQb h0.own h0.a (by decide) b hb e);have hE2:Ext w (wc.setCell ⟨x,37,none⟩ (.slice uA RR.length uc)):=h0.ext.setCell (p:=⟨x,37,none⟩) h0.new _;generalize wc.setCell _ _=W2 at hA2 hC2 hO2 hE2⊢;have hS2:=HS39.out (.slice uA RR.length uc);have hone2:=HONE.out uA RR.length uc
    have HF:Hid (RmRet w { M with cl:=(k0,l0)::qZy k0 M.cl } (.returned (.agg (qZx C (.slice uA RR.length uc) M.n))) (W2.setCells (x+2) 0 (qZx C (.slice uA RR.length uc) M.n).toList)):=Hh (by
     have hEF:Ext w (W2.setCells (x+2) 0 (qZx C (.slice uA RR.length uc) M.n).toList):=hE2.setCells (by have:=h0.new;omega) _ _;have hOF:=qQa hO2 (qQg (w:=W2) (b:=x+2) (qZx C (.slice uA RR.length uc) M.n).toList 0) (fun b hb e=>qQb hO2 hC2 (by decide) b hb e);exact⟨_,rfl,HIN.out _ _ RR hEF HR1.out (HXW.out ▸ hOF),hEF⟩)
    generalize qZx C (.slice uA RR.length uc) M.n=X2 at hA2 hS2 hone2 HF⊢;have HRG:=Hh hA2.range;have HI1:Hid ((prog.info? 62).map (·.size)=some X2.toList.length):=Hh (by rw[Array.length_toList,hS2];exact qQU);have HI2:Hid ((prog.info? 62).map (·.size)=some X2.size):=Hh (by rw[hS2];exact qQU);have HTH:Hid (W2.there (x+2) 0 X2.size):=Hh (by rw[hS2];have h:=hC2.there;rw[HZ.out]at h;exact h);have HONE2:=Hh hone2
    have HLD:Hid ((loadVar 62 ⟨x+2,0,none⟩).run prog (W2.setCells (x+2) 0 X2.toList)=.ok (.agg X2) (W2.setCells (x+2) 0 X2.toList)):=Hh (by
     have:=run_loadVar_mid (P:=prog) (W2.setCells (x+2) 0 X2.toList) (x+2) 0 62 X2.toList _ (World.rangeAt_setCells_same W2 (x+2) 0 X2.toList (by rw[Array.length_toList];exact HTH.out)) underlying62 rfl HI1.out
     exact this)
    clear hA2 hC2 hO2 hE2 hS2 hone2 hch h0 c37 f37
    go_wp2_with (first|(refine wpList_load_mid rfl 62 _ rfl x 0 rfl _ _ HRG.out underlying62 rfl HI1.out ?_)|(refine wpList_store_mid rfl 62 _ _ rfl (x+2) 0 X2 rfl rfl HTH.out HI2.out HONE2.out ?_))
    have hld:=HLD.out;refine bodyPost_ret (v:=.agg X2) (qQJ results56 _ rfl hld) rfl ?_;exact HF.out
open Go.RowKit
def qQM(w:World)(b:Nat)(s:ByteArray)(d:Dc):Prop :=
 s.size≤140737488355328∧0≤d.err∧d.err≤17∧∃at_:Nat,at_+d.rest.length=s.size∧s.data.toList.drop at_=d.rest∧At w b 142 #[.string s,.int .i64 at_,.int .i64 d.err]
section
variable{w w':World}{b:Nat}{s:ByteArray}{d:Dc}
theorem qQM.drewN(h:qQM w b s d)(n:Nat):qQM (w.drewN n) b s d:=h
theorem qQM.alloc(h:qQM w b s d)(o:Obj):qQM (w.alloc o) b s d:=by
 obtain⟨h1,h2,h3,k,h4,h5,h6⟩:=h;exact⟨h1,h2,h3,k,h4,h5,h6.alloc o⟩
theorem qQM.chg{S:Nat→Prop}(h:qQM w b s d)(hc:Chg S w w')(hn:¬ S b):qQM w' b s d:=by
 obtain⟨h1,h2,h3,k,h4,h5,h6⟩:=h;exact⟨h1,h2,h3,k,h4,h5,h6.chg hc hn⟩
theorem qQM.lt(h:qQM w b s d):b<w.heap.size:=by
 obtain⟨h1,h2,h3,k,h4,h5,h6⟩:=h;exact h6.lt
end
def qXg(w w':World)(b:Nat)(s:ByteArray)(d:Dc):Prop:=Chg (· = b) w w'∧qQM w' b s d
theorem dleft_any(w:World)(b:Nat)(s:ByteArray)(d:Dc)(h:qQM w b s d) :
 Calls prog 71 #[.pointer (some ⟨b,0,none⟩)] w fun e w'=>e=.returned (.int .i64 d.rest.length)∧∃n,w'=w.drewN n:=by
 obtain⟨h1,h2,h3,k,h4,h5,h6⟩:=h;have c0:=h6.cell 0;have c1:=h6.cell 1;simp at c0 c1
 go_enter func71,ntmps71
 go_wp2
 go_quiet (fail)
 go_wp2
 go_ret
 exact⟨ret_i64 (by omega),_,rfl⟩
theorem qQ7(w:World)(b:Nat)(s:ByteArray)(d:Dc)(h:qQM w b s d)(x:Int)(hx:0≤x∧x≤17) :
 Calls prog 39 #[.pointer (some ⟨b,0,none⟩),.int .i64 x] w fun e w'=>e=.returned (.tuple #[])∧qXg w w' b s (d.fail x):=by
 obtain⟨h1,h2,h3,k,h4,h5,h6⟩:=h;have c2:=h6.cell 2;have f2:=h6.frozen 2;simp at c2
 by_cases he:d.err=0
 ·have hd:(d.err == 0)=true:=by simpa using he
  have hset:=h6.set 2 (.int .i64 x);have H:=Hh he;clear he
  go_enter func39,ntmps39
  go_wp2
  go_end0
  refine⟨rfl,(Chg.refl (· = b) _).setCell (.inl rfl) _,?_⟩
  unfold Dc.fail;rw[if_pos H.out];exact⟨h1,hx.1,hx.2,k,h4,h5,by simpa using hset⟩
 ·have hd:(d.err == 0)=false:=by simpa using he
  go_enter func39,ntmps39
  go_wp2
  go_end0
  refine⟨rfl,Chg.refl _ _,?_⟩
  unfold Dc.fail;rw[if_neg he];exact⟨h1,h2,h3,k,h4,h5,h6⟩
theorem dnext_any(w:World)(b:Nat)(s:ByteArray)(d:Dc)(h:qQM w b s d) :
 Calls prog 72 #[.pointer (some ⟨b,0,none⟩)] w fun e w'=>e=.returned (.tuple #[.int .u8 ((d.next.1.getD 0).toNat:Int),.bool d.next.1.isSome])∧qXg w w' b s d.next.2:=by
 obtain⟨rest,err⟩:=d;obtain⟨h1,h2,h3,k,h4,h5,h6⟩:=h;simp only at h2 h3 h4 h5 h6;have c0:=h6.cell 0;have c1:=h6.cell 1;have c2:=h6.cell 2;have f1:=h6.frozen 1;have f2:=h6.frozen 2;simp at c0 c1 c2
 by_cases he:err=0
 ·subst he;cases rest with
  | nil =>
   have hk:k=s.size:=by simpa using h4
   have g1:decide (s.size≤k)=true:=by simp;omega
   have H5:=Hh h5;have H4:=Hh h4;have hk1:s.size≤k:=by omega
   clear hk h5 h4
   go_enter func72,ntmps72
   go_wp2
   go_quiet (fail)
   go_wp2
   go_ret2
   exact⟨rfl,((Chg.refl (· = b) _).drewN _).setCell (.inl rfl) _,h1,by decide,by decide,k,H4.out,H5.out,(h6.drewN _).set 2 _⟩
  | cons c r =>
   have hk:k<s.size:=by simp at h4;omega
   have hc:s[k]=c:=by
    have e:s.data.toList[k]? = some c:=by
     have:=congrArg (·[0]?) h5
     simpa[List.getElem?_drop]using this
    have e2:s.data.toList[k]? = some s[k]:=by
     rw[List.getElem?_eq_getElem (by simpa using hk)];rfl
    rw[e2]at e;injection e
   have hr:s.data.toList.drop (k+1)=r:=by
    have:=congrArg (List.drop 1) h5
    simpa[List.drop_drop,Nat.add_comm]using this
   have h4':(k+1)+r.length=s.size:=by simp at h4;omega
   have hfin:Dc.next ⟨c::r,0⟩=(some c,⟨r,0⟩):=rfl;have g1:decide (s.size≤k)=false:=by simp;omega
   have HC:=Hh hc;have HR:=Hh hr;have H4:=Hh h4';have HF:=Hh hfin;clear h5 h4 hc hr h4' hfin
   go_enter func72,ntmps72
   go_wp2
   go_quiet (fail)
   go_wp2
   have hB:At ((w.drewN nq).setCell ⟨b,1,none⟩ (.int .i64 ((k:Int)+1))) b 142 #[.string s,.int .i64 ((k:Int)+1),.int .i64 0]:=(h6.drewN _).set 1 _;have hC:Chg (· = b) w ((w.drewN nq).setCell ⟨b,1,none⟩ (.int .i64 ((k:Int)+1))):=((Chg.refl (· = b) _).drewN _).setCell (.inl rfl) _;generalize (w.drewN nq).setCell ⟨b,1,none⟩ (.int .i64 ((k:Int)+1))=W at hB hC⊢;clear c0 c1 c2 f1 f2 h6;have c0:=hB.cell 0;have c1:=hB.cell 1;simp at c0 c1
   go_quiet (fail)
   go_wp2
   go_ret2
   rw[HF.out];refine⟨by rw[←HC.out];rfl,hC.drewN _,h1,h2,h3,k+1,H4.out,HR.out,?_⟩
   rw[show((k+1:Nat):Int)=(k:Int)+1 from by omega];exact hB.drewN _
 ·have hd:(err == 0)=false:=by simpa using he
  have hd2:(err != 0)=true:=by simpa using he
  have hfin:Dc.next ⟨rest,err⟩=(none,⟨rest,err⟩):=by unfold Dc.next;rw[if_neg he]
  have HF:=Hh hfin;clear hfin
  go_enter func72,ntmps72
  go_wp2
  go_quiet (fail)
  go_wp2
  go_ret2
  rw[HF.out];exact⟨rfl,(Chg.refl (· = b) _).drewN _,h1,h2,h3,k,h4,h5,h6.drewN _⟩
theorem beq128(c:UInt8):(c == 128)=decide (c.toNat=128):=by
 rw[Bool.eq_iff_iff];simp[←UInt8.toNat_inj]
theorem u64_in{x:Nat}(h:x<18446744073709551616):IntKind.u64.wrap (x:Int)=x:=by simp[IntKind.wrap,IntKind.bits,IntKind.signed];omega
theorem u_step(v c:Nat)(hv:v≤144115188075855871)(hc:c<256):bits .or .u64 ((v:Int) * 128) (IntKind.u64.wrap (bits .andNot .u8 (c:Int) 128))=((v * 128+c % 128:Nat):Int):=by
 have e1:bits .andNot .u8 (c:Int) 128=((c % 128:Nat):Int):=by
  rw[show(128:Int)=((128:Nat):Int)from rfl,u8_andNot_nat c 128 hc (by omega)];rw[show 255 - 128=2 ^ 7 - 1 from rfl,Nat.and_two_pow_sub_one_eq_mod]
 rw[e1,u64_in (by omega),show(v:Int) * 128=((v * 128:Nat):Int)from by omega,u64_or_nat _ _ (by omega) (by omega)];rw[show v * 128=v <<< 7 from by rw[Nat.shiftLeft_eq],←Nat.shiftLeft_add_eq_or_of_lt (by omega)]
theorem qXg.refl{w:World}{b:Nat}{s:ByteArray}{d:Dc}(h:qQM w b s d):qXg w w b s d:=⟨Chg.refl _ _,h⟩
theorem qXg.trans{w w1 w2:World}{b:Nat}{s:ByteArray}{d d':Dc}(h:qXg w w1 b s d)(h':qXg w1 w2 b s d'):qXg w w2 b s d':=⟨h.1.trans h'.1 (fun _ _ h=>h),h'.2⟩
theorem next_nil{d:Dc}(h:d.err=0)(hr:d.rest=[]):d.next=(none,⟨[],2⟩):=by unfold Dc.next;rw[if_pos h,hr]
theorem next_cons{d:Dc}{c:UInt8}{r:List UInt8}(h:d.err=0)(hr:d.rest=c::r):d.next=(some c,⟨r,0⟩):=by unfold Dc.next;rw[if_pos h,hr,←h]
theorem du_any(w:World)(b:Nat)(s:ByteArray)(d:Dc)(h:qQM w b s d) :
 Calls prog 37 #[.pointer (some ⟨b,0,none⟩)] w fun e w'=>e=.returned (.int .u64 (d.u.1:Int))∧qXg w w' b s d.u.2:=by
 by_cases he:d.err=0
 ·generalize hR:qZO true 0 d.rest=R;have hu:d.u=R:=by unfold Dc.u;rw[if_pos he];exact hR
  rw[hu]
  go_enter func37,ntmps37
  go_wp2_with fail
  go_loopg [3,4] d.rest.length (fun k v f wr=>∃(fb:Bool) (vn:Nat) (r:List UInt8),r.length=k∧v=.int .u64 (vn:Int)∧vn<18446744073709551616∧f=.bool fb∧qXg w wr b s ⟨r,0⟩∧qZO fb vn r=R)
  case atStart=>exact⟨true,0,d.rest,rfl,rfl,by omega,rfl,by rw[←he];exact qXg.refl h,hR⟩
  case round =>
   clear hR h hu;obtain⟨fb,vn,r,rfl,rfl,hvn,rfl,hD,hR⟩:=hrel;have cn:=dnext_any _ b s ⟨r,0⟩ hD.2;cases r with
   | nil =>
    rw[next_nil rfl rfl]at cn;have HR:=Hh hR;clear hR;go_wp2_with fail
    refine cn.mono ?_;rintro e w1 ⟨rfl,hD1⟩;go_wp2_with fail
    go_ret
    rw[←HR.out];exact⟨rfl,hD.trans hD1⟩
   | cons c r =>
    rw[next_cons rfl rfl]at cn;have cf:=fun w1 h=>qQ7 w1 b s ⟨r,0⟩ h 3 (by decide)
    have hc256:=c.toNat_lt;rw[show Dc.fail ⟨r,0⟩ 3=⟨r,3⟩from rfl]at cf
    by_cases hbad:((fb&&c == 128)||decide (144115188075855871<vn))=true
    ·have hfin:R=(0,⟨r,3⟩):=by rw[←hR,qZO,if_pos hbad]
     have HF:=Hh hfin;clear hfin hR
     have hcases:(fb=true∧c.toNat=128)∨(fb=true∧c.toNat≠128∧144115188075855871<vn)∨(fb=false∧144115188075855871<vn):=by
      rw[beq128]at hbad;cases fb <;> simp at hbad⊢ <;> omega
     clear hbad;rcases hcases with⟨rfl,g⟩|⟨rfl,g,g2⟩|⟨rfl,g2⟩
     ·have t1:((c.toNat:Int) == 128)=true:=by simp;omega
      clear g;go_wp2_with fail
      refine cn.mono ?_;rintro e w1 ⟨rfl,hD1⟩;go_wp2_with fail
      refine(cf _ hD1.2).mono ?_
      rintro e w2 ⟨rfl,hD2⟩;go_wp2_with fail
      go_ret
      rw[HF.out];exact⟨rfl,(hD.trans hD1).trans hD2⟩
     ·have t1:((c.toNat:Int) == 128)=false:=by simp;omega
      have t2:decide ((144115188075855871:Int)<(vn:Int))=true:=by simp;omega
      clear g g2;go_wp2_with fail
      refine cn.mono ?_;rintro e w1 ⟨rfl,hD1⟩;go_wp2_with fail
      refine(cf _ hD1.2).mono ?_
      rintro e w2 ⟨rfl,hD2⟩;go_wp2_with fail
      go_ret
      rw[HF.out];exact⟨rfl,(hD.trans hD1).trans hD2⟩
     ·have t2:decide ((144115188075855871:Int)<(vn:Int))=true:=by simp;omega
      clear g2;go_wp2_with fail
      refine cn.mono ?_;rintro e w1 ⟨rfl,hD1⟩;go_wp2_with fail
      refine(cf _ hD1.2).mono ?_
      rintro e w2 ⟨rfl,hD2⟩;go_wp2_with fail
      go_ret
      rw[HF.out];exact⟨rfl,(hD.trans hD1).trans hD2⟩
    ·rw[qZO,if_neg hbad]at hR
     have hcases:((fb=true∧c.toNat≠128)∨fb=false)∧vn≤144115188075855871:=by
      rw[beq128]at hbad;cases fb <;> simp at hbad⊢ <;> omega
     clear hbad;obtain⟨hc,hv⟩:=hcases;have t2:decide ((144115188075855871:Int)<(vn:Int))=false:=by simp;omega
     rcases hc with⟨rfl,g⟩|rfl
     ·have t1:((c.toNat:Int) == 128)=false:=by simp;omega
      clear g
      by_cases hlt:c.toNat<128
      ·have t3:decide ((c.toNat:Int)<128)=true:=by simp;omega
       go_wp2_with fail
       refine cn.mono ?_;rintro e w1 ⟨rfl,hD1⟩;go_wp2_with fail
       go_ret
       rw[←hR,if_pos hlt,u_step vn c.toNat hv hc256];exact⟨rfl,hD.trans hD1⟩
      ·have t3:decide ((c.toNat:Int)<128)=false:=by simp;omega
       rw[if_neg hlt]at hR;have HR:=Hh hR;clear hR;go_wp2_with fail
       refine cn.mono ?_;rintro e w1 ⟨rfl,hD1⟩;go_wp2_with fail
       go_roundg r.length
       case measure=>simp
       case rel=>exact⟨false,_,r,rfl,by rw[u_step vn c.toNat hv hc256],by omega,rfl,hD.trans hD1,HR.out⟩
     ·by_cases hlt:c.toNat<128
      ·have t3:decide ((c.toNat:Int)<128)=true:=by simp;omega
       go_wp2_with fail
       refine cn.mono ?_;rintro e w1 ⟨rfl,hD1⟩;go_wp2_with fail
       go_ret
       rw[←hR,if_pos hlt,u_step vn c.toNat hv hc256];exact⟨rfl,hD.trans hD1⟩
      ·have t3:decide ((c.toNat:Int)<128)=false:=by simp;omega
       rw[if_neg hlt]at hR;have HR:=Hh hR;clear hR;go_wp2_with fail
       refine cn.mono ?_;rintro e w1 ⟨rfl,hD1⟩;go_wp2_with fail
       go_roundg r.length
       case measure=>simp
       case rel=>exact⟨false,_,r,rfl,by rw[u_step vn c.toNat hv hc256],by omega,rfl,hD.trans hD1,HR.out⟩
 ·have hu:d.u=(0,d):=by unfold Dc.u;rw[if_neg he]
  have cn:=dnext_any _ b s d h;have hn:d.next=(none,d):=by unfold Dc.next;rw[if_neg he]
  rw[hn]at cn;rw[hu];clear hu hn
  go_enter func37,ntmps37
  go_wp2_with fail
  refine wp_loop_rounds 1 ?_;rw[rounds_succ];go_wp2_with fail
  refine cn.mono ?_;rintro e w1 ⟨rfl,hD1⟩;go_wp2_with fail
  go_ret
  exact⟨rfl,hD1⟩
theorem Dc.u_lt(d:Dc):d.u.1<18446744073709551616:=by
 have key:∀(l:List UInt8) (f:Bool) (v:Nat),(qZO f v l).1<18446744073709551616:=by
  intro l
  induction l with
  | nil=>intro f v;simp[qZO]
  | cons c r ih =>
   intro f v;rw[qZO];split
   ·simp
   ·rename_i h
    have hv:v≤144115188075855871:=by simp at h;omega
    split
    ·simp only;omega
    ·exact ih _ _
 unfold Dc.u;split
 ·exact key _ _ _
 ·simp
theorem qZk(w:World)(b:Nat)(s:ByteArray)(d:Dc)(h:qQM w b s d)(most:Int)(hm0:0≤most)(hm:most≤9223372036854775807) :
 Calls prog 35 #[.pointer (some ⟨b,0,none⟩),.int .i64 most] w fun e w'=>e=.returned (.int .i64 ((d.i most).1:Int))∧qXg w w' b s (d.i most).2:=by
 have cu:=du_any w b s d h;have hlt:=d.u_lt
 by_cases hg:max most 0<(d.u.1:Int)
 ·have hfin:d.i most=(0,d.u.2.fail 11):=by unfold Dc.i;rw[if_pos hg]
  have HF:=Hh hfin;clear hfin;generalize d.u=U at cu hg HF hlt;obtain⟨v,D⟩:=U;simp only at cu hg HF hlt;have cf:=fun w1 h=>qQ7 w1 b s D h 11 (by decide)
  have t1:decide (most<(v:Int))=true:=by simp;omega
  have t2:decide (max most 0<(v:Int))=true:=by simp;omega
  clear hg
  go_enter func35,ntmps35
  go_wp2_with fail
  refine cu.mono ?_;rintro e w1 ⟨rfl,hD1⟩;go_wp2_with fail
  all_goals
   refine(cf _ hD1.2).mono ?_
   rintro e w2 ⟨rfl,hD2⟩;go_wp2_with fail
   go_ret
   rw[HF.out];exact⟨rfl,hD1.trans hD2⟩
 ·have hfin:d.i most=d.u:=by unfold Dc.i;rw[if_neg hg]
  have HF:=Hh hfin;clear hfin;generalize d.u=U at cu hg HF hlt;obtain⟨v,D⟩:=U;simp only at cu hg HF hlt;have hg1:(v:Int)≤most:=by omega
  have t1:decide (most<(v:Int))=false:=by simp;omega
  have t2:decide (max most 0<(v:Int))=false:=by simp;omega
  clear hg
  go_enter func35,ntmps35
  go_wp2_with fail
  refine cu.mono ?_;rintro e w1 ⟨rfl,hD1⟩;go_wp2_with fail
  all_goals
   go_ret
   rw[HF.out];exact⟨rfl,hD1⟩
open Go.RowKit
theorem qXP(w:World)(b:Nat)(s:ByteArray)(d:Dc)(h:qQM w b s d) :
 Calls prog 40 #[.pointer (some ⟨b,0,none⟩)] w fun e w'=>e=.returned (.int .i64 d.done.err)∧qXg w w' b s d.done:=by
 have cl:=dleft_any w b s d h;have cf:=fun w1 h=>qQ7 w1 b s d h 3 (by decide)
 by_cases g:d.rest=[]
 ·have hfin:d.done=d:=by unfold Dc.done;rw[if_pos g]
  rw[g]at cl;rw[hfin];clear hfin g
  go_enter func40,ntmps40
  go_wp2_with fail
  refine cl.mono ?_;rintro e w1 ⟨rfl,n,rfl⟩;obtain⟨h1,h2,h3,k,h4,h5,h6⟩:=h;have c2:=h6.cell 2;simp at c2;go_wp2_with fail
  go_ret
  exact⟨rfl,(Chg.refl _ _).drewN _,h1,h2,h3,k,h4,h5,h6.drewN _⟩
 ·have hfin:d.done=d.fail 3:=by unfold Dc.done;rw[if_neg g]
  have hpos:0<d.rest.length:=List.length_pos_iff.2 g;rw[hfin];clear hfin g
  go_enter func40,ntmps40
  go_wp2_with fail
  refine cl.mono ?_;rintro e w1 ⟨rfl,n,rfl⟩;go_wp2_with fail
  refine(cf _ (h.drewN n)).mono ?_
  rintro e w2 ⟨rfl,hD2⟩;have hD:=hD2.2;obtain⟨h1,h2,h3,k,h4,h5,h6⟩:=hD;have c2:=h6.cell 2;simp at c2;go_wp2_with fail
  go_ret
  exact⟨rfl,((Chg.refl (· = b) _).drewN n).trans hD2.1 (fun _ _ h=>h),hD2.2⟩
theorem from_any(w:World)(s:ByteArray)(hs:s.size≤140737488355328) :
 Calls prog 34 #[.string s] w fun e w'=>∃b,e=.returned (.pointer (some ⟨b,0,none⟩))∧w.heap.size≤b∧qQM w' b s ⟨s.data.toList,0⟩∧Ext w w':=by
 go_enter func34,ntmps34
 go_wp2
 go_ret
 exact⟨_,rfl,Nat.le_refl _,⟨hs,Int.le_refl 0,by show(0:Int)≤17;decide,0,by simp,by simp,At.new w _ _⟩,(Er w).alloc _⟩
theorem extract_take(s:ByteArray)(k n:Nat):s.extract k (k+n)=⟨((s.data.toList.drop k).take n).toArray⟩:=by
 have e:(s.extract k (k+n)).data=s.data.extract k (k+n):=by simp
 have e2:s.extract k (k+n)=⟨(s.extract k (k+n)).data⟩:=rfl;rw[e2,e]
 congr 1
 apply Array.toList_inj.1
 simp
theorem ds_any(w:World)(b:Nat)(s:ByteArray)(d:Dc)(h:qQM w b s d)(most:Int)(hm0:0≤most)(hm:most≤9223372036854775807) :
 Calls prog 36 #[.pointer (some ⟨b,0,none⟩),.int .i64 most] w fun e w'=>e=.returned (.string ⟨(d.s most).1.toArray⟩)∧qXg w w' b s (d.s most).2:=by
 have ci:=qZk w b s d h most hm0 hm
 have hn:((d.i most).1:Int)≤most:=by
  unfold Dc.i;split
  ·simpa using hm0
  ·omega
 unfold Dc.s;generalize d.i most=R at ci hn;obtain⟨n,D⟩:=R;simp only at ci hn⊢
 by_cases he:D.err=0
 ·rw[if_pos he];have t1:(D.err == 0)=true:=by simpa using he
  have t1':(D.err != 0)=false:=by simpa using he
  have cl:=fun w1 h=>dleft_any w1 b s D h
  by_cases g:D.rest.length<n
  ·rw[if_pos g];have cf:=fun w1 h=>qQ7 w1 b s D h 2 (by decide)
   have hf:D.fail 2 = { D with err:=2 } := by unfold Dc.fail;rw[if_pos he]
   rw[hf]at cf;clear hf he;have t2:decide ((D.rest.length:Int)<(n:Int))=true:=by simp;omega
   go_enter func36,ntmps36
   go_wp2_with fail
   refine ci.mono ?_;rintro e w1 ⟨rfl,hD1⟩;have hD:=hD1.2;obtain⟨h1,h2,h3,k,h4,h5,h6⟩:=hD;have c2:=h6.cell 2;simp at c2;go_wp2_with fail
   refine(cl w1 hD1.2).mono ?_
   rintro e w2 ⟨rfl,m,rfl⟩;go_wp2_with fail
   refine(cf _ (hD1.2.drewN m)).mono ?_
   rintro e w2 ⟨rfl,hD2⟩;clear h6 c2;have hD:=hD2.2;obtain⟨_,_,_,k',_,_,h6⟩:=hD;have c2:=h6.cell 2;simp at c2;go_wp2_with fail
   go_ret
   exact⟨rfl,(hD1.1.drewN m).trans hD2.1 (fun _ _ h=>h),hD2.2⟩
  ·rw[if_neg g];have hle:n≤D.rest.length:=by omega
   have t2:decide ((D.rest.length:Int)<(n:Int))=false:=by simp;omega
   clear g
   go_enter func36,ntmps36
   go_wp2_with fail
   refine ci.mono ?_;rintro e w1 ⟨rfl,hD1⟩;have hD:=hD1.2;obtain⟨h1,h2,h3,k,h4,h5,h6⟩:=hD;have c2:=h6.cell 2;have c1:=h6.cell 1;have f1:=h6.frozen 1;simp at c2 c1;have hk0:(k:Int)≤s.size:=by omega
   have hkn:(k:Int)+n≤s.size:=by omega
   have H4:=Hh h4;have H5:=Hh h5;have HE:=Hh he;clear h4 h5 he;go_wp2_with fail
   refine(cl w1 hD1.2).mono ?_
   rintro e w2 ⟨rfl,m,rfl⟩;go_wp2_with fail
   have hB:At ((w1.drewN m).setCell ⟨b,1,none⟩ (.int .i64 ((k:Int)+n))) b 142 #[.string s,.int .i64 ((k:Int)+n),.int .i64 D.err]:=(h6.drewN _).set 1 _;have hC:Chg (· = b) w1 ((w1.drewN m).setCell ⟨b,1,none⟩ (.int .i64 ((k:Int)+n))):=((Chg.refl (· = b) _).drewN _).setCell (.inl rfl) _;generalize (w1.drewN m).setCell ⟨b,1,none⟩ (.int .i64 ((k:Int)+n))=W at hB hC⊢;clear c1 c2 f1 h6;have c0:=hB.cell 0;have c1:=hB.cell 1;simp at c0 c1
   go_quiet (fail)
   go_wp2
   go_ret
   rw[extract_take,H5.out];refine⟨rfl,(hD1.1.trans hC (fun _ _ h=>h)).drewN _,h1,h2,h3,k+n,?_,?_,?_⟩
   ·have:=H4.out
    simp only[List.length_drop];omega
   ·rw[←List.drop_drop,H5.out]
   ·rw[show((k+n:Nat):Int)=(k:Int)+n from by omega];exact hB.drewN _
 ·rw[if_neg he];have t1:(D.err == 0)=false:=by simpa using he
  have t1':(D.err != 0)=true:=by simpa using he
  go_enter func36,ntmps36
  go_wp2_with fail
  refine ci.mono ?_;rintro e w1 ⟨rfl,hD1⟩;have hD:=hD1.2;obtain⟨h1,h2,h3,k,h4,h5,h6⟩:=hD;have c2:=h6.cell 2;simp at c2;go_wp2_with fail
  go_ret
  exact⟨rfl,hD1⟩
theorem dlist_any(w:World)(b:Nat)(s:ByteArray)(d:Dc)(h:qQM w b s d)(most each:Int)(hm0:0≤most)(hm:most≤1048576)(he0:0≤each)(he1:each≤9223372036854775807) :
 Calls prog 38 #[.pointer (some ⟨b,0,none⟩),.int .i64 most,.int .i64 each] w fun e w'=>∃v,e=.returned v ∧
  w'.ownsRow w.heap.size 3 1 v (d.list most each).1.length ((d.list most each).1.map (Value.int .i64))∧((d.list most each).1=[]→v=.slice none 0 0)∧qXg w w' b s (d.list most each).2:=by
 have hb:=h.lt;have ci:=qZk w b s d h most hm0 (by omega)
 have hn:((d.i most).1:Int)≤most:=by
  unfold Dc.i;split
  ·simpa using hm0
  ·omega
 unfold Dc.list;generalize d.i most=R at ci hn;obtain⟨n,D⟩:=R;simp only at ci hn⊢;generalize hL:qQt each n D=L;obtain⟨i0,hi,hz0,hz1,hz2⟩:=info_parts int_info
 go_enter func38,ntmps38
 go_wp2_with fail
 refine ci.mono ?_;rintro e w1 ⟨rfl,hD1⟩;go_wp2_with fail
 go_loopw [7,8] (fun lv nv wr=>∃(k:Nat) (l:List Int) (D':Dc),(k:Int)≤most∧(l.length:Int)+k≤most∧nv=.int .i64 (k:Int)∧wr.ownsRow w.heap.size 3 1 lv l.length (l.map (Value.int .i64))∧(l=[]→lv=.slice none 0 0)∧qXg w wr b s D' ∧
  L=(((qQt each k D').1).map (l ++ ·),(qQt each k D').2)) (fun _ nv _=>(intOf nv).toNat)
 case atStart =>
  refine⟨n,[],D,hn,by simpa using hn,rfl,⟨rfl,.inl ⟨rfl,rfl⟩⟩,fun _=>rfl,hD1,?_⟩
  rw[hL];obtain⟨o,E⟩:=L;cases o <;> simp
 case round =>
  clear hL ci hD1;obtain⟨k,l,D',hk,hlk,rfl,hown,hnil,hD,hLk⟩:=hrel;cases k with
  | zero =>
   have hfin:L=(some l,D'):=by rw[hLk];simp[qQt]
   clear hLk;have HF:=Hh hfin;clear hfin;go_wp2_with fail
   go_ret
   rw[HF.out];exact⟨_,rfl,hown,hnil,hD⟩
  | succ k =>
   have cx:=qZk _ b s D' hD.2 each he0 he1;rw[qQt]at hLk;generalize D'.i each=X at cx hLk;obtain⟨x,D2⟩:=X;simp only at cx hLk
   by_cases he:D2.err=0
   ·rw[if_pos he]at hLk;have t1:(D2.err == 0)=true:=by simpa using he
    have t1':(D2.err != 0)=false:=by simpa using he
    have hstep:L=(((qQt each k D2).1).map ((l++[(x:Int)]) ++ ·),(qQt each k D2).2):=by
     rw[hLk];generalize qQt each k D2=Z;obtain⟨o,E⟩:=Z;cases o <;> simp
    have HS:=Hh hstep;clear hstep hLk he;have hkk:(k:Int)+1≤most:=by omega
    have hll:(l.length:Int)+1≤1048576:=by omega
    go_wp2_with fail
    refine cx.mono ?_;rintro e w2 ⟨rfl,hD2⟩;have hD':=hD2.2;obtain⟨h1,h2,h3,k',h4,h5,h6⟩:=hD';have c2:=h6.cell 2;simp at c2;clear h4 h5;have hown2:=own_chg hown hD2.1 (fun k h=>by have:k=b:=h;omega);have hT:=hD.trans hD2;have hsz:=hT.1.size
    go_wp2_with (at_builtin;refine wpList_append_own _ rfl _ _ 27 rfl w.heap.size 3 i0 (.int .i64 0) 1 8 underlying27 hi hz0 hz1 hz2 rfl (by decide) _ _ _ rfl (hown2.alloc _) ⟨w2.heap.size,0,none⟩ 1 1 [.int .i64 (x:Int)] rfl rfl ?c1 ?c2 ?c3 ?c4 ?c5 ?_)
    case c1 =>
     intro j u hu;cases j with
     | zero =>
      simp only[List.getElem?_cons_zero,Option.some.injEq]at hu;subst hu;exact(At.new w2 3 #[.int .i64 (x:Int)]).cell 0
     | succ j=>simp at hu
    case c2=>simp[Value.oneCell']
    case c3=>unfold maxLen;omega
    case c4=>omega
    case c5=>simp;omega
    intro v' w3 hown3 hgrow _;have hge:=qJD (hown2.alloc (.cells #[.int .i64 (x:Int)] 3));have hG:=Chg.of_grown hgrow
    have hT3:qXg w w3 b s D2:=by
     refine⟨(hT.1.alloc _).trans hG (fun k hk h=>absurd (hge k h) (by omega)),?_⟩
     exact(hT.2.alloc _).chg hG (fun h=>absurd (hge b h) (by omega))
    clear hG hgrow hge hT hD2 h6 c2 hown2
    go_wp2
    go_roundw
    case rel =>
     exact⟨k,l++[(x:Int)],D2,by omega,by simp;omega,by go_num,by simpa using hown3,fun h=>by simp at h,hT3,HS.out⟩
    case measure=>simp[intOf]
   ·rw[if_neg he]at hLk;have t1:(D2.err == 0)=false:=by simpa using he
    have t1':(D2.err != 0)=true:=by simpa using he
    have hfin:L=(none,D2):=by rw[hLk];rfl
    have HF:=Hh hfin;clear hfin hLk he;go_wp2_with fail
    refine cx.mono ?_;rintro e w2 ⟨rfl,hD2⟩;have hD':=hD2.2;obtain⟨h1,h2,h3,k',h4,h5,h6⟩:=hD';have c2:=h6.cell 2;simp at c2;clear h4 h5;go_wp2_with fail
    go_ret
    rw[HF.out];exact⟨_,rfl,⟨rfl,.inl ⟨rfl,rfl⟩⟩,fun _=>rfl,hD.trans hD2⟩
open Go.RowKit
theorem db_any(w:World)(b:Nat)(s:ByteArray)(d:Dc)(h:qQM w b s d) :
 Calls prog 79 #[.pointer (some ⟨b,0,none⟩)] w fun e w'=>e=.returned (.bool d.b.1)∧qXg w w' b s d.b.2:=by
 have cn:=dnext_any w b s d h;unfold Dc.b;generalize d.next=R at cn;obtain⟨o,D⟩:=R;cases o with
 | none =>
  simp only[Option.getD_none,Option.isSome_none]at cn;simp only
  go_enter func79,ntmps79
  go_wp2_with fail
  refine cn.mono ?_;rintro e w1 ⟨rfl,hD1⟩;go_wp2_with fail
  go_ret
  exact⟨rfl,hD1⟩
 | some c =>
  simp only[Option.getD_some,Option.isSome_some]at cn;simp only;have hc:=c.toNat_lt
  by_cases g:1<c.toNat
  ·have t1:decide ((1:Int)<(c.toNat:Int))=true:=by simp;omega
   have cf:=fun w1 h=>qQ7 w1 b s D h 3 (by decide)
   rw[if_pos g]
   go_enter func79,ntmps79
   go_wp2_with fail
   refine cn.mono ?_;rintro e w1 ⟨rfl,hD1⟩;go_wp2_with fail
   refine(cf _ hD1.2).mono ?_
   rintro e w2 ⟨rfl,hD2⟩;go_wp2_with fail
   go_ret
   exact⟨rfl,hD1.trans hD2⟩
  ·have t1:decide ((1:Int)<(c.toNat:Int))=false:=by simp;omega
   rw[if_neg g]
   have e1:(c == 1)=((c.toNat:Int) == 1):=by
    rw[Bool.eq_iff_iff];simp[←UInt8.toNat_inj];omega
   rw[e1]
   go_enter func79,ntmps79
   go_wp2_with fail
   refine cn.mono ?_;rintro e w1 ⟨rfl,hD1⟩;go_wp2_with fail
   go_ret
   exact⟨rfl,hD1⟩
open Go.RowKit Go.Sort
def curA(d:Dc):Array Value:=#[.string ⟨d.rest.toArray⟩,.int .i64 d.err]
def cur(d:Dc):Value:=.agg (curA d)
theorem cur_info:(prog.info? 157).map (·.size)=some 2:=by kernel_rfl
theorem qZc{w:World}{q:Nat}{a b:Value}(h:At w q 157 #[a,b]):(loadVar 157 ⟨q,0,none⟩).run prog w=.ok (.agg #[a,b]) w:=by
 have:=run_loadVar_mid (P:=prog) w q 0 157 [a,b] _ h.range underlying157 rfl cur_info
 simpa using this
theorem qZf{w:World}{q:Nat}{a b:Value}(h:At w q 157 #[a,b])(c d:Value):At ((w.setCell ⟨q,0,none⟩ c).setCell ⟨q,1,none⟩ d) q 157 #[c,d]:=(h.set 0 c).set 1 d
theorem qZg{w w':World}{q:Nat}(h:Ext w w')(hq:w.heap.size≤q)(c d:Value):Ext w ((w'.setCell ⟨q,0,none⟩ c).setCell ⟨q,1,none⟩ d):=(h.setCell (p:=⟨q,0,none⟩) hq c).setCell (p:=⟨q,1,none⟩) hq d
theorem rfail_any(w:World)(d:Dc)(x:Int) :
 Calls prog 113 #[cur d,.int .i64 x] w fun e w'=>e=.returned (cur (d.fail x))∧Ext w w':=by
 obtain⟨r,er⟩:=d;unfold cur Dc.fail curA;simp only
 by_cases h:er=0
 ·rw[if_pos h];have hb:(er == 0)=true:=by simp[h]
  clear h
  go_enter func113,ntmps113
  go_wp2_with fail
  exact bodyPost_ret (v:=.agg #[.string ⟨r.toArray⟩,.int .i64 x]) (by simp[results,results113,go_sem]) rfl ⟨rfl,((Er w).alloc _).alloc _⟩
 ·rw[if_neg h];have hb:(er == 0)=false:=by simp[h]
  clear h
  go_enter func113,ntmps113
  go_wp2_with fail
  exact bodyPost_ret (v:=.agg #[.string ⟨r.toArray⟩,.int .i64 er]) (by simp[results,results113,go_sem]) rfl ⟨rfl,((Er w).alloc _).alloc _⟩
def bn(o:Option UInt8):Nat:=match o with
 | some c=>c.toNat
 | none=>0
theorem bn_lt(o:Option UInt8):bn o<256:=by
 cases o with
 | none=>decide
 | some c=>exact c.toNat_lt
theorem str_nil:((⟨([]:List UInt8).toArray⟩:ByteArray).toList.isEmpty)=true:=by rw[Lib.toList_data];rfl
theorem str_cons(c:UInt8)(r:List UInt8):((⟨(c::r).toArray⟩:ByteArray).toList.isEmpty)=false:=by rw[Lib.toList_data];rfl
theorem ext1(c:UInt8)(r:List UInt8):(⟨(c::r).toArray⟩:ByteArray).extract 1 (r.length+1)=⟨r.toArray⟩:=ByteArray.ext (by simp)
theorem rone_any(w:World)(d:Dc)(hl:d.rest.length≤1000000000) :
 Calls prog 112 #[cur d] w fun e w'=>e=.returned (.tuple #[cur d.next.2,.int .u8 (bn d.next.1:Int)])∧Ext w w':=by
 obtain⟨r,er⟩:=d;have hF:=fun W=>rfail_any W ⟨r,er⟩ 2
 unfold Dc.next;simp only
 by_cases h:er=0
 ·rw[if_pos h];subst h;cases r with
  | nil =>
   have hf:(⟨[],0⟩:Dc).fail 2=⟨[],2⟩:=by unfold Dc.fail;rw[if_pos rfl]
   rw[hf]at hF;unfold cur curA at hF⊢;simp only at hF⊢;have he:=str_nil;clear hf
   go_enter func112,ntmps112
   have hX:=(At.new w 157 #[.string ⟨([]:List UInt8).toArray⟩,.int .i64 0]).alloc (.cells #[.string ⟨#[]⟩,.int .i64 0] 157);have hQ:=At.new (w.alloc (.cells #[.string ⟨([]:List UInt8).toArray⟩,.int .i64 0] 157)) 157 #[.string ⟨#[]⟩,.int .i64 0];rw[show(w.alloc (.cells #[.string ⟨([]:List UInt8).toArray⟩,.int .i64 0] 157)).heap.size=w.heap.size+1 by simp]at hQ;have hE0:=((Er w).alloc (.cells #[.string ⟨([]:List UInt8).toArray⟩,.int .i64 0] 157)).alloc (.cells #[.string ⟨#[]⟩,.int .i64 0] 157)
   go_upto_region 2 with fail
   obtain⟨x,hx⟩:∃x,w.heap.size=x:=⟨_,rfl⟩;rw[hx]at hX hQ⊢;have hxw:w.heap.size≤x:=by omega
   clear hx;generalize (w.alloc _).alloc _=W at hX hQ hE0⊢;have x0:=hX.cell 0;have x1:=hX.cell 1;simp at x0 x1;go_wp2_with fail
   refine(hF _).mono ?_
   rintro e w1 ⟨rfl,hE⟩;have hQ1:=hQ.ext hE;have hE1:=hE0.trans hE;clear hF hX hQ hE hE0 x0 x1;have q0:=hQ1.cell 0;have q1:=hQ1.cell 1;have f0:=hQ1.frozen 0;have f1:=hQ1.frozen 1;simp at q0 q1;go_wp2_with fail
   have hC:=(qZf hQ1 (.string ⟨([]:List UInt8).toArray⟩) (.int .i64 2));have hEz:=(qZg hE1 (show w.heap.size≤x+1 by omega) (.string ⟨([]:List UInt8).toArray⟩) (.int .i64 2));refine bodyPost_ret (v:=.tuple #[.agg #[.string ⟨([]:List UInt8).toArray⟩,.int .i64 2],.int .u8 0]) (qQA results112 _ rfl (qZc hC)) rfl ⟨?_,hEz⟩;rfl
  | cons c r =>
   unfold cur curA;simp only;have he:=str_cons c r;have hr:r.length≤1000000000:=by simp at hl;omega
   clear hF hl
   go_enter func112,ntmps112
   have hX:=(At.new w 157 #[.string ⟨(c::r).toArray⟩,.int .i64 0]).alloc (.cells #[.string ⟨#[]⟩,.int .i64 0] 157);have hQ:=At.new (w.alloc (.cells #[.string ⟨(c::r).toArray⟩,.int .i64 0] 157)) 157 #[.string ⟨#[]⟩,.int .i64 0];rw[show(w.alloc (.cells #[.string ⟨(c::r).toArray⟩,.int .i64 0] 157)).heap.size=w.heap.size+1 by simp]at hQ;have hE0:=((Er w).alloc (.cells #[.string ⟨(c::r).toArray⟩,.int .i64 0] 157)).alloc (.cells #[.string ⟨#[]⟩,.int .i64 0] 157)
   go_upto_region 3 with fail
   obtain⟨x,hx⟩:∃x,w.heap.size=x:=⟨_,rfl⟩;rw[hx]at hX hQ⊢;have hxw:w.heap.size≤x:=by omega
   clear hx;generalize (w.alloc _).alloc _=W at hX hQ hE0⊢;have x0:=hX.cell 0;simp at x0;have q0:=hQ.cell 0;have q1:=hQ.cell 1;have f0:=hQ.frozen 0;have f1:=hQ.frozen 1;simp at q0 q1
   go_region
   rw[ext1];go_wp2_with fail
   have hC:=(qZf hQ (.string ⟨r.toArray⟩) (.int .i64 0)).drew;have hEz:=(qZg hE0 (show w.heap.size≤x+1 by omega) (.string ⟨r.toArray⟩) (.int .i64 0)).drew;refine bodyPost_ret (v:=.tuple #[.agg #[.string ⟨r.toArray⟩,.int .i64 0],.int .u8 (c.toNat:Int)]) (qQA results112 _ rfl (qZc hC)) rfl ⟨?_,hEz⟩;rfl
 ·rw[if_neg h];have hb:(er != 0)=true:=by simp[h]
  have hf:(⟨r,er⟩:Dc).fail 2=⟨r,er⟩:=by unfold Dc.fail;rw[if_neg h]
  rw[hf]at hF;unfold cur curA at hF⊢;simp only at hF⊢;clear h hf
  go_enter func112,ntmps112
  have hX:=(At.new w 157 #[.string ⟨r.toArray⟩,.int .i64 er]).alloc (.cells #[.string ⟨#[]⟩,.int .i64 0] 157);have hQ:=At.new (w.alloc (.cells #[.string ⟨r.toArray⟩,.int .i64 er] 157)) 157 #[.string ⟨#[]⟩,.int .i64 0];rw[show(w.alloc (.cells #[.string ⟨r.toArray⟩,.int .i64 er] 157)).heap.size=w.heap.size+1 by simp]at hQ;have hE0:=((Er w).alloc (.cells #[.string ⟨r.toArray⟩,.int .i64 er] 157)).alloc (.cells #[.string ⟨#[]⟩,.int .i64 0] 157)
  go_upto_region 2 with fail
  obtain⟨x,hx⟩:∃x,w.heap.size=x:=⟨_,rfl⟩;rw[hx]at hX hQ⊢;have hxw:w.heap.size≤x:=by omega
  clear hx;generalize (w.alloc _).alloc _=W at hX hQ hE0⊢;have x0:=hX.cell 0;have x1:=hX.cell 1;simp at x0 x1;go_wp2_with fail
  refine(hF _).mono ?_
  rintro e w1 ⟨rfl,hE⟩;have hQ1:=hQ.ext hE;have hE1:=hE0.trans hE;clear hF hX hQ hE hE0 x0 x1;have q0:=hQ1.cell 0;have q1:=hQ1.cell 1;have f0:=hQ1.frozen 0;have f1:=hQ1.frozen 1;simp at q0 q1;go_wp2_with fail
  have hC:=(qZf hQ1 (.string ⟨r.toArray⟩) (.int .i64 er));have hEz:=(qZg hE1 (show w.heap.size≤x+1 by omega) (.string ⟨r.toArray⟩) (.int .i64 er));refine bodyPost_ret (v:=.tuple #[.agg #[.string ⟨r.toArray⟩,.int .i64 er],.int .u8 0]) (qQA results112 _ rfl (qZc hC)) rfl ⟨?_,hEz⟩;rfl
def uu(k v:Nat)(d:Dc):Nat×Dc:=if d.err=0 then qZO (decide (k=0)) v d.rest else(0,d)
structure UInv (d d':Dc) (k v:Nat):Prop where
 eq:d.u=uu k v d'
 z:k=0→v=0
 pos:0<k→128 ^ (k - 1)≤v∧d'.err=0
 lt:v<18446744073709551616
 len:d'.rest.length≤d.rest.length
theorem next_ok{d:Dc}{o:Option UInt8}{dn:Dc}(h:d.next=(o,dn))(h0:dn.err=0):d.err=0∧∃c,d.rest=c::dn.rest∧o=some c:=by
 unfold Dc.next at h
 split at h
 ·rename_i he
  split at h
  ·simp only[Prod.mk.injEq]at h;obtain⟨_,rfl⟩:=h;simp at h0
  ·rename_i c r hr
   simp only[Prod.mk.injEq]at h;obtain⟨rfl,rfl⟩:=h;exact⟨he,c,hr,rfl⟩
 ·rename_i he
  simp only[Prod.mk.injEq]at h;obtain⟨_,rfl⟩:=h;exact absurd h0 he
theorem next_len{d:Dc}{o:Option UInt8}{dn:Dc}(h:d.next=(o,dn)):dn.rest.length≤d.rest.length:=by
 unfold Dc.next at h
 split at h
 ·split at h
  ·simp only[Prod.mk.injEq]at h;obtain⟨_,rfl⟩:=h;exact Nat.le_refl _
  ·rename_i c r hr
   simp only[Prod.mk.injEq]at h;obtain⟨_,rfl⟩:=h;rw[hr];simp
 ·simp only[Prod.mk.injEq]at h;obtain⟨_,rfl⟩:=h;exact Nat.le_refl _
theorem uu_err{d:Dc}{o:Option UInt8}{dn:Dc}{k v:Nat}(h:d.next=(o,dn))(h0:dn.err≠0):uu k v d=(0,dn):=by
 unfold Dc.next at h;unfold uu
 split at h
 ·rename_i he
  rw[if_pos he]
  split at h
  ·rename_i hr
   simp only[Prod.mk.injEq]at h;obtain⟨_,rfl⟩:=h;rw[hr];rfl
  ·simp only[Prod.mk.injEq]at h;obtain⟨_,rfl⟩:=h;exact absurd he h0
 ·rename_i he
  simp only[Prod.mk.injEq]at h;obtain⟨_,rfl⟩:=h;rw[if_neg he]
theorem uu_cons{d:Dc}{c:UInt8}{r:List UInt8}{k v:Nat}(he:d.err=0)(hr:d.rest=c::r):uu k v d=if(decide (k=0)&&c == 128)||decide (144115188075855871<v)then(0,⟨r,3⟩)else if c.toNat<128 then(v * 128+c.toNat % 128,⟨r,0⟩)else qZO false (v * 128+c.toNat % 128) r:=by
 unfold uu;rw[if_pos he,hr];rfl
theorem uu_bad{d:Dc}{o:Option UInt8}{dn:Dc}{k v:Nat}(h:d.next=(o,dn))(h0:dn.err=0)(hb:(((k:Int) == 0)&&((bn o:Int) == 128)||decide (144115188075855872≤(v:Int)))=true):uu k v d=(0,⟨dn.rest,3⟩):=by
 obtain⟨he,c,hr,rfl⟩:=next_ok h h0;rw[uu_cons he hr,if_pos];rw[beq_128];simp[bn]at hb⊢;omega
theorem uu_fine{d:Dc}{o:Option UInt8}{dn:Dc}{k v:Nat}(h:d.next=(o,dn))(h0:dn.err=0)(hb:(((k:Int) == 0)&&((bn o:Int) == 128)||decide (144115188075855872≤(v:Int)))=false):v<144115188075855872∧(k=0→bn o≠128)∧(bn o<128→uu k v d=(128 * v+bn o % 128,dn))∧(128≤bn o→uu k v d=uu (k+1) (128 * v+bn o % 128) dn):=by
 obtain⟨he,c,hr,rfl⟩:=next_ok h h0
 have h1:((decide (k=0)&&c == 128)||decide (144115188075855871<v))=false:=by
  rw[beq_128];simp[bn]at hb⊢;omega
 have hdn:dn=⟨dn.rest,0⟩:=by rw[←h0]
 have hbn:bn (some c)=c.toNat:=rfl;have e1:v * 128=128 * v:=Nat.mul_comm _ _;rw[uu_cons he hr,h1,hbn,e1];simp[bn]at hb;refine⟨by omega,by omega,fun hc=>?_,fun hc=>?_⟩
 ·rw[if_neg (by decide),if_pos hc,←hdn]
 ·rw[if_neg (by decide),if_neg (by omega)];unfold uu;rw[if_pos h0];rfl
theorem uu_wrap{v b:Nat}(h:v<144115188075855872):IntKind.u64.wrap (IntKind.u64.wrap (128 * (v:Int))+(b:Int) % 128)=((128 * v+b % 128:Nat):Int):=by
 simp[IntKind.wrap,IntKind.bits,IntKind.signed];omega
theorem UInv.next{d d' dn:Dc}{o:Option UInt8}{k v:Nat}(h:UInv d d' k v)(hn:d'.next=(o,dn))(h0:dn.err=0)(hb:(((k:Int) == 0)&&((bn o:Int) == 128)||decide (144115188075855872≤(v:Int)))=false)(hc:128≤bn o):UInv d dn (k+1) (128 * v+bn o % 128):=by
 obtain⟨h1,h2,_,h4⟩:=uu_fine hn h0 hb;have hlt:=bn_lt o;refine⟨by rw[h.eq,h4 hc],fun e=>by omega,fun _=>⟨?_,h0⟩,by omega,Nat.le_trans (next_len hn) h.len⟩
 by_cases hk:k=0
 ·subst hk
  have:=h2 rfl
  show 128 ^ 0≤_
  omega
 ·obtain⟨j,rfl⟩:∃j,k=j+1:=⟨k - 1,by omega⟩
  have:=(h.pos (by omega)).1
  show 128 ^ (j+1)≤_
  rw[Nat.pow_succ];have e:j+1 - 1=j:=rfl;rw[e]at this;omega
theorem rtu_any(w:World)(d:Dc)(hl:d.rest.length≤1000000000) :
 Calls prog 82 #[cur d] w fun e w'=>e=.returned (.tuple #[cur d.u.2,.int .u64 (d.u.1:Int)])∧Ext w w':=by
 unfold cur curA
 go_enter func82,ntmps82
 have hX:=(At.new w 157 #[.string ⟨d.rest.toArray⟩,.int .i64 d.err]).alloc (.cells #[.string ⟨#[]⟩,.int .i64 0] 157);have hQ:=At.new (w.alloc (.cells #[.string ⟨d.rest.toArray⟩,.int .i64 d.err] 157)) 157 #[.string ⟨#[]⟩,.int .i64 0];rw[show(w.alloc (.cells #[.string ⟨d.rest.toArray⟩,.int .i64 d.err] 157)).heap.size=w.heap.size+1 by simp]at hQ;have hE0:=((Er w).alloc (.cells #[.string ⟨d.rest.toArray⟩,.int .i64 d.err] 157)).alloc (.cells #[.string ⟨#[]⟩,.int .i64 0] 157)
 go_upto_region 1 with fail
 obtain⟨x,hx⟩:∃x,w.heap.size=x:=⟨_,rfl⟩;rw[hx]at hX hQ⊢;have hxw:w.heap.size≤x:=by omega
 clear hx;generalize (w.alloc _).alloc _=W at hX hQ hE0⊢;go_wp2_with fail
 go_loopw [4,5] (fun vv kv wr=>∃(k v:Nat) (d':Dc),kv=.int .i64 (k:Int)∧vv=.int .u64 (v:Int)∧k≤10∧UInv d d' k v∧At wr x 157 #[.string ⟨d'.rest.toArray⟩,.int .i64 d'.err]∧At wr (x+1) 157 #[.string ⟨#[]⟩,.int .i64 0]∧Ext w wr) (fun _ kv _=>10 - (intOf kv).toNat)
 case atStart=>exact⟨0,0,d,rfl,rfl,by omega,⟨rfl,fun _=>rfl,fun h=>absurd h (by omega),by omega,Nat.le_refl _⟩,hX,hQ,hE0⟩
 case round =>
  clear hX hQ hE0;obtain⟨k,v,d',rfl,rfl,hk,hI,hX,hQ,hE⟩:=hrel;have HI:=Hh hI;have HC:=Hh (show Calls prog 112 #[.agg #[.string ⟨d'.rest.toArray⟩,.int .i64 d'.err]] wr fun e w'=>e=.returned (.tuple #[.agg #[.string ⟨d'.next.2.rest.toArray⟩,.int .i64 d'.next.2.err],.int .u8 (bn d'.next.1:Int)])∧Ext wr w' from rone_any wr d' (Nat.le_trans hI.len hl));have x0:=hX.cell 0;have x1:=hX.cell 1;simp at x0 x1;clear hI
  by_cases hlt:k<10
  ·go_wp2_with fail
   refine HC.out.mono ?_;rintro e w1 ⟨rfl,hE1⟩;have hX1:=hX.ext hE1;have hQ1:=hQ.ext hE1;have hEx:=hE.trans hE1;clear hX hQ hE hE1 x0 x1 HC;obtain⟨nx,hnx⟩:∃nx,d'.next=nx:=⟨_,rfl⟩;have HNX:=Hh hnx;rw[hnx];clear hnx;obtain⟨o,dn⟩:=nx;simp only;have hY:=At.new w1 157 #[.string ⟨dn.rest.toArray⟩,.int .i64 dn.err];have hEy:=(Er w1).alloc (.cells #[.string ⟨dn.rest.toArray⟩,.int .i64 dn.err] 157)
   go_upto_region 6 with fail
   have hX:=hX1.ext hEy;have hQ:=hQ1.ext hEy;have hE:=hEx.trans hEy;have hne:x≠w1.heap.size:=fun e=>by have:=hX1.lt;omega
   have hne2:x+1≠w1.heap.size:=fun e=>by have:=hQ1.lt;omega
   have hyw:w.heap.size≤w1.heap.size:=hEx.size;generalize w1.alloc _=W1 at hX hQ hE hY⊢;obtain⟨y,hy⟩:∃y,w1.heap.size=y:=⟨_,rfl⟩;rw[hy]at hY hne hne2 hyw⊢;clear hX1 hQ1 hEx hEy hy;obtain⟨e0,he0⟩:∃b:Bool,(dn.err == 0)=b:=⟨_,rfl⟩;obtain⟨e1,he1⟩:∃b:Bool,((k:Int) == 0)=b:=⟨_,rfl⟩;obtain⟨e2,he2⟩:∃b:Bool,((bn o:Int) == 128)=b:=⟨_,rfl⟩;obtain⟨e3,he3⟩:∃b:Bool,decide (144115188075855872≤(v:Int))=b:=⟨_,rfl⟩;obtain⟨fk,hfk⟩:∃fk:Bool,fk=(e0&&((e1&&e2)||e3)):=⟨_,rfl⟩;have HFK:=Hh (And.intro he0 (And.intro he1 (And.intro he2 (And.intro he3 hfk))));obtain⟨wo,hwo⟩:∃wo:World,wo=W1:=⟨_,rfl⟩;have y1:=hY.cell 1;simp at y1;have HJ:=Hh (And.intro hX (And.intro hQ (And.intro hE hY)));clear hX hQ hE hY
   go_cut [33]from 19 to 33 (fun tv wx=>tv=.bool fk∧wx=wo)
   case first =>
    clear HJ HNX HFK HI;cases e0
    ·obtain rfl:fk=false:=by rw[hfk];rfl
     clear hfk;go_wp2_with fail
     go_meet
     case rel=>exact⟨rfl,hwo.symm⟩
    ·cases e3
     ·cases e1
      ·obtain rfl:fk=false:=by rw[hfk];rfl
       clear hfk;go_wp2_with fail
       go_meet
       case rel=>exact⟨rfl,hwo.symm⟩
      ·obtain rfl:fk=e2:=by rw[hfk];simp
       clear hfk;cases fk
       ·go_wp2_with fail
        go_meet
        case rel=>exact⟨rfl,hwo.symm⟩
       ·go_wp2_with fail
        go_meet
        case rel=>exact⟨rfl,hwo.symm⟩
     ·obtain rfl:fk=true:=by rw[hfk];simp
      clear hfk;cases e1
      ·go_wp2_with fail
       go_meet
       case rel=>exact⟨rfl,hwo.symm⟩
      ·cases e2
       ·go_wp2_with fail
        go_meet
        case rel=>exact⟨rfl,hwo.symm⟩
       ·go_wp2_with fail
        go_meet
        case rel=>exact⟨rfl,hwo.symm⟩
   case rest =>
    obtain⟨rfl,hwc⟩:=hcut;subst hwc;subst hwo;obtain⟨hX,hQ,hE,hY⟩:=HJ.out;clear HJ he0 he1 he2 he3 hfk y1;have y0:=hY.cell 0;have y1:=hY.cell 1;have g1:=hY.frozen 1;simp at y0 y1;cases fk
    ·by_cases hz:dn.err=0
     ·have hb:(dn.err != 0)=false:=by simp[hz]
      have hbb:(((k:Int) == 0)&&((bn o:Int) == 128)||decide (144115188075855872≤(v:Int)))=false:=by
       obtain⟨a0,a1,a2,a3,a4⟩:=HFK.out;rw[←a0,←a1,←a2,←a3,hz]at a4;simpa using a4.symm
      obtain⟨hv,_,hlo,hhi⟩:=uu_fine HNX.out hz hbb;have hwr:=uu_wrap (b:=bn o) hv;have hnx2:=fun hc=>HI.out.next HNX.out hz hbb hc
      clear hhi;generalize 128 * v+bn o % 128=m at hlo hwr hnx2;have HLO:=Hh hlo;have HHI:=Hh hnx2;have HZ:=Hh hz;clear hlo hnx2 hv hbb hz
      go_upto_region 11 with fail
      clear hwr
      by_cases hc:bn o<128
      ·have hu:d.u=(m,dn):=by rw[HI.out.eq];exact HLO.out hc
       have HU:=Hh hu;clear hu;have q0:=hQ.cell 0;have q1:=hQ.cell 1;have f0:=hQ.frozen 0;have f1:=hQ.frozen 1;simp at q0 q1;go_wp2_with fail
       have hC:=qZf hQ (.string ⟨dn.rest.toArray⟩) (.int .i64 dn.err);have hEz:=qZg hE (show w.heap.size≤x+1 by omega) (.string ⟨dn.rest.toArray⟩) (.int .i64 dn.err);refine bodyPost_ret (v:=.tuple #[.agg #[.string ⟨dn.rest.toArray⟩,.int .i64 dn.err],.int .u64 (m:Int)]) (qQA results82 _ rfl (qZc hC)) rfl ⟨?_,hEz⟩;rw[HU.out]
      ·have HN:=Hh (HHI.out (by omega));clear HHI HLO;have x0:=hX.cell 0;have x1:=hX.cell 1;have p0:=hX.frozen 0;have p1:=hX.frozen 1;simp at x0 x1;go_wp2_with fail
       have hC:=qZf hX (.string ⟨dn.rest.toArray⟩) (.int .i64 dn.err);have hEz:=qZg hE (show w.heap.size≤x by omega) (.string ⟨dn.rest.toArray⟩) (.int .i64 dn.err);have hQz:=(hQ.far (p:=⟨x,0,none⟩) (show x+1≠x by omega) (.string ⟨dn.rest.toArray⟩)).far (p:=⟨x,1,none⟩) (show x+1≠x by omega) (.int .i64 dn.err);go_roundw
       case rel=>exact⟨k+1,m,dn,by go_num,rfl,by omega,HN.out,hC,hQz,hEz⟩
       case measure=>simp[intOf];omega
     ·have hb:(dn.err != 0)=true:=by simp[hz]
      have hu:d.u=(0,dn):=by rw[HI.out.eq];exact uu_err HNX.out hz
      have HU:=Hh hu;clear hu hz;have q0:=hQ.cell 0;have q1:=hQ.cell 1;have f0:=hQ.frozen 0;have f1:=hQ.frozen 1;simp at q0 q1;go_wp2_with fail
      have hC:=qZf hQ (.string ⟨dn.rest.toArray⟩) (.int .i64 dn.err);have hEz:=qZg hE (show w.heap.size≤x+1 by omega) (.string ⟨dn.rest.toArray⟩) (.int .i64 dn.err);refine bodyPost_ret (v:=.tuple #[.agg #[.string ⟨dn.rest.toArray⟩,.int .i64 dn.err],.int .u64 0]) (qQA results82 _ rfl (qZc hC)) rfl ⟨?_,hEz⟩;rw[HU.out];rfl
    ·have hbb:dn.err=0∧(((k:Int) == 0)&&((bn o:Int) == 128)||decide (144115188075855872≤(v:Int)))=true:=by
      obtain⟨a0,a1,a2,a3,a4⟩:=HFK.out;rw[←a0,←a1,←a2,←a3]at a4;simpa using a4.symm
     have hu:d.u=(0,⟨dn.rest,3⟩):=by rw[HI.out.eq];exact uu_bad HNX.out hbb.1 hbb.2
     have HU:=Hh hu;clear hu hbb;have hY2:=hY.set 1 (.int .i64 3)
     go_upto_region 8 with fail
     have hchY:Chg (· = y) wc (wc.setCell ⟨y,1,none⟩ (.int .i64 3)):=Chg.setCell (S:=(· = y)) (p:=⟨y,1,none⟩) (Er wc).chg (.inl rfl) _;have hQ2:=hQ.chg hchY hne2;have hE2:=hE.setCell (p:=⟨y,1,none⟩) (show w.heap.size≤y by omega) (.int .i64 3);generalize wc.setCell ⟨y,1,none⟩ (.int .i64 3)=W2 at hQ2 hE2 hY2⊢;clear hX hQ hE hY hchY y0 y1 g1;have y0:=hY2.cell 0;have y1:=hY2.cell 1;have q0:=hQ2.cell 0;have q1:=hQ2.cell 1;have f0:=hQ2.frozen 0;have f1:=hQ2.frozen 1;simp at y0 y1 q0 q1;go_wp2_with fail
     have hC:=qZf hQ2 (.string ⟨dn.rest.toArray⟩) (.int .i64 3);have hEz:=qZg hE2 (show w.heap.size≤x+1 by omega) (.string ⟨dn.rest.toArray⟩) (.int .i64 3);refine bodyPost_ret (v:=.tuple #[.agg #[.string ⟨dn.rest.toArray⟩,.int .i64 3],.int .u64 0]) (qQA results82 _ rfl (qZc hC)) rfl ⟨?_,hEz⟩;rw[HU.out];rfl
  ·obtain rfl:k=10:=by omega
   have HF:=Hh (fun W (dn:Dc)=>rfail_any W dn 3)
   have hu:d.u=(0,d'.next.2.fail 3):=by
    obtain⟨h1,h2⟩:=HI.out.pos (by omega);rw[HI.out.eq];unfold uu Dc.next;rw[if_pos h2,if_pos h2];cases hr:d'.rest with
    | nil=>rfl
    | cons c r =>
     have h3:144115188075855871<v:=Nat.lt_of_lt_of_le (by decide) h1;simp only[qZO];rw[if_pos (by simp[h3])];unfold Dc.fail;simp[h2]
   have HU:=Hh hu;clear hu;go_wp2_with fail
   refine HC.out.mono ?_;rintro e w1 ⟨rfl,hE1⟩;have hQ1:=hQ.ext hE1;have hEx:=hE.trans hE1;clear hX hQ hE hE1 x0 x1 HC;generalize d'.next.2=dn at HU⊢;generalize d'.next.1=o;have hY:=At.new w1 157 #[.string ⟨dn.rest.toArray⟩,.int .i64 dn.err];have hEy:=(Er w1).alloc (.cells #[.string ⟨dn.rest.toArray⟩,.int .i64 dn.err] 157)
   go_upto_region 15 with fail
   have hQ:=hQ1.ext hEy;have hE:=hEx.trans hEy;generalize w1.alloc _=W1 at hQ hE hY⊢;generalize w1.heap.size=y at hY⊢;clear hQ1 hEx hEy;have y0:=hY.cell 0;have y1:=hY.cell 1;simp at y0 y1;have HC2:=Hh (show Calls prog 113 #[.agg #[.string ⟨dn.rest.toArray⟩,.int .i64 dn.err],.int .i64 3] W1 fun e w'=>e=.returned (.agg #[.string ⟨(dn.fail 3).rest.toArray⟩,.int .i64 (dn.fail 3).err])∧Ext W1 w' from HF.out W1 dn);go_wp2_with fail
   refine HC2.out.mono ?_;rintro e w2 ⟨rfl,hE2⟩;have hQ2:=hQ.ext hE2;have hEx:=hE.trans hE2;clear hQ hE hE2 hY y0 y1 HC2 HF;generalize dn.fail 3=dz at HU⊢;have q0:=hQ2.cell 0;have q1:=hQ2.cell 1;have f0:=hQ2.frozen 0;have f1:=hQ2.frozen 1;simp at q0 q1;go_wp2_with fail
   have hC:=qZf hQ2 (.string ⟨dz.rest.toArray⟩) (.int .i64 dz.err);have hEz:=qZg hEx (show w.heap.size≤x+1 by omega) (.string ⟨dz.rest.toArray⟩) (.int .i64 dz.err);refine bodyPost_ret (v:=.tuple #[.agg #[.string ⟨dz.rest.toArray⟩,.int .i64 dz.err],.int .u64 0]) (qQA results82 _ rfl (qZc hC)) rfl ⟨?_,hEz⟩;rw[HU.out];rfl
end Go.Proofs.YtimjipcplmnpbaaGreat
