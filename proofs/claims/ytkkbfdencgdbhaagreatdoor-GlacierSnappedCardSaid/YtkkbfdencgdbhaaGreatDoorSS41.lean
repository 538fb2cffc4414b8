/-
  Part 41 of what the law leans on.
-/
import Derived.Test.YtkkbfdencgdbhaaGreatDoorSS30
import Derived.Test.YtkkbfdencgdbhaaGreatDoorSS34
import Derived.Test.YtkkbfdencgdbhaaGreatDoorSS35
import Derived.Test.YtkkbfdencgdbhaaGreatDoorSS40
set_option linter.unusedVariables false
set_option linter.unusedSimpArgs false
set_option linter.unusedSectionVars false
namespace Go.Proofs.YtkkbfdencgdbhaaGreatDoor
open Go.RowKit Go.Sort
theorem strR_info:(Tryz.prog.info? 9).map (fun i=>(i.zero,i.size,i.bytes))=some (some (.string ByteArray.empty),1,16):=by kernel_rfl
def resA(r:Rs)(nv:Value):Array Value:=#[.int .i64 r.err,.int .u64 (r.blob:Int),.int .i64 r.size,.int .u32 (r.sum:Int),nv]
structure Sst (w0 w:World) (dB:Nat) (s:ByteArray) (d:Dc) (q rb:Nat) (r:Rs) (nv:Value):Prop where
 chg:Chg (· = dB) w0 w
 dec:DecAt w dB s d
 box:At w q 34 (resA (Rs.er 0) (.slice none 0 0))
 at_:At w rb 34 (resA r nv)
 own:w.ownsRow w0.heap.size 9 1 nv r.names.length (r.names.map Value.string)
 new:w0.heap.size≤q∧w0.heap.size≤rb∧q≠rb
 old:dB<w0.heap.size
section
variable{w0 w w':World}{dB q rb:Nat}{s:ByteArray}{d d':Dc}{r r':Rs}{nv nv':Value}
theorem Sst.call(h:Sst w0 w dB s d q rb r nv)(hT:DecTo w w' dB s d'):Sst w0 w' dB s d' q rb r nv :=
 ⟨h.chg.trans hT.1 (fun _ _ e=>e),hT.2,h.box.chg hT.1 (fun e=>h.dec.apart h.box (by decide) e.symm),h.at_.chg hT.1 (fun e=>h.dec.apart h.at_ (by decide) e.symm),own_keep h.own hT.1 (h.dec.ownApart h.own (by decide)),h.new,h.old⟩
theorem Sst.set(h:Sst w0 w dB s d q rb r nv)(k:Nat)(v:Value)(he:(resA r nv).setIfInBounds k v=resA r' nv')(hO:w.ownsRow w0.heap.size 9 1 nv' r'.names.length (r'.names.map Value.string)) :
 Sst w0 (w.setCell ⟨rb,k,none⟩ v) dB s d q rb r' nv':=by
 have hA:=h.at_.set k v
 rw[he]at hA
 have hc:Chg (· = rb) w (w.setCell ⟨rb,k,none⟩ v):=Chg.setCell (p:=⟨rb,k,none⟩) (Chg.refl (· = rb) w) (.inl rfl) v
 exact⟨Chg.setCell h.chg (.inr h.new.2.1) v,h.dec.chg hc (fun e=>h.dec.apart h.at_ (by decide) e),h.box.chg hc h.new.2.2,hA,own_keep hO hc (own_apart' hO h.at_ (by decide)),h.new,h.old⟩
end
theorem rdR_all{d:Dc}{er bl sz su n:Nat×Dc}{nm:List ByteArray×Dc}(h1:d.i 17=er)(h2:er.2.u=bl)(h3:bl.2.i 4000=sz)(h4:sz.2.u=su)(h5:(sumF su).i 100000=n)(h6:rdNms n.1 [] n.2=nm):rdR d=⟨er,bl,sz,su,n,nm⟩:=by
 subst h1 h2 h3 h4 h5 h6;rfl
def RrOut(w:World)(dB:Nat)(s:ByteArray)(d:Dc)(e:Ending)(w':World):Prop :=
 ∃A c,e=.returned (.agg (resA (rdR d).r (.slice A (rdR d).r.names.length c)))∧w'.ownsRow w.heap.size 9 1 (.slice A (rdR d).r.names.length c) (rdR d).r.names.length ((rdR d).r.names.map Value.string)∧DecTo w w' dB s (rdR d).nm.2
theorem Sst.out{w0 w:World}{dB q rb:Nat}{s:ByteArray}{d0 d:Dc}{r:Rs}{A:Option Addr}{n c:Nat}(h:Sst w0 w dB s d q rb r (.slice A n c))(hn:n=r.names.length)(hr:(rdR d0).r=r)(hd:(rdR d0).nm.2=d) :
 RrOut w0 dB s d0 (.returned (.agg (resA r (.slice A n c)))) (w.setCells q 0 (resA r (.slice A n c)).toList)∧(loadVar 34 ⟨q,0,none⟩).run Tryz.prog (w.setCells q 0 (resA r (.slice A n c)).toList)=.ok (.agg (resA r (.slice A n c))) (w.setCells q 0 (resA r (.slice A n c)).toList):=by
 have hch:Chg (· = q) w (w.setCells q 0 (resA r (.slice A n c)).toList):=chg_setCells _ _
 have hQ:At (w.setCells q 0 (resA r (.slice A n c)).toList) q 34 (resA r (.slice A n c)):=At.cells_all h.box rfl
 refine⟨⟨A,c,?_,?_,?_,?_⟩,?_⟩
 ·rw[hr,←hn]
 ·rw[hr,←hn]
  have:=own_keep h.own hch (own_apart' h.own h.box (by decide))
  rwa[←hn]at this
 ·exact h.chg.trans hch (fun k hk e=>by have:=h.new.1;have e':k=q:=e;omega)
 ·rw[hd];exact h.dec.chg hch (fun e=>h.dec.apart h.box (by decide) e)
 ·have:=run_loadVar_mid (P:=Tryz.prog) _ q 0 34 (resA r (.slice A n c)).toList _ hQ.range Tryz.underlying34 rfl cres_info
  simpa using this
set_option maxRecDepth 100000 in
set_option maxHeartbeats 8000000 in
theorem readRes_any(w:World)(dB:Nat)(s:ByteArray)(d:Dc)(h:DecAt w dB s d) :
 Calls Tryz.prog 58 #[.pointer (some ⟨dB,0,none⟩)] w (RrOut w dB s d):=by
 go_enter Tryz.func58,Tryz.ntmps58
 have hQ:=(At.new w 34 (resA (Rs.er 0) (.slice none 0 0))).alloc (.cells (resA (Rs.er 0) (.slice none 0 0)) 34)
 have hP:=At.new (w.alloc (.cells (resA (Rs.er 0) (.slice none 0 0)) 34)) 34 (resA (Rs.er 0) (.slice none 0 0))
 have hE:=((Ext.refl w).alloc (.cells (resA (Rs.er 0) (.slice none 0 0)) 34)).alloc (.cells (resA (Rs.er 0) (.slice none 0 0)) 34)
 rw[show(w.alloc (.cells (resA (Rs.er 0) (.slice none 0 0)) 34)).heap.size=w.heap.size+1 by simp]at hP
 go_upto_region 2 with fail
 obtain⟨q,hq⟩:∃q,w.heap.size=q:=⟨_,rfl⟩
 have h0:Sst w ((w.alloc (.cells (resA (Rs.er 0) (.slice none 0 0)) 34)).alloc (.cells (resA (Rs.er 0) (.slice none 0 0)) 34)) dB s d q (q+1) (Rs.er 0) (.slice none 0 0):=⟨hE.chg,h.chg hE (fun e=>e),by rw[←hq];exact hQ,by rw[←hq];exact hP,own_nil _ _ _,⟨by omega,by omega,by omega⟩,h.lt⟩
 rw[hq]
 clear hQ hP hE h hq
 unfold resA Rs.er at h0
 generalize (w.alloc _).alloc _=W at h0⊢
 obtain⟨rb,hrb⟩:∃rb,q+1=rb:=⟨_,rfl⟩
 rw[hrb]at h0⊢
 clear hrb
 go_wp2_with fail
 refine(di_any _ dB s _ h0.dec 17 (by decide) (by decide)).mono ?_
 rintro e w1 ⟨rfl,hT⟩
 have h1:=h0.call hT
 generalize hv:d.i 17=er at h1⊢
 have Her:=Lib.hid hv
 clear h0 hT hv
 have c0:=h1.at_.cell 0
 have f0:=h1.at_.frozen 0
 simp[resA]at c0
 go_wp2_with fail
 have h0:=h1.set (r':=⟨er.1,0,0,0,[]⟩) (nv':=.slice none 0 0) 0 (.int .i64 (er.1:Int)) rfl h1.own
 generalize World.setCell _ _ _=W at h0⊢
 clear h1 c0 f0
 refine(du_any _ dB s _ h0.dec).mono ?_
 rintro e w1 ⟨rfl,hT⟩
 have h1:=h0.call hT
 generalize hv:er.2.u=bl at h1⊢
 have Hbl:=Lib.hid hv
 clear h0 hT hv
 have c0:=h1.at_.cell 1
 have f0:=h1.at_.frozen 1
 simp[resA]at c0
 go_wp2_with fail
 have h0:=h1.set (r':=⟨er.1,bl.1,0,0,[]⟩) (nv':=.slice none 0 0) 1 (.int .u64 (bl.1:Int)) rfl h1.own
 generalize World.setCell _ _ _=W at h0⊢
 clear h1 c0 f0
 refine(di_any _ dB s _ h0.dec 4000 (by decide) (by decide)).mono ?_
 rintro e w1 ⟨rfl,hT⟩
 have h1:=h0.call hT
 generalize hv:bl.2.i 4000=sz at h1⊢
 have Hsz:=Lib.hid hv
 clear h0 hT hv
 have c0:=h1.at_.cell 2
 have f0:=h1.at_.frozen 2
 simp[resA]at c0
 go_wp2_with fail
 have h0:=h1.set (r':=⟨er.1,bl.1,sz.1,0,[]⟩) (nv':=.slice none 0 0) 2 (.int .i64 (sz.1:Int)) rfl h1.own
 generalize World.setCell _ _ _=W at h0⊢
 clear h1 c0 f0
 refine(du_any _ dB s _ h0.dec).mono ?_
 rintro e w1 ⟨rfl,hT⟩
 have h1:=h0.call hT
 generalize hv:sz.2.u=su at h1⊢
 have Hsu:=Lib.hid hv
 clear h0 hT hv
 go_upto_if 19 with fail
 go_cut []from 18 to 21 (fun wx=>Sst w wx dB s (sumF su) q rb ⟨er.1,bl.1,sz.1,0,[]⟩ (.slice none 0 0))
 case first =>
  by_cases hbig:4294967295<su.1
  ·have e1:sumF su=su.2.fail 3:=by unfold sumF;rw[if_pos (by simpa using hbig)]
   go_wp2_with fail
   refine(dfail_any _ dB s _ h1.dec 3 (by decide)).mono ?_
   rintro e w2 ⟨rfl,hT⟩
   have h2:=h1.call hT
   go_wp2_with fail
   go_meet
   case rel=>rw[e1];exact h2
  ·have e1:sumF su=su.2:=by unfold sumF;rw[if_neg (by simpa using hbig)]
   go_wp2_with fail
   go_meet
   case rel=>rw[e1];exact h1
 case rest =>
 clear h1
 have h1:=hcut
 clear hcut
 have hw:IntKind.u32.wrap (su.1:Int)=((su.1 % 4294967296:Nat):Int):=by simp[IntKind.wrap,IntKind.bits,IntKind.signed]
 have c0:=h1.at_.cell 3
 have f0:=h1.at_.frozen 3
 simp[resA]at c0
 go_wp2_with fail
 have h0:=h1.set (r':=⟨er.1,bl.1,sz.1,su.1 % 4294967296,[]⟩) (nv':=.slice none 0 0) 3 (.int .u32 ((su.1:Int) % 4294967296)) rfl h1.own
 generalize World.setCell _ _ _=W at h0⊢
 clear h1 c0 f0
 clear hw
 obtain⟨sm,hsm⟩:∃sm,su.1 % 4294967296=sm:=⟨_,rfl⟩
 rw[hsm]at h0
 have HSM:=Lib.hid hsm
 clear hsm
 refine(di_any _ dB s _ h0.dec 100000 (by decide) (by decide)).mono ?_
 rintro e w1 ⟨rfl,hT⟩
 have h1:=h0.call hT
 generalize hv:(sumF su).i 100000=nn at h1⊢
 have Hnn:=Lib.hid hv
 clear h0 hT hv
 have hNl:(nn.1:Int)≤100000:=by have:=di_le (sumF su) 100000 (by decide);rw[Hnn.out]at this;exact this
 obtain⟨N,d0⟩:=nn
 simp only at hNl h1
 obtain⟨NM,hNM⟩:∃NM,rdNms N [] d0=NM:=⟨_,rfl⟩
 have HNM:=Lib.hid hNM
 have HALL:Hid (rdR d=⟨er,bl,sz,su,(N,d0),NM⟩):=Lib.hid (rdR_all Her.out Hbl.out Hsz.out Hsu.out Hnn.out hNM)
 clear hNM
 go_wp2_with fail
 go_loopw [28] (fun kv wr=>∃(k:Nat) (L:List ByteArray) (d':Dc) (A:Option Addr) (c:Nat),kv=.int .i64 (k:Int)∧k≤N∧L.length=k∧Hid (rdNms (N - k) L d'=NM)∧Sst w wr dB s d' q rb ⟨er.1,bl.1,sz.1,sm,L⟩ (.slice A k c)) (fun kv _=>N - (intOf kv).toNat)
 case atStart=>exact⟨0,[],d0,none,0,rfl,Nat.zero_le _,rfl,HNM,h1⟩
 case round =>
  clear h1
  obtain⟨k,L,d',A,c,rfl,hk,hLk,HB,h0⟩:=hrel
  by_cases hlt:k<N
  ·obtain⟨mm,hm⟩:∃m,N - k=m+1:=⟨N - k - 1,by omega⟩
   have hB1:=HB.out
   have HM:=Lib.hid hm
   rw[hm]at hB1
   unfold rdNms at hB1
   have HB1:=Lib.hid hB1
   clear hB1 hm
   go_wp2_with fail
   refine(ds_any _ dB s _ h0.dec 32 (by decide) (by decide)).mono ?_
   rintro e w1 ⟨rfl,hT⟩
   have h1:=h0.call hT
   clear h0 hT
   generalize d'.s 32=t at h1 HB1⊢
   go_wp2_with fail
   refine(derr_any _ dB s _ h1.dec).mono ?_
   rintro e w2 ⟨rfl,hw2⟩
   subst hw2
   by_cases he:t.2.err=0
   ·have hB2:=HB1.out
    rw[if_pos he]at hB2
    have HB2:=Lib.hid hB2
    clear hB2
    have c4:=h1.at_.cell 4
    have f4:=h1.at_.frozen 4
    simp[resA]at c4
    have hsz:w.heap.size≤w2.heap.size:=h1.chg.size
    have hOk:=h1.own
    rw[show(⟨er.1,bl.1,sz.1,sm,L⟩:Rs).names=L from rfl,hLk]at hOk
    go_wp2_with (at_builtin;refine wpList_append_row2 _ hOk 32 Tryz.underlying32 strR_info rfl rfl (by decide) (by decide) rfl (by omega) hsz rfl _ _ rfl rfl rfl ?_)
    intro v9 w9 hO9 hC9 _
    obtain⟨A9,c9,rfl⟩:=own_slc hO9
    have hdo:=h1.dec.ownApart hOk (by decide)
    have hD9:DecAt w9 dB s t.2:=h1.dec.chg hC9 (fun e=>hdo dB e rfl)
    have hQ9:=h1.box.chg hC9 (fun e=>own_apart' hOk h1.box (by decide) q e rfl)
    have hP9:=h1.at_.chg hC9 (fun e=>own_apart' hOk h1.at_ (by decide) rb e rfl)
    have hX9:Chg (· = dB) w w9:=h1.chg.trans hC9 (fun b hb e=>by have:=(hOk.lt b e.symm).1;omega)
    have hcS:Chg (· = rb) w9 (w9.setCell ⟨rb,4,none⟩ (.slice A9 (k+1) c9)):=Chg.setCell (p:=⟨rb,4,none⟩) (Chg.refl (· = rb) w9) (.inl rfl) _
    have hO9':w9.ownsRow w.heap.size 9 1 (.slice A9 (k+1) c9) (L++[(⟨t.1.toArray⟩:ByteArray)]).length ((L++[(⟨t.1.toArray⟩:ByteArray)]).map Value.string):=by
     have:=hO9
     rw[List.length_append,hLk,List.map_append]
     exact this
    have h9:Sst w (w9.setCell ⟨rb,4,none⟩ (.slice A9 (k+1) c9)) dB s t.2 q rb ⟨er.1,bl.1,sz.1,sm,L++[⟨t.1.toArray⟩]⟩ (.slice A9 (k+1) c9):=⟨Chg.setCell hX9 (.inr h1.new.2.1) _,hD9.chg hcS (fun e=>h1.dec.apart h1.at_ (by decide) e),hQ9.chg hcS h1.new.2.2,hP9.set 4 _,own_keep hO9' hcS (own_apart' hO9' hP9 (by decide)),h1.new,h1.old⟩
    have f9:=hP9.frozen 4
    have c9':=hP9.cell 4
    simp[resA]at c9'
    have H9:=Lib.hid h9
    clear h9 hO9 hO9' hX9 hcS hD9 hQ9 hP9 hC9 hdo hOk h1 c4 f4 hsz
    go_wp2_with fail
    go_roundw
    case rel=>exact⟨k+1,L++[⟨t.1.toArray⟩],t.2,A9,c9,by go_num,by omega,by simp[hLk],Lib.hid (by rw[show N - (k+1)=mm by have:=HM.out;omega];exact HB2.out),H9.out⟩
    case measure=>simp[intOf];omega
   ·have hB2:=HB1.out
    rw[if_neg he]at hB2
    have HN:k=L.length:=hLk.symm
    have HR:(⟨er,bl,sz,su,(N,d0),NM⟩:Rr).r=⟨er.1,bl.1,sz.1,sm,L⟩:=by rw[←hB2,←HSM.out];rfl
    have HD:(⟨er,bl,sz,su,(N,d0),NM⟩:Rr).nm.2=t.2:=by rw[←hB2]
    clear hB2
    have HOUT:=h1.out (r:=⟨er.1,bl.1,sz.1,sm,L⟩) (d0:=d) HN (by rw[HALL.out];exact HR) (by rw[HALL.out];exact HD)
    have HRB:=Lib.hid h1.at_.range
    have HTQ:Hid (w2.there q 0 5):=Lib.hid h1.box.there
    have HF:=Lib.hid HOUT.1
    have HL:=Lib.hid HOUT.2
    clear HOUT HN HR HD h1
    unfold resA at HRB HTQ HF HL
    simp only at HRB HTQ HF HL
    have heb:(t.2.err != 0)=true:=by simp[he]
    go_upto_region 14 with fail
    go_wp2_with (first|(refine wpList_load_mid rfl 34 _ rfl rb 0 rfl _ _ HRB.out Tryz.underlying34 rfl cres_info ?_)|(refine wpList_store_mid rfl 34 _ _ rfl q 0 #[.int .i64 (er.1:Int),.int .u64 (bl.1:Int),.int .i64 (sz.1:Int),.int .u32 (sm:Int),.slice A k c] rfl rfl HTQ.out cres_info (by simp[Value.oneCell']) ?_))
    refine bodyPost_ret (v:=.agg #[.int .i64 (er.1:Int),.int .u64 (bl.1:Int),.int .i64 (sz.1:Int),.int .u32 (sm:Int),.slice A k c]) (results_one Tryz.results58 _ rfl HL.out) rfl ?_
    exact HF.out
  ·obtain rfl:k=N:=by omega
   have hB2:=HB.out
   rw[Nat.sub_self]at hB2
   have HN:k=L.length:=hLk.symm
   have HR:(⟨er,bl,sz,su,(k,d0),NM⟩:Rr).r=⟨er.1,bl.1,sz.1,sm,L⟩:=by rw[←hB2,←HSM.out];rfl
   have HD:(⟨er,bl,sz,su,(k,d0),NM⟩:Rr).nm.2=d':=by rw[←hB2];rfl
   clear hB2
   have HOUT:=h0.out (r:=⟨er.1,bl.1,sz.1,sm,L⟩) (d0:=d) HN (by rw[HALL.out];exact HR) (by rw[HALL.out];exact HD)
   have HRB:=Lib.hid h0.at_.range
   have HTQ:Hid (wr.there q 0 5):=Lib.hid h0.box.there
   have HF:=Lib.hid HOUT.1
   have HL:=Lib.hid HOUT.2
   clear HOUT HN HR HD h0
   unfold resA at HRB HTQ HF HL
   simp only at HRB HTQ HF HL
   go_upto_region 17 with fail
   go_wp2_with (first|(refine wpList_load_mid rfl 34 _ rfl rb 0 rfl _ _ HRB.out Tryz.underlying34 rfl cres_info ?_)|(refine wpList_store_mid rfl 34 _ _ rfl q 0 #[.int .i64 (er.1:Int),.int .u64 (bl.1:Int),.int .i64 (sz.1:Int),.int .u32 (sm:Int),.slice A k c] rfl rfl HTQ.out cres_info (by simp[Value.oneCell']) ?_))
   refine bodyPost_ret (v:=.agg #[.int .i64 (er.1:Int),.int .u64 (bl.1:Int),.int .i64 (sz.1:Int),.int .u32 (sm:Int),.slice A k c]) (results_one Tryz.results58 _ rfl HL.out) rfl ?_
   exact HF.out
end Go.Proofs.YtkkbfdencgdbhaaGreatDoor
namespace Go.Proofs.YtkkbfdencgdbhaaGreatDoor
open Go.RowKit Go.Sort
section
variable{w w':World}{B:Nat→Prop}{m c mb mn mc dB:Nat}{M:Mach}{rows:Rows14}{s:ByteArray}{d:Dc}
theorem MAt.dec(h:MAt w B m c mb mn mc M rows)(hD:DecAt w dB s d)(hC:Chg (· = dB) w w'):MAt w' B m c mb mn mc M rows:=by
 obtain⟨_,_,_,k,_,_,h6⟩:=hD
 exact h.away h6 (by decide) (by decide) (by decide) (by decide) (by decide) hC
theorem MAt.setN(h:MAt w B m c mb mn mc M rows)(n:Int):MAt (w.setCell ⟨m,2,none⟩ (.int .i64 n)) B m c mb mn mc { M with n:=n } rows:=by
 have hC:Chg (· = m) w (w.setCell ⟨m,2,none⟩ (.int .i64 n)):=Chg.setCell (S:=(· = m)) (p:=⟨m,2,none⟩) (Ext.refl w).chg (.inl rfl) _
 exact⟨h.blk.set 2 _,h.cat.away h.blk (by decide) (by decide) (by decide) hC,h.cl,h.map.setCell _ _,fun p hp=>own_keep (h.nms p hp) hC (fun k hk e=>own_apart' (h.nms p hp) h.blk (by decide) k hk e),h.ne,h.lo,h.nb⟩
theorem MAt.setCat(h:MAt w B m c mb mn mc M rows){B':Nat→Prop}{c' mb' mn':Nat}{P:Pm}(hC:CatIn w B' c' mb' mn' P)(hB:∀b,B' b→B b)(hne:mc≠mb'∧mc≠mn'):MAt (w.setCell ⟨m,0,none⟩ (.pointer (some ⟨c',0,none⟩))) B m c' mb' mn' mc { M with P:=P } rows:=by
 have hS:Chg (· = m) w (w.setCell ⟨m,0,none⟩ (.pointer (some ⟨c',0,none⟩))):=Chg.setCell (S:=(· = m)) (p:=⟨m,0,none⟩) (Ext.refl w).chg (.inl rfl) _
 have hC2:CatIn w B c' mb' mn' P:=by
  obtain⟨C,h1,h2⟩:=hC
  exact⟨C,h1.moved (S:=fun _=>False) (Ext.refl w) (fun _ _ hh=>hh) (fun _ _ hA=>hA) (fun b _ hb=>hB b hb) (fun b hb=>h.cat.up b hb),h2⟩
 exact⟨h.blk.set 0 _,hC2.away h.blk (by decide) (by decide) (by decide) hS,h.cl,h.map.setCell _ _,fun p hp=>own_keep (h.nms p hp) hS (fun k hk e=>own_apart' (h.nms p hp) h.blk (by decide) k hk e),hne,h.lo,h.nb⟩
theorem MAt.put{w1:World}(h:MAt w B m c mb mn mc M rows)(hE:Ext w w1)(hmp:MapAt i64Way lastV w1 mc rows)(hC:Chg (· = mc) w1 w'){k:Int}{l:Last}{A:Option Addr}{cp:Nat}(hmp2:MapAt i64Way lastV w' mc ((k,(l,.slice A l.r.names.length cp))::ldel k rows))
 (hO:w.ownsRow 0 9 1 (.slice A l.r.names.length cp) l.r.names.length (l.r.names.map Value.string)) (hb:∀b,some b=(Value.slice A l.r.names.length cp).ownBlock→B b) :
 MAt w' B m c mb mn mc { M with cl:=(k,l)::ldel k M.cl } ((k,(l,.slice A l.r.names.length cp))::ldel k rows):=by
 refine⟨(h.blk.ext hE).chg hC (fun e=>hmp.ne_at (h.blk.ext hE) (Eq.symm e)),(h.cat.ext hE).away_map hmp h.ne.1 h.ne.2 hC,?_,hmp2,fun p hp=>?_,h.ne,h.lo,fun p hp=>?_⟩
 ·show(k,l)::(ldel k rows).map (fun p=>(p.1,p.2.1))=(k,l)::ldel k M.cl
  rw[←(show rows.map (fun p=>(p.1,p.2.1))=M.cl from h.cl)]
  unfold ldel
  rw[List.filter_map]
  rfl
 ·rcases List.mem_cons.1 hp with rfl|hp
  ·exact own_keep (own_keep hO hE (fun _ _ hh=>hh)) hC (fun k hk e=>own_map (own_keep hO hE (fun _ _ hh=>hh)) hmp k hk e)
  ·exact own_keep (own_keep (h.nms p (List.mem_filter.1 hp).1) hE (fun _ _ hh=>hh)) hC (fun k hk e=>own_map (own_keep (h.nms p (List.mem_filter.1 hp).1) hE (fun _ _ hh=>hh)) hmp k hk e)
 ·rcases List.mem_cons.1 hp with rfl|hp
  ·exact hb
  ·exact h.nb p (List.mem_filter.1 hp).1
end
structure GPt (W0:World) (mc:Nat) (rows rows':Rows14) (γ : Nat→Value) (L:Nat→Bool) (w:World):Prop where
 pre:L 6=false→Ext W0 w
 put:L 6=true→∃w1,Ext W0 w1∧MapAt i64Way lastV w1 mc rows∧Chg (· = mc) w1 w∧MapAt i64Way lastV w mc rows'
theorem GPt.keep{W0:World}{mc:Nat}{rows rows':Rows14}{j:Nat}(hj:j<6):∀γ L w,GPt W0 mc rows rows' γ L w→L j=false→GPt W0 mc rows rows' γ (fun i=>i == j||L i) w:=by
 intro γ L w h _
 have k6:((6:Nat) == j||L 6)=L 6:=by rw[show((6:Nat) == j)=false by simp;omega,Bool.false_or]
 exact⟨fun hh=>h.pre (k6 ▸ hh),fun hh=>h.put (k6 ▸ hh)⟩
def SrOut(w:World)(s:ByteArray)(e:Ending)(w':World):Prop :=
 ((rdMach s.data.toList).2=0→∃m,e=.returned (.tuple #[.pointer (some ⟨m,0,none⟩),.int .i64 0])∧MachIn w' (Hi w.heap.size) m (rdMach s.data.toList).1) ∧
 ((rdMach s.data.toList).2≠0→e=.returned (.tuple #[.pointer none,.int .i64 (rdMach s.data.toList).2]))∧Ext w w'
theorem rdH_all{s:List UInt8}{c:Nat×Dc}{t:List UInt8×Dc}{n:Nat×Dc}(h1:(⟨s,0⟩:Dc).i 1099511627776=c)(h2:c.2.s 9223372036854775807=t)(h3:t.2.i 1048576=n):rdH ⟨s,0⟩=⟨c,t,n⟩:=by subst h1 h2 h3;rfl
theorem rdE_all{d:Dc}{k q:Nat×Dc}{r:Rr}(h1:d.i 1073741824=k)(h2:k.2.i 1073741824=q)(h3:rdR q.2=r):rdE d=⟨k,q,r⟩:=by subst h1 h2 h3;rfl
theorem rdMach_head{s:List UInt8}{q:Rh}(h:rdH ⟨s,0⟩=q)(he:q.n.2.err≠0):rdMach s=(Mach.empty,q.n.2.err):=by
 unfold rdMach
 rw[h,if_neg he]
theorem rdMach_cat{s:List UInt8}{q:Rh}(h:rdH ⟨s,0⟩=q)(he:q.n.2.err=0)(hc:(rdCat q.t.1).2≠0):rdMach s=(Mach.empty,(rdCat q.t.1).2):=by
 unfold rdMach
 rw[h,if_pos he,if_neg hc]
theorem rdMach_end{s:List UInt8}{q:Rh}(h:rdH ⟨s,0⟩=q)(he:q.n.2.err=0)(hc:(rdCat q.t.1).2=0){L:List (Int×Last)}{d:Dc}(hE:rdEs q.n.1 [] q.n.2=(L,d)) :
 rdMach s=if d.done.err=0 then(⟨(rdCat q.t.1).1,L.reverse,q.c.1⟩,0)else(Mach.empty,d.done.err):=by
 unfold rdMach
 rw[h,if_pos he,if_pos hc,hE]
theorem ldel_asc{L:List (Int×Last)}{k:Int}(h:∀p∈L,p.1<k):ldel k L.reverse=L.reverse:=by
 unfold ldel
 refine List.filter_eq_self.2 fun p hp=>?_
 have:=h p (List.mem_reverse.1 hp)
 simp;omega
theorem lastK_snoc(L:List (Int×Last))(e:Int×Last):lastK (L++[e])=e.1:=by
 unfold lastK
 rw[List.getLast?_append]
 simp
theorem sr_err{w w':World}{s:ByteArray}{P:Pm}{n:Int}{RE:List (Int×Last)×Dc}{L:List (Int×Last)}{dd:Dc}(hEnd:rdMach s.data.toList=if RE.2.done.err=0 then(⟨P,RE.1.reverse,n⟩,0)else(Mach.empty,RE.2.done.err))(hRE:(L,dd)=RE)(he:dd.err≠0)(hX:Ext w w'):SrOut w s (.returned (.tuple #[.pointer none,.int .i64 dd.err])) w':=by
 subst hRE
 simp only at hEnd
 rw[Dc.done_stays he,if_neg he]at hEnd
 unfold SrOut
 rw[hEnd]
 exact⟨fun e=>absurd e he,fun _=>rfl,hX⟩
theorem fail_ne(d:Dc):(d.fail 3).err≠0:=by
 unfold Dc.fail
 split
 ·show(3:Int)≠0
  decide
 ·assumption
theorem ckE_true{L:List (Int×Last)}{e:Int×Last}{d:Dc}(h:(decide (e.1≤lastK L)||(e.2.seq == 0))=true):ckE L e d=d.fail 3:=by
 unfold ckE
 rw[if_pos]
 simpa using h
theorem ckE_false{L:List (Int×Last)}{e:Int×Last}{d:Dc}(h:(decide (e.1≤lastK L)||(e.2.seq == 0))=false):ckE L e d=d∧lastK L<e.1∧e.2.seq≠0:=by
 have h2:¬ ((decide (e.1≤lastK L)||decide (e.2.seq=0))=true):=by simp at h⊢;omega
 refine⟨?_,?_,?_⟩
 ·unfold ckE
  rw[if_neg h2]
 ·simp at h;omega
 ·simp at h;omega
set_option maxRecDepth 100000 in
set_option maxHeartbeats 8000000 in
theorem sread_any(w:World)(s:ByteArray)(hs:s.size≤140737488355328):Calls Tryz.prog 19 #[.string s] w (SrOut w s):=by
 go_enter Tryz.func19,Tryz.ntmps19
 go_wp2_with fail
 refine(from_any w s hs).mono ?_
 rintro e w1 ⟨dB,rfl,hdB,hD1,hE1⟩
 go_wp2_with fail
 have hN:=snew_any w1
 have hwB:=hE1.size
 have hdl:=hD1.lt
 refine hN.mono ?_
 rintro e w2 ⟨m,rfl,⟨c0,mb0,mn0,mc,rows0,hM2⟩,hE2⟩
 have hr0:rows0=[]:=by simpa[Mach.empty]using hM2.cl
 subst hr0
 have hD2:=hD1.chg hE2 (fun e=>e)
 have X2:=hE1.trans hE2
 obtain⟨B,hBe⟩:∃B,w1.heap.size=B:=⟨_,rfl⟩
 rw[hBe]at hM2 hwB hdl
 have HB:=Lib.hid (And.intro hwB (And.intro hdl hdB))
 clear hN hD1 hE1 hE2 hBe hwB hdl hdB
 go_wp2_with fail
 refine(di_any _ dB s _ hD2 1099511627776 (by decide) (by decide)).mono ?_
 rintro e w3 ⟨rfl,hT⟩
 have hM3:=hM2.dec hD2 hT.1
 have hD3:=hT.2
 have X3:Ext w w3:=Chg.mono (Chg.trans (Ext.chg (S:=(· = dB)) X2) hT.1 (fun _ _ e=>e)) (fun k hk e=>by have e':k=dB:=e;have:=HB.out;omega)
 clear hT hD2 X2 hM2
 generalize hv:Dc.i ⟨s.data.toList,0⟩ 1099511627776=cn at hD3⊢
 have HC:=Lib.hid hv
 clear hv
 obtain⟨m0,m1,m2,mf⟩:=hM3.cells
 have hdm:dB≠m:=hD3.apart hM3.blk (by decide)
 go_upto_region 4 with fail
 have hM4:=hM3.setN (cn.1:Int)
 have hmB:w.heap.size≤m:=by have:B≤m:=hM3.lo.1;have:=HB.out;omega
 have hch:Chg (· = m) w3 (w3.setCell ⟨m,2,none⟩ (.int .i64 (cn.1:Int))):=Chg.setCell (S:=(· = m)) (p:=⟨m,2,none⟩) (Ext.refl w3).chg (.inl rfl) _
 have hD4:=hD3.chg hch (fun e=>hdm e)
 have X4:Ext w (w3.setCell ⟨m,2,none⟩ (.int .i64 (cn.1:Int))):=X3.setCell (p:=⟨m,2,none⟩) hmB _
 clear hM3 hD3 X3 hch m0 m1 m2 mf
 generalize w3.setCell ⟨m,2,none⟩ (.int .i64 (cn.1:Int))=w4 at hM4 hD4 X4⊢
 go_wp2_with fail
 refine(ds_any _ dB s _ hD4 9223372036854775807 (by decide) (by decide)).mono ?_
 rintro e w5 ⟨rfl,hT⟩
 have hM5:=hM4.dec hD4 hT.1
 have hD5:=hT.2
 have X5:Ext w w5:=Chg.mono (Chg.trans (Ext.chg (S:=(· = dB)) X4) hT.1 (fun _ _ e=>e)) (fun k hk e=>by have e':k=dB:=e;have:=HB.out;omega)
 clear hT hD4 X4 hM4
 generalize hv:cn.2.s 9223372036854775807=tx at hD5⊢
 have HTX:=Lib.hid hv
 clear hv
 go_wp2_with fail
 refine(di_any _ dB s _ hD5 1048576 (by decide) (by decide)).mono ?_
 rintro e w6 ⟨rfl,hT⟩
 have hM6:=hM5.dec hD5 hT.1
 have hD6:=hT.2
 have X6:Ext w w6:=Chg.mono (Chg.trans (Ext.chg (S:=(· = dB)) X5) hT.1 (fun _ _ e=>e)) (fun k hk e=>by have e':k=dB:=e;have:=HB.out;omega)
 clear hT hD5 X5 hM5
 have hNl:=di_le tx.2 1048576 (by decide)
 generalize hv:tx.2.i 1048576=nn at hD6 hNl⊢
 have HH:Hid (rdH ⟨s.data.toList,0⟩=⟨cn,tx,nn⟩):=Lib.hid (rdH_all HC.out HTX.out hv)
 have HNN:=Lib.hid hv
 clear hv
 go_wp2_with fail
 refine(derr_any _ dB s _ hD6).mono ?_
 rintro e w7 ⟨rfl,hw7⟩
 subst hw7
 by_cases hne:nn.2.err=0
 rotate_left
 ·have hF:SrOut w s (.returned (.tuple #[.pointer none,.int .i64 nn.2.err])) w7:=by
   unfold SrOut
   rw[rdMach_head HH.out hne]
   exact⟨fun e=>absurd e hne,fun _=>rfl,X6⟩
  have HF:=Lib.hid hF
  have hneb:(nn.2.err != 0)=true:=by simp[hne]
  clear hF hM6 hD6 X6 HH HNN HTX HC hne
  go_wp2_with fail
  refine bodyPost_ret (v:=.tuple #[.pointer none,.int .i64 nn.2.err]) (by simp[results,Tryz.results19,go_sem]) rfl ?_
  exact HF.out
 have hsz:tx.1.length≤s.size:=by
  obtain⟨t0,_,_⟩:=i_step (d:=tx.2) (by rw[HNN.out];exact hne)
  obtain⟨c0',e2,_⟩:=s_step (d:=cn.2) (by rw[HTX.out];exact t0)
  obtain⟨_,e1,_⟩:=i_step (d:=⟨s.data.toList,0⟩) (by rw[HC.out];exact c0')
  rw[HTX.out]at e2
  rw[HC.out,e2]at e1
  have:=congrArg List.length e1
  unfold senc at this
  simp only[List.length_append]at this
  have e3:s.data.toList.length=s.size:=by simp
  have e4:(⟨tx.1.toArray⟩:ByteArray).data.toList.length=tx.1.length:=rfl
  omega
 have HNE:=Lib.hid hne
 have hcr:=cread_any w7 ⟨tx.1.toArray⟩ (by show tx.1.toArray.size≤_;rw[List.size_toArray];omega)
 have htx:(⟨tx.1.toArray⟩:ByteArray).data.toList=tx.1:=rfl
 unfold RdCatOut at hcr
 rw[htx]at hcr
 obtain⟨rc,hrc⟩:∃q,rdCat tx.1=q:=⟨_,rfl⟩
 rw[hrc]at hcr
 obtain⟨P,ce⟩:=rc
 simp only at hcr
 have HRC:=Lib.hid hrc
 have HCR:=Lib.hid hcr
 have hneb:(nn.2.err != 0)=false:=by simp[hne]
 clear hrc hcr htx hsz hne
 go_wp2_with fail
 refine HCR.out.mono ?_
 rintro e w8 ⟨hok,hno,hE8⟩
 have hM8:=hM6.ext hE8
 have hD8:=hD6.chg hE8 (fun e=>e)
 have X8:=X6.trans hE8
 have hmc6:=hM6.map.lt
 clear HCR hM6 hD6 X6 hE8
 by_cases hc0:ce=0
 rotate_left
 ·rw[hno hc0]
  have hF:SrOut w s (.returned (.tuple #[.pointer none,.int .i64 ce])) w8:=by
   have hcat:=rdMach_cat HH.out (by exact HNE.out) (by rw[HRC.out];exact hc0)
   simp only[HRC.out]at hcat
   unfold SrOut
   rw[hcat]
   exact⟨fun e=>absurd e hc0,fun _=>rfl,X8⟩
  have HF:=Lib.hid hF
  have hcb:(ce != 0)=true:=by simp[hc0]
  clear hF hM8 hD8 X8 HH HNN HTX HC hok hno hneb hc0
  go_wp2_with fail
  refine bodyPost_ret (v:=.tuple #[.pointer none,.int .i64 ce]) (by simp[results,Tryz.results19,go_sem]) rfl ?_
  exact HF.out
 obtain⟨B',c,mb,mn,hB',rfl,hCI⟩:=hok hc0
 have hnew:mc≠mb∧mc≠mn:=by
  obtain⟨C,hC,_⟩:=hCI
  have h1:B'≤mb:=hC.lo.2.1
  have h2:B'≤mn:=hC.lo.2.2.1
  constructor <;> omega
 have hBB:∀b,Hi B' b→Hi B b:=fun b hb=>by
  have hb':B'≤b:=hb
  have h1:B≤m:=hM8.lo.1
  have h2:B≤mc:=hM8.lo.2
  show B≤b
  omega
 have hM9:=hM8.setCat hCI hBB hnew
 obtain⟨m0,m1,m2,mf⟩:=hM8.cells
 have mf0:=hM8.blk.frozen 0
 have hch:Chg (· = m) w8 (w8.setCell ⟨m,0,none⟩ (.pointer (some ⟨c,0,none⟩))):=Chg.setCell (S:=(· = m)) (p:=⟨m,0,none⟩) (Ext.refl w8).chg (.inl rfl) _
 have hD9:=hD8.chg hch (fun e=>hdm e)
 have X9:Ext w (w8.setCell ⟨m,0,none⟩ (.pointer (some ⟨c,0,none⟩))):=X8.setCell (p:=⟨m,0,none⟩) hmB _
 have HJ:=Lib.hid (And.intro hM9 (And.intro hD9 X9))
 have HC0:=Lib.hid hc0
 have hcb:(ce != 0)=false:=by simp[hc0]
 clear hM8 hD8 X8 hch hM9 hD9 X9 hCI hnew hBB hok hno m1 m2 mf hc0 hneb
 go_upto_region 13 with fail
 obtain⟨hM9,hD9,X9⟩:=HJ.out
 clear HJ m0 mf0
 generalize w8.setCell ⟨m,0,none⟩ (.pointer (some ⟨c,0,none⟩))=w9 at hM9 hD9 X9⊢
 obtain⟨N,d0⟩:=nn
 simp only at hNl hD9
 obtain⟨RE,hRE⟩:∃RE,rdEs N [] d0=RE:=⟨_,rfl⟩
 have HRE:=Lib.hid hRE
 have HEND:Hid (rdMach s.data.toList=if RE.2.done.err=0 then(⟨P,RE.1.reverse,(cn.1:Int)⟩,0)else(Mach.empty,RE.2.done.err)):=Lib.hid (by
  have:=rdMach_end HH.out HNE.out (by rw[HRC.out];exact HC0.out) (L:=RE.1) (d:=RE.2) hRE
  rw[HRC.out]at this
  exact this)
 clear hRE
 go_wp2_with fail
 go_loopw [11,46] (fun bv kv wr=>∃(k:Nat) (L:List (Int×Last)) (d:Dc) (rows:Rows14),kv=.int .i64 (k:Int)∧bv=.int .i64 (lastK L)∧k≤N∧L.length=k∧Hid (rdEs (N - k) L d=RE)∧EsW L∧DecAt wr dB s d∧MAt wr (Hi B) m c mb mn mc ⟨P,L.reverse,(cn.1:Int)⟩ rows∧Ext w wr) (fun _ kv _=>N - (intOf kv).toNat)
 case atStart=>exact⟨0,[],d0,[],rfl,rfl,Nat.zero_le _,rfl,HRE,EsW.nil,hD9,hM9,X9⟩
 case round =>
  clear hM9 hD9 X9
  obtain⟨k,L,d,rows,rfl,rfl,hk,hLk,HBq,hEs,hD0,hM0,X0⟩:=hrel
  by_cases hlt:k<N
  ·obtain⟨mm,hm⟩:∃m,N - k=m+1:=⟨N - k - 1,by omega⟩
   have hB1:=HBq.out
   have HM:=Lib.hid hm
   rw[hm]at hB1
   unfold rdEs at hB1
   have HB1:=Lib.hid hB1
   have HES:=Lib.hid hEs
   clear hB1 hm HBq hEs
   go_wp2_with fail
   refine(di_any _ dB s d hD0 1073741824 (by decide) (by decide)).mono ?_
   rintro e w1 ⟨rfl,hT⟩
   have hM1:=hM0.dec hD0 hT.1
   have hD1:=hT.2
   have X1:Ext w w1:=Chg.mono (Chg.trans (Ext.chg (S:=(· = dB)) X0) hT.1 (fun _ _ e=>e)) (fun k hk e=>by have e':k=dB:=e;have:=HB.out;omega)
   clear hT hD0 X0 hM0
   generalize hv:d.i 1073741824=ck at hD1⊢
   have HCK:=Lib.hid hv
   clear hv
   go_wp2_with fail
   refine(di_any _ dB s _ hD1 1073741824 (by decide) (by decide)).mono ?_
   rintro e w2 ⟨rfl,hT⟩
   have hM2:=hM1.dec hD1 hT.1
   have hD2:=hT.2
   have X2:Ext w w2:=Chg.mono (Chg.trans (Ext.chg (S:=(· = dB)) X1) hT.1 (fun _ _ e=>e)) (fun k hk e=>by have e':k=dB:=e;have:=HB.out;omega)
   clear hT hD1 X1 hM1
   generalize hv:ck.2.i 1073741824=sq at hD2⊢
   have HSQ:=Lib.hid hv
   clear hv
   go_wp2_with fail
   refine(readRes_any _ dB s _ hD2).mono ?_
   rintro e w3 ⟨rA,rc,rfl,hO3,hT⟩
   have HOG:Hid (∀b,some b=(Value.slice rA (rdR sq.2).r.names.length rc).ownBlock→Hi B b):=Lib.hid fun b hb=>by
    have h1:=own_ge hO3 b hb
    have h2:B≤w2.heap.size:=hM2.cat.up _ (Nat.le_refl _)
    show B≤b
    omega
   have hO3:=own_base0 hO3
   have hM3:=hM2.dec hD2 hT.1
   have hD3:=hT.2
   have X3:Ext w w3:=Chg.mono (Chg.trans (Ext.chg (S:=(· = dB)) X2) hT.1 (fun _ _ e=>e)) (fun k hk e=>by have e':k=dB:=e;have:=HB.out;omega)
   clear hT hD2 X2 hM2
   generalize hv:rdR sq.2=rr at hD3 hO3 HOG⊢
   have HEE:Hid (rdE d=⟨ck,sq,rr⟩):=Lib.hid (rdE_all HCK.out HSQ.out hv)
   clear hv HCK HSQ
   unfold resA
   have hB2:B≤w3.heap.size:=hM3.cat.up _ (Nat.le_refl _)
   have hY:=At.new w3 86 #[.int .i64 (sq.1:Int),.int .i64 rr.r.err,.int .u64 (rr.r.blob:Int),.int .i64 rr.r.size,.int .u32 (rr.r.sum:Int),.slice rA rr.r.names.length rc]
   have hEy:=(Ext.refl w3).alloc (.cells #[.int .i64 (sq.1:Int),.int .i64 rr.r.err,.int .u64 (rr.r.blob:Int),.int .i64 rr.r.size,.int .u32 (rr.r.sum:Int),.slice rA rr.r.names.length rc] 86)
   go_upto_region 18 with fail
   have hM4:=hM3.ext hEy
   have hD4:=hD3.chg hEy (fun e=>e)
   have X4:=X3.trans hEy
   have hO4:=own_keep hO3 hEy (fun _ _ hh=>hh)
   generalize w3.alloc _=w4 at hY hM4 hD4 X4 hO4⊢
   obtain⟨y,hy⟩:∃y,w3.heap.size=y:=⟨_,rfl⟩
   rw[hy]at hY⊢
   clear hM3 hD3 X3 hO3 hEy hy
   have y0:=hY.cell 0
   simp at y0
   have HYR:=Lib.hid hY
   obtain⟨fk,hfk⟩:∃fk:Bool,fk=(decide ((ck.1:Int)≤lastK L)||((sq.1:Int) == 0)):=⟨_,rfl⟩
   have HFK:=Lib.hid hfk
   obtain⟨wo,hwo⟩:∃wo:World,wo=w4:=⟨_,rfl⟩
   have HJ4:=Lib.hid (And.intro hM4 (And.intro hD4 (And.intro X4 hO4)))
   clear hM4 hD4 X4 hO4 hY hfk
   go_cut [62]from 55 to 62 (fun tv wx=>tv=.bool fk∧wx=wo)
   case first =>
    by_cases h1:(ck.1:Int)≤lastK L
    ·obtain rfl:fk=true:=by rw[HFK.out];simp[h1]
     go_wp2_with fail
     go_meet
     case rel=>exact⟨by first|rfl|simp,hwo.symm⟩
    ·have h1b:decide ((ck.1:Int)≤lastK L)=false:=by simp;omega
     obtain⟨b2,hb2⟩:∃b2:Bool,((sq.1:Int) == 0)=b2:=⟨_,rfl⟩
     have hfb:fk=b2:=by rw[HFK.out,h1b,hb2];simp
     subst hfb
     go_wp2_with fail
     go_meet
     case rel=>exact⟨by first|rfl|simp|(rw[hb2])|(simp[hb2]),hwo.symm⟩
   case rest =>
    obtain⟨rfl,hwc⟩:=hcut
    subst hwc
    subst hwo
    obtain⟨hM4,hD4,X4,hO4⟩:=HJ4.out
    clear HJ4
    cases fk
    ·obtain⟨hck1,hck2,hck3⟩:=ckE_false (L:=L) (e:=(((ck.1:Nat):Int),(⟨((sq.1:Nat):Int),rr.r⟩:Last))) (d:=rr.nm.2) HFK.out.symm
     have hB3:=HB1.out
     rw[HEE.out]at hB3
     rw[show(⟨ck,sq,rr⟩:Re).e=(((ck.1:Nat):Int),(⟨((sq.1:Nat):Int),rr.r⟩:Last))from rfl,show(⟨ck,sq,rr⟩:Re).r=rr from rfl,hck1]at hB3
     have HB3:=Lib.hid hB3
     have HK2:=Lib.hid hck2
     have HK3:=Lib.hid hck3
     clear hB3 hck1 hck2 hck3
     go_wp2_with fail
     refine(derr_any _ dB s _ hD4).mono ?_
     rintro e w5 ⟨rfl,hw5⟩
     subst hw5
     by_cases he:rr.nm.2.err=0
     ·have heb:(rr.nm.2.err != 0)=false:=by simp[he]
      have hB4:=HB3.out
      rw[if_pos he]at hB4
      obtain⟨_,_,b1,b2,b3⟩:=e_step (d:=d) (by rw[HEE.out];exact he)
      rw[HEE.out]at b1 b2 b3
      have hES2:EsW (L++[(((ck.1:Nat):Int),(⟨((sq.1:Nat):Int),rr.r⟩:Last))]):=HES.out.snoc HK2.out ⟨b1.2,⟨by
       have h1:=b2.1
       have h2:=HK3.out
       have h3:(0:Int)≤((sq.1:Nat):Int):=h1
       have h4:((sq.1:Nat):Int)≠0:=h2
       show(1:Int)≤((sq.1:Nat):Int)
       omega,b2.2⟩,b3⟩
      have HB4:=Lib.hid hB4
      have HES2:=Lib.hid hES2
      clear hB4 hES2 b1 b2 b3 he HB3
      have HMM:=Lib.hid hM4
      have HDD:=Lib.hid hD4
      have HXX:=Lib.hid X4
      have HOO:=Lib.hid hO4
      have HOB:=Lib.hid (fun b (hb:some b=(Value.slice rA rr.r.names.length rc).ownBlock)=>HOG.out b hb)
      have HMC:=Lib.hid (fun w1 (hc:Ext w5 w1)=>((hM4.blk).ext hc).cell 1)
      have HYR2:=Lib.hid (fun w1 (hc:Ext w5 w1)=>(HYR.out.ext hc).range)
      have HMP:=Lib.hid (fun w1 (hc:Ext w5 w1)=>hM4.map.ext hc)
      clear hM4 hD4 X4 hO4 HYR y0
      go_upto_region 23 with fail
      refine wp_region_phi (Γ := Nat→Value) (sgφ [.val (.pointer (some ⟨m,0,none⟩)),.val (.pointer (some ⟨m,0,none⟩)),.val (.pointer (some ⟨m,1,none⟩)),.val (.map (some mc)),.val (.int .i64 (ck.1:Int)),.val (.agg #[.int .i64 (sq.1:Int),.int .i64 rr.r.err,.int .u64 (rr.r.blob:Int),.int .i64 rr.r.size,.int .u32 (rr.r.sum:Int),.slice rA rr.r.names.length rc]),.any])
       (GPt w5 mc rows (((ck.1:Int),((⟨(sq.1:Int),rr.r⟩:Last),.slice rA rr.r.names.length rc))::ldel (ck.1:Int) rows)) (by kernel_rfl) (by kernel_rfl) (by kernel_rfl) (fun _=>undef) ?inv ?steps ?fin
      case inv=>exact⟨fun _=>(Ext.refl w5).drew,fun hh=>(by cases hh)⟩
      case steps =>
       show StepsTo _ _ _ _ _ _ 7
       refine⟨⟨⟨⟨⟨⟨⟨trivial,?s0⟩,?s1⟩,?s2⟩,?s3⟩,?s4⟩,?s5⟩,?s6⟩
       case s0 =>
        refine sg_val (x:=.pointer (some ⟨m,0,none⟩)) rfl rfl rfl (GPt.keep (j:=0) (by omega)) fun γ L v a w1 st=>?_
        have e5:=st.far 5 (by kernel_rfl)
        simp at e5
        go_simp
       case s1 =>
        refine sg_val (x:=.pointer (some ⟨m,0,none⟩)) rfl rfl rfl (GPt.keep (j:=1) (by omega)) fun γ L v a w1 st=>?_
        have e0:=st.val 0 70 rfl (by kernel_rfl)
        rw[(st.φ 0 (by kernel_rfl):v 0=_)]at e0
        simp at e0
        go_simp
       case s2 =>
        refine sg_val (x:=.pointer (some ⟨m,1,none⟩)) rfl rfl rfl (GPt.keep (j:=2) (by omega)) fun γ L v a w1 st=>?_
        have e1:=st.val 1 71 rfl (by kernel_rfl)
        rw[(st.φ 1 (by kernel_rfl):v 1=_)]at e1
        simp at e1
        go_simp
       case s3 =>
        refine sg_val (x:=.map (some mc)) rfl rfl rfl (GPt.keep (j:=3) (by omega)) fun γ L v a w1 st=>?_
        have e2:=st.val 2 72 rfl (by kernel_rfl)
        rw[(st.φ 2 (by kernel_rfl):v 2=_)]at e2
        simp at e2
        have h6:L 6=false:=by
         cases hq:L 6 with
         | false=>rfl
         | true =>
          have q3:=st.down 6 3 hq (by kernel_rfl)
          have q99:=st.off;rw[q3]at q99;cases q99
        have q:=HMC.out w1 (st.inv.pre h6)
        simp at q
        go_simp
       case s4 =>
        refine sg_val (x:=.int .i64 (ck.1:Int)) rfl rfl rfl (GPt.keep (j:=4) (by omega)) fun γ L v a w1 st=>?_
        have e12:=st.far 12 (by kernel_rfl)
        simp at e12
        go_simp
       case s5 =>
        refine sg_val (x:=.agg #[.int .i64 (sq.1:Int),.int .i64 rr.r.err,.int .u64 (rr.r.blob:Int),.int .i64 rr.r.size,.int .u32 (rr.r.sum:Int),.slice rA rr.r.names.length rc]) rfl rfl rfl (GPt.keep (j:=5) (by omega)) fun γ L v a w1 st=>?_
        have e13:=st.far 13 (by kernel_rfl)
        simp at e13
        have h6:L 6=false:=by
         cases hq:L 6 with
         | false=>rfl
         | true =>
          have q5:=st.down 6 5 hq (by kernel_rfl)
          have q99:=st.off;rw[q5]at q99;cases q99
        exact exec_load_mid rfl (b:=y) (off:=0) (by simp[Act.eval,e13]) (HYR2.out w1 (st.inv.pre h6)) Tryz.underlying86 rfl last_info
       case s6 =>
        refine sg_skip rfl rfl rfl fun γ L v a w1 st=>?_
        have e3:=st.val 3 73 rfl (by kernel_rfl)
        rw[(st.φ 3 (by kernel_rfl):v 3=_)]at e3
        simp at e3
        have e4:=st.val 4 74 rfl (by kernel_rfl)
        rw[(st.φ 4 (by kernel_rfl):v 4=_)]at e4
        simp at e4
        have e5:=st.val 5 75 rfl (by kernel_rfl)
        rw[(st.φ 5 (by kernel_rfl):v 5=_)]at e5
        simp at e5
        have h6:L 6=false:=st.off
        have hEx:=st.inv.pre h6
        obtain⟨w2,hrun,hmp2,hch⟩:=(HMP.out w1 hEx).update (P:=Tryz.prog) (K:=i64Way) map_lasts Tryz.underlying3 (ck.1:Int) ((⟨(sq.1:Int),rr.r⟩:Last),.slice rA rr.r.names.length rc)
        have hrun2:(Instr.mapUpdate 79 (.map (some mc)) (.int .i64 (ck.1:Int)) (.agg #[.int .i64 (sq.1:Int),.int .i64 rr.r.err,.int .u64 (rr.r.blob:Int),.int .i64 rr.r.size,.int .u32 (rr.r.sum:Int),.slice rA rr.r.names.length rc])).run Tryz.prog w1=.ok () w2:=hrun
        refine⟨w2,by simp[execOp,Act.eval,e3,e4,e5,hrun2,Result.andThen],⟨fun hh=>by simp at hh,fun _=>⟨w1,hEx,HMP.out w1 hEx,hch,hmp2⟩⟩⟩
      case fin =>
       intro γ L' v wz hall hG hφ
       obtain⟨w1,hE1,hmp1,hch,hmp2⟩:=hG.put (hall 6 (by decide))
       have hM:=HMM.out
       have hD:=HDD.out
       have hbU:∀b,some b=(Value.slice rA rr.r.names.length rc).ownBlock→Hi B b:=fun b hb=>HOB.out b hb
       have hMz:=hM.put hE1 hmp1 hch hmp2 (l:=⟨(sq.1:Int),rr.r⟩) HOO.out hbU
       have hDe:=hD.chg hE1 (fun e=>e)
       obtain⟨_,_,_,d4,_,_,d6⟩:=hDe
       have hDz:=(hD.chg hE1 (fun e=>e)).chg hch (fun e=>hmp1.ne_at d6 (Eq.symm e))
       have hXz:Ext w wz:=(HXX.out.trans hE1).chg_trans hch |>.mono (fun k hk e=>by
        have e':k=mc:=e
        have h1:B≤mc:=hM.lo.2
        have:=HB.out
        omega)
       have hcl:(((ck.1:Int),(⟨(sq.1:Int),rr.r⟩:Last))::ldel (ck.1:Int) L.reverse)=(L++[((ck.1:Int),(⟨(sq.1:Int),rr.r⟩:Last))]).reverse:=by
        rw[ldel_asc (lastK_lt HES.out HK2.out),List.reverse_append]
        rfl
       have hMz2:MAt wz (Hi B) m c mb mn mc ⟨P,(L++[((ck.1:Int),(⟨(sq.1:Int),rr.r⟩:Last))]).reverse,(cn.1:Int)⟩ (((ck.1:Int),((⟨(sq.1:Int),rr.r⟩:Last),.slice rA rr.r.names.length rc))::ldel (ck.1:Int) rows):=by rw[←hcl];exact hMz
       have HMz:=Lib.hid hMz2
       have HDz:=Lib.hid hDz
       have HXz:=Lib.hid hXz
       clear hφ hall hG hE1 hmp1 hch hmp2 hM hD hMz d6 hDz hXz hcl hMz2 hbU HMM HDD HXX HOO HMC HYR2 HMP
       change Exit.then _ _ _ (putAll _ v _ 7) wz
       simp only[putAll,dstOf,Act.put]
       simp only[List.getElem?_toArray,List.getElem?_cons_zero,List.getElem?_cons_succ,Option.bind_some,List.setIfInBounds_toArray,List.set_cons_zero,List.set_cons_succ]
       go_wp2_with fail
       go_roundw
       case rel=>exact⟨k+1,L++[((ck.1:Int),(⟨(sq.1:Int),rr.r⟩:Last))],rr.nm.2,_,by go_num,by rw[lastK_snoc],by omega,by simp[hLk],Lib.hid (by rw[show N - (k+1)=mm by have:=HM.out;omega];exact HB4.out),HES2.out,HDz.out,HMz.out,HXz.out⟩
       case measure=>simp[intOf];omega
     ·have heb:(rr.nm.2.err != 0)=true:=by simp[he]
      have hB4:=HB3.out
      rw[if_neg he]at hB4
      have HF:=Lib.hid (sr_err HEND.out hB4 he X4)
      clear hM4 hD4 X4 hO4 HYR y0 hB4 he HB3
      go_upto_region 22 with fail
      go_wp2_with fail
      refine bodyPost_ret (v:=.tuple #[.pointer none,.int .i64 rr.nm.2.err]) (by simp[results,Tryz.results19,go_sem]) rfl ?_
      exact HF.out
    ·have hck:=ckE_true (L:=L) (e:=(((ck.1:Nat):Int),(⟨((sq.1:Nat):Int),rr.r⟩:Last))) (d:=rr.nm.2) HFK.out.symm
     have hB3:=HB1.out
     rw[HEE.out]at hB3
     rw[show(⟨ck,sq,rr⟩:Re).e=(((ck.1:Nat):Int),(⟨((sq.1:Nat):Int),rr.r⟩:Last))from rfl,show(⟨ck,sq,rr⟩:Re).r=rr from rfl,hck,if_neg (fail_ne _)]at hB3
     have he:=fail_ne rr.nm.2
     have HB3:=Lib.hid hB3
     clear hB3 hck
     go_wp2_with fail
     refine(dfail_any _ dB s _ hD4 3 (by decide)).mono ?_
     rintro e w5 ⟨rfl,hT⟩
     have hD5:=hT.2
     have X5:Ext w w5:=Chg.mono (Chg.trans (Ext.chg (S:=(· = dB)) X4) hT.1 (fun _ _ e=>e)) (fun k hk e=>by have e':k=dB:=e;have:=HB.out;omega)
     generalize rr.nm.2.fail 3=dd at HB3 he hD5⊢
     clear hT hM4 hD4 X4 hO4
     go_wp2_with fail
     refine(derr_any _ dB s _ hD5).mono ?_
     rintro e w6 ⟨rfl,hw6⟩
     subst hw6
     have heb:(dd.err != 0)=true:=by simp[he]
     have HF:=Lib.hid (sr_err HEND.out HB3.out he X5)
     clear hD5 X5 HYR y0 he HB3
     go_upto_region 22 with fail
     go_wp2_with fail
     refine bodyPost_ret (v:=.tuple #[.pointer none,.int .i64 dd.err]) (by simp[results,Tryz.results19,go_sem]) rfl ?_
     exact HF.out
  ·obtain rfl:k=N:=by omega
   have hB2:=HBq.out
   rw[Nat.sub_self]at hB2
   have hB3:(L,d)=RE:=hB2
   have HEND2:Hid (rdMach s.data.toList=if d.done.err=0 then(⟨P,L.reverse,(cn.1:Int)⟩,0)else(Mach.empty,d.done.err)):=Lib.hid (by have:=HEND.out;rw[←hB3]at this;exact this)
   clear hB2 hB3 HBq
   go_wp2_with fail
   refine(ddone_any _ dB s d hD0).mono ?_
   rintro e w1 ⟨rfl,hT⟩
   have hM1:=hM0.dec hD0 hT.1
   have X1:Ext w w1:=Chg.mono (Chg.trans (Ext.chg (S:=(· = dB)) X0) hT.1 (fun _ _ e=>e)) (fun k hk e=>by have e':k=dB:=e;have:=HB.out;omega)
   have HM1:=Lib.hid hM1
   have HX1:=Lib.hid X1
   clear hM0 X0 hD0 hT hM1 X1
   by_cases he:d.done.err=0
   ·have hF:SrOut w s (.returned (.tuple #[.pointer (some ⟨m,0,none⟩),.int .i64 0])) w1:=by
     unfold SrOut
     rw[HEND2.out,if_pos he]
     refine⟨fun _=>⟨m,rfl,c,mb,mn,mc,rows,HM1.out.moved (S:=fun _=>False) (Ext.refl w1).chg (fun _ _ hh=>hh) (fun _ _ hA=>hA) (fun b _ hb=>?_) (fun b hb=>?_)⟩,fun e=>absurd rfl e,HX1.out⟩
     ·have h1:B≤b:=hb
      have:=HB.out
      show w.heap.size≤b
      omega
     ·have:=HX1.out.size
      show w.heap.size≤b
      omega
    have HF:=Lib.hid hF
    have heb:(d.done.err != 0)=false:=by simp[he]
    clear hF he HM1 HX1 HEND2
    go_upto_region 29 with fail
    go_wp2_with fail
    refine bodyPost_ret (v:=.tuple #[.pointer (some ⟨m,0,none⟩),.int .i64 0]) (by simp[results,Tryz.results19,go_sem]) rfl ?_
    exact HF.out
   ·have hF:SrOut w s (.returned (.tuple #[.pointer none,.int .i64 d.done.err])) w1:=by
     unfold SrOut
     rw[HEND2.out,if_neg he]
     exact⟨fun e=>absurd e he,fun _=>rfl,HX1.out⟩
    have HF:=Lib.hid hF
    have heb:(d.done.err != 0)=true:=by simp[he]
    clear hF he HM1 HX1 HEND2
    go_upto_region 28 with fail
    go_wp2_with fail
    refine bodyPost_ret (v:=.tuple #[.pointer none,.int .i64 d.done.err]) (by simp[results,Tryz.results19,go_sem]) rfl ?_
    exact HF.out
end Go.Proofs.YtkkbfdencgdbhaaGreatDoor
