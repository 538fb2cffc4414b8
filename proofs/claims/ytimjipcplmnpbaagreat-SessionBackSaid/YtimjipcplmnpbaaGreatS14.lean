/-
  Part 14 of what the law leans on.
-/
import Derived.Test.YtimjipcplmnpbaaGreatS1
import Derived.Test.YtimjipcplmnpbaaGreatS6
import Derived.Test.YtimjipcplmnpbaaGreatS10
import Derived.Test.YtimjipcplmnpbaaGreatS12
import Derived.Test.YtimjipcplmnpbaaGreatS13
namespace Go.Proofs.YtimjipcplmnpbaaGreat
set_option maxRecDepth 100000
set_option maxHeartbeats 8000000
set_option linter.unusedVariables false
set_option linter.unusedSimpArgs false
set_option linter.unusedSectionVars false
open _root_.Go.Proofs.Tryz
open Go.RowKit Go.Sort
theorem qXQ:(prog.info? 32).map (·.size)=some 11:=by kernel_rfl
theorem Km.then{B:Nat→Prop}{S:Nat→Prop}{w w1 w':World}(h:Km B w w1)(hE:Chg S w1 w')(hS:∀k,S k→w.heap.size≤k)(hB:∀k,w.heap.size≤k→B k):Km B w w' :=
 ⟨h.chg.trans (hE.mono fun k _ hk=>hB k (hS k hk)) (fun _ _ e=>e),fun g t cs h1 h2 h3 hA=>(h.at_ g t cs h1 h2 h3 hA).chg hE fun e=>by have:=hS g e;have:=hA.lt;omega⟩
theorem MAt.away{w w':World}{B:Nat→Prop}{m c mb mn mc g:Nat}{M:Mach}{rows:Rows14}{t:TypeId}{cs:Array Value}(h:MAt w B m c mb mn mc M rows)(hA:At w g t cs)(h1:100≠t)(h2:108≠t)(h3:3≠t)(h4:9≠t)(h5:71≠t)(hC:Chg (· = g) w w'):MAt w' B m c mb mn mc M rows :=
 ⟨h.blk.chg hC (fun e=>At.ne h.blk hA h5 e),h.cat.away hA h1 h2 h3 hC,h.cl,h.map.chg hC (fun e=>h.map.ne_at hA e),fun p hp=>qQa (h.nms p hp) hC (fun k hk e=>qQb (h.nms p hp) hA h4 k hk e),h.ne,h.lo,h.nb⟩
theorem MAt.incr{w:World}{B:Nat→Prop}{m c mb mn mc:Nat}{M:Mach}{rows:Rows14}(h:MAt w B m c mb mn mc M rows):MAt (w.setCell ⟨m,2,none⟩ (.int .i64 (M.n+1))) B m c mb mn mc M.inc rows:=by
 have hC:Chg (· = m) w (w.setCell ⟨m,2,none⟩ (.int .i64 (M.n+1))):=Chg.setCell (S:=(· = m)) (p:=⟨m,2,none⟩) (Er w).chg (.inl rfl) _;exact⟨h.blk.set 2 _,h.cat.away h.blk (by decide) (by decide) (by decide) hC,h.cl,h.map.setCell _ _,fun p hp=>qQa (h.nms p hp) hC (fun k hk e=>qQb (h.nms p hp) h.blk (by decide) k hk e),h.ne,h.lo,h.nb⟩
theorem Km.setM{w w1:World}{B:Nat→Prop}{m:Nat}{cs:Array Value}(h:Km B w w1)(hm:At w1 m 71 cs)(hB:B m){w':World}(hC:Chg (· = m) w1 w'):Km B w w' :=
 ⟨h.chg.trans (hC.mono fun k _ e=>by have e':k=m:=e;show B k;rw[e'];exact hB) (fun _ _ e=>e),fun g t cs h1 h2 h3 hA=>(h.at_ g t cs h1 h2 h3 hA).chg hC fun e=>At.ne (h.at_ g t cs h1 h2 h3 hA) hm h3 e⟩
theorem Km.map_put{w w1 w':World}{B:Nat→Prop}{mc:Nat}{rows:Rows14}(h:Km B w w1)(hm:qQE qZM qXo w1 mc rows)(hB:B mc)(hC:Chg (· = mc) w1 w'):Km B w w' :=
 ⟨h.chg.trans (hC.mono fun k _ e=>by have e':k=mc:=e;show B k;rw[e'];exact hB) (fun _ _ e=>e),fun g t cs h1 h2 h3 hA=>(h.at_ g t cs h1 h2 h3 hA).chg hC fun e=>hm.ne_at (h.at_ g t cs h1 h2 h3 hA) (Eq.symm e)⟩
def MCame(B:Nat→Prop)(m:Nat)(R:Mach×Rs)(w:World)(e:Ending)(w':World):Prop :=
 ∃A cp,e=.returned (qZB R.2.err R.2.blob R.2.size R.2.sum (.slice A R.2.names.length cp))∧w'.ownsRow 0 9 1 (.slice A R.2.names.length cp) R.2.names.length (R.2.names.map Value.string)∧qZo w' B m R.1∧Km B w w'
theorem scl_any(w:World)(x:Cmd)(dv:Value):Calls prog 15 #[qQd x dv] w fun e w'=>e=.returned (.bool x.isCl)∧Ext w w':=by
 unfold qQd
 go_enter func15,ntmps15
 by_cases h1:1≤x.kind
 ·by_cases h2:x.kind≤5
  ·go_wp2_with fail
   go_ret
   exact⟨by unfold Cmd.isCl;simp[h1,h2],(Er w).alloc _⟩
  ·go_wp2_with fail
   go_ret
   exact⟨by unfold Cmd.isCl;simp[h1,h2],(Er w).alloc _⟩
 ·go_wp2_with fail
  go_ret
  exact⟨by unfold Cmd.isCl;simp;omega,(Er w).alloc _⟩
theorem last_form{w:World}{B:Nat→Prop}{m c mb mn mc:Nat}{M:Mach}{rows:Rows14}(h:MAt w B m c mb mn mc M rows)(hN:∀p∈M.cl,p.2.r.names.length≤1000)(k:Int):∃(ok:Bool) (sq:Int) (r:Rs) (A:Option Addr) (cp:Nat),(qZC k rows).isSome=ok∧(qZC k rows).elim qJl qXo=.agg #[.int .i64 sq,.int .i64 r.err,.int .u64 (r.blob:Int),.int .i64 r.size,.int .u32 (r.sum:Int),.slice A r.names.length cp]∧M.seq k=sq∧(∀s,M.told k s=if ok=true∧sq=s then some r else none)∧w.ownsRow 0 9 1 (.slice A r.names.length cp) r.names.length (r.names.map Value.string)∧r.names.length≤1000:=by
 have hg:=rows_get h.cl k;cases hr:qZC k rows with
 | none =>
  rw[hr]at hg;refine⟨false,0,Rs.er 0,none,0,rfl,rfl,by unfold Mach.seq;rw[←hg];rfl,fun s=>by unfold Mach.told;rw[←hg,if_neg (by simp)];rfl,⟨rfl,.inl ⟨rfl,rfl⟩⟩,Nat.zero_le _⟩
 | some l =>
  rw[hr]at hg;have hn:=h.nms _ (qXW hr);obtain⟨l,lv⟩:=l;replace hn:w.ownsRow 0 9 1 lv l.r.names.length (l.r.names.map Value.string):=hn;obtain⟨A,cp,rfl⟩:=qQc hn;refine⟨true,l.seq,l.r,A,cp,rfl,rfl,by unfold Mach.seq;rw[←hg];rfl,fun s=>?_,hn,hN _ (qXW hg.symm)⟩
  unfold Mach.told;rw[←hg];simp
theorem qJA(w:World)(B:Nat→Prop)(m:Nat)(M:Mach)(n:Nat)(h:qZo w B m M)(hi:MInv n M)(hn:n≤1000)(s:ByteArray)(hs:s.size≤1000) :
 Calls prog 13 #[.pointer (some ⟨m,0,none⟩),.string s] w (MCame B m (M.app s.data.toList) w):=by
 obtain⟨c,mb,mn,mc,rows,hM⟩:=h;have HI:=Hh hi;have HBS:=Hh hM.cat.up;have HLO:=Hh hM.lo;clear hi
 go_enter func13,ntmps13
 have hR:=At.new w 36 zZR;have hE:=(Er w).alloc (.cells zZR 36);have hM1:=hM.ext hE
 go_upto_region 1 with fail
 obtain⟨rb,hrb⟩:∃rb,w.heap.size=rb:=⟨_,rfl⟩;rw[hrb]at hR⊢;have HRB:=Hh (show w.heap.size≤rb by omega);generalize w.alloc _=W at hR hE hM1⊢;clear hrb hM;obtain⟨c0,c1,c2,f2⟩:=hM1.cells;have hwn:IntKind.i64.wrap (M.n+1)=M.n+1:=IntWalk.i64_in _ (by have:=HI.out.num;omega)
 go_upto_region 2 with fail
 clear c0 c1 c2 f2 hwn;have hmr:m≠rb:=At.ne hM1.blk hR (by decide);have hch:Chg (· = m) W (W.setCell ⟨m,2,none⟩ (.int .i64 (M.n+1))):=Chg.setCell (S:=(· = m)) (p:=⟨m,2,none⟩) (Er W).chg (.inl rfl) _;have HK:=Hh ((Km.of_ext (B:=B) hE).setM hM1.blk HLO.out.1 hch);have hR:=hR.chg hch (fun e=>hmr (Eq.symm e));have hM:=hM1.incr;have hz:zZR.size=5:=rfl;clear hM1 hE hmr hch;generalize W.setCell ⟨m,2,none⟩ (.int .i64 (M.n+1))=W2 at hR hM HK⊢
 by_cases hs0:s=ByteArray.empty
 ·have he:s.toList.isEmpty=true:=by rw[hs0,Lib.toList_data];rfl
  have HAP:Hid (M.app s.data.toList=(M.inc,Rs.er 0)):=Hh (by unfold Mach.app;rw[if_pos (by rw[hs0];rfl)]);clear hs0;have HT:=Hh hR.there;have hst:At (W2.setCells rb 0 zZR.toList) rb 36 zZR:=At.cells_all hR (by first|rfl|exact hz);have hch:Chg (· = rb) W2 (W2.setCells rb 0 zZR.toList):=qQg _ _;have HL:=Hh (run_loadVar_mid (P:=prog) _ rb 0 36 zZR.toList _ hst.range underlying36 rfl qQs);have HMF:=Hh (hM.away hR (by decide) (by decide) (by decide) (by decide) (by decide) hch);have HKF:=Hh (HK.out.then hch (fun k e=>by have:=HRB.out;have e':k=rb:=e;omega) HBS.out);have HNF:=Hh ((qQx _ _ _:World.ownsRow (W2.setCells rb 0 zZR.toList) 0 9 1 (.slice none 0 0) 0 []));clear hst hch hM hR
  go_wp2_with (refine wpList_store_mid rfl 36 _ _ rfl rb 0 #[.int .i64 0,.int .u64 0,.int .i64 0,.int .u32 0,.slice none 0 0] rfl rfl (by first|exact HT.out|(have h:=HT.out;rw[hz]at h;exact h)) qQs (by simp[Value.oneCell']) ?_)
  refine bodyPost_ret (v:=.agg zZR) (qQJ results13 _ rfl HL.out) rfl ?_;rw[HAP.out];exact⟨none,0,rfl,HNF.out,⟨c,mb,mn,mc,rows,HMF.out⟩,HKF.out⟩
 have he:s.toList.isEmpty=false:=by
  cases e:s.toList.isEmpty
  ·rfl
  ·exact absurd (qZd.1 (by rw[List.isEmpty_iff.1 e,Lib.toList_data];rfl)) hs0
 have hne:s.data.toList≠[]:=fun e=>hs0 (by
  refine qZd.1 ?_;rw[Lib.toList_data,e,Lib.toList_data];rfl)
 have HRD:=Hh (cmdread_any W2 s (by omega));have HG:Hid ((qQ2 s.data.toList).2=0→((qQ2 s.data.toList).1.good=true∧(0≤(qQ2 s.data.toList).1.client∧(qQ2 s.data.toList).1.client≤1073741824)∧(0≤(qQ2 s.data.toList).1.seq∧(qQ2 s.data.toList).1.seq≤1073741824))∧(qQ2 s.data.toList).1.Wf):=Hh fun h=>⟨qJz h,cread_wf (by rw[←h])⟩
 have HAP:Hid (M.app s.data.toList=if(qQ2 s.data.toList).2=0 then((M.cmd (qQ2 s.data.toList).1).1.inc,(M.cmd (qQ2 s.data.toList).1).2)else(M.inc,Rs.er (qQ2 s.data.toList).2)):=Hh (by unfold Mach.app;rw[if_neg hne]);clear hs0 hne;generalize qQ2 s.data.toList=q at HRD HG HAP;go_wp2_with fail
 refine HRD.out.mono ?_;rintro e w3 ⟨dv,rfl,hO,hE3⟩;obtain⟨dA,dc,rfl⟩:=qQc hO;have hT:=At.new w3 32 (cmdCells q.1 (.slice dA q.1.disks.length dc));have hEt:=(Er w3).alloc (.cells (cmdCells q.1 (.slice dA q.1.disks.length dc)) 32);clear HRD he;unfold qQd
 go_upto_region 5 with fail
 obtain⟨tb,htb⟩:∃tb,w3.heap.size=tb:=⟨_,rfl⟩;rw[htb]at hT⊢;clear htb;generalize w3.alloc _=W4 at hT hEt⊢;have hE4:=hE3.trans hEt;have hM:=hM.ext hE4;have hR:=hR.ext hE4;have hO:=own_kx hO hEt;have HK:=Hh (HK.out.trans (Km.of_ext hE4));clear hE3 hEt hE4
 by_cases he:q.2=0
 rotate_left
 ·have hne0:(q.2 != 0)=true:=by simpa using he
  have HA2:Hid (M.app s.data.toList=(M.inc,Rs.er q.2)):=Hh (by rw[HAP.out,if_neg he]);clear he hO hT;have HT:=Hh hR.there;have hst:At (W4.setCells rb 0 (#[.int .i64 q.2,.int .u64 0,.int .i64 0,.int .u32 0,.slice none 0 0]:Array Value).toList) rb 36 #[.int .i64 q.2,.int .u64 0,.int .i64 0,.int .u32 0,.slice none 0 0]:=At.cells_all hR (by first|rfl|exact hz);have hch:Chg (· = rb) W4 (W4.setCells rb 0 (#[.int .i64 q.2,.int .u64 0,.int .i64 0,.int .u32 0,.slice none 0 0]:Array Value).toList):=qQg _ _;have HL:=Hh (run_loadVar_mid (P:=prog) _ rb 0 36 (#[.int .i64 q.2,.int .u64 0,.int .i64 0,.int .u32 0,.slice none 0 0]:Array Value).toList _ hst.range underlying36 rfl qQs);have HMF:=Hh (hM.away hR (by decide) (by decide) (by decide) (by decide) (by decide) hch);have HKF:=Hh (HK.out.then hch (fun k e=>by have:=HRB.out;have e':k=rb:=e;omega) HBS.out);have HNF:=Hh ((qQx _ _ _:World.ownsRow (W4.setCells rb 0 (#[.int .i64 q.2,.int .u64 0,.int .i64 0,.int .u32 0,.slice none 0 0]:Array Value).toList) 0 9 1 (.slice none 0 0) 0 []));clear hst hch hM hR
  go_wp2_with (refine wpList_store_mid rfl 36 _ _ rfl rb 0 #[.int .i64 q.2,.int .u64 0,.int .i64 0,.int .u32 0,.slice none 0 0] rfl rfl (by first|exact HT.out|(have h:=HT.out;rw[hz]at h;exact h)) qQs (by simp[Value.oneCell']) ?_)
  refine bodyPost_ret (v:=.agg #[.int .i64 q.2,.int .u64 0,.int .i64 0,.int .u32 0,.slice none 0 0]) (qQJ results13 _ rfl HL.out) rfl ?_;rw[HA2.out];exact⟨none,0,rfl,HNF.out,⟨c,mb,mn,mc,rows,HMF.out⟩,HKF.out⟩
 have hne0:(q.2 != 0)=false:=by simp[he]
 have HA2:Hid (M.app s.data.toList=((M.cmd q.1).1.inc,(M.cmd q.1).2)):=Hh (by rw[HAP.out,if_pos he]);have HG2:=Hh (HG.out he);clear he HAP HG;obtain⟨x,q2⟩:=q;simp only at hT hO HA2 HG2 hne0⊢;have HCL:=Hh (scl_any W4 x (.slice dA x.disks.length dc));have HRT:=Hh hT.range
 go_wp2_with (refine wpList_load_mid rfl 32 _ rfl tb 0 rfl _ _ HRT.out underlying32 rfl qXQ ?_)
 refine HCL.out.mono ?_;rintro e w5 ⟨rfl,hE5⟩;have hM:=hM.ext hE5;have hR:=hR.ext hE5;have hT:=hT.ext hE5;have hO:=own_kx hO hE5;have HK:=Hh (HK.out.trans (Km.of_ext hE5));clear HCL HRT hE5;rcases Bool.eq_false_or_eq_true x.isCl with hcl|hcl
 rotate_left
 ·have HA3:Hid (M.cmd x=({ M with P:=(M.P.app x).1 },(M.P.app x).2)):=Hh (by unfold Mach.cmd;rw[if_pos hcl]);rw[hcl];clear hcl;have HCT:=Hh hM.cat;have HOD:=Hh hO;have HM0:=Hh (fun w1 (hc:Ext w5 w1)=>((hM.blk).ext hc).cell 0);have HTR:=Hh (fun w1 (hc:Ext w5 w1)=>(hT.ext hc).range)
  go_upto_region 8 with fail
  refine qQq (Γ := Nat→Value) (sgφ [.val (.pointer (some ⟨m,0,none⟩)),.val (.pointer (some ⟨m,0,none⟩)),.val (.pointer (some ⟨m,0,none⟩)),.val (.pointer (some ⟨c,0,none⟩)),.val (qQd x (.slice dA x.disks.length dc)),.g 0,.any])
   (GA8 w5 B c mb mn rb (M.P.app x).1 (M.P.app x).2) (by kernel_rfl) (by kernel_rfl) (by kernel_rfl) (fun _=>undef) ?inv ?steps ?fin
  case inv=>exact⟨Kq.of_ext (Er w5).drew,fun _=>(Er w5).drew,fun hh=>(by cases hh),⟨_,hR.drew,rfl⟩,fun hh=>(by cases hh)⟩
  case steps =>
   show qQV _ _ _ _ _ _ 7
   refine⟨⟨⟨⟨⟨⟨⟨trivial,?s0⟩,?s1⟩,?s2⟩,?s3⟩,?s4⟩,?s5⟩,?s6⟩
   case s0 =>
    refine qQi (x:=.pointer (some ⟨m,0,none⟩)) rfl rfl rfl (GA8.keep (j:=0) (by omega)) fun γ L v a w1 st=>?_
    have e0:=st.far 0 (by kernel_rfl);simp at e0;go_simp
   case s1 =>
    refine qQi (x:=.pointer (some ⟨m,0,none⟩)) rfl rfl rfl (GA8.keep (j:=1) (by omega)) fun γ L v a w1 st=>?_
    have e0:=st.val 0 32 rfl (by kernel_rfl);rw[(st.φ 0 (by kernel_rfl):v 0=_)]at e0;simp at e0;go_simp
   case s2 =>
    refine qQi (x:=.pointer (some ⟨m,0,none⟩)) rfl rfl rfl (GA8.keep (j:=2) (by omega)) fun γ L v a w1 st=>?_
    have e1:=st.val 1 33 rfl (by kernel_rfl);rw[(st.φ 1 (by kernel_rfl):v 1=_)]at e1;simp at e1;go_simp
   case s3 =>
    refine qQi (x:=.pointer (some ⟨c,0,none⟩)) rfl rfl rfl (GA8.keep (j:=3) (by omega)) fun γ L v a w1 st=>?_
    have e2:=st.val 2 34 rfl (by kernel_rfl);rw[(st.φ 2 (by kernel_rfl):v 2=_)]at e2;simp at e2
    have h5:L 5=false:=by
     cases hq:L 5 with
     | false=>rfl
     | true =>
      have q3:=st.down 5 3 hq (by kernel_rfl);have q99:=st.off;rw[q3]at q99;cases q99
    have q:=HM0.out w1 (st.inv.pre h5);go_simp
   case s4 =>
    refine qQi (x:=qQd x (.slice dA x.disks.length dc)) rfl rfl rfl (GA8.keep (j:=4) (by omega)) fun γ L v a w1 st=>?_
    have e5:=st.far 5 (by kernel_rfl);simp at e5
    have h5:L 5=false:=by
     cases hq:L 5 with
     | false=>rfl
     | true =>
      have q4:=st.down 5 4 hq (by kernel_rfl);have q99:=st.off;rw[q4]at q99;cases q99
    exact qQk rfl (b:=tb) (off:=0) (by simp[Act.eval,e5]) (HTR.out w1 (st.inv.pre h5)) underlying32 rfl qXQ
   case s5 =>
    refine qXe (k:=0) (f:=32) rfl rfl rfl (by kernel_rfl) fun γ L v a w1 st=>?_
    have e3:=st.val 3 35 rfl (by kernel_rfl);rw[(st.φ 3 (by kernel_rfl):v 3=_)]at e3;simp at e3;have e4:=st.val 4 36 rfl (by kernel_rfl);rw[(st.φ 4 (by kernel_rfl):v 4=_)]at e4;simp at e4;have h5:L 5=false:=st.off
    have h6:L 6=false:=by
     cases hq:L 6 with
     | false=>rfl
     | true =>
      have q5:=st.down 6 5 hq (by kernel_rfl);have q99:=st.off;rw[q5]at q99;cases q99
    have hEx:=st.inv.pre h5;refine⟨#[.pointer (some ⟨c,0,none⟩),qQd x (.slice dA x.disks.length dc)],by go_simp,?_⟩
    refine(capply_S (HCT.out.ext hEx) HI.out.cat (by omega) x (.slice dA x.disks.length dc) (own_kx HOD.out hEx) (Nat.le_trans (qQ8 (Cmd.good_iff.1 HG2.out.1.1).2.2.1) (by decide)) (Nat.le_trans (Cmd.good_iff.1 HG2.out.1.1).2.2.2.2.2.1 (by decide)) HG2.out.2).mono ?_
    rintro e w2 ⟨⟨A,cp,rfl,hno,hc2,hk2⟩,hmp⟩;exact⟨_,rfl,GA8.called st.inv hk2 hmp h6 hc2 hno⟩
   case s6 =>
    refine qZa rfl rfl rfl fun γ L v a w1 st=>?_
    have d5:=st.dep 5 (by kernel_rfl);obtain⟨A,cp,hγ,_⟩:=st.inv.call d5;obtain⟨Z,z1,z2⟩:=st.inv.res;have e4:=st.far 4 (by kernel_rfl);simp at e4;have e5:=st.val 5 37 rfl (by kernel_rfl);rw[(st.φ 5 (by kernel_rfl):v 5=_)]at e5;have hsz:(qJS (γ 0)).size=5:=by rw[hγ];rfl
    have hon:(qJS (γ 0)).all (·.oneCell')=true:=by rw[hγ];simp[qZB,qJS,Value.oneCell']
    have hta : γ 0=.agg (qJS (γ 0)):=by rw[hγ];rfl
    refine⟨_,qQv rfl (b:=rb) (off:=0) (cells:=qJS (γ 0)) (by simp[Act.eval,e4]) (by show a.tmps.getD 37 undef=_;rw[e5];exact hta) (by rw[hsz,←z2];exact z1.there) (by rw[hsz];exact qQs) hon,?_⟩
    exact GA8.stored st.inv (HBS.out _ HRB.out) d5
  case fin =>
   intro γ L v wx hall hG hφ;obtain⟨A,cp,hγ,hCx,hNx⟩:=hG.call (hall 5 (by decide));have hst:=hG.st (hall 6 (by decide));rw[hγ]at hst;have hkq:=hG.kq;have hmr:m≠rb:=At.ne hM.blk hR (by decide);have HL:=Hh (run_loadVar_mid (P:=prog) wx rb 0 36 _ _ hst.range underlying36 rfl qQs);have HMF:Hid (MAt wx B m c mb mn mc { M.inc with P:=(M.P.app x).1 } rows):=Hh ⟨hkq.at_ _ _ _ hmr (by decide) (by decide) hM.blk,hCx,hM.cl,hkq.mapAt hM.map hM.ne.1 hM.ne.2,fun p hp=>hkq.own (hM.nms p hp) (fun k hk=>qQb (hM.nms p hp) hR (by decide) k hk) (by decide) (by decide),hM.ne,hM.lo,hM.nb⟩;have HKF:Hid (Km B w wx):=Hh ⟨HK.out.chg.trans hkq.chg (fun _ _ e=>e),fun g t cs h1 h2 h3 hA=>hkq.at_ g t cs (fun e=>by have:=hA.lt;have:=HRB.out;omega) h1 h2 (HK.out.at_ g t cs h1 h2 h3 hA)⟩;have HNF:=Hh hNx;clear hγ hCx hNx hst hkq hG hφ hall hM hR hT hO
   change Exit.then _ _ _ (qQC _ v _ 7) wx
   simp only[qQC,qQD,Act.put];simp only[List.getElem?_toArray,List.getElem?_cons_zero,List.getElem?_cons_succ,Option.bind_some,List.setIfInBounds_toArray,List.set_cons_zero,List.set_cons_succ];go_wp2_with fail
   refine bodyPost_ret (v:=.agg #[.int .i64 (M.P.app x).2.err,.int .u64 ((M.P.app x).2.blob:Int),.int .i64 (M.P.app x).2.size,.int .u32 ((M.P.app x).2.sum:Int),.slice A (M.P.app x).2.names.length cp]) (qQJ results13 _ rfl HL.out) rfl ?_;rw[HA2.out,HA3.out];exact⟨A,cp,rfl,HNF.out,⟨c,mb,mn,mc,rows,HMF.out⟩,HKF.out⟩
 rw[hcl];have HCLT:=Hh hcl;clear hcl;obtain⟨ok,sq,r,lA,lcp,hok,hlv,hsq,htold,hnl,hnlen⟩:=last_form hM (fun p hp=>Nat.le_trans (HI.out.cl p hp).2.2.len hn) x.client;have HLK:=Hh (fun w1 (hc:Ext w5 w1)=>(hM.ext hc).look x.client);rw[hok,hlv]at HLK;have HM1:=Hh (fun w1 (hc:Ext w5 w1)=>((hM.blk).ext hc).cell 1);have HT1:=Hh (fun w1 (hc:Ext w5 w1)=>(hT.ext hc).cell 1);have HTO:Hid (∀s,M.told x.client s=if ok=true∧sq=s then some r else none):=Hh htold;have HSQ:Hid (M.seq x.client=sq):=Hh hsq;have HNL:=Hh hnlen;clear hok hlv hsq htold hnlen
 go_upto_region 9 with fail
 refine qQq (Γ := Nat→Value) (sgφ [.val (.pointer (some ⟨m,0,none⟩)),.val (.pointer (some ⟨m,0,none⟩)),.val (.pointer (some ⟨m,1,none⟩)),.val (.map (some mc)),.val (.pointer (some ⟨tb,1,none⟩)),.val (.int .i64 x.client),.val (.tuple #[.agg #[.int .i64 sq,.int .i64 r.err,.int .u64 (r.blob:Int),.int .i64 r.size,.int .u32 (r.sum:Int),.slice lA r.names.length lcp],.bool ok]),.val (.tuple #[.agg #[.int .i64 sq,.int .i64 r.err,.int .u64 (r.blob:Int),.int .i64 r.size,.int .u32 (r.sum:Int),.slice lA r.names.length lcp],.bool ok]),.val (.agg #[.int .i64 sq,.int .i64 r.err,.int .u64 (r.blob:Int),.int .i64 r.size,.int .u32 (r.sum:Int),.slice lA r.names.length lcp]),.val (.bool ok),.g 0,.any,.val (.bool ok)])
  (GNw w5 76 #[.int .i64 sq,.int .i64 r.err,.int .u64 (r.blob:Int),.int .i64 r.size,.int .u32 (r.sum:Int),.slice lA r.names.length lcp] 10 11) (by kernel_rfl) (by kernel_rfl) (by kernel_rfl) (fun _=>undef) ?inv ?steps ?fin
 case inv=>exact⟨(Er w5).drew,fun hh=>(by cases hh)⟩
 case steps =>
  show qQV _ _ _ _ _ _ 13
  refine⟨⟨⟨⟨⟨⟨⟨⟨⟨⟨⟨⟨⟨trivial,?s0⟩,?s1⟩,?s2⟩,?s3⟩,?s4⟩,?s5⟩,?s6⟩,?s7⟩,?s8⟩,?s9⟩,?s10⟩,?s11⟩,?s12⟩
  case s0 =>
   refine qQi (x:=.pointer (some ⟨m,0,none⟩)) rfl rfl rfl (GNw.keep (j:=0) (by decide) (by decide)) fun γ L v a w1 st=>?_
   have e0:=st.far 0 (by kernel_rfl);simp at e0;go_simp
  case s1 =>
   refine qQi (x:=.pointer (some ⟨m,0,none⟩)) rfl rfl rfl (GNw.keep (j:=1) (by decide) (by decide)) fun γ L v a w1 st=>?_
   have e0:=st.val 0 39 rfl (by kernel_rfl);rw[(st.φ 0 (by kernel_rfl):v 0=_)]at e0;simp at e0;go_simp
  case s2 =>
   refine qQi (x:=.pointer (some ⟨m,1,none⟩)) rfl rfl rfl (GNw.keep (j:=2) (by decide) (by decide)) fun γ L v a w1 st=>?_
   have e1:=st.val 1 40 rfl (by kernel_rfl);rw[(st.φ 1 (by kernel_rfl):v 1=_)]at e1;simp at e1;go_simp
  case s3 =>
   refine qQi (x:=.map (some mc)) rfl rfl rfl (GNw.keep (j:=3) (by decide) (by decide)) fun γ L v a w1 st=>?_
   have e2:=st.val 2 41 rfl (by kernel_rfl);rw[(st.φ 2 (by kernel_rfl):v 2=_)]at e2;simp at e2;have q:=HM1.out w1 st.inv.ext;simp at q;go_simp
  case s4 =>
   refine qQi (x:=.pointer (some ⟨tb,1,none⟩)) rfl rfl rfl (GNw.keep (j:=4) (by decide) (by decide)) fun γ L v a w1 st=>?_
   have e5:=st.far 5 (by kernel_rfl);simp at e5;go_simp
  case s5 =>
   refine qQi (x:=.int .i64 x.client) rfl rfl rfl (GNw.keep (j:=5) (by decide) (by decide)) fun γ L v a w1 st=>?_
   have e4:=st.val 4 43 rfl (by kernel_rfl);rw[(st.φ 4 (by kernel_rfl):v 4=_)]at e4;simp at e4;have q:=HT1.out w1 st.inv.ext;simp[cmdCells]at q;go_simp
  case s6 =>
   refine qQi (x:=.tuple #[.agg #[.int .i64 sq,.int .i64 r.err,.int .u64 (r.blob:Int),.int .i64 r.size,.int .u32 (r.sum:Int),.slice lA r.names.length lcp],.bool ok]) rfl rfl rfl (GNw.keep (j:=6) (by decide) (by decide)) fun γ L v a w1 st=>?_
   have e3:=st.val 3 42 rfl (by kernel_rfl);rw[(st.φ 3 (by kernel_rfl):v 3=_)]at e3;simp at e3;have e5:=st.val 5 44 rfl (by kernel_rfl);rw[(st.φ 5 (by kernel_rfl):v 5=_)]at e5;simp at e5;have q:=HLK.out w1 st.inv.ext;go_simp
  case s7 =>
   refine qQi (x:=.tuple #[.agg #[.int .i64 sq,.int .i64 r.err,.int .u64 (r.blob:Int),.int .i64 r.size,.int .u32 (r.sum:Int),.slice lA r.names.length lcp],.bool ok]) rfl rfl rfl (GNw.keep (j:=7) (by decide) (by decide)) fun γ L v a w1 st=>?_
   have e6:=st.val 6 45 rfl (by kernel_rfl);rw[(st.φ 6 (by kernel_rfl):v 6=_)]at e6;simp at e6;go_simp
  case s8 =>
   refine qQi (x:=.agg #[.int .i64 sq,.int .i64 r.err,.int .u64 (r.blob:Int),.int .i64 r.size,.int .u32 (r.sum:Int),.slice lA r.names.length lcp]) rfl rfl rfl (GNw.keep (j:=8) (by decide) (by decide)) fun γ L v a w1 st=>?_
   have e7:=st.val 7 38 rfl (by kernel_rfl);rw[(st.φ 7 (by kernel_rfl):v 7=_)]at e7;simp at e7;go_simp
  case s9 =>
   refine qQi (x:=.bool ok) rfl rfl rfl (GNw.keep (j:=9) (by decide) (by decide)) fun γ L v a w1 st=>?_
   have e7:=st.val 7 38 rfl (by kernel_rfl);rw[(st.φ 7 (by kernel_rfl):v 7=_)]at e7;simp at e7;go_simp
  case s10 =>
   refine qJh (k:=0) rfl rfl rfl (by kernel_rfl) fun γ L v a w1 st=>?_
   have h11:L 11=false:=by
    cases hq:L 11 with
    | false=>rfl
    | true =>
     have q10:=st.down 11 10 hq (by kernel_rfl);have q99:=st.off;rw[q10]at q99;cases q99
   exact⟨.pointer (some ⟨w1.heap.size,0,none⟩),w1.alloc (.cells #[.int .i64 0,.int .i64 0,.int .u64 0,.int .i64 0,.int .u32 0,.slice none 0 0] 76),by go_simp,GNw.new st.inv h11 (by decide) rfl⟩
  case s11 =>
   refine qZa rfl rfl rfl fun γ L v a w1 st=>?_
   have d10:=st.dep 10 (by kernel_rfl);obtain⟨g,g1,g2,⟨Z,g3,g4⟩,_⟩:=st.inv.n1 d10;have e8:=st.val 8 46 rfl (by kernel_rfl);rw[(st.φ 8 (by kernel_rfl):v 8=_)]at e8;simp at e8;have e10:=st.val 10 7 rfl (by kernel_rfl);rw[(st.φ 10 (by kernel_rfl):v 10=_),g1]at e10;simp at e10;refine⟨_,qQv rfl (b:=g) (off:=0) (cells:=#[.int .i64 sq,.int .i64 r.err,.int .u64 (r.blob:Int),.int .i64 r.size,.int .u32 (r.sum:Int),.slice lA r.names.length lcp]) (by simp[Act.eval,e10]) (by simp[Act.eval,e8]) (by rw[←g4];exact g3.there) last_info (by simp[Value.oneCell']),?_⟩
   exact GNw.stored st.inv d10 g1
  case s12 =>
   refine qQi (x:=.bool ok) rfl rfl rfl (GNw.keep (j:=12) (by decide) (by decide)) fun γ L v a w1 st=>?_
   have e9:=st.val 9 47 rfl (by kernel_rfl);rw[(st.φ 9 (by kernel_rfl):v 9=_)]at e9;simp at e9;go_simp
 case fin =>
  intro γ L v wx hall hG hφ;have h12:v 12=.bool ok:=hφ 12 (by decide);have h10:v 10 = γ 0:=hφ 10 (by decide);obtain⟨lb,g1,g2,_,g4⟩:=hG.n1 (hall 10 (by decide));have hLb:At wx lb 76 #[.int .i64 sq,.int .i64 r.err,.int .u64 (r.blob:Int),.int .i64 r.size,.int .u32 (r.sum:Int),.slice lA r.names.length lcp]:=g4 (hall 11 (by decide));rw[g1]at h10;have HLB:=Hh (Nat.le_trans HK.out.chg.size g2);have hEx:=hG.ext;have hM:=hM.ext hEx;have hR:=hR.ext hEx;have hT:=hT.ext hEx;have hO:=own_kx hO hEx;have hnl:=own_kx hnl hEx;have HK:=Hh (HK.out.trans (Km.of_ext hEx));clear g1 g2 g4 hG hφ hall HLK HM1 HT1 hEx
  change Exit.then _ _ _ (qQC _ v _ 13) wx
  simp only[qQC,qQD,Act.put];simp only[List.getElem?_toArray,List.getElem?_cons_zero,List.getElem?_cons_succ,Option.bind_some,List.setIfInBounds_toArray,List.set_cons_zero,List.set_cons_succ];rw[h10,h12];clear h10 h12;have t1:=hT.cell 1;have t2:=hT.cell 2;have l0:=hLb.cell 0;simp[cmdCells]at t1 t2 l0
  by_cases hord:x.client=0∨x.seq=0∨x.seq<sq
  ·have HA3:Hid (M.cmd x=(M,Rs.er 16)):=Hh (by unfold Mach.cmd;rw[if_neg (by rw[HCLT.out];decide),if_pos (by rw[HSQ.out];exact hord)]);have HA4:Hid (M.app s.data.toList=(M.inc,Rs.er 16)):=Hh (by rw[HA2.out,HA3.out]);have hcs:x.client=0∨x.client≠0∧(x.seq=0∨x.seq≠0∧x.seq<sq):=by omega
   clear hord hO hnl hLb hT;rcases hcs with h1|⟨h1,h1b|⟨h1b,h1c⟩⟩
   ·rw[h1]at t1;have HT:=Hh hR.there;have hst:At (wx.setCells rb 0 zZ6.toList) rb 36 zZ6:=At.cells_all hR (by first|rfl|exact hz);have hch:Chg (· = rb) wx (wx.setCells rb 0 zZ6.toList):=qQg _ _;have HL:=Hh (run_loadVar_mid (P:=prog) _ rb 0 36 zZ6.toList _ hst.range underlying36 rfl qQs);have HMF:=Hh (hM.away hR (by decide) (by decide) (by decide) (by decide) (by decide) hch);have HKF:=Hh (HK.out.then hch (fun k e=>by have:=HRB.out;have e':k=rb:=e;omega) HBS.out);have HNF:=Hh ((qQx _ _ _:World.ownsRow (wx.setCells rb 0 zZ6.toList) 0 9 1 (.slice none 0 0) 0 []));clear hst hch hM hR
    go_wp2_with (refine wpList_store_mid rfl 36 _ _ rfl rb 0 #[.int .i64 16,.int .u64 0,.int .i64 0,.int .u32 0,.slice none 0 0] rfl rfl (by first|exact HT.out|(have h:=HT.out;rw[hz]at h;exact h)) qQs (by simp[Value.oneCell']) ?_)
    refine bodyPost_ret (v:=.agg zZ6) (qQJ results13 _ rfl HL.out) rfl ?_;rw[HA4.out];exact⟨none,0,rfl,HNF.out,⟨c,mb,mn,mc,rows,HMF.out⟩,HKF.out⟩
   ·have q1:(x.client == 0)=false:=by simpa using h1
    rw[h1b]at t2;have HT:=Hh hR.there;have hst:At (wx.setCells rb 0 zZ6.toList) rb 36 zZ6:=At.cells_all hR (by first|rfl|exact hz);have hch:Chg (· = rb) wx (wx.setCells rb 0 zZ6.toList):=qQg _ _;have HL:=Hh (run_loadVar_mid (P:=prog) _ rb 0 36 zZ6.toList _ hst.range underlying36 rfl qQs);have HMF:=Hh (hM.away hR (by decide) (by decide) (by decide) (by decide) (by decide) hch);have HKF:=Hh (HK.out.then hch (fun k e=>by have:=HRB.out;have e':k=rb:=e;omega) HBS.out);have HNF:=Hh ((qQx _ _ _:World.ownsRow (wx.setCells rb 0 zZ6.toList) 0 9 1 (.slice none 0 0) 0 []));clear hst hch hM hR
    go_wp2_with (refine wpList_store_mid rfl 36 _ _ rfl rb 0 #[.int .i64 16,.int .u64 0,.int .i64 0,.int .u32 0,.slice none 0 0] rfl rfl (by first|exact HT.out|(have h:=HT.out;rw[hz]at h;exact h)) qQs (by simp[Value.oneCell']) ?_)
    refine bodyPost_ret (v:=.agg zZ6) (qQJ results13 _ rfl HL.out) rfl ?_;rw[HA4.out];exact⟨none,0,rfl,HNF.out,⟨c,mb,mn,mc,rows,HMF.out⟩,HKF.out⟩
   ·have q1:(x.client == 0)=false:=by simpa using h1
    have q2:(x.seq == 0)=false:=by simpa using h1b
    have HT:=Hh hR.there;have hst:At (wx.setCells rb 0 zZ6.toList) rb 36 zZ6:=At.cells_all hR (by first|rfl|exact hz);have hch:Chg (· = rb) wx (wx.setCells rb 0 zZ6.toList):=qQg _ _;have HL:=Hh (run_loadVar_mid (P:=prog) _ rb 0 36 zZ6.toList _ hst.range underlying36 rfl qQs);have HMF:=Hh (hM.away hR (by decide) (by decide) (by decide) (by decide) (by decide) hch);have HKF:=Hh (HK.out.then hch (fun k e=>by have:=HRB.out;have e':k=rb:=e;omega) HBS.out);have HNF:=Hh ((qQx _ _ _:World.ownsRow (wx.setCells rb 0 zZ6.toList) 0 9 1 (.slice none 0 0) 0 []));clear hst hch hM hR
    go_wp2_with (refine wpList_store_mid rfl 36 _ _ rfl rb 0 #[.int .i64 16,.int .u64 0,.int .i64 0,.int .u32 0,.slice none 0 0] rfl rfl (by first|exact HT.out|(have h:=HT.out;rw[hz]at h;exact h)) qQs (by simp[Value.oneCell']) ?_)
    refine bodyPost_ret (v:=.agg zZ6) (qQJ results13 _ rfl HL.out) rfl ?_;rw[HA4.out];exact⟨none,0,rfl,HNF.out,⟨c,mb,mn,mc,rows,HMF.out⟩,HKF.out⟩
  have hn1:¬ x.client=0:=fun e=>hord (.inl e)
  have hn2:¬ x.seq=0:=fun e=>hord (.inr (.inl e))
  have hn3:¬ x.seq<sq:=fun e=>hord (.inr (.inr e))
  have q1:(x.client == 0)=false:=by simpa using hn1
  have q2:(x.seq == 0)=false:=by simpa using hn2
  have HORD:=Hh hord;clear hord
  by_cases htl:ok=true∧sq=x.seq
  ·obtain⟨rfl,rfl⟩:=htl;have HA3:Hid (M.cmd x=(M,r)):=Hh (by unfold Mach.cmd;rw[if_neg (by rw[HCLT.out];decide),if_neg (by rw[HSQ.out];exact HORD.out),HTO.out,if_pos ⟨rfl,rfl⟩]);have HA4:Hid (M.app s.data.toList=(M.inc,r)):=Hh (by rw[HA2.out,HA3.out])
   have hlr:wx.rangeAt lb 1 (#[.int .i64 r.err,.int .u64 (r.blob:Int),.int .i64 r.size,.int .u32 (r.sum:Int),.slice lA r.names.length lcp]:Array Value).toList:=fun j u hu=>by
    have hj:=(List.getElem?_eq_some_iff.1 hu).1
    have:=hLb.cell (1+j)
    rw[this];rw[←hu]
    match j,hj with
    | 0,_=>rfl
    | 1,_=>rfl
    | 2,_=>rfl
    | 3,_=>rfl
    | 4,_=>rfl
   have HLR:=Hh hlr;have HOW:=Hh (sown_any wx r.err r.blob r.size r.sum (.slice lA r.names.length lcp) r.names hnl (by have:=HNL.out;omega));clear hlr hO hT hLb hn1 hn2 hn3
   go_wp2_with (refine wpList_load_mid rfl 36 _ rfl lb 1 rfl _ _ HLR.out underlying36 rfl qQs ?_)
   refine HOW.out.mono ?_;rintro e w6 ⟨A,cp,rfl,hno,hE6⟩;replace hno:=qQR hno;have hM:=hM.ext hE6;have hR:=hR.ext hE6;have HK:=Hh (HK.out.trans (Km.of_ext hE6));clear HOW HLR hE6 t1 t2 l0 hnl;unfold qZB;have HT:=Hh hR.there;have hst:At (w6.setCells rb 0 (#[.int .i64 r.err,.int .u64 (r.blob:Int),.int .i64 r.size,.int .u32 (r.sum:Int),.slice A r.names.length cp]:Array Value).toList) rb 36 #[.int .i64 r.err,.int .u64 (r.blob:Int),.int .i64 r.size,.int .u32 (r.sum:Int),.slice A r.names.length cp]:=At.cells_all hR (by first|rfl|exact hz);have hch:Chg (· = rb) w6 (w6.setCells rb 0 (#[.int .i64 r.err,.int .u64 (r.blob:Int),.int .i64 r.size,.int .u32 (r.sum:Int),.slice A r.names.length cp]:Array Value).toList):=qQg _ _;have HL:=Hh (run_loadVar_mid (P:=prog) _ rb 0 36 (#[.int .i64 r.err,.int .u64 (r.blob:Int),.int .i64 r.size,.int .u32 (r.sum:Int),.slice A r.names.length cp]:Array Value).toList _ hst.range underlying36 rfl qQs);have HMF:=Hh (hM.away hR (by decide) (by decide) (by decide) (by decide) (by decide) hch);have HKF:=Hh (HK.out.then hch (fun k e=>by have:=HRB.out;have e':k=rb:=e;omega) HBS.out);have HNF:=Hh (qQa hno hch fun k hk e=>qQb hno hR (by decide) k hk e);clear hst hch hM hR
   go_wp2_with (refine wpList_store_mid rfl 36 _ _ rfl rb 0 #[.int .i64 r.err,.int .u64 (r.blob:Int),.int .i64 r.size,.int .u32 (r.sum:Int),.slice A r.names.length cp] rfl rfl (by first|exact HT.out|(have h:=HT.out;rw[hz]at h;exact h)) qQs (by simp[Value.oneCell']) ?_)
   refine bodyPost_ret (v:=.agg #[.int .i64 r.err,.int .u64 (r.blob:Int),.int .i64 r.size,.int .u32 (r.sum:Int),.slice A r.names.length cp]) (qQJ results13 _ rfl HL.out) rfl ?_;rw[HA4.out];exact⟨A,cp,rfl,HNF.out,⟨c,mb,mn,mc,rows,HMF.out⟩,HKF.out⟩
  have HA3:Hid (M.cmd x=({ M with P:=(M.P.app x).1,cl:=(x.client,⟨x.seq,(M.P.app x).2⟩)::qZy x.client M.cl },(M.P.app x).2)):=Hh (by unfold Mach.cmd;rw[if_neg (by rw[HCLT.out];decide),if_neg (by rw[HSQ.out];exact HORD.out),HTO.out,if_neg htl])
  have hokc:ok=false∨ok=true∧(x.seq == sq)=false:=by
   cases ok
   ·exact .inl rfl
   ·exact .inr ⟨rfl,by rw[beq_eq_false_iff_ne];exact fun e=>htl ⟨rfl,e.symm⟩⟩
  clear htl hnl;have HA4:Hid (M.app s.data.toList=(({ M with P:=(M.P.app x).1,cl:=(x.client,⟨x.seq,(M.P.app x).2⟩)::qZy x.client M.cl } : Mach).inc,(M.P.app x).2)):=Hh (by rw[HA2.out,HA3.out]);clear HA2 HA3 HTO HORD;obtain⟨wo,hwo⟩:∃wo:World,wo=wx:=⟨_,rfl⟩
  go_upto_region 12 with fail
  go_cut [71]from 64 to 71 (fun tv wy=>tv=.bool false∧wy=wo)
  case first =>
   rcases hokc with rfl|⟨rfl,h2⟩
   ·go_wp2_with fail
    go_meet
    case rel=>exact⟨rfl,hwo.symm⟩
   ·go_wp2_with fail
    go_meet
    case rel=>exact⟨rfl,hwo.symm⟩
  obtain⟨rfl,hwc⟩:=hcut;subst hwc;subst hwo;clear hokc t1 t2 l0 hn1 hn2 hn3 q1 q2;have HCT:=Hh hM.cat;have HOD:=Hh hO;have HM0:=Hh (fun w1 (hc:Ext wc w1)=>((hM.blk).ext hc).cell 0);have HTR:=Hh (fun w1 (hc:Ext wc w1)=>(hT.ext hc).range);have hBrb:∀k,wc.heap.size≤k→B k:=hM.cat.up
  go_upto_region 14 with fail
  refine qQq (Γ := Nat→Value) (sgφ [.val (.pointer (some ⟨m,0,none⟩)),.val (.pointer (some ⟨m,0,none⟩)),.val (.pointer (some ⟨m,0,none⟩)),.val (.pointer (some ⟨c,0,none⟩)),.val (qQd x (.slice dA x.disks.length dc)),.g 0,.g 1,.any])
   (GA14 wc B c mb mn lb (M.P.app x).1 (M.P.app x).2) (by kernel_rfl) (by kernel_rfl) (by kernel_rfl) (fun _=>undef) ?inv ?steps ?fin
  case inv=>exact⟨Kq.of_ext (Er wc).drew,fun _=>(Er wc).drew,fun hh=>(by cases hh),fun hh=>(by cases hh)⟩
  case steps =>
   show qQV _ _ _ _ _ _ 8
   refine⟨⟨⟨⟨⟨⟨⟨⟨trivial,?s0⟩,?s1⟩,?s2⟩,?s3⟩,?s4⟩,?s5⟩,?s6⟩,?s7⟩
   case s0 =>
    refine qQi (x:=.pointer (some ⟨m,0,none⟩)) rfl rfl rfl (GA14.keep (j:=0) (by omega)) fun γ L v a w1 st=>?_
    have e0:=st.far 0 (by kernel_rfl);simp at e0;go_simp
   case s1 =>
    refine qQi (x:=.pointer (some ⟨m,0,none⟩)) rfl rfl rfl (GA14.keep (j:=1) (by omega)) fun γ L v a w1 st=>?_
    have e0:=st.val 0 75 rfl (by kernel_rfl);rw[(st.φ 0 (by kernel_rfl):v 0=_)]at e0;simp at e0;go_simp
   case s2 =>
    refine qQi (x:=.pointer (some ⟨m,0,none⟩)) rfl rfl rfl (GA14.keep (j:=2) (by omega)) fun γ L v a w1 st=>?_
    have e1:=st.val 1 76 rfl (by kernel_rfl);rw[(st.φ 1 (by kernel_rfl):v 1=_)]at e1;simp at e1;go_simp
   case s3 =>
    refine qQi (x:=.pointer (some ⟨c,0,none⟩)) rfl rfl rfl (GA14.keep (j:=3) (by omega)) fun γ L v a w1 st=>?_
    have e2:=st.val 2 77 rfl (by kernel_rfl);rw[(st.φ 2 (by kernel_rfl):v 2=_)]at e2;simp at e2
    have h5:L 5=false:=by
     cases hq:L 5 with
     | false=>rfl
     | true =>
      have q3:=st.down 5 3 hq (by kernel_rfl);have q99:=st.off;rw[q3]at q99;cases q99
    have q:=HM0.out w1 (st.inv.pre h5);go_simp
   case s4 =>
    refine qQi (x:=qQd x (.slice dA x.disks.length dc)) rfl rfl rfl (GA14.keep (j:=4) (by omega)) fun γ L v a w1 st=>?_
    have e5:=st.far 5 (by kernel_rfl);simp at e5
    have h5:L 5=false:=by
     cases hq:L 5 with
     | false=>rfl
     | true =>
      have q4:=st.down 5 4 hq (by kernel_rfl);have q99:=st.off;rw[q4]at q99;cases q99
    exact qQk rfl (b:=tb) (off:=0) (by simp[Act.eval,e5]) (HTR.out w1 (st.inv.pre h5)) underlying32 rfl qXQ
   case s5 =>
    refine qXe (k:=0) (f:=32) rfl rfl rfl (by kernel_rfl) fun γ L v a w1 st=>?_
    have e3:=st.val 3 78 rfl (by kernel_rfl);rw[(st.φ 3 (by kernel_rfl):v 3=_)]at e3;simp at e3;have e4:=st.val 4 79 rfl (by kernel_rfl);rw[(st.φ 4 (by kernel_rfl):v 4=_)]at e4;simp at e4;have h5:L 5=false:=st.off
    have h7:L 7=false:=by
     cases hq:L 7 with
     | false=>rfl
     | true =>
      have q5:=st.down 7 5 hq (by kernel_rfl);have q99:=st.off;rw[q5]at q99;cases q99
    have hEx:=st.inv.pre h5;refine⟨#[.pointer (some ⟨c,0,none⟩),qQd x (.slice dA x.disks.length dc)],by go_simp,?_⟩
    refine(capply_S (HCT.out.ext hEx) HI.out.cat (by omega) x (.slice dA x.disks.length dc) (own_kx HOD.out hEx) (Nat.le_trans (qQ8 (Cmd.good_iff.1 HG2.out.1.1).2.2.1) (by decide)) (Nat.le_trans (Cmd.good_iff.1 HG2.out.1.1).2.2.2.2.2.1 (by decide)) HG2.out.2).mono ?_
    rintro e w2 ⟨⟨A,cp,rfl,hno,hc2,hk2⟩,hmp⟩;exact⟨_,rfl,GA14.called st.inv hk2 hmp h7 hc2 hno⟩
   case s6 =>
    refine qJh (k:=1) rfl rfl rfl (by kernel_rfl) fun γ L v a w1 st=>?_
    have h7:L 7=false:=by
     cases hq:L 7 with
     | false=>rfl
     | true =>
      have q6:=st.down 7 6 hq (by kernel_rfl);have q99:=st.off;rw[q6]at q99;cases q99
    exact⟨.pointer (some ⟨w1.heap.size,0,none⟩),w1.alloc (.cells zZR 36),by go_simp,GA14.new st.inv h7 rfl⟩
   case s7 =>
    refine qZa rfl rfl rfl fun γ L v a w1 st=>?_
    have d5:=st.dep 5 (by kernel_rfl);have d6:=st.dep 6 (by kernel_rfl);obtain⟨A,cp,hγ,_⟩:=st.inv.call d5;obtain⟨g,g1,g2,⟨Z,z1,z2⟩,_⟩:=st.inv.n1 d6;have e5:=st.val 5 80 rfl (by kernel_rfl);rw[(st.φ 5 (by kernel_rfl):v 5=_)]at e5;have e6:=st.val 6 9 rfl (by kernel_rfl);rw[(st.φ 6 (by kernel_rfl):v 6=_),g1]at e6;simp at e6;have hsz:(qJS (γ 0)).size=5:=by rw[hγ];rfl
    have hon:(qJS (γ 0)).all (·.oneCell')=true:=by rw[hγ];simp[qZB,qJS,Value.oneCell']
    have hta : γ 0=.agg (qJS (γ 0)):=by rw[hγ];rfl
    refine⟨_,qQv rfl (b:=g) (off:=0) (cells:=qJS (γ 0)) (by simp[Act.eval,e6]) (by show a.tmps.getD 80 undef=_;rw[e5];exact hta) (by rw[hsz,←z2];exact z1.there) (by rw[hsz];exact qQs) hon,?_⟩
    exact GA14.stored st.inv hBrb hLb.lt d5 d6 g1
  case fin =>
   intro γ L v wy hall hG hφ;have h6:v 6 = γ 1:=hφ 6 (by decide);obtain⟨A,cp,hγ,hCx,hNx⟩:=hG.call (hall 5 (by decide));obtain⟨gb,g1,g2,_,g4⟩:=hG.n1 (hall 6 (by decide));have hGb:=g4 (hall 7 (by decide));rw[hγ]at hGb;replace hGb:At wy gb 36 #[.int .i64 (M.P.app x).2.err,.int .u64 ((M.P.app x).2.blob:Int),.int .i64 (M.P.app x).2.size,.int .u32 ((M.P.app x).2.sum:Int),.slice A (M.P.app x).2.names.length cp]:=hGb;rw[g1]at h6;have hkq:=hG.kq;have hmr:m≠lb:=At.ne hM.blk hLb (by decide);have htr:tb≠lb:=At.ne hT hLb (by decide);have hrr:rb≠lb:=At.ne hR hLb (by decide);have hM2:MAt wy B m c mb mn mc { M.inc with P:=(M.P.app x).1 } rows:=⟨hkq.at_ _ _ _ hmr (by decide) (by decide) hM.blk,hCx,hM.cl,hkq.mapAt hM.map hM.ne.1 hM.ne.2,fun p hp=>hkq.own (hM.nms p hp) (fun k hk=>qQb (hM.nms p hp) hLb (by decide) k hk) (by decide) (by decide),hM.ne,hM.lo,hM.nb⟩;have hT2:=hkq.at_ _ _ _ htr (by decide) (by decide) hT;have hR2:=hkq.at_ _ _ _ hrr (by decide) (by decide) hR;have HK2:Hid (Km B w wy):=Hh ⟨HK.out.chg.trans hkq.chg (fun _ _ e=>e),fun g t cs h1 h2 h3 hA=>hkq.at_ g t cs (fun e=>by have:=hA.lt;have:=HLB.out;omega) h1 h2 (HK.out.at_ g t cs h1 h2 h3 hA)⟩;clear hkq hmr htr hrr hCx g1 g2 g4 hγ hG hφ hall hM hT hR hLb HCT HOD HM0 HTR hBrb hO HK
   change Exit.then _ _ _ (qQC _ v _ 8) wy
   simp only[qQC,qQD,Act.put];simp only[List.getElem?_toArray,List.getElem?_cons_zero,List.getElem?_cons_succ,Option.bind_some,List.setIfInBounds_toArray,List.set_cons_zero,List.set_cons_succ];rw[h6];clear h6
   go_upto_region 15 with fail
   have HM1:=Hh (fun w1 (hc:Ext wy w1)=>((hM2.blk).ext hc).cell 1);have HT1:=Hh (fun w1 (hc:Ext wy w1)=>(hT2.ext hc).cell 1);have HT2:=Hh (fun w1 (hc:Ext wy w1)=>(hT2.ext hc).cell 2);have HGB:=Hh (fun w1 (hc:Ext wy w1)=>(hGb.ext hc).range);have HMP:=Hh (fun w1 (hc:Ext wy w1)=>hM2.map.ext hc);have HNX:=Hh hNx;have HLN:=Hh (show(M.P.app x).2.names.length≤1000000000 by have:=(app_ok HI.out.cat x).len;omega)
   refine qQq (Γ := Nat→Value) (sgφ [.val (.pointer (some ⟨m,0,none⟩)),.val (.pointer (some ⟨m,0,none⟩)),.val (.pointer (some ⟨m,1,none⟩)),.val (.map (some mc)),.val (.pointer (some ⟨tb,1,none⟩)),.val (.int .i64 x.client),.val (.pointer (some ⟨tb,2,none⟩)),.val (.int .i64 x.seq),.val (.agg #[.int .i64 (M.P.app x).2.err,.int .u64 ((M.P.app x).2.blob:Int),.int .i64 (M.P.app x).2.size,.int .u32 ((M.P.app x).2.sum:Int),.slice A (M.P.app x).2.names.length cp]),.g 0,.g 1,.any])
    (GUp wy mc rows x.client x.seq (M.P.app x).2) (by kernel_rfl) (by kernel_rfl) (by kernel_rfl) (fun _=>undef) ?inv ?steps ?fin
   case inv=>exact⟨fun _=>(Er wy).drew,fun hh=>(by cases hh),fun hh=>(by cases hh),fun hh=>(by cases hh)⟩
   case steps =>
    show qQV _ _ _ _ _ _ 12
    refine⟨⟨⟨⟨⟨⟨⟨⟨⟨⟨⟨⟨trivial,?s0⟩,?s1⟩,?s2⟩,?s3⟩,?s4⟩,?s5⟩,?s6⟩,?s7⟩,?s8⟩,?s9⟩,?s10⟩,?s11⟩
    case s0 =>
     refine qQi (x:=.pointer (some ⟨m,0,none⟩)) rfl rfl rfl (GUp.keep (j:=0) (by omega)) fun γ L v a w1 st=>?_
     have e0:=st.far 0 (by kernel_rfl);simp at e0;go_simp
    case s1 =>
     refine qQi (x:=.pointer (some ⟨m,0,none⟩)) rfl rfl rfl (GUp.keep (j:=1) (by omega)) fun γ L v a w1 st=>?_
     have e0:=st.val 0 81 rfl (by kernel_rfl);rw[(st.φ 0 (by kernel_rfl):v 0=_)]at e0;simp at e0;go_simp
    case s2 =>
     refine qQi (x:=.pointer (some ⟨m,1,none⟩)) rfl rfl rfl (GUp.keep (j:=2) (by omega)) fun γ L v a w1 st=>?_
     have e1:=st.val 1 82 rfl (by kernel_rfl);rw[(st.φ 1 (by kernel_rfl):v 1=_)]at e1;simp at e1;go_simp
    case s3 =>
     refine qQi (x:=.map (some mc)) rfl rfl rfl (GUp.keep (j:=3) (by omega)) fun γ L v a w1 st=>?_
     have e2:=st.val 2 83 rfl (by kernel_rfl);rw[(st.φ 2 (by kernel_rfl):v 2=_)]at e2;simp at e2
     have h11:L 11=false:=by
      cases hq:L 11 with
      | false=>rfl
      | true =>
       have q3:=st.down 11 3 hq (by kernel_rfl);have q99:=st.off;rw[q3]at q99;cases q99
     have q:=HM1.out w1 (st.inv.pre h11);simp at q;go_simp
    case s4 =>
     refine qQi (x:=.pointer (some ⟨tb,1,none⟩)) rfl rfl rfl (GUp.keep (j:=4) (by omega)) fun γ L v a w1 st=>?_
     have e5:=st.far 5 (by kernel_rfl);simp at e5;go_simp
    case s5 =>
     refine qQi (x:=.int .i64 x.client) rfl rfl rfl (GUp.keep (j:=5) (by omega)) fun γ L v a w1 st=>?_
     have e4:=st.val 4 85 rfl (by kernel_rfl);rw[(st.φ 4 (by kernel_rfl):v 4=_)]at e4;simp at e4
     have h11:L 11=false:=by
      cases hq:L 11 with
      | false=>rfl
      | true =>
       have q5:=st.down 11 5 hq (by kernel_rfl);have q99:=st.off;rw[q5]at q99;cases q99
     have q:=HT1.out w1 (st.inv.pre h11);simp[cmdCells]at q;go_simp
    case s6 =>
     refine qQi (x:=.pointer (some ⟨tb,2,none⟩)) rfl rfl rfl (GUp.keep (j:=6) (by omega)) fun γ L v a w1 st=>?_
     have e5:=st.far 5 (by kernel_rfl);simp at e5;go_simp
    case s7 =>
     refine qQi (x:=.int .i64 x.seq) rfl rfl rfl (GUp.keep (j:=7) (by omega)) fun γ L v a w1 st=>?_
     have e6:=st.val 6 87 rfl (by kernel_rfl);rw[(st.φ 6 (by kernel_rfl):v 6=_)]at e6;simp at e6
     have h11:L 11=false:=by
      cases hq:L 11 with
      | false=>rfl
      | true =>
       have q10:=st.down 11 10 hq (by kernel_rfl);have q7:=st.down 10 7 q10 (by kernel_rfl);have q99:=st.off;rw[q7]at q99;cases q99
     have q:=HT2.out w1 (st.inv.pre h11);simp[cmdCells]at q;go_simp
    case s8 =>
     refine qQi (x:=.agg #[.int .i64 (M.P.app x).2.err,.int .u64 ((M.P.app x).2.blob:Int),.int .i64 (M.P.app x).2.size,.int .u32 ((M.P.app x).2.sum:Int),.slice A (M.P.app x).2.names.length cp]) rfl rfl rfl (GUp.keep (j:=8) (by omega)) fun γ L v a w1 st=>?_
     have e9:=st.far 9 (by kernel_rfl);simp at e9
     have h11:L 11=false:=by
      cases hq:L 11 with
      | false=>rfl
      | true =>
       have q10:=st.down 11 10 hq (by kernel_rfl);have q9:=st.down 10 9 q10 (by kernel_rfl);have q8:=st.down 9 8 q9 (by kernel_rfl);have q99:=st.off;rw[q8]at q99;cases q99
     exact qQk rfl (b:=gb) (off:=0) (by simp[Act.eval,e9]) (HGB.out w1 (st.inv.pre h11)) underlying36 rfl qQs
    case s9 =>
     refine qXe (k:=0) (f:=33) rfl rfl rfl (by kernel_rfl) fun γ L v a w1 st=>?_
     have e8:=st.val 8 89 rfl (by kernel_rfl);rw[(st.φ 8 (by kernel_rfl):v 8=_)]at e8;simp at e8
     have h10:L 10=false:=by
      cases hq:L 10 with
      | false=>rfl
      | true =>
       have q9:=st.down 10 9 hq (by kernel_rfl);have q99:=st.off;rw[q9]at q99;cases q99
     have h11:L 11=false:=by
      cases hq:L 11 with
      | false=>rfl
      | true =>
       have q10:=st.down 11 10 hq (by kernel_rfl);have q9:=st.down 10 9 q10 (by kernel_rfl);have q99:=st.off;rw[q9]at q99;cases q99
     have hEx:=st.inv.pre h11;refine⟨#[.agg #[.int .i64 (M.P.app x).2.err,.int .u64 ((M.P.app x).2.blob:Int),.int .i64 (M.P.app x).2.size,.int .u32 ((M.P.app x).2.sum:Int),.slice A (M.P.app x).2.names.length cp]],by go_simp,?_⟩
     refine(sown_any w1 (M.P.app x).2.err (M.P.app x).2.blob (M.P.app x).2.size (M.P.app x).2.sum (.slice A (M.P.app x).2.names.length cp) (M.P.app x).2.names (own_kx HNX.out hEx) HLN.out).mono ?_
     rintro e w2 ⟨A2,cp2,rfl,hno,hE2⟩;exact⟨_,rfl,GUp.called st.inv hE2 h10 h11 hno⟩
    case s10 =>
     refine qJh (k:=1) rfl rfl rfl (by kernel_rfl) fun γ L v a w1 st=>?_
     have e7:=st.val 7 88 rfl (by kernel_rfl);rw[(st.φ 7 (by kernel_rfl):v 7=_)]at e7;simp at e7;have e9:=st.val 9 90 rfl (by kernel_rfl);rw[(st.φ 9 (by kernel_rfl):v 9=_)]at e9;simp at e9
     have h11:L 11=false:=by
      cases hq:L 11 with
      | false=>rfl
      | true =>
       have q10:=st.down 11 10 hq (by kernel_rfl);have q99:=st.off;rw[q10]at q99;cases q99
     obtain⟨A2,cp2,hγ,_⟩:=st.inv.call (st.dep 9 (by kernel_rfl));refine⟨.agg (#[.int .i64 x.seq]++qJS (γ 0)),w1,?_,GUp.built st.inv h11⟩
     rw[hγ]at e9⊢;simp only[qZB,qJS]at e9⊢;go_simp
    case s11 =>
     refine qZa rfl rfl rfl fun γ L v a w1 st=>?_
     have e3:=st.val 3 84 rfl (by kernel_rfl);rw[(st.φ 3 (by kernel_rfl):v 3=_)]at e3;simp at e3;have e5:=st.val 5 86 rfl (by kernel_rfl);rw[(st.φ 5 (by kernel_rfl):v 5=_)]at e5;simp at e5;have d10:=st.dep 10 (by kernel_rfl);have d9:=st.down 10 9 d10 (by kernel_rfl);have h11:L 11=false:=st.off;have hEx:=st.inv.pre h11;obtain⟨A2,cp2,hγ,hno⟩:=st.inv.call d9;have e10:=st.val 10 91 rfl (by kernel_rfl);rw[(st.φ 10 (by kernel_rfl):v 10=_),st.inv.bld d10,hγ]at e10;simp[qZB,qJS]at e10;obtain⟨w2,hrun,hmp2,hch⟩:=(HMP.out w1 hEx).update (P:=prog) (K:=qZM) qXp underlying3 x.client ((⟨x.seq,(M.P.app x).2⟩:Last),.slice A2 (M.P.app x).2.names.length cp2);have hrun2:(Instr.mapUpdate 69 (.map (some mc)) (.int .i64 x.client) (.agg #[.int .i64 x.seq,.int .i64 (M.P.app x).2.err,.int .u64 ((M.P.app x).2.blob:Int),.int .i64 (M.P.app x).2.size,.int .u32 ((M.P.app x).2.sum:Int),.slice A2 (M.P.app x).2.names.length cp2])).run prog w1=.ok () w2:=hrun;refine⟨w2,by simp[execOp,Act.eval,e3,e5,e10,hrun2,Result.andThen],⟨fun hh=>by simp at hh,fun _=>⟨A2,cp2,hγ,qQa hno hch (fun k hk e=>qXc hno (HMP.out w1 hEx) k hk e)⟩,fun hh=>st.inv.bld (by simpa using hh),fun _=>⟨A2,cp2,w1,hγ,hEx,HMP.out w1 hEx,hch,hmp2,qQa hno hch (fun k hk e=>qXc hno (HMP.out w1 hEx) k hk e)⟩⟩⟩
   case fin =>
    intro γ L v wz hall hG hφ;obtain⟨A2,cp2,w1,hγ,hE1,hmp1,hch,hmp2,hno2⟩:=hG.upd (hall 11 (by decide));have hmm:mc≠m:=hmp1.ne_at (hM2.blk.ext hE1);have hmg:mc≠gb:=hmp1.ne_at (hGb.ext hE1);have hmrb:mc≠rb:=hmp1.ne_at (hR2.ext hE1)
    have hM3:MAt wz B m c mb mn mc (({ M with P:=(M.P.app x).1,cl:=(x.client,⟨x.seq,(M.P.app x).2⟩)::qZy x.client M.cl } : Mach).inc) ((x.client,((⟨x.seq,(M.P.app x).2⟩:Last),.slice A2 (M.P.app x).2.names.length cp2))::qZy x.client rows):=by
     refine⟨(hM2.blk.ext hE1).chg hch (fun e=>hmm (Eq.symm e)),(hM2.cat.ext hE1).away_map hmp1 hM2.ne.1 hM2.ne.2 hch,?_,hmp2,fun p hp=>?_,hM2.ne,hM2.lo,fun p hp=>?_⟩
     ·show(x.client,(⟨x.seq,(M.P.app x).2⟩:Last))::(qZy x.client rows).map (fun p=>(p.1,p.2.1))=(x.client,(⟨x.seq,(M.P.app x).2⟩:Last))::qZy x.client M.cl
      rw[←(show rows.map (fun p=>(p.1,p.2.1))=M.cl from hM2.cl)];unfold qZy;rw[List.filter_map];rfl
     ·rcases List.mem_cons.1 hp with rfl|hp
      ·exact qQR hno2
      ·exact qQa (qQa (hM2.nms p (List.mem_filter.1 hp).1) hE1 (fun _ _ hh=>hh)) hch (fun k hk e=>qXc (qQa (hM2.nms p (List.mem_filter.1 hp).1) hE1 (fun _ _ hh=>hh)) hmp1 k hk e)
     ·rcases List.mem_cons.1 hp with rfl|hp
      ·exact fun k hk=>hM2.cat.up k (qJD hno2 k hk)
      ·exact hM2.nb p (List.mem_filter.1 hp).1
    have hGb3:=(hGb.ext hE1).chg hch (fun e=>hmg (Eq.symm e));have hR3:=(hR2.ext hE1).chg hch (fun e=>hmrb (Eq.symm e));have hN3:=qQa (own_kx hNx hE1) hch (fun k hk e=>qXc (own_kx hNx hE1) hmp1 k hk e);have HK3:Hid (Km B w wz):=Hh ((HK2.out.trans (Km.of_ext hE1)).map_put hmp1 hM2.lo.2 hch);have hM:=hM3;have hR:=hR3;have HK:=HK3;have HRG:=Hh hGb3.range;clear hφ hall hG hγ hE1 hmp1 hch hmp2 hno2 hmm hmg hmrb hM3 hGb3 hR3 HK3 HK2 hM2 hT2 hR2 hGb hNx HM1 HT1 HT2 HGB HMP HNX HLN
    change Exit.then _ _ _ (qQC _ v _ 12) wz
    simp only[qQC,qQD,Act.put];simp only[List.getElem?_toArray,List.getElem?_cons_zero,List.getElem?_cons_succ,Option.bind_some,List.setIfInBounds_toArray,List.set_cons_zero,List.set_cons_succ];have HT:=Hh hR.there;have hst:At (wz.setCells rb 0 (#[.int .i64 (M.P.app x).2.err,.int .u64 ((M.P.app x).2.blob:Int),.int .i64 (M.P.app x).2.size,.int .u32 ((M.P.app x).2.sum:Int),.slice A (M.P.app x).2.names.length cp]:Array Value).toList) rb 36 #[.int .i64 (M.P.app x).2.err,.int .u64 ((M.P.app x).2.blob:Int),.int .i64 (M.P.app x).2.size,.int .u32 ((M.P.app x).2.sum:Int),.slice A (M.P.app x).2.names.length cp]:=At.cells_all hR (by first|rfl|exact hz);have hch:Chg (· = rb) wz (wz.setCells rb 0 (#[.int .i64 (M.P.app x).2.err,.int .u64 ((M.P.app x).2.blob:Int),.int .i64 (M.P.app x).2.size,.int .u32 ((M.P.app x).2.sum:Int),.slice A (M.P.app x).2.names.length cp]:Array Value).toList):=qQg _ _;have HL:=Hh (run_loadVar_mid (P:=prog) _ rb 0 36 (#[.int .i64 (M.P.app x).2.err,.int .u64 ((M.P.app x).2.blob:Int),.int .i64 (M.P.app x).2.size,.int .u32 ((M.P.app x).2.sum:Int),.slice A (M.P.app x).2.names.length cp]:Array Value).toList _ hst.range underlying36 rfl qQs);have HMF:=Hh (hM.away hR (by decide) (by decide) (by decide) (by decide) (by decide) hch);have HKF:=Hh (HK.out.then hch (fun k e=>by have:=HRB.out;have e':k=rb:=e;omega) HBS.out);have HNF:=Hh (qQa hN3 hch fun k hk e=>qQb hN3 hR (by decide) k hk e);clear hst hch hM hR
    go_wp2_with (first|(refine wpList_load_mid rfl 36 _ rfl gb 0 rfl _ _ HRG.out underlying36 rfl qQs ?_)|(refine wpList_store_mid rfl 36 _ _ rfl rb 0 #[.int .i64 (M.P.app x).2.err,.int .u64 ((M.P.app x).2.blob:Int),.int .i64 (M.P.app x).2.size,.int .u32 ((M.P.app x).2.sum:Int),.slice A (M.P.app x).2.names.length cp] rfl rfl (by first|exact HT.out|(have h:=HT.out;rw[hz]at h;exact h)) qQs (by simp[Value.oneCell']) ?_))
    refine bodyPost_ret (v:=.agg #[.int .i64 (M.P.app x).2.err,.int .u64 ((M.P.app x).2.blob:Int),.int .i64 (M.P.app x).2.size,.int .u32 ((M.P.app x).2.sum:Int),.slice A (M.P.app x).2.names.length cp]) (qQJ results13 _ rfl HL.out) rfl ?_;rw[HA4.out];exact⟨A,cp,rfl,HNF.out,⟨c,mb,mn,mc,_,HMF.out⟩,HKF.out⟩
open Go.RowKit
section
variable(w:World)(c:Cmd)(dv:Value)
theorem write_any(hc:c.Wf)(hS:Sl w dv (c.disks.map (Value.int .i64)))(hl:c.disks.length≤1048576)(hnm:c.name.size≤1048576) :
 Calls prog 17 #[qQd c dv] w fun r w'=>r=.returned (.string ⟨c.enc.toArray⟩)∧Ext w w':=by
 unfold qQd
 go_enter func17,ntmps17
 go_wp2_with fail
 have hB:=At.new w 32 #[.int .i64 c.kind,.int .i64 c.client,.int .i64 c.seq,.string c.name,.int .u64 (c.blob:Int),.int .i64 c.size,.int .u32 (c.sum:Int),dv,.int .i64 c.pool,.int .i64 c.vol,.int .i64 c.at_];have hE:=(Er w).alloc (.cells #[.int .i64 c.kind,.int .i64 c.client,.int .i64 c.seq,.string c.name,.int .u64 (c.blob:Int),.int .i64 c.size,.int .u32 (c.sum:Int),dv,.int .i64 c.pool,.int .i64 c.vol,.int .i64 c.at_] 32);generalize w.alloc (.cells #[.int .i64 c.kind,.int .i64 c.client,.int .i64 c.seq,.string c.name,.int .u64 (c.blob:Int),.int .i64 c.size,.int .u32 (c.sum:Int),dv,.int .i64 c.pool,.int .i64 c.vol,.int .i64 c.at_] 32)=W at hB hE⊢;generalize w.heap.size=b at hB⊢;obtain⟨base,hbase⟩:∃n,n=W.heap.size:=⟨_,rfl⟩;have hblt:b<base:=by rw[hbase];exact hB.lt
 have hcells:∀(w':World),qQu W.drew w' base→∀i:Nat,w'.cell? ⟨b,i,none⟩=(#[Value.int .i64 c.kind,.int .i64 c.client,.int .i64 c.seq,.string c.name,.int .u64 (c.blob:Int),.int .i64 c.size,.int .u32 (c.sum:Int),dv,.int .i64 c.pool,.int .i64 c.vol,.int .i64 c.at_]:Array Value)[i]? := by
  intro w' hW i;rw[←hB.cell i];exact Chg.cell (w:=W.drew) (p:=⟨b,i,none⟩) hW hB.lt (fun hs=>by have:=hs.1;simp at this;omega)
 have hSE:SlE W base dv (c.disks.map (Value.int .i64)):=by
  refine⟨hS.ext hE,fun b' o n c' hv hne hs=>?_⟩
  obtain⟨A,c'',hv',hx⟩:=hS;obtain⟨b'',o',rfl,hcell⟩:=hx hne;rw[hv']at hv;injection hv with hv1;injection hv1 with hv1;injection hv1 with hb ho;subst hb;have h1:=hs.1
  have h2:b''<w.heap.size:=by
   generalize hxs:c.disks.map (Value.int .i64)=xs at hcell hne;cases xs with
   | nil=>exact absurd rfl hne
   | cons y r=>exact qZl (hcell 0 y rfl)
  have:=hE.size
  omega
 refine qQq (Γ := Nat) (spφ [.ptr,.val (.pointer (some ⟨b,0,none⟩)),.val (.int .i64 c.kind),.val (.pointer (some ⟨b,1,none⟩)),.val (.int .i64 c.client),.val (.pointer (some ⟨b,2,none⟩)),.val (.int .i64 c.seq),.sl [.int .i64 c.kind,.int .i64 c.client,.int .i64 c.seq],.ptr,
  .val (.pointer (some ⟨b,3,none⟩)),.val (.string c.name),.sl [.string c.name],.ptr,.val (.pointer (some ⟨b,4,none⟩)),.val (.int .u64 (c.blob:Int)),.sl [.int .u64 (c.blob:Int)],.ptr,.val (.pointer (some ⟨b,5,none⟩)),.val (.int .i64 c.size),.sl [.int .i64 c.size],.ptr,
  .val (.pointer (some ⟨b,6,none⟩)),.val (.int .u32 (c.sum:Int)),.val (.int .u64 (c.sum:Int)),.sl [.int .u64 (c.sum:Int)],.ptr,.ptr] base)
  (spG none [(8,[c.kind,c.client,c.seq].flatMap qQw),(12,[c.name].flatMap qZh),(16,[c.blob].flatMap qQ1),(20,[c.size].flatMap qQw),(25,[c.sum].flatMap qQ1)] [] (fun L=>L 0) W.drew base) (by kernel_rfl) (by kernel_rfl) (by kernel_rfl) 0 ⟨fun _ h=>(by cases h),qQu.refl _ _,fun h=>by cases h⟩ ?steps ?fin
 case steps =>
  show qQV _ _ _ _ _ _ 27
  refine⟨⟨⟨⟨⟨⟨⟨⟨⟨⟨⟨⟨⟨⟨⟨⟨⟨⟨⟨⟨⟨⟨⟨⟨⟨⟨⟨trivial,?s0⟩,?s1⟩,?s2⟩,?s3⟩,?s4⟩,?s5⟩,?s6⟩,?s7⟩,?s8⟩,?s9⟩,?s10⟩,?s11⟩,?s12⟩,?s13⟩,?s14⟩,?s15⟩,?s16⟩,?s17⟩,?s18⟩,?s19⟩,?s20⟩,?s21⟩,?s22⟩,?s23⟩,?s24⟩,?s25⟩,?s26⟩
  case s0 =>
   refine enc_alloc [8,12,16,20,25,26] rfl (fun w hW=>by rw[hbase];exact hW.size) rfl rfl rfl rfl rfl (by kernel_rfl) rfl rfl fun a w=>?_
   go_simp
  case s1 =>
   refine qQh (x:=.pointer (some ⟨b,0,none⟩)) rfl rfl (.inl rfl) rfl (fun _=>rfl) fun e L v a w hW hφ hv h0=>?_
   have e1:=h0 1 (by kernel_rfl);simp at e1;go_simp
  case s2 =>
   refine qQh (x:=.int .i64 c.kind) rfl rfl (.inl rfl) rfl (fun _=>rfl) fun e L v a w hW hφ hv h0=>?_
   have e5:=hv 1 5 rfl (by kernel_rfl);rw[show v 1=_ from hφ 1 (by kernel_rfl)]at e5;simp at e5;have hcell:=hcells w hW 0;simp at hcell;go_simp
  case s3 =>
   refine qQh (x:=.pointer (some ⟨b,1,none⟩)) rfl rfl (.inl rfl) rfl (fun _=>rfl) fun e L v a w hW hφ hv h0=>?_
   have e1:=h0 1 (by kernel_rfl);simp at e1;go_simp
  case s4 =>
   refine qQh (x:=.int .i64 c.client) rfl rfl (.inl rfl) rfl (fun _=>rfl) fun e L v a w hW hφ hv h0=>?_
   have e7:=hv 3 7 rfl (by kernel_rfl);rw[show v 3=_ from hφ 3 (by kernel_rfl)]at e7;simp at e7;have hcell:=hcells w hW 1;simp at hcell;go_simp
  case s5 =>
   refine qQh (x:=.pointer (some ⟨b,2,none⟩)) rfl rfl (.inl rfl) rfl (fun _=>rfl) fun e L v a w hW hφ hv h0=>?_
   have e1:=h0 1 (by kernel_rfl);simp at e1;go_simp
  case s6 =>
   refine qQh (x:=.int .i64 c.seq) rfl rfl (.inl rfl) rfl (fun _=>rfl) fun e L v a w hW hφ hv h0=>?_
   have e9:=hv 5 9 rfl (by kernel_rfl);rw[show v 5=_ from hφ 5 (by kernel_rfl)]at e9;simp at e9;have hcell:=hcells w hW 2;simp at hcell;go_simp
  case s7 =>
   refine qQG (cs:=#[.int .i64 c.kind,.int .i64 c.client,.int .i64 c.seq]) (t:=3) (c:=3) (by decide) rfl rfl rfl rfl (fun _=>rfl) fun e L v a w hW hφ hv=>?_
   have e6:=hv 2 6 rfl (by kernel_rfl);rw[show v 2=_ from hφ 2 (by kernel_rfl)]at e6;simp at e6;have e8:=hv 4 8 rfl (by kernel_rfl);rw[show v 4=_ from hφ 4 (by kernel_rfl)]at e8;simp at e8;have e10:=hv 6 10 rfl (by kernel_rfl);rw[show v 6=_ from hφ 6 (by kernel_rfl)]at e10;simp at e10;go_simp
  case s8 =>
   refine qQL (f:=41) (bytes:=[c.kind,c.client,c.seq].flatMap qQw) (before:=[]) (after:=[(12,[c.name].flatMap qZh),(16,[c.blob].flatMap qQ1),(20,[c.size].flatMap qQw),(25,[c.sum].flatMap qQ1)]) rfl rfl rfl rfl rfl (by kernel_rfl) rfl (fun _=>rfl) (fun L hd hn=>hn 0 (by kernel_rfl)) fun e L v a w hgh hW hn hd hE hφ hv h0=>?_
   have e4:=hv 0 4 rfl (by kernel_rfl);rw[show v 0=_ from hφ 0 (by kernel_rfl)]at e4;simp at e4;have e11:=hv 7 11 rfl (by kernel_rfl);have hsl:SlE w base (v 7) _:=hφ 7 (by kernel_rfl);simp at e11;generalize v 7=sv at e11 hsl;exact⟨#[.pointer (some ⟨e,0,none⟩),sv],by go_simp,qZT w base e _ hE sv [c.kind,c.client,c.seq] hsl (by simp[hc.kind,hc.client,hc.seq]) (by simp) (by simp[qQO])⟩
  case s9 =>
   refine qQh (x:=.pointer (some ⟨b,3,none⟩)) rfl rfl (.inl rfl) rfl (fun _=>rfl) fun e L v a w hW hφ hv h0=>?_
   have e1:=h0 1 (by kernel_rfl);simp at e1;go_simp
  case s10 =>
   refine qQh (x:=.string c.name) rfl rfl (.inl rfl) rfl (fun _=>rfl) fun e L v a w hW hφ hv h0=>?_
   have e13:=hv 9 13 rfl (by kernel_rfl);rw[show v 9=_ from hφ 9 (by kernel_rfl)]at e13;simp at e13;have hcell:=hcells w hW 3;simp at hcell;go_simp
  case s11 =>
   refine qQG (cs:=#[.string c.name]) (t:=9) (c:=1) (by decide) rfl rfl rfl rfl (fun _=>rfl) fun e L v a w hW hφ hv=>?_
   have e14:=hv 10 14 rfl (by kernel_rfl);rw[show v 10=_ from hφ 10 (by kernel_rfl)]at e14;simp at e14;go_simp
  case s12 =>
   refine qQL (f:=42) (bytes:=[c.name].flatMap qZh) (before:=[(8,[c.kind,c.client,c.seq].flatMap qQw)]) (after:=[(16,[c.blob].flatMap qQ1),(20,[c.size].flatMap qQw),(25,[c.sum].flatMap qQ1)]) rfl rfl rfl rfl rfl (by kernel_rfl) rfl (fun _=>rfl) (fun L hd hn=>path_on (r:=[8]) (a:=0) hd (by kernel_rfl) (hn 8 (by kernel_rfl))) fun e L v a w hgh hW hn hd hE hφ hv h0=>?_
   have e12:=hv 8 12 rfl (by kernel_rfl);rw[show v 8=_ from hφ 8 (by kernel_rfl)]at e12;simp at e12;have e15:=hv 11 15 rfl (by kernel_rfl);have hsl:SlE w base (v 11) _:=hφ 11 (by kernel_rfl);simp at e15;generalize v 11=sv at e15 hsl;exact⟨#[.pointer (some ⟨e,0,none⟩),sv],by go_simp,es_any w base e _ hE sv [c.name] hsl (by simp;exact hnm) (by simp) (by have:=qQP L [(8,[c.kind,c.client,c.seq].flatMap qQw)];have:=qQe c.kind;have:=qQe c.client;have:=qQe c.seq;simp at *;omega)⟩
  case s13 =>
   refine qQh (x:=.pointer (some ⟨b,4,none⟩)) rfl rfl (.inl rfl) rfl (fun _=>rfl) fun e L v a w hW hφ hv h0=>?_
   have e1:=h0 1 (by kernel_rfl);simp at e1;go_simp
  case s14 =>
   refine qQh (x:=.int .u64 (c.blob:Int)) rfl rfl (.inl rfl) rfl (fun _=>rfl) fun e L v a w hW hφ hv h0=>?_
   have e17:=hv 13 17 rfl (by kernel_rfl);rw[show v 13=_ from hφ 13 (by kernel_rfl)]at e17;simp at e17;have hcell:=hcells w hW 4;simp at hcell;go_simp
  case s15 =>
   refine qQG (cs:=#[.int .u64 (c.blob:Int)]) (t:=29) (c:=1) (by decide) rfl rfl rfl rfl (fun _=>rfl) fun e L v a w hW hφ hv=>?_
   have e18:=hv 14 18 rfl (by kernel_rfl);rw[show v 14=_ from hφ 14 (by kernel_rfl)]at e18;simp at e18;go_simp
  case s16 =>
   refine qQL (f:=43) (bytes:=[c.blob].flatMap qQ1) (before:=[(8,[c.kind,c.client,c.seq].flatMap qQw),(12,[c.name].flatMap qZh)]) (after:=[(20,[c.size].flatMap qQw),(25,[c.sum].flatMap qQ1)]) rfl rfl rfl rfl rfl (by kernel_rfl) rfl (fun _=>rfl) (fun L hd hn=>path_on (r:=[8,12]) (a:=0) hd (by kernel_rfl) (hn 12 (by kernel_rfl))) fun e L v a w hgh hW hn hd hE hφ hv h0=>?_
   have e16:=hv 12 16 rfl (by kernel_rfl);rw[show v 12=_ from hφ 12 (by kernel_rfl)]at e16;simp at e16;have e19:=hv 15 19 rfl (by kernel_rfl);have hsl:SlE w base (v 15) _:=hφ 15 (by kernel_rfl);simp at e19;generalize v 15=sv at e19 hsl;exact⟨#[.pointer (some ⟨e,0,none⟩),sv],by go_simp,eu_any w base e _ hE sv [c.blob] hsl (by simp;exact hc.blob) (by simp) (by have:=qQP L [(8,[c.kind,c.client,c.seq].flatMap qQw),(12,[c.name].flatMap qZh)];have:=qQe c.kind;have:=qQe c.client;have:=qQe c.seq;have:=qQe c.name.size;simp[qZh]at *;omega)⟩
  case s17 =>
   refine qQh (x:=.pointer (some ⟨b,5,none⟩)) rfl rfl (.inl rfl) rfl (fun _=>rfl) fun e L v a w hW hφ hv h0=>?_
   have e1:=h0 1 (by kernel_rfl);simp at e1;go_simp
  case s18 =>
   refine qQh (x:=.int .i64 c.size) rfl rfl (.inl rfl) rfl (fun _=>rfl) fun e L v a w hW hφ hv h0=>?_
   have e21:=hv 17 21 rfl (by kernel_rfl);rw[show v 17=_ from hφ 17 (by kernel_rfl)]at e21;simp at e21;have hcell:=hcells w hW 5;simp at hcell;go_simp
  case s19 =>
   refine qQG (cs:=#[.int .i64 c.size]) (t:=3) (c:=1) (by decide) rfl rfl rfl rfl (fun _=>rfl) fun e L v a w hW hφ hv=>?_
   have e22:=hv 18 22 rfl (by kernel_rfl);rw[show v 18=_ from hφ 18 (by kernel_rfl)]at e22;simp at e22;go_simp
  case s20 =>
   refine qQL (f:=41) (bytes:=[c.size].flatMap qQw) (before:=[(8,[c.kind,c.client,c.seq].flatMap qQw),(12,[c.name].flatMap qZh),(16,[c.blob].flatMap qQ1)]) (after:=[(25,[c.sum].flatMap qQ1)]) rfl rfl rfl rfl rfl (by kernel_rfl) rfl (fun _=>rfl) (fun L hd hn=>path_on (r:=[8,12,16]) (a:=0) hd (by kernel_rfl) (hn 16 (by kernel_rfl))) fun e L v a w hgh hW hn hd hE hφ hv h0=>?_
   have e20:=hv 16 20 rfl (by kernel_rfl);rw[show v 16=_ from hφ 16 (by kernel_rfl)]at e20;simp at e20;have e23:=hv 19 23 rfl (by kernel_rfl);have hsl:SlE w base (v 19) _:=hφ 19 (by kernel_rfl);simp at e23;generalize v 19=sv at e23 hsl;exact⟨#[.pointer (some ⟨e,0,none⟩),sv],by go_simp,qZT w base e _ hE sv [c.size] hsl (by simp;exact hc.size) (by simp) (by have:=qQP L [(8,[c.kind,c.client,c.seq].flatMap qQw),(12,[c.name].flatMap qZh),(16,[c.blob].flatMap qQ1)];have:=qQe c.kind;have:=qQe c.client;have:=qQe c.seq;have:=qQe c.name.size;have:=qQF c.blob;simp[qZh]at *;omega)⟩
  case s21 =>
   refine qQh (x:=.pointer (some ⟨b,6,none⟩)) rfl rfl (.inl rfl) rfl (fun _=>rfl) fun e L v a w hW hφ hv h0=>?_
   have e1:=h0 1 (by kernel_rfl);simp at e1;go_simp
  case s22 =>
   refine qQh (x:=.int .u32 (c.sum:Int)) rfl rfl (.inl rfl) rfl (fun _=>rfl) fun e L v a w hW hφ hv h0=>?_
   have e25:=hv 21 25 rfl (by kernel_rfl);rw[show v 21=_ from hφ 21 (by kernel_rfl)]at e25;simp at e25;have hcell:=hcells w hW 6;simp at hcell;go_simp
  case s23 =>
   refine qQh (x:=.int .u64 (c.sum:Int)) rfl rfl (.inl rfl) rfl (fun _=>rfl) fun e L v a w hW hφ hv h0=>?_
   have e26:=hv 22 26 rfl (by kernel_rfl);rw[show v 22=_ from hφ 22 (by kernel_rfl)]at e26;simp at e26;have hw:=IntWalk.u64_in (c.sum:Int) (by have:=hc.sum;omega);go_simp
  case s24 =>
   refine qQG (cs:=#[.int .u64 (c.sum:Int)]) (t:=29) (c:=1) (by decide) rfl rfl rfl rfl (fun _=>rfl) fun e L v a w hW hφ hv=>?_
   have e27:=hv 23 27 rfl (by kernel_rfl);rw[show v 23=_ from hφ 23 (by kernel_rfl)]at e27;simp at e27;go_simp
  case s25 =>
   refine qQL (f:=43) (bytes:=[c.sum].flatMap qQ1) (before:=[(8,[c.kind,c.client,c.seq].flatMap qQw),(12,[c.name].flatMap qZh),(16,[c.blob].flatMap qQ1),(20,[c.size].flatMap qQw)]) (after:=[]) rfl rfl rfl rfl rfl (by kernel_rfl) rfl (fun _=>rfl) (fun L hd hn=>path_on (r:=[8,12,16,20]) (a:=0) hd (by kernel_rfl) (hn 20 (by kernel_rfl))) fun e L v a w hgh hW hn hd hE hφ hv h0=>?_
   have e24:=hv 20 24 rfl (by kernel_rfl);rw[show v 20=_ from hφ 20 (by kernel_rfl)]at e24;simp at e24;have e28:=hv 24 28 rfl (by kernel_rfl);have hsl:SlE w base (v 24) _:=hφ 24 (by kernel_rfl);simp at e28;generalize v 24=sv at e28 hsl;exact⟨#[.pointer (some ⟨e,0,none⟩),sv],by go_simp,eu_any w base e _ hE sv [c.sum] hsl (by simp;have:=hc.sum;omega) (by simp) (by have:=qQP L [(8,[c.kind,c.client,c.seq].flatMap qQw),(12,[c.name].flatMap qZh),(16,[c.blob].flatMap qQ1),(20,[c.size].flatMap qQw)];have:=qQe c.kind;have:=qQe c.client;have:=qQe c.seq;have:=qQe c.name.size;have:=qQF c.blob;have:=qQe c.size;simp[qZh]at *;omega)⟩
  case s26 =>
   refine enc_hand rfl rfl rfl rfl (fun _=>rfl) fun e L v a w hφ hv=>?_
   have e29:=hv 25 29 rfl (by kernel_rfl);rw[show v 25=_ from hφ 25 (by kernel_rfl)]at e29;simp at e29;go_simp
 case fin =>
  intro e L v w1 hall hG hφ;obtain⟨_,hW1,hE1⟩:=hG;replace hE1:=hE1 (hall 0 (by decide));rw[qZQ (fun c b hm=>hall c (by simp at hm;rcases hm with h|h|h|h|h <;> rw[h.1] <;> decide))]at hE1
  have hE2:qZH w1.drew base e c.enc1:=by
   have:c.enc1=[]++[(8,[c.kind,c.client,c.seq].flatMap qQw),(12,[c.name].flatMap qZh),(16,[c.blob].flatMap qQ1),(20,[c.size].flatMap qQw),(25,[c.sum].flatMap qQ1)].flatMap (·.2):=by simp[Cmd.enc1]
   rw[this];exact hE1.drew
  have hl1:c.enc1.length≤1048676:=by
   have:=qQe c.kind;have:=qQe c.client;have:=qQe c.seq;have:=qQe c.name.size;have:=qQF c.blob;have:=qQe c.size;have:=qQF c.sum
   simp[Cmd.enc1,qZh];omega
  have hcells2:∀(w':World),qQu w1.drew w' base→∀i:Nat,w'.cell? ⟨b,i,none⟩=(#[Value.int .i64 c.kind,.int .i64 c.client,.int .i64 c.seq,.string c.name,.int .u64 (c.blob:Int),.int .i64 c.size,.int .u32 (c.sum:Int),dv,.int .i64 c.pool,.int .i64 c.vol,.int .i64 c.at_]:Array Value)[i]? :=
   fun w' h=>hcells w' (hW1.drew.trans h)
  have hS2:∀w',qQu w1.drew w' base→SlE w' base dv (c.disks.map (Value.int .i64)):=fun w' h=>(hSE.ext (Er W).drew).chg (hW1.drew.trans h)
  have hx1:Ext w w1.drew:=(hE.drew.trans (hW1.below (by rw[hbase];exact Nat.le_refl _))).drew;clear hcells hE1 hSE;rename_i hcells0
  have q25:v 26=.pointer (some ⟨e,0,none⟩):=hφ 26 (by decide)
  change Exit.then _ _ _ (qQC _ v _ 27) w1
  simp only[qQC,qQD,Act.put];simp only[List.getElem?_toArray,List.getElem?_cons_zero,List.getElem?_cons_succ,Option.bind_some,List.setIfInBounds_toArray,List.set_cons_zero,List.set_cons_succ];rw[q25];go_wp2_with fail
  have hcells:=hcells2
  refine qQq (Γ := Nat) (spφ [.val (.pointer (some ⟨e,0,none⟩)),.val (.pointer (some ⟨b,7,none⟩)),.val dv,.ptr,.val (.pointer (some ⟨b,8,none⟩)),.val (.int .i64 c.pool),.val (.pointer (some ⟨b,9,none⟩)),.val (.int .i64 c.vol),.val (.pointer (some ⟨b,10,none⟩)),.val (.int .i64 c.at_),.sl [.int .i64 c.pool,.int .i64 c.vol,.int .i64 c.at_],.ptr,.val (.string ⟨c.enc.toArray⟩),.val (.string ⟨c.enc.toArray⟩)] base)
   (spG (some e) [(3,qXD c.disks),(11,[c.pool,c.vol,c.at_].flatMap qQw)] c.enc1 (fun _=>true) w1.drew base) (by kernel_rfl) (by kernel_rfl) (by kernel_rfl) e ⟨fun _ h=>(by injection h),qQu.refl _ _,fun _=>(by simpa[qQO]using hE2)⟩ ?steps2 ?fin2
  case steps2 =>
   show qQV _ _ _ _ _ _ 14
   refine⟨⟨⟨⟨⟨⟨⟨⟨⟨⟨⟨⟨⟨⟨trivial,?r0⟩,?r1⟩,?r2⟩,?r3⟩,?r4⟩,?r5⟩,?r6⟩,?r7⟩,?r8⟩,?r9⟩,?r10⟩,?r11⟩,?r12⟩,?r13⟩
   case r0 =>
    refine qQh (x:=.pointer (some ⟨e,0,none⟩)) rfl rfl (.inl rfl) rfl (fun _=>rfl) fun e' L v a w hW hφ hv h0=>?_
    have e3:=h0 3 (by kernel_rfl);simp at e3;go_simp
   case r1 =>
    refine qQh (x:=.pointer (some ⟨b,7,none⟩)) rfl rfl (.inl rfl) rfl (fun _=>rfl) fun e L v a w hW hφ hv h0=>?_
    have e1:=h0 1 (by kernel_rfl);simp at e1;go_simp
   case r2 =>
    refine qQh (x:=dv) rfl rfl (.inl rfl) rfl (fun _=>rfl) fun e L v a w hW hφ hv h0=>?_
    have e31:=hv 1 31 rfl (by kernel_rfl);rw[show v 1=_ from hφ 1 (by kernel_rfl)]at e31;simp at e31;have hcell:=hcells w hW 7;simp at hcell;go_simp
   case r3 =>
    refine qQL (f:=44) (bytes:=qXD c.disks) (before:=[]) (after:=[(11,[c.pool,c.vol,c.at_].flatMap qQw)]) rfl rfl rfl rfl rfl (by kernel_rfl) rfl (fun _=>rfl) (fun _ _ _=>rfl) fun e' L v a w hgh hW hn hd hE hφ hv h0=>?_
    have e30:=hv 0 30 rfl (by kernel_rfl);rw[show v 0=_ from hφ 0 (by kernel_rfl)]at e30;simp at e30;have e32:=hv 2 32 rfl (by kernel_rfl);rw[show v 2=_ from hφ 2 (by kernel_rfl)]at e32;simp at e32;rw[hgh _ rfl]at hE⊢;exact⟨#[.pointer (some ⟨e,0,none⟩),dv],by go_simp,elist_any w base e _ hE dv c.disks (hS2 w hW) hc.disks hl (by rw[qQO];simp;omega)⟩
   case r4 =>
    refine qQh (x:=.pointer (some ⟨b,8,none⟩)) rfl rfl (.inl rfl) rfl (fun _=>rfl) fun e L v a w hW hφ hv h0=>?_
    have e1:=h0 1 (by kernel_rfl);simp at e1;go_simp
   case r5 =>
    refine qQh (x:=.int .i64 c.pool) rfl rfl (.inl rfl) rfl (fun _=>rfl) fun e L v a w hW hφ hv h0=>?_
    have e34:=hv 4 34 rfl (by kernel_rfl);rw[show v 4=_ from hφ 4 (by kernel_rfl)]at e34;simp at e34;have hcell:=hcells w hW 8;simp at hcell;go_simp
   case r6 =>
    refine qQh (x:=.pointer (some ⟨b,9,none⟩)) rfl rfl (.inl rfl) rfl (fun _=>rfl) fun e L v a w hW hφ hv h0=>?_
    have e1:=h0 1 (by kernel_rfl);simp at e1;go_simp
   case r7 =>
    refine qQh (x:=.int .i64 c.vol) rfl rfl (.inl rfl) rfl (fun _=>rfl) fun e L v a w hW hφ hv h0=>?_
    have e36:=hv 6 36 rfl (by kernel_rfl);rw[show v 6=_ from hφ 6 (by kernel_rfl)]at e36;simp at e36;have hcell:=hcells w hW 9;simp at hcell;go_simp
   case r8 =>
    refine qQh (x:=.pointer (some ⟨b,10,none⟩)) rfl rfl (.inl rfl) rfl (fun _=>rfl) fun e L v a w hW hφ hv h0=>?_
    have e1:=h0 1 (by kernel_rfl);simp at e1;go_simp
   case r9 =>
    refine qQh (x:=.int .i64 c.at_) rfl rfl (.inl rfl) rfl (fun _=>rfl) fun e L v a w hW hφ hv h0=>?_
    have e38:=hv 8 38 rfl (by kernel_rfl);rw[show v 8=_ from hφ 8 (by kernel_rfl)]at e38;simp at e38;have hcell:=hcells w hW 10;simp at hcell;go_simp
   case r10 =>
    refine qQG (cs:=#[.int .i64 c.pool,.int .i64 c.vol,.int .i64 c.at_]) (t:=3) (c:=3) (by decide) rfl rfl rfl rfl (fun _=>rfl) fun e L v a w hW hφ hv=>?_
    have e35:=hv 5 35 rfl (by kernel_rfl);rw[show v 5=_ from hφ 5 (by kernel_rfl)]at e35;simp at e35;have e37:=hv 7 37 rfl (by kernel_rfl);rw[show v 7=_ from hφ 7 (by kernel_rfl)]at e37;simp at e37;have e39:=hv 9 39 rfl (by kernel_rfl);rw[show v 9=_ from hφ 9 (by kernel_rfl)]at e39;simp at e39;go_simp
   case r11 =>
    refine qQL (f:=41) (bytes:=[c.pool,c.vol,c.at_].flatMap qQw) (before:=[(3,qXD c.disks)]) (after:=[]) rfl rfl rfl rfl rfl (by kernel_rfl) rfl (fun _=>rfl) (fun _ _ _=>rfl) fun e' L v a w hgh hW hn hd hE hφ hv h0=>?_
    have e33:=hv 3 33 rfl (by kernel_rfl);rw[show v 3=_ from hφ 3 (by kernel_rfl)]at e33;simp at e33;have e40:=hv 10 40 rfl (by kernel_rfl);have hsl:SlE w base (v 10) _:=hφ 10 (by kernel_rfl);simp at e40;generalize v 10=sv at e40 hsl;exact⟨#[.pointer (some ⟨e',0,none⟩),sv],by go_simp,qZT w base e' _ hE sv [c.pool,c.vol,c.at_] hsl (by simp[hc.pool,hc.vol,hc.at_]) (by simp) (by have:=qQP L [(3,qXD c.disks)];have:=qXH c.disks;have:=qQe c.disks.length;simp[qXD]at *;omega)⟩
   case r12 =>
    refine enc_read (f:=45) (x:=.string ⟨c.enc.toArray⟩) rfl rfl rfl rfl (fun _=>rfl) (fun _ _ _=>rfl) fun e' L v a w hgh hn hd hE hφ hv=>?_
    have e41:=hv 11 41 rfl (by kernel_rfl);rw[show v 11=_ from hφ 11 (by kernel_rfl)]at e41;simp at e41;have h3:=hd 11 3 (hn 11 (by kernel_rfl)) (by kernel_rfl);rw[qZQ (fun k b hm=>by simp at hm;rcases hm with h|h <;> rw[h.1];exact h3;exact hn 11 (by kernel_rfl))]at hE;have he:c.enc1++[(3,qXD c.disks),(11,[c.pool,c.vol,c.at_].flatMap qQw)].flatMap (·.2)=c.enc:=by simp[Cmd.enc]
    rw[he]at hE;exact⟨#[.pointer (some ⟨e',0,none⟩)],by go_simp,(bytes_any w base e' _ hE).mono fun _ _ ⟨h,h'⟩=>⟨h,h' ▸ Er _⟩⟩
   case r13 =>
    refine qQh (x:=.string ⟨c.enc.toArray⟩) rfl rfl (.inl rfl) rfl (fun _=>rfl) fun e L v a w hW hφ hv h0=>?_
    have e42:=hv 12 42 rfl (by kernel_rfl);rw[show v 12=_ from hφ 12 (by kernel_rfl)]at e42;simp at e42;go_simp
  case fin2 =>
   intro e2 L2 v2 w2 hall2 hG2 hφ2;have q13:v2 13=.string ⟨c.enc.toArray⟩:=hφ2 13 (by decide);have hx2:Ext w w2:=hE.drew.trans ((hW1.drew.trans hG2.2.1).below (by rw[hbase];exact Nat.le_refl _))
   change Exit.then _ _ _ (qQC _ v2 _ 14) w2
   simp only[qQC,qQD,Act.put];simp only[List.getElem?_toArray,List.getElem?_cons_zero,List.getElem?_cons_succ,Option.bind_some,List.setIfInBounds_toArray,List.set_cons_zero,List.set_cons_succ];rw[q13];go_wp2_with fail
   go_ret
   exact⟨rfl,hx2⟩
end
open Go.RowKit Go.Sort
theorem stold_any{w:World}{B:Nat→Prop}{m:Nat}{M:Mach}{n:Nat}(h:qZo w B m M)(hi:MInv n M)(hn:n≤1000)(k s:Int) :
 Calls prog 18 #[.pointer (some ⟨m,0,none⟩),.int .i64 k,.int .i64 s] w fun e w'=>∃r A c,e=.returned (.tuple #[qZB r.err r.blob r.size r.sum (.slice A r.names.length c),.bool (M.told k s).isSome])∧r=(M.told k s).getD (Rs.er 0)∧w'.ownsRow 0 9 1 (.slice A r.names.length c) r.names.length (r.names.map Value.string)∧Ext w w':=by
 obtain⟨c,mb,mn,mc,rows,hM⟩:=h;obtain⟨ok,sq,r,lA,lcp,hok,hlv,hsq,htold,hnl,hnlen⟩:=last_form hM (fun p hp=>Nat.le_trans (hi.cl p hp).2.2.len hn) k;have HTO:=Hh (htold s);have HNL:=Hh hnlen;have HNO:=Hh hnl;clear htold hsq hnlen hi hn hnl
 go_enter func18,ntmps18
 have hR:=At.new w 36 zZR;have hE:=(Er w).alloc (.cells zZR 36)
 go_upto_region 1 with fail
 obtain⟨rb,hrb⟩:∃rb,w.heap.size=rb:=⟨_,rfl⟩;rw[hrb]at hR⊢;have HRB:=Hh (show w.heap.size≤rb by omega);generalize w.alloc _=W at hR hE⊢;clear hrb;have hM:=hM.ext hE;obtain⟨c0,c1,c2,_⟩:=hM.cells;have hlk:=hM.look k;rw[hok,hlv]at hlk;have hL:=At.new W 76 #[.int .i64 sq,.int .i64 r.err,.int .u64 (r.blob:Int),.int .i64 r.size,.int .u32 (r.sum:Int),.slice lA r.names.length lcp];have hEl:=(Er W).alloc (.cells #[.int .i64 sq,.int .i64 r.err,.int .u64 (r.blob:Int),.int .i64 r.size,.int .u32 (r.sum:Int),.slice lA r.names.length lcp] 76);clear hok hlv
 go_upto_region 2 with fail
 clear hlk c0 c1 c2;obtain⟨lb,hlb⟩:∃lb,W.heap.size=lb:=⟨_,rfl⟩;rw[hlb]at hL⊢;clear hlb;generalize W.alloc _=W2 at hL hEl⊢;have hR:=hR.ext hEl;have hE:=hE.trans hEl;have l0:=hL.cell 0;simp at l0
 by_cases htl:ok=true∧sq=s
 ·obtain⟨rfl,rfl⟩:=htl;have HT2:Hid (M.told k sq=some r):=Hh (by rw[HTO.out,if_pos ⟨rfl,rfl⟩])
  have hlr:W2.rangeAt lb 1 (#[.int .i64 r.err,.int .u64 (r.blob:Int),.int .i64 r.size,.int .u32 (r.sum:Int),.slice lA r.names.length lcp]:Array Value).toList:=fun j u hu=>by
   have hj:=(List.getElem?_eq_some_iff.1 hu).1
   have:=hL.cell (1+j)
   rw[this];rw[←hu]
   match j,hj with
   | 0,_=>rfl
   | 1,_=>rfl
   | 2,_=>rfl
   | 3,_=>rfl
   | 4,_=>rfl
  have HLR:=Hh hlr;have HOW:=Hh (sown_any W2 r.err r.blob r.size r.sum (.slice lA r.names.length lcp) r.names (own_kx HNO.out hE) (by have:=HNL.out;omega));clear hlr hL hM hEl HTO
  go_wp2_with (refine wpList_load_mid rfl 36 _ rfl lb 1 rfl _ _ HLR.out underlying36 rfl qQs ?_)
  refine HOW.out.mono ?_;rintro e w6 ⟨A,cp,rfl,hno,hE6⟩;replace hno:=qQR hno;have hR:=hR.ext hE6;have hE:=hE.trans hE6;clear HOW HLR hE6 l0;unfold qZB;have HT:=Hh hR.there;have hst:At (w6.setCells rb 0 (#[.int .i64 r.err,.int .u64 (r.blob:Int),.int .i64 r.size,.int .u32 (r.sum:Int),.slice A r.names.length cp]:Array Value).toList) rb 36 #[.int .i64 r.err,.int .u64 (r.blob:Int),.int .i64 r.size,.int .u32 (r.sum:Int),.slice A r.names.length cp]:=At.cells_all hR rfl;have hch:Chg (· = rb) w6 (w6.setCells rb 0 (#[.int .i64 r.err,.int .u64 (r.blob:Int),.int .i64 r.size,.int .u32 (r.sum:Int),.slice A r.names.length cp]:Array Value).toList):=qQg _ _;have HL:=Hh (run_loadVar_mid (P:=prog) _ rb 0 36 (#[.int .i64 r.err,.int .u64 (r.blob:Int),.int .i64 r.size,.int .u32 (r.sum:Int),.slice A r.names.length cp]:Array Value).toList _ hst.range underlying36 rfl qQs);have HNF:=Hh (qQa hno hch fun k hk e=>qQb hno hR (by decide) k hk e);have HEF:=Hh (hE.setCells HRB.out (#[.int .i64 r.err,.int .u64 (r.blob:Int),.int .i64 r.size,.int .u32 (r.sum:Int),.slice A r.names.length cp]:Array Value).toList 0);clear hst hch hR hE hno
  go_wp2_with (refine wpList_store_mid rfl 36 _ _ rfl rb 0 #[.int .i64 r.err,.int .u64 (r.blob:Int),.int .i64 r.size,.int .u32 (r.sum:Int),.slice A r.names.length cp] rfl rfl HT.out qQs (by simp[Value.oneCell']) ?_)
  refine bodyPost_ret (v:=.tuple #[.agg #[.int .i64 r.err,.int .u64 (r.blob:Int),.int .i64 r.size,.int .u32 (r.sum:Int),.slice A r.names.length cp],.bool true]) (qQA results18 _ rfl HL.out) rfl ?_;exact⟨r,A,cp,by rw[HT2.out];rfl,by rw[HT2.out];rfl,HNF.out,HEF.out⟩
 ·have HT2:Hid (M.told k s=none):=Hh (by rw[HTO.out,if_neg htl])
  have hokc:ok=false∨ok=true∧(sq != s)=true:=by
   cases ok
   ·exact .inl rfl
   ·exact .inr ⟨rfl,by rw[bne_iff_ne];exact fun e=>htl ⟨rfl,e⟩⟩
  have HT:=Hh hR.there;have hst:At (W2.setCells rb 0 zZR.toList) rb 36 zZR:=At.cells_all hR rfl;have HL:=Hh (run_loadVar_mid (P:=prog) _ rb 0 36 zZR.toList _ hst.range underlying36 rfl qQs);have HEF:=Hh (hE.setCells HRB.out zZR.toList 0);clear hst hR hE hL hM hEl HTO htl;rcases hokc with rfl|⟨rfl,hne⟩
  all_goals
   go_wp2_with (refine wpList_store_mid rfl 36 _ _ rfl rb 0 #[.int .i64 0,.int .u64 0,.int .i64 0,.int .u32 0,.slice none 0 0] rfl rfl HT.out qQs (by simp[Value.oneCell']) ?_)
   refine bodyPost_ret (v:=.tuple #[.agg zZR,.bool false]) (qQA results18 _ rfl HL.out) rfl ?_;exact⟨Rs.er 0,none,0,by rw[HT2.out];rfl,by rw[HT2.out];rfl,qQx _ _ _,HEF.out⟩
theorem sbytes_any(w:World)(x:Cmd)(dv:Value)(o:ByteArray)(hx:x.In dv w)(hd:x.disks.length≤17592186043904)(ho:o.size≤maxLen) :
 Calls prog 12 #[qQd x dv,.string o] w fun e w'=>e=.returned (.string ⟨(qXw x o).toArray⟩)∧Ext w w':=by
 have HX:=Hh hx;obtain⟨hsl,hcap⟩:=hx.sl;have HSL:=Hh hsl;clear hsl hx;unfold qQd
 go_enter func12,ntmps12
 have hB:=At.new w 32 (cmdCells x dv);have hE:=(Er w).alloc (.cells (cmdCells x dv) 32)
 go_upto_region 1 with fail
 obtain⟨xb,hxb⟩:∃xb,w.heap.size=xb:=⟨_,rfl⟩;rw[hxb]at hB⊢;have HXB:=Hh (show w.heap.size≤xb by omega);generalize w.alloc _=W at hB hE⊢;clear hxb hcap;have b3:=hB.cell 3;have f3:=hB.frozen 3;simp[cmdCells]at b3;have HC:=Hh (fun W=>cut_any x.name 32 W HX.out.nm (by omega));go_wp2_with fail
 refine(HC.out _).mono ?_
 rintro e w1 ⟨rfl,rfl⟩
 go_upto_region 2 with fail
 clear b3 f3 HC;have hch:Chg (· = xb) w1 (w1.setCell ⟨xb,3,none⟩ (.string (cut x.name 32))):=Chg.setCell (S:=(· = xb)) (p:=⟨xb,3,none⟩) (Er w1).chg (.inl rfl) _;have hB2:At (w1.setCell ⟨xb,3,none⟩ (.string (cut x.name 32))) xb 32 (cmdCells { x with name:=cut x.name 32 } dv):=hB.set 3 _;have hE2:Ext w (w1.setCell ⟨xb,3,none⟩ (.string (cut x.name 32))):=hE.chg_trans hch |>.mono (fun k hk e=>by have:=HXB.out;have e':k=xb:=e;omega)
 clear hB hE hch;generalize w1.setCell ⟨xb,3,none⟩ (.string (cut x.name 32))=W2 at hB2 hE2⊢;have b7:=hB2.cell 7;simp[cmdCells]at b7;have HD:=Hh (disk_any W2 dv x.disks (HSL.out.ext hE2) hd);go_wp2_with fail
 refine HD.out.mono ?_;rintro e w3 ⟨v,rfl,hO,hE3⟩;obtain⟨dA,dc,rfl⟩:=qQc hO;have hB3:=hB2.ext hE3;have hE3:=hE2.trans hE3;clear b7 HD hB2 hE2;have b7:=hB3.cell 7;have f7:=hB3.frozen 7;simp[cmdCells]at b7
 go_upto_region 3 with fail
 clear b7 f7;have hch:Chg (· = xb) w3 (w3.setCell ⟨xb,7,none⟩ (.slice dA (qZP x.disks).length dc)):=Chg.setCell (S:=(· = xb)) (p:=⟨xb,7,none⟩) (Er w3).chg (.inl rfl) _;have hB4:At (w3.setCell ⟨xb,7,none⟩ (.slice dA (qZP x.disks).length dc)) xb 32 (cmdCells (seCmd x) (.slice dA (qZP x.disks).length dc)):=hB3.set 7 _;have hO4:=qQa (qQR hO) hch fun k hk e=>qQb (qQR hO) hB3 (by decide) k hk e
 have hE4:Ext w (w3.setCell ⟨xb,7,none⟩ (.slice dA (qZP x.disks).length dc)):=hE3.chg_trans hch |>.mono (fun k hk e=>by have:=HXB.out;have e':k=xb:=e;omega)
 clear hB3 hO hE3 hch;generalize w3.setCell ⟨xb,7,none⟩ (.slice dA (qZP x.disks).length dc)=W4 at hB4 hO4 hE4⊢;have hsl4:Sl W4 (.slice dA (qZP x.disks).length dc) ((seCmd x).disks.map (Value.int .i64)):=Sl.of_own hO4;have hdl:(seCmd x).disks.length≤6:=qQ8 (qJg x.disks);have hnl:(seCmd x).name.size≤32:=cut_size x.name 32;have HG:=Hh (qZL W4 (seCmd x) (.slice dA (qZP x.disks).length dc) hsl4 (by omega) (by omega));have HRB:=Hh hB4.range;have HS4:=Hh hsl4;have HDL:=Hh (And.intro hdl hnl);clear hsl4 hO4 hdl hnl
 go_wp2_with (refine wpList_load_mid rfl 32 _ rfl xb 0 rfl _ _ HRB.out underlying32 rfl qXQ ?_)
 refine HG.out.mono ?_;rintro e w5 ⟨rfl,hE5⟩;have hB5:=hB4.ext hE5;have hE6:=hE4.trans hE5;rcases Bool.eq_false_or_eq_true (seCmd x).good with hg|hg
 ·have HS:Hid (qXw x o=(seCmd x).enc):=Hh (by unfold qXw;rw[if_pos hg]);rw[hg];have HW:=Hh (write_any w5 (seCmd x) (.slice dA (qZP x.disks).length dc) (seCmd_wf HX.out.wf) (HS4.out.ext hE5) (by have:=HDL.out.1;omega) (by have:=HDL.out.2;omega));have HRB5:=Hh hB5.range;clear hg hB4 hB5 HG HRB hE4 hE5
  go_wp2_with (refine wpList_load_mid rfl 32 _ rfl xb 0 rfl _ _ HRB5.out underlying32 rfl qXQ ?_)
  refine HW.out.mono ?_;rintro e w6 ⟨rfl,hE7⟩;go_wp2_with fail
  go_ret
  exact⟨by rw[HS.out];rfl,hE6.trans hE7⟩
 ·have HS:Hid (qXw x o=(cut o 60).data.toList):=Hh (by unfold qXw;rw[if_neg (by rw[hg];decide)]);rw[hg];have HC:=Hh (fun W=>cut_any o 60 W ho (by omega));clear hg hB4 hB5 HG HRB hE4 hE5;go_wp2_with fail
  refine(HC.out _).mono ?_
  rintro e w6 ⟨rfl,rfl⟩;go_wp2_with fail
  go_ret
  exact⟨by rw[HS.out];rfl,hE6⟩
open Go.RowKit Go.Sort
def putC(c s:Int)(nm:ByteArray)(b:Nat):Cmd:=⟨1,c,s,nm,b,1,0,[0],0,0,0⟩
theorem disk_0s:qZP [0]=[0]:=by rw[diskOf_eq];decide
theorem sl_oneS(w:World)(x:Int):Sl (w.alloc (.cells #[.int .i64 x] 3)) (.slice (some ⟨w.heap.size,0,none⟩) 1 1) (([x]:List Int).map (Value.int .i64)):=by
 refine⟨_,1,rfl,fun _=>⟨_,0,rfl,fun i u hi=>?_⟩⟩
 rw[(At.new w 3 #[.int .i64 x]).cell (0+i),Nat.zero_add];simpa using hi
theorem qJZ(w:World)(c s:Int)(nm:ByteArray)(b:Nat)(bI:Int)(hbI:(b:Int)=bI)(hw:(putC c s nm b).Wf)(hn:nm.size≤100) :
 Calls prog 28 #[.int .i64 c,.int .i64 s,.string nm,.int .u64 bI] w fun e w'=>e=.returned (.string ⟨(putC c s nm b).enc.toArray⟩)∧Ext w w':=by
 have HD:=Hh (disk_any _ _ [0] (sl_oneS w 0) (by decide));have hE0:=(Er w).alloc (.cells #[.int .i64 0] 3)
 go_enter func28,ntmps28
 go_wp2_with fail
 refine HD.out.mono ?_;rintro e w1 ⟨v,rfl,hO,hE1⟩;rw[disk_0s]at hO;obtain⟨dA,dc,rfl⟩:=qQc hO;have HW:=Hh (write_any w1 (putC c s nm b) (.slice dA ([0]:List Int).length dc) hw (Sl.of_own hO) (by show([0]:List Int).length≤_;decide) (by show nm.size≤_;omega));unfold qQd putC at HW;rw[hbI]at HW;clear HD hO;go_wp2_with fail
 refine HW.out.mono ?_;rintro e w2 ⟨rfl,hE2⟩;go_wp2_with fail
 go_ret
 exact⟨rfl,(hE0.trans hE1).trans hE2⟩
def na:ByteArray:=⟨#[97]⟩
def nb:ByteArray:=⟨#[98]⟩
def p1:Cmd:=putC 1 1 na 7
def p2:Cmd:=putC 1 2 nb 8
theorem p1_wf:p1.Wf:=⟨by decide,by decide,by decide,by decide,by decide,by decide,by decide,by decide,by decide,fun d h=>by simp[p1,putC]at h;omega⟩
theorem p2_wf:p2.Wf:=⟨by decide,by decide,by decide,by decide,by decide,by decide,by decide,by decide,by decide,fun d h=>by simp[p2,putC]at h;omega⟩
theorem qJB:p1.good=true:=by kernel_rfl
theorem p2_good:p2.good=true:=by kernel_rfl
def bl7:Bl:=⟨7,na,1,0,[0],Cp.none,Cp.none,0,false⟩
def bl8:Bl:=⟨8,nb,1,0,[0],Cp.none,Cp.none,0,false⟩
def mP1:Pm:=⟨[bl7],List.replicate 12 Vl.zero⟩
def mP2:Pm:=⟨[bl7,bl8],List.replicate 12 Vl.zero⟩
def M1:Mach:=⟨mP1,[(1,⟨1,Rs.er 0⟩)],1⟩
def M2:Mach:=⟨mP1,[(1,⟨1,Rs.er 0⟩)],2⟩
def M3:Mach:=⟨mP2,[(1,⟨2,Rs.er 0⟩)],3⟩
def M4:Mach:=⟨mP2,[(1,⟨2,Rs.er 0⟩)],4⟩
theorem app_enc{M:Mach}{x:Cmd}(hg:x.good=true)(hw:x.Wf):M.app x.enc=((M.cmd x).1.inc,(M.cmd x).2):=by
 have hc:=cread_enc hg hw;unfold Mach.app;rw[if_neg (fun e=>by rw[e]at hc;exact cread_nil (by rw[hc])),hc];rfl
theorem c1:Mach.empty.cmd p1=(⟨mP1,[(1,⟨1,Rs.er 0⟩)],0⟩,Rs.er 0):=by kernel_rfl
theorem c2:M1.cmd p1=(M1,Rs.er 0):=by kernel_rfl
theorem c3:M2.cmd p2=(⟨mP2,[(1,⟨2,Rs.er 0⟩)],2⟩,Rs.er 0):=by kernel_rfl
theorem c4:M3.cmd p1=(M3,Rs.er 16):=by kernel_rfl
theorem a1:Mach.empty.app p1.enc=(M1,Rs.er 0):=by rw[app_enc qJB p1_wf,c1];rfl
theorem a2:M1.app p1.enc=(M2,Rs.er 0):=by rw[app_enc qJB p1_wf,c2];rfl
theorem a3:M2.app p2.enc=(M3,Rs.er 0):=by rw[app_enc p2_good p2_wf,c3];rfl
theorem a4:M3.app p1.enc=(M4,Rs.er 16):=by rw[app_enc qJB p1_wf,c4];rfl
theorem i1:MInv 1 M1:=by have:=MInv.empty.app p1.enc;rw[a1]at this;exact this
theorem i2:MInv 2 M2:=by have:=i1.app p1.enc;rw[a2]at this;exact this
theorem i3:MInv 3 M3:=by have:=i2.app p2.enc;rw[a3]at this;exact this
theorem i4:MInv 4 M4:=by have:=i3.app p1.enc;rw[a4]at this;exact this
theorem qJq{w:World}{B:Nat→Prop}{m n:Nat}{M M':Mach}{er:Int}{x:Cmd}(h:qZo w B m M)(hi:MInv n M)(hn:n≤1000)(hg:x.good=true)(ha:M.app x.enc=(M',Rs.er er)) :
 Calls prog 13 #[.pointer (some ⟨m,0,none⟩),.string ⟨x.enc.toArray⟩] w fun e w'=>∃A c,e=.returned (.agg #[.int .i64 er,.int .u64 0,.int .i64 0,.int .u32 0,.slice A 0 c])∧qZo w' B m M'∧Km B w w':=by
 have hsz:(⟨x.enc.toArray⟩:ByteArray).size≤1000:=by
  show x.enc.toArray.size≤1000
  rw[List.size_toArray];exact Nat.le_trans (enc_len hg) (by decide)
 refine(qJA w B m M n h hi hn ⟨x.enc.toArray⟩ hsz).mono ?_
 rintro e w' ⟨A,c,rfl,_,h1,h2⟩;have e1:(⟨x.enc.toArray⟩:ByteArray).data.toList=x.enc:=rfl;rw[e1,ha]at h1⊢;exact⟨A,c,rfl,h1,h2⟩
theorem sawake_any(w:World):Calls prog 10 #[] w fun e w'=>e=.returned (.bool true)∧Ext w w':=by
 go_enter func10,ntmps10
 go_wp2_with fail
 obtain⟨B,hBe⟩:∃B,Hi w.heap.size=B:=⟨_,rfl⟩;have hwB:∀k,B k→w.heap.size≤k:=by rw[←hBe];exact fun k hk=>hk
 have hN:=snew_any w;rw[hBe]at hN;clear hBe;refine hN.mono ?_;rintro e w0 ⟨m,rfl,hM0,hE0⟩;clear hN;obtain⟨c,mb,mn,mc,rows,hA0⟩:=hM0;go_wp2_with fail
 refine(scat_any hA0).mono ?_
 rintro e w1 ⟨rfl,hE1⟩;have hM:qZo w1 B m Mach.empty:=qZo.ext ⟨c,mb,mn,mc,rows,hA0⟩ hE1;have hX:=hE0.trans hE1;clear hA0 hE0 hE1;go_wp2_with fail
 refine(qJZ _ 1 1 na 7 7 (by rfl) p1_wf (by decide)).mono ?_
 rintro e w2 ⟨rfl,hE2⟩;go_wp2_with fail
 refine(qJq (x:=p1) (hM.ext hE2) MInv.empty (by omega) qJB a1).mono ?_
 rintro e w3 ⟨A3,c3,rfl,hM3,hK3⟩;replace hX:=Km.ext (hX.trans hE2) hK3 hwB;clear hM hE2 hK3;go_wp2_with fail
 refine(qJZ _ 1 1 na 7 7 (by rfl) p1_wf (by decide)).mono ?_
 rintro e w4 ⟨rfl,hE4⟩;go_wp2_with fail
 refine(qJq (x:=p1) (hM3.ext hE4) i1 (by omega) qJB a2).mono ?_
 rintro e w5 ⟨A5,c5,rfl,hM5,hK5⟩;replace hX:=Km.ext (hX.trans hE4) hK5 hwB;clear hM3 hE4 hK5;have r2:=(At.new w5 36 #[.int .i64 0,.int .u64 0,.int .i64 0,.int .u32 0,.slice A3 0 c3]).alloc (.cells #[.int .i64 0,.int .u64 0,.int .i64 0,.int .u32 0,.slice A5 0 c5] 36);have r3:=At.new (w5.alloc (.cells #[.int .i64 0,.int .u64 0,.int .i64 0,.int .u32 0,.slice A3 0 c3] 36)) 36 #[.int .i64 0,.int .u64 0,.int .i64 0,.int .u32 0,.slice A5 0 c5];have hEa:=((Er w5).alloc (.cells #[.int .i64 0,.int .u64 0,.int .i64 0,.int .u32 0,.slice A3 0 c3] 36)).alloc (.cells #[.int .i64 0,.int .u64 0,.int .i64 0,.int .u32 0,.slice A5 0 c5] 36);rw[show(w5.alloc (.cells #[.int .i64 0,.int .u64 0,.int .i64 0,.int .u32 0,.slice A3 0 c3] 36)).heap.size=w5.heap.size+1 by simp]at r3
 go_upto_region 5 with fail
 generalize w5.heap.size=g2 at r2 r3⊢;generalize World.alloc _ _=W6 at r2 r3 hEa⊢;have hM5:=hM5.ext hEa;replace hX:=hX.trans hEa;clear hEa;go_wp2_with fail
 refine(qJZ _ 1 2 nb 8 8 (by rfl) p2_wf (by decide)).mono ?_
 rintro e w7 ⟨rfl,hE7⟩;go_wp2_with fail
 refine(qJq (x:=p2) (hM5.ext hE7) i2 (by omega) p2_good a3).mono ?_
 rintro e w8 ⟨A8,c8,rfl,hM8,hK8⟩;replace hX:=Km.ext (hX.trans hE7) hK8 hwB;have r2:=hK8.at_ _ _ _ (by decide) (by decide) (by decide) (r2.ext hE7);have r3:=hK8.at_ _ _ _ (by decide) (by decide) (by decide) (r3.ext hE7);clear hM5 hE7 hK8;go_wp2_with fail
 refine(qJZ _ 1 1 na 7 7 (by rfl) p1_wf (by decide)).mono ?_
 rintro e w9 ⟨rfl,hE9⟩;go_wp2_with fail
 refine(qJq (x:=p1) (hM8.ext hE9) i3 (by omega) qJB a4).mono ?_
 rintro e w10 ⟨A10,c10,rfl,hM10,hK10⟩;replace hX:=Km.ext (hX.trans hE9) hK10 hwB;have r2:=hK10.at_ _ _ _ (by decide) (by decide) (by decide) (r2.ext hE9);have r3:=hK10.at_ _ _ _ (by decide) (by decide) (by decide) (r3.ext hE9);clear hM8 hE9 hK10;have r4:=(At.new w10 36 #[.int .i64 0,.int .u64 0,.int .i64 0,.int .u32 0,.slice A8 0 c8]).alloc (.cells #[.int .i64 16,.int .u64 0,.int .i64 0,.int .u32 0,.slice A10 0 c10] 36);have r5:=At.new (w10.alloc (.cells #[.int .i64 0,.int .u64 0,.int .i64 0,.int .u32 0,.slice A8 0 c8] 36)) 36 #[.int .i64 16,.int .u64 0,.int .i64 0,.int .u32 0,.slice A10 0 c10];have hEa:=((Er w10).alloc (.cells #[.int .i64 0,.int .u64 0,.int .i64 0,.int .u32 0,.slice A8 0 c8] 36)).alloc (.cells #[.int .i64 16,.int .u64 0,.int .i64 0,.int .u32 0,.slice A10 0 c10] 36);rw[show(w10.alloc (.cells #[.int .i64 0,.int .u64 0,.int .i64 0,.int .u32 0,.slice A8 0 c8] 36)).heap.size=w10.heap.size+1 by simp]at r5
 go_upto_region 6 with fail
 generalize w10.heap.size=g4 at r4 r5⊢;generalize World.alloc _ _=W11 at r4 r5 hEa⊢;have hM10:=hM10.ext hEa;have r2:=r2.ext hEa;have r3:=r3.ext hEa;replace hX:=hX.trans hEa;clear hEa;have q2:=r2.cell 0;have q3:=r3.cell 0;have q4:=r4.cell 0;have q5:=r5.cell 0;simp at q2 q3 q4 q5;obtain⟨c',mb',mn',mc',rows',hA⟩:=hM10;go_wp2_with fail
 refine(scat_any hA).mono ?_
 rintro e w12 ⟨rfl,hE12⟩;have hA:=hA.ext hE12;go_wp2_with fail
 refine(cblobs_any hA.cat i4.cat (by omega)).mono ?_
 rintro e w13 ⟨bA,bc,rfl,_,hE13⟩;have hL2:M4.P.L.length=2:=rfl;rw[hL2];have hMf:qZo w13 B m M4:=⟨c',mb',mn',mc',rows',hA.ext hE13⟩;replace hX:=(hX.trans hE12).trans hE13;clear hA hE12 hE13 hL2;go_wp2_with fail
 refine(scount_any hMf).mono ?_
 rintro e w14 ⟨rfl,hE14⟩;have hMf:=hMf.ext hE14;rw[show M4.n=4 from rfl];go_wp2_with fail
 refine(sseq_any hMf 1).mono ?_
 rintro e w15 ⟨rfl,hE15⟩;rw[show M4.seq 1=2 by kernel_rfl];go_wp2_with fail
 go_ret
 exact⟨rfl,(hX.trans hE14).trans hE15⟩
end Go.Proofs.YtimjipcplmnpbaaGreat
