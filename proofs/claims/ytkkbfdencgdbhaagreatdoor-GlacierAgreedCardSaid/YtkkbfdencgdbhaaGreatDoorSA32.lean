/-
  Part 32 of what the law leans on.
-/
import Derived.Test.YtkkbfdencgdbhaaGreatDoorSA30
import Derived.Test.YtkkbfdencgdbhaaGreatDoorSA31
set_option linter.unusedVariables false
set_option linter.unusedSimpArgs false
set_option linter.unusedSectionVars false
namespace Go.Proofs.YtkkbfdencgdbhaaGreatDoor
open Go.RowKit Go.Sort
theorem ccmd_info:(Tryz.prog.info? 39).map (·.size)=some 11:=by kernel_rfl
theorem Km.then{B:Nat→Prop}{S:Nat→Prop}{w w1 w':World}(h:Km B w w1)(hE:Chg S w1 w')(hS:∀k,S k→w.heap.size≤k)(hB:∀k,w.heap.size≤k→B k):Km B w w' :=
 ⟨h.chg.trans (hE.mono fun k _ hk=>hB k (hS k hk)) (fun _ _ e=>e),fun g t cs h1 h2 h3 hA=>(h.at_ g t cs h1 h2 h3 hA).chg hE fun e=>by have:=hS g e;have:=hA.lt;omega⟩
theorem MAt.away{w w':World}{B:Nat→Prop}{m c mb mn mc g:Nat}{M:Mach}{rows:Rows14}{t:TypeId}{cs:Array Value}(h:MAt w B m c mb mn mc M rows)(hA:At w g t cs)(h1:137≠t)(h2:161≠t)(h3:3≠t)(h4:9≠t)(h5:81≠t)(hC:Chg (· = g) w w'):MAt w' B m c mb mn mc M rows :=
 ⟨h.blk.chg hC (fun e=>At.ne h.blk hA h5 e),h.cat.away hA h1 h2 h3 hC,h.cl,h.map.chg hC (fun e=>h.map.ne_at hA e),fun p hp=>own_keep (h.nms p hp) hC (fun k hk e=>own_apart' (h.nms p hp) hA h4 k hk e),h.ne,h.lo,h.nb⟩
theorem MAt.incr{w:World}{B:Nat→Prop}{m c mb mn mc:Nat}{M:Mach}{rows:Rows14}(h:MAt w B m c mb mn mc M rows):MAt (w.setCell ⟨m,2,none⟩ (.int .i64 (M.n+1))) B m c mb mn mc M.inc rows:=by
 have hC:Chg (· = m) w (w.setCell ⟨m,2,none⟩ (.int .i64 (M.n+1))):=Chg.setCell (S:=(· = m)) (p:=⟨m,2,none⟩) (Ext.refl w).chg (.inl rfl) _
 exact⟨h.blk.set 2 _,h.cat.away h.blk (by decide) (by decide) (by decide) hC,h.cl,h.map.setCell _ _,fun p hp=>own_keep (h.nms p hp) hC (fun k hk e=>own_apart' (h.nms p hp) h.blk (by decide) k hk e),h.ne,h.lo,h.nb⟩
theorem Km.setM{w w1:World}{B:Nat→Prop}{m:Nat}{cs:Array Value}(h:Km B w w1)(hm:At w1 m 81 cs)(hB:B m){w':World}(hC:Chg (· = m) w1 w'):Km B w w' :=
 ⟨h.chg.trans (hC.mono fun k _ e=>by have e':k=m:=e;show B k;rw[e'];exact hB) (fun _ _ e=>e),fun g t cs h1 h2 h3 hA=>(h.at_ g t cs h1 h2 h3 hA).chg hC fun e=>At.ne (h.at_ g t cs h1 h2 h3 hA) hm h3 e⟩
theorem Km.map_put{w w1 w':World}{B:Nat→Prop}{mc:Nat}{rows:Rows14}(h:Km B w w1)(hm:MapAt i64Way lastV w1 mc rows)(hB:B mc)(hC:Chg (· = mc) w1 w'):Km B w w' :=
 ⟨h.chg.trans (hC.mono fun k _ e=>by have e':k=mc:=e;show B k;rw[e'];exact hB) (fun _ _ e=>e),fun g t cs h1 h2 h3 hA=>(h.at_ g t cs h1 h2 h3 hA).chg hC fun e=>hm.ne_at (h.at_ g t cs h1 h2 h3 hA) (Eq.symm e)⟩
def MCame(B:Nat→Prop)(m:Nat)(R:Mach×Rs)(w:World)(e:Ending)(w':World):Prop :=
 ∃A cp,e=.returned (resV R.2.err R.2.blob R.2.size R.2.sum (.slice A R.2.names.length cp))∧w'.ownsRow 0 9 1 (.slice A R.2.names.length cp) R.2.names.length (R.2.names.map Value.string)∧MachIn w' B m R.1∧Km B w w'
set_option maxRecDepth 100000 in
theorem scl_any(w:World)(x:Cmd)(dv:Value):Calls Tryz.prog 31 #[cmdVal x dv] w fun e w'=>e=.returned (.bool x.isCl)∧Ext w w':=by
 unfold cmdVal
 go_enter Tryz.func31,Tryz.ntmps31
 by_cases h1:1≤x.kind
 ·by_cases h2:x.kind≤5
  ·go_wp2_with fail
   go_ret
   exact⟨by unfold Cmd.isCl;simp[h1,h2],(Ext.refl w).alloc _⟩
  ·go_wp2_with fail
   go_ret
   exact⟨by unfold Cmd.isCl;simp[h1,h2],(Ext.refl w).alloc _⟩
 ·go_wp2_with fail
  go_ret
  exact⟨by unfold Cmd.isCl;simp;omega,(Ext.refl w).alloc _⟩
theorem last_form{w:World}{B:Nat→Prop}{m c mb mn mc:Nat}{M:Mach}{rows:Rows14}(h:MAt w B m c mb mn mc M rows)(hN:∀p∈M.cl,p.2.r.names.length≤1000)(k:Int):∃(ok:Bool) (sq:Int) (r:Rs) (A:Option Addr) (cp:Nat),(lget k rows).isSome=ok∧(lget k rows).elim zeroLast lastV=.agg #[.int .i64 sq,.int .i64 r.err,.int .u64 (r.blob:Int),.int .i64 r.size,.int .u32 (r.sum:Int),.slice A r.names.length cp]∧M.seq k=sq∧(∀s,M.told k s=if ok=true∧sq=s then some r else none)∧w.ownsRow 0 9 1 (.slice A r.names.length cp) r.names.length (r.names.map Value.string)∧r.names.length≤1000:=by
 have hg:=rows_get h.cl k
 cases hr:lget k rows with
 | none =>
  rw[hr]at hg
  refine⟨false,0,Rs.er 0,none,0,rfl,rfl,by unfold Mach.seq;rw[←hg];rfl,fun s=>by unfold Mach.told;rw[←hg,if_neg (by simp)];rfl,⟨rfl,.inl ⟨rfl,rfl⟩⟩,Nat.zero_le _⟩
 | some l =>
  rw[hr]at hg
  have hn:=h.nms _ (lget_mem hr)
  obtain⟨l,lv⟩:=l
  replace hn:w.ownsRow 0 9 1 lv l.r.names.length (l.r.names.map Value.string):=hn
  obtain⟨A,cp,rfl⟩:=own_slc hn
  refine⟨true,l.seq,l.r,A,cp,rfl,rfl,by unfold Mach.seq;rw[←hg];rfl,fun s=>?_,hn,hN _ (lget_mem hg.symm)⟩
  unfold Mach.told
  rw[←hg]
  simp
set_option maxRecDepth 100000 in
set_option maxHeartbeats 8000000 in
theorem mapply_any(w:World)(B:Nat→Prop)(m:Nat)(M:Mach)(n:Nat)(h:MachIn w B m M)(hi:MInv n M)(hn:n≤1000)(s:ByteArray)(hs:s.size≤1000) :
 Calls Tryz.prog 9 #[.pointer (some ⟨m,0,none⟩),.string s] w (MCame B m (M.app s.data.toList) w):=by
 obtain⟨c,mb,mn,mc,rows,hM⟩:=h
 have HI:=Lib.hid hi
 have HBS:=Lib.hid hM.cat.up
 have HLO:=Lib.hid hM.lo
 clear hi
 go_enter Tryz.func9,Tryz.ntmps9
 have hR:=At.new w 34 #[.int .i64 0,.int .u64 0,.int .i64 0,.int .u32 0,.slice none 0 0]
 have hE:=(Ext.refl w).alloc (.cells #[.int .i64 0,.int .u64 0,.int .i64 0,.int .u32 0,.slice none 0 0] 34)
 have hM1:=hM.ext hE
 go_upto_region 1 with fail
 obtain⟨rb,hrb⟩:∃rb,w.heap.size=rb:=⟨_,rfl⟩
 rw[hrb]at hR⊢
 have HRB:=Lib.hid (show w.heap.size≤rb by omega)
 generalize w.alloc _=W at hR hE hM1⊢
 clear hrb hM
 obtain⟨c0,c1,c2,f2⟩:=hM1.cells
 have hwn:IntKind.i64.wrap (M.n+1)=M.n+1:=IntWalk.i64_in _ (by have:=HI.out.num;omega)
 go_upto_region 2 with fail
 clear c0 c1 c2 f2 hwn
 have hmr:m≠rb:=At.ne hM1.blk hR (by decide)
 have hch:Chg (· = m) W (W.setCell ⟨m,2,none⟩ (.int .i64 (M.n+1))):=Chg.setCell (S:=(· = m)) (p:=⟨m,2,none⟩) (Ext.refl W).chg (.inl rfl) _
 have HK:=Lib.hid ((Km.of_ext (B:=B) hE).setM hM1.blk HLO.out.1 hch)
 have hR:=hR.chg hch (fun e=>hmr (Eq.symm e))
 have hM:=hM1.incr
 have hz:(#[.int .i64 0,.int .u64 0,.int .i64 0,.int .u32 0,.slice none 0 0]:Array Value).size=5:=rfl
 clear hM1 hE hmr hch
 generalize W.setCell ⟨m,2,none⟩ (.int .i64 (M.n+1))=W2 at hR hM HK⊢
 by_cases hs0:s=ByteArray.empty
 ·have he:s.toList.isEmpty=true:=by rw[hs0,Lib.toList_data];rfl
  have HAP:Hid (M.app s.data.toList=(M.inc,Rs.er 0)):=Lib.hid (by unfold Mach.app;rw[if_pos (by rw[hs0];rfl)])
  clear hs0
  have HT:=Lib.hid hR.there
  have hst:At (W2.setCells rb 0 (#[.int .i64 0,.int .u64 0,.int .i64 0,.int .u32 0,.slice none 0 0]:Array Value).toList) rb 34 #[.int .i64 0,.int .u64 0,.int .i64 0,.int .u32 0,.slice none 0 0]:=At.cells_all hR (by first|rfl|exact hz)
  have hch:Chg (· = rb) W2 (W2.setCells rb 0 (#[.int .i64 0,.int .u64 0,.int .i64 0,.int .u32 0,.slice none 0 0]:Array Value).toList):=chg_setCells _ _
  have HL:=Lib.hid (run_loadVar_mid (P:=Tryz.prog) _ rb 0 34 (#[.int .i64 0,.int .u64 0,.int .i64 0,.int .u32 0,.slice none 0 0]:Array Value).toList _ hst.range Tryz.underlying34 rfl cres_info)
  have HMF:=Lib.hid (hM.away hR (by decide) (by decide) (by decide) (by decide) (by decide) hch)
  have HKF:=Lib.hid (HK.out.then hch (fun k e=>by have:=HRB.out;have e':k=rb:=e;omega) HBS.out)
  have HNF:=Lib.hid ((own_nil _ _ _:World.ownsRow (W2.setCells rb 0 (#[.int .i64 0,.int .u64 0,.int .i64 0,.int .u32 0,.slice none 0 0]:Array Value).toList) 0 9 1 (.slice none 0 0) 0 []))
  clear hst hch hM hR
  go_wp2_with (refine wpList_store_mid rfl 34 _ _ rfl rb 0 #[.int .i64 0,.int .u64 0,.int .i64 0,.int .u32 0,.slice none 0 0] rfl rfl (by first|exact HT.out|(have h:=HT.out;rw[hz]at h;exact h)) cres_info (by simp[Value.oneCell']) ?_)
  refine bodyPost_ret (v:=.agg #[.int .i64 0,.int .u64 0,.int .i64 0,.int .u32 0,.slice none 0 0]) (results_one Tryz.results9 _ rfl HL.out) rfl ?_
  rw[HAP.out]
  exact⟨none,0,rfl,HNF.out,⟨c,mb,mn,mc,rows,HMF.out⟩,HKF.out⟩
 have he:s.toList.isEmpty=false:=by
  cases e:s.toList.isEmpty
  ·rfl
  ·exact absurd (toList_inj.1 (by rw[List.isEmpty_iff.1 e,Lib.toList_data];rfl)) hs0
 have hne:s.data.toList≠[]:=fun e=>hs0 (by
  refine toList_inj.1 ?_
  rw[Lib.toList_data,e,Lib.toList_data];rfl)
 have HRD:=Lib.hid (cmdread_any W2 s (by omega))
 have HG:Hid ((cread s.data.toList).2=0→((cread s.data.toList).1.good=true∧(0≤(cread s.data.toList).1.client∧(cread s.data.toList).1.client≤1073741824)∧(0≤(cread s.data.toList).1.seq∧(cread s.data.toList).1.seq≤1073741824))∧(cread s.data.toList).1.Wf):=Lib.hid fun h=>⟨cread_good h,cread_wf (by rw[←h])⟩
 have HAP:Hid (M.app s.data.toList=if(cread s.data.toList).2=0 then((M.cmd (cread s.data.toList).1).1.inc,(M.cmd (cread s.data.toList).1).2)else(M.inc,Rs.er (cread s.data.toList).2)):=Lib.hid (by unfold Mach.app;rw[if_neg hne])
 clear hs0 hne
 generalize cread s.data.toList=q at HRD HG HAP
 go_wp2_with fail
 refine HRD.out.mono ?_
 rintro e w3 ⟨dv,rfl,hO,hE3⟩
 obtain⟨dA,dc,rfl⟩:=own_slc hO
 have hT:=At.new w3 39 (cmdCells q.1 (.slice dA q.1.disks.length dc))
 have hEt:=(Ext.refl w3).alloc (.cells (cmdCells q.1 (.slice dA q.1.disks.length dc)) 39)
 clear HRD he
 unfold cmdVal
 go_upto_region 5 with fail
 obtain⟨tb,htb⟩:∃tb,w3.heap.size=tb:=⟨_,rfl⟩
 rw[htb]at hT⊢
 clear htb
 generalize w3.alloc _=W4 at hT hEt⊢
 have hE4:=hE3.trans hEt
 have hM:=hM.ext hE4
 have hR:=hR.ext hE4
 have hO:=own_keep hO hEt (fun _ _ hh=>hh)
 have HK:=Lib.hid (HK.out.trans (Km.of_ext hE4))
 clear hE3 hEt hE4
 by_cases he:q.2=0
 rotate_left
 ·have hne0:(q.2 != 0)=true:=by simpa using he
  have HA2:Hid (M.app s.data.toList=(M.inc,Rs.er q.2)):=Lib.hid (by rw[HAP.out,if_neg he])
  clear he hO hT
  have HT:=Lib.hid hR.there
  have hst:At (W4.setCells rb 0 (#[.int .i64 q.2,.int .u64 0,.int .i64 0,.int .u32 0,.slice none 0 0]:Array Value).toList) rb 34 #[.int .i64 q.2,.int .u64 0,.int .i64 0,.int .u32 0,.slice none 0 0]:=At.cells_all hR (by first|rfl|exact hz)
  have hch:Chg (· = rb) W4 (W4.setCells rb 0 (#[.int .i64 q.2,.int .u64 0,.int .i64 0,.int .u32 0,.slice none 0 0]:Array Value).toList):=chg_setCells _ _
  have HL:=Lib.hid (run_loadVar_mid (P:=Tryz.prog) _ rb 0 34 (#[.int .i64 q.2,.int .u64 0,.int .i64 0,.int .u32 0,.slice none 0 0]:Array Value).toList _ hst.range Tryz.underlying34 rfl cres_info)
  have HMF:=Lib.hid (hM.away hR (by decide) (by decide) (by decide) (by decide) (by decide) hch)
  have HKF:=Lib.hid (HK.out.then hch (fun k e=>by have:=HRB.out;have e':k=rb:=e;omega) HBS.out)
  have HNF:=Lib.hid ((own_nil _ _ _:World.ownsRow (W4.setCells rb 0 (#[.int .i64 q.2,.int .u64 0,.int .i64 0,.int .u32 0,.slice none 0 0]:Array Value).toList) 0 9 1 (.slice none 0 0) 0 []))
  clear hst hch hM hR
  go_wp2_with (refine wpList_store_mid rfl 34 _ _ rfl rb 0 #[.int .i64 q.2,.int .u64 0,.int .i64 0,.int .u32 0,.slice none 0 0] rfl rfl (by first|exact HT.out|(have h:=HT.out;rw[hz]at h;exact h)) cres_info (by simp[Value.oneCell']) ?_)
  refine bodyPost_ret (v:=.agg #[.int .i64 q.2,.int .u64 0,.int .i64 0,.int .u32 0,.slice none 0 0]) (results_one Tryz.results9 _ rfl HL.out) rfl ?_
  rw[HA2.out]
  exact⟨none,0,rfl,HNF.out,⟨c,mb,mn,mc,rows,HMF.out⟩,HKF.out⟩
 have hne0:(q.2 != 0)=false:=by simp[he]
 have HA2:Hid (M.app s.data.toList=((M.cmd q.1).1.inc,(M.cmd q.1).2)):=Lib.hid (by rw[HAP.out,if_pos he])
 have HG2:=Lib.hid (HG.out he)
 clear he HAP HG
 obtain⟨x,q2⟩:=q
 simp only at hT hO HA2 HG2 hne0⊢
 have HCL:=Lib.hid (scl_any W4 x (.slice dA x.disks.length dc))
 have HRT:=Lib.hid hT.range
 go_wp2_with (refine wpList_load_mid rfl 39 _ rfl tb 0 rfl _ _ HRT.out Tryz.underlying39 rfl ccmd_info ?_)
 refine HCL.out.mono ?_
 rintro e w5 ⟨rfl,hE5⟩
 have hM:=hM.ext hE5
 have hR:=hR.ext hE5
 have hT:=hT.ext hE5
 have hO:=own_keep hO hE5 (fun _ _ hh=>hh)
 have HK:=Lib.hid (HK.out.trans (Km.of_ext hE5))
 clear HCL HRT hE5
 rcases Bool.eq_false_or_eq_true x.isCl with hcl|hcl
 rotate_left
 ·have HA3:Hid (M.cmd x=({ M with P:=(M.P.app x).1 },(M.P.app x).2)):=Lib.hid (by unfold Mach.cmd;rw[if_pos hcl])
  rw[hcl]
  clear hcl
  have HCT:=Lib.hid hM.cat
  have HOD:=Lib.hid hO
  have HM0:=Lib.hid (fun w1 (hc:Ext w5 w1)=>((hM.blk).ext hc).cell 0)
  have HTR:=Lib.hid (fun w1 (hc:Ext w5 w1)=>(hT.ext hc).range)
  go_upto_region 8 with fail
  refine wp_region_phi (Γ := Nat→Value) (sgφ [.val (.pointer (some ⟨m,0,none⟩)),.val (.pointer (some ⟨m,0,none⟩)),.val (.pointer (some ⟨m,0,none⟩)),.val (.pointer (some ⟨c,0,none⟩)),.val (cmdVal x (.slice dA x.disks.length dc)),.g 0,.any])
   (GA8 w5 B c mb mn rb (M.P.app x).1 (M.P.app x).2) (by kernel_rfl) (by kernel_rfl) (by kernel_rfl) (fun _=>undef) ?inv ?steps ?fin
  case inv=>exact⟨Kq.of_ext (Ext.refl w5).drew,fun _=>(Ext.refl w5).drew,fun hh=>(by cases hh),⟨_,hR.drew,rfl⟩,fun hh=>(by cases hh)⟩
  case steps =>
   show StepsTo _ _ _ _ _ _ 7
   refine⟨⟨⟨⟨⟨⟨⟨trivial,?s0⟩,?s1⟩,?s2⟩,?s3⟩,?s4⟩,?s5⟩,?s6⟩
   case s0 =>
    refine sg_val (x:=.pointer (some ⟨m,0,none⟩)) rfl rfl rfl (GA8.keep (j:=0) (by omega)) fun γ L v a w1 st=>?_
    have e0:=st.far 0 (by kernel_rfl)
    simp at e0
    go_simp
   case s1 =>
    refine sg_val (x:=.pointer (some ⟨m,0,none⟩)) rfl rfl rfl (GA8.keep (j:=1) (by omega)) fun γ L v a w1 st=>?_
    have e0:=st.val 0 32 rfl (by kernel_rfl)
    rw[(st.φ 0 (by kernel_rfl):v 0=_)]at e0
    simp at e0
    go_simp
   case s2 =>
    refine sg_val (x:=.pointer (some ⟨m,0,none⟩)) rfl rfl rfl (GA8.keep (j:=2) (by omega)) fun γ L v a w1 st=>?_
    have e1:=st.val 1 33 rfl (by kernel_rfl)
    rw[(st.φ 1 (by kernel_rfl):v 1=_)]at e1
    simp at e1
    go_simp
   case s3 =>
    refine sg_val (x:=.pointer (some ⟨c,0,none⟩)) rfl rfl rfl (GA8.keep (j:=3) (by omega)) fun γ L v a w1 st=>?_
    have e2:=st.val 2 34 rfl (by kernel_rfl)
    rw[(st.φ 2 (by kernel_rfl):v 2=_)]at e2
    simp at e2
    have h5:L 5=false:=by
     cases hq:L 5 with
     | false=>rfl
     | true =>
      have q3:=st.down 5 3 hq (by kernel_rfl)
      have q99:=st.off;rw[q3]at q99;cases q99
    have q:=HM0.out w1 (st.inv.pre h5)
    go_simp
   case s4 =>
    refine sg_val (x:=cmdVal x (.slice dA x.disks.length dc)) rfl rfl rfl (GA8.keep (j:=4) (by omega)) fun γ L v a w1 st=>?_
    have e5:=st.far 5 (by kernel_rfl)
    simp at e5
    have h5:L 5=false:=by
     cases hq:L 5 with
     | false=>rfl
     | true =>
      have q4:=st.down 5 4 hq (by kernel_rfl)
      have q99:=st.off;rw[q4]at q99;cases q99
    exact exec_load_mid rfl (b:=tb) (off:=0) (by simp[Act.eval,e5]) (HTR.out w1 (st.inv.pre h5)) Tryz.underlying39 rfl ccmd_info
   case s5 =>
    refine sg_call (k:=0) (f:=32) rfl rfl rfl (by kernel_rfl) fun γ L v a w1 st=>?_
    have e3:=st.val 3 35 rfl (by kernel_rfl)
    rw[(st.φ 3 (by kernel_rfl):v 3=_)]at e3
    simp at e3
    have e4:=st.val 4 36 rfl (by kernel_rfl)
    rw[(st.φ 4 (by kernel_rfl):v 4=_)]at e4
    simp at e4
    have h5:L 5=false:=st.off
    have h6:L 6=false:=by
     cases hq:L 6 with
     | false=>rfl
     | true =>
      have q5:=st.down 6 5 hq (by kernel_rfl)
      have q99:=st.off;rw[q5]at q99;cases q99
    have hEx:=st.inv.pre h5
    refine⟨#[.pointer (some ⟨c,0,none⟩),cmdVal x (.slice dA x.disks.length dc)],by go_simp,?_⟩
    refine(capply_S (HCT.out.ext hEx) HI.out.cat (by omega) x (.slice dA x.disks.length dc) (own_keep HOD.out hEx (fun _ _ hh=>hh)) (Nat.le_trans (rises_len (Cmd.good_iff.1 HG2.out.1.1).2.2.1) (by decide)) (Nat.le_trans (Cmd.good_iff.1 HG2.out.1.1).2.2.2.2.2.1 (by decide)) HG2.out.2).mono ?_
    rintro e w2 ⟨⟨A,cp,rfl,hno,hc2,hk2⟩,hmp⟩
    exact⟨_,rfl,GA8.called st.inv hk2 hmp h6 hc2 hno⟩
   case s6 =>
    refine sg_skip rfl rfl rfl fun γ L v a w1 st=>?_
    have d5:=st.dep 5 (by kernel_rfl)
    obtain⟨A,cp,hγ,_⟩:=st.inv.call d5
    obtain⟨Z,z1,z2⟩:=st.inv.res
    have e4:=st.far 4 (by kernel_rfl)
    simp at e4
    have e5:=st.val 5 37 rfl (by kernel_rfl)
    rw[(st.φ 5 (by kernel_rfl):v 5=_)]at e5
    have hsz:(aggA (γ 0)).size=5:=by rw[hγ];rfl
    have hon:(aggA (γ 0)).all (·.oneCell')=true:=by rw[hγ];simp[resV,aggA,Value.oneCell']
    have hta : γ 0=.agg (aggA (γ 0)):=by rw[hγ];rfl
    refine⟨_,exec_store_mid rfl (b:=rb) (off:=0) (cells:=aggA (γ 0)) (by simp[Act.eval,e4]) (by show a.tmps.getD 37 undef=_;rw[e5];exact hta) (by rw[hsz,←z2];exact z1.there) (by rw[hsz];exact cres_info) hon,?_⟩
    exact GA8.stored st.inv (HBS.out _ HRB.out) d5
  case fin =>
   intro γ L v wx hall hG hφ
   obtain⟨A,cp,hγ,hCx,hNx⟩:=hG.call (hall 5 (by decide))
   have hst:=hG.st (hall 6 (by decide))
   rw[hγ]at hst
   have hkq:=hG.kq
   have hmr:m≠rb:=At.ne hM.blk hR (by decide)
   have HL:=Lib.hid (run_loadVar_mid (P:=Tryz.prog) wx rb 0 34 _ _ hst.range Tryz.underlying34 rfl cres_info)
   have HMF:Hid (MAt wx B m c mb mn mc { M.inc with P:=(M.P.app x).1 } rows):=Lib.hid ⟨hkq.at_ _ _ _ hmr (by decide) (by decide) hM.blk,hCx,hM.cl,hkq.mapAt hM.map hM.ne.1 hM.ne.2,fun p hp=>hkq.own (hM.nms p hp) (fun k hk=>own_apart' (hM.nms p hp) hR (by decide) k hk) (by decide) (by decide),hM.ne,hM.lo,hM.nb⟩
   have HKF:Hid (Km B w wx):=Lib.hid ⟨HK.out.chg.trans hkq.chg (fun _ _ e=>e),fun g t cs h1 h2 h3 hA=>hkq.at_ g t cs (fun e=>by have:=hA.lt;have:=HRB.out;omega) h1 h2 (HK.out.at_ g t cs h1 h2 h3 hA)⟩
   have HNF:=Lib.hid hNx
   clear hγ hCx hNx hst hkq hG hφ hall hM hR hT hO
   change Exit.then _ _ _ (putAll _ v _ 7) wx
   simp only[putAll,dstOf,Act.put]
   simp only[List.getElem?_toArray,List.getElem?_cons_zero,List.getElem?_cons_succ,Option.bind_some,List.setIfInBounds_toArray,List.set_cons_zero,List.set_cons_succ]
   go_wp2_with fail
   refine bodyPost_ret (v:=.agg #[.int .i64 (M.P.app x).2.err,.int .u64 ((M.P.app x).2.blob:Int),.int .i64 (M.P.app x).2.size,.int .u32 ((M.P.app x).2.sum:Int),.slice A (M.P.app x).2.names.length cp]) (results_one Tryz.results9 _ rfl HL.out) rfl ?_
   rw[HA2.out,HA3.out]
   exact⟨A,cp,rfl,HNF.out,⟨c,mb,mn,mc,rows,HMF.out⟩,HKF.out⟩
 rw[hcl]
 have HCLT:=Lib.hid hcl
 clear hcl
 obtain⟨ok,sq,r,lA,lcp,hok,hlv,hsq,htold,hnl,hnlen⟩:=last_form hM (fun p hp=>Nat.le_trans (HI.out.cl p hp).2.2.len hn) x.client
 have HLK:=Lib.hid (fun w1 (hc:Ext w5 w1)=>(hM.ext hc).look x.client)
 rw[hok,hlv]at HLK
 have HM1:=Lib.hid (fun w1 (hc:Ext w5 w1)=>((hM.blk).ext hc).cell 1)
 have HT1:=Lib.hid (fun w1 (hc:Ext w5 w1)=>(hT.ext hc).cell 1)
 have HTO:Hid (∀s,M.told x.client s=if ok=true∧sq=s then some r else none):=Lib.hid htold
 have HSQ:Hid (M.seq x.client=sq):=Lib.hid hsq
 have HNL:=Lib.hid hnlen
 clear hok hlv hsq htold hnlen
 go_upto_region 9 with fail
 refine wp_region_phi (Γ := Nat→Value) (sgφ [.val (.pointer (some ⟨m,0,none⟩)),.val (.pointer (some ⟨m,0,none⟩)),.val (.pointer (some ⟨m,1,none⟩)),.val (.map (some mc)),.val (.pointer (some ⟨tb,1,none⟩)),.val (.int .i64 x.client),.val (.tuple #[.agg #[.int .i64 sq,.int .i64 r.err,.int .u64 (r.blob:Int),.int .i64 r.size,.int .u32 (r.sum:Int),.slice lA r.names.length lcp],.bool ok]),.val (.tuple #[.agg #[.int .i64 sq,.int .i64 r.err,.int .u64 (r.blob:Int),.int .i64 r.size,.int .u32 (r.sum:Int),.slice lA r.names.length lcp],.bool ok]),.val (.agg #[.int .i64 sq,.int .i64 r.err,.int .u64 (r.blob:Int),.int .i64 r.size,.int .u32 (r.sum:Int),.slice lA r.names.length lcp]),.val (.bool ok),.g 0,.any,.val (.bool ok)])
  (GNw w5 86 #[.int .i64 sq,.int .i64 r.err,.int .u64 (r.blob:Int),.int .i64 r.size,.int .u32 (r.sum:Int),.slice lA r.names.length lcp] 10 11) (by kernel_rfl) (by kernel_rfl) (by kernel_rfl) (fun _=>undef) ?inv ?steps ?fin
 case inv=>exact⟨(Ext.refl w5).drew,fun hh=>(by cases hh)⟩
 case steps =>
  show StepsTo _ _ _ _ _ _ 13
  refine⟨⟨⟨⟨⟨⟨⟨⟨⟨⟨⟨⟨⟨trivial,?s0⟩,?s1⟩,?s2⟩,?s3⟩,?s4⟩,?s5⟩,?s6⟩,?s7⟩,?s8⟩,?s9⟩,?s10⟩,?s11⟩,?s12⟩
  case s0 =>
   refine sg_val (x:=.pointer (some ⟨m,0,none⟩)) rfl rfl rfl (GNw.keep (j:=0) (by decide) (by decide)) fun γ L v a w1 st=>?_
   have e0:=st.far 0 (by kernel_rfl)
   simp at e0
   go_simp
  case s1 =>
   refine sg_val (x:=.pointer (some ⟨m,0,none⟩)) rfl rfl rfl (GNw.keep (j:=1) (by decide) (by decide)) fun γ L v a w1 st=>?_
   have e0:=st.val 0 39 rfl (by kernel_rfl)
   rw[(st.φ 0 (by kernel_rfl):v 0=_)]at e0
   simp at e0
   go_simp
  case s2 =>
   refine sg_val (x:=.pointer (some ⟨m,1,none⟩)) rfl rfl rfl (GNw.keep (j:=2) (by decide) (by decide)) fun γ L v a w1 st=>?_
   have e1:=st.val 1 40 rfl (by kernel_rfl)
   rw[(st.φ 1 (by kernel_rfl):v 1=_)]at e1
   simp at e1
   go_simp
  case s3 =>
   refine sg_val (x:=.map (some mc)) rfl rfl rfl (GNw.keep (j:=3) (by decide) (by decide)) fun γ L v a w1 st=>?_
   have e2:=st.val 2 41 rfl (by kernel_rfl)
   rw[(st.φ 2 (by kernel_rfl):v 2=_)]at e2
   simp at e2
   have q:=HM1.out w1 st.inv.ext
   simp at q
   go_simp
  case s4 =>
   refine sg_val (x:=.pointer (some ⟨tb,1,none⟩)) rfl rfl rfl (GNw.keep (j:=4) (by decide) (by decide)) fun γ L v a w1 st=>?_
   have e5:=st.far 5 (by kernel_rfl)
   simp at e5
   go_simp
  case s5 =>
   refine sg_val (x:=.int .i64 x.client) rfl rfl rfl (GNw.keep (j:=5) (by decide) (by decide)) fun γ L v a w1 st=>?_
   have e4:=st.val 4 43 rfl (by kernel_rfl)
   rw[(st.φ 4 (by kernel_rfl):v 4=_)]at e4
   simp at e4
   have q:=HT1.out w1 st.inv.ext
   simp[cmdCells]at q
   go_simp
  case s6 =>
   refine sg_val (x:=.tuple #[.agg #[.int .i64 sq,.int .i64 r.err,.int .u64 (r.blob:Int),.int .i64 r.size,.int .u32 (r.sum:Int),.slice lA r.names.length lcp],.bool ok]) rfl rfl rfl (GNw.keep (j:=6) (by decide) (by decide)) fun γ L v a w1 st=>?_
   have e3:=st.val 3 42 rfl (by kernel_rfl)
   rw[(st.φ 3 (by kernel_rfl):v 3=_)]at e3
   simp at e3
   have e5:=st.val 5 44 rfl (by kernel_rfl)
   rw[(st.φ 5 (by kernel_rfl):v 5=_)]at e5
   simp at e5
   have q:=HLK.out w1 st.inv.ext
   go_simp
  case s7 =>
   refine sg_val (x:=.tuple #[.agg #[.int .i64 sq,.int .i64 r.err,.int .u64 (r.blob:Int),.int .i64 r.size,.int .u32 (r.sum:Int),.slice lA r.names.length lcp],.bool ok]) rfl rfl rfl (GNw.keep (j:=7) (by decide) (by decide)) fun γ L v a w1 st=>?_
   have e6:=st.val 6 45 rfl (by kernel_rfl)
   rw[(st.φ 6 (by kernel_rfl):v 6=_)]at e6
   simp at e6
   go_simp
  case s8 =>
   refine sg_val (x:=.agg #[.int .i64 sq,.int .i64 r.err,.int .u64 (r.blob:Int),.int .i64 r.size,.int .u32 (r.sum:Int),.slice lA r.names.length lcp]) rfl rfl rfl (GNw.keep (j:=8) (by decide) (by decide)) fun γ L v a w1 st=>?_
   have e7:=st.val 7 38 rfl (by kernel_rfl)
   rw[(st.φ 7 (by kernel_rfl):v 7=_)]at e7
   simp at e7
   go_simp
  case s9 =>
   refine sg_val (x:=.bool ok) rfl rfl rfl (GNw.keep (j:=9) (by decide) (by decide)) fun γ L v a w1 st=>?_
   have e7:=st.val 7 38 rfl (by kernel_rfl)
   rw[(st.φ 7 (by kernel_rfl):v 7=_)]at e7
   simp at e7
   go_simp
  case s10 =>
   refine sg_new (k:=0) rfl rfl rfl (by kernel_rfl) fun γ L v a w1 st=>?_
   have h11:L 11=false:=by
    cases hq:L 11 with
    | false=>rfl
    | true =>
     have q10:=st.down 11 10 hq (by kernel_rfl)
     have q99:=st.off;rw[q10]at q99;cases q99
   exact⟨.pointer (some ⟨w1.heap.size,0,none⟩),w1.alloc (.cells #[.int .i64 0,.int .i64 0,.int .u64 0,.int .i64 0,.int .u32 0,.slice none 0 0] 86),by go_simp,GNw.new st.inv h11 (by decide) rfl⟩
  case s11 =>
   refine sg_skip rfl rfl rfl fun γ L v a w1 st=>?_
   have d10:=st.dep 10 (by kernel_rfl)
   obtain⟨g,g1,g2,⟨Z,g3,g4⟩,_⟩:=st.inv.n1 d10
   have e8:=st.val 8 46 rfl (by kernel_rfl)
   rw[(st.φ 8 (by kernel_rfl):v 8=_)]at e8
   simp at e8
   have e10:=st.val 10 7 rfl (by kernel_rfl)
   rw[(st.φ 10 (by kernel_rfl):v 10=_),g1]at e10
   simp at e10
   refine⟨_,exec_store_mid rfl (b:=g) (off:=0) (cells:=#[.int .i64 sq,.int .i64 r.err,.int .u64 (r.blob:Int),.int .i64 r.size,.int .u32 (r.sum:Int),.slice lA r.names.length lcp]) (by simp[Act.eval,e10]) (by simp[Act.eval,e8]) (by rw[←g4];exact g3.there) last_info (by simp[Value.oneCell']),?_⟩
   exact GNw.stored st.inv d10 g1
  case s12 =>
   refine sg_val (x:=.bool ok) rfl rfl rfl (GNw.keep (j:=12) (by decide) (by decide)) fun γ L v a w1 st=>?_
   have e9:=st.val 9 47 rfl (by kernel_rfl)
   rw[(st.φ 9 (by kernel_rfl):v 9=_)]at e9
   simp at e9
   go_simp
 case fin =>
  intro γ L v wx hall hG hφ
  have h12:v 12=.bool ok:=hφ 12 (by decide)
  have h10:v 10 = γ 0:=hφ 10 (by decide)
  obtain⟨lb,g1,g2,_,g4⟩:=hG.n1 (hall 10 (by decide))
  have hLb:At wx lb 86 #[.int .i64 sq,.int .i64 r.err,.int .u64 (r.blob:Int),.int .i64 r.size,.int .u32 (r.sum:Int),.slice lA r.names.length lcp]:=g4 (hall 11 (by decide))
  rw[g1]at h10
  have HLB:=Lib.hid (Nat.le_trans HK.out.chg.size g2)
  have hEx:=hG.ext
  have hM:=hM.ext hEx
  have hR:=hR.ext hEx
  have hT:=hT.ext hEx
  have hO:=own_keep hO hEx (fun _ _ hh=>hh)
  have hnl:=own_keep hnl hEx (fun _ _ hh=>hh)
  have HK:=Lib.hid (HK.out.trans (Km.of_ext hEx))
  clear g1 g2 g4 hG hφ hall HLK HM1 HT1 hEx
  change Exit.then _ _ _ (putAll _ v _ 13) wx
  simp only[putAll,dstOf,Act.put]
  simp only[List.getElem?_toArray,List.getElem?_cons_zero,List.getElem?_cons_succ,Option.bind_some,List.setIfInBounds_toArray,List.set_cons_zero,List.set_cons_succ]
  rw[h10,h12]
  clear h10 h12
  have t1:=hT.cell 1
  have t2:=hT.cell 2
  have l0:=hLb.cell 0
  simp[cmdCells]at t1 t2 l0
  by_cases hord:x.client=0∨x.seq=0∨x.seq<sq
  ·have HA3:Hid (M.cmd x=(M,Rs.er 16)):=Lib.hid (by unfold Mach.cmd;rw[if_neg (by rw[HCLT.out];decide),if_pos (by rw[HSQ.out];exact hord)])
   have HA4:Hid (M.app s.data.toList=(M.inc,Rs.er 16)):=Lib.hid (by rw[HA2.out,HA3.out])
   have hcs:x.client=0∨x.client≠0∧(x.seq=0∨x.seq≠0∧x.seq<sq):=by omega
   clear hord hO hnl hLb hT
   rcases hcs with h1|⟨h1,h1b|⟨h1b,h1c⟩⟩
   ·rw[h1]at t1
    have HT:=Lib.hid hR.there
    have hst:At (wx.setCells rb 0 (#[.int .i64 16,.int .u64 0,.int .i64 0,.int .u32 0,.slice none 0 0]:Array Value).toList) rb 34 #[.int .i64 16,.int .u64 0,.int .i64 0,.int .u32 0,.slice none 0 0]:=At.cells_all hR (by first|rfl|exact hz)
    have hch:Chg (· = rb) wx (wx.setCells rb 0 (#[.int .i64 16,.int .u64 0,.int .i64 0,.int .u32 0,.slice none 0 0]:Array Value).toList):=chg_setCells _ _
    have HL:=Lib.hid (run_loadVar_mid (P:=Tryz.prog) _ rb 0 34 (#[.int .i64 16,.int .u64 0,.int .i64 0,.int .u32 0,.slice none 0 0]:Array Value).toList _ hst.range Tryz.underlying34 rfl cres_info)
    have HMF:=Lib.hid (hM.away hR (by decide) (by decide) (by decide) (by decide) (by decide) hch)
    have HKF:=Lib.hid (HK.out.then hch (fun k e=>by have:=HRB.out;have e':k=rb:=e;omega) HBS.out)
    have HNF:=Lib.hid ((own_nil _ _ _:World.ownsRow (wx.setCells rb 0 (#[.int .i64 16,.int .u64 0,.int .i64 0,.int .u32 0,.slice none 0 0]:Array Value).toList) 0 9 1 (.slice none 0 0) 0 []))
    clear hst hch hM hR
    go_wp2_with (refine wpList_store_mid rfl 34 _ _ rfl rb 0 #[.int .i64 16,.int .u64 0,.int .i64 0,.int .u32 0,.slice none 0 0] rfl rfl (by first|exact HT.out|(have h:=HT.out;rw[hz]at h;exact h)) cres_info (by simp[Value.oneCell']) ?_)
    refine bodyPost_ret (v:=.agg #[.int .i64 16,.int .u64 0,.int .i64 0,.int .u32 0,.slice none 0 0]) (results_one Tryz.results9 _ rfl HL.out) rfl ?_
    rw[HA4.out]
    exact⟨none,0,rfl,HNF.out,⟨c,mb,mn,mc,rows,HMF.out⟩,HKF.out⟩
   ·have q1:(x.client == 0)=false:=by simpa using h1
    rw[h1b]at t2
    have HT:=Lib.hid hR.there
    have hst:At (wx.setCells rb 0 (#[.int .i64 16,.int .u64 0,.int .i64 0,.int .u32 0,.slice none 0 0]:Array Value).toList) rb 34 #[.int .i64 16,.int .u64 0,.int .i64 0,.int .u32 0,.slice none 0 0]:=At.cells_all hR (by first|rfl|exact hz)
    have hch:Chg (· = rb) wx (wx.setCells rb 0 (#[.int .i64 16,.int .u64 0,.int .i64 0,.int .u32 0,.slice none 0 0]:Array Value).toList):=chg_setCells _ _
    have HL:=Lib.hid (run_loadVar_mid (P:=Tryz.prog) _ rb 0 34 (#[.int .i64 16,.int .u64 0,.int .i64 0,.int .u32 0,.slice none 0 0]:Array Value).toList _ hst.range Tryz.underlying34 rfl cres_info)
    have HMF:=Lib.hid (hM.away hR (by decide) (by decide) (by decide) (by decide) (by decide) hch)
    have HKF:=Lib.hid (HK.out.then hch (fun k e=>by have:=HRB.out;have e':k=rb:=e;omega) HBS.out)
    have HNF:=Lib.hid ((own_nil _ _ _:World.ownsRow (wx.setCells rb 0 (#[.int .i64 16,.int .u64 0,.int .i64 0,.int .u32 0,.slice none 0 0]:Array Value).toList) 0 9 1 (.slice none 0 0) 0 []))
    clear hst hch hM hR
    go_wp2_with (refine wpList_store_mid rfl 34 _ _ rfl rb 0 #[.int .i64 16,.int .u64 0,.int .i64 0,.int .u32 0,.slice none 0 0] rfl rfl (by first|exact HT.out|(have h:=HT.out;rw[hz]at h;exact h)) cres_info (by simp[Value.oneCell']) ?_)
    refine bodyPost_ret (v:=.agg #[.int .i64 16,.int .u64 0,.int .i64 0,.int .u32 0,.slice none 0 0]) (results_one Tryz.results9 _ rfl HL.out) rfl ?_
    rw[HA4.out]
    exact⟨none,0,rfl,HNF.out,⟨c,mb,mn,mc,rows,HMF.out⟩,HKF.out⟩
   ·have q1:(x.client == 0)=false:=by simpa using h1
    have q2:(x.seq == 0)=false:=by simpa using h1b
    have HT:=Lib.hid hR.there
    have hst:At (wx.setCells rb 0 (#[.int .i64 16,.int .u64 0,.int .i64 0,.int .u32 0,.slice none 0 0]:Array Value).toList) rb 34 #[.int .i64 16,.int .u64 0,.int .i64 0,.int .u32 0,.slice none 0 0]:=At.cells_all hR (by first|rfl|exact hz)
    have hch:Chg (· = rb) wx (wx.setCells rb 0 (#[.int .i64 16,.int .u64 0,.int .i64 0,.int .u32 0,.slice none 0 0]:Array Value).toList):=chg_setCells _ _
    have HL:=Lib.hid (run_loadVar_mid (P:=Tryz.prog) _ rb 0 34 (#[.int .i64 16,.int .u64 0,.int .i64 0,.int .u32 0,.slice none 0 0]:Array Value).toList _ hst.range Tryz.underlying34 rfl cres_info)
    have HMF:=Lib.hid (hM.away hR (by decide) (by decide) (by decide) (by decide) (by decide) hch)
    have HKF:=Lib.hid (HK.out.then hch (fun k e=>by have:=HRB.out;have e':k=rb:=e;omega) HBS.out)
    have HNF:=Lib.hid ((own_nil _ _ _:World.ownsRow (wx.setCells rb 0 (#[.int .i64 16,.int .u64 0,.int .i64 0,.int .u32 0,.slice none 0 0]:Array Value).toList) 0 9 1 (.slice none 0 0) 0 []))
    clear hst hch hM hR
    go_wp2_with (refine wpList_store_mid rfl 34 _ _ rfl rb 0 #[.int .i64 16,.int .u64 0,.int .i64 0,.int .u32 0,.slice none 0 0] rfl rfl (by first|exact HT.out|(have h:=HT.out;rw[hz]at h;exact h)) cres_info (by simp[Value.oneCell']) ?_)
    refine bodyPost_ret (v:=.agg #[.int .i64 16,.int .u64 0,.int .i64 0,.int .u32 0,.slice none 0 0]) (results_one Tryz.results9 _ rfl HL.out) rfl ?_
    rw[HA4.out]
    exact⟨none,0,rfl,HNF.out,⟨c,mb,mn,mc,rows,HMF.out⟩,HKF.out⟩
  have hn1:¬ x.client=0:=fun e=>hord (.inl e)
  have hn2:¬ x.seq=0:=fun e=>hord (.inr (.inl e))
  have hn3:¬ x.seq<sq:=fun e=>hord (.inr (.inr e))
  have q1:(x.client == 0)=false:=by simpa using hn1
  have q2:(x.seq == 0)=false:=by simpa using hn2
  have HORD:=Lib.hid hord
  clear hord
  by_cases htl:ok=true∧sq=x.seq
  ·obtain⟨rfl,rfl⟩:=htl
   have HA3:Hid (M.cmd x=(M,r)):=Lib.hid (by unfold Mach.cmd;rw[if_neg (by rw[HCLT.out];decide),if_neg (by rw[HSQ.out];exact HORD.out),HTO.out,if_pos ⟨rfl,rfl⟩])
   have HA4:Hid (M.app s.data.toList=(M.inc,r)):=Lib.hid (by rw[HA2.out,HA3.out])
   have hlr:wx.rangeAt lb 1 (#[.int .i64 r.err,.int .u64 (r.blob:Int),.int .i64 r.size,.int .u32 (r.sum:Int),.slice lA r.names.length lcp]:Array Value).toList:=fun j u hu=>by
    have hj:=(List.getElem?_eq_some_iff.1 hu).1
    have:=hLb.cell (1+j)
    rw[this]
    rw[←hu]
    match j,hj with
    | 0,_=>rfl
    | 1,_=>rfl
    | 2,_=>rfl
    | 3,_=>rfl
    | 4,_=>rfl
   have HLR:=Lib.hid hlr
   have HOW:=Lib.hid (sown_any wx r.err r.blob r.size r.sum (.slice lA r.names.length lcp) r.names hnl (by have:=HNL.out;omega))
   clear hlr hO hT hLb hn1 hn2 hn3
   go_wp2_with (refine wpList_load_mid rfl 34 _ rfl lb 1 rfl _ _ HLR.out Tryz.underlying34 rfl cres_info ?_)
   refine HOW.out.mono ?_
   rintro e w6 ⟨A,cp,rfl,hno,hE6⟩
   replace hno:=own_base0 hno
   have hM:=hM.ext hE6
   have hR:=hR.ext hE6
   have HK:=Lib.hid (HK.out.trans (Km.of_ext hE6))
   clear HOW HLR hE6 t1 t2 l0 hnl
   unfold resV
   have HT:=Lib.hid hR.there
   have hst:At (w6.setCells rb 0 (#[.int .i64 r.err,.int .u64 (r.blob:Int),.int .i64 r.size,.int .u32 (r.sum:Int),.slice A r.names.length cp]:Array Value).toList) rb 34 #[.int .i64 r.err,.int .u64 (r.blob:Int),.int .i64 r.size,.int .u32 (r.sum:Int),.slice A r.names.length cp]:=At.cells_all hR (by first|rfl|exact hz)
   have hch:Chg (· = rb) w6 (w6.setCells rb 0 (#[.int .i64 r.err,.int .u64 (r.blob:Int),.int .i64 r.size,.int .u32 (r.sum:Int),.slice A r.names.length cp]:Array Value).toList):=chg_setCells _ _
   have HL:=Lib.hid (run_loadVar_mid (P:=Tryz.prog) _ rb 0 34 (#[.int .i64 r.err,.int .u64 (r.blob:Int),.int .i64 r.size,.int .u32 (r.sum:Int),.slice A r.names.length cp]:Array Value).toList _ hst.range Tryz.underlying34 rfl cres_info)
   have HMF:=Lib.hid (hM.away hR (by decide) (by decide) (by decide) (by decide) (by decide) hch)
   have HKF:=Lib.hid (HK.out.then hch (fun k e=>by have:=HRB.out;have e':k=rb:=e;omega) HBS.out)
   have HNF:=Lib.hid (own_keep hno hch fun k hk e=>own_apart' hno hR (by decide) k hk e)
   clear hst hch hM hR
   go_wp2_with (refine wpList_store_mid rfl 34 _ _ rfl rb 0 #[.int .i64 r.err,.int .u64 (r.blob:Int),.int .i64 r.size,.int .u32 (r.sum:Int),.slice A r.names.length cp] rfl rfl (by first|exact HT.out|(have h:=HT.out;rw[hz]at h;exact h)) cres_info (by simp[Value.oneCell']) ?_)
   refine bodyPost_ret (v:=.agg #[.int .i64 r.err,.int .u64 (r.blob:Int),.int .i64 r.size,.int .u32 (r.sum:Int),.slice A r.names.length cp]) (results_one Tryz.results9 _ rfl HL.out) rfl ?_
   rw[HA4.out]
   exact⟨A,cp,rfl,HNF.out,⟨c,mb,mn,mc,rows,HMF.out⟩,HKF.out⟩
  have HA3:Hid (M.cmd x=({ M with P:=(M.P.app x).1,cl:=(x.client,⟨x.seq,(M.P.app x).2⟩)::ldel x.client M.cl },(M.P.app x).2)):=Lib.hid (by unfold Mach.cmd;rw[if_neg (by rw[HCLT.out];decide),if_neg (by rw[HSQ.out];exact HORD.out),HTO.out,if_neg htl])
  have hokc:ok=false∨ok=true∧(x.seq == sq)=false:=by
   cases ok
   ·exact .inl rfl
   ·exact .inr ⟨rfl,by rw[beq_eq_false_iff_ne];exact fun e=>htl ⟨rfl,e.symm⟩⟩
  clear htl hnl
  have HA4:Hid (M.app s.data.toList=(({ M with P:=(M.P.app x).1,cl:=(x.client,⟨x.seq,(M.P.app x).2⟩)::ldel x.client M.cl } : Mach).inc,(M.P.app x).2)):=Lib.hid (by rw[HA2.out,HA3.out])
  clear HA2 HA3 HTO HORD
  obtain⟨wo,hwo⟩:∃wo:World,wo=wx:=⟨_,rfl⟩
  go_upto_region 12 with fail
  go_cut [71]from 64 to 71 (fun tv wy=>tv=.bool false∧wy=wo)
  case first =>
   rcases hokc with rfl|⟨rfl,h2⟩
   ·go_wp2_with fail
    go_meet
    case rel=>exact⟨rfl,hwo.symm⟩
   ·go_wp2_with fail
    go_meet
    case rel=>exact⟨rfl,hwo.symm⟩
  obtain⟨rfl,hwc⟩:=hcut
  subst hwc
  subst hwo
  clear hokc t1 t2 l0 hn1 hn2 hn3 q1 q2
  have HCT:=Lib.hid hM.cat
  have HOD:=Lib.hid hO
  have HM0:=Lib.hid (fun w1 (hc:Ext wc w1)=>((hM.blk).ext hc).cell 0)
  have HTR:=Lib.hid (fun w1 (hc:Ext wc w1)=>(hT.ext hc).range)
  have hBrb:∀k,wc.heap.size≤k→B k:=hM.cat.up
  go_upto_region 14 with fail
  refine wp_region_phi (Γ := Nat→Value) (sgφ [.val (.pointer (some ⟨m,0,none⟩)),.val (.pointer (some ⟨m,0,none⟩)),.val (.pointer (some ⟨m,0,none⟩)),.val (.pointer (some ⟨c,0,none⟩)),.val (cmdVal x (.slice dA x.disks.length dc)),.g 0,.g 1,.any])
   (GA14 wc B c mb mn lb (M.P.app x).1 (M.P.app x).2) (by kernel_rfl) (by kernel_rfl) (by kernel_rfl) (fun _=>undef) ?inv ?steps ?fin
  case inv=>exact⟨Kq.of_ext (Ext.refl wc).drew,fun _=>(Ext.refl wc).drew,fun hh=>(by cases hh),fun hh=>(by cases hh)⟩
  case steps =>
   show StepsTo _ _ _ _ _ _ 8
   refine⟨⟨⟨⟨⟨⟨⟨⟨trivial,?s0⟩,?s1⟩,?s2⟩,?s3⟩,?s4⟩,?s5⟩,?s6⟩,?s7⟩
   case s0 =>
    refine sg_val (x:=.pointer (some ⟨m,0,none⟩)) rfl rfl rfl (GA14.keep (j:=0) (by omega)) fun γ L v a w1 st=>?_
    have e0:=st.far 0 (by kernel_rfl)
    simp at e0
    go_simp
   case s1 =>
    refine sg_val (x:=.pointer (some ⟨m,0,none⟩)) rfl rfl rfl (GA14.keep (j:=1) (by omega)) fun γ L v a w1 st=>?_
    have e0:=st.val 0 75 rfl (by kernel_rfl)
    rw[(st.φ 0 (by kernel_rfl):v 0=_)]at e0
    simp at e0
    go_simp
   case s2 =>
    refine sg_val (x:=.pointer (some ⟨m,0,none⟩)) rfl rfl rfl (GA14.keep (j:=2) (by omega)) fun γ L v a w1 st=>?_
    have e1:=st.val 1 76 rfl (by kernel_rfl)
    rw[(st.φ 1 (by kernel_rfl):v 1=_)]at e1
    simp at e1
    go_simp
   case s3 =>
    refine sg_val (x:=.pointer (some ⟨c,0,none⟩)) rfl rfl rfl (GA14.keep (j:=3) (by omega)) fun γ L v a w1 st=>?_
    have e2:=st.val 2 77 rfl (by kernel_rfl)
    rw[(st.φ 2 (by kernel_rfl):v 2=_)]at e2
    simp at e2
    have h5:L 5=false:=by
     cases hq:L 5 with
     | false=>rfl
     | true =>
      have q3:=st.down 5 3 hq (by kernel_rfl)
      have q99:=st.off;rw[q3]at q99;cases q99
    have q:=HM0.out w1 (st.inv.pre h5)
    go_simp
   case s4 =>
    refine sg_val (x:=cmdVal x (.slice dA x.disks.length dc)) rfl rfl rfl (GA14.keep (j:=4) (by omega)) fun γ L v a w1 st=>?_
    have e5:=st.far 5 (by kernel_rfl)
    simp at e5
    have h5:L 5=false:=by
     cases hq:L 5 with
     | false=>rfl
     | true =>
      have q4:=st.down 5 4 hq (by kernel_rfl)
      have q99:=st.off;rw[q4]at q99;cases q99
    exact exec_load_mid rfl (b:=tb) (off:=0) (by simp[Act.eval,e5]) (HTR.out w1 (st.inv.pre h5)) Tryz.underlying39 rfl ccmd_info
   case s5 =>
    refine sg_call (k:=0) (f:=32) rfl rfl rfl (by kernel_rfl) fun γ L v a w1 st=>?_
    have e3:=st.val 3 78 rfl (by kernel_rfl)
    rw[(st.φ 3 (by kernel_rfl):v 3=_)]at e3
    simp at e3
    have e4:=st.val 4 79 rfl (by kernel_rfl)
    rw[(st.φ 4 (by kernel_rfl):v 4=_)]at e4
    simp at e4
    have h5:L 5=false:=st.off
    have h7:L 7=false:=by
     cases hq:L 7 with
     | false=>rfl
     | true =>
      have q5:=st.down 7 5 hq (by kernel_rfl)
      have q99:=st.off;rw[q5]at q99;cases q99
    have hEx:=st.inv.pre h5
    refine⟨#[.pointer (some ⟨c,0,none⟩),cmdVal x (.slice dA x.disks.length dc)],by go_simp,?_⟩
    refine(capply_S (HCT.out.ext hEx) HI.out.cat (by omega) x (.slice dA x.disks.length dc) (own_keep HOD.out hEx (fun _ _ hh=>hh)) (Nat.le_trans (rises_len (Cmd.good_iff.1 HG2.out.1.1).2.2.1) (by decide)) (Nat.le_trans (Cmd.good_iff.1 HG2.out.1.1).2.2.2.2.2.1 (by decide)) HG2.out.2).mono ?_
    rintro e w2 ⟨⟨A,cp,rfl,hno,hc2,hk2⟩,hmp⟩
    exact⟨_,rfl,GA14.called st.inv hk2 hmp h7 hc2 hno⟩
   case s6 =>
    refine sg_new (k:=1) rfl rfl rfl (by kernel_rfl) fun γ L v a w1 st=>?_
    have h7:L 7=false:=by
     cases hq:L 7 with
     | false=>rfl
     | true =>
      have q6:=st.down 7 6 hq (by kernel_rfl)
      have q99:=st.off;rw[q6]at q99;cases q99
    exact⟨.pointer (some ⟨w1.heap.size,0,none⟩),w1.alloc (.cells #[.int .i64 0,.int .u64 0,.int .i64 0,.int .u32 0,.slice none 0 0] 34),by go_simp,GA14.new st.inv h7 rfl⟩
   case s7 =>
    refine sg_skip rfl rfl rfl fun γ L v a w1 st=>?_
    have d5:=st.dep 5 (by kernel_rfl)
    have d6:=st.dep 6 (by kernel_rfl)
    obtain⟨A,cp,hγ,_⟩:=st.inv.call d5
    obtain⟨g,g1,g2,⟨Z,z1,z2⟩,_⟩:=st.inv.n1 d6
    have e5:=st.val 5 80 rfl (by kernel_rfl)
    rw[(st.φ 5 (by kernel_rfl):v 5=_)]at e5
    have e6:=st.val 6 9 rfl (by kernel_rfl)
    rw[(st.φ 6 (by kernel_rfl):v 6=_),g1]at e6
    simp at e6
    have hsz:(aggA (γ 0)).size=5:=by rw[hγ];rfl
    have hon:(aggA (γ 0)).all (·.oneCell')=true:=by rw[hγ];simp[resV,aggA,Value.oneCell']
    have hta : γ 0=.agg (aggA (γ 0)):=by rw[hγ];rfl
    refine⟨_,exec_store_mid rfl (b:=g) (off:=0) (cells:=aggA (γ 0)) (by simp[Act.eval,e6]) (by show a.tmps.getD 80 undef=_;rw[e5];exact hta) (by rw[hsz,←z2];exact z1.there) (by rw[hsz];exact cres_info) hon,?_⟩
    exact GA14.stored st.inv hBrb hLb.lt d5 d6 g1
  case fin =>
   intro γ L v wy hall hG hφ
   have h6:v 6 = γ 1:=hφ 6 (by decide)
   obtain⟨A,cp,hγ,hCx,hNx⟩:=hG.call (hall 5 (by decide))
   obtain⟨gb,g1,g2,_,g4⟩:=hG.n1 (hall 6 (by decide))
   have hGb:=g4 (hall 7 (by decide))
   rw[hγ]at hGb
   replace hGb:At wy gb 34 #[.int .i64 (M.P.app x).2.err,.int .u64 ((M.P.app x).2.blob:Int),.int .i64 (M.P.app x).2.size,.int .u32 ((M.P.app x).2.sum:Int),.slice A (M.P.app x).2.names.length cp]:=hGb
   rw[g1]at h6
   have hkq:=hG.kq
   have hmr:m≠lb:=At.ne hM.blk hLb (by decide)
   have htr:tb≠lb:=At.ne hT hLb (by decide)
   have hrr:rb≠lb:=At.ne hR hLb (by decide)
   have hM2:MAt wy B m c mb mn mc { M.inc with P:=(M.P.app x).1 } rows:=⟨hkq.at_ _ _ _ hmr (by decide) (by decide) hM.blk,hCx,hM.cl,hkq.mapAt hM.map hM.ne.1 hM.ne.2,fun p hp=>hkq.own (hM.nms p hp) (fun k hk=>own_apart' (hM.nms p hp) hLb (by decide) k hk) (by decide) (by decide),hM.ne,hM.lo,hM.nb⟩
   have hT2:=hkq.at_ _ _ _ htr (by decide) (by decide) hT
   have hR2:=hkq.at_ _ _ _ hrr (by decide) (by decide) hR
   have HK2:Hid (Km B w wy):=Lib.hid ⟨HK.out.chg.trans hkq.chg (fun _ _ e=>e),fun g t cs h1 h2 h3 hA=>hkq.at_ g t cs (fun e=>by have:=hA.lt;have:=HLB.out;omega) h1 h2 (HK.out.at_ g t cs h1 h2 h3 hA)⟩
   clear hkq hmr htr hrr hCx g1 g2 g4 hγ hG hφ hall hM hT hR hLb HCT HOD HM0 HTR hBrb hO HK
   change Exit.then _ _ _ (putAll _ v _ 8) wy
   simp only[putAll,dstOf,Act.put]
   simp only[List.getElem?_toArray,List.getElem?_cons_zero,List.getElem?_cons_succ,Option.bind_some,List.setIfInBounds_toArray,List.set_cons_zero,List.set_cons_succ]
   rw[h6]
   clear h6
   go_upto_region 15 with fail
   have HM1:=Lib.hid (fun w1 (hc:Ext wy w1)=>((hM2.blk).ext hc).cell 1)
   have HT1:=Lib.hid (fun w1 (hc:Ext wy w1)=>(hT2.ext hc).cell 1)
   have HT2:=Lib.hid (fun w1 (hc:Ext wy w1)=>(hT2.ext hc).cell 2)
   have HGB:=Lib.hid (fun w1 (hc:Ext wy w1)=>(hGb.ext hc).range)
   have HMP:=Lib.hid (fun w1 (hc:Ext wy w1)=>hM2.map.ext hc)
   have HNX:=Lib.hid hNx
   have HLN:=Lib.hid (show(M.P.app x).2.names.length≤1000000000 by have:=(app_ok HI.out.cat x).len;omega)
   refine wp_region_phi (Γ := Nat→Value) (sgφ [.val (.pointer (some ⟨m,0,none⟩)),.val (.pointer (some ⟨m,0,none⟩)),.val (.pointer (some ⟨m,1,none⟩)),.val (.map (some mc)),.val (.pointer (some ⟨tb,1,none⟩)),.val (.int .i64 x.client),.val (.pointer (some ⟨tb,2,none⟩)),.val (.int .i64 x.seq),.val (.agg #[.int .i64 (M.P.app x).2.err,.int .u64 ((M.P.app x).2.blob:Int),.int .i64 (M.P.app x).2.size,.int .u32 ((M.P.app x).2.sum:Int),.slice A (M.P.app x).2.names.length cp]),.g 0,.g 1,.any])
    (GUp wy mc rows x.client x.seq (M.P.app x).2) (by kernel_rfl) (by kernel_rfl) (by kernel_rfl) (fun _=>undef) ?inv ?steps ?fin
   case inv=>exact⟨fun _=>(Ext.refl wy).drew,fun hh=>(by cases hh),fun hh=>(by cases hh),fun hh=>(by cases hh)⟩
   case steps =>
    show StepsTo _ _ _ _ _ _ 12
    refine⟨⟨⟨⟨⟨⟨⟨⟨⟨⟨⟨⟨trivial,?s0⟩,?s1⟩,?s2⟩,?s3⟩,?s4⟩,?s5⟩,?s6⟩,?s7⟩,?s8⟩,?s9⟩,?s10⟩,?s11⟩
    case s0 =>
     refine sg_val (x:=.pointer (some ⟨m,0,none⟩)) rfl rfl rfl (GUp.keep (j:=0) (by omega)) fun γ L v a w1 st=>?_
     have e0:=st.far 0 (by kernel_rfl)
     simp at e0
     go_simp
    case s1 =>
     refine sg_val (x:=.pointer (some ⟨m,0,none⟩)) rfl rfl rfl (GUp.keep (j:=1) (by omega)) fun γ L v a w1 st=>?_
     have e0:=st.val 0 81 rfl (by kernel_rfl)
     rw[(st.φ 0 (by kernel_rfl):v 0=_)]at e0
     simp at e0
     go_simp
    case s2 =>
     refine sg_val (x:=.pointer (some ⟨m,1,none⟩)) rfl rfl rfl (GUp.keep (j:=2) (by omega)) fun γ L v a w1 st=>?_
     have e1:=st.val 1 82 rfl (by kernel_rfl)
     rw[(st.φ 1 (by kernel_rfl):v 1=_)]at e1
     simp at e1
     go_simp
    case s3 =>
     refine sg_val (x:=.map (some mc)) rfl rfl rfl (GUp.keep (j:=3) (by omega)) fun γ L v a w1 st=>?_
     have e2:=st.val 2 83 rfl (by kernel_rfl)
     rw[(st.φ 2 (by kernel_rfl):v 2=_)]at e2
     simp at e2
     have h11:L 11=false:=by
      cases hq:L 11 with
      | false=>rfl
      | true =>
       have q3:=st.down 11 3 hq (by kernel_rfl)
       have q99:=st.off;rw[q3]at q99;cases q99
     have q:=HM1.out w1 (st.inv.pre h11)
     simp at q
     go_simp
    case s4 =>
     refine sg_val (x:=.pointer (some ⟨tb,1,none⟩)) rfl rfl rfl (GUp.keep (j:=4) (by omega)) fun γ L v a w1 st=>?_
     have e5:=st.far 5 (by kernel_rfl)
     simp at e5
     go_simp
    case s5 =>
     refine sg_val (x:=.int .i64 x.client) rfl rfl rfl (GUp.keep (j:=5) (by omega)) fun γ L v a w1 st=>?_
     have e4:=st.val 4 85 rfl (by kernel_rfl)
     rw[(st.φ 4 (by kernel_rfl):v 4=_)]at e4
     simp at e4
     have h11:L 11=false:=by
      cases hq:L 11 with
      | false=>rfl
      | true =>
       have q5:=st.down 11 5 hq (by kernel_rfl)
       have q99:=st.off;rw[q5]at q99;cases q99
     have q:=HT1.out w1 (st.inv.pre h11)
     simp[cmdCells]at q
     go_simp
    case s6 =>
     refine sg_val (x:=.pointer (some ⟨tb,2,none⟩)) rfl rfl rfl (GUp.keep (j:=6) (by omega)) fun γ L v a w1 st=>?_
     have e5:=st.far 5 (by kernel_rfl)
     simp at e5
     go_simp
    case s7 =>
     refine sg_val (x:=.int .i64 x.seq) rfl rfl rfl (GUp.keep (j:=7) (by omega)) fun γ L v a w1 st=>?_
     have e6:=st.val 6 87 rfl (by kernel_rfl)
     rw[(st.φ 6 (by kernel_rfl):v 6=_)]at e6
     simp at e6
     have h11:L 11=false:=by
      cases hq:L 11 with
      | false=>rfl
      | true =>
       have q10:=st.down 11 10 hq (by kernel_rfl)
       have q7:=st.down 10 7 q10 (by kernel_rfl)
       have q99:=st.off;rw[q7]at q99;cases q99
     have q:=HT2.out w1 (st.inv.pre h11)
     simp[cmdCells]at q
     go_simp
    case s8 =>
     refine sg_val (x:=.agg #[.int .i64 (M.P.app x).2.err,.int .u64 ((M.P.app x).2.blob:Int),.int .i64 (M.P.app x).2.size,.int .u32 ((M.P.app x).2.sum:Int),.slice A (M.P.app x).2.names.length cp]) rfl rfl rfl (GUp.keep (j:=8) (by omega)) fun γ L v a w1 st=>?_
     have e9:=st.far 9 (by kernel_rfl)
     simp at e9
     have h11:L 11=false:=by
      cases hq:L 11 with
      | false=>rfl
      | true =>
       have q10:=st.down 11 10 hq (by kernel_rfl)
       have q9:=st.down 10 9 q10 (by kernel_rfl)
       have q8:=st.down 9 8 q9 (by kernel_rfl)
       have q99:=st.off;rw[q8]at q99;cases q99
     exact exec_load_mid rfl (b:=gb) (off:=0) (by simp[Act.eval,e9]) (HGB.out w1 (st.inv.pre h11)) Tryz.underlying34 rfl cres_info
    case s9 =>
     refine sg_call (k:=0) (f:=33) rfl rfl rfl (by kernel_rfl) fun γ L v a w1 st=>?_
     have e8:=st.val 8 89 rfl (by kernel_rfl)
     rw[(st.φ 8 (by kernel_rfl):v 8=_)]at e8
     simp at e8
     have h10:L 10=false:=by
      cases hq:L 10 with
      | false=>rfl
      | true =>
       have q9:=st.down 10 9 hq (by kernel_rfl)
       have q99:=st.off;rw[q9]at q99;cases q99
     have h11:L 11=false:=by
      cases hq:L 11 with
      | false=>rfl
      | true =>
       have q10:=st.down 11 10 hq (by kernel_rfl)
       have q9:=st.down 10 9 q10 (by kernel_rfl)
       have q99:=st.off;rw[q9]at q99;cases q99
     have hEx:=st.inv.pre h11
     refine⟨#[.agg #[.int .i64 (M.P.app x).2.err,.int .u64 ((M.P.app x).2.blob:Int),.int .i64 (M.P.app x).2.size,.int .u32 ((M.P.app x).2.sum:Int),.slice A (M.P.app x).2.names.length cp]],by go_simp,?_⟩
     refine(sown_any w1 (M.P.app x).2.err (M.P.app x).2.blob (M.P.app x).2.size (M.P.app x).2.sum (.slice A (M.P.app x).2.names.length cp) (M.P.app x).2.names (own_keep HNX.out hEx (fun _ _ hh=>hh)) HLN.out).mono ?_
     rintro e w2 ⟨A2,cp2,rfl,hno,hE2⟩
     exact⟨_,rfl,GUp.called st.inv hE2 h10 h11 hno⟩
    case s10 =>
     refine sg_new (k:=1) rfl rfl rfl (by kernel_rfl) fun γ L v a w1 st=>?_
     have e7:=st.val 7 88 rfl (by kernel_rfl)
     rw[(st.φ 7 (by kernel_rfl):v 7=_)]at e7
     simp at e7
     have e9:=st.val 9 90 rfl (by kernel_rfl)
     rw[(st.φ 9 (by kernel_rfl):v 9=_)]at e9
     simp at e9
     have h11:L 11=false:=by
      cases hq:L 11 with
      | false=>rfl
      | true =>
       have q10:=st.down 11 10 hq (by kernel_rfl)
       have q99:=st.off;rw[q10]at q99;cases q99
     obtain⟨A2,cp2,hγ,_⟩:=st.inv.call (st.dep 9 (by kernel_rfl))
     refine⟨.agg (#[.int .i64 x.seq]++aggA (γ 0)),w1,?_,GUp.built st.inv h11⟩
     rw[hγ]at e9⊢
     simp only[resV,aggA]at e9⊢
     go_simp
    case s11 =>
     refine sg_skip rfl rfl rfl fun γ L v a w1 st=>?_
     have e3:=st.val 3 84 rfl (by kernel_rfl)
     rw[(st.φ 3 (by kernel_rfl):v 3=_)]at e3
     simp at e3
     have e5:=st.val 5 86 rfl (by kernel_rfl)
     rw[(st.φ 5 (by kernel_rfl):v 5=_)]at e5
     simp at e5
     have d10:=st.dep 10 (by kernel_rfl)
     have d9:=st.down 10 9 d10 (by kernel_rfl)
     have h11:L 11=false:=st.off
     have hEx:=st.inv.pre h11
     obtain⟨A2,cp2,hγ,hno⟩:=st.inv.call d9
     have e10:=st.val 10 91 rfl (by kernel_rfl)
     rw[(st.φ 10 (by kernel_rfl):v 10=_),st.inv.bld d10,hγ]at e10
     simp[resV,aggA]at e10
     obtain⟨w2,hrun,hmp2,hch⟩:=(HMP.out w1 hEx).update (P:=Tryz.prog) (K:=i64Way) map_lasts Tryz.underlying3 x.client ((⟨x.seq,(M.P.app x).2⟩:Last),.slice A2 (M.P.app x).2.names.length cp2)
     have hrun2:(Instr.mapUpdate 79 (.map (some mc)) (.int .i64 x.client) (.agg #[.int .i64 x.seq,.int .i64 (M.P.app x).2.err,.int .u64 ((M.P.app x).2.blob:Int),.int .i64 (M.P.app x).2.size,.int .u32 ((M.P.app x).2.sum:Int),.slice A2 (M.P.app x).2.names.length cp2])).run Tryz.prog w1=.ok () w2:=hrun
     refine⟨w2,by simp[execOp,Act.eval,e3,e5,e10,hrun2,Result.andThen],⟨fun hh=>by simp at hh,fun _=>⟨A2,cp2,hγ,own_keep hno hch (fun k hk e=>own_map hno (HMP.out w1 hEx) k hk e)⟩,fun hh=>st.inv.bld (by simpa using hh),fun _=>⟨A2,cp2,w1,hγ,hEx,HMP.out w1 hEx,hch,hmp2,own_keep hno hch (fun k hk e=>own_map hno (HMP.out w1 hEx) k hk e)⟩⟩⟩
   case fin =>
    intro γ L v wz hall hG hφ
    obtain⟨A2,cp2,w1,hγ,hE1,hmp1,hch,hmp2,hno2⟩:=hG.upd (hall 11 (by decide))
    have hmm:mc≠m:=hmp1.ne_at (hM2.blk.ext hE1)
    have hmg:mc≠gb:=hmp1.ne_at (hGb.ext hE1)
    have hmrb:mc≠rb:=hmp1.ne_at (hR2.ext hE1)
    have hM3:MAt wz B m c mb mn mc (({ M with P:=(M.P.app x).1,cl:=(x.client,⟨x.seq,(M.P.app x).2⟩)::ldel x.client M.cl } : Mach).inc) ((x.client,((⟨x.seq,(M.P.app x).2⟩:Last),.slice A2 (M.P.app x).2.names.length cp2))::ldel x.client rows):=by
     refine⟨(hM2.blk.ext hE1).chg hch (fun e=>hmm (Eq.symm e)),(hM2.cat.ext hE1).away_map hmp1 hM2.ne.1 hM2.ne.2 hch,?_,hmp2,fun p hp=>?_,hM2.ne,hM2.lo,fun p hp=>?_⟩
     ·show(x.client,(⟨x.seq,(M.P.app x).2⟩:Last))::(ldel x.client rows).map (fun p=>(p.1,p.2.1))=(x.client,(⟨x.seq,(M.P.app x).2⟩:Last))::ldel x.client M.cl
      rw[←(show rows.map (fun p=>(p.1,p.2.1))=M.cl from hM2.cl)]
      unfold ldel
      rw[List.filter_map]
      rfl
     ·rcases List.mem_cons.1 hp with rfl|hp
      ·exact own_base0 hno2
      ·exact own_keep (own_keep (hM2.nms p (List.mem_filter.1 hp).1) hE1 (fun _ _ hh=>hh)) hch (fun k hk e=>own_map (own_keep (hM2.nms p (List.mem_filter.1 hp).1) hE1 (fun _ _ hh=>hh)) hmp1 k hk e)
     ·rcases List.mem_cons.1 hp with rfl|hp
      ·exact fun k hk=>hM2.cat.up k (own_ge hno2 k hk)
      ·exact hM2.nb p (List.mem_filter.1 hp).1
    have hGb3:=(hGb.ext hE1).chg hch (fun e=>hmg (Eq.symm e))
    have hR3:=(hR2.ext hE1).chg hch (fun e=>hmrb (Eq.symm e))
    have hN3:=own_keep (own_keep hNx hE1 (fun _ _ hh=>hh)) hch (fun k hk e=>own_map (own_keep hNx hE1 (fun _ _ hh=>hh)) hmp1 k hk e)
    have HK3:Hid (Km B w wz):=Lib.hid ((HK2.out.trans (Km.of_ext hE1)).map_put hmp1 hM2.lo.2 hch)
    have hM:=hM3
    have hR:=hR3
    have HK:=HK3
    have HRG:=Lib.hid hGb3.range
    clear hφ hall hG hγ hE1 hmp1 hch hmp2 hno2 hmm hmg hmrb hM3 hGb3 hR3 HK3 HK2 hM2 hT2 hR2 hGb hNx HM1 HT1 HT2 HGB HMP HNX HLN
    change Exit.then _ _ _ (putAll _ v _ 12) wz
    simp only[putAll,dstOf,Act.put]
    simp only[List.getElem?_toArray,List.getElem?_cons_zero,List.getElem?_cons_succ,Option.bind_some,List.setIfInBounds_toArray,List.set_cons_zero,List.set_cons_succ]
    have HT:=Lib.hid hR.there
    have hst:At (wz.setCells rb 0 (#[.int .i64 (M.P.app x).2.err,.int .u64 ((M.P.app x).2.blob:Int),.int .i64 (M.P.app x).2.size,.int .u32 ((M.P.app x).2.sum:Int),.slice A (M.P.app x).2.names.length cp]:Array Value).toList) rb 34 #[.int .i64 (M.P.app x).2.err,.int .u64 ((M.P.app x).2.blob:Int),.int .i64 (M.P.app x).2.size,.int .u32 ((M.P.app x).2.sum:Int),.slice A (M.P.app x).2.names.length cp]:=At.cells_all hR (by first|rfl|exact hz)
    have hch:Chg (· = rb) wz (wz.setCells rb 0 (#[.int .i64 (M.P.app x).2.err,.int .u64 ((M.P.app x).2.blob:Int),.int .i64 (M.P.app x).2.size,.int .u32 ((M.P.app x).2.sum:Int),.slice A (M.P.app x).2.names.length cp]:Array Value).toList):=chg_setCells _ _
    have HL:=Lib.hid (run_loadVar_mid (P:=Tryz.prog) _ rb 0 34 (#[.int .i64 (M.P.app x).2.err,.int .u64 ((M.P.app x).2.blob:Int),.int .i64 (M.P.app x).2.size,.int .u32 ((M.P.app x).2.sum:Int),.slice A (M.P.app x).2.names.length cp]:Array Value).toList _ hst.range Tryz.underlying34 rfl cres_info)
    have HMF:=Lib.hid (hM.away hR (by decide) (by decide) (by decide) (by decide) (by decide) hch)
    have HKF:=Lib.hid (HK.out.then hch (fun k e=>by have:=HRB.out;have e':k=rb:=e;omega) HBS.out)
    have HNF:=Lib.hid (own_keep hN3 hch fun k hk e=>own_apart' hN3 hR (by decide) k hk e)
    clear hst hch hM hR
    go_wp2_with (first|(refine wpList_load_mid rfl 34 _ rfl gb 0 rfl _ _ HRG.out Tryz.underlying34 rfl cres_info ?_)|(refine wpList_store_mid rfl 34 _ _ rfl rb 0 #[.int .i64 (M.P.app x).2.err,.int .u64 ((M.P.app x).2.blob:Int),.int .i64 (M.P.app x).2.size,.int .u32 ((M.P.app x).2.sum:Int),.slice A (M.P.app x).2.names.length cp] rfl rfl (by first|exact HT.out|(have h:=HT.out;rw[hz]at h;exact h)) cres_info (by simp[Value.oneCell']) ?_))
    refine bodyPost_ret (v:=.agg #[.int .i64 (M.P.app x).2.err,.int .u64 ((M.P.app x).2.blob:Int),.int .i64 (M.P.app x).2.size,.int .u32 ((M.P.app x).2.sum:Int),.slice A (M.P.app x).2.names.length cp]) (results_one Tryz.results9 _ rfl HL.out) rfl ?_
    rw[HA4.out]
    exact⟨A,cp,rfl,HNF.out,⟨c,mb,mn,mc,_,HMF.out⟩,HKF.out⟩
end Go.Proofs.YtkkbfdencgdbhaaGreatDoor
