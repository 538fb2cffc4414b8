/-
  Part 24 of what the law leans on.
-/
import Derived.Test.YtiojjokfeknhcaaGreatSC20
import Derived.Test.YtiojjokfeknhcaaGreatSC23
namespace Go.Proofs.YtiojjokfeknhcaaGreat
set_option maxRecDepth 100000
set_option maxHeartbeats 8000000
set_option linter.unusedVariables false
set_option linter.unusedSimpArgs false
set_option linter.unusedSectionVars false
open _root_.Go.Proofs.Tryz
open Go.RowKit Go.Sort
theorem own_news{w:World}{base:Nat}{e:TypeId}{size:Nat}{A:Addr}{m c n:Nat}{xs:List Value}(h:w.ownsRow base e size (.slice (some A) m c) n xs):∀j u,xs[j]? = some u→w.cell? (A.add j)=some u:=by
 intro j u hu;rcases h.2 with⟨h0,_⟩|⟨g,cap,cur,hv,hb,hg,rest⟩
 ·cases h0
 ·simp only[Value.slice.injEq,Option.some.injEq]at hv;obtain⟨rfl,rfl,rfl⟩:=hv;rw[Go.WideShapes.add_plain,Nat.zero_add,cell_of_row w g j cur e (0,0) hg];rw[←rest.2.2.2,List.getElem?_take]at hu
  split at hu
  ·simpa using hu
  ·cases hu
theorem jobsV_app(a b:List Jb):qZb (a++b)=qZb a++qZb b:=by unfold qZb;simp
theorem jobsV_len(l:List Jb):(qZb l).length=l.length * 4:=by
 induction l with
 | nil=>rfl
 | cons j l ih =>
  rw[show j::l=[j]++l from rfl,jobsV_app,List.length_append,ih,List.length_append];simp[qZb,Jb.cells];omega
theorem jobsV_one(l:List Jb):∀u∈qZb l,u.oneCell'=true:=by
 intro u hu;unfold qZb at hu;obtain⟨r,hr,hu⟩:=List.mem_flatten.1 hu;obtain⟨j,_,rfl⟩:=List.mem_map.1 hr;simp only[Jb.cells,List.mem_cons,List.not_mem_nil,or_false]at hu;rcases hu with rfl|rfl|rfl|rfl <;> rfl
theorem jFree_len(W:Wd)(L:List Bl):(qZD W L).length≤L.length:=by
 unfold qZD;rw[List.length_map,List.length_take]
 have:=List.length_filter_le (qX8 W) L
 omega
theorem jRetape_len(W:Wd)(P:Pm):(qQN W P).length≤P.L.length:=by
 unfold qQN;split
 ·simp
 ·rw[List.length_map];exact List.length_filter_le _ _
theorem refKind_len{W:Wd}{P:Pm}(k:Int)(hL:P.L.length≤40)(hv:W.vols.length≤12):(qQJ W P k).length≤172:=by
 unfold qQJ;have h1:=qZU k (fun b p=>qZR W P b k p) P.L P.L.length;rw[List.take_length]at h1;have h2:=qZu k (qZ9 W P k) W.vols.length;have h3:=jFree_len W P.L;have h4:=jRetape_len W P
 have h5:(if k=4 then qZD W P.L else []).length≤40:=by
  split
  ·omega
  ·simp
 have h6:(if k=7 then qQN W P else []).length≤40:=by
  split
  ·omega
  ·simp
 simp only[List.length_append];omega
theorem refJobs_len{W:Wd}{P:Pm}(hL:P.L.length≤40)(hv:W.vols.length≤12):∀n,(qZw W P n).length≤172 * n
 | 0=>Nat.le_refl _
 | n+1=>by
  have h1:=refJobs_len hL hv n;have h2:=refKind_len (W:=W) (P:=P) ((n:Int)+1) hL hv;unfold qZw;rw[List.length_append];omega
theorem r17jobs_any(w:World)(X:Array Value)(W:Wd)(V:WdV)(P:Pm)(n:Nat)(hX:qQZ w (.agg X) P)(hX37:X.size=37)(hi:PInv n P)(hn:n≤40)(hW:WdIn w W V)(hO:W.Ok) :
 Calls prog 10 #[.agg X,.agg (qQo W V)] w fun e w'=>∃v,e=.returned v∧w'.ownsRow w.heap.size 49 4 v (qZw W P 9).length (qZb (qZw W P 9))∧Ext w w':=by
 obtain⟨i0,hi0,hz0,hz1,hz2⟩:=info_parts qXg;have HBL:=Hh hi.bl;have hlen40:P.L.length≤40:=Nat.le_trans hi.len hn;have hv12:=hO.v;have HRL:=Hh (refJobs_len (W:=W) (P:=P) hlen40 hv12);have HOB:=Hh (fun(w2:World) (hE:Ext w w2) (b:Bl) (dv:Value) (hb:BlOk n b) (hd:w2.ownsRow 0 3 1 dv b.disks.length (b.disks.map (Value.int .i64))) (kd:Int) (p:Nat) (hp:p<2)=>ofblob_any w2 X W V P n b dv kd p hp (hX.ext hE) hX37 hi (hW.ext hE) hO hb hd);have HOV:=Hh (fun(w2:World) (hE:Ext w w2) (k:Nat) (kd:Int) (hk:k<W.vols.length)=>ofvol_any w2 X W V P n k kd (hX.ext hE) hX37 hi (by omega) (hW.ext hE) hO hk);have HFR:=Hh (fun(w2:World) (hE:Ext w w2)=>rfreed_any w2 X W V P n (hX.ext hE) hX37 hi hn (hW.ext hE) hO);have HRT:=Hh (fun(w2:World) (hE:Ext w w2)=>rretaped_any w2 X W V P n (hX.ext hE) hX37 hi hn (hW.ext hE) hO);obtain⟨Vs,vc,hv',_⟩:=hW.v;rw[List.length_map]at hv';obtain⟨lv,DV,e,hDV,hR⟩:=hX;rw[Value.agg.injEq]at e;have hlen:DV.length=P.L.length:=by rw[←hDV,List.length_map]
 obtain⟨A,c,rfl⟩:=qQa hR.own;have hX0:X[0]? = some (.slice A DV.length c):=by rw[e];rfl
 have HDV:=Hh hDV;have HR:=Hh hR;have HI37:Hid ((prog.info? 35).map (·.size)=some X.toList.length):=Hh (by rw[Array.length_toList,hX37];exact qQg);have HI9:Hid ((prog.info? 40).map (·.size)=some (qQo W V).toList.length):=Hh qZZ;have HI13:=Hh qJm;clear e hDV hR hW hO hi hn;have hA:=(At.new w 35 X).alloc (.cells (qQo W V) 40);have hB:=At.new (w.alloc (.cells X 35)) 40 (qQo W V);have hE:=((Er w).alloc (.cells X 35)).alloc (.cells (qQo W V) 40);have hs2:(w.alloc (.cells X 35)).heap.size=w.heap.size+1:=by simp
 rw[hs2]at hB;clear hs2 hX37
 go_enter func10,ntmps10
 go_upto_region 1 with fail
 generalize (w.alloc (.cells X 35)).alloc (.cells (qQo W V) 40)=W0 at hA hB hE⊢;generalize w.heap.size=xb at hA hB⊢;have hbase:w.heap.size≤W0.heap.size:=hE.size;have hOw:=qZt (w:=W0) (base:=W0.heap.size) (e:=49) (size:=4) (Nat.le_refl _);have hEa:=(Er W0).alloc (.cells #[] 49);have HE0:=Hh hE;have HX0:=Hh (fun w2 (hx:Ext W0 w2)=>((hA.ext hx).cell 0).trans hX0);have HA:=Hh (fun w2 (hx:Ext W0 w2)=>hA.ext hx);have HB:=Hh (fun w2 (hx:Ext W0 w2)=>hB.ext hx);have HB1:=Hh (fun w2 (hx:Ext W0 w2)=>show w2.cell? ⟨xb+1,1,none⟩=some (.slice Vs W.vols.length vc)by rw[←hv'];exact(hB.ext hx).cell 1);clear hA hB hE hX0
 go_upto_region 2 with fail
 generalize W0.alloc (.cells #[] 49)=W1 at hOw hEa⊢;go_wp2_with fail
 go_loopw [5,6] (fun ov kv wr=>∃kd:Nat,kd≤9∧kv=.int .i64 ((kd:Int)+1)∧wr.ownsRow W0.heap.size 49 4 ov (qZw W P kd).length (qZb (qZw W P kd))∧Ext W0 wr) (fun _ kv _=>10 - (intOf kv).toNat)
 case atStart=>exact⟨0,Nat.zero_le _,rfl,by simpa[qZw,qZb]using hOw,hEa⟩
 case round =>
  clear hOw hEa;obtain⟨kd,hkd,rfl,hown,hEr⟩:=hrel
  by_cases hk9:kd<9
  ·have hJl:=HRL.out kd;have hRJ:qZw W P (kd+1)=qZw W P kd++qQJ W P ((kd:Int)+1):=rfl;obtain⟨kI,hkI⟩:∃kI:Int,kI=(kd:Int)+1:=⟨_,rfl⟩;rw[←hkI]at hRJ⊢;rw[show qQJ W P kI=P.L.flatMap (qQD kI (fun b p=>qZR W P b kI p))++qZB kI W.vols.length (qZ9 W P kI)++(if kI=4 then qZD W P.L else [])++(if kI=7 then qQN W P else [])from rfl]at hRJ;have HRJ:=Hh hRJ;clear hRJ;generalize qZw W P kd=JJ at hown hJl HRJ;have t0:decide (kI<10)=true:=by simp;omega
   have hwk:IntKind.i64.wrap (kI+1)=kI+1:=IntWalk.i64_in _ (by omega);have x0:=HX0.out wr hEr;rw[hlen]at x0;have HOWN:=Hh hown;have HEWR:=Hh hEr;have HKI:=Hh hkI;clear hown hEr hkI;go_wp2_with fail
   clear x0
   go_loopw [5,19] (fun ov iv wr=>∃k:Nat,k≤P.L.length∧iv=.int .i64 (k:Int)∧wr.ownsRow W0.heap.size 49 4 ov (JJ++(P.L.take k).flatMap (qQD kI (fun b p=>qZR W P b kI p))).length (qZb (JJ++(P.L.take k).flatMap (qQD kI (fun b p=>qZR W P b kI p))))∧Ext W0 wr) (fun _ iv _=>P.L.length - (intOf iv).toNat)
   case atStart=>exact⟨0,Nat.zero_le _,rfl,by simpa using HOWN.out,HEWR.out⟩
   case round =>
    clear HOWN HEWR;obtain⟨k,hk,rfl,hown,hEr⟩:=hrel
    by_cases hlt:k<P.L.length
    ·have hltD:k<DV.length:=by omega
     obtain⟨⟨b,dv⟩,hb⟩:∃q,DV[k]? = some q:=⟨_,List.getElem?_eq_getElem hltD⟩;have hbL:P.L[k]? = some b:=by rw[←HDV.out,List.getElem?_map,hb];rfl
     have hdks:=HR.out.dks _ (List.mem_of_getElem? hb);obtain⟨dA,dc,rfl⟩:∃A c,dv=.slice A b.disks.length c:=qQa hdks;have hEw:=HE0.out.trans hEr;have hS:=HR.out.sln.ext hEw
     obtain⟨rb,ro,rfl⟩:=qQQ hS (fun e=>by
      have h0:=List.map_eq_nil_iff.1 e;rw[h0]at hb;simp at hb)
     obtain⟨r0,r1,r2,r3,r4,r5,r6,r7,r8,r9,r10,r11,r12⟩:=qQV hS hb;have hYb:=At.new wr 89 (blCells b (.slice dA b.disks.length dc));have hEb:=(Er wr).alloc (.cells (blCells b (.slice dA b.disks.length dc)) 89);have HBK:=Hh (HBL.out b (List.mem_of_getElem? hbL));have hpl:=qXU (m:=kI) (f:=(fun b p=>qZR W P b kI p)) hbL;have hjl:=qZU kI (fun b p=>qZR W P b kI p) P.L k;generalize (P.L.take k).flatMap (qQD kI (fun b p=>qZR W P b kI p))=os at hown hpl hjl;rw[←qXV]at hpl;have HPL0:=Hh hpl;clear hb hS hbL hpl
     go_upto_region 8 with fail
     clear r0 r1 r2 r3 r4 r5 r6 r7 r8 r9 r10 r11 r12;generalize wr.heap.size=yb at hYb⊢;generalize wr.alloc (.cells (blCells b (.slice dA b.disks.length dc)) 89)=W2 at hYb hEb⊢;have HO2:=Hh (qZd hown hEb);have HE2:=Hh (hEr.trans hEb);have HYB:=Hh (fun w3 (hx:Ext W0 w3) (h2:At w3 yb 89 (blCells b (.slice dA b.disks.length dc)))=>h2);have HY2:=Hh hYb;have HDK:=Hh (fun w3 (hx:Ext w w3)=>qZd hdks hx);clear hown hEr hEb hYb HYB hEw hdks;clear wr;go_wp2_with fail
     go_loopw [5,9] (fun ov iv wr=>∃q:Nat,q≤2∧iv=.int .i64 (q:Int)∧wr.ownsRow W0.heap.size 49 4 ov (JJ++os++qQI kI (fun b p=>qZR W P b kI p) b q).length (qZb (JJ++os++qQI kI (fun b p=>qZR W P b kI p) b q))∧Ext W0 wr∧At wr yb 89 (blCells b (.slice dA b.disks.length dc))) (fun _ iv _=>2 - (intOf iv).toNat)
     case atStart=>exact⟨0,by omega,rfl,by simpa[qQI]using HO2.out,HE2.out,HY2.out⟩
     case round =>
      clear HO2 HE2 HY2;obtain⟨q,hq,rfl,hown,hEr,hYb⟩:=hrel
      by_cases hq2:q<2
      ·have hps:=qXz kI (fun b p=>qZR W P b kI p) b q;have hpn:=qXW kI (fun b p=>qZR W P b kI p) b q;generalize qQI kI (fun b p=>qZR W P b kI p) b q=pq at hown hps hpn;have hps:=show JJ++os++qQI kI (fun b p=>qZR W P b kI p) b (q+1)=JJ++os++pq++_ by rw[hps,←List.append_assoc]
       have hll:(JJ++os++pq).length≤2000:=by simp only[List.length_append];omega
       generalize JJ++os++pq=JP at hown hps hll;have hOB:=HOB.out wr (HE0.out.trans hEr) b (.slice dA b.disks.length dc) HBK.out (HDK.out wr (HE0.out.trans hEr)) kI q hq2;generalize qZR W P b kI q=rb1 at hps hOB;have HC:=Hh hOB;have HXR:=Hh ((HA.out wr hEr).range);have HBR:=Hh ((HB.out wr hEr).range);have HYR:=Hh hYb.range;have HPS:=Hh hps;have HOWN:=Hh hown;have HEWR:=Hh hEr;have HYB:=Hh hYb;obtain⟨OA,oc,rfl⟩:=qQa hown;clear hOB hps hown hEr hYb
       go_wp2_with (first|(refine qQm rfl 35 _ rfl xb 0 rfl _ _ HXR.out underlying35 rfl HI37.out ?_)|(refine qQm rfl 40 _ rfl (xb+1) 0 rfl _ _ HBR.out underlying40 rfl HI9.out ?_)|(refine qQm rfl 89 _ rfl yb 0 rfl _ _ HYR.out underlying89 rfl HI13.out ?_))
       refine HC.out.mono ?_;rintro e W3 ⟨rfl,hE3⟩;clear HC HXR HBR HYR;have hO3:=qZd HOWN.out hE3;have hE03:=HEWR.out.trans hE3;have hY3:=HYB.out.ext hE3;clear HOWN HEWR HYB hE3;cases rb1
       ·have HPL:Hid (JJ++os++qQI kI (fun b p=>qZR W P b kI p) b (q+1)=JP):=Hh (by rw[HPS.out];simp);clear HPS;go_wp2_with fail
        go_roundw
        case rel=>exact⟨q+1,by omega,by go_num,by rw[HPL.out];exact hO3,hE03,hY3⟩
        case measure=>simp[intOf];omega
       ·have HPL:Hid (JJ++os++qQI kI (fun b p=>qZR W P b kI p) b (q+1)=JP++[⟨kI,b.id,(q:Int), -1⟩]):=Hh (by rw[HPS.out];simp);clear HPS;have q0:=hY3.cell 0;simp at q0;have h2:=hO3;have hE2w:=hE03;have hsz:W0.heap.size≤W3.heap.size:=hE2w.size
        go_wp2_with (at_builtin;refine qQp W3 h2 45 underlying45 qXg rfl rfl (by decide) (by decide) rfl (by omega) hsz rfl _ _ rfl rfl rfl ?_)
        intro v' w5 hown5 hchg;obtain⟨OB,ob,rfl⟩:=qQa hown5;have hE5:Ext W0 w5:=Chg.own_ext hE2w hchg h2 (Nat.le_refl _);have hY5:=hY3.chg hchg fun hh=>qQf h2 hY3 (by decide) _ hh rfl
        have HO5:Hid (w5.ownsRow W0.heap.size 49 4 (.slice OB _ ob) (JJ++os++qQI kI (fun b p=>qZR W P b kI p) b (q+1)).length (qZb (JJ++os++qQI kI (fun b p=>qZR W P b kI p) b (q+1)))):=Hh (by
         rw[HPL.out,qXd,List.length_append];exact hown5)
        clear h2 hchg hown5 hsz;clear q0;go_wp2_with fail
        go_roundw
        case rel=>exact⟨q+1,by omega,by go_num,HO5.out,hE5,hY5⟩
        case measure=>simp[intOf];omega
      ·obtain rfl:q=2:=by omega
       have HPL:Hid (JJ++(P.L.take (k+1)).flatMap (qQD kI (fun b p=>qZR W P b kI p))=JJ++os++qQI kI (fun b p=>qZR W P b kI p) b 2):=Hh (by rw[HPL0.out,List.append_assoc]);go_wp2_with fail
       go_roundw
       case rel=>exact⟨k+1,by omega,by go_num,by rw[HPL.out];exact hown,hEr⟩
       case measure=>simp[intOf];omega
    ·obtain rfl:k=P.L.length:=by omega
     rw[List.take_length]at hown;have hjl:=qZU kI (fun b p=>qZR W P b kI p) P.L P.L.length;rw[List.take_length]at hjl;rw[←List.append_assoc JJ,←List.append_assoc JJ]at HRJ;have hbl:(JJ++P.L.flatMap (qQD kI (fun b p=>qZR W P b kI p))).length≤1800:=by simp only[List.length_append];omega
     rw[←List.append_assoc]at HRJ;generalize JJ++P.L.flatMap (qQD kI (fun b p=>qZR W P b kI p))=JB at hown HRJ hbl;have b1:=HB1.out wr hEr;have HOWN:=Hh hown;have HEWR:=Hh hEr;clear hown hEr hjl hlt hk;go_wp2_with fail
     clear b1
     go_loopw [5,45] (fun ov iv wr=>∃k:Nat,k≤W.vols.length∧iv=.int .i64 (k:Int)∧wr.ownsRow W0.heap.size 49 4 ov (JB++qZB kI k (qZ9 W P kI)).length (qZb (JB++qZB kI k (qZ9 W P kI)))∧Ext W0 wr) (fun _ iv _=>W.vols.length - (intOf iv).toNat)
     case atStart=>exact⟨0,Nat.zero_le _,rfl,by simpa[qZB]using HOWN.out,HEWR.out⟩
     case round =>
      clear HOWN HEWR;obtain⟨k,hk,rfl,hown,hEr⟩:=hrel
      by_cases hlt:k<W.vols.length
      ·have hps:=qJa kI (qZ9 W P kI) k;have hpn:=qZu kI (qZ9 W P kI) k;generalize qZB kI k (qZ9 W P kI)=js at hown hps hpn;have hps:=show JB++qZB kI (k+1) (qZ9 W P kI)=JB++js++_ by rw[hps,←List.append_assoc]
       have hll:(JB++js).length≤2000:=by simp only[List.length_append];omega
       generalize JB++js=JP at hown hps hll;have hOV:=HOV.out wr (HE0.out.trans hEr) k kI hlt;generalize qZ9 W P kI k=rb1 at hps hOV;have HC:=Hh hOV;have HXR:=Hh ((HA.out wr hEr).range);have HBR:=Hh ((HB.out wr hEr).range);have HPS:=Hh hps;have HOWN:=Hh hown;have HEWR:=Hh hEr;obtain⟨OA,oc,rfl⟩:=qQa hown;clear hOV hps hown hEr
       go_wp2_with (first|(refine qQm rfl 35 _ rfl xb 0 rfl _ _ HXR.out underlying35 rfl HI37.out ?_)|(refine qQm rfl 40 _ rfl (xb+1) 0 rfl _ _ HBR.out underlying40 rfl HI9.out ?_))
       refine HC.out.mono ?_;rintro e W3 ⟨rfl,hE3⟩;clear HC HXR HBR;have hO3:=qZd HOWN.out hE3;have hE03:=HEWR.out.trans hE3;clear HOWN HEWR hE3;cases rb1
       ·have HPL:Hid (JB++qZB kI (k+1) (qZ9 W P kI)=JP):=Hh (by rw[HPS.out];simp);clear HPS;go_wp2_with fail
        go_roundw
        case rel=>exact⟨k+1,by omega,by go_num,by rw[HPL.out];exact hO3,hE03⟩
        case measure=>simp[intOf];omega
       ·have HPL:Hid (JB++qZB kI (k+1) (qZ9 W P kI)=JP++[⟨kI,0,0,(k:Int)⟩]):=Hh (by rw[HPS.out];simp);clear HPS;have h2:=hO3;have hE2w:=hE03;have hsz:W0.heap.size≤W3.heap.size:=hE2w.size
        go_wp2_with (at_builtin;refine qQp W3 h2 45 underlying45 qXg rfl rfl (by decide) (by decide) rfl (by omega) hsz rfl _ _ rfl rfl rfl ?_)
        intro v' w5 hown5 hchg;obtain⟨OB,ob,rfl⟩:=qQa hown5;have hE5:Ext W0 w5:=Chg.own_ext hE2w hchg h2 (Nat.le_refl _)
        have HO5:Hid (w5.ownsRow W0.heap.size 49 4 (.slice OB _ ob) (JB++qZB kI (k+1) (qZ9 W P kI)).length (qZb (JB++qZB kI (k+1) (qZ9 W P kI)))):=Hh (by
         rw[HPL.out,qXd,List.length_append];exact hown5)
        clear h2 hchg hown5 hsz;go_wp2_with fail
        go_roundw
        case rel=>exact⟨k+1,by omega,by go_num,HO5.out,hE5⟩
        case measure=>simp[intOf];omega
      ·obtain rfl:k=W.vols.length:=by omega
       have hpn:=qZu kI (qZ9 W P kI) W.vols.length;have hll:(JB++qZB kI W.vols.length (qZ9 W P kI)).length≤2000:=by simp only[List.length_append];omega
       generalize JB++qZB kI W.vols.length (qZ9 W P kI)=JP at hown HRJ hll;obtain⟨OA,oc,rfl⟩:=qQa hown;have HOWN:=Hh hown;have HEWR:=Hh hEr;clear hown hEr hpn hlt hk
       by_cases k4:kI=4
       ·have t4:(kI == 4)=true:=by simpa using k4
        have t7:(kI == 7)=false:=by rw[k4];rfl
        have HJ:Hid (qZw W P (kd+1)=JP++qZD W P.L):=Hh (by rw[HRJ.out,if_pos k4,if_neg (by rw[k4];decide)];simp);clear HRJ;have HXR:=Hh ((HA.out wr HEWR.out).range);have HBR:=Hh ((HB.out wr HEWR.out).range);have HC:=Hh (HFR.out wr (HE0.out.trans HEWR.out))
        go_wp2_with (first|(refine qQm rfl 35 _ rfl xb 0 rfl _ _ HXR.out underlying35 rfl HI37.out ?_)|(refine qQm rfl 40 _ rfl (xb+1) 0 rfl _ _ HBR.out underlying40 rfl HI9.out ?_))
        refine HC.out.mono ?_;rintro e W5 ⟨fv,rfl,hf,hE5,hnn⟩;obtain⟨fA,fm,fc,rfl⟩:=hnn
        obtain rfl:fm=(qZD W P.L).length:=by
         obtain⟨_,_,he⟩:=qQa hf;simp only[Value.slice.injEq]at he;exact he.2.1
        have h2:=qZd HOWN.out hE5;have hE05:=HEWR.out.trans hE5;have hnw:=own_news hf;have hll:(qZD W P.L).length≤40:=Nat.le_trans (jFree_len W P.L) hlen40;clear HC HXR HBR hf
        go_wp2_with (at_builtin;refine wpList_append_own _ rfl _ _ 45 rfl W0.heap.size 49 i0 (.agg #[.int .i64 0,.int .u64 0,.int .i64 0,.int .i64 0]) 4 32 underlying45 hi0 hz0 hz1 hz2 rfl (by decide) _ _ _ rfl h2 fA (qZD W P.L).length fc (qZb (qZD W P.L)) rfl (jobsV_len _) hnw (jobsV_one _) ?c3 ?c4 ?c5 ?_)
        case c3=>unfold maxLen;omega
        case c4=>omega
        case c5=>exact hE05.size
        intro v1 w6 hown6 hgrow6 _;obtain⟨OB,ob,rfl⟩:=qQa hown6;have hE6:Ext W0 w6:=Chg.own_ext hE05 (Chg.of_grown hgrow6) h2 (Nat.le_refl _)
        have HO6:Hid (w6.ownsRow W0.heap.size 49 4 (.slice OB (JP.length+(qZD W P.L).length) ob) (JP++qZD W P.L).length (qZb (JP++qZD W P.L))):=Hh (by
         rw[jobsV_app,List.length_append];exact hown6)
        clear h2 hgrow6 hown6 hnw hll;go_wp2_with fail
        go_roundw
        case rel=>exact⟨kd+1,by omega,by have:=HKI.out;congr 1;omega,by rw[HJ.out];exact HO6.out,hE6⟩
        case measure=>have:=HKI.out;simp[intOf];omega
       ·have t4:(kI == 4)=false:=by simpa using k4
        by_cases k7:kI=7
        ·have t7:(kI == 7)=true:=by simpa using k7
         have HJ:Hid (qZw W P (kd+1)=JP++qQN W P):=Hh (by rw[HRJ.out,if_neg k4,if_pos k7];simp);clear HRJ;have HXR:=Hh ((HA.out wr HEWR.out).range);have HBR:=Hh ((HB.out wr HEWR.out).range);have HC:=Hh (HRT.out wr (HE0.out.trans HEWR.out))
         go_wp2_with (first|(refine qQm rfl 35 _ rfl xb 0 rfl _ _ HXR.out underlying35 rfl HI37.out ?_)|(refine qQm rfl 40 _ rfl (xb+1) 0 rfl _ _ HBR.out underlying40 rfl HI9.out ?_))
         refine HC.out.mono ?_;rintro e W5 ⟨fv,rfl,hf,hE5,hnn⟩;obtain⟨fA,fm,fc,rfl⟩:=hnn
         obtain rfl:fm=(qQN W P).length:=by
          obtain⟨_,_,he⟩:=qQa hf;simp only[Value.slice.injEq]at he;exact he.2.1
         have h2:=qZd HOWN.out hE5;have hE05:=HEWR.out.trans hE5;have hnw:=own_news hf;have hll:(qQN W P).length≤40:=Nat.le_trans (jRetape_len W P) hlen40;clear HC HXR HBR hf
         go_wp2_with (at_builtin;refine wpList_append_own _ rfl _ _ 45 rfl W0.heap.size 49 i0 (.agg #[.int .i64 0,.int .u64 0,.int .i64 0,.int .i64 0]) 4 32 underlying45 hi0 hz0 hz1 hz2 rfl (by decide) _ _ _ rfl h2 fA (qQN W P).length fc (qZb (qQN W P)) rfl (jobsV_len _) hnw (jobsV_one _) ?c3 ?c4 ?c5 ?_)
         case c3=>unfold maxLen;omega
         case c4=>omega
         case c5=>exact hE05.size
         intro v1 w6 hown6 hgrow6 _;obtain⟨OB,ob,rfl⟩:=qQa hown6;have hE6:Ext W0 w6:=Chg.own_ext hE05 (Chg.of_grown hgrow6) h2 (Nat.le_refl _)
         have HO6:Hid (w6.ownsRow W0.heap.size 49 4 (.slice OB (JP.length+(qQN W P).length) ob) (JP++qQN W P).length (qZb (JP++qQN W P))):=Hh (by
          rw[jobsV_app,List.length_append];exact hown6)
         clear h2 hgrow6 hown6 hnw hll;go_wp2_with fail
         go_roundw
         case rel=>exact⟨kd+1,by omega,by have:=HKI.out;congr 1;omega,by rw[HJ.out];exact HO6.out,hE6⟩
         case measure=>have:=HKI.out;simp[intOf];omega
        ·have t7:(kI == 7)=false:=by simpa using k7
         have HJ:Hid (qZw W P (kd+1)=JP):=Hh (by rw[HRJ.out,if_neg k4,if_neg k7];simp);clear HRJ;go_wp2_with fail
         go_roundw
         case rel=>exact⟨kd+1,by omega,by have:=HKI.out;congr 1;omega,by rw[HJ.out];exact HOWN.out,HEWR.out⟩
         case measure=>have:=HKI.out;simp[intOf];omega
  ·obtain rfl:kd=9:=by omega
   rw[show(((9:Nat):Int)+1)=10 from rfl];go_wp2_with fail
   go_ret
   exact⟨_,rfl,qZN hown hbase,HE0.out.trans hEr⟩
open Go.RowKit Go.Sort
def jobA(j:Jb):Array Value:=#[.int .i64 j.kind,.int .u64 (j.blob:Int),.int .i64 j.pool,.int .i64 j.vol]
theorem pjobA_info{j:Jb} : (prog.info? 50).map (·.size)=some (jobA j).toList.length:=by
 rw[show(jobA j).toList.length=4 from rfl]
 kernel_rfl
theorem rjobA_info{j:Jb} : (prog.info? 49).map (·.size)=some (jobA j).toList.length:=by
 rw[show(jobA j).toList.length=4 from rfl]
 kernel_rfl
theorem jobsV_at:∀(J:List Jb) (k:Nat) (j:Jb) (i:Nat),J[k]? = some j→i<4→(qZb J)[k * 4+i]? = (jobA j).toList[i]?
 | [],k,j,i,h,_=>by simp at h
 | x::J,0,j,i,h,hi=>by
  simp at h;subst h;rw[show qZb (x::J)=x.cells++qZb J from rfl,Nat.zero_mul,Nat.zero_add,List.getElem?_append_left (by simp[Jb.cells];omega)];rfl
 | x::J,k+1,j,i,h,hi=>by
  rw[show qZb (x::J)=x.cells++qZb J from rfl,List.getElem?_append_right (by simp[Jb.cells];omega)];rw[show(k+1) * 4+i - x.cells.length=k * 4+i by simp[Jb.cells];omega];exact jobsV_at J k j i (by simpa using h) hi
theorem job_range{w:World}{base:Nat}{e:TypeId}{A:Option Addr}{n c:Nat}{J:List Jb}(h:w.ownsRow base e 4 (.slice A n c) J.length (qZb J)){k:Nat}{j:Jb}(hj:J[k]? = some j):∃g,A=some ⟨g,0,none⟩∧w.rangeAt g (k * 4) (jobA j).toList:=by
 have hk:=(List.getElem?_eq_some_iff.1 hj).1;rcases h.2 with⟨_,h0⟩|⟨g,cap,cur,hv,hb,hg,rest⟩
 ·omega
 ·simp only[Value.slice.injEq]at hv;obtain⟨rfl,_,_⟩:=hv;refine⟨g,rfl,fun i v hi=>?_⟩
  have hi4:i<4:=by
   have:=(List.getElem?_eq_some_iff.1 hi).1
   simpa[jobA]using this
  rw[←jobsV_at J k j i hj hi4,←rest.2.2.2,List.getElem?_take]at hi;rw[cell_of_row w g _ cur e (0,0) hg]
  split at hi
  ·simpa using hi
  ·cases hi
theorem jrange_ext{w w':World}{b off:Nat}{xs:List Value}(h:w.rangeAt b off xs)(hE:Ext w w'):w'.rangeAt b off xs:=fun j v hv=>(Ext.cell hE (qQv (h j v hv))).trans (h j v hv)
structure GJ (W5:World) (J:List Jb) (γ : Nat→Value) (L:Nat→Bool) (w:World):Prop where
 ext:Ext W5 w
 a:L 2=true→w.ownsRow W5.heap.size 50 4 (γ 0) J.length (qZb J)
 b:L 5=true→w.ownsRow W5.heap.size 49 4 (γ 1) J.length (qZb J)
 c:L 6=true → γ 2 = γ 0
 d:L 7=true → γ 3 = γ 1
theorem GJ.keep{W5:World}{J:List Jb}{j:Nat}(h2:2≠j)(h5:5≠j)(h6:6≠j)(h7:7≠j):∀γ L w,GJ W5 J γ L w→L j=false→GJ W5 J γ (fun i=>i == j||L i) w:=fun γ L w h _=>by
 have e2:(2 == j)=false:=by simpa using h2
 have e5:(5 == j)=false:=by simpa using h5
 have e6:(6 == j)=false:=by simpa using h6
 have e7:(7 == j)=false:=by simpa using h7
 exact⟨h.ext,by simpa[e2]using h.a,by simpa[e5]using h.b,by simpa[e6]using h.c,by simpa[e7]using h.d⟩
theorem pjobs_any(w:World)(cv dv vv iv ldv lvv:Value)(cmds:List CRow)(dl vl:List Spot)(il:List Int)(ldl lvl:List Bool)(cp kp pc rs:Int)(hC:CmdsIn w cmds cv)(hD:SlnC w dv 2 (dl.map Spot.cells))(hV:SlnC w vv 2 (vl.map Spot.cells))(hI:SlC w iv (il.map (Value.int .i64)))(hLD:SlC w ldv (ldl.map Value.bool))(hLV:SlC w lvv (lvl.map Value.bool)) :
 Calls prog 3 #[cv,.agg #[dv,vv,iv,ldv,lvv,.int .i64 cp,.int .i64 kp,.int .i64 pc,.int .i64 rs]] w fun e w'=>e=.returned (.bool true)∧Ext w w':=by
 have hslc:∀ {ls:List Value} {v:Value} {w2:World},SlC w v ls→Ext w w2→SlC w2 v ls:=fun h hE=>⟨h.1.ext hE,h.2⟩
 have hYb:=At.new w 27 #[dv,vv,iv,ldv,lvv,.int .i64 cp,.int .i64 kp,.int .i64 pc,.int .i64 rs];have hE0:=(Er w).alloc (.cells #[dv,vv,iv,ldv,lvv,.int .i64 cp,.int .i64 kp,.int .i64 pc,.int .i64 rs] 27);have HCM:=Hh (fun w2 (hE:Ext w w2)=>hC.ext hE);have HLW:=Hh (fun w2 (hE:Ext w w2)=>lw_any w2 dv vv iv ldv lvv dl vl il ldl lvl cp kp pc rs ⟨hD.1.ext hE,hD.2⟩ ⟨hV.1.ext hE,hV.2⟩ (hslc hI hE) (hslc hLD hE) (hslc hLV hE));have HOK:=Hh (wdOf_ok dl vl il ldl lvl cp kp pc rs);generalize wdOf dl vl il ldl lvl cp kp pc rs=W at HLW HOK;clear hC hD hV hI hLD hLV hslc
 go_enter func3,ntmps3
 go_upto_region 1 with fail
 generalize w.heap.size=yb at hYb⊢;generalize w.alloc (.cells #[dv,vv,iv,ldv,lvv,.int .i64 cp,.int .i64 kp,.int .i64 pc,.int .i64 rs] 27)=W0 at hYb hE0⊢;have HYB:=Hh (fun w2 (hE:Ext W0 w2)=>(hYb.ext hE).range);clear hYb;have HAW:=Hh (awake17_any W0);go_wp2_with fail
 refine HAW.out.mono ?_;rintro e W1 ⟨rfl,hE1⟩;have hE01:=hE0.trans hE1;have HGR:=Hh (grow_any W1 cmds cv (HCM.out W1 hE01));clear HAW;go_wp2_with fail
 refine HGR.out.mono ?_;rintro e W2 ⟨B,c,mb,mn,X,P,rfl,hBw,hCt,hRf,h37,hXo,hPI,hE2⟩;have hE02:=hE01.trans hE2;have hY02:=hE1.trans hE2;have HX37:=Hh h37;have HXO:=Hh hXo;have HI1:Hid ((prog.info? 35).map (·.size)=some X.toList.length):=Hh (by rw[Array.length_toList,h37];exact qQg);have hX0:=At.new W2 35 zZC;have hEx:=(Er W2).alloc (.cells zZC 35);have HT0:=Hh hX0.there;clear HGR HCM hE0 hE1 hE01 hE2 hBw
 go_upto_region 6 with(refine wpList_store_mid rfl 35 _ _ rfl W2.heap.size 0 X rfl rfl (by rw[HX37.out];exact HT0.out) (by rw[HX37.out];exact qQg) HXO.out ?_)
 have hX1:=At.cells_all (cs:=X) hX0 (by rw[HX37.out];rfl);have hE3:Ext W2 ((W2.alloc (.cells zZC 35)).setCells W2.heap.size 0 X.toList):=hEx.setCells (Nat.le_refl _) _ _;generalize W2.heap.size=x6 at hX1 hE3⊢;generalize (W2.alloc (.cells zZC 35)).setCells x6 0 X.toList=W3 at hX1 hE3⊢;have hE03:=hE02.trans hE3;have HYR:=Hh (HYB.out W3 (hY02.trans hE3));have HL3:=Hh (HLW.out W3 hE03);have hCt3:=hCt.ext hE3;have hRf3:=hRf.ext hE3;have HI9:Hid ((prog.info? 27).map (·.size)=some (#[dv,vv,iv,ldv,lvv,.int .i64 cp,.int .i64 kp,.int .i64 pc,.int .i64 rs]:Array Value).toList.length):=Hh qXI;clear hCt hRf hX0 hEx HT0 h37 hXo hE02 hE3 hY02 HYB HLW
 go_wp2_with (refine wpList_load_mid rfl 27 _ rfl yb 0 rfl _ _ HYR.out underlying27 rfl HI9.out ?_)
 refine HL3.out.mono ?_;rintro e W4 ⟨V,V2,rfl,hw1,hw2,hE4⟩;have hE04:=hE03.trans hE4;have hs1:=hw1.sl;have hs2:=hw2.sl;have HC1:Hid ((qQo W V).all (·.oneCell')=true∧(qQo W V2).all (·.oneCell')=true):=Hh ⟨qXo hs1,qXo hs2⟩;have HS9:Hid ((qQo W V).size=9∧(qQo W V2).size=9):=Hh ⟨rfl,rfl⟩;have HC4:=Hh (And.intro (hCt3.ext hE4) (And.intro (hRf3.ext hE4) (hX1.ext hE4)));have HW4:=Hh (And.intro hw1 hw2);have HSL:=Hh (And.intro hs1 hs2);obtain⟨C1,hC1⟩:∃C,C=qQo W V:=⟨_,rfl⟩;obtain⟨C2,hC2⟩:∃C,C=qQo W V2:=⟨_,rfl⟩;rw[←hC1,←hC2]at HC1 HS9;have HCE:=Hh (And.intro hC1 hC2);rw[←hC1,←hC2];clear hs1 hs2 hw1 hw2 hE4 hE03 hX1 hCt3 hRf3 HL3 HYR hC1 hC2;have hA0:=(At.new W4 27 #[.slice none 0 0,.slice none 0 0,.slice none 0 0,.slice none 0 0,.slice none 0 0,.int .i64 0,.int .i64 0,.int .i64 0,.int .i64 0]).alloc (.cells #[.slice none 0 0,.slice none 0 0,.slice none 0 0,.slice none 0 0,.slice none 0 0,.int .i64 0,.int .i64 0,.int .i64 0,.int .i64 0] 40);have hB0:=At.new (W4.alloc (.cells #[.slice none 0 0,.slice none 0 0,.slice none 0 0,.slice none 0 0,.slice none 0 0,.int .i64 0,.int .i64 0,.int .i64 0,.int .i64 0] 27)) 40 #[.slice none 0 0,.slice none 0 0,.slice none 0 0,.slice none 0 0,.slice none 0 0,.int .i64 0,.int .i64 0,.int .i64 0,.int .i64 0];have hs4:(W4.alloc (.cells #[.slice none 0 0,.slice none 0 0,.slice none 0 0,.slice none 0 0,.slice none 0 0,.int .i64 0,.int .i64 0,.int .i64 0,.int .i64 0] 27)).heap.size=W4.heap.size+1:=by simp
 rw[hs4]at hB0;have hE5:=((Er W4).alloc (.cells #[.slice none 0 0,.slice none 0 0,.slice none 0 0,.slice none 0 0,.slice none 0 0,.int .i64 0,.int .i64 0,.int .i64 0,.int .i64 0] 27)).alloc (.cells #[.slice none 0 0,.slice none 0 0,.slice none 0 0,.slice none 0 0,.slice none 0 0,.int .i64 0,.int .i64 0,.int .i64 0,.int .i64 0] 40);have HTA:=Hh hA0.there;have hB1:At (((W4.alloc (.cells #[.slice none 0 0,.slice none 0 0,.slice none 0 0,.slice none 0 0,.slice none 0 0,.int .i64 0,.int .i64 0,.int .i64 0,.int .i64 0] 27)).alloc (.cells #[.slice none 0 0,.slice none 0 0,.slice none 0 0,.slice none 0 0,.slice none 0 0,.int .i64 0,.int .i64 0,.int .i64 0,.int .i64 0] 40)).setCells W4.heap.size 0 C1.toList) (W4.heap.size+1) 40 #[.slice none 0 0,.slice none 0 0,.slice none 0 0,.slice none 0 0,.slice none 0 0,.int .i64 0,.int .i64 0,.int .i64 0,.int .i64 0]:=hB0.chg (qQq (b:=W4.heap.size) C1.toList 0) (by show ¬ W4.heap.size+1=W4.heap.size;omega);have HTB:=Hh hB1.there
 go_upto_region 7 with(first|(refine wpList_store_mid rfl 27 _ _ rfl W4.heap.size 0 C1 rfl rfl (by rw[HS9.out.1];exact HTA.out) (by rw[HS9.out.1];exact qXI) HC1.out.1 ?_)|(refine wpList_store_mid rfl 40 _ _ rfl (W4.heap.size+1) 0 C2 rfl rfl (by rw[HS9.out.2];exact HTB.out) (by rw[HS9.out.2];exact qZZ) HC1.out.2 ?_))
 have hA1:=(hA0.cells_all (cs:=C1) (by rw[HS9.out.1];rfl)).chg (qQq (b:=W4.heap.size+1) C2.toList 0) (by show ¬ W4.heap.size=W4.heap.size+1;omega);have hB2:=hB1.cells_all (cs:=C2) (by rw[HS9.out.2];rfl);have hE6:=(hE5.setCells (b:=W4.heap.size) (Nat.le_refl _) C1.toList 0).setCells (b:=W4.heap.size+1) (by omega) C2.toList 0;have HK4:=Hh (And.intro HC4.out.1 (And.intro HW4.out.1 (And.intro hE6 hE04)));generalize hx8:W4.heap.size=x8 at hA1 hB2 hE6 HK4⊢;generalize ((((W4.alloc (.cells #[.slice none 0 0,.slice none 0 0,.slice none 0 0,.slice none 0 0,.slice none 0 0,.int .i64 0,.int .i64 0,.int .i64 0,.int .i64 0] 27)).alloc (.cells #[.slice none 0 0,.slice none 0 0,.slice none 0 0,.slice none 0 0,.slice none 0 0,.int .i64 0,.int .i64 0,.int .i64 0,.int .i64 0] 40)).setCells x8 0 C1.toList).setCells (x8+1) 0 C2.toList)=W5 at hA1 hB2 hE6 HK4⊢;have HX8E:=Hh hx8;have hE05:=hE04.trans hE6;have HC5:=Hh (And.intro (HC4.out.1.ext hE6) (And.intro (HC4.out.2.1.ext hE6) (HC4.out.2.2.ext hE6)));have HW5:=Hh (And.intro (HW4.out.1.ext hE6) (HW4.out.2.ext hE6));have HAB:=Hh (And.intro hA1 hB2);have hx8w:w.heap.size≤x8:=by have:=hE04.size;omega
 clear hA0 hB0 hs4 hE5 HTA hB1 HTB hA1 hB2 hE6 hx8 HC4 HW4 hE04 HI9;have HIA:Hid ((prog.info? 27).map (·.size)=some C1.toList.length):=Hh (by rw[Array.length_toList,HS9.out.1];exact qXI);have HIB:Hid ((prog.info? 40).map (·.size)=some C2.toList.length):=Hh (by rw[Array.length_toList,HS9.out.2];exact qZZ)
 have HJB:=Hh (fun(w1:World) (hx:Ext W5 w1)=>by
  have hjb:=jobs_any w1 B c mb mn W V P 25 (HW5.out.1.ext hx) HOK.out (HC5.out.1.ext hx) hPI (by decide);rw[←HCE.out.1]at hjb;exact hjb)
 have HRJ:=Hh (fun(w1:World) (hx:Ext W5 w1)=>by
  have hjb:=r17jobs_any w1 X W V2 P 25 (HC5.out.2.1.ext hx) HX37.out hPI (by decide) (HW5.out.2.ext hx) HOK.out;rw[←HCE.out.2,refKind_eq HOK.out hPI]at hjb;exact hjb)
 refine qQx (Γ := Nat→Value) (sgφ [.val (.pointer (some ⟨c,0,none⟩)),.val (.agg C1),.g 0,.val (.agg X),.val (.agg C2),.g 1,.g 2,.g 3]) (GJ W5 (qZg W P)) (by kernel_rfl) (by kernel_rfl) (by kernel_rfl) (fun _=>undef) ?inv ?steps ?fin
 case inv=>exact⟨(Er W5).drew,fun h=>(by cases h),fun h=>(by cases h),fun h=>(by cases h),fun h=>(by cases h)⟩
 case steps =>
  show qQ2 _ _ _ _ _ _ 8
  refine⟨⟨⟨⟨⟨⟨⟨⟨trivial,?s0⟩,?s1⟩,?s2⟩,?s3⟩,?s4⟩,?s5⟩,?s6⟩,?s7⟩
  case s0 =>
   refine qQh (x:=.pointer (some ⟨c,0,none⟩)) rfl rfl rfl (GJ.keep (j:=0) (by decide) (by decide) (by decide) (by decide)) fun γ L v a w1 st=>?_
   have e5:=st.far 5 (by kernel_rfl);simp at e5;go_simp
  case s1 =>
   refine qQh (x:=.agg C1) rfl rfl rfl (GJ.keep (j:=1) (by decide) (by decide) (by decide) (by decide)) fun γ L v a w1 st=>?_
   have e8:=st.far 8 (by kernel_rfl);simp at e8;have hr:=(HAB.out.1.ext st.inv.ext).range;exact qQi rfl (b:=x8) (off:=0) (by simp[Act.eval,e8];rfl) hr underlying27 rfl HIA.out
  case s2 =>
   refine qZW (k:=0) (f:=9) rfl rfl rfl rfl fun γ L v a' w1 st=>?_
   have e28:=st.val 0 28 rfl (by kernel_rfl);rw[(st.φ 0 (by kernel_rfl):v 0=_)]at e28;simp at e28;have e29:=st.val 1 29 rfl (by kernel_rfl);rw[(st.φ 1 (by kernel_rfl):v 1=_)]at e29;simp at e29;refine⟨#[.pointer (some ⟨c,0,none⟩),.agg C1],by go_simp,?_⟩
   refine(HJB.out w1 st.inv.ext).mono ?_
   rintro r w' ⟨x,rfl,hown,hx⟩;refine⟨x,rfl,⟨st.inv.ext.trans hx,fun _=>by simpa[upd]using qZN hown st.inv.ext.size,fun h5=>by simpa[upd]using qZd (st.inv.b h5) hx,(fun h=>by have q1:=st.down 6 2 h (by kernel_rfl);have q3:=st.off;rw[q1]at q3;cases q3),fun h=>by simpa[upd]using st.inv.d h⟩⟩
  case s3 =>
   refine qQh (x:=.agg X) rfl rfl rfl (GJ.keep (j:=3) (by decide) (by decide) (by decide) (by decide)) fun γ L v a w1 st=>?_
   have e6:=st.far 6 (by kernel_rfl);simp at e6;have hr:=(HC5.out.2.2.ext st.inv.ext).range;exact qQi rfl (b:=x6) (off:=0) (by simp[Act.eval,e6];rfl) hr underlying35 rfl HI1.out
  case s4 =>
   refine qQh (x:=.agg C2) rfl rfl rfl (GJ.keep (j:=4) (by decide) (by decide) (by decide) (by decide)) fun γ L v a w1 st=>?_
   have e9:=st.far 9 (by kernel_rfl);simp at e9;have hr:=(HAB.out.2.ext st.inv.ext).range;exact qQi rfl (b:=(x8+1)) (off:=0) (by simp[Act.eval,e9];rfl) hr underlying40 rfl HIB.out
  case s5 =>
   refine qZW (k:=1) (f:=10) rfl rfl rfl rfl fun γ L v a' w1 st=>?_
   have e31:=st.val 3 31 rfl (by kernel_rfl);rw[(st.φ 3 (by kernel_rfl):v 3=_)]at e31;simp at e31;have e32:=st.val 4 32 rfl (by kernel_rfl);rw[(st.φ 4 (by kernel_rfl):v 4=_)]at e32;simp at e32;refine⟨#[.agg X,.agg C2],by go_simp,?_⟩
   refine(HRJ.out w1 st.inv.ext).mono ?_
   rintro r w' ⟨x,rfl,hown,hx⟩;refine⟨x,rfl,⟨st.inv.ext.trans hx,fun h2=>by simpa[upd]using qZd (st.inv.a h2) hx,fun _=>by simpa[upd]using qZN hown st.inv.ext.size,fun h=>by simpa[upd]using st.inv.c h,(fun h=>by have q1:=st.down 7 5 h (by kernel_rfl);have q3:=st.off;rw[q1]at q3;cases q3)⟩⟩
  case s6 =>
   refine qZq (k:=2) rfl rfl rfl rfl fun γ L v a' w1 st=>?_
   have e30:=st.val 2 30 rfl (by kernel_rfl);rw[show v 2 = γ 0 from st.φ 2 (by kernel_rfl)]at e30;simp at e30;refine⟨γ 0,w1,by go_simp,⟨st.inv.ext,fun h2=>by simpa[upd]using st.inv.a h2,fun h5=>by simpa[upd]using st.inv.b h5,fun _=>by simp[upd],fun h=>by simpa[upd]using st.inv.d h⟩⟩
  case s7 =>
   refine qZq (k:=3) rfl rfl rfl rfl fun γ L v a' w1 st=>?_
   have e33:=st.val 5 33 rfl (by kernel_rfl);rw[show v 5 = γ 1 from st.φ 5 (by kernel_rfl)]at e33;simp at e33;refine⟨γ 1,w1,by go_simp,⟨st.inv.ext,fun h2=>by simpa[upd]using st.inv.a h2,fun h5=>by simpa[upd]using st.inv.b h5,fun h=>by simpa[upd]using st.inv.c h,fun _=>by simp[upd]⟩⟩
 case fin =>
  intro γ L v wz hall hG hφ;have hoa:=hG.a (hall 2 (by decide));have hob:=hG.b (hall 5 (by decide));have h6:v 6 = γ 0:=(show v 6 = γ 2 from hφ 6 (by decide)).trans (hG.c (hall 6 (by decide)));have h7:v 7 = γ 1:=(show v 7 = γ 3 from hφ 7 (by decide)).trans (hG.d (hall 7 (by decide)));have hEz:=hG.ext;clear hφ hall hG
  change Exit.then _ _ _ (qQM _ v _ 8) wz
  simp only[qQM,qQH,Act.put];simp only[List.getElem?_toArray,List.getElem?_cons_zero,List.getElem?_cons_succ,Option.bind_some,List.setIfInBounds_toArray,List.set_cons_zero,List.set_cons_succ];rw[h6,h7];clear h6 h7;generalize γ 0=va at hoa⊢;generalize γ 1=vb at hob⊢;obtain⟨aA,ac,rfl⟩:=qQa hoa;obtain⟨bA,bc,rfl⟩:=qQa hob;have hJL:=planJobs_len25 (W:=W) hPI HOK.out;generalize qZg W P=J at hoa hob hJL⊢;clear HJB HRJ HIA HIB HAB HC5 HW5;have HEW:=Hh (hE05.trans hEz);have HOA:=Hh (fun w2 (hx:Ext wz w2)=>qZd hoa hx);have HOB:=Hh (fun w2 (hx:Ext wz w2)=>qZd hob hx);clear hoa hob hEz;go_wp2_with fail
  go_loopw [41] (fun iv wr=>∃k:Nat,k≤J.length∧iv=.int .i64 (k:Int)∧Ext wz wr) (fun iv _=>J.length - (intOf iv).toNat)
  case atStart=>exact⟨0,Nat.zero_le _,rfl,Er _⟩
  case round =>
   obtain⟨k,hk,rfl,hEr⟩:=hrel
   by_cases hlt:k<J.length
   ·obtain⟨j,hj⟩:∃j,J[k]? = some j:=⟨_,List.getElem?_eq_getElem hlt⟩;obtain⟨ab,rfl,ha⟩:=job_range (HOA.out wr hEr) hj;obtain⟨bb,rfl,hb⟩:=job_range (HOB.out wr hEr) hj;have c1:Hid (∀W,(∃p:Regrown,W=grow (redrawn wr p.d) p.os)→W.rangeAt ab (k * 4) (jobA j).toList):=Hh (by rintro W ⟨p,rfl⟩;exact jrange_ext ha (qQn wr _ _));have c2:Hid (∀W,(∃p:Regrown,W=grow (redrawn wr p.d) p.os)→W.rangeAt bb (k * 4) (jobA j).toList):=Hh (by rintro W ⟨p,rfl⟩;exact jrange_ext hb (qQn wr _ _));have HEr:=Hh hEr;clear ha hb hj hEr
    go_upto_region 13 with fail
    refine qQc (by kernel_rfl) (by kernel_rfl) ?_
    repeat (first|go_big_quiet_skip|(go_big_quiet_want;first|(refine qQ0 rfl rfl c1.out underlying50 rfl pjobA_info ?_;go_big_quiet_on;simp only[Act.put,List.setIfInBounds_toArray,List.set_cons_succ,List.set_cons_zero])|(refine qQ0 rfl rfl c2.out underlying49 rfl rjobA_info ?_;go_big_quiet_on;simp only[Act.put,List.setIfInBounds_toArray,List.set_cons_succ,List.set_cons_zero])|(go_big_quiet_op;first|go_big_quiet_on|(unfold jobA;go_simp;go_big_quiet_on))))
    refine wpQuiet_nil ?_;intro W8 hE8;clear c1 c2;go_wp2_with fail
    go_roundw
    case rel=>exact⟨k+1,by omega,by go_num,HEr.out.trans hE8⟩
    case measure=>simp[intOf];omega
   ·obtain rfl:k=J.length:=by omega
    go_wp2_with fail
    go_ret
    exact⟨rfl,HEW.out.trans hEr⟩
end Go.Proofs.YtiojjokfeknhcaaGreat
