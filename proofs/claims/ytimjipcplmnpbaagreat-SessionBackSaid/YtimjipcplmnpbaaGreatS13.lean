/-
  Part 13 of what the law leans on.
-/
import Derived.Test.YtimjipcplmnpbaaGreatS10
namespace Go.Proofs.YtimjipcplmnpbaaGreat
set_option maxRecDepth 100000
set_option maxHeartbeats 8000000
set_option linter.unusedVariables false
set_option linter.unusedSimpArgs false
set_option linter.unusedSectionVars false
open _root_.Go.Proofs.Tryz
open Go.RowKit Go.Sort
theorem blob13_any(w:World)(b:Bl)(A:Option Addr)(n m:Nat):Calls prog 96 #[.agg (blCells b (.slice A n m))] w fun e w'=>e=.returned (.agg (blCells b (.slice A n m)))∧Ext w w':=by
 go_enter func96,ntmps96
 go_wp2_with fail
 exact bodyPost_ret (v:=.agg (blCells b (.slice A n m))) (by simp[results,results96,go_sem,blCells]) rfl ⟨rfl,((Er w).alloc _).alloc _⟩
theorem same13_any(w:World)(b:Bl)(v1 v2:Value)(h1:w.ownsRow 0 3 1 v1 b.disks.length (b.disks.map (Value.int .i64)))(h2:w.ownsRow 0 3 1 v2 b.disks.length (b.disks.map (Value.int .i64)))(hl:b.disks.length≤1000000000000) :
 Calls prog 95 #[.agg (blCells b v1),.agg (blCells b v2)] w fun e w'=>e=.returned (.bool true)∧Ext w w':=by
 obtain⟨A,c,rfl⟩:=qQc h1;obtain⟨B,d,rfl⟩:=qQc h2;have HS:=Hh (qX1 h1);have HT:=Hh (qX1 h2);clear h1 h2
 go_enter func95,ntmps95
 have hB:=(At.new w 173 (blCells b (.slice A b.disks.length c))).alloc (.cells (blCells b (.slice B b.disks.length d)) 173);have hD:=At.new (w.alloc (.cells (blCells b (.slice A b.disks.length c)) 173)) 173 (blCells b (.slice B b.disks.length d));have hE:=((Er w).alloc (.cells (blCells b (.slice A b.disks.length c)) 173)).alloc (.cells (blCells b (.slice B b.disks.length d)) 173);rw[show(w.alloc (.cells (blCells b (.slice A b.disks.length c)) 173)).heap.size=w.heap.size+1 by simp]at hD
 go_upto_region 1 with fail
 generalize hxb:w.heap.size=xb at hB hD⊢;generalize World.alloc _ _=W at hB hD hE⊢;clear hxb;have b4:=hB.cell 4;have d4:=hD.cell 4;simp[blCells]at b4 d4;go_wp2_with fail
 clear b4 d4
 go_loopw [16] (fun iv wr=>∃k:Nat,k≤b.disks.length∧iv=.int .i64 (k:Int)∧Ext W wr) (fun iv _=>b.disks.length - (intOf iv).toNat)
 case atStart=>exact⟨0,by omega,rfl,Er _⟩
 case round =>
  obtain⟨k,hk,rfl,hEk⟩:=hrel
  by_cases hlt:k<b.disks.length
  ·obtain⟨s,hs⟩:∃s,b.disks[k]? = some s:=⟨_,List.getElem?_eq_getElem hlt⟩;obtain⟨A',c',ha,hc⟩:=HS.out.ext (hE.trans hEk);obtain⟨B',d',hb,hd⟩:=HT.out.ext (hE.trans hEk);have hne:b.disks.map (Value.int .i64)≠[]:=fun e=>by rw[List.map_eq_nil_iff.1 e]at hlt;simp at hlt
   obtain⟨g,o,rfl,hcc⟩:=hc hne;obtain⟨g2,o2,rfl,hdd⟩:=hd hne;injection ha with ha q1 q2;injection hb with hb q3 q4;clear q1 q2 q3 q4;subst ha hb;have c1:=hcc k (.int .i64 s) (by rw[List.getElem?_map,hs];rfl);have d1:=hdd k (.int .i64 s) (by rw[List.getElem?_map,hs];rfl);have b4:=(hB.ext hEk).cell 4;have d4:=(hD.ext hEk).cell 4;simp[blCells]at b4 d4;clear hc hd hcc hdd hs hne;have rg:∀ {p:Addr} {u:Value},wr.cell? p=some u→∀d os,(grow (redrawn wr d) os).cell? p=some u:=fun h d os=>(Ext.cell (qZi wr d os) (qZl h)).trans h
   have r1:=rg c1;have r2:=rg d1;have r3:=rg b4;have r4:=rg d4;clear rg;go_wp2_with fail
   refine qQ3 (by kernel_rfl) (by kernel_rfl) ?_
   repeat (go_big_quiet_step (fail))
   refine wpQuiet_nil ?_;intro W8 hE8;go_wp2_with fail
   exact⟨⟨k+1,by omega,by simp,hEk.trans hE8⟩,by simp only[intOf,Int.toNat_natCast];omega⟩
  ·obtain rfl:k=b.disks.length:=by omega
   have hBk:=hB.ext hEk;have hDk:=hD.ext hEk;have b0:=hBk.cell 0;have b1:=hBk.cell 1;have b2:=hBk.cell 2;have b3:=hBk.cell 3;have b5:=hBk.cell 5;have b6:=hBk.cell 6;have b7:=hBk.cell 7;have b8:=hBk.cell 8;have b9:=hBk.cell 9;have b10:=hBk.cell 10;have b11:=hBk.cell 11;have b12:=hBk.cell 12;have d0:=hDk.cell 0;have d1:=hDk.cell 1;have d2:=hDk.cell 2;have d3:=hDk.cell 3;have d5:=hDk.cell 5;have d6:=hDk.cell 6;have d7:=hDk.cell 7;have d8:=hDk.cell 8;have d9:=hDk.cell 9;have d10:=hDk.cell 10;have d11:=hDk.cell 11;have d12:=hDk.cell 12;simp[blCells]at b0 b1 b2 b3 b5 b6 b7 b8 b9 b10 b11 b12 d0 d1 d2 d3 d5 d6 d7 d8 d9 d10 d11 d12;clear hB hD hBk hDk;go_wp2_with fail
   go_ret
   exact⟨rfl,hE.trans hEk⟩
open Go.RowKit Go.Sort
theorem cb_info:(prog.info? 108).map (·.size)=some 13:=by kernel_rfl
theorem cnamed_some{w:World}{B:Nat→Prop}{c mb mn n:Nat}{P:Pm}(h:qZz w B c mb mn P)(hi:PInv n P)(m:ByteArray){b:Bl}(hm:P.named m=some b) :
 Calls prog 93 #[.pointer (some ⟨c,0,none⟩),.string m] w fun e w'=>∃A cp,e=.returned (.tuple #[.agg (blCells b (.slice A b.disks.length cp)),.bool true])∧Ext w w':=by
 have HCT:=Hh h;obtain⟨C,hC0,hR0⟩:=h;have hn:=hR0.named hC0 hi m;rw[hm]at hn;have hfb:P.find b.id=some b:=(qZr hi.asc).2 ⟨((qX4 hi).1 hm).1,rfl⟩
 go_enter func93,ntmps93
 have hR:=At.new w 108 blZero;have hE:=(Er w).alloc (.cells blZero 108)
 go_upto_region 1 with fail
 obtain⟨xb,hxb⟩:∃xb,w.heap.size=xb:=⟨_,rfl⟩;rw[hxb]at hR⊢;generalize w.alloc _=W at hR hE⊢;have HXB:=Hh (show w.heap.size≤xb by omega);clear hxb;have hC:=hC0.ext hE;obtain⟨c0,c1⟩:=hC.c0;have hlk:=hC.lookName m;rw[hn]at hlk;simp at hlk;have HB:=Hh (cblob_some (HCT.out.ext hE) hi b.id hfb);clear hC hC0 hR0 hn hm hfb hi HCT;go_wp2_with fail
 refine HB.out.mono ?_;rintro e w2 ⟨A,cp,rfl,_,hE2⟩;have hR2:=hR.ext hE2;have HT:=Hh hR2.there;have hrg:=World.rangeAt_setCells_same w2 xb 0 (blCells b (.slice A b.disks.length cp)).toList (by rw[Array.length_toList];exact HT.out);have hl:(loadVar 108 ⟨xb,0,none⟩).run prog (w2.setCells xb 0 (blCells b (.slice A b.disks.length cp)).toList)=.ok (.agg (blCells b (.slice A b.disks.length cp))) (w2.setCells xb 0 (blCells b (.slice A b.disks.length cp)).toList):=run_loadVar_mid (P:=prog) _ xb 0 108 (blCells b (.slice A b.disks.length cp)).toList _ hrg underlying108 rfl cb_info;have HL:=Hh hl;have HEF:=Hh ((hE.trans hE2).setCells HXB.out (blCells b (.slice A b.disks.length cp)).toList 0);clear HB hlk c0 c1 hR hE hE2 hR2 hrg hl
 go_wp2_with (refine wpList_store_mid rfl 108 _ _ rfl xb 0 (blCells b (.slice A b.disks.length cp)) rfl rfl HT.out cb_info (qQQ b A _ cp) ?_)
 refine bodyPost_ret (v:=.tuple #[.agg (blCells b (.slice A b.disks.length cp)),.bool true]) (qQA results93 _ rfl HL.out) rfl ?_;exact⟨A,cp,rfl,HEF.out⟩
theorem vl_idxR{V:List Vl}(h:V.length=12)(j:Nat)(hj:j<12):∃x:Vl,V[j]? = some x∧∀w,(Instr.index 57 (vlArr V) (.int .i64 (j:Int))).run prog w=.ok (.agg #[.bool x.closed,.bool x.erase,.int .i64 x.gen]) w:=by
 obtain⟨a0,a1,a2,a3,a4,a5,a6,a7,a8,a9,a10,a11,rfl⟩:=twelve h;have h2:j=0∨j=1∨j=2∨j=3∨j=4∨j=5∨j=6∨j=7∨j=8∨j=9∨j=10∨j=11:=by omega
 rcases h2 with rfl|rfl|rfl|rfl|rfl|rfl|rfl|rfl|rfl|rfl|rfl|rfl
 ·exact⟨a0,rfl,fun _=>by kernel_rfl⟩
 ·exact⟨a1,rfl,fun _=>by kernel_rfl⟩
 ·exact⟨a2,rfl,fun _=>by kernel_rfl⟩
 ·exact⟨a3,rfl,fun _=>by kernel_rfl⟩
 ·exact⟨a4,rfl,fun _=>by kernel_rfl⟩
 ·exact⟨a5,rfl,fun _=>by kernel_rfl⟩
 ·exact⟨a6,rfl,fun _=>by kernel_rfl⟩
 ·exact⟨a7,rfl,fun _=>by kernel_rfl⟩
 ·exact⟨a8,rfl,fun _=>by kernel_rfl⟩
 ·exact⟨a9,rfl,fun _=>by kernel_rfl⟩
 ·exact⟨a10,rfl,fun _=>by kernel_rfl⟩
 ·exact⟨a11,rfl,fun _=>by kernel_rfl⟩
theorem vl_info12{V:List Vl}(h:V.length=12):(prog.info? 57).map (·.size)=some ((V.map qQY).flatten).length:=by
 obtain⟨a0,a1,a2,a3,a4,a5,a6,a7,a8,a9,a10,a11,e⟩:=twelve h;rw[e]
 kernel_rfl
theorem rf_vrange{w:World}{g:Nat}{lv:Value}{V:List Vl}(h:At w g 59 (qQj lv V)):w.rangeAt g 1 ((V.map qQY).flatten):=fun j v hv=>by
 have:=h.cell (1+j)
 rw[this];unfold qQj;rw[List.getElem?_toArray,show 1+j=j+1 by omega,List.getElem?_cons_succ];exact hv
theorem qJo(W:World)(b:Bl)(A:Option Addr)(n m:Nat)(dd:Nat)(os:Array Obj):Calls prog 96 #[.agg (blCells b (.slice A n m))] (grow (redrawn W dd) os) fun e w''=>e=.returned (.agg (blCells b (.slice A n m)))∧∃p:Regrown,w''=grow (redrawn W p.d) p.os :=
 Calls.ext_of (blob13_any _ b A n m)
theorem qJp(W:World)(b:Bl)(v1 v2:Value)(h1:W.ownsRow 0 3 1 v1 b.disks.length (b.disks.map (Value.int .i64)))(h2:W.ownsRow 0 3 1 v2 b.disks.length (b.disks.map (Value.int .i64)))(hl:b.disks.length≤1000000000000)(dd:Nat)(os:Array Obj) :
 Calls prog 95 #[.agg (blCells b v1),.agg (blCells b v2)] (grow (redrawn W dd) os) fun e w''=>e=.returned (.bool true)∧∃p:Regrown,w''=grow (redrawn W p.d) p.os :=
 Calls.ext_of (same13_any _ b v1 v2 (own_kx h1 (qZi W dd os)) (own_kx h2 (qZi W dd os)) hl)
open Go.RowKit Go.Sort
theorem is_any(w:World)(B:Nat→Prop)(c mb mn:Nat)(P:Pm)(n:Nat)(v:Value)(hC:qZz w B c mb mn P)(hR:qZj w v P)(hi:PInv n P)(hn:n<50) :
 Calls prog 57 #[.pointer (some ⟨c,0,none⟩),v] w fun e w'=>e=.returned (.int .i64 0)∧Ext w w':=by
 have HRF:=Hh hR;obtain⟨lv,DV,rfl,hDV,hRR⟩:=hR;have hlen:DV.length=P.L.length:=by rw[←hDV,List.length_map]
 obtain⟨A,cp,rfl⟩:=qQc hRR.own;have h37:=qQr (.slice A DV.length cp) hi.vlen;have HX:Hid (qQj (.slice A DV.length cp) P.vols=(.slice A DV.length cp::(P.vols.map qQY).flatten).toArray):=Hh rfl;have HIX:=Hh (vl_idxR hi.vlen);have HINF:=Hh (vl_info12 hi.vlen);have HIV:Hid (∀ {w:World} {g:Nat},At w g 59 (qQj (.slice A DV.length cp) P.vols)→w.rangeAt g 1 ((P.vols.map qQY).flatten)):=Hh fun h=>rf_vrange h
 have hX0:(qQj (.slice A DV.length cp) P.vols)[0]? = some (.slice A DV.length cp):=rfl;have HI1:Hid ((prog.info? 59).map (·.size)=some (qQj (.slice A DV.length cp) P.vols).toList.length):=Hh (by rw[Array.length_toList,h37];exact qQm);generalize qQj (.slice A DV.length cp) P.vols=X at HX HRF HIV HI1 hX0 h37⊢;have HX0:=Hh hX0;have HDV:=Hh hDV;have HRR:=Hh hRR;have HI:=Hh hi;have HCT:=Hh hC;have HLN:=Hh hlen;have hPL:P.L.length<50:=by have:=hi.len;omega
 clear hDV hRR hi hC hX0 h37 HX
 go_enter func57,ntmps57
 have hB:=At.new w 59 X;have hE:=(Er w).alloc (.cells X 59)
 go_upto_region 1 with fail
 obtain⟨xb,hxb⟩:∃xb,w.heap.size=xb:=⟨_,rfl⟩;rw[hxb]at hB⊢;generalize w.alloc _=W at hB hE⊢;clear hxb;have HBL:=Hh (cblobs_any (HCT.out.ext hE) HI.out hn);go_wp2_with fail
 refine HBL.out.mono ?_;rintro e w1 ⟨A1,c1,rfl,hBI,hE1⟩;obtain⟨DB,hDB,hSb,hOb⟩:=bl_rows hBI;have hB:=hB.ext hE1;have hE:=hE.trans hE1;have x0:=hB.cell 0;rw[HX0.out,HLN.out]at x0;have HSb:=Hh hSb;have HOb:=Hh hOb;have HDB:=Hh hDB;have HE:=Hh hE;have HB:=Hh hB;clear HBL hBI hE1 hB hlen hSb hOb hDB hE
 go_upto_region 5 with fail
 clear x0
 go_loopw [30] (fun iv wr=>∃k:Nat,k≤P.L.length∧iv=.int .i64 (k:Int)∧Ext w1 wr) (fun iv _=>P.L.length - (intOf iv).toNat)
 case atStart=>exact⟨0,by omega,rfl,Er _⟩
 case round =>
  obtain⟨k,hk,rfl,hEk⟩:=hrel
  by_cases hlt:k<P.L.length
  ·obtain⟨b,hb⟩:∃b,P.L[k]? = some b:=⟨_,List.getElem?_eq_getElem hlt⟩
   obtain⟨dv1,h1⟩:∃q,DB[k]? = some (b,q):=by
    have e:=hb;rw[←HDB.out,List.getElem?_map]at e;cases h:DB[k]? with
    | none=>rw[h]at e;cases e
    | some p=>rw[h]at e;injection e with e;exact⟨p.2,by rw[←e]⟩
   obtain⟨dv2,h2⟩:∃q,DV[k]? = some (b,q):=by
    have e:=hb;rw[←HDV.out,List.getElem?_map]at e;cases h:DV[k]? with
    | none=>rw[h]at e;cases e
    | some p=>rw[h]at e;injection e with e;exact⟨p.2,by rw[←e]⟩
   have hbm:=List.mem_of_getElem? hb;have HBK:=Hh (HI.out.bl _ hbm);have hfb:P.find b.id=some b:=(qZr HI.out.asc).2 ⟨hbm,rfl⟩;have hdl:b.disks.length≤1000000000000:=Nat.le_trans (qQ8 HBK.out.rises) (by decide);obtain⟨dA,dAc,rfl⟩:∃A c,dv1=.slice A b.disks.length c:=qQc (HOb.out _ (List.mem_of_getElem? h1));obtain⟨eA,eAc,rfl⟩:∃A c,dv2=.slice A b.disks.length c:=qQc (HRR.out.dks _ (List.mem_of_getElem? h2));have hw1r:Ext w wr:=HE.out.trans hEk;have hO1:=qQa (HOb.out _ (List.mem_of_getElem? h1)) hEk (fun _ _ hh=>hh);have hO2:=qQa (HRR.out.dks _ (List.mem_of_getElem? h2)) hw1r (fun _ _ hh=>hh);have hS1:=HSb.out.ext hEk;have hS2:=HRR.out.sln.ext hw1r
   obtain⟨b1,o1,rfl⟩:=qQW hS1 (fun e=>by
    have h0:=List.map_eq_nil_iff.1 e;rw[h0]at h1;simp at h1)
   obtain⟨b2,o2,rfl⟩:=qQW hS2 (fun e=>by
    have h0:=List.map_eq_nil_iff.1 e;rw[h0]at h2;simp at h2)
   obtain⟨s0,s1,s2,s3,s4,s5,s6,s7,s8,s9,s10,s11,s12⟩:=qZn hS2 h2;have hYb:=At.new wr 173 (blCells b (.slice eA b.disks.length eAc));have hEy:=(Er wr).alloc (.cells (blCells b (.slice eA b.disks.length eAc)) 173)
   go_upto_region 7 with fail
   clear s0 s1 s2 s3 s4 s5 s6 s7 s8 s9 s10 s11 s12;generalize wr.heap.size=yb at hYb⊢;generalize wr.alloc (.cells (blCells b (.slice eA b.disks.length eAc)) 173)=W2 at hYb hEy⊢;have hEW:Ext w W2:=hw1r.trans hEy;have y0:=hYb.cell 0;simp[blCells]at y0;have HBL:=Hh (cblob_some (HCT.out.ext hEW) HI.out b.id hfb);go_wp2_with fail
   refine HBL.out.mono ?_;rintro e w3 ⟨zA,zAc,rfl,hO3,hE3⟩;have hZb:=At.new w3 108 (blCells b (.slice zA b.disks.length zAc));have hEz:=hE3.alloc (.cells (blCells b (.slice zA b.disks.length zAc)) 108);have hO3:=qQa hO3 ((Er w3).alloc (.cells (blCells b (.slice zA b.disks.length zAc)) 108)) (fun _ _ hh=>hh)
   go_upto_region 8 with fail
   clear HBL y0;generalize w3.heap.size=zb at hZb⊢;generalize w3.alloc (.cells (blCells b (.slice zA b.disks.length zAc)) 108)=W4 at hZb hEz hO3⊢;have hYb:=hYb.ext hEz;have hEW:=hEW.trans hEz;have hE4:=hEy.trans hEz;clear hEy hEz hE3;have y1:=hYb.cell 1;simp[blCells]at y1;have HRFW:=Hh (HRF.out.ext (HE.out.trans hEk));rcases name_at (P:=P) (n:=b.name)with⟨hnm,hnn⟩|⟨i,q,hiq,hnn,hnm⟩
   ·have HNM:=Hh (cnamed_none (HCT.out.ext hEW) HI.out b.name hnn);go_wp2_with fail
    refine HNM.out.mono ?_;rintro e w5 ⟨rfl,hE5⟩;have hQ:=At.new w5 108 blZero;have hEq:=hE5.alloc (.cells blZero 108)
    go_upto_region 9 with fail
    clear HNM y1;generalize w5.heap.size=qb at hQ⊢;generalize w5.alloc (.cells blZero 108)=W6 at hQ hEq⊢;have hYb:=hYb.ext hEq;have hZb:=hZb.ext hEq;have hEW:=hEW.trans hEq;have hE6:=hE4.trans hEq;have HRM:=Hh (qZV W6 (.agg X) P (HRF.out.ext hEW) b.name (by omega));have y1:=hYb.cell 1;simp[blCells]at y1;have HRX:=Hh (HB.out.ext (hEk.trans hE6)).range;have hEO:=hEq;clear hE5 hE4
    go_wp2_with (refine wpList_load_mid rfl 59 _ rfl xb 0 rfl _ _ HRX.out underlying59 rfl HI1.out ?_)
    refine HRM.out.mono ?_;rintro e w7 ⟨rfl,hE7⟩;rw[hnm];have hYb:=hYb.ext hE7;have hZb:=hZb.ext hE7;have hQ:=hQ.ext hE7;have hE8:=hE6.trans hE7;have hEO:=hEO.trans hE7;have hEW:=hEW.trans hE7;obtain⟨s0,s1,s2,s3,s4,s5,s6,s7,s8,s9,s10,s11,s12⟩:=qZn (HSb.out.ext (hEk.trans hE8)) h1;have cw1:=qJo w7 b dA b.disks.length dAc;have cw2:=qJo w7 b zA b.disks.length zAc;have cw3:=qJp w7 b (.slice dA b.disks.length dAc) (.slice eA b.disks.length eAc) (own_kx hO1 hE8) (own_kx hO2 hE8) hdl;have cw4:=qJp w7 b (.slice zA b.disks.length zAc) (.slice eA b.disks.length eAc) (own_kx hO3 hEO) (own_kx hO2 hE8) hdl;have rg:∀ {p:Addr} {u:Value},w7.cell? p=some u→∀d os,(grow (redrawn w7 d) os).cell? p=some u:=fun h d os=>(Ext.cell (qZi w7 d os) (qZl h)).trans h
    have rs0:=rg s0;have rs1:=rg s1;have rs2:=rg s2;have rs3:=rg s3;have rs4:=rg s4;have rs5:=rg s5;have rs6:=rg s6;have rs7:=rg s7;have rs8:=rg s8;have rs9:=rg s9;have rs10:=rg s10;have rs11:=rg s11;have rs12:=rg s12;clear rg s0 s1 s2 s3 s4 s5 s6 s7 s8 s9 s10 s11 s12;have ry0:=hYb.cell_regrown 0;have rz0:=hZb.cell_regrown 0;have ry1:=hYb.cell_regrown 1;have rz1:=hZb.cell_regrown 1;have ry2:=hYb.cell_regrown 2;have rz2:=hZb.cell_regrown 2;have ry3:=hYb.cell_regrown 3;have rz3:=hZb.cell_regrown 3;have ry4:=hYb.cell_regrown 4;have rz4:=hZb.cell_regrown 4;have ry5:=hYb.cell_regrown 5;have rz5:=hZb.cell_regrown 5;have ry6:=hYb.cell_regrown 6;have rz6:=hZb.cell_regrown 6;have ry7:=hYb.cell_regrown 7;have rz7:=hZb.cell_regrown 7;have ry8:=hYb.cell_regrown 8;have rz8:=hZb.cell_regrown 8;have ry9:=hYb.cell_regrown 9;have rz9:=hZb.cell_regrown 9;have ry10:=hYb.cell_regrown 10;have rz10:=hZb.cell_regrown 10;have ry11:=hYb.cell_regrown 11;have rz11:=hZb.cell_regrown 11;have ry12:=hYb.cell_regrown 12;have rz12:=hZb.cell_regrown 12;have rq0:=hQ.cell_regrown 0;simp[blCells]at ry0 rz0 ry1 rz1 ry2 rz2 ry3 rz3 ry4 rz4 ry5 rz5 ry6 rz6 ry7 rz7 ry8 rz8 ry9 rz9 ry10 rz10 ry11 rz11 ry12 rz12 rq0;clear HRX HRM y1 HRFW hnm hnn hb h1 h2 hbm;unfold blCells at cw1 cw2 cw3 cw4
    go_upto_region 10 with fail
    refine qQ3 (by kernel_rfl) (by kernel_rfl) ?_
    repeat (go_big_quiet_step (first|with_reducible exact cw1 _ _|with_reducible exact cw2 _ _|with_reducible exact cw3 _ _|with_reducible exact cw4 _ _))
    refine wpQuiet_nil ?_;intro W8 hE9;go_wp2_with fail
    exact⟨⟨k+1,by omega,by simp,(hEk.trans hE8).trans hE9⟩,by simp only[intOf,Int.toNat_natCast];omega⟩
   ·have HNM:=Hh (cnamed_some (HCT.out.ext hEW) HI.out b.name hnn);go_wp2_with fail
    refine HNM.out.mono ?_;rintro e w5 ⟨qA,qAc,rfl,hE5⟩;have hQ:=At.new w5 108 (blCells q (.slice qA q.disks.length qAc));have hEq:=hE5.alloc (.cells (blCells q (.slice qA q.disks.length qAc)) 108)
    go_upto_region 9 with fail
    clear HNM y1;generalize w5.heap.size=qb at hQ⊢;generalize w5.alloc (.cells (blCells q (.slice qA q.disks.length qAc)) 108)=W6 at hQ hEq⊢;have hYb:=hYb.ext hEq;have hZb:=hZb.ext hEq;have hEW:=hEW.trans hEq;have hE6:=hE4.trans hEq;have HRM:=Hh (qZV W6 (.agg X) P (HRF.out.ext hEW) b.name (by omega));have y1:=hYb.cell 1;simp[blCells]at y1;have HRX:=Hh (HB.out.ext (hEk.trans hE6)).range;have hEO:=hEq;clear hE5 hE4
    go_wp2_with (refine wpList_load_mid rfl 59 _ rfl xb 0 rfl _ _ HRX.out underlying59 rfl HI1.out ?_)
    refine HRM.out.mono ?_;rintro e w7 ⟨rfl,hE7⟩;rw[hnm];have hYb:=hYb.ext hE7;have hZb:=hZb.ext hE7;have hQ:=hQ.ext hE7;have hE8:=hE6.trans hE7;have hEO:=hEO.trans hE7;have hEW:=hEW.trans hE7;obtain⟨s0,s1,s2,s3,s4,s5,s6,s7,s8,s9,s10,s11,s12⟩:=qZn (HSb.out.ext (hEk.trans hE8)) h1
    obtain⟨dq,hq2⟩:∃d,DV[i]? = some (q,d):=by
     have e:=hiq;rw[←HDV.out,List.getElem?_map]at e;cases h:DV[i]? with
     | none=>rw[h]at e;cases e
     | some p=>rw[h]at e;injection e with e;exact⟨p.2,by rw[←e]⟩
    have hil:i<DV.length:=(List.getElem?_eq_some_iff.1 hq2).1;obtain⟨u0,_⟩:=qZn (HRR.out.sln.ext hEW) hq2;have x0:=(HB.out.ext (hEk.trans hE8)).cell 0;rw[HX0.out]at x0;have cw1:=qJo w7 b dA b.disks.length dAc;have cw2:=qJo w7 b zA b.disks.length zAc;have cw3:=qJp w7 b (.slice dA b.disks.length dAc) (.slice eA b.disks.length eAc) (own_kx hO1 hE8) (own_kx hO2 hE8) hdl;have cw4:=qJp w7 b (.slice zA b.disks.length zAc) (.slice eA b.disks.length eAc) (own_kx hO3 hEO) (own_kx hO2 hE8) hdl;have rg:∀ {p:Addr} {u:Value},w7.cell? p=some u→∀d os,(grow (redrawn w7 d) os).cell? p=some u:=fun h d os=>(Ext.cell (qZi w7 d os) (qZl h)).trans h
    have rs0:=rg s0;have rs1:=rg s1;have rs2:=rg s2;have rs3:=rg s3;have rs4:=rg s4;have rs5:=rg s5;have rs6:=rg s6;have rs7:=rg s7;have rs8:=rg s8;have rs9:=rg s9;have rs10:=rg s10;have rs11:=rg s11;have rs12:=rg s12;have ru0:=rg u0;have rx0:=rg x0;clear u0 x0;clear rg s0 s1 s2 s3 s4 s5 s6 s7 s8 s9 s10 s11 s12;have ry0:=hYb.cell_regrown 0;have rz0:=hZb.cell_regrown 0;have ry1:=hYb.cell_regrown 1;have rz1:=hZb.cell_regrown 1;have ry2:=hYb.cell_regrown 2;have rz2:=hZb.cell_regrown 2;have ry3:=hYb.cell_regrown 3;have rz3:=hZb.cell_regrown 3;have ry4:=hYb.cell_regrown 4;have rz4:=hZb.cell_regrown 4;have ry5:=hYb.cell_regrown 5;have rz5:=hZb.cell_regrown 5;have ry6:=hYb.cell_regrown 6;have rz6:=hZb.cell_regrown 6;have ry7:=hYb.cell_regrown 7;have rz7:=hZb.cell_regrown 7;have ry8:=hYb.cell_regrown 8;have rz8:=hZb.cell_regrown 8;have ry9:=hYb.cell_regrown 9;have rz9:=hZb.cell_regrown 9;have ry10:=hYb.cell_regrown 10;have rz10:=hZb.cell_regrown 10;have ry11:=hYb.cell_regrown 11;have rz11:=hZb.cell_regrown 11;have ry12:=hYb.cell_regrown 12;have rz12:=hZb.cell_regrown 12;have rq0:=hQ.cell_regrown 0;simp[blCells]at ry0 rz0 ry1 rz1 ry2 rz2 ry3 rz3 ry4 rz4 ry5 rz5 ry6 rz6 ry7 rz7 ry8 rz8 ry9 rz9 ry10 rz10 ry11 rz11 ry12 rz12 rq0;clear HRX HRM y1 HRFW hnm hiq hq2 hnn hb h1 h2 hbm;unfold blCells at cw1 cw2 cw3 cw4
    go_upto_region 10 with fail
    refine qQ3 (by kernel_rfl) (by kernel_rfl) ?_
    repeat (go_big_quiet_step (first|with_reducible exact cw1 _ _|with_reducible exact cw2 _ _|with_reducible exact cw3 _ _|with_reducible exact cw4 _ _))
    refine wpQuiet_nil ?_;intro W8 hE9;go_wp2_with fail
    exact⟨⟨k+1,by omega,by simp,(hEk.trans hE8).trans hE9⟩,by simp only[intOf,Int.toNat_natCast];omega⟩
  ·obtain rfl:k=P.L.length:=by omega
   have hBk:=HB.out.ext hEk;have HRG:=Hh (HIV.out hBk)
   go_upto_region 14 with(refine wpList_load_mid rfl 57 _ rfl xb 1 rfl _ _ HRG.out underlying57 rfl HINF.out ?_)
   rw[show Value.agg ((P.vols.map qQY).flatten).toArray=vlArr P.vols from rfl];generalize vlArr P.vols=va at HIX⊢;clear HRG HINF HIV
   go_loopw [95] (fun iv wx=>∃j:Nat,j≤12∧iv=.int .i64 (j:Int)∧Ext wr wx) (fun iv _=>12 - (intOf iv).toNat)
   case atStart=>exact⟨0,by omega,rfl,Er _⟩
   case round =>
    obtain⟨j,hj,rfl,hEj⟩:=hrel
    by_cases hj2:j<12
    ·obtain⟨y,hy,hix⟩:=HIX.out j hj2;have hpv:P.vol j=y:=by unfold Pm.vol;rw[List.getD_eq_getElem?_getD,hy];rfl
     have hV:=At.new wr 56 #[.bool y.closed,.bool y.erase,.int .i64 y.gen];have hEv:=(Er wr).alloc (.cells #[.bool y.closed,.bool y.erase,.int .i64 y.gen] 56)
     go_upto_region 16 with fail
     clear hix;generalize wr.heap.size=vb at hV⊢;generalize wr.alloc (.cells #[.bool y.closed,.bool y.erase,.int .i64 y.gen] 56)=W2 at hV hEv⊢;have hEW:=((HE.out.trans hEk).trans hEj).trans hEv;have HLV:=Hh (clive_any (HCT.out.ext hEW) HI.out (by omega) j hj2);go_wp2_with fail
     refine HLV.out.mono ?_;rintro e w3 ⟨rfl,hE3⟩;have hEW3:=hEW.trans hE3;have hB3:=(HB.out.ext (((hEk.trans hEj).trans hEv).trans hE3)).range;have HRX:=Hh hB3;have HLR:=Hh (rlive_any w3 (.agg X) P n (HRF.out.ext hEW3) HI.out (by omega) j hj2);clear HLV hB3
     go_wp2_with (refine wpList_load_mid rfl 59 _ rfl xb 0 rfl _ _ HRX.out underlying59 rfl HI1.out ?_)
     refine HLR.out.mono ?_;rintro e w4 ⟨rfl,hE4⟩;have hV4:=hV.ext (hE3.trans hE4);have hEW4:=hEW3.trans hE4;have hEX:=(hEv.trans hE3).trans hE4;clear HLR HRX hV hEv hE3 hE4 hEW hEW3
     have HPV:Hid (∀dd os,Calls prog 98 #[.pointer (some ⟨c,0,none⟩),.int .i64 (j:Int)] (grow (redrawn w4 dd) os) fun e w''=>e=.returned (.agg #[.bool y.closed,.bool y.erase,.int .i64 y.gen])∧∃p:Regrown,w''=grow (redrawn w4 p.d) p.os):=Hh fun dd os=>by
      refine Calls.ext_of ?_;have h:=cvol_any (HCT.out.ext (hEW4.trans (qZi w4 dd os))) j hj2;rw[hpv]at h;exact h
     have HPP:Hid (∀dd os,Calls prog 99 #[.int .i64 (j:Int)] (grow (redrawn w4 dd) os) fun e w''=>e=.returned (.int .i64 ((j % 2:Nat):Int))∧∃p:Regrown,w''=grow (redrawn w4 p.d) p.os):=Hh fun dd os=>by
      refine Calls.ext_of ((qXU _ j hj2).mono ?_);rintro e w' ⟨rfl,rfl⟩;exact⟨rfl,Er _⟩
     have rv0:=hV4.cell_regrown 0;have rv1:=hV4.cell_regrown 1;have rv2:=hV4.cell_regrown 2;simp at rv0 rv1 rv2;have hon:P.onVol (j:Int)=P.L.filter (onV (j:Int)):=rfl;rw[hon];generalize ((P.L.filter (onV (j:Int))).length:Int)=m1;generalize qQK (P.L.filter (onV (j:Int)))=m2
     go_upto_region 18 with fail
     refine qQ3 (by kernel_rfl) (by kernel_rfl) ?_
     repeat (go_big_quiet_step (first|with_reducible exact HPV.out _ _|with_reducible exact HPP.out _ _))
     refine wpQuiet_nil ?_;intro W8 hE9;go_wp2_with fail
     exact⟨⟨j+1,by omega,by simp,(hEj.trans hEX).trans hE9⟩,by simp only[intOf,Int.toNat_natCast];omega⟩
    ·obtain rfl:j=12:=by omega
     go_wp2_with fail
     go_ret
     exact⟨rfl,(HE.out.trans hEk).trans hEj⟩
open Go.RowKit Go.Sort
def qJS:Value→Array Value
 | .agg a=>a
 | _=>#[]
theorem qZz.away{w w':World}{B:Nat→Prop}{c mb mn g:Nat}{P:Pm}{t:TypeId}{cs:Array Value}(h:qZz w B c mb mn P)(hA:At w g t cs)(h1:100≠t)(h2:108≠t)(h3:3≠t)(hC:Chg (· = g) w w'):qZz w' B c mb mn P:=by
 obtain⟨C,a,b⟩:=h;exact⟨C,a.far hC hA h1 h2 h3,b⟩
theorem qZz.away_map{κ ν : Type}{K:KeyWay κ}{vv : ν → Value}{L:List (κ × ν)}{w w':World}{B:Nat→Prop}{c mb mn b:Nat}{P:Pm}(h:qZz w B c mb mn P)(hM:qQE K vv w b L)(h1:b≠mb)(h2:b≠mn)(hC:Chg (· = b) w w'):qZz w' B c mb mn P:=by
 obtain⟨C,a,r⟩:=h;refine⟨C,⟨?_,?_,?_,?_,a.inj,a.vlen,a.mne,up_chg a.up hC,a.lo⟩,r⟩
 ·exact a.blk.chg hC (fun e=>hM.ne_at a.blk e.symm)
 ·exact a.bm.chg hC (fun e=>h1 e.symm)
 ·exact a.nm.chg hC (fun e=>h2 e.symm)
 ·exact fun q hq=>⟨(a.bl q hq).1.chg hC (fun e=>hM.ne_at (a.bl q hq).1 e.symm),qQa (a.bl q hq).2 hC (fun k hk e=>qXc (a.bl q hq).2 hM k hk e)⟩
structure Kq (B:Nat→Prop) (rb mb mn:Nat) (w w':World):Prop where
 chg:Chg (fun k=>B k) w w'
 at_:∀g t cs,g≠rb→t≠100→t≠108→At w g t cs→At w' g t cs
 map:∀b es clk,b≠mb→b≠mn→w.heap[b]? = some (.map es clk)→w'.heap[b]? = some (.map es clk)
section
variable{B:Nat→Prop}{rb mb mn c:Nat}{w w' w'':World}
theorem Kq.of_ext(h:Ext w w'):Kq B rb mb mn w w':=⟨h.chg,fun _ _ _ _ _ _ hA=>hA.ext h,fun _b _es _clk _ _ hb=>(Ext.block h (qQI hb)).trans hb⟩
theorem Kq.trans(h:Kq B rb mb mn w w')(h':Kq B rb mb mn w' w''):Kq B rb mb mn w w'' :=
 ⟨h.chg.trans h'.chg (fun _ _ e=>e),fun g t cs h0 h1 h2 hA=>h'.at_ g t cs h0 h1 h2 (h.at_ g t cs h0 h1 h2 hA),fun b es clk h1 h2 hb=>h'.map b es clk h1 h2 (h.map b es clk h1 h2 hb)⟩
theorem Kq.store{t:TypeId}{cs:Array Value}(hA:At w rb t cs)(hB:B rb)(h:Chg (· = rb) w w'):Kq B rb mb mn w w' :=
 ⟨h.mono fun k _ e=>by have e':k=rb:=e;subst e';exact hB,fun g t' cs' h0 _ _ hA'=>hA'.chg h (fun e=>h0 e),fun b es clk _ _ hb=>(h.block b (qQI hb) (fun e=>by have e':b=rb:=e;subst e';unfold At at hA;rw[hA]at hb;cases hb)).trans hb⟩
theorem Kq.own{base:Nat}{e:TypeId}{size:Nat}{v:Value}{n:Nat}{xs:List Value}(h:Kq B rb mb mn w w')(ho:w.ownsRow base e size v n xs)(h0:∀k,some k=v.ownBlock→k≠rb)(h1:e≠100)(h2:e≠108):w'.ownsRow base e size v n xs:=by
 refine⟨ho.1,?_⟩
 rcases ho.2 with hn|⟨g,cap,cur,hv,hb,hg,rest⟩
 ·exact .inl hn
 ·exact .inr ⟨g,cap,cur,hv,hb,h.at_ g e cur (h0 g (by rw[hv];rfl)) h1 h2 hg,rest⟩
theorem Kq.mapAt{κ ν : Type}{K:KeyWay κ}{vv : ν → Value}{L:List (κ × ν)}{b:Nat}(h:Kq B rb mb mn w w')(hM:qQE K vv w b L)(h1:b≠mb)(h2:b≠mn):qQE K vv w' b L:=by
 obtain⟨es,clk,a1,a2⟩:=hM;exact⟨es,clk,h.map b es clk h1 h2 a1,a2⟩
end
structure GA8 (W0:World) (B:Nat→Prop) (c mb mn rb:Nat) (P2:Pm) (R:Rs) (γ : Nat→Value) (L:Nat→Bool) (w:World):Prop where
 kq:Kq B rb mb mn W0 w
 pre:L 5=false→Ext W0 w
 call:L 5=true→∃A cp, γ 0=qZB R.err R.blob R.size R.sum (.slice A R.names.length cp)∧qZz w B c mb mn P2∧w.ownsRow 0 9 1 (.slice A R.names.length cp) R.names.length (R.names.map Value.string)
 res:∃Z:Array Value,At w rb 36 Z∧Z.size=5
 st:L 6=true→At w rb 36 (qJS (γ 0))
structure GA14 (W0:World) (B:Nat→Prop) (c mb mn rb:Nat) (P2:Pm) (R:Rs) (γ : Nat→Value) (L:Nat→Bool) (w:World):Prop where
 kq:Kq B rb mb mn W0 w
 pre:L 5=false→Ext W0 w
 call:L 5=true→∃A cp, γ 0=qZB R.err R.blob R.size R.sum (.slice A R.names.length cp)∧qZz w B c mb mn P2∧w.ownsRow 0 9 1 (.slice A R.names.length cp) R.names.length (R.names.map Value.string)
 n1:L 6=true→∃g, γ 1=.pointer (some ⟨g,0,none⟩)∧W0.heap.size≤g∧(∃Z:Array Value,At w g 36 Z∧Z.size=5)∧(L 7=true→At w g 36 (qJS (γ 0)))
section
variable{W0 w w':World}{B:Nat→Prop}{c mb mn rb:Nat}{P2:Pm}{R:Rs}{γ : Nat→Value}{L:Nat→Bool}
theorem GA8.keep{j:Nat}(hj:j<5):∀γ L w,GA8 W0 B c mb mn rb P2 R γ L w→L j=false→GA8 W0 B c mb mn rb P2 R γ (fun i=>i == j||L i) w:=by
 intro γ L w h _;have k5:((5:Nat) == j||L 5)=L 5:=by rw[show((5:Nat) == j)=false by simp;omega,Bool.false_or]
 have k6:((6:Nat) == j||L 6)=L 6:=by rw[show((6:Nat) == j)=false by simp;omega,Bool.false_or]
 exact⟨h.kq,fun hh=>h.pre (k5 ▸ hh),fun hh=>h.call (k5 ▸ hh),h.res,fun hh=>h.st (k6 ▸ hh)⟩
theorem GA8.called(h:GA8 W0 B c mb mn rb P2 R γ L w){A:Option Addr}{cp:Nat}(hk:Kp B w w')(hm:∀b es clk,b≠mb→b≠mn→w.heap[b]? = some (.map es clk)→w'.heap[b]? = some (.map es clk))(h6:L 6=false)(hC:qZz w' B c mb mn P2)(hO:w'.ownsRow 0 9 1 (.slice A R.names.length cp) R.names.length (R.names.map Value.string)) :
 GA8 W0 B c mb mn rb P2 R (upd γ 0 (qZB R.err R.blob R.size R.sum (.slice A R.names.length cp))) (fun i=>i == 5||L i) w':=by
 obtain⟨Z,z1,z2⟩:=h.res;refine⟨h.kq.trans ⟨hk.chg,fun g t cs _ h1 h2 hA=>hk.at_ g t cs h1 h2 hA,hm⟩,fun hh=>by simp at hh,fun _=>⟨A,cp,by simp[upd],hC,hO⟩,⟨Z,hk.at_ _ _ _ (by decide) (by decide) z1,z2⟩,fun hh=>by simp[h6]at hh⟩
theorem GA8.stored(h:GA8 W0 B c mb mn rb P2 R γ L w)(hB:B rb)(h5:L 5=true):GA8 W0 B c mb mn rb P2 R γ (fun i=>i == 6||L i) (w.setCells rb 0 (qJS (γ 0)).toList):=by
 obtain⟨Z,z1,z2⟩:=h.res;obtain⟨A,cp,a1,a2,a3⟩:=h.call h5;have hE:Chg (· = rb) w (w.setCells rb 0 (qJS (γ 0)).toList):=qQg _ _;have hz:(qJS (γ 0)).size=5:=by rw[a1];rfl
 have hst:=At.cells_all (cs:=qJS (γ 0)) z1 (by rw[z2,hz]);refine⟨h.kq.trans (Kq.store z1 hB hE),fun hh=>by simp[h5]at hh,fun _=>⟨A,cp,a1,a2.away z1 (by decide) (by decide) (by decide) hE,qQa a3 hE fun k hk e=>qQb a3 z1 (by decide) k hk e⟩,⟨_,hst,hz⟩,fun _=>hst⟩
theorem GA14.keep{j:Nat}(hj:j<5):∀γ L w,GA14 W0 B c mb mn rb P2 R γ L w→L j=false→GA14 W0 B c mb mn rb P2 R γ (fun i=>i == j||L i) w:=by
 intro γ L w h _;have k5:((5:Nat) == j||L 5)=L 5:=by rw[show((5:Nat) == j)=false by simp;omega,Bool.false_or]
 have k6:((6:Nat) == j||L 6)=L 6:=by rw[show((6:Nat) == j)=false by simp;omega,Bool.false_or]
 have k7:((7:Nat) == j||L 7)=L 7:=by rw[show((7:Nat) == j)=false by simp;omega,Bool.false_or]
 exact⟨h.kq,fun hh=>h.pre (k5 ▸ hh),fun hh=>h.call (k5 ▸ hh),fun hh=>by rw[k7];exact h.n1 (k6 ▸ hh)⟩
theorem GA14.called(h:GA14 W0 B c mb mn rb P2 R γ L w){A:Option Addr}{cp:Nat}(hk:Kp B w w')(hm:∀b es clk,b≠mb→b≠mn→w.heap[b]? = some (.map es clk)→w'.heap[b]? = some (.map es clk))(h7:L 7=false)(hC:qZz w' B c mb mn P2)(hO:w'.ownsRow 0 9 1 (.slice A R.names.length cp) R.names.length (R.names.map Value.string)) :
 GA14 W0 B c mb mn rb P2 R (upd γ 0 (qZB R.err R.blob R.size R.sum (.slice A R.names.length cp))) (fun i=>i == 5||L i) w':=by
 refine⟨h.kq.trans ⟨hk.chg,fun g t cs _ h1 h2 hA=>hk.at_ g t cs h1 h2 hA,hm⟩,fun hh=>by simp at hh,fun _=>⟨A,cp,by simp[upd],hC,hO⟩,fun hh=>?_⟩
 obtain⟨g,b1,b2,⟨Z,b3,b4⟩,_⟩:=h.n1 (by simpa using hh);exact⟨g,by simpa[upd]using b1,b2,⟨Z,hk.at_ _ _ _ (by decide) (by decide) b3,b4⟩,fun hh=>by simp[h7]at hh⟩
theorem GA14.new(h:GA14 W0 B c mb mn rb P2 R γ L w)(h7:L 7=false){Z:Array Value}(hz:Z.size=5):GA14 W0 B c mb mn rb P2 R (upd γ 1 (.pointer (some ⟨w.heap.size,0,none⟩))) (fun i=>i == 6||L i) (w.alloc (.cells Z 36)):=by
 have hE:Ext w (w.alloc (.cells Z 36)):=(Er w).alloc _;refine⟨h.kq.trans (Kq.of_ext hE),fun hh=>(h.pre (by simpa using hh)).trans hE,fun hh=>?_,fun _=>⟨w.heap.size,by simp[upd],h.kq.chg.size,⟨Z,At.new _ _ _,hz⟩,fun hh=>by simp[h7]at hh⟩⟩
 obtain⟨A,cp,a1,a2,a3⟩:=h.call (by simpa using hh);exact⟨A,cp,by simpa[upd]using a1,a2.ext hE,own_kx a3 hE⟩
theorem GA14.stored(h:GA14 W0 B c mb mn rb P2 R γ L w)(hB:∀k,W0.heap.size≤k→B k)(_hrb:rb<W0.heap.size)(h5:L 5=true)(h6:L 6=true){g:Nat}(hg : γ 1=.pointer (some ⟨g,0,none⟩)):GA14 W0 B c mb mn rb P2 R γ (fun i=>i == 7||L i) (w.setCells g 0 (qJS (γ 0)).toList):=by
 obtain⟨A,cp,a1,a2,a3⟩:=h.call h5;obtain⟨g',b1,b2,⟨Z,b3,b4⟩,_⟩:=h.n1 h6;rw[hg]at b1;obtain rfl:g=g':=by injection b1 with b1;injection b1 with b1;injection b1
 have hE:Chg (· = g) w (w.setCells g 0 (qJS (γ 0)).toList):=qQg _ _;have hz:(qJS (γ 0)).size=5:=by rw[a1];rfl
 have hst:=At.cells_all (cs:=qJS (γ 0)) b3 (by rw[b4,hz]);refine⟨⟨h.kq.chg.trans (hE.mono fun k _ e=>by have e':k=g:=e;show B k;rw[e'];exact hB g b2) (fun _ _ e=>e),fun g2 t cs h0 h1 h2 hA=>?_,fun b es clk h1 h2 hb=>?_⟩,fun hh=>by simp[h5]at hh,fun _=>⟨A,cp,a1,a2.away b3 (by decide) (by decide) (by decide) hE,qQa a3 hE fun k hk e=>qQb a3 b3 (by decide) k hk e⟩,fun _=>⟨g,hg,b2,⟨_,hst,hz⟩,fun _=>hst⟩⟩
 ·exact(h.kq.at_ g2 t cs h0 h1 h2 hA).chg hE (fun e=>by have:=hA.lt;have e':g2=g:=e;omega)
 ·exact(hE.block b (Nat.lt_of_lt_of_le (qQI hb) h.kq.chg.size) (fun e=>by have:=qQI hb;have e':b=g:=e;omega)).trans (h.kq.map b es clk h1 h2 hb)
end
structure GNw (W0:World) (T:TypeId) (X:Array Value) (ja js:Nat) (γ : Nat→Value) (L:Nat→Bool) (w:World):Prop where
 ext:Ext W0 w
 n1:L ja=true→∃g, γ 0=.pointer (some ⟨g,0,none⟩)∧W0.heap.size≤g∧(∃Z:Array Value,At w g T Z∧Z.size=X.size)∧(L js=true→At w g T X)
section
variable{W0 w w':World}{T:TypeId}{X:Array Value}{ja js:Nat}{γ : Nat→Value}{L:Nat→Bool}
theorem GNw.keep{j:Nat}(h1:ja≠j)(h2:js≠j):∀γ L w,GNw W0 T X ja js γ L w→L j=false→GNw W0 T X ja js γ (fun i=>i == j||L i) w:=by
 intro γ L w h _;have e1:(ja == j)=false:=by simp[h1]
 have e2:(js == j)=false:=by simp[h2]
 refine⟨h.ext,fun hh=>?_⟩
 obtain⟨g,a1,a2,a3,a4⟩:=h.n1 (by simpa[e1]using hh);exact⟨g,a1,a2,a3,fun hh=>a4 (by simpa[e2]using hh)⟩
theorem GNw.new(h:GNw W0 T X ja js γ L w)(hs:L js=false)(h1:js≠ja){Z:Array Value}(hz:Z.size=X.size):GNw W0 T X ja js (upd γ 0 (.pointer (some ⟨w.heap.size,0,none⟩))) (fun i=>i == ja||L i) (w.alloc (.cells Z T)):=by
 have e1:(js == ja)=false:=by simp[h1]
 exact⟨h.ext.alloc _,fun _=>⟨w.heap.size,by simp[upd],h.ext.size,⟨Z,At.new _ _ _,hz⟩,fun hh=>by simp[e1,hs]at hh⟩⟩
theorem GNw.stored(h:GNw W0 T X ja js γ L w)(ha:L ja=true){g:Nat}(hg : γ 0=.pointer (some ⟨g,0,none⟩)):GNw W0 T X ja js γ (fun i=>i == js||L i) (w.setCells g 0 X.toList):=by
 obtain⟨g',b1,b2,⟨Z,b3,b4⟩,_⟩:=h.n1 ha;rw[hg]at b1;obtain rfl:g=g':=by injection b1 with b1;injection b1 with b1;injection b1
 have hst:=At.cells_all (cs:=X) b3 b4;exact⟨h.ext.setCells b2 _ _,fun _=>⟨g,hg,b2,⟨X,hst,rfl⟩,fun _=>hst⟩⟩
end
structure GUp (W0:World) (mc:Nat) (rows:Rows14) (k sq:Int) (R:Rs) (γ : Nat→Value) (L:Nat→Bool) (w:World):Prop where
 pre:L 11=false→Ext W0 w
 call:L 9=true→∃A cp, γ 0=qZB R.err R.blob R.size R.sum (.slice A R.names.length cp)∧w.ownsRow W0.heap.size 9 1 (.slice A R.names.length cp) R.names.length (R.names.map Value.string)
 bld:L 10=true → γ 1=.agg (#[.int .i64 sq]++qJS (γ 0))
 upd:L 11=true→∃A cp w1, γ 0=qZB R.err R.blob R.size R.sum (.slice A R.names.length cp)∧Ext W0 w1∧qQE qZM qXo w1 mc rows∧Chg (· = mc) w1 w∧qQE qZM qXo w mc ((k,((⟨sq,R⟩:Last),.slice A R.names.length cp))::qZy k rows)∧w.ownsRow W0.heap.size 9 1 (.slice A R.names.length cp) R.names.length (R.names.map Value.string)
section
variable{W0 w w':World}{mc:Nat}{rows:Rows14}{k sq:Int}{R:Rs}{γ : Nat→Value}{L:Nat→Bool}
theorem GUp.keep{j:Nat}(hj:j<9):∀γ L w,GUp W0 mc rows k sq R γ L w→L j=false→GUp W0 mc rows k sq R γ (fun i=>i == j||L i) w:=by
 intro γ L w h _;have q:∀i,9≤i→(i == j||L i)=L i:=fun i hi=>by rw[show(i == j)=false by simp;omega,Bool.false_or]
 have k9:=q 9 (by omega);have k10:=q 10 (by omega);have k11:=q 11 (by omega)
 exact⟨fun hh=>h.pre (k11 ▸ hh),fun hh=>h.call (k9 ▸ hh),fun hh=>h.bld (k10 ▸ hh),fun hh=>h.upd (k11 ▸ hh)⟩
theorem GUp.called(h:GUp W0 mc rows k sq R γ L w){A:Option Addr}{cp:Nat}(hE:Ext w w')(h10:L 10=false)(h11:L 11=false)(hO:w'.ownsRow w.heap.size 9 1 (.slice A R.names.length cp) R.names.length (R.names.map Value.string)) :
 GUp W0 mc rows k sq R (Go.Proofs.YtimjipcplmnpbaaGreat.upd γ 0 (qZB R.err R.blob R.size R.sum (.slice A R.names.length cp))) (fun i=>i == 9||L i) w' :=
 ⟨fun _=>(h.pre h11).trans hE,fun _=>⟨A,cp,by simp[Go.Proofs.YtimjipcplmnpbaaGreat.upd],own_baseU hO (h.pre h11).size⟩,fun hh=>by simp[h10]at hh,fun hh=>by simp[h11]at hh⟩
theorem GUp.built(h:GUp W0 mc rows k sq R γ L w)(h11:L 11=false):GUp W0 mc rows k sq R (Go.Proofs.YtimjipcplmnpbaaGreat.upd γ 1 (.agg (#[.int .i64 sq]++qJS (γ 0)))) (fun i=>i == 10||L i) w:=by
 refine⟨fun hh=>h.pre (by simpa using hh),fun hh=>?_,fun _=>by simp[Go.Proofs.YtimjipcplmnpbaaGreat.upd],fun hh=>by simp[h11]at hh⟩
 obtain⟨A,cp,a1,a2⟩:=h.call (by simpa using hh);exact⟨A,cp,by simpa[Go.Proofs.YtimjipcplmnpbaaGreat.upd]using a1,a2⟩
end
end Go.Proofs.YtimjipcplmnpbaaGreat
