/-
  Part 18 of what the law leans on.
-/
import Derived.Test.YtiojjokfeknhcaaGreatSC16
import Derived.Test.YtiojjokfeknhcaaGreatSC17
namespace Go.Proofs.YtiojjokfeknhcaaGreat
set_option maxRecDepth 100000
set_option maxHeartbeats 8000000
set_option linter.unusedVariables false
set_option linter.unusedSimpArgs false
set_option linter.unusedSectionVars false
open _root_.Go.Proofs.Tryz
open Go.RowKit Go.Sort
theorem jForget_snoc{L:List Bl}{k:Nat}{b:Bl}(hb:L[k]? = some b):qZo (L.take (k+1))=qZo (L.take k)++(if b.dead&&decide (b.pins=0)then [⟨5,b.id,0, -1⟩]else []):=by
 unfold qZo;rw[qZm _ hb,List.map_append]
 congr 1
 split <;> rfl
theorem jForget_len(L:List Bl)(k:Nat):(qZo (L.take k)).length≤k:=by
 unfold qZo;rw[List.length_map];exact Nat.le_trans (List.length_filter_le _ _) (List.length_take_le _ _)
theorem qXU{m:Int}{f:Bl→Nat→Bool}{L:List Bl}{k:Nat}{b:Bl}(hb:L[k]? = some b):(L.take (k+1)).flatMap (qQD m f)=(L.take k).flatMap (qQD m f)++qQD m f b:=by
 rw[List.take_add_one,hb];simp
theorem jPools_le(m:Int)(f:Bl→Nat→Bool)(b:Bl):(qQD m f b).length≤2:=by
 unfold qQD;rw[List.length_map];exact List.length_filter_le _ _
theorem qZU(m:Int)(f:Bl→Nat→Bool)(L:List Bl)(k:Nat):((L.take k).flatMap (qQD m f)).length≤2 * k:=by
 have:∀l:List Bl,(l.flatMap (qQD m f)).length≤2 * l.length:=fun l=>by
  induction l with
  | nil=>simp
  | cons b l ih =>
   have:=jPools_le m f b
   rw[List.flatMap_cons,List.length_append,List.length_cons];omega
 have h:=this (L.take k)
 have:=List.length_take_le k L
 omega
def qQI(m:Int)(f:Bl→Nat→Bool)(b:Bl)(q:Nat):List Jb:=((List.range q).filter (f b)).map fun(p:Nat)=>⟨m,b.id,(p:Int), -1⟩
theorem qXV(m:Int)(f:Bl→Nat→Bool)(b:Bl):qQI m f b 2=qQD m f b:=rfl
theorem qXz(m:Int)(f:Bl→Nat→Bool)(b:Bl)(q:Nat):qQI m f b (q+1)=qQI m f b q++(if f b q then [⟨m,b.id,(q:Int), -1⟩]else []):=by
 unfold qQI;rw[List.range_succ,List.filter_append,List.map_append]
 congr 1
 by_cases h:f b q=true <;> simp[h]
theorem qXW(m:Int)(f:Bl→Nat→Bool)(b:Bl)(q:Nat):(qQI m f b q).length≤q:=by
 unfold qQI;rw[List.length_map]
 have:=List.length_filter_le (f b) (List.range q)
 simpa using this
theorem tape_dead{W:Wd}{P:Pm}{b:Bl}(h:b.dead=true):qQD 3 (qZM W P) b=[]:=by
 unfold qQD qZM;simp[h]
theorem untape_dead{W:Wd}{b:Bl}(h:b.dead=true):qQD 9 (qQS W) b=[]:=by
 unfold qQD qQS;simp[h]
theorem forgets_any{W0 w:World}{B:Nat→Prop}{pb c mb mn:Nat}{W:Wd}{V:WdV}{bv vv:Value}{P:Pm}{n:Nat}{VL:List Vl}{J:List Jb}(h:PlIn W0 w pb c W V bv vv P.L VL J)(X:PlX W0 B c mb mn W V P n VL)(hJ:J.length≤1000) :
 Calls prog 25 #[.pointer (some ⟨pb,0,none⟩)] w fun e w'=>e=.returned (.tuple #[])∧PlIn W0 w' pb c W V bv vv P.L VL (J++qZo P.L):=by
 obtain⟨bA,bc,rfl⟩:=h.blc;have hlen:P.L.length≤40:=Nat.le_trans X.inv.len X.hn;have HX:=Hh X;have HBI:=Hh qZH;clear X;obtain⟨jv,h1,_⟩:=h.blk;have c10:=h1.cell 10;simp at c10;clear h1
 go_enter func25,ntmps25
 go_wp2_with fail
 clear c10
 go_loopw [9] (fun iv wr=>∃k:Nat,k≤P.L.length∧iv=.int .i64 (k:Int)∧PlIn W0 wr pb c W V (.slice bA P.L.length bc) vv P.L VL (J++qZo (P.L.take k))) (fun iv _=>P.L.length - (intOf iv).toNat)
 case atStart=>exact⟨0,Nat.zero_le _,rfl,by simpa[qZo]using h⟩
 case round =>
  clear h;obtain⟨k,hk,rfl,hp⟩:=hrel
  by_cases hlt:k<P.L.length
  ·obtain⟨b,hb⟩:∃b,P.L[k]? = some b:=⟨_,List.getElem?_eq_getElem hlt⟩;obtain⟨bb,o,dA,dc,DV,rfl,hS,hdv,hod⟩:=hp.row hb;obtain⟨r0,r1,r2,r3,r4,r5,r6,r7,r8,r9,r10,r11,r12⟩:=qQV hS hdv;have hbk:=HX.out.inv.bl b (List.mem_of_getElem? hb);have hdr:=qZy hbk.rises;have hdl:=qZl hbk.rises;have HYb:=Hh (At.new wr 63 (blCells b (.slice dA b.disks.length dc)));have HEb:=Hh ((Er wr).alloc (.cells (blCells b (.slice dA b.disks.length dc)) 63));have HP:=Hh hp;clear hp hS hdv
   go_upto_region 3 with fail
   clear r0 r1 r2 r3 r4 r5 r6 r7 r8 r9 r10 r11 r12;generalize wr.heap.size=yb at HYb⊢;generalize wr.alloc _=W1 at HYb HEb⊢;have hYb:=HYb.out;have HPW:=Hh (HP.out.ext_ HEb.out);have HDW:=Hh (qZd hod HEb.out);have HR:=Hh hYb.range;have hpl:=jForget_snoc hb;have hjl:=jForget_len P.L k;generalize qZo (P.L.take k)=os at HP HPW hpl hjl;have q0:=hYb.cell 0;have q11:=hYb.cell 11;have q12:=hYb.cell 12;simp at q0 q11 q12;clear hYb hbk hb;obtain⟨dd,hdd⟩:∃x,x=b.dead:=⟨_,rfl⟩;rw[←hdd]at q12 hpl;clear hdd;cases dd
   ·have HPL:Hid (qZo (P.L.take (k+1))=os):=Hh (by rw[hpl];simp);clear hpl;go_wp2_with fail
    go_roundw
    case rel=>exact⟨k+1,by omega,by go_num,by rw[HPL.out];exact HPW.out⟩
    case measure=>simp[intOf];omega
   ·by_cases hp0:b.pins=0
    ·have HPL:Hid (qZo (P.L.take (k+1))=os++[⟨5,b.id,0, -1⟩]):=Hh (by rw[hpl];simp[hp0]);have t1:(b.pins == 0)=true:=by rw[hp0];rfl
     clear hpl hp0;have HA:=Hh (qZ8 HPW.out (by simp;omega) ⟨5,b.id,0, -1⟩);go_wp2_with fail
     refine HA.out.mono ?_;rintro e W9 ⟨rfl,hp9,hk9⟩;rw[List.append_assoc]at hp9;have HP9:=Hh hp9;clear hp9 HA;go_wp2_with fail
     go_roundw
     case rel=>exact⟨k+1,by omega,by go_num,by rw[HPL.out];exact HP9.out⟩
     case measure=>simp[intOf];omega
    ·have HPL:Hid (qZo (P.L.take (k+1))=os):=Hh (by rw[hpl];simp[hp0]);have t1:(b.pins == 0)=false:=by simpa using hp0
     clear hpl;go_wp2_with fail
     go_roundw
     case rel=>exact⟨k+1,by omega,by go_num,by rw[HPL.out];exact HPW.out⟩
     case measure=>simp[intOf];omega
  ·obtain rfl:k=P.L.length:=by omega
   rw[List.take_length]at hp;go_wp2_with fail
   go_end0
   exact⟨rfl,hp⟩
theorem tapes_any{W0 w:World}{B:Nat→Prop}{pb c mb mn:Nat}{W:Wd}{V:WdV}{bv vv:Value}{P:Pm}{n:Nat}{VL:List Vl}{J:List Jb}(h:PlIn W0 w pb c W V bv vv P.L VL J)(X:PlX W0 B c mb mn W V P n VL)(hJ:J.length≤1000) :
 Calls prog 23 #[.pointer (some ⟨pb,0,none⟩)] w fun e w'=>e=.returned (.tuple #[])∧PlIn W0 w' pb c W V bv vv P.L VL (J++P.L.flatMap (qQD 3 (qZM W P))):=by
 obtain⟨bA,bc,rfl⟩:=h.blc;have hlen:P.L.length≤40:=Nat.le_trans X.inv.len X.hn;have HX:=Hh X;have HBI:=Hh qZH;clear X;obtain⟨jv,h1,_⟩:=h.blk;have c10:=h1.cell 10;simp at c10;clear h1
 go_enter func23,ntmps23
 go_wp2_with fail
 clear c10
 go_loopw [10] (fun iv wr=>∃k:Nat,k≤P.L.length∧iv=.int .i64 (k:Int)∧PlIn W0 wr pb c W V (.slice bA P.L.length bc) vv P.L VL (J++(P.L.take k).flatMap (qQD 3 (qZM W P)))) (fun iv _=>P.L.length - (intOf iv).toNat)
 case atStart=>exact⟨0,Nat.zero_le _,rfl,by simpa[qQD]using h⟩
 case round =>
  clear h;obtain⟨k,hk,rfl,hp⟩:=hrel
  by_cases hlt:k<P.L.length
  ·obtain⟨b,hb⟩:∃b,P.L[k]? = some b:=⟨_,List.getElem?_eq_getElem hlt⟩;obtain⟨bb,o,dA,dc,DV,rfl,hS,hdv,hod⟩:=hp.row hb;obtain⟨r0,r1,r2,r3,r4,r5,r6,r7,r8,r9,r10,r11,r12⟩:=qQV hS hdv;have hbk:=HX.out.inv.bl b (List.mem_of_getElem? hb);have hdr:=qZy hbk.rises;have hdl:=qZl hbk.rises;have HYb:=Hh (At.new wr 63 (blCells b (.slice dA b.disks.length dc)));have HEb:=Hh ((Er wr).alloc (.cells (blCells b (.slice dA b.disks.length dc)) 63));have HP:=Hh hp;clear hp hS hdv
   go_upto_region 3 with fail
   clear r0 r1 r2 r3 r4 r5 r6 r7 r8 r9 r10 r11 r12;generalize wr.heap.size=yb at HYb⊢;generalize wr.alloc _=W1 at HYb HEb⊢;have hYb:=HYb.out;have HPW:=Hh (HP.out.ext_ HEb.out);have HDW:=Hh (qZd hod HEb.out);have HR:=Hh hYb.range;have hpl:=qXU (m:=3) (f:=qZM W P) hb;have hjl:=qZU 3 (qZM W P) P.L k;generalize (P.L.take k).flatMap (qQD 3 (qZM W P))=os at HP HPW hpl hjl;have q12:=hYb.cell 12;simp at q12;rcases Bool.eq_false_or_eq_true b.dead with hdd|hdd
   ·have HPL:Hid ((P.L.take (k+1)).flatMap (qQD 3 (qZM W P))=os):=Hh (by rw[hpl,tape_dead hdd];simp);rw[hdd]at q12;clear hpl hdd hYb hbk hb;go_wp2_with fail
    go_roundw
    case rel=>exact⟨k+1,by omega,by go_num,by rw[HPL.out];exact HPW.out⟩
    case measure=>simp[intOf];omega
   ·have HDE:=Hh hdd;rw[hdd]at q12;have HBK:=Hh hbk;have HYB:=Hh (fun w2 (hE:Ext W1 w2)=>hYb.ext hE);have HDX:=Hh (fun w2 (hE:Ext W1 w2)=>qZd HDW.out hE);rw[←qXV]at hpl;have HPL0:=Hh hpl;clear hdd hYb hbk hb hpl HP HEb HDW HR;clear hod;clear wr;go_wp2_with fail
    clear q12
    go_loopw [16] (fun iv wr=>∃q:Nat,q≤2∧iv=.int .i64 (q:Int)∧PlIn W0 wr pb c W V (.slice (some ⟨bb,o,none⟩) P.L.length bc) vv P.L VL (J++os++qQI 3 (qZM W P) b q)∧KpJ W1 wr) (fun iv _=>2 - (intOf iv).toNat)
    case atStart=>exact⟨0,by omega,rfl,by simpa[qQI]using HPW.out,KpJ.refl _⟩
    case round =>
     clear HPW;obtain⟨q,hq,rfl,hpi,hEi⟩:=hrel
     by_cases hq2:q<2
     ·have hps:=qXz 3 (qZM W P) b q;have hpn:=qXW 3 (qZM W P) b q;generalize qQI 3 (qZM W P) b q=pq at hpi hps hpn;have HPI:=Hh hpi;have HEI:=Hh hEi;clear hpi hEi;obtain⟨y0,y1,y2⟩:=bl_copy b (.slice dA b.disks.length dc) q hq2;have hYi:=HEI.out _ _ _ (by decide) (by decide) (HYB.out W1 (Er W1));have x0:=hYi.cell (5+q * 3);rw[y0]at x0;have x00:=hYi.cell 0;have x02:=hYi.cell 2;simp at x00 x02
      have hfb:qZM W P b q=(!(b.copy q).there&&decide (0≤qQ1 P W.vols (q:Int) (qQy b.size) (-1) W.vols.length)):=by
       unfold qZM;rw[HDE.out];simp
      rw[hfb]at hps;clear hfb y0 y1 y2 hYi;obtain⟨th,hth⟩:∃x,x=(b.copy q).there:=⟨_,rfl⟩;rw[←hth]at x0 hps;clear hth;cases th
      ·obtain⟨jv,h1,_⟩:=HPI.out.blk;have p0:=h1.cell 0;have p2:=h1.cell 2;simp at p0 p2;have rg:∀ {p:Addr} {v:Value},wr.cell? p=some v→∀d os,(grow (redrawn wr d) os).cell? p=some v:=fun h d os=>(Ext.cell (qQn wr d os) (qQv h)).trans h
       have z0:=rg p0;have z2:=rg p2;have z3:=rg x02;have hsz:=HBK.out.size;have c1:Hid (∀dd os,Calls prog 56 #[.int .i64 b.size] (grow (redrawn wr dd) os) fun e w''=>e=.returned (.int .i64 (qQy b.size))∧∃p:Regrown,w''=grow (redrawn wr p.d) p.os):=Hh fun dd os=>Calls.ext_of (weight_any _ b.size hsz.1 hsz.2)
       have c2:Hid (∀dd os,Calls prog 55 #[.pointer (some ⟨c,0,none⟩),V.v,.int .i64 (q:Int),.int .i64 (qQy b.size),.int .i64 (-1)] (grow (redrawn wr dd) os) fun e w''=>e=.returned (.int .i64 (qQ1 P W.vols (q:Int) (qQy b.size) (-1) W.vols.length))∧∃p:Regrown,w''=grow (redrawn wr p.d) p.os):=Hh fun dd os=>Calls.ext_of (volume_any _ B c mb mn _ P W.vols (HX.out.cat.ext (HPI.out.ext.trans (qQn wr dd os))) (HX.out.hW.v.ext (HPI.out.ext.trans (qQn wr dd os))) HX.out.hO.v (q:Int) (qQy b.size) (-1))
       generalize qQ1 P W.vols (q:Int) (qQy b.size) (-1) W.vols.length=vo at c2 hps;generalize qQy b.size=wt at c1 c2;clear rg h1 p0 p2 x02 hsz
       go_upto_region 8 with fail
       refine qQc (by kernel_rfl) (by kernel_rfl) ?_
       repeat (go_big_quiet_step (first|with_reducible exact c1.out _ _|with_reducible exact c2.out _ _))
       refine wpQuiet_nil ?_;intro W8 hE8;have HP8:=Hh (HPI.out.ext_ hE8);have HK8:=Hh (HEI.out.trans (KpJ.of_ext hE8));have u0:=(Ext.cell hE8 (qQv x00)).trans x00;clear z0 z2 z3 c1 c2 x0 x00
       by_cases hv:0≤vo
       ·have HPS:Hid (qQI 3 (qZM W P) b (q+1)=pq++[⟨3,b.id,(q:Int), -1⟩]):=Hh (by rw[hps];simp[hv]);have t1:decide (0≤vo)=true:=by simpa using hv
        clear hps;have HA:=Hh (qZ8 HP8.out (by simp;omega) ⟨3,b.id,(q:Int), -1⟩);go_wp2_with fail
        refine HA.out.mono ?_;rintro e W9 ⟨rfl,hp9,hk9⟩;rw[List.append_assoc]at hp9;have HP9:=Hh hp9;clear hp9 HA;go_wp2_with fail
        go_roundw
        case rel=>exact⟨q+1,by omega,by go_num,by rw[HPS.out];exact HP9.out,HK8.out.trans hk9⟩
        case measure=>simp[intOf];omega
       ·have HPS:Hid (qQI 3 (qZM W P) b (q+1)=pq):=Hh (by rw[hps];simp[hv]);have t1:decide (0≤vo)=false:=by simpa using hv
        clear hps;go_wp2_with fail
        go_roundw
        case rel=>exact⟨q+1,by omega,by go_num,by rw[HPS.out];exact HP8.out,HK8.out⟩
        case measure=>simp[intOf];omega
      ·have HPS:Hid (qQI 3 (qZM W P) b (q+1)=pq):=Hh (by rw[hps];simp);clear hps;go_wp2_with fail
       go_roundw
       case rel=>exact⟨q+1,by omega,by go_num,by rw[HPS.out];exact HPI.out,HEI.out⟩
       case measure=>simp[intOf];omega
     ·obtain rfl:q=2:=by omega
      have HPL:Hid ((P.L.take (k+1)).flatMap (qQD 3 (qZM W P))=os++qQI 3 (qZM W P) b 2):=Hh HPL0.out;have HPI:Hid (PlIn W0 wr pb c W V (.slice (some ⟨bb,o,none⟩) P.L.length bc) vv P.L VL (J++(os++qQI 3 (qZM W P) b 2))):=Hh (by rw[←List.append_assoc];exact hpi);clear hpi;go_wp2_with fail
      go_roundw
      case rel=>exact⟨k+1,by omega,by go_num,by rw[HPL.out];exact HPI.out⟩
      case measure=>simp[intOf];omega
  ·obtain rfl:k=P.L.length:=by omega
   rw[List.take_length]at hp;go_wp2_with fail
   go_end0
   exact⟨rfl,hp⟩
open Go.RowKit Go.Sort
theorem qZ6{n:Nat}{b:Bl}(h:BlOk n b)(p:Nat):0≤(b.copy p).vol:=by
 unfold Bl.copy;split
 ·rcases h.cb with e|e
  ·rw[e];decide
  ·exact e.2.2.1
 ·rcases h.ca with e|e
  ·rw[e];decide
  ·exact e.2.2.1
theorem untapes_any{W0 w:World}{B:Nat→Prop}{pb c mb mn:Nat}{W:Wd}{V:WdV}{bv vv:Value}{P:Pm}{n:Nat}{VL:List Vl}{J:List Jb}(h:PlIn W0 w pb c W V bv vv P.L VL J)(X:PlX W0 B c mb mn W V P n VL)(hJ:J.length≤1000) :
 Calls prog 29 #[.pointer (some ⟨pb,0,none⟩)] w fun e w'=>e=.returned (.tuple #[])∧PlIn W0 w' pb c W V bv vv P.L VL (J++P.L.flatMap (qQD 9 (qQS W))):=by
 obtain⟨bA,bc,rfl⟩:=h.blc;have hlen:P.L.length≤40:=Nat.le_trans X.inv.len X.hn;have HX:=Hh X;have HBI:=Hh qZH;clear X;obtain⟨jv,h1,_⟩:=h.blk;have c10:=h1.cell 10;simp at c10;clear h1
 go_enter func29,ntmps29
 go_wp2_with fail
 clear c10
 go_loopw [10] (fun iv wr=>∃k:Nat,k≤P.L.length∧iv=.int .i64 (k:Int)∧PlIn W0 wr pb c W V (.slice bA P.L.length bc) vv P.L VL (J++(P.L.take k).flatMap (qQD 9 (qQS W)))) (fun iv _=>P.L.length - (intOf iv).toNat)
 case atStart=>exact⟨0,Nat.zero_le _,rfl,by simpa[qQD]using h⟩
 case round =>
  clear h;obtain⟨k,hk,rfl,hp⟩:=hrel
  by_cases hlt:k<P.L.length
  ·obtain⟨b,hb⟩:∃b,P.L[k]? = some b:=⟨_,List.getElem?_eq_getElem hlt⟩;obtain⟨bb,o,dA,dc,DV,rfl,hS,hdv,hod⟩:=hp.row hb;obtain⟨r0,r1,r2,r3,r4,r5,r6,r7,r8,r9,r10,r11,r12⟩:=qQV hS hdv;have hbk:=HX.out.inv.bl b (List.mem_of_getElem? hb);have hdr:=qZy hbk.rises;have hdl:=qZl hbk.rises;have HYb:=Hh (At.new wr 63 (blCells b (.slice dA b.disks.length dc)));have HEb:=Hh ((Er wr).alloc (.cells (blCells b (.slice dA b.disks.length dc)) 63));have HP:=Hh hp;clear hp hS hdv
   go_upto_region 3 with fail
   clear r0 r1 r2 r3 r4 r5 r6 r7 r8 r9 r10 r11 r12;generalize wr.heap.size=yb at HYb⊢;generalize wr.alloc _=W1 at HYb HEb⊢;have hYb:=HYb.out;have HPW:=Hh (HP.out.ext_ HEb.out);have HDW:=Hh (qZd hod HEb.out);have HR:=Hh hYb.range;have hpl:=qXU (m:=9) (f:=qQS W) hb;have hjl:=qZU 9 (qQS W) P.L k;generalize (P.L.take k).flatMap (qQD 9 (qQS W))=os at HP HPW hpl hjl;have q12:=hYb.cell 12;simp at q12;rcases Bool.eq_false_or_eq_true b.dead with hdd|hdd
   ·have HPL:Hid ((P.L.take (k+1)).flatMap (qQD 9 (qQS W))=os):=Hh (by rw[hpl,untape_dead hdd];simp);rw[hdd]at q12;clear hpl hdd hYb hbk hb;go_wp2_with fail
    go_roundw
    case rel=>exact⟨k+1,by omega,by go_num,by rw[HPL.out];exact HPW.out⟩
    case measure=>simp[intOf];omega
   ·have HDE:=Hh hdd;rw[hdd]at q12;have HBK:=Hh hbk;have HYB:=Hh (fun w2 (hE:Ext W1 w2)=>hYb.ext hE);have HDX:=Hh (fun w2 (hE:Ext W1 w2)=>qZd HDW.out hE);rw[←qXV]at hpl;have HPL0:=Hh hpl;clear hdd hYb hbk hb hpl HP HEb HDW HR;clear hod;clear wr;go_wp2_with fail
    clear q12
    go_loopw [16] (fun iv wr=>∃q:Nat,q≤2∧iv=.int .i64 (q:Int)∧PlIn W0 wr pb c W V (.slice (some ⟨bb,o,none⟩) P.L.length bc) vv P.L VL (J++os++qQI 9 (qQS W) b q)∧KpJ W1 wr) (fun iv _=>2 - (intOf iv).toNat)
    case atStart=>exact⟨0,by omega,rfl,by simpa[qQI]using HPW.out,KpJ.refl _⟩
    case round =>
     clear HPW;obtain⟨q,hq,rfl,hpi,hEi⟩:=hrel
     by_cases hq2:q<2
     ·have hps:=qXz 9 (qQS W) b q;have hpn:=qXW 9 (qQS W) b q;generalize qQI 9 (qQS W) b q=pq at hpi hps hpn;have HPI:=Hh hpi;have HEI:=Hh hEi;clear hpi hEi;obtain⟨y0,y1,y2⟩:=bl_copy b (.slice dA b.disks.length dc) q hq2;have hYi:=HEI.out _ _ _ (by decide) (by decide) (HYB.out W1 (Er W1));have x0:=hYi.cell (5+q * 3);rw[y0]at x0;have HYI:=Hh (fun w2 (hE:Ext wr w2)=>(hYi.ext hE).range);have HYC:=Hh (fun w2 (hE:Ext wr w2)=>(hYi.ext hE).cell 0);have HRi:=Hh hYi.range;have hod:=HEI.out.own (HDX.out W1 (Er W1)) (by decide) (by decide);have HOD:=Hh hod
      have hfb:qQS W b q=((b.copy q).there && !qZk W (b.copy q)&&(decide (0<(qQ5 W b).length)||qZk W (b.copy (1 - q)))):=by
       unfold qQS;rw[HDE.out];simp
      rw[hfb]at hps;have HT1:=Hh (qXG HPI.out HX.out.hW HX.out.hO b dA b.disks.length dc q hq2 (qZ6 HBK.out q));clear hfb y0 y1 y2 hYi hod;obtain⟨th,hth⟩:∃x,x=(b.copy q).there:=⟨_,rfl⟩;rw[←hth]at x0 hps;clear hth;cases th
      ·have HPS:Hid (qQI 9 (qQS W) b (q+1)=pq):=Hh (by rw[hps];simp);clear hps;go_wp2_with fail
       go_roundw
       case rel=>exact⟨q+1,by omega,by go_num,by rw[HPS.out];exact HPI.out,HEI.out⟩
       case measure=>simp[intOf];omega
      ·generalize qZk W (b.copy q)=so at hps HT1
       go_wp2_with (refine qQm rfl 63 _ rfl yb 0 rfl _ _ HRi.out underlying63 rfl HBI.out ?_)
       refine HT1.out.mono ?_;rintro e W2 ⟨rfl,hE2⟩;clear HT1 x0;have HP2:=Hh (HPI.out.ext_ hE2);have HK2:=Hh (HEI.out.trans (KpJ.of_ext hE2));cases so
       ·have HR2:=Hh (HYI.out W2 hE2);have HG:=Hh (pgood_any HP2.out HX.out.hW HX.out.hO b (.slice dA b.disks.length dc) (qQ8 (qZd HOD.out hE2)) hdr hdl)
        go_wp2_with (refine qQm rfl 63 _ rfl yb 0 rfl _ _ HR2.out underlying63 rfl HBI.out ?_)
        refine HG.out.mono ?_;rintro e W3 ⟨gv,rfl,hg3,hE3⟩;have hgl:(qQ5 W b).length≤6:=Nat.le_trans (List.length_filter_le _ _) hdl;obtain⟨gA,gc,rfl⟩:=qQa hg3;clear hg3 HG;generalize (qQ5 W b).length=gn at hps hgl;have hE23:=hE2.trans hE3;have HP3:=Hh (HP2.out.ext_ hE3);have HK3:=Hh (HK2.out.trans (KpJ.of_ext hE3));have u0:W3.cell? ⟨yb,0,none⟩=some (.int .u64 (b.id:Int)):=HYC.out W3 hE23
        by_cases hg0:gn=0
        ·have t1:¬ (0<gn):=by omega
         have HR3:=Hh (HYI.out W3 hE23);obtain⟨m,hm⟩:∃m:Nat,m=1 - q:=⟨_,rfl⟩;have hmI:(m:Int)=1 - (q:Int):=by omega
         have hm2:m<2:=by omega
         have hT2:=qXG HP3.out HX.out.hW HX.out.hO b dA b.disks.length dc m hm2 (qZ6 HBK.out m);rw[hmI]at hT2;rw[hm]at hT2;have HT2:=Hh hT2;have hw1:IntKind.i64.wrap (1 - (q:Int))=1 - (q:Int):=IntWalk.i64_in _ (by omega);clear hT2 hmI hm2 hm;subst hg0;clear m;generalize qZk W (b.copy (1 - q))=s2 at hps HT2
         go_wp2_with (refine qQm rfl 63 _ rfl yb 0 rfl _ _ HR3.out underlying63 rfl HBI.out ?_)
         refine HT2.out.mono ?_;rintro e W4 ⟨rfl,hE4⟩;clear HT2 hw1;have HP4:=Hh (HP3.out.ext_ hE4);have HK4:=Hh (HK3.out.trans (KpJ.of_ext hE4));have v0:=(Ext.cell hE4 (qQv u0)).trans u0;cases s2
         ·have HPS:Hid (qQI 9 (qQS W) b (q+1)=pq):=Hh (by rw[hps];simp);clear hps;go_wp2_with fail
          go_roundw
          case rel=>exact⟨q+1,by omega,by go_num,by rw[HPS.out];exact HP4.out,HK4.out⟩
          case measure=>simp[intOf];omega
         ·have HPS:Hid (qQI 9 (qQS W) b (q+1)=pq++[⟨9,b.id,(q:Int), -1⟩]):=Hh (by rw[hps];simp);clear hps;have HA:=Hh (qZ8 HP4.out (by simp;omega) ⟨9,b.id,(q:Int), -1⟩);go_wp2_with fail
          refine HA.out.mono ?_;rintro e W9 ⟨rfl,hp9,hk9⟩;rw[List.append_assoc]at hp9;have HP9:=Hh hp9;clear hp9 HA;go_wp2_with fail
          go_roundw
          case rel=>exact⟨q+1,by omega,by go_num,by rw[HPS.out];exact HP9.out,HK4.out.trans hk9⟩
          case measure=>simp[intOf];omega
        ·have hg1:0<gn:=by omega
         have HPS:Hid (qQI 9 (qQS W) b (q+1)=pq++[⟨9,b.id,(q:Int), -1⟩]):=Hh (by rw[hps];simp[hg1]);have t1:decide (0<gn)=true:=by simpa using hg1
         clear hps;have HA:=Hh (qZ8 HP3.out (by simp;omega) ⟨9,b.id,(q:Int), -1⟩);go_wp2_with fail
         refine HA.out.mono ?_;rintro e W9 ⟨rfl,hp9,hk9⟩;rw[List.append_assoc]at hp9;have HP9:=Hh hp9;clear hp9 HA;go_wp2_with fail
         go_roundw
         case rel=>exact⟨q+1,by omega,by go_num,by rw[HPS.out];exact HP9.out,HK3.out.trans hk9⟩
         case measure=>simp[intOf];omega
       ·have HPS:Hid (qQI 9 (qQS W) b (q+1)=pq):=Hh (by rw[hps];simp);clear hps;go_wp2_with fail
        go_roundw
        case rel=>exact⟨q+1,by omega,by go_num,by rw[HPS.out];exact HP2.out,HK2.out⟩
        case measure=>simp[intOf];omega
     ·obtain rfl:q=2:=by omega
      have HPL:Hid ((P.L.take (k+1)).flatMap (qQD 9 (qQS W))=os++qQI 9 (qQS W) b 2):=Hh HPL0.out;have HPI:Hid (PlIn W0 wr pb c W V (.slice (some ⟨bb,o,none⟩) P.L.length bc) vv P.L VL (J++(os++qQI 9 (qQS W) b 2))):=Hh (by rw[←List.append_assoc];exact hpi);clear hpi;go_wp2_with fail
      go_roundw
      case rel=>exact⟨k+1,by omega,by go_num,by rw[HPL.out];exact HPI.out⟩
      case measure=>simp[intOf];omega
  ·obtain rfl:k=P.L.length:=by omega
   rw[List.take_length]at hp;go_wp2_with fail
   go_end0
   exact⟨rfl,hp⟩
open Go.RowKit Go.Sort
def qZp(L:List Bl):Nat:=(L.filter fun b=>decide (0<b.disks.length)).length
theorem qJs{L:List Bl}{k:Nat}{b:Bl}(hb:L[k]? = some b):qZp (L.take (k+1))=qZp (L.take k)+(if 0<b.disks.length then 1 else 0):=by
 unfold qZp;rw[qZm _ hb,List.length_append]
 congr 1
 by_cases h:0<b.disks.length <;> simp[h]
theorem qXm(L:List Bl)(k:Nat):qZp (L.take k)≤k:=Nat.le_trans (List.length_filter_le _ _) (List.length_take_le _ _)
def qQ3(W:Wd)(L:List Bl):List Jb:=(L.filter (qX8 W)).map fun b=>⟨4,b.id,0, -1⟩
theorem freeds_snoc{W:Wd}{L:List Bl}{k:Nat}{b:Bl}(hb:L[k]? = some b):qQ3 W (L.take (k+1))=qQ3 W (L.take k)++(if qX8 W b then [⟨4,b.id,0, -1⟩]else []):=by
 unfold qQ3;rw[qZm _ hb,List.map_append]
 congr 1
 split <;> rfl
theorem freeds_len(W:Wd)(L:List Bl)(k:Nat):(qQ3 W (L.take k)).length≤k:=by
 unfold qQ3;rw[List.length_map];exact Nat.le_trans (List.length_filter_le _ _) (List.length_take_le _ _)
theorem jFree_early{W:Wd}{L:List Bl}{k:Nat}(h1:(qQ3 W (L.take k)).length≤(qX9 W L).toNat)(h2:qX9 W L - ((qQ3 W (L.take k)).length:Int)≤0):qZD W L=qQ3 W (L.take k):=by
 have e:(qQ3 W (L.take k)).length=((L.take k).filter (qX8 W)).length:=by unfold qQ3;rw[List.length_map]
 have e2:L.filter (qX8 W)=(L.take k).filter (qX8 W)++(L.drop k).filter (qX8 W):=by rw[←List.filter_append,List.take_append_drop]
 unfold qZD;rw[e2]
 have:(qX9 W L).toNat=((L.take k).filter (qX8 W)).length:=by omega
 rw[this,List.take_left']
 ·rfl
 ·rfl
theorem jFree_all{W:Wd}{L:List Bl}(h1:(qQ3 W L).length≤(qX9 W L).toNat):qZD W L=qQ3 W L:=by
 unfold qZD;rw[List.take_of_length_le]
 ·rfl
 ·unfold qQ3 at h1
  rwa[List.length_map]at h1
theorem moreOf_on(W:Wd)(L:List Bl):qX9 W L=(qZp L:Int) - W.keep:=rfl
theorem frees_any{W0 w:World}{B:Nat→Prop}{pb c mb mn:Nat}{W:Wd}{V:WdV}{bv vv:Value}{P:Pm}{n:Nat}{VL:List Vl}{J:List Jb}(h:PlIn W0 w pb c W V bv vv P.L VL J)(X:PlX W0 B c mb mn W V P n VL)(hJ:J.length≤1000) :
 Calls prog 24 #[.pointer (some ⟨pb,0,none⟩)] w fun e w'=>e=.returned (.tuple #[])∧PlIn W0 w' pb c W V bv vv P.L VL (J++qZD W P.L):=by
 obtain⟨bA,bc,rfl⟩:=h.blc;have hlen:P.L.length≤40:=Nat.le_trans X.inv.len X.hn;have HX:=Hh X;have HBI:=Hh qZH;have hkeep:=X.hO.k;have hmax:max W.keep 0=W.keep:=by omega
 have hw0:IntKind.i64.wrap (-W.keep) = -W.keep:=IntWalk.i64_in _ (by omega);have h2:=h;clear X;obtain⟨jv,h1,_⟩:=h.blk;have c10:=h1.cell 10;have c7:=h1.cell 7;simp at c10 c7;clear h1
 go_enter func24,ntmps24
 go_wp2_with fail
 clear c7
 go_loopw [2,19] (fun mv iv wr=>∃k:Nat,k≤P.L.length∧iv=.int .i64 (k:Int)∧mv=.int .i64 (-W.keep+(qZp (P.L.take k):Int))∧PlIn W0 wr pb c W V (.slice bA P.L.length bc) vv P.L VL J) (fun _ iv _=>P.L.length - (intOf iv).toNat)
 case atStart=>exact⟨0,Nat.zero_le _,rfl,by congr 1;simp[qZp],h⟩
 case round =>
  clear h h2 hmax hw0 c10;obtain⟨k,hk,rfl,rfl,hp⟩:=hrel
  by_cases hlt:k<P.L.length
  ·obtain⟨b,hb⟩:∃b,P.L[k]? = some b:=⟨_,List.getElem?_eq_getElem hlt⟩;obtain⟨bb,o,dA,dc,DV,rfl,hS,hdv,hod⟩:=hp.row hb;obtain⟨r0,r1,r2,r3,r4,r5,r6,r7,r8,r9,r10,r11,r12⟩:=qQV hS hdv;have hbk:=HX.out.inv.bl b (List.mem_of_getElem? hb);have hdr:=qZy hbk.rises;have hdl:=qZl hbk.rises;have HYb:=Hh (At.new wr 63 (blCells b (.slice dA b.disks.length dc)));have HEb:=Hh ((Er wr).alloc (.cells (blCells b (.slice dA b.disks.length dc)) 63));have HP:=Hh hp;clear hp hS hdv
   go_upto_region 4 with fail
   clear r0 r1 r2 r3 r4 r5 r6 r7 r8 r9 r10 r11 r12;generalize wr.heap.size=yb at HYb⊢;generalize wr.alloc _=W1 at HYb HEb⊢;have hYb:=HYb.out;have HPW:=Hh (HP.out.ext_ HEb.out);have HDW:=Hh (qZd hod HEb.out);have HR:=Hh hYb.range;have q4:=hYb.cell 4;simp at q4;have hos:=qJs hb;have hon:=qXm P.L k;generalize qZp (P.L.take k)=on at hos hon⊢;have HOS:=Hh hos;clear hYb hbk hb HP HEb HR HDW hod hos
   by_cases hd0:0<b.disks.length
   ·have t1:decide (0<b.disks.length)=true:=by simpa using hd0
    have hw1:IntKind.i64.wrap (-W.keep+(on:Int)+1) = -W.keep+(on:Int)+1:=IntWalk.i64_in _ (by omega);have HON:Hid (qZp (P.L.take (k+1))=on+1):=Hh (by rw[HOS.out,if_pos hd0]);go_wp2_with fail
    go_roundw
    case rel=>exact⟨k+1,by omega,by go_num,by rw[HON.out];congr 1;omega,HPW.out⟩
    case measure=>simp[intOf];omega
   ·have t1:decide (0<b.disks.length)=false:=by simpa using hd0
    have HON:Hid (qZp (P.L.take (k+1))=on):=Hh (by rw[HOS.out,if_neg hd0];rfl);go_wp2_with fail
    go_roundw
    case rel=>exact⟨k+1,by omega,by go_num,by rw[HON.out],HPW.out⟩
    case measure=>simp[intOf];omega
  ·obtain rfl:k=P.L.length:=by omega
   rw[List.take_length];obtain⟨mo,hmo⟩:∃mo:Int,mo=qX9 W P.L:=⟨_,rfl⟩;have hm2 : -W.keep+(qZp P.L:Int)=mo:=by rw[hmo,moreOf_on];omega
   rw[hm2];have hon:=qXm P.L P.L.length;rw[List.take_length]at hon;have hmr : -100≤mo∧mo≤40:=by omega
   have HMO:=Hh hmo;obtain⟨jv,h1,h1x⟩:=hp.blk;have c10:=h1.cell 10;simp at c10;clear h1 h1x hm2 hon hmo;have HP0:=Hh hp;clear hp hlt;go_wp2_with fail
   clear c10;obtain⟨wo,hwo⟩:∃wo:World,wo=wr:=⟨_,rfl⟩;rw[←hwo];rw[←hwo]at HP0;clear hwo;clear wr
   go_loopw [2,35] (fun mv iv wr=>∃k:Nat,k≤P.L.length∧iv=.int .i64 (k:Int)∧mv=.int .i64 (mo - ((qQ3 W (P.L.take k)).length:Int))∧(qQ3 W (P.L.take k)).length≤mo.toNat∧PlIn W0 wr pb c W V (.slice bA P.L.length bc) vv P.L VL (J++qQ3 W (P.L.take k))) (fun _ iv _=>P.L.length - (intOf iv).toNat)
   case atStart=>exact⟨0,Nat.zero_le _,rfl,by simp[qQ3],by simp[qQ3],by simpa[qQ3]using HP0.out⟩
   case round =>
    clear HP0;obtain⟨k,hk,rfl,rfl,hle,hp⟩:=hrel
    by_cases hlt:k<P.L.length
    ·obtain⟨b,hb⟩:∃b,P.L[k]? = some b:=⟨_,List.getElem?_eq_getElem hlt⟩;obtain⟨bb,o,dA,dc,DV,rfl,hS,hdv,hod⟩:=hp.row hb;obtain⟨r0,r1,r2,r3,r4,r5,r6,r7,r8,r9,r10,r11,r12⟩:=qQV hS hdv;have hbk:=HX.out.inv.bl b (List.mem_of_getElem? hb);have hdr:=qZy hbk.rises;have hdl:=qZl hbk.rises;have HYb:=Hh (At.new wr 63 (blCells b (.slice dA b.disks.length dc)));have HEb:=Hh ((Er wr).alloc (.cells (blCells b (.slice dA b.disks.length dc)) 63));have HP:=Hh hp;clear hp hS hdv
     go_upto_region 10 with fail
     clear r0 r1 r2 r3 r4 r5 r6 r7 r8 r9 r10 r11 r12;generalize wr.heap.size=yb at HYb⊢;generalize wr.alloc _=W1 at HYb HEb⊢;have hYb:=HYb.out;have HPW:=Hh (HP.out.ext_ HEb.out);have HDW:=Hh (qZd hod HEb.out);have HR:=Hh hYb.range;have q4:=hYb.cell 4;simp at q4
     by_cases hmore:mo - ((qQ3 W (P.L.take k)).length:Int)≤0
     ·have HFE:=Hh (jFree_early (W:=W) (L:=P.L) (k:=k) (by rw[←HMO.out];exact hle) (by rw[←HMO.out];exact hmore));have t0:decide (mo - ((qQ3 W (P.L.take k)).length:Int)≤0)=true:=by simpa using hmore
      generalize qQ3 W (P.L.take k)=fs at *;clear hYb hbk hb HP HEb HR HDW hod q4 hle;go_wp2_with fail
      refine bodyPost_ret (results_none rfl _ _ _) rfl ?_;exact⟨rfl,by rw[HFE.out];exact HPW.out⟩
     ·have HT0:=Hh (qXG HPW.out HX.out.hW HX.out.hO b dA b.disks.length dc 0 (by decide) (qZ6 hbk 0));have HYR:=Hh (fun w2 (hE:Ext W1 w2)=>(HYb.out.ext hE).range);have HYC:=Hh (fun w2 (hE:Ext W1 w2)=>(HYb.out.ext hE).cell 0);have HT1:=Hh (fun w2 (hE:Ext W1 w2)=>qXG (HPW.out.ext_ hE) HX.out.hW HX.out.hO b dA b.disks.length dc 1 (by decide) (qZ6 hbk 1));have u0:W1.cell? ⟨yb,0,none⟩=some (.int .u64 (b.id:Int)):=HYC.out W1 (Er W1);rw[show b.copy 0=b.a from rfl]at HT0;rw[show b.copy 1=b.b from rfl]at HT1;have hfs:=freeds_snoc (W:=W) hb;have hfl:=freeds_len W P.L k;rw[show qX8 W b=(decide (0<b.disks.length)&&qZk W b.a&&qZk W b.b)from rfl]at hfs;generalize qQ3 W (P.L.take k)=fs at hfs hfl HPW hle hmore⊢;have HFS:=Hh hfs;have HLE:=Hh hle;clear hYb hbk hb HP HEb HDW hod hfs hle;generalize qZk W b.a=sa at HFS HT0;generalize qZk W b.b=sb at HFS HT1;have t0:decide (mo - (fs.length:Int)≤0)=false:=by simpa using hmore
      by_cases hd0:0<b.disks.length
      ·have t1:decide (0<b.disks.length)=true:=by simpa using hd0
       go_wp2_with (refine qQm rfl 63 _ rfl yb 0 rfl _ _ HR.out underlying63 rfl HBI.out ?_)
       refine HT0.out.mono ?_;rintro e W2 ⟨rfl,hE2⟩;clear HT0 q4;have HP2:=Hh (HPW.out.ext_ hE2);cases sa
       ·have HFX:Hid (qQ3 W (P.L.take (k+1))=fs):=Hh (by rw[HFS.out];simp);go_wp2_with fail
        go_roundw
        case rel=>exact⟨k+1,by omega,by go_num,by rw[HFX.out],by rw[HFX.out];exact HLE.out,by rw[HFX.out];exact HP2.out⟩
        case measure=>simp[intOf];omega
       ·have HR2:=Hh (HYR.out W2 hE2);have HT1a:=Hh (HT1.out W2 hE2);clear HT1
        go_wp2_with (refine qQm rfl 63 _ rfl yb 0 rfl _ _ HR2.out underlying63 rfl HBI.out ?_)
        refine HT1a.out.mono ?_;rintro e W3 ⟨rfl,hE3⟩;clear HT1a;have HP3:=Hh (HP2.out.ext_ hE3);have v0:W3.cell? ⟨yb,0,none⟩=some (.int .u64 (b.id:Int)):=HYC.out W3 (hE2.trans hE3);cases sb
        ·have HFX:Hid (qQ3 W (P.L.take (k+1))=fs):=Hh (by rw[HFS.out];simp);go_wp2_with fail
         go_roundw
         case rel=>exact⟨k+1,by omega,by go_num,by rw[HFX.out],by rw[HFX.out];exact HLE.out,by rw[HFX.out];exact HP3.out⟩
         case measure=>simp[intOf];omega
        ·have HFX:Hid (qQ3 W (P.L.take (k+1))=fs++[⟨4,b.id,0, -1⟩]):=Hh (by rw[HFS.out];simp[hd0]);have HA:=Hh (qZ8 HP3.out (by simp;omega) ⟨4,b.id,0, -1⟩);have hw1:IntKind.i64.wrap (mo - (fs.length:Int) - 1)=mo - (fs.length:Int) - 1:=IntWalk.i64_in _ (by omega);go_wp2_with fail
         refine HA.out.mono ?_;rintro e W9 ⟨rfl,hp9,_⟩;rw[List.append_assoc]at hp9;have HP9:=Hh hp9;clear hp9 HA;go_wp2_with fail
         go_roundw
         case rel=>exact⟨k+1,by omega,by go_num,by rw[HFX.out];congr 1;simp;omega,by rw[HFX.out];have:=HLE.out;simp;omega,by rw[HFX.out];exact HP9.out⟩
         case measure=>simp[intOf];omega
      ·have t1:decide (0<b.disks.length)=false:=by simpa using hd0
       have HFX:Hid (qQ3 W (P.L.take (k+1))=fs):=Hh (by rw[HFS.out];simp[hd0]);go_wp2_with fail
       go_roundw
       case rel=>exact⟨k+1,by omega,by go_num,by rw[HFX.out],by rw[HFX.out];exact HLE.out,by rw[HFX.out];exact HPW.out⟩
       case measure=>simp[intOf];omega
    ·obtain rfl:k=P.L.length:=by omega
     rw[List.take_length]at hp hle;have HFE:=Hh (jFree_all (W:=W) (L:=P.L) (by rw[←HMO.out];exact hle));clear hle;go_wp2_with fail
     go_end0
     exact⟨rfl,by rw[HFE.out];exact hp⟩
end Go.Proofs.YtiojjokfeknhcaaGreat
