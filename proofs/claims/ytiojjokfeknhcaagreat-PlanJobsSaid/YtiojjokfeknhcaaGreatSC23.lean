/-
  Part 23 of what the law leans on.
-/
import Derived.Test.YtiojjokfeknhcaaGreatSC16
import Derived.Test.YtiojjokfeknhcaaGreatSC18
import Derived.Test.YtiojjokfeknhcaaGreatSC19
import Derived.Test.YtiojjokfeknhcaaGreatSC22
namespace Go.Proofs.YtiojjokfeknhcaaGreat
set_option maxRecDepth 100000
set_option maxHeartbeats 8000000
set_option linter.unusedVariables false
set_option linter.unusedSimpArgs false
set_option linter.unusedSectionVars false
open _root_.Go.Proofs.Tryz
open Go.RowKit Go.Sort
theorem qXg:(prog.info? 49).map (fun i=>(i.zero,i.size,i.bytes))=some (some (.agg #[.int .i64 0,.int .u64 0,.int .i64 0,.int .i64 0]),4,32):=by kernel_rfl
def Nn(v:Value):Prop:=∃A m c,v=.slice (some A) m c
theorem own_nn{w:World}{base:Nat}{e:TypeId}{size:Nat}{v:Value}{n:Nat}{xs:List Value}(h:w.ownsRow base e size v (n+1) xs):Nn v:=by
 rcases h.2 with⟨_,h0⟩|⟨g,cap,cur,hv,_⟩
 ·omega
 ·exact⟨_,_,_,hv⟩
def frs(W:Wd)(L:List Bl)(mo:Int)(k:Nat):List Jb:=(qQ3 W (L.take k)).take mo.toNat
theorem frs_snoc{W:Wd}{L:List Bl}{mo:Int}{k:Nat}{b:Bl}(hb:L[k]? = some b):frs W L mo (k+1)=frs W L mo k++(if qX8 W b&&decide (((frs W L mo k).length:Int)<mo)then [⟨4,b.id,0, -1⟩]else []):=by
 unfold frs;rw[freeds_snoc hb,List.length_take];generalize qQ3 W (L.take k)=l;cases qX8 W b
 ·simp
 ·by_cases h:l.length<mo.toNat
  ·have e:((min mo.toNat l.length:Nat):Int)<mo:=by omega
   rw[List.take_of_length_le (l:=l) (by omega),List.take_of_length_le (by simp;omega)];simp[e]
  ·have e:¬ ((min mo.toNat l.length:Nat):Int)<mo:=by omega
   simp[e,List.take_append,show mo.toNat - l.length=0 by omega]
theorem frs_len(W:Wd)(L:List Bl)(mo:Int)(k:Nat):(frs W L mo k).length≤k:=by
 unfold frs
 have:=freeds_len W L k
 rw[List.length_take];omega
theorem frs_all(W:Wd)(L:List Bl):frs W L (qX9 W L) L.length=qZD W L:=by
 unfold frs qZD qQ3;rw[List.take_length,←List.map_take]
theorem rfreed_any(w:World)(X:Array Value)(W:Wd)(V:WdV)(P:Pm)(n:Nat)(hX:qQZ w (.agg X) P)(hX37:X.size=37)(hi:PInv n P)(hn:n≤40)(hW:WdIn w W V)(hO:W.Ok) :
 Calls prog 32 #[.agg X,.agg (qQo W V)] w fun e w'=>∃v,e=.returned v∧w'.ownsRow w.heap.size 49 4 v (qZD W P.L).length (qZb (qZD W P.L))∧Ext w w'∧Nn v:=by
 have HSO:=Hh (fun(w2:World) (hE:Ext w w2) (x:Cp) (hx:0≤x.vol)=>qJv w2 W V (hW.ext hE) hO x hx);have HBL:=Hh hi.bl;have hlen40:P.L.length≤40:=Nat.le_trans hi.len hn;obtain⟨lv,DV,e,hDV,hR⟩:=hX;rw[Value.agg.injEq]at e;have hlen:DV.length=P.L.length:=by rw[←hDV,List.length_map]
 obtain⟨A,c,rfl⟩:=qQa hR.own;have hX0:X[0]? = some (.slice A DV.length c):=by rw[e];rfl
 have HDV:=Hh hDV;have HR:=Hh hR;have hkp:=hO.k;clear e hDV hR hW hO hi hn;have HI9:Hid ((prog.info? 40).map (·.size)=some (qQo W V).toList.length):=Hh qZZ;have hA:=(At.new w 35 X).alloc (.cells (qQo W V) 40);have hB:=At.new (w.alloc (.cells X 35)) 40 (qQo W V);have hE:=((Er w).alloc (.cells X 35)).alloc (.cells (qQo W V) 40);have hs2:(w.alloc (.cells X 35)).heap.size=w.heap.size+1:=by simp
 rw[hs2]at hB;clear hs2 hX37
 go_enter func32,ntmps32
 go_upto_region 1 with fail
 generalize (w.alloc (.cells X 35)).alloc (.cells (qQo W V) 40)=W1 at hA hB hE⊢;generalize w.heap.size=xb at hA hB⊢;have HE1:=Hh hE;have HA:=Hh (fun w2 (hx:Ext W1 w2)=>((hA.ext hx).cell 0).trans hX0);have HB:=Hh (fun w2 (hx:Ext W1 w2)=>hB.ext hx);have x0:=HA.out W1 (Er _);clear hA hB hX0 hE;go_wp2_with fail
 clear x0
 go_loopw [5,14] (fun ov iv wr=>∃k:Nat,k≤DV.length∧iv=.int .i64 (k:Int)∧ov=.int .i64 (qZp (P.L.take k):Int)∧Ext W1 wr) (fun _ iv _=>DV.length - (intOf iv).toNat)
 case atStart=>exact⟨0,Nat.zero_le _,rfl,rfl,Er _⟩
 case round =>
  obtain⟨k,hk,rfl,rfl,hEr⟩:=hrel
  by_cases hlt:k<DV.length
  ·obtain⟨⟨b,dv⟩,hb⟩:∃q,DV[k]? = some q:=⟨_,List.getElem?_eq_getElem hlt⟩;have hbL:P.L[k]? = some b:=by rw[←HDV.out,List.getElem?_map,hb];rfl
   obtain⟨dA,dc,rfl⟩:∃A c,dv=.slice A b.disks.length c:=qQa (HR.out.dks _ (List.mem_of_getElem? hb));have hS:=HR.out.sln.ext (HE1.out.trans hEr)
   obtain⟨rb,ro,rfl⟩:=qQQ hS (fun e=>by
    have h0:=List.map_eq_nil_iff.1 e;rw[h0]at hb;simp at hb)
   obtain⟨r0,r1,r2,r3,r4,r5,r6,r7,r8,r9,r10,r11,r12⟩:=qQV hS hb;have hYb:=At.new wr 89 (blCells b (.slice dA b.disks.length dc));have hEb:=(Er wr).alloc (.cells (blCells b (.slice dA b.disks.length dc)) 89);clear hb hS
   go_upto_region 5 with fail
   clear r0 r1 r2 r3 r4 r5 r6 r7 r8 r9 r10 r11 r12;generalize wr.heap.size=yb at hYb⊢;generalize wr.alloc (.cells (blCells b (.slice dA b.disks.length dc)) 89)=W2 at hYb hEb⊢;have q4:=hYb.cell 4;simp at q4;have hos:=qJs hbL;have hon:=qXm P.L k;have hEy:=hEr.trans hEb;generalize qZp (P.L.take k)=on at hos hon⊢;have HOS:=Hh hos;clear hYb hbL hEr hEb hos
   by_cases hd0:0<b.disks.length
   ·have t1:decide (0<b.disks.length)=true:=by simpa using hd0
    have hw1:IntKind.i64.wrap ((on:Int)+1)=(on:Int)+1:=IntWalk.i64_in _ (by omega);have HON:Hid (qZp (P.L.take (k+1))=on+1):=Hh (by rw[HOS.out,if_pos hd0]);go_wp2_with fail
    go_roundw
    case rel=>exact⟨k+1,by omega,by go_num,by rw[HON.out];go_num,hEy⟩
    case measure=>simp[intOf];omega
   ·have t1:decide (0<b.disks.length)=false:=by simpa using hd0
    have HON:Hid (qZp (P.L.take (k+1))=on):=Hh (by rw[HOS.out,if_neg hd0];rfl);go_wp2_with fail
    go_roundw
    case rel=>exact⟨k+1,by omega,by go_num,by rw[HON.out],hEy⟩
    case measure=>simp[intOf];omega
  ·obtain rfl:k=DV.length:=by omega
   rw[hlen,List.take_length];obtain⟨mo,hmo⟩:∃mo:Int,mo=qX9 W P.L:=⟨_,rfl⟩;have hm2:(qZp P.L:Int)=mo+W.keep:=by rw[hmo,moreOf_on];omega
   have hon:=qXm P.L P.L.length;rw[List.take_length]at hon;have hmr : -100≤mo∧mo≤40:=by omega
   have HMO:=Hh hmo;rw[hm2];have hwm:IntKind.i64.wrap (mo+W.keep - W.keep)=mo:=by rw[show mo+W.keep - W.keep=mo by omega];exact IntWalk.i64_in _ (by omega)
   clear hm2 hon hmo hlt hk;obtain⟨wo,hwo⟩:∃wo:World,wo=wr:=⟨_,rfl⟩;rw[←hwo]at hEr⊢;clear hwo;clear wr;have hOw:=qZt (w:=wo) (base:=wo.heap.size) (e:=49) (size:=4) (Nat.le_refl _);have hEa:=(Er wo).alloc (.cells #[] 49);have x0:=HA.out _ (hEr.trans hEa);rw[hlen]at x0
   go_upto_region 9 with fail
   have hEo:=HE1.out.trans hEr;have hbase:w.heap.size≤wo.heap.size:=hEo.size;generalize wo.alloc (.cells #[] 49)=w2 at hOw hEa x0⊢;have HB2:=Hh (fun w3 (hx:Ext wo w3)=>HB.out w3 (hEr.trans hx));have HEW2:=Hh hEo;clear hEo hEr;go_wp2_with fail
   clear x0
   go_loopw [8,29] (fun ov iv wr=>∃k:Nat,k≤P.L.length∧iv=.int .i64 (k:Int)∧wr.ownsRow wo.heap.size 49 4 ov (frs W P.L mo k).length (qZb (frs W P.L mo k))∧Ext wo wr∧Nn ov) (fun _ iv _=>P.L.length - (intOf iv).toNat)
   case atStart=>exact⟨0,Nat.zero_le _,rfl,by simpa[frs,qQ3,qZb]using hOw,hEa,_,_,_,rfl⟩
   case round =>
    clear hOw hEa;obtain⟨k,hk,rfl,hown,hEr,hnn⟩:=hrel;have HNN:=Hh hnn;clear hnn
    by_cases hlt:k<P.L.length
    ·have hltD:k<DV.length:=by omega
     obtain⟨⟨b,dv⟩,hb⟩:∃q,DV[k]? = some q:=⟨_,List.getElem?_eq_getElem hltD⟩;have hbL:P.L[k]? = some b:=by rw[←HDV.out,List.getElem?_map,hb];rfl
     obtain⟨dA,dc,rfl⟩:∃A c,dv=.slice A b.disks.length c:=qQa (HR.out.dks _ (List.mem_of_getElem? hb));have hS:=HR.out.sln.ext (HEW2.out.trans hEr)
     obtain⟨rb,ro,rfl⟩:=qQQ hS (fun e=>by
      have h0:=List.map_eq_nil_iff.1 e;rw[h0]at hb;simp at hb)
     obtain⟨r0,r1,r2,r3,r4,r5,r6,r7,r8,r9,r10,r11,r12⟩:=qQV hS hb;have hYb:=At.new wr 89 (blCells b (.slice dA b.disks.length dc));have hEb:=(Er wr).alloc (.cells (blCells b (.slice dA b.disks.length dc)) 89);have hbk:=HBL.out b (List.mem_of_getElem? hbL);clear hb hS
     go_upto_region 12 with fail
     clear r0 r1 r2 r3 r4 r5 r6 r7 r8 r9 r10 r11 r12;generalize wr.heap.size=yb at hYb⊢;generalize wr.alloc (.cells (blCells b (.slice dA b.disks.length dc)) 89)=W2 at hYb hEb⊢;have hfs:=frs_snoc (W:=W) (mo:=mo) hbL;have hfl:=frs_len W P.L mo k;rw[show qX8 W b=(decide (0<b.disks.length)&&qZk W b.a&&qZk W b.b)from rfl]at hfs;generalize frs W P.L mo k=fs at hfs hfl hown⊢;have HFS:=Hh hfs;have hown2:=qZd hown hEb;have hEy:=hEr.trans hEb;have q4:=hYb.cell 4;have q5:=hYb.cell 5;have q6:=hYb.cell 6;have q7:=hYb.cell 7;simp at q4 q5 q6 q7;have HY:=Hh (fun w3 (hx:Ext W2 w3)=>hYb.ext hx);have HT0:=Hh (HSO.out W2 (HEW2.out.trans hEy) b.a (qZ6 hbk 0));have HT1:=Hh (fun w3 (hx:Ext W2 w3)=>HSO.out w3 ((HEW2.out.trans hEy).trans hx) b.b (qZ6 hbk 1));have HRB:=Hh ((HB2.out W2 hEy).range);generalize qZk W b.a=sa at HFS HT0;generalize qZk W b.b=sb at HFS HT1;obtain⟨OA,oc,rfl⟩:=qQa hown2;have HOW:=Hh hown2;have HEY:=Hh hEy;clear hYb hbL hbk hfs hown hEr hEb hown2 hEy
     by_cases hd0:0<b.disks.length
     ·have t1:decide (0<b.disks.length)=true:=by simpa using hd0
      go_wp2_with (first|(refine qQm rfl 40 _ rfl (xb+1) 0 rfl _ _ HRB.out underlying40 rfl HI9.out ?_))
      refine HT0.out.mono ?_;rintro e W3 ⟨rfl,hE3⟩;clear HT0 q4 q5 q6 q7 HRB;cases sa
      ·have HFX:Hid (frs W P.L mo (k+1)=fs):=Hh (by rw[HFS.out];simp);go_wp2_with fail
       go_roundw
       case rel=>exact⟨k+1,by omega,by go_num,by rw[HFX.out];exact qZd HOW.out hE3,HEY.out.trans hE3,HNN.out⟩
       case measure=>simp[intOf];omega
      ·have HT1a:=Hh (HT1.out W3 hE3);have HRB:=Hh ((HB2.out W3 (HEY.out.trans hE3)).range);have hY3:=HY.out W3 hE3;have q8:=hY3.cell 8;have q9:=hY3.cell 9;have q10:=hY3.cell 10;simp at q8 q9 q10;clear HT1 hY3
       go_wp2_with (first|(refine qQm rfl 40 _ rfl (xb+1) 0 rfl _ _ HRB.out underlying40 rfl HI9.out ?_))
       refine HT1a.out.mono ?_;rintro e W4 ⟨rfl,hE4⟩;have hE24:=hE3.trans hE4;clear HT1a q8 q9 q10 HRB hE3 hE4;cases sb
       ·have HFX:Hid (frs W P.L mo (k+1)=fs):=Hh (by rw[HFS.out];simp);go_wp2_with fail
        go_roundw
        case rel=>exact⟨k+1,by omega,by go_num,by rw[HFX.out];exact qZd HOW.out hE24,HEY.out.trans hE24,HNN.out⟩
        case measure=>simp[intOf];omega
       ·have b6:W4.cell? ⟨xb+1,6,none⟩=some (.int .i64 W.keep):=(HB2.out W4 (HEY.out.trans hE24)).cell 6
        by_cases hfm:(fs.length:Int)<mo
        ·have t2:decide ((fs.length:Int)<mo)=true:=by simpa using hfm
         have HFX:Hid (frs W P.L mo (k+1)=fs++[⟨4,b.id,0, -1⟩]):=Hh (by rw[HFS.out];simp[hd0,hfm]);have q0:=(HY.out W4 hE24).cell 0;simp at q0;have h2:=qZd HOW.out hE24;have hE2w:=HEY.out.trans hE24;have hsz:wo.heap.size≤W4.heap.size:=hE2w.size
         go_wp2_with (at_builtin;refine qQp W4 h2 45 underlying45 qXg rfl rfl (by decide) (by decide) rfl (by omega) hsz rfl _ _ rfl rfl rfl ?_)
         intro v' w5 hown5 hchg;obtain⟨VA,vc,rfl⟩:=qQa hown5;have hn5:=own_nn hown5;have hE5:Ext wo w5:=Chg.own_ext hE2w hchg h2 (Nat.le_refl _)
         have HO5:Hid (w5.ownsRow wo.heap.size 49 4 (.slice VA (fs.length+1) vc) (frs W P.L mo (k+1)).length (qZb (frs W P.L mo (k+1)))):=Hh (by
          rw[HFX.out,qXd,List.length_append];exact hown5)
         clear h2 hchg hown5 b6 q0;go_wp2_with fail
         go_roundw
         case rel=>exact⟨k+1,by omega,by go_num,HO5.out,hE5,hn5⟩
         case measure=>simp[intOf];omega
        ·have t2:decide ((fs.length:Int)<mo)=false:=by simpa using hfm
         have HFX:Hid (frs W P.L mo (k+1)=fs):=Hh (by rw[HFS.out];simp[hfm]);go_wp2_with fail
         go_roundw
         case rel=>exact⟨k+1,by omega,by go_num,by rw[HFX.out];exact qZd HOW.out hE24,HEY.out.trans hE24,HNN.out⟩
         case measure=>simp[intOf];omega
     ·have t1:decide (0<b.disks.length)=false:=by simpa using hd0
      have HFX:Hid (frs W P.L mo (k+1)=fs):=Hh (by rw[HFS.out];simp[hd0]);go_wp2_with fail
      go_roundw
      case rel=>exact⟨k+1,by omega,by go_num,by rw[HFX.out];exact HOW.out,HEY.out,HNN.out⟩
      case measure=>simp[intOf];omega
    ·obtain rfl:k=P.L.length:=by omega
     have HFA:Hid (frs W P.L mo P.L.length=qZD W P.L):=Hh (by rw[HMO.out];exact frs_all W P.L);go_wp2_with fail
     go_ret
     exact⟨_,rfl,by rw[←HFA.out];exact qZN hown hbase,HEW2.out.trans hEr,HNN.out⟩
open Go.RowKit Go.Sort
theorem rretaped_any(w:World)(X:Array Value)(W:Wd)(V:WdV)(P:Pm)(n:Nat)(hX:qQZ w (.agg X) P)(hX37:X.size=37)(hi:PInv n P)(hn:n≤40)(hW:WdIn w W V)(hO:W.Ok) :
 Calls prog 33 #[.agg X,.agg (qQo W V)] w fun e w'=>∃v,e=.returned v∧w'.ownsRow w.heap.size 49 4 v (qQN W P).length (qZb (qQN W P))∧Ext w w'∧Nn v:=by
 have HBL:=Hh hi.bl;have hlen40:P.L.length≤40:=Nat.le_trans hi.len hn;have HSP:=Hh (fun(w2:World) (hE:Ext w w2)=>rsparse_any w2 (.agg X) V.v V.i P n W.vols W.items (hX.ext hE) hi (by omega) (hW.v.ext hE) hO.v (hW.i.ext hE) hO.i hO.ir W.percent);have HVO:=Hh (fun(w2:World) (hE:Ext w w2) (pool size not_:Int)=>rvolume_any w2 (.agg X) V.v P n W.vols (hX.ext hE) hi (hW.v.ext hE) hO.v pool size not_);have hsp:=qXB P W.vols W.items W.percent W.vols.length;have hv12:=hO.v;obtain⟨Vd,Vv,Vi,Vld,Vlv⟩:=V;obtain⟨Vs,vc,hv',_⟩:=hW.v;simp only[]at hv';rw[List.length_map]at hv';subst hv';obtain⟨Is,ic,hi',_⟩:=hW.i;simp only[]at hi';rw[List.length_map]at hi';subst hi';obtain⟨V,hV⟩:∃V:WdV,V=⟨Vd,.slice Vs W.vols.length vc,.slice Is W.items.length ic,Vld,Vlv⟩:=⟨_,rfl⟩;have hV1:V.v=.slice Vs W.vols.length vc:=by rw[hV]
 have hV2:V.i=.slice Is W.items.length ic:=by rw[hV]
 simp only[]at HSP HVO;rw[←hV]at *;clear hV;obtain⟨lv,DV,e,hDV,hR⟩:=hX;rw[Value.agg.injEq]at e;have hlen:DV.length=P.L.length:=by rw[←hDV,List.length_map]
 obtain⟨A,c,rfl⟩:=qQa hR.own;have hX0:X[0]? = some (.slice A DV.length c):=by rw[e];rfl
 have HDV:=Hh hDV;have HR:=Hh hR;have HI37:Hid ((prog.info? 35).map (·.size)=some X.toList.length):=Hh (by rw[Array.length_toList,hX37];exact qQg);have HI13:=Hh qJm;have hsv:(qQu P W.vols W.items W.percent W.vols.length).1=qXR W P:=rfl;have HRE:Hid (qXR W P<0→qQN W P=[]):=Hh (fun h=>by unfold qQN;rw[if_pos h]);have HRT:Hid (∀vn:Nat,qXR W P=(vn:Int)→qQN W P=rts W P vn (vn % 2) P.L):=Hh (fun vn h=>rts_eq h);rw[hsv]at hsp HSP;clear e hDV hR hW hO hi hn hsv;have hA:=(At.new w 35 X).alloc (.cells (qQo W V) 40);have hB:=At.new (w.alloc (.cells X 35)) 40 (qQo W V);have hE:=((Er w).alloc (.cells X 35)).alloc (.cells (qQo W V) 40);have hs2:(w.alloc (.cells X 35)).heap.size=w.heap.size+1:=by simp
 rw[hs2]at hB;clear hs2 hX37
 go_enter func33,ntmps33
 go_upto_region 1 with fail
 generalize (w.alloc (.cells X 35)).alloc (.cells (qQo W V) 40)=W0 at hA hB hE⊢;generalize w.heap.size=xb at hA hB⊢;have hbase:w.heap.size≤W0.heap.size:=hE.size;have hOw:=qZt (w:=W0) (base:=W0.heap.size) (e:=49) (size:=4) (Nat.le_refl _);have hEa:=(Er W0).alloc (.cells #[] 49);have HE0:=Hh hE;have HA:=Hh (fun w2 (hx:Ext W0 w2)=>hA.ext hx);have HB:=Hh (fun w2 (hx:Ext W0 w2)=>hB.ext hx);clear hA hB hE
 go_upto_region 2 with fail
 generalize W0.alloc (.cells #[] 49)=W1 at hOw hEa⊢;have HOW0:=Hh hOw;have HEA:=Hh hEa;have HXR:=Hh ((HA.out W1 hEa).range);have hB1:=HB.out W1 hEa;have b1:W1.cell? ⟨xb+1,1,none⟩=some V.v:=hB1.cell 1;have b2:W1.cell? ⟨xb+1,2,none⟩=some V.i:=hB1.cell 2;have b7:W1.cell? ⟨xb+1,7,none⟩=some (.int .i64 W.percent):=hB1.cell 7;have HS1:=Hh (HSP.out W1 (HE0.out.trans hEa));rw[hV1]at b1;rw[hV2]at b2;generalize qXR W P=sv at hsp HS1 HRE HRT;clear hOw hEa hB1 HSP hV2
 go_wp2_with (first|(refine qQm rfl 35 _ rfl xb 0 rfl _ _ HXR.out underlying35 rfl HI37.out ?_))
 refine HS1.out.mono ?_;rintro e W2 ⟨rfl,hE2⟩;clear HS1 b1 b2 b7 HXR;have HE02:=Hh (HEA.out.trans hE2);have HO2:=Hh (qZd HOW0.out hE2);clear hE2 HOW0 HEA
 by_cases hneg:sv<0
 ·have t0:decide (sv<0)=true:=by simpa using hneg
  have HJE:=Hh (HRE.out hneg);clear HRE HRT hsp;go_wp2_with fail
  go_ret
  exact⟨_,rfl,by rw[HJE.out];exact qZN HO2.out hbase,HE0.out.trans HE02.out,_,_,_,rfl⟩
 ·obtain⟨vn,rfl⟩:=Int.eq_ofNat_of_zero_le (by omega:0≤sv);have hvn2:vn<12:=by omega
  have hJE:=HRT.out vn rfl;clear HRE HRT hsp;have t0:decide ((vn:Int)<0)=false:=by simp
  have hq2:vn % 2<2:=by omega
  have hq:(vn:Int) % 2=((vn % 2:Nat):Int):=by omega
  generalize vn % 2=q at hq2 hq hJE;have HQ:=Hh hq;have HJE:=Hh hJE;clear hJE hq;have x0:=((HA.out W2 HE02.out).cell 0).trans hX0;rw[hlen]at x0;go_wp2_with fail
  clear x0
  go_loopw [5,26] (fun ov iv wr=>∃k:Nat,k≤P.L.length∧iv=.int .i64 (k:Int)∧wr.ownsRow W0.heap.size 49 4 ov (rts W P vn q (P.L.take k)).length (qZb (rts W P vn q (P.L.take k)))∧Ext W0 wr∧Nn ov) (fun _ iv _=>P.L.length - (intOf iv).toNat)
  case atStart=>exact⟨0,Nat.zero_le _,rfl,by simpa[rts,qZb]using HO2.out,HE02.out,_,_,_,rfl⟩
  case round =>
   clear HO2 HE02;obtain⟨k,hk,rfl,hown,hEr,hnn⟩:=hrel;have HNN:=Hh hnn;clear hnn
   by_cases hlt:k<P.L.length
   ·have hltD:k<DV.length:=by omega
    obtain⟨⟨b,dv⟩,hb⟩:∃q,DV[k]? = some q:=⟨_,List.getElem?_eq_getElem hltD⟩;have hbL:P.L[k]? = some b:=by rw[←HDV.out,List.getElem?_map,hb];rfl
    obtain⟨dA,dc,rfl⟩:∃A c,dv=.slice A b.disks.length c:=qQa (HR.out.dks _ (List.mem_of_getElem? hb));have hS:=HR.out.sln.ext (HE0.out.trans hEr)
    obtain⟨rb,ro,rfl⟩:=qQQ hS (fun e=>by
     have h0:=List.map_eq_nil_iff.1 e;rw[h0]at hb;simp at hb)
    obtain⟨r0,r1,r2,r3,r4,r5,r6,r7,r8,r9,r10,r11,r12⟩:=qQV hS hb;have hYb:=At.new wr 89 (blCells b (.slice dA b.disks.length dc));have hEb:=(Er wr).alloc (.cells (blCells b (.slice dA b.disks.length dc)) 89);have hbk:=HBL.out b (List.mem_of_getElem? hbL);have hps:=rts_snoc (W:=W) (P:=P) (vn:=vn) (q:=q) hbL;have hpn:=rts_len W P vn q P.L k;rw[show rtB W P vn q b=(!(b.dead || !(b.copy q).there||decide ((b.copy q).vol≠(vn:Int)))&&decide (0≤qQ1 P W.vols (q:Int) (qQy b.size) (vn:Int) W.vols.length))from rfl]at hps;rw[←HQ.out]at hps;generalize rts W P vn q (P.L.take k)=os at hown hps hpn;clear hb hS hbL
    go_upto_region 8 with fail
    clear r0 r1 r2 r3 r4 r5 r6 r7 r8 r9 r10 r11 r12;generalize wr.heap.size=yb at hYb⊢;generalize wr.alloc (.cells (blCells b (.slice dA b.disks.length dc)) 89)=W2 at hYb hEb⊢;have HOW:=Hh (qZd hown hEb);have HEY:=Hh (hEr.trans hEb);have HYB:=Hh (fun w3 (hx:Ext W2 w3)=>hYb.ext hx);have HYR:=Hh hYb.range;have HCO:=Hh (show Calls prog 62 #[.agg (blCells b (.slice dA b.disks.length dc)),.int .i64 ((vn:Int) % 2)] W2 fun e w'=>e=.returned (.tuple #[.agg (qZ0 (b.copy q)),.agg (qZ0 (b.copy (1 - q)))])∧Ext W2 w' by rw[HQ.out];exact r17copy_any W2 b _ q hq2);obtain⟨OA,oc,rfl⟩:=qQa hown;clear hown hEr hEb hYb
    go_wp2_with (first|(refine qQm rfl 89 _ rfl yb 0 rfl _ _ HYR.out underlying89 rfl HI13.out ?_))
    refine HCO.out.mono ?_;rintro e W3 ⟨rfl,hE3⟩;clear HCO HYR;unfold qZ0;obtain⟨c1,hc1⟩:∃x,x=b.copy q:=⟨_,rfl⟩;obtain⟨c2,hc2⟩:∃x,x=b.copy (1 - q):=⟨_,rfl⟩;rw[←hc1]at hps;rw[←hc1,←hc2];clear hc1 hc2;obtain⟨th,cvv,cat⟩:=c1;simp only[]at hps⊢;have hP:=(At.new W3 87 #[.bool th,.int .i64 cvv,.int .i64 cat]).alloc (.cells #[.bool c2.there,.int .i64 c2.vol,.int .i64 c2.at_] 87);have hE4:=((Er W3).alloc (.cells #[.bool th,.int .i64 cvv,.int .i64 cat] 87)).alloc (.cells #[.bool c2.there,.int .i64 c2.vol,.int .i64 c2.at_] 87)
    go_upto_region 9 with fail
    generalize (W3.alloc (.cells #[.bool th,.int .i64 cvv,.int .i64 cat] 87)).alloc (.cells #[.bool c2.there,.int .i64 c2.vol,.int .i64 c2.at_] 87)=W4 at hP hE4⊢;generalize W3.heap.size=zb at hP⊢;have HE24:=Hh (hE3.trans hE4);clear hE3 hE4;have hY4:=HYB.out W4 HE24.out;have hB4:=HB.out W4 (HEY.out.trans HE24.out);have rg:∀ {p:Addr} {v:Value},W4.cell? p=some v→∀d os,(grow (redrawn W4 d) os).cell? p=some v:=fun h d os=>(Ext.cell (qQn W4 d os) (qQv h)).trans h
    have q12:=rg (hY4.cell 12);have q2:=rg (hY4.cell 2);have z0:=rg (hP.cell 0);have z1:=rg (hP.cell 1);have b1:=rg (show W4.cell? ⟨xb+1,1,none⟩=some V.v from hB4.cell 1);simp at q12 q2 z0 z1;rw[hV1]at b1;have c6:Hid (∀W,(∃p:Regrown,W=grow (redrawn W4 p.d) p.os)→W.rangeAt xb 0 X.toList):=Hh (by rintro W ⟨p,rfl⟩;exact((HA.out _ (HEY.out.trans HE24.out)).ext (qQn W4 _ _)).range);have e1:Hid (∀dd os,Calls prog 65 #[.int .i64 b.size] (grow (redrawn W4 dd) os) fun e w''=>e=.returned (.int .i64 (qQy b.size))∧∃p:Regrown,w''=grow (redrawn W4 p.d) p.os):=Hh fun dd os=>Calls.ext_of (rweight_any _ b.size hbk.size.1 hbk.size.2)
    have e2:Hid (∀dd os,Calls prog 64 #[.agg X,.slice Vs W.vols.length vc,.int .i64 ((vn:Int) % 2),.int .i64 (qQy b.size),.int .i64 (vn:Int)] (grow (redrawn W4 dd) os) fun e w''=>e=.returned (.int .i64 (qQ1 P W.vols ((vn:Int) % 2) (qQy b.size) (vn:Int) W.vols.length))∧∃p:Regrown,w''=grow (redrawn W4 p.d) p.os):=Hh fun dd os=>Calls.ext_of (HVO.out _ ((HE0.out.trans (HEY.out.trans HE24.out)).trans (qQn W4 dd os)) _ _ _)
    generalize qQ1 P W.vols ((vn:Int) % 2) (qQy b.size) (vn:Int) W.vols.length=vo at e2 hps;generalize qQy b.size=wt at e1 e2;clear rg hY4 hB4 hP hbk;obtain⟨dd,hdd⟩:∃u,u=b.dead:=⟨_,rfl⟩;rw[←hdd]at q12 hps;clear hdd;cases dd
    ·cases th
     ·have HPL:Hid (rts W P vn q (P.L.take (k+1))=os):=Hh (by rw[hps];simp );clear hps;refine qQc (by kernel_rfl) (by kernel_rfl) ?_
      repeat (first|go_big_quiet_skip|(go_big_quiet_want;first|(refine qQ0 rfl rfl c6.out underlying35 rfl HI37.out ?_;go_big_quiet_on;simp only[Act.put,List.setIfInBounds_toArray,List.set_cons_succ,List.set_cons_zero])|(go_big_quiet_op;first|go_big_quiet_on|go_big_quiet_call (first|with_reducible exact e1.out _ _|with_reducible exact e2.out _ _))))
      refine wpQuiet_nil ?_;intro W8 hE8;clear c6 e1 e2 q12 q2 z0 z1 b1;go_wp2_with fail
      go_roundw
      case rel=>exact⟨k+1,by omega,by go_num,by rw[HPL.out];exact qZd HOW.out (HE24.out.trans hE8),HEY.out.trans (HE24.out.trans hE8),HNN.out⟩
      case measure=>simp[intOf];omega
     ·by_cases hcv:cvv=(vn:Int)
      ·have t1:(cvv == (vn:Int))=true:=by simpa using hcv
       by_cases hv:0≤vo
       ·have t2:decide (0≤vo)=true:=by simpa using hv
        have HPL:Hid (rts W P vn q (P.L.take (k+1))=os++[⟨7,b.id,(vn:Int) % 2,(vn:Int)⟩]):=Hh (by rw[hps];simp[hv,hcv]);clear hps;refine qQc (by kernel_rfl) (by kernel_rfl) ?_
        repeat (first|go_big_quiet_skip|(go_big_quiet_want;first|(refine qQ0 rfl rfl c6.out underlying35 rfl HI37.out ?_;go_big_quiet_on;simp only[Act.put,List.setIfInBounds_toArray,List.set_cons_succ,List.set_cons_zero])|(go_big_quiet_op;first|go_big_quiet_on|go_big_quiet_call (first|with_reducible exact e1.out _ _|with_reducible exact e2.out _ _))))
        refine wpQuiet_nil ?_;intro W8 hE8;clear c6 e1 e2 q12 q2 z0 z1 b1;have hE28:=HE24.out.trans hE8;have q0:=(HYB.out W8 hE28).cell 0;simp at q0;have h2:=qZd HOW.out hE28;have hE2w:=HEY.out.trans hE28;have hsz:W0.heap.size≤W8.heap.size:=hE2w.size
        go_wp2_with (at_builtin;refine qQp W8 h2 45 underlying45 qXg rfl rfl (by decide) (by decide) rfl (by omega) hsz rfl _ _ rfl rfl rfl ?_)
        intro v' w5 hown5 hchg;obtain⟨OB,ob,rfl⟩:=qQa hown5;have hn5:=own_nn hown5;have hE5:Ext W0 w5:=Chg.own_ext hE2w hchg h2 (Nat.le_refl _)
        have HO5:Hid (w5.ownsRow W0.heap.size 49 4 (.slice OB (os.length+1) ob) (rts W P vn q (P.L.take (k+1))).length (qZb (rts W P vn q (P.L.take (k+1))))):=Hh (by
         rw[HPL.out,qXd,List.length_append];exact hown5)
        clear h2 hchg hown5 q0;go_wp2_with fail
        go_roundw
        case rel=>exact⟨k+1,by omega,by go_num,HO5.out,hE5,hn5⟩
        case measure=>simp[intOf];omega
       ·have t2:decide (0≤vo)=false:=by simpa using hv
        have HPL:Hid (rts W P vn q (P.L.take (k+1))=os):=Hh (by rw[hps];simp[hv]);clear hps;refine qQc (by kernel_rfl) (by kernel_rfl) ?_
        repeat (first|go_big_quiet_skip|(go_big_quiet_want;first|(refine qQ0 rfl rfl c6.out underlying35 rfl HI37.out ?_;go_big_quiet_on;simp only[Act.put,List.setIfInBounds_toArray,List.set_cons_succ,List.set_cons_zero])|(go_big_quiet_op;first|go_big_quiet_on|go_big_quiet_call (first|with_reducible exact e1.out _ _|with_reducible exact e2.out _ _))))
        refine wpQuiet_nil ?_;intro W8 hE8;clear c6 e1 e2 q12 q2 z0 z1 b1;go_wp2_with fail
        go_roundw
        case rel=>exact⟨k+1,by omega,by go_num,by rw[HPL.out];exact qZd HOW.out (HE24.out.trans hE8),HEY.out.trans (HE24.out.trans hE8),HNN.out⟩
        case measure=>simp[intOf];omega
      ·have t1:(cvv == (vn:Int))=false:=by simpa using hcv
       have HPL:Hid (rts W P vn q (P.L.take (k+1))=os):=Hh (by rw[hps];simp[hcv]);clear hps;refine qQc (by kernel_rfl) (by kernel_rfl) ?_
       repeat (first|go_big_quiet_skip|(go_big_quiet_want;first|(refine qQ0 rfl rfl c6.out underlying35 rfl HI37.out ?_;go_big_quiet_on;simp only[Act.put,List.setIfInBounds_toArray,List.set_cons_succ,List.set_cons_zero])|(go_big_quiet_op;first|go_big_quiet_on|go_big_quiet_call (first|with_reducible exact e1.out _ _|with_reducible exact e2.out _ _))))
       refine wpQuiet_nil ?_;intro W8 hE8;clear c6 e1 e2 q12 q2 z0 z1 b1;go_wp2_with fail
       go_roundw
       case rel=>exact⟨k+1,by omega,by go_num,by rw[HPL.out];exact qZd HOW.out (HE24.out.trans hE8),HEY.out.trans (HE24.out.trans hE8),HNN.out⟩
       case measure=>simp[intOf];omega
    ·have HPL:Hid (rts W P vn q (P.L.take (k+1))=os):=Hh (by rw[hps];simp );clear hps;refine qQc (by kernel_rfl) (by kernel_rfl) ?_
     repeat (first|go_big_quiet_skip|(go_big_quiet_want;first|(refine qQ0 rfl rfl c6.out underlying35 rfl HI37.out ?_;go_big_quiet_on;simp only[Act.put,List.setIfInBounds_toArray,List.set_cons_succ,List.set_cons_zero])|(go_big_quiet_op;first|go_big_quiet_on|go_big_quiet_call (first|with_reducible exact e1.out _ _|with_reducible exact e2.out _ _))))
     refine wpQuiet_nil ?_;intro W8 hE8;clear c6 e1 e2 q12 q2 z0 z1 b1;go_wp2_with fail
     go_roundw
     case rel=>exact⟨k+1,by omega,by go_num,by rw[HPL.out];exact qZd HOW.out (HE24.out.trans hE8),HEY.out.trans (HE24.out.trans hE8),HNN.out⟩
     case measure=>simp[intOf];omega
   ·obtain rfl:k=P.L.length:=by omega
    rw[List.take_length]at hown;go_wp2_with fail
    go_ret
    exact⟨_,rfl,by rw[HJE.out];exact qZN hown hbase,HE0.out.trans hEr,HNN.out⟩
end Go.Proofs.YtiojjokfeknhcaaGreat
