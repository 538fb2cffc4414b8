/-
  Part 22 of what the law leans on.
-/
import Derived.Test.YtiojjokfeknhcaaGreatSC8
import Derived.Test.YtiojjokfeknhcaaGreatSC16
import Derived.Test.YtiojjokfeknhcaaGreatSC17
import Derived.Test.YtiojjokfeknhcaaGreatSC18
import Derived.Test.YtiojjokfeknhcaaGreatSC20
import Derived.Test.YtiojjokfeknhcaaGreatSC21
namespace Go.Proofs.YtiojjokfeknhcaaGreat
set_option maxRecDepth 100000
set_option maxHeartbeats 8000000
set_option linter.unusedVariables false
set_option linter.unusedSimpArgs false
set_option linter.unusedSectionVars false
open _root_.Go.Proofs.Tryz
open Go.RowKit Go.Sort
theorem qXY(w:World)(v:Value)(l:List Bool)(hS:Sl w v (l.map Value.bool))(hl:l.length≤12)(i:Int)(hi:0≤i) :
 Calls prog 66 #[v,.int .i64 i] w fun e w'=>e=.returned (.bool (qZc l i))∧Ext w w':=by
 obtain⟨A,c,rfl,hx⟩:=hS;have hS:Sl w (.slice A l.length c) (l.map Value.bool):=⟨A,c,by rw[List.length_map],hx⟩;clear hx;obtain⟨n,rfl⟩:=Int.eq_ofNat_of_zero_le hi;rw[List.length_map];unfold qZc;rw[Int.toNat_natCast]
 by_cases hlt:n<l.length
 ·have t1:decide (n<l.length)=true:=by simpa using hlt
  have hg:l.getD n false=l[n]:=by rw[List.getD_eq_getElem?_getD,List.getElem?_eq_getElem hlt];rfl
  obtain⟨b,o,rfl,c1⟩:=qXx hS n (x:=.bool l[n]) (by rw[List.getElem?_map,List.getElem?_eq_getElem hlt];rfl);rw[hg];generalize l[n]=x at c1;clear hg hS
  go_enter func66,ntmps66
  go_wp2_with fail
  go_ret
  exact⟨rfl,Er _⟩
 ·have t1:decide (n<l.length)=false:=by simpa using hlt
  have hg:l.getD n false=false:=by rw[List.getD_eq_getElem?_getD,List.getElem?_eq_none (by omega)];rfl
  rw[hg];clear hg hS
  go_enter func66,ntmps66
  go_wp2_with fail
  go_ret
  exact⟨rfl,Er _⟩
theorem qJv(w:World)(W:Wd)(V:WdV)(hW:WdIn w W V)(hO:W.Ok)(x:Cp)(hv:0≤x.vol) :
 Calls prog 67 #[.agg (qQo W V),.agg #[.bool x.there,.int .i64 x.vol,.int .i64 x.at_]] w fun e w'=>e=.returned (.bool (qZk W x))∧Ext w w':=by
 obtain⟨th,vo,at_⟩:=x;simp only[]at hv;have HLO:=fun(w2:World) (hE:Ext w w2)=>qXY w2 V.lv W.lostV (hW.lv.ext hE) hO.lv vo hv
 unfold qZk;simp only[];generalize qZc W.lostV vo=lo at HLO;have hX:=(At.new w 40 (qQo W V)).alloc (.cells #[.bool th,.int .i64 vo,.int .i64 at_] 87);have hY:=At.new (w.alloc (.cells (qQo W V) 40)) 87 #[.bool th,.int .i64 vo,.int .i64 at_];have hE:=((Er w).alloc (.cells (qQo W V) 40)).alloc (.cells #[.bool th,.int .i64 vo,.int .i64 at_] 87);have hs:(w.alloc (.cells (qQo W V) 40)).heap.size=w.heap.size+1:=by simp
 rw[hs]at hY
 go_enter func67,ntmps67
 go_upto_region 1 with fail
 generalize w.heap.size=xb at hX hY⊢;generalize (w.alloc (.cells (qQo W V) 40)).alloc (.cells #[.bool th,.int .i64 vo,.int .i64 at_] 87)=W1 at hX hY hE⊢;have x4:W1.cell? ⟨xb,4,none⟩=some V.lv:=hX.cell 4;have y0:=hY.cell 0;have y1:=hY.cell 1;simp at y0 y1;have HL1:=Hh (HLO W1 hE);clear hX hY hs HLO hW;cases th
 ·go_wp2_with fail
  go_ret
  exact⟨by simp,hE⟩
 ·go_wp2_with fail
  refine HL1.out.mono ?_;rintro e W2 ⟨rfl,hE2⟩;go_wp2_with fail
  go_ret
  exact⟨by simp,hE.trans hE2⟩
theorem r17good_any(w:World)(W:Wd)(V:WdV)(hW:WdIn w W V)(hO:W.Ok)(b:Bl)(dv:Value)(hd:w.ownsRow 0 3 1 dv b.disks.length (b.disks.map (Value.int .i64)))(hr:∀d∈b.disks,0≤d∧d≤5)(hl:b.disks.length≤6) :
 Calls prog 61 #[.agg (qQo W V),.agg (blCells b dv)] w fun e w'=>∃v,e=.returned v∧w'.ownsRow w.heap.size 3 1 v (qQ5 W b).length ((qQ5 W b).map (Value.int .i64))∧Ext w w':=by
 obtain⟨i0,hi,hz0,hz1,hz2⟩:=info_parts qZx;obtain⟨dA,dc,rfl⟩:=qQa hd;have hld:=hW.ld;have hll:=hO.ld;clear hW hO;have hS:=Sl.of_own hd;clear hd;have hX:=(At.new w 40 (qQo W V)).alloc (.cells (blCells b (.slice dA b.disks.length dc)) 89);have hY:=At.new (w.alloc (.cells (qQo W V) 40)) 89 (blCells b (.slice dA b.disks.length dc));have hE:=((Er w).alloc (.cells (qQo W V) 40)).alloc (.cells (blCells b (.slice dA b.disks.length dc)) 89);have hs:(w.alloc (.cells (qQo W V) 40)).heap.size=w.heap.size+1:=by simp
 rw[hs]at hY
 go_enter func61,ntmps61
 go_upto_region 1 with fail
 generalize w.heap.size=xb at hX hY⊢;generalize (w.alloc (.cells (qQo W V) 40)).alloc (.cells (blCells b (.slice dA b.disks.length dc)) 89)=W1 at hX hY hE⊢;have HX:=Hh hX;have HW1:=Hh hE;have hO:=qZt (w:=W1) (base:=W1.heap.size) (e:=3) (size:=1) (Nat.le_refl _);have hE2:=(Er W1).alloc (.cells #[] 3);have y4:=(hY.ext hE2).cell 4;simp at y4;have hyl:=(hY.ext hE2).lt
 go_upto_region 2 with fail
 generalize hg1:W1.heap.size=g1 at hO⊢;generalize W1.alloc (.cells #[] 3)=W2 at hO hE2 y4 hyl⊢;have HE2:=Hh (hE.trans hE2);go_wp2_with fail
 clear y4 hyl
 go_loopw [5,12] (fun ov iv wr=>∃k:Nat,k≤b.disks.length∧iv=.int .i64 (k:Int)∧wr.ownsRow g1 3 1 ov ((b.disks.take k).filter fun d => !qZc W.lostD d).length (((b.disks.take k).filter fun d => !qZc W.lostD d).map (Value.int .i64))∧Ext W1 wr) (fun _ iv _=>b.disks.length - (intOf iv).toNat)
 case atStart=>exact⟨0,Nat.zero_le _,rfl,hO,hE2⟩
 case round =>
  clear hO hE2;obtain⟨k,hk,rfl,hown,hE1⟩:=hrel;have hE:=HE2.out
  by_cases hlt:k<b.disks.length
  ·obtain⟨x,hx⟩:∃x,b.disks[k]? = some x:=⟨_,List.getElem?_eq_getElem hlt⟩;have hxr:=hr x (List.mem_of_getElem? hx);have hfs:=qZm (fun d => !qZc W.lostD d) hx;have hfl:((b.disks.take k).filter fun d => !qZc W.lostD d).length≤k:=Nat.le_trans (List.length_filter_le _ _) (List.length_take_le _ _);generalize (b.disks.take k).filter (fun d => !qZc W.lostD d)=os at hown hfs hfl;have hEw:Ext w wr:=HW1.out.trans hE1;obtain⟨db,do_,rfl,c1⟩:=qXx (hS.ext hEw) k (x:=.int .i64 x) (by rw[List.getElem?_map,hx];rfl);have c3:wr.cell? ⟨xb,3,none⟩=some V.ld:=(HX.out.ext hE1).cell 3;have HIT:=qXY wr V.ld W.lostD (hld.ext hEw) (by omega) x hxr.1;have hszw:=hE1.size;clear hx hE;go_wp2_with fail
   refine HIT.mono ?_;rintro e w2 ⟨rfl,hE3⟩;have hown2:=qZd hown hE3;have hX2:=hE1.trans hE3;have hEw2:=hEw.trans hE3;have hsz2:=hX2.size;clear HIT hown hE3 c1 c3 hszw;cases hlo:qZc W.lostD x
   ·rw[hlo]at hfs;have HFS:=Hh (show(b.disks.take (k+1)).filter (fun d => !qZc W.lostD d)=os++[x]by rw[hfs];rfl);clear hfs hlo;obtain⟨OA,oc,rfl⟩:=qQa hown2
    go_wp2_with (at_builtin;refine wpList_append_own _ rfl _ _ 24 rfl g1 3 i0 (.int .i64 0) 1 8 underlying24 hi hz0 hz1 hz2 rfl (by decide) _ _ _ rfl (hown2.alloc _) ⟨w2.heap.size,0,none⟩ 1 1 [.int .i64 x] rfl rfl ?c1 ?c2 ?c3 ?c4 ?c5 ?_)
    case c1=>exact qXh
    case c2=>simp[Value.oneCell']
    case c3=>unfold maxLen;omega
    case c4=>omega
    case c5=>simp;omega
    intro v1 w4 hown4 hgrow4 _;have hge:=qZV (hown2.alloc (.cells #[.int .i64 x] 3));have hE4:Ext W1 w4:=Chg.mono ((hX2.alloc _).chg_trans (Chg.of_grown hgrow4)) fun j hj h=>by have:=hge j h;omega
    clear hgrow4 hge
    go_wp2
    go_roundw
    case rel=>exact⟨k+1,by omega,by go_num,by rw[HFS.out];simpa using hown4,hE4⟩
    case measure=>simp[intOf];omega
   ·rw[hlo]at hfs;have HFS:=Hh (show(b.disks.take (k+1)).filter (fun d => !qZc W.lostD d)=os by rw[hfs];simp);clear hfs hlo;go_wp2_with fail
    go_roundw
    case rel=>exact⟨k+1,by omega,by go_num,by rw[HFS.out];exact hown2,hX2⟩
    case measure=>simp[intOf];omega
  ·obtain rfl:k=b.disks.length:=by omega
   rw[List.take_length]at hown;have hEw:Ext w wr:=HW1.out.trans hE1;go_wp2_with fail
   go_ret
   exact⟨_,rfl,qZN hown (by have:=HW1.out.size;omega),hEw⟩
open Go.RowKit Go.Sort
def qZ0(x:Cp):Array Value:=#[.bool x.there,.int .i64 x.vol,.int .i64 x.at_]
theorem qZv:(prog.info? 87).map (·.size)=some 3:=by kernel_rfl
structure GS2 (w0 W:World) (x2 x3:Nat) (T2 T3:TypeId) (Z2 Z3 C2 C3:Array Value) (j2 j3:Nat) (_γ : Nat→Value) (L:Nat→Bool) (w:World):Prop where
 ext:Ext w0 w
 chg:Chg (fun k=>k=x2∨k=x3) W w
 a2:At w x2 T2 (if L j2=true then C2 else Z2)
 a3:At w x3 T3 (if L j3=true then C3 else Z3)
theorem GS2.keep{w0 W:World}{x2 x3:Nat}{T2 T3:TypeId}{Z2 Z3 C2 C3:Array Value}{j2 j3 j:Nat}(h2:j2≠j)(h3:j3≠j):∀γ L w,GS2 w0 W x2 x3 T2 T3 Z2 Z3 C2 C3 j2 j3 γ L w→L j=false→GS2 w0 W x2 x3 T2 T3 Z2 Z3 C2 C3 j2 j3 γ (fun i=>i == j||L i) w:=fun γ L w h _=>by
 have e2:(j2 == j)=false:=by simpa using h2
 have e3:(j3 == j)=false:=by simpa using h3
 exact⟨h.ext,h.chg,by simpa[e2]using h.a2,by simpa[e3]using h.a3⟩
theorem qJB{w:World}{xb:Nat}{t:TypeId}{b:Bl}{dv:Value}(h:At w xb t (blCells b dv))(p:Nat)(hp:p<2):w.rangeAt xb (5+p * 3) (qZ0 (b.copy p)).toList:=by
 obtain⟨y0,y1,y2⟩:=bl_copy b dv p hp;intro j v hv;have hj:j<3:=(List.getElem?_eq_some_iff.1 hv).1;rw[h.cell]
 rcases(show j=0∨j=1∨j=2 by omega)with rfl|rfl|rfl
 ·rw[Nat.add_zero,y0];exact hv
 ·rw[y1];exact hv
 ·rw[Nat.add_assoc]at y2⊢;rw[y2];exact hv
theorem r17copy_any(w:World)(b:Bl)(dv:Value)(p:Nat)(hp:p<2) :
 Calls prog 62 #[.agg (blCells b dv),.int .i64 (p:Int)] w fun e w'=>e=.returned (.tuple #[.agg (qZ0 (b.copy p)),.agg (qZ0 (b.copy (1 - p)))])∧Ext w w':=by
 have hX:=((At.new w 89 (blCells b dv)).alloc (.cells #[.bool false,.int .i64 0,.int .i64 0] 87)).alloc (.cells #[.bool false,.int .i64 0,.int .i64 0] 87);have hA:=(At.new (w.alloc (.cells (blCells b dv) 89)) 87 #[.bool false,.int .i64 0,.int .i64 0]).alloc (.cells #[.bool false,.int .i64 0,.int .i64 0] 87);have hB:=At.new ((w.alloc (.cells (blCells b dv) 89)).alloc (.cells #[.bool false,.int .i64 0,.int .i64 0] 87)) 87 #[.bool false,.int .i64 0,.int .i64 0];have hE:=(((Er w).alloc (.cells (blCells b dv) 89)).alloc (.cells #[.bool false,.int .i64 0,.int .i64 0] 87)).alloc (.cells #[.bool false,.int .i64 0,.int .i64 0] 87);have hs2:(w.alloc (.cells (blCells b dv) 89)).heap.size=w.heap.size+1:=by simp
 have hs3:((w.alloc (.cells (blCells b dv) 89)).alloc (.cells #[.bool false,.int .i64 0,.int .i64 0] 87)).heap.size=w.heap.size+1+1:=by simp
 rw[hs2]at hA;rw[hs3]at hB
 go_enter func62,ntmps62
 go_upto_region 1 with fail
 have hx1:w.heap.size≤w.heap.size+1:=by omega
 have hx2:w.heap.size≤w.heap.size+1+1:=by omega
 generalize ((w.alloc (.cells (blCells b dv) 89)).alloc (.cells #[.bool false,.int .i64 0,.int .i64 0] 87)).alloc (.cells #[.bool false,.int .i64 0,.int .i64 0] 87)=W1 at hX hA hB hE⊢;generalize hxb:w.heap.size=xb at hX hA hB⊢;rw[hxb]at hx1 hx2;have hx1':w.heap.size≤xb+1:=by omega
 have hx2':w.heap.size≤xb+1+1:=by omega
 clear hx1 hx2 hxb hs2 hs3;have hx1:=hx1';have hx2:=hx2';have HX:=Hh hX;have HA:=Hh hA;have HB:=Hh hB;clear hX hA hB hx1' hx2';have h01:p=0∨p=1:=by omega
 rcases h01 with rfl|rfl
 ·rw[show((0:Nat):Int)=0 from rfl]
  go_upto_region 3 with fail
  refine qQx (Γ := Nat→Value) (sgφ [.val (.pointer (some ⟨xb,5,none⟩)),.val (.agg (qZ0 (b.copy 0))),.val (.pointer (some ⟨xb,8,none⟩)),.val (.agg (qZ0 (b.copy 1))),.any,.any]) (GS2 w W1 (xb+1) (xb+1+1) 87 87 #[.bool false,.int .i64 0,.int .i64 0] #[.bool false,.int .i64 0,.int .i64 0] (qZ0 (b.copy 0)) (qZ0 (b.copy 1)) 4 5) (by kernel_rfl) (by kernel_rfl) (by kernel_rfl) (fun _=>undef) ?inv ?steps ?fin
  case inv=>exact⟨hE.drew,(Chg.refl _ W1).drew,by simpa using HA.out.drew,by simpa using HB.out.drew⟩
  case steps =>
   show qQ2 _ _ _ _ _ _ 6
   refine⟨⟨⟨⟨⟨⟨trivial,?s0⟩,?s1⟩,?s2⟩,?s3⟩,?s4⟩,?s5⟩
   case s0 =>
    refine qQh (x:=.pointer (some ⟨xb,5,none⟩)) rfl rfl rfl (GS2.keep (j:=0) (by decide) (by decide)) fun γ L v a w1 st=>?_
    have e2:=st.far 2 (by kernel_rfl);simp at e2;go_simp
   case s1 =>
    refine qQh (x:=.agg (qZ0 (b.copy 0))) rfl rfl rfl (GS2.keep (j:=1) (by decide) (by decide)) fun γ L v a w1 st=>?_
    have e12:=st.val 0 12 rfl (by kernel_rfl);rw[(st.φ 0 (by kernel_rfl):v 0=_)]at e12;simp at e12;have hr:=qJB (HX.out.chg st.inv.chg (by rintro(h|h) <;> omega)) 0 (by decide);exact qQi rfl (b:=xb) (off:=5) (by simp[Act.eval,e12]) hr underlying87 rfl qZv
   case s2 =>
    refine qQh (x:=.pointer (some ⟨xb,8,none⟩)) rfl rfl rfl (GS2.keep (j:=2) (by decide) (by decide)) fun γ L v a w1 st=>?_
    have e2:=st.far 2 (by kernel_rfl);simp at e2;go_simp
   case s3 =>
    refine qQh (x:=.agg (qZ0 (b.copy 1))) rfl rfl rfl (GS2.keep (j:=3) (by decide) (by decide)) fun γ L v a w1 st=>?_
    have e14:=st.val 2 14 rfl (by kernel_rfl);rw[(st.φ 2 (by kernel_rfl):v 2=_)]at e14;simp at e14;have hr:=qJB (HX.out.chg st.inv.chg (by rintro(h|h) <;> omega)) 1 (by decide);exact qQi rfl (b:=xb) (off:=8) (by simp[Act.eval,e14]) hr underlying87 rfl qZv
   case s4 =>
    refine qQ7 rfl rfl rfl fun γ L v a w1 st=>?_
    have e13:=st.val 1 13 rfl (by kernel_rfl);rw[(st.φ 1 (by kernel_rfl):v 1=_)]at e13;simp at e13;have e4:=st.far 4 (by kernel_rfl);simp at e4;have hoff:=st.off;have hb:=st.inv.a2;have hth:=hb.there;refine⟨_,qQr rfl (b:=xb+1) (off:=0) (cells:=qZ0 (b.copy 0)) (by simp[Act.eval,e4]) (by simp[Act.eval,e13]) (by have h3:(qZ0 (b.copy 0)).size=3:=rfl;rw[h3];simpa[hoff]using hth) qZv (by simp[qZ0,Value.oneCell']),?_⟩
    refine⟨st.inv.ext.setCells hx1 _ _,st.inv.chg.setCells (.inl rfl) _ _,?_,?_⟩
    ·rw[if_pos (by simp)];exact hb.cells_all (by rw[hoff];rfl)
    ·have:=st.inv.a3.chg (qQq (b:=xb+1) (qZ0 (b.copy 0)).toList 0) (by omega)
     simpa using this
   case s5 =>
    refine qQ7 rfl rfl rfl fun γ L v a w1 st=>?_
    have e15:=st.val 3 15 rfl (by kernel_rfl);rw[(st.φ 3 (by kernel_rfl):v 3=_)]at e15;simp at e15;have e5:=st.far 5 (by kernel_rfl);simp at e5;have hoff:=st.off;have hb:=st.inv.a3;have hth:=hb.there;refine⟨_,qQr rfl (b:=xb+1+1) (off:=0) (cells:=qZ0 (b.copy 1)) (by simp[Act.eval,e5]) (by simp[Act.eval,e15]) (by have h3:(qZ0 (b.copy 1)).size=3:=rfl;rw[h3];simpa[hoff]using hth) qZv (by simp[qZ0,Value.oneCell']),?_⟩
    refine⟨st.inv.ext.setCells hx2 _ _,st.inv.chg.setCells (.inr rfl) _ _,?_,?_⟩
    ·have:=st.inv.a2.chg (qQq (b:=xb+1+1) (qZ0 (b.copy 1)).toList 0) (by omega)
     simpa using this
    ·rw[if_pos (by simp)];exact hb.cells_all (by rw[hoff];rfl)
  case fin =>
   intro γ L v wz hall hG hφ;have hz2:=hG.a2;have hz3:=hG.a3;rw[if_pos (hall 4 (by decide))]at hz2;rw[if_pos (hall 5 (by decide))]at hz3;have hEz:=hG.ext;clear hφ hall hG
   change Exit.then _ _ _ (qQM _ v _ 6) wz
   simp only[qQM,qQH,Act.put];simp only[List.getElem?_toArray,List.getElem?_cons_zero,List.getElem?_cons_succ,Option.bind_some,List.setIfInBounds_toArray,List.set_cons_zero,List.set_cons_succ];have l2:(loadVar 87 ⟨xb+1,0,none⟩).run prog wz=.ok (.agg (qZ0 (b.copy 0))) wz:=run_loadVar_mid (P:=prog) wz (xb+1) 0 87 (qZ0 (b.copy 0)).toList _ hz2.range underlying87 rfl qZv;have l3:(loadVar 87 ⟨xb+1+1,0,none⟩).run prog wz=.ok (.agg (qZ0 (b.copy 1))) wz:=run_loadVar_mid (P:=prog) wz (xb+1+1) 0 87 (qZ0 (b.copy 1)).toList _ hz3.range underlying87 rfl qZv;have HL:=Hh (And.intro l2 l3);clear l2 l3 hz2 hz3;go_wp2_with fail
   refine bodyPost_ret (v:=.tuple #[.agg (qZ0 (b.copy 0)),.agg (qZ0 (b.copy 1))]) (qQs (results62) _ rfl rfl HL.out.1 HL.out.2) rfl ?_;exact⟨rfl,hEz⟩
 ·rw[show((1:Nat):Int)=1 from rfl]
  go_upto_region 2 with fail
  refine qQx (Γ := Nat→Value) (sgφ [.val (.pointer (some ⟨xb,8,none⟩)),.val (.agg (qZ0 (b.copy 1))),.val (.pointer (some ⟨xb,5,none⟩)),.val (.agg (qZ0 (b.copy 0))),.any,.any]) (GS2 w W1 (xb+1) (xb+1+1) 87 87 #[.bool false,.int .i64 0,.int .i64 0] #[.bool false,.int .i64 0,.int .i64 0] (qZ0 (b.copy 1)) (qZ0 (b.copy 0)) 4 5) (by kernel_rfl) (by kernel_rfl) (by kernel_rfl) (fun _=>undef) ?inv ?steps ?fin
  case inv=>exact⟨hE.drew,(Chg.refl _ W1).drew,by simpa using HA.out.drew,by simpa using HB.out.drew⟩
  case steps =>
   show qQ2 _ _ _ _ _ _ 6
   refine⟨⟨⟨⟨⟨⟨trivial,?s0⟩,?s1⟩,?s2⟩,?s3⟩,?s4⟩,?s5⟩
   case s0 =>
    refine qQh (x:=.pointer (some ⟨xb,8,none⟩)) rfl rfl rfl (GS2.keep (j:=0) (by decide) (by decide)) fun γ L v a w1 st=>?_
    have e2:=st.far 2 (by kernel_rfl);simp at e2;go_simp
   case s1 =>
    refine qQh (x:=.agg (qZ0 (b.copy 1))) rfl rfl rfl (GS2.keep (j:=1) (by decide) (by decide)) fun γ L v a w1 st=>?_
    have e8:=st.val 0 8 rfl (by kernel_rfl);rw[(st.φ 0 (by kernel_rfl):v 0=_)]at e8;simp at e8;have hr:=qJB (HX.out.chg st.inv.chg (by rintro(h|h) <;> omega)) 1 (by decide);exact qQi rfl (b:=xb) (off:=8) (by simp[Act.eval,e8]) hr underlying87 rfl qZv
   case s2 =>
    refine qQh (x:=.pointer (some ⟨xb,5,none⟩)) rfl rfl rfl (GS2.keep (j:=2) (by decide) (by decide)) fun γ L v a w1 st=>?_
    have e2:=st.far 2 (by kernel_rfl);simp at e2;go_simp
   case s3 =>
    refine qQh (x:=.agg (qZ0 (b.copy 0))) rfl rfl rfl (GS2.keep (j:=3) (by decide) (by decide)) fun γ L v a w1 st=>?_
    have e10:=st.val 2 10 rfl (by kernel_rfl);rw[(st.φ 2 (by kernel_rfl):v 2=_)]at e10;simp at e10;have hr:=qJB (HX.out.chg st.inv.chg (by rintro(h|h) <;> omega)) 0 (by decide);exact qQi rfl (b:=xb) (off:=5) (by simp[Act.eval,e10]) hr underlying87 rfl qZv
   case s4 =>
    refine qQ7 rfl rfl rfl fun γ L v a w1 st=>?_
    have e9:=st.val 1 9 rfl (by kernel_rfl);rw[(st.φ 1 (by kernel_rfl):v 1=_)]at e9;simp at e9;have e4:=st.far 4 (by kernel_rfl);simp at e4;have hoff:=st.off;have hb:=st.inv.a2;have hth:=hb.there;refine⟨_,qQr rfl (b:=xb+1) (off:=0) (cells:=qZ0 (b.copy 1)) (by simp[Act.eval,e4]) (by simp[Act.eval,e9]) (by have h3:(qZ0 (b.copy 1)).size=3:=rfl;rw[h3];simpa[hoff]using hth) qZv (by simp[qZ0,Value.oneCell']),?_⟩
    refine⟨st.inv.ext.setCells hx1 _ _,st.inv.chg.setCells (.inl rfl) _ _,?_,?_⟩
    ·rw[if_pos (by simp)];exact hb.cells_all (by rw[hoff];rfl)
    ·have:=st.inv.a3.chg (qQq (b:=xb+1) (qZ0 (b.copy 1)).toList 0) (by omega)
     simpa using this
   case s5 =>
    refine qQ7 rfl rfl rfl fun γ L v a w1 st=>?_
    have e11:=st.val 3 11 rfl (by kernel_rfl);rw[(st.φ 3 (by kernel_rfl):v 3=_)]at e11;simp at e11;have e5:=st.far 5 (by kernel_rfl);simp at e5;have hoff:=st.off;have hb:=st.inv.a3;have hth:=hb.there;refine⟨_,qQr rfl (b:=xb+1+1) (off:=0) (cells:=qZ0 (b.copy 0)) (by simp[Act.eval,e5]) (by simp[Act.eval,e11]) (by have h3:(qZ0 (b.copy 0)).size=3:=rfl;rw[h3];simpa[hoff]using hth) qZv (by simp[qZ0,Value.oneCell']),?_⟩
    refine⟨st.inv.ext.setCells hx2 _ _,st.inv.chg.setCells (.inr rfl) _ _,?_,?_⟩
    ·have:=st.inv.a2.chg (qQq (b:=xb+1+1) (qZ0 (b.copy 0)).toList 0) (by omega)
     simpa using this
    ·rw[if_pos (by simp)];exact hb.cells_all (by rw[hoff];rfl)
  case fin =>
   intro γ L v wz hall hG hφ;have hz2:=hG.a2;have hz3:=hG.a3;rw[if_pos (hall 4 (by decide))]at hz2;rw[if_pos (hall 5 (by decide))]at hz3;have hEz:=hG.ext;clear hφ hall hG
   change Exit.then _ _ _ (qQM _ v _ 6) wz
   simp only[qQM,qQH,Act.put];simp only[List.getElem?_toArray,List.getElem?_cons_zero,List.getElem?_cons_succ,Option.bind_some,List.setIfInBounds_toArray,List.set_cons_zero,List.set_cons_succ];have l2:(loadVar 87 ⟨xb+1,0,none⟩).run prog wz=.ok (.agg (qZ0 (b.copy 1))) wz:=run_loadVar_mid (P:=prog) wz (xb+1) 0 87 (qZ0 (b.copy 1)).toList _ hz2.range underlying87 rfl qZv;have l3:(loadVar 87 ⟨xb+1+1,0,none⟩).run prog wz=.ok (.agg (qZ0 (b.copy 0))) wz:=run_loadVar_mid (P:=prog) wz (xb+1+1) 0 87 (qZ0 (b.copy 0)).toList _ hz3.range underlying87 rfl qZv;have HL:=Hh (And.intro l2 l3);clear l2 l3 hz2 hz3;go_wp2_with fail
   refine bodyPost_ret (v:=.tuple #[.agg (qZ0 (b.copy 1)),.agg (qZ0 (b.copy 0))]) (qQs (results62) _ rfl rfl HL.out.1 HL.out.2) rfl ?_;exact⟨rfl,hEz⟩
open Go.RowKit Go.Sort
theorem qQ0{P:Program}{a:Act}{o:Oper}{C:World→Prop}{K:Act→Prop}{ty:TypeId}{x:Operand}(ho:o.op=.load ty x){b off:Nat}(hx:a.eval x=.pointer (some ⟨b,off,none⟩)){cs:Array Value}{d:TypeDesc}(hc:∀w,C w→w.rangeAt b off cs.toList)(hu:P.underlying ty=some d)(hd:d.isRow=true)(hi:(P.info? ty).map (·.size)=some cs.toList.length)
 (hk:K (a.put o.dst (.agg cs))):o.quiet P a C K :=
 ⟨_,fun w hw=>by unfold Oper.quietAt;rw[qQi ho hx (hc w hw) hu hd hi];exact⟨rfl,rfl⟩,hk⟩
theorem qJm:(prog.info? 89).map (·.size)=some 13:=by kernel_rfl
theorem ofblob_any(w:World)(X:Array Value)(W:Wd)(V:WdV)(P:Pm)(n:Nat)(b:Bl)(dv:Value)(kd:Int)(p:Nat)(hp:p<2)(hX:qQZ w (.agg X) P)(hX37:X.size=37)(hi:PInv n P)(hW:WdIn w W V)(hO:W.Ok)(hb:BlOk n b)(hd:w.ownsRow 0 3 1 dv b.disks.length (b.disks.map (Value.int .i64))) :
 Calls prog 30 #[.agg X,.agg (qQo W V),.agg (blCells b dv),.int .i64 kd,.int .i64 (p:Int)] w fun e w'=>e=.returned (.bool (qZR W P b kd p))∧Ext w w':=by
 have hdr:=qZy hb.rises;have hdl:=qZl hb.rises;have HGO:=Hh (fun(w2:World) (hE:Ext w w2)=>r17good_any w2 W V (hW.ext hE) hO b dv (qZd hd hE) hdr hdl);have HCO:=Hh (fun(w2:World)=>r17copy_any w2 b dv p hp);have HSO:=Hh (fun(w2:World) (hE:Ext w w2)=>qJv w2 W V (hW.ext hE) hO (b.copy (1 - p)) (qZ6 hb _));have HLO:=Hh (fun(w2:World) (hE:Ext w w2)=>qXY w2 V.lv W.lostV (hW.lv.ext hE) hO.lv (b.copy p).vol (qZ6 hb p));have HDI:=Hh (fun(w2:World) (hE:Ext w w2) gv (hg:Sl w2 gv ((qQ5 W b).map (Value.int .i64)))=>rdisks_any w2 V.d gv W.disks (qQ5 W b) (hW.d.ext hE) hg (by have:=hO.d;omega) (Nat.le_trans (List.length_filter_le _ _) (by omega)) b.size W.copies);have HVO:=Hh (fun(w2:World) (hE:Ext w w2)=>rvolume_any w2 (.agg X) V.v P n W.vols (hX.ext hE) hi (hW.v.ext hE) hO.v (p:Int) (qQy b.size) (-1));have HWT:=Hh (fun(w2:World)=>rweight_any w2 b.size hb.size.1 hb.size.2);have hgl:(qQ5 W b).length≤6:=Nat.le_trans (List.length_filter_le _ _) hdl;obtain⟨dA,dc,rfl⟩:=qQa hd;clear hW hX hi hb hO hd hdr;have HI37:Hid ((prog.info? 35).map (·.size)=some X.toList.length):=Hh (by rw[Array.length_toList,hX37];exact qQg);have HI9:Hid ((prog.info? 40).map (·.size)=some (qQo W V).toList.length):=Hh qZZ;have HI13:=Hh qJm;have hA:=((At.new w 35 X).alloc (.cells (qQo W V) 40)).alloc (.cells (blCells b (.slice dA b.disks.length dc)) 89);have hB:=(At.new (w.alloc (.cells X 35)) 40 (qQo W V)).alloc (.cells (blCells b (.slice dA b.disks.length dc)) 89);have hC:=At.new ((w.alloc (.cells X 35)).alloc (.cells (qQo W V) 40)) 89 (blCells b (.slice dA b.disks.length dc));have hE:=(((Er w).alloc (.cells X 35)).alloc (.cells (qQo W V) 40)).alloc (.cells (blCells b (.slice dA b.disks.length dc)) 89);have hs2:(w.alloc (.cells X 35)).heap.size=w.heap.size+1:=by simp
 have hs3:((w.alloc (.cells X 35)).alloc (.cells (qQo W V) 40)).heap.size=w.heap.size+1+1:=by simp
 rw[hs2]at hB;rw[hs3]at hC;clear hs2 hs3 hX37
 go_enter func30,ntmps30
 go_upto_region 1 with fail
 generalize ((w.alloc (.cells X 35)).alloc (.cells (qQo W V) 40)).alloc (.cells (blCells b (.slice dA b.disks.length dc)) 89)=W1 at hA hB hC hE⊢;generalize w.heap.size=xb at hA hB hC⊢;have HAB:=Hh (fun w2 (hx:Ext W1 w2)=>And.intro (hA.ext hx) (And.intro (hB.ext hx) (hC.ext hx)));have x12:=hC.cell 12;have x11:=hC.cell 11;simp at x12 x11;clear hA hB hC;have hrb:qZR W P b kd p=(if b.dead then decide (kd=5)&&decide (p=0)&&decide (b.pins=0)else if kd=1 then decide (p=0)&&decide (0<b.disks.length)&&decide (((qQ5 W b).length:Int)<W.copies)&&decide ((qQ5 W b).length<(qX6 (qQF W.disks b.size W.copies (qQ5 W b) W.disks.length) 12).length)else if kd=3 then !(b.copy p).there&&decide (0≤qQ1 P W.vols p (qQy b.size) (-1) W.vols.length)else if kd=9 then(b.copy p).there&&qZc W.lostV (b.copy p).vol&&(decide (0<(qQ5 W b).length)||qZk W (b.copy (1 - p)))else false):=rfl;obtain⟨dd,hdd⟩:∃x,x=b.dead:=⟨_,rfl⟩;rw[←hdd]at x12 hrb;clear hdd;cases dd
 ·rw[if_neg (by decide)]at hrb;have HRB:=Hh hrb;clear hrb
  go_upto_region 3 with fail
  clear x12 x11;obtain⟨a1,a2,a3⟩:=HAB.out W1 (Er W1);have HR1:=Hh a2.range;have HR2:=Hh a3.range;have HG1:=Hh (HGO.out W1 hE);clear a1 a2 a3
  go_wp2_with (first|(refine qQm rfl 40 _ rfl (xb+1) 0 rfl _ _ HR1.out underlying40 rfl HI9.out ?_)|(refine qQm rfl 89 _ rfl (xb+1+1) 0 rfl _ _ HR2.out underlying89 rfl HI13.out ?_))
  refine HG1.out.mono ?_;rintro e W2 ⟨gv,rfl,hg2,hE2⟩;obtain⟨gA,gc,rfl⟩:=qQa hg2;have hgs:=Sl.of_own hg2;have HR3:=Hh (HAB.out W2 hE2).2.2.range;clear HG1 HR1 HR2 hg2
  go_wp2_with (first|(refine qQm rfl 89 _ rfl (xb+1+1) 0 rfl _ _ HR3.out underlying89 rfl HI13.out ?_))
  refine(HCO.out W2).mono ?_
  rintro e W3 ⟨rfl,hE3⟩;unfold qZ0;obtain⟨c1,hc1⟩:∃x,x=b.copy p:=⟨_,rfl⟩;obtain⟨c2,hc2⟩:∃x,x=b.copy (1 - p):=⟨_,rfl⟩;rw[←hc1]at HLO HRB⊢;rw[←hc2]at HSO HRB⊢;clear HCO hc1 hc2 HR3;have hP:=(At.new W3 87 #[.bool c1.there,.int .i64 c1.vol,.int .i64 c1.at_]).alloc (.cells #[.bool c2.there,.int .i64 c2.vol,.int .i64 c2.at_] 87);have hQ:=At.new (W3.alloc (.cells #[.bool c1.there,.int .i64 c1.vol,.int .i64 c1.at_] 87)) 87 #[.bool c2.there,.int .i64 c2.vol,.int .i64 c2.at_];have hE4:=((Er W3).alloc (.cells #[.bool c1.there,.int .i64 c1.vol,.int .i64 c1.at_] 87)).alloc (.cells #[.bool c2.there,.int .i64 c2.vol,.int .i64 c2.at_] 87);have hs4:(W3.alloc (.cells #[.bool c1.there,.int .i64 c1.vol,.int .i64 c1.at_] 87)).heap.size=W3.heap.size+1:=by simp
  rw[hs4]at hQ;clear hs4
  go_upto_region 6 with fail
  generalize (W3.alloc (.cells #[.bool c1.there,.int .i64 c1.vol,.int .i64 c1.at_] 87)).alloc (.cells #[.bool c2.there,.int .i64 c2.vol,.int .i64 c2.at_] 87)=W4 at hP hQ hE4⊢;generalize W3.heap.size=yb at hP hQ⊢;have hE14:=(hE2.trans hE3).trans hE4;have hEw4:=hE.trans hE14;have hgs4:=hgs.ext (hE3.trans hE4);have HEW:=Hh hEw4;have HGS:=Hh hgs4;have HE14:=Hh hE14;have HPQ:=Hh (And.intro hP hQ);clear hE hE2 hE3 hE4 hgs hgs4 hP hQ HGO
  by_cases k1:kd=1
  ·have t1:(kd == 1)=true:=by rw[k1];rfl
   have hrb:=HRB.out;rw[if_pos k1]at hrb;clear k1;obtain⟨a1,a2,a3⟩:=HAB.out W4 hE14;have z0:W4.cell? ⟨xb+1,0,none⟩=some V.d:=a2.cell 0;have z5:W4.cell? ⟨xb+1,5,none⟩=some (.int .i64 W.copies):=a2.cell 5;have z2:=a3.cell 2;simp at z2;have HD4:=Hh (HDI.out W4 hEw4 _ HGS.out);generalize qX6 (qQF W.disks b.size W.copies (qQ5 W b) W.disks.length) 12=ml at hrb HD4;generalize qQ5 W b=g at hrb hgl HD4 HGS⊢;clear a1 a2 a3 hE14 hEw4;have HRC:=Hh hrb;clear hrb;go_wp2_with fail
   refine HD4.out.mono ?_;rintro e W5 ⟨mv,rfl,hm5,hE5⟩;obtain⟨mA,mc,rfl⟩:=qQa hm5;have hEw5:=HEW.out.trans hE5;obtain⟨a1,a2,a3⟩:=HAB.out W5 (HE14.out.trans hE5);have y5:W5.cell? ⟨xb+1,5,none⟩=some (.int .i64 W.copies):=a2.cell 5;have y4:=a3.cell 4;simp at y4;clear HD4 hm5 hE5 a1 a2 a3 z0 z5 z2
   by_cases hp0:p=0
   ·subst hp0
    by_cases hd0:0<b.disks.length
    ·have t2:decide (0<b.disks.length)=true:=by simpa using hd0
     by_cases hgc:(g.length:Int)<W.copies
     ·have t3:decide ((g.length:Int)<W.copies)=true:=by simpa using hgc
      have HR:Hid (qZR W P b kd 0=decide (g.length<ml.length)):=Hh (by rw[HRC.out];simp[hd0,hgc]);go_wp2_with fail
      go_ret
      exact⟨by rw[HR.out];(first|rfl|simp),hEw5⟩
     ·have t3:decide ((g.length:Int)<W.copies)=false:=by simpa using hgc
      have HR:Hid (qZR W P b kd 0=false):=Hh (by rw[HRC.out];simp[hd0,hgc]);go_wp2_with fail
      go_ret
      exact⟨by rw[HR.out];(first|rfl|simp),hEw5⟩
    ·have t2:decide (0<b.disks.length)=false:=by simpa using hd0
     have HR:Hid (qZR W P b kd 0=false):=Hh (by rw[HRC.out];simp[hd0]);go_wp2_with fail
     go_ret
     exact⟨by rw[HR.out];(first|rfl|simp),hEw5⟩
   ·have HR:Hid (qZR W P b kd p=false):=Hh (by rw[HRC.out];simp[hp0]);go_wp2_with fail
    go_ret
    exact⟨by rw[HR.out];(first|rfl|simp),hEw5⟩
  ·have t1:(kd == 1)=false:=by simpa using k1
   by_cases k3:kd=3
   ·have t3:(kd == 3)=true:=by rw[k3];rfl
    have hrb:=HRB.out;rw[if_neg k1,if_pos k3]at hrb;clear k1 k3;have q0:=HPQ.out.1.cell 0;simp at q0;obtain⟨ct,cvv,cat⟩:=c1;simp only[]at hrb q0;cases ct
    ·obtain⟨a1,a2,a3⟩:=HAB.out W4 hE14;have z1:W4.cell? ⟨xb+1,1,none⟩=some V.v:=a2.cell 1;have z2:=a3.cell 2;simp at z2;have rg:∀ {p:Addr} {v:Value},W4.cell? p=some v→∀d os,(grow (redrawn W4 d) os).cell? p=some v:=fun h d os=>(Ext.cell (qQn W4 d os) (qQv h)).trans h
     have g0:=rg q0;have g1:=rg z1;have g2:=rg z2;have c6:Hid (∀W,(∃p:Regrown,W=grow (redrawn W4 p.d) p.os)→W.rangeAt xb 0 X.toList):=Hh (by rintro W ⟨p,rfl⟩;exact(a1.ext (qQn W4 _ _)).range);have e1:Hid (∀dd os,Calls prog 65 #[.int .i64 b.size] (grow (redrawn W4 dd) os) fun e w''=>e=.returned (.int .i64 (qQy b.size))∧∃p:Regrown,w''=grow (redrawn W4 p.d) p.os):=Hh fun dd os=>Calls.ext_of (HWT.out _)
     have e2:Hid (∀dd os,Calls prog 64 #[.agg X,V.v,.int .i64 (p:Int),.int .i64 (qQy b.size),.int .i64 (-1)] (grow (redrawn W4 dd) os) fun e w''=>e=.returned (.int .i64 (qQ1 P W.vols (p:Int) (qQy b.size) (-1) W.vols.length))∧∃p:Regrown,w''=grow (redrawn W4 p.d) p.os):=Hh fun dd os=>Calls.ext_of (HVO.out _ (HEW.out.trans (qQn W4 dd os)))
     generalize qQ1 P W.vols (p:Int) (qQy b.size) (-1) W.vols.length=vo at e2 hrb;generalize qQy b.size=wt at e1 e2;have HR:Hid (qZR W P b kd p=decide (0≤vo)):=Hh (by rw[hrb];simp);clear rg a1 a2 a3 z1 z2 q0 hrb hE14 hEw4
     go_upto_region 10 with fail
     refine qQc (by kernel_rfl) (by kernel_rfl) ?_
     repeat (first|go_big_quiet_skip|(go_big_quiet_want;first|(refine qQ0 rfl rfl c6.out underlying35 rfl HI37.out ?_;go_big_quiet_on;simp only[Act.put,List.setIfInBounds_toArray,List.set_cons_succ,List.set_cons_zero])|(go_big_quiet_op;first|go_big_quiet_on|go_big_quiet_call (first|with_reducible exact e1.out _ _|with_reducible exact e2.out _ _))))
     refine wpQuiet_nil ?_;intro W8 hE8;go_wp2_with fail
     go_ret
     exact⟨by rw[HR.out];(first|rfl|simp),HEW.out.trans hE8⟩
    ·have rg:∀ {p:Addr} {v:Value},W4.cell? p=some v→∀d os,(grow (redrawn W4 d) os).cell? p=some v:=fun h d os=>(Ext.cell (qQn W4 d os) (qQv h)).trans h
     have g0:=rg q0;have HR:Hid (qZR W P b kd p=false):=Hh (by rw[hrb];simp);clear rg q0 hrb hE14 hEw4
     go_upto_region 10 with fail
     refine qQc (by kernel_rfl) (by kernel_rfl) ?_
     repeat (go_big_quiet_step (fail))
     refine wpQuiet_nil ?_;intro W8 hE8;go_wp2_with fail
     go_ret
     exact⟨by rw[HR.out];(first|rfl|simp),HEW.out.trans hE8⟩
   ·have t3:(kd == 3)=false:=by simpa using k3
    by_cases k9:kd=9
    ·have t9:(kd == 9)=true:=by rw[k9];rfl
     have hrb:=HRB.out;rw[if_neg k1,if_neg k3,if_pos k9]at hrb;clear k1 k3 k9;have q0:=HPQ.out.1.cell 0;have q1:=HPQ.out.1.cell 1;simp at q0 q1;have HL4:=Hh (HLO.out W4 hEw4);obtain⟨ct,cvv,cat⟩:=c1;simp only[]at hrb q0 q1 HL4;generalize qZc W.lostV cvv=lo at hrb HL4;generalize (qQ5 W b).length=gn at hrb hgl⊢;cases ct
     ·have HR:Hid (qZR W P b kd p=false):=Hh (by rw[hrb];simp);clear hrb;go_wp2_with fail
      go_ret
      exact⟨by rw[HR.out];(first|rfl|simp),hEw4⟩
     ·obtain⟨a1,a2,a3⟩:=HAB.out W4 hE14;have z4:W4.cell? ⟨xb+1,4,none⟩=some V.lv:=a2.cell 4;clear a1 a2 a3;have HRC:=Hh hrb;clear hrb;go_wp2_with fail
      refine HL4.out.mono ?_;rintro e W5 ⟨rfl,hE5⟩;have hEw5:=HEW.out.trans hE5;clear z4 q0 q1 HL4;cases lo
      ·have HR:Hid (qZR W P b kd p=false):=Hh (by rw[HRC.out];simp);clear HRC;go_wp2_with fail
       go_ret
       exact⟨by rw[HR.out];(first|rfl|simp),hEw5⟩
      ·by_cases hg0:0<gn
       ·have t5:decide (0<gn)=true:=by simpa using hg0
        have HR:Hid (qZR W P b kd p=true):=Hh (by rw[HRC.out];simp[hg0]);clear HRC;go_wp2_with fail
        go_ret
        exact⟨by rw[HR.out];(first|rfl|simp),hEw5⟩
       ·have t5:¬ 0<gn:=hg0;obtain rfl:gn=0:=by omega
        have HS5:=Hh (HSO.out W5 hEw5);generalize qZk W c2=s2 at HS5 HRC;have HR:Hid (qZR W P b kd p=s2):=Hh (by rw[HRC.out];simp);obtain⟨a1,a2,a3⟩:=HAB.out W5 (HE14.out.trans hE5);have HR1:=Hh a2.range;have hq5:=HPQ.out.2.ext hE5;have w0:=hq5.cell 0;have w1:=hq5.cell 1;have w2:=hq5.cell 2;simp at w0 w1 w2;clear HRC a1 a2 a3 hq5 t5 hgl
        go_wp2_with (first|(refine qQm rfl 40 _ rfl (xb+1) 0 rfl _ _ HR1.out underlying40 rfl HI9.out ?_))
        refine HS5.out.mono ?_;rintro e W6 ⟨rfl,hE6⟩;have hEw6:=hEw5.trans hE6;go_wp2_with fail
        go_ret
        exact⟨by rw[HR.out];(first|rfl|simp),hEw6⟩
    ·have t9:(kd == 9)=false:=by simpa using k9
     have HR:Hid (qZR W P b kd p=false):=Hh (by rw[HRB.out,if_neg k1,if_neg k3,if_neg k9]);clear k1 k3 k9;go_wp2_with fail
     go_ret
     exact⟨by rw[HR.out];(first|rfl|simp),hEw4⟩
 ·rw[if_pos rfl]at hrb
  by_cases k5:kd=5
  ·have t5:(kd == 5)=true:=by rw[k5];rfl
   by_cases hp0:p=0
   ·subst hp0;have HR:Hid (qZR W P b kd 0=(b.pins == 0)):=Hh (by rw[hrb];simp[k5];rfl);clear hrb k5;go_wp2_with fail
    go_ret
    exact⟨by rw[HR.out];(first|rfl|simp),hE⟩
   ·have HR:Hid (qZR W P b kd p=false):=Hh (by rw[hrb];simp[hp0]);clear hrb k5;go_wp2_with fail
    go_ret
    exact⟨by rw[HR.out];(first|rfl|simp),hE⟩
  ·have t5:(kd == 5)=false:=by simpa using k5
   have HR:Hid (qZR W P b kd p=false):=Hh (by rw[hrb];simp[k5]);clear hrb k5;go_wp2_with fail
   go_ret
   exact⟨by rw[HR.out];(first|rfl|simp),hE⟩
open Go.RowKit Go.Sort
theorem getD_some_vl{P:Pm}{n:Nat}(hi:PInv n P){k:Nat}(hk:k<12):P.vols[k]? = some (P.vol k):=by
 have h:k<P.vols.length:=by rw[hi.vlen];exact hk
 unfold Pm.vol;rw[List.getD_eq_getElem?_getD,List.getElem?_eq_getElem h];rfl
theorem items_at{w:World}{v:Value}{l:List Int}(h:Sl w v (l.map (Value.int .i64))){k:Nat}(hk:k<l.length):∃b o c,v=.slice (some ⟨b,o,none⟩) l.length c∧w.cell? ⟨b,o+k,none⟩=some (.int .i64 (l.getD k 0)):=by
 obtain⟨A,c,hv,hc⟩:=h;obtain⟨b,o,rfl,hc2⟩:=hc (fun e=>by have:=List.map_eq_nil_iff.1 e;subst this;simp at hk);refine⟨b,o,c,by rw[hv,List.length_map],hc2 k _ ?_⟩
 rw[List.getElem?_map,List.getD_eq_getElem?_getD,List.getElem?_eq_getElem hk];rfl
theorem ofvol_any(w:World)(X:Array Value)(W:Wd)(V:WdV)(P:Pm)(n k:Nat)(kd:Int)(hX:qQZ w (.agg X) P)(hX37:X.size=37)(hi:PInv n P)(hn:n≤1000)(hW:WdIn w W V)(hO:W.Ok)(hk:k<W.vols.length) :
 Calls prog 31 #[.agg X,.agg (qQo W V),.int .i64 (k:Int),.int .i64 kd] w fun e w'=>e=.returned (.bool (qZ9 W P kd k))∧Ext w w':=by
 have hk12:k<12:=by have:=hO.v;omega
 have HLV:=Hh (fun(w2:World) (hE:Ext w w2)=>rlive_any w2 (.agg X) P n (hX.ext hE) hi (by omega) k hk12);obtain⟨Vd,Vv,Vi,Vld,Vlv⟩:=V;obtain⟨Vs,vc,hv',_⟩:=hW.v;simp only[]at hv';rw[List.length_map]at hv';subst hv';have hS:=hW.v;have hI:=hW.i;simp only[]at hS hI;obtain⟨lb,lo,rfl⟩:=qXJ hS hk;obtain⟨s0,s1⟩:=qQP hS hk;have hvx:=getD_some_vl hi hk12
 obtain⟨x0,x1,x2⟩:X[1+k * 3]? = some (.bool (P.vol k).closed)∧X[1+k * 3+1]? = some (.bool (P.vol k).erase)∧X[1+k * 3+2]? = some (.int .i64 (P.vol k).gen):=by
  obtain⟨lv,DV,e,_,_⟩:=hX;rw[Value.agg.injEq]at e;rw[e];exact qXs hvx
 have hrb:qZ9 W P kd k=(if kd=2 then(qQk W.vols k).up&&(P.vol k).erase else if kd=6 then(qQk W.vols k).up && !(P.vol k).closed && !(P.vol k).erase&&decide ((qQk W.vols k).free<W.reserve)else if kd=8 then(qQk W.vols k).up&&(P.vol k).closed && !(P.vol k).erase&&decide ((P.onVol k).length=0)&&decide (k<W.items.length)&&decide (0<W.items.getD k 0)else false):=rfl;obtain⟨u,hu⟩:∃u,u=(qQk W.vols k).up:=⟨_,rfl⟩;obtain⟨fr,hfr⟩:∃u,u=(qQk W.vols k).free:=⟨_,rfl⟩;obtain⟨er,her⟩:∃u,u=(P.vol k).erase:=⟨_,rfl⟩;obtain⟨cl,hcl⟩:∃u,u=(P.vol k).closed:=⟨_,rfl⟩;obtain⟨gn,hgn⟩:∃u,u=(P.vol k).gen:=⟨_,rfl⟩;rw[←hu]at s0 hrb;rw[←hfr]at s1 hrb;rw[←her]at x1 hrb;rw[←hcl]at x0 hrb;rw[←hgn]at x2;clear hu hfr her hcl hgn hvx hX hi hn hW hS;have HI37:Hid ((prog.info? 35).map (·.size)=some X.toList.length):=Hh (by rw[Array.length_toList,hX37];exact qQg);have HIT:=Hh (And.intro hI hO.i);have hA:=(At.new w 35 X).alloc (.cells (qQo W ⟨Vd,.slice (some ⟨lb,lo,none⟩) W.vols.length vc,Vi,Vld,Vlv⟩) 40);have hB:=At.new (w.alloc (.cells X 35)) 40 (qQo W ⟨Vd,.slice (some ⟨lb,lo,none⟩) W.vols.length vc,Vi,Vld,Vlv⟩);have hE:=((Er w).alloc (.cells X 35)).alloc (.cells (qQo W ⟨Vd,.slice (some ⟨lb,lo,none⟩) W.vols.length vc,Vi,Vld,Vlv⟩) 40);have hs2:(w.alloc (.cells X 35)).heap.size=w.heap.size+1:=by simp
 rw[hs2]at hB;clear hs2 hX37 hI hO
 go_enter func31,ntmps31
 go_upto_region 1 with fail
 generalize (w.alloc (.cells X 35)).alloc (.cells (qQo W ⟨Vd,.slice (some ⟨lb,lo,none⟩) W.vols.length vc,Vi,Vld,Vlv⟩) 40)=W1 at hA hB hE⊢;generalize w.heap.size=xb at hA hB⊢;have s0':=(Ext.cell hE (qQv s0)).trans s0;have s1':=(Ext.cell hE (qQv s1)).trans s1;have b1:W1.cell? ⟨xb+1,1,none⟩=some (.slice (some ⟨lb,lo,none⟩) W.vols.length vc):=hB.cell 1;clear s0 s1;have hZ:=At.new W1 120 #[.bool u,.int .i64 fr];have hEz:=(Er W1).alloc (.cells #[.bool u,.int .i64 fr] 120)
 go_upto_region 2 with fail
 clear s0' s1' b1;generalize W1.alloc (.cells #[.bool u,.int .i64 fr] 120)=W2 at hZ hEz⊢;generalize W1.heap.size=zb at hZ⊢;have hA2:=hA.ext hEz;have hB2:=hB.ext hEz;have hE2:=hE.trans hEz;clear hA hB hE hEz;have a0:W2.cell? ⟨xb,1+k * 3,none⟩=some (.bool cl):=(hA2.cell _).trans x0;have a1:W2.cell? ⟨xb,1+k * 3+1,none⟩=some (.bool er):=(hA2.cell _).trans x1;have a2:W2.cell? ⟨xb,1+k * 3+2,none⟩=some (.int .i64 gn):=(hA2.cell _).trans x2;have hY:=At.new W2 32 #[.bool cl,.bool er,.int .i64 gn];have hEy:=(Er W2).alloc (.cells #[.bool cl,.bool er,.int .i64 gn] 32)
 go_upto_region 3 with fail
 clear a0 a1 a2 x0 x1 x2;generalize W2.alloc (.cells #[.bool cl,.bool er,.int .i64 gn] 32)=W3 at hY hEy⊢;generalize W2.heap.size=yb at hY⊢;have hA3:=Hh ((hA2.ext hEy).range);have hB3:=hB2.ext hEy;have hZ3:=hZ.ext hEy;have hE3:=hE2.trans hEy;clear hA2 hB2 hZ hE2 hEy;have HL3:=Hh (HLV.out W3 hE3);generalize (P.onVol k).length=on at hrb HL3;generalize qQE (P.onVol k)=pp at HL3
 go_wp2_with (first|(refine qQm rfl 35 _ rfl xb 0 rfl _ _ hA3.out underlying35 rfl HI37.out ?_))
 refine HL3.out.mono ?_;rintro e W4 ⟨rfl,hE4⟩;have HEW:=Hh (hE3.trans hE4);have hB4:=hB3.ext hE4;have hZ4:=hZ3.ext hE4;have hY4:=hY.ext hE4;clear HL3 HLV hA3 hB3 hZ3 hY hE3 hE4;have y0:=hY4.cell 0;have y1:=hY4.cell 1;have z0:=hZ4.cell 0;have z1:=hZ4.cell 1;have b8:=hB4.cell 8;have b2:=hB4.cell 2;simp[qQo]at y0 y1 z0 z1 b8 b2;have HRG:=Hh (fun(p:Addr) (v:Value) (h:w.cell? p=some v)=>(Ext.cell HEW.out (qQv h)).trans h);clear hB4 hZ4 hY4
 by_cases k2:kd=2
 ·have t2:(kd == 2)=true:=by rw[k2];rfl
  rw[if_pos k2]at hrb;clear k2;cases u
  ·have HR:Hid (qZ9 W P kd k=false):=Hh (by rw[hrb];simp);clear hrb;go_wp2_with fail
   go_ret
   exact⟨by rw[HR.out];(first|rfl|simp),HEW.out⟩
  ·have HR:Hid (qZ9 W P kd k=er):=Hh (by rw[hrb];simp);clear hrb;go_wp2_with fail
   go_ret
   exact⟨by rw[HR.out];(first|rfl|simp),HEW.out⟩
 ·have t2:(kd == 2)=false:=by simpa using k2
  rw[if_neg k2]at hrb;clear k2
  by_cases k6:kd=6
  ·have t6:(kd == 6)=true:=by rw[k6];rfl
   rw[if_pos k6]at hrb;clear k6;cases u
   ·have HR:Hid (qZ9 W P kd k=false):=Hh (by rw[hrb];simp);clear hrb;go_wp2_with fail
    go_ret
    exact⟨by rw[HR.out];(first|rfl|simp),HEW.out⟩
   ·cases cl
    ·cases er
     ·have HR:Hid (qZ9 W P kd k=decide (fr<W.reserve)):=Hh (by rw[hrb];simp);clear hrb;go_wp2_with fail
      go_ret
      exact⟨by rw[HR.out];(first|rfl|simp),HEW.out⟩
     ·have HR:Hid (qZ9 W P kd k=false):=Hh (by rw[hrb];simp);clear hrb;go_wp2_with fail
      go_ret
      exact⟨by rw[HR.out];(first|rfl|simp),HEW.out⟩
    ·have HR:Hid (qZ9 W P kd k=false):=Hh (by rw[hrb];simp);clear hrb;go_wp2_with fail
     go_ret
     exact⟨by rw[HR.out];(first|rfl|simp),HEW.out⟩
  ·have t6:(kd == 6)=false:=by simpa using k6
   rw[if_neg k6]at hrb;clear k6
   by_cases k8:kd=8
   ·have t8:(kd == 8)=true:=by rw[k8];rfl
    rw[if_pos k8]at hrb;clear k8;obtain⟨iA,ic,hiv,_⟩:=HIT.out.1;rw[List.length_map]at hiv;cases u
    ·have HR:Hid (qZ9 W P kd k=false):=Hh (by rw[hrb];simp);clear hrb;go_wp2_with fail
     go_ret
     exact⟨by rw[HR.out];(first|rfl|simp),HEW.out⟩
    ·cases cl
     ·have HR:Hid (qZ9 W P kd k=false):=Hh (by rw[hrb];simp);clear hrb;go_wp2_with fail
      go_ret
      exact⟨by rw[HR.out];(first|rfl|simp),HEW.out⟩
     ·cases er
      ·by_cases hon:on=0
       ·subst hon
        by_cases hkl:k<W.items.length
        ·have t9:decide ((k:Int)<(W.items.length:Int))=true:=by simpa using hkl
         obtain⟨ib,io,ic',rfl,hic⟩:=items_at HIT.out.1 hkl;have hz:=HRG.out _ _ hic;generalize W.items.getD k 0=it at hz hrb;clear hic hiv HIT HRG;have HR:Hid (qZ9 W P kd k=decide (0<it)):=Hh (by rw[hrb];simp[hkl]);clear hrb;go_wp2_with fail
         go_ret
         exact⟨by rw[HR.out];(first|rfl|simp),HEW.out⟩
        ·have t9:decide ((k:Int)<(W.items.length:Int))=false:=by simp;omega
         subst hiv;have HR:Hid (qZ9 W P kd k=false):=Hh (by rw[hrb];simp[hkl]);clear hrb;go_wp2_with fail
         go_ret
         exact⟨by rw[HR.out];(first|rfl|simp),HEW.out⟩
       ·have HR:Hid (qZ9 W P kd k=false):=Hh (by rw[hrb];simp[hon]);clear hrb;go_wp2_with fail
        go_ret
        exact⟨by rw[HR.out];(first|rfl|simp),HEW.out⟩
      ·have HR:Hid (qZ9 W P kd k=false):=Hh (by rw[hrb];simp);clear hrb;go_wp2_with fail
       go_ret
       exact⟨by rw[HR.out];(first|rfl|simp),HEW.out⟩
   ·have t8:(kd == 8)=false:=by simpa using k8
    rw[if_neg k8]at hrb;have HR:Hid (qZ9 W P kd k=false):=Hh hrb;clear hrb k8;go_wp2_with fail
    go_ret
    exact⟨by rw[HR.out];(first|rfl|simp),HEW.out⟩
end Go.Proofs.YtiojjokfeknhcaaGreat
